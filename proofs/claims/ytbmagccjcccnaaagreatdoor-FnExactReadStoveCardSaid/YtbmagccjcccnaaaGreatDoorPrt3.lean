/- Logs are read from their texts: the program and the reference agree. -/
import Derived.Test.YtbmagccjcccnaaaGreatDoorPrt2
namespace Go.Proofs.YtbmagccjcccnaaaGreatDoor
open Go.Ab
/-! ### the program's reader of words -/
abbrev LOG : ByteArray := ByteArray.mk #[108, 111, 103]
def logL : List UInt8 := [108, 111, 103]
theorem let_step {α β : Type} {a b : α} (h : a = b) {f : α → β} {y : β} (hf : f b = y) : (let x := a; f x) = y := by subst h; exact hf
noncomputable def num (W : List ByteArray) (m : Nat) : Nat := if m < W.length then (rdB (W.getD m .empty)).getD 0 else 0
noncomputable def nb (W : List ByteArray) (m : Nat) : Bool := !(decide (m < W.length) && (rdB (W.getD m .empty)).isSome)
noncomputable def bd (W : List ByteArray) : Nat → Bool
  | 0 => !((W.getD 0 .empty).toList == LOG.toList)
  | m + 1 => bd W m || nb W (m + 1)
theorem bd_false {W : List ByteArray} : ∀ {m : Nat}, bd W m = false → (W.getD 0 .empty).toList = LOG.toList ∧ ∀ j, 1 ≤ j → j ≤ m → j < W.length ∧ (rdB (W.getD j .empty)).isSome = true
  | 0, h => by
    unfold bd at h
    refine ⟨by simpa using h, fun j h1 h2 => by omega⟩
  | m + 1, h => by
    unfold bd at h
    rw [Bool.or_eq_false_iff] at h
    obtain ⟨g1, g2⟩ := bd_false h.1
    refine ⟨g1, fun j h1 h2 => ?_⟩
    by_cases hj : j ≤ m
    · exact g2 j h1 hj
    · obtain rfl : j = m + 1 := by omega
      have := h.2
      unfold nb at this
      rw [Bool.not_eq_false', Bool.and_eq_true, decide_eq_true_eq] at this
      exact this
theorem bd_of {W : List ByteArray} (h0 : (W.getD 0 .empty).toList = LOG.toList) : ∀ {m : Nat}, (∀ j, 1 ≤ j → j ≤ m → j < W.length ∧ (rdB (W.getD j .empty)).isSome = true) → bd W m = false
  | 0, _ => by unfold bd; rw [h0]; simp
  | m + 1, h => by
    unfold bd nb
    rw [bd_of h0 fun j h1 h2 => h j h1 (by omega), decide_eq_true (h (m + 1) (by omega) (Nat.le_refl _)).1, (h (m + 1) (by omega) (Nat.le_refl _)).2]
    rfl
theorem num_lt (W : List ByteArray) (m : Nat) : num W m < 4294967296 := by
  unfold num
  split
  · cases h : rdB (W.getD m .empty) with
    | none => show 0 < _; omega
    | some v => exact (numL_rdL h).1
  · omega
theorem next_some {off len : Nat} {bad : Bool} {W : List ByteArray} (h1 : 0 < len) (h2 : off + len = W.length) : r69 off len bad W = (0, W.getD off .empty, off + 1, len - 1, bad) := by
  unfold r69 w69
  rw [show (((len : Nat) : Int) == 0) = false from beq_eq_false_iff_ne.2 (by omega), blt_t h1, blt_t (show off + 0 < W.length by omega), Nat.ble_eq_true_of_le (show 1 ≤ len from h1), Nat.ble_eq_true_of_le (Nat.le_refl len)]
  rfl
theorem next_none {off : Nat} {bad : Bool} {W : List ByteArray} : r69 off 0 bad W = (0, ByteArray.mk #[], off, 0, true) := rfl
section
variable {W : List ByteArray} {L : Nat} (hL : W.length = L)
include hL
theorem is_eq (h1L : 1 ≤ L) : r41 LOG 0 L false W = (0, min 1 L, L - min 1 L, bd W 0) := by
  unfold r41 w41 bd
  rw [next_some (by omega) (by omega), show min 1 L = 1 by omega]
  show cond (!((W.getD 0 .empty).toList == LOG.toList)) _ _ = _
  cases ((W.getD 0 .empty).toList == LOG.toList) <;> rfl
theorem number_eq (m : Nat) : r42 (min (m + 1) L) (L - min (m + 1) L) (bd W m) W = (0, num W (m + 1), min (m + 2) L, L - min (m + 2) L, bd W (m + 1)) := by
  unfold r42 w42
  by_cases h : m + 1 < L
  · rw [show min (m + 1) L = m + 1 by omega, show min (m + 2) L = m + 2 by omega, next_some (by omega) (by omega), bd]
    simp only [read_impl]
    unfold nb num
    rw [decide_eq_true (show m + 1 < W.length by omega), if_pos (show m + 1 < W.length by omega)]
    unfold rdB
    rw [show L - (m + 1) - 1 = L - (m + 2) by omega]
    cases bd W m with
    | true => rfl
    | false =>
      cases rdL (W.getD (m + 1) .empty).data.toList with
      | none => rfl
      | some v => rfl
  · rw [show min (m + 1) L = L by omega, show min (m + 2) L = L by omega, Nat.sub_self, next_none, bd]
    simp only [read_impl]
    unfold nb num
    rw [decide_eq_false (show ¬ m + 1 < W.length by omega), if_neg (show ¬ m + 1 < W.length by omega)]
    cases bd W m <;> rfl
end
/-- .. writes a log -/
theorem wood_text {a0 a1 a2 a3 a4 a5 a6 a7 a8 a9 a10 a11 a12 a13 a14 a15 a16 a17 : Nat} (ha0 : a0 < 4294967296) (ha1 : a1 < 4294967296) (ha2 : a2 < 4294967296) (ha3 : a3 < 4294967296) (ha4 : a4 < 4294967296) (ha5 : a5 < 4294967296) (ha6 : a6 < 4294967296) (ha7 : a7 < 4294967296) (ha8 : a8 < 4294967296) (ha9 : a9 < 4294967296) (ha10 : a10 < 4294967296) (ha11 : a11 < 4294967296) (ha12 : a12 < 4294967296) (ha13 : a13 < 4294967296) (ha14 : a14 < 4294967296) (ha15 : a15 < 4294967296) (ha16 : a16 < 4294967296) (ha17 : a17 < 4294967296) : r44 a0 a1 a2 a3 a4 a5 a6 a7 a8 a9 a10 a11 a12 a13 a14 a15 a16 a17 = (0, mkB (joinL 32 [logL, numL a0, numL a6, numL a12, numL a1, numL a7, numL a13, numL a2, numL a8, numL a14, numL a3, numL a9, numL a15, numL a4, numL a10, numL a16, numL a5, numL a11, numL a17])) := by
  have hj : joinOk (List.map mkB [logL, numL a0, numL a6, numL a12, numL a1, numL a7, numL a13, numL a2, numL a8, numL a14, numL a3, numL a9, numL a15, numL a4, numL a10, numL a16, numL a5, numL a11, numL a17]) ⟨#[32]⟩ = true := joinOk_eq (by simp) (by simp [numL_length, logL])
  have he := joinB_eq [logL, numL a0, numL a6, numL a12, numL a1, numL a7, numL a13, numL a2, numL a8, numL a14, numL a3, numL a9, numL a15, numL a4, numL a10, numL a16, numL a5, numL a11, numL a17] 32
  simp only [List.map_cons, List.map_nil] at hj he
  unfold r44 w44
  simp only [text_eq ha0, text_eq ha6, text_eq ha12, text_eq ha1, text_eq ha7, text_eq ha13, text_eq ha2, text_eq ha8, text_eq ha14, text_eq ha3, text_eq ha9, text_eq ha15, text_eq ha4, text_eq ha10, text_eq ha16, text_eq ha5, text_eq ha11, text_eq ha17]
  rw [show (ByteArray.mk #[108, 111, 103]) = mkB logL from rfl, hj, he]
  rfl
set_option maxRecDepth 100000 in
set_option maxHeartbeats 4000000 in
theorem impl_run (x : ByteArray) (hx : x.size ≤ 1048576) {W : List ByteArray} {L : Nat} (hW : splB 32 x = W) (hL : W.length = L) (h1L : 1 ≤ L) : r7 x = cond (!(cond (!(bd W 18)) ((((L - min 19 L : Nat) : Int)) == 0) false)) (0, 0, 0, 0, 0, 0, 0, 0, 0, 0, 0, 0, 0, 0, 0, 0, 0, 0, 0, 5) (cond (!(r14 (num W 1) (num W 4) (num W 7) (num W 10) (num W 13) (num W 16) (num W 2) (num W 5) (num W 8) (num W 11) (num W 14) (num W 17) (num W 3) (num W 6) (num W 9) (num W 12) (num W 15) (num W 18))) (0, 0, 0, 0, 0, 0, 0, 0, 0, 0, 0, 0, 0, 0, 0, 0, 0, 0, 0, 5) (cond (Nat.beq (r44 (num W 1) (num W 4) (num W 7) (num W 10) (num W 13) (num W 16) (num W 2) (num W 5) (num W 8) (num W 11) (num W 14) (num W 17) (num W 3) (num W 6) (num W 9) (num W 12) (num W 15) (num W 18)).1 0) (cond (!((r44 (num W 1) (num W 4) (num W 7) (num W 10) (num W 13) (num W 16) (num W 2) (num W 5) (num W 8) (num W 11) (num W 14) (num W 17) (num W 3) (num W 6) (num W 9) (num W 12) (num W 15) (num W 18)).2.toList == x.toList)) (0, 0, 0, 0, 0, 0, 0, 0, 0, 0, 0, 0, 0, 0, 0, 0, 0, 0, 0, 5) (0, num W 1, num W 4, num W 7, num W 10, num W 13, num W 16, num W 2, num W 5, num W 8, num W 11, num W 14, num W 17, num W 3, num W 6, num W 9, num W 12, num W 15, num W 18, 0)) (1, 0, 0, 0, 0, 0, 0, 0, 0, 0, 0, 0, 0, 0, 0, 0, 0, 0, 0, 0))) := by
  have h8 : r40 x = (0, L, W) := by unfold r40 w40; rw [blt_t (show x.size < 4294967281 by omega), hW, hL]; rfl
  have h9 : r41 (ByteArray.mk #[108, 111, 103]) 0 L false W = (0, min 1 L, L - min 1 L, bd W 0) := is_eq hL h1L
  have k1 : r42 (min 1 L) (L - min 1 L) (bd W 0) W = (0, num W 1, min 2 L, L - min 2 L, bd W 1) := number_eq hL 0
  have k2 : r42 (min 2 L) (L - min 2 L) (bd W 1) W = (0, num W 2, min 3 L, L - min 3 L, bd W 2) := number_eq hL 1
  have k3 : r42 (min 3 L) (L - min 3 L) (bd W 2) W = (0, num W 3, min 4 L, L - min 4 L, bd W 3) := number_eq hL 2
  have k4 : r42 (min 4 L) (L - min 4 L) (bd W 3) W = (0, num W 4, min 5 L, L - min 5 L, bd W 4) := number_eq hL 3
  have k5 : r42 (min 5 L) (L - min 5 L) (bd W 4) W = (0, num W 5, min 6 L, L - min 6 L, bd W 5) := number_eq hL 4
  have k6 : r42 (min 6 L) (L - min 6 L) (bd W 5) W = (0, num W 6, min 7 L, L - min 7 L, bd W 6) := number_eq hL 5
  have k7 : r42 (min 7 L) (L - min 7 L) (bd W 6) W = (0, num W 7, min 8 L, L - min 8 L, bd W 7) := number_eq hL 6
  have k8 : r42 (min 8 L) (L - min 8 L) (bd W 7) W = (0, num W 8, min 9 L, L - min 9 L, bd W 8) := number_eq hL 7
  have k9 : r42 (min 9 L) (L - min 9 L) (bd W 8) W = (0, num W 9, min 10 L, L - min 10 L, bd W 9) := number_eq hL 8
  have k10 : r42 (min 10 L) (L - min 10 L) (bd W 9) W = (0, num W 10, min 11 L, L - min 11 L, bd W 10) := number_eq hL 9
  have k11 : r42 (min 11 L) (L - min 11 L) (bd W 10) W = (0, num W 11, min 12 L, L - min 12 L, bd W 11) := number_eq hL 10
  have k12 : r42 (min 12 L) (L - min 12 L) (bd W 11) W = (0, num W 12, min 13 L, L - min 13 L, bd W 12) := number_eq hL 11
  have k13 : r42 (min 13 L) (L - min 13 L) (bd W 12) W = (0, num W 13, min 14 L, L - min 14 L, bd W 13) := number_eq hL 12
  have k14 : r42 (min 14 L) (L - min 14 L) (bd W 13) W = (0, num W 14, min 15 L, L - min 15 L, bd W 14) := number_eq hL 13
  have k15 : r42 (min 15 L) (L - min 15 L) (bd W 14) W = (0, num W 15, min 16 L, L - min 16 L, bd W 15) := number_eq hL 14
  have k16 : r42 (min 16 L) (L - min 16 L) (bd W 15) W = (0, num W 16, min 17 L, L - min 17 L, bd W 16) := number_eq hL 15
  have k17 : r42 (min 17 L) (L - min 17 L) (bd W 16) W = (0, num W 17, min 18 L, L - min 18 L, bd W 17) := number_eq hL 16
  have k18 : r42 (min 18 L) (L - min 18 L) (bd W 17) W = (0, num W 18, min 19 L, L - min 19 L, bd W 18) := number_eq hL 17
  unfold r7 w7
  extract_lets a0 a1 a2 a3 a4 a5 a6 a7 a8 a9 a10 a11 a12 a13 a14 a15 a16 a17 a18 dn vv tt
  have e0 : a0 = (0, min 1 L, L - min 1 L, bd W 0) := by simp only [a0, h8, h9]
  clear_value a0
  have e1 : a1 = (0, num W 1, min 2 L, L - min 2 L, bd W 1) := by simp only [a1, h8, e0, k1]
  clear_value a1
  have e2 : a2 = (0, num W 2, min 3 L, L - min 3 L, bd W 2) := by simp only [a2, h8, e1, k2]
  clear_value a2
  have e3 : a3 = (0, num W 3, min 4 L, L - min 4 L, bd W 3) := by simp only [a3, h8, e2, k3]
  clear_value a3
  have e4 : a4 = (0, num W 4, min 5 L, L - min 5 L, bd W 4) := by simp only [a4, h8, e3, k4]
  clear_value a4
  have e5 : a5 = (0, num W 5, min 6 L, L - min 6 L, bd W 5) := by simp only [a5, h8, e4, k5]
  clear_value a5
  have e6 : a6 = (0, num W 6, min 7 L, L - min 7 L, bd W 6) := by simp only [a6, h8, e5, k6]
  clear_value a6
  have e7 : a7 = (0, num W 7, min 8 L, L - min 8 L, bd W 7) := by simp only [a7, h8, e6, k7]
  clear_value a7
  have e8 : a8 = (0, num W 8, min 9 L, L - min 9 L, bd W 8) := by simp only [a8, h8, e7, k8]
  clear_value a8
  have e9 : a9 = (0, num W 9, min 10 L, L - min 10 L, bd W 9) := by simp only [a9, h8, e8, k9]
  clear_value a9
  have e10 : a10 = (0, num W 10, min 11 L, L - min 11 L, bd W 10) := by simp only [a10, h8, e9, k10]
  clear_value a10
  have e11 : a11 = (0, num W 11, min 12 L, L - min 12 L, bd W 11) := by simp only [a11, h8, e10, k11]
  clear_value a11
  have e12 : a12 = (0, num W 12, min 13 L, L - min 13 L, bd W 12) := by simp only [a12, h8, e11, k12]
  clear_value a12
  have e13 : a13 = (0, num W 13, min 14 L, L - min 14 L, bd W 13) := by simp only [a13, h8, e12, k13]
  clear_value a13
  have e14 : a14 = (0, num W 14, min 15 L, L - min 15 L, bd W 14) := by simp only [a14, h8, e13, k14]
  clear_value a14
  have e15 : a15 = (0, num W 15, min 16 L, L - min 16 L, bd W 15) := by simp only [a15, h8, e14, k15]
  clear_value a15
  have e16 : a16 = (0, num W 16, min 17 L, L - min 17 L, bd W 16) := by simp only [a16, h8, e15, k16]
  clear_value a16
  have e17 : a17 = (0, num W 17, min 18 L, L - min 18 L, bd W 17) := by simp only [a17, h8, e16, k17]
  clear_value a17
  have e18 : a18 = (0, num W 18, min 19 L, L - min 19 L, bd W 18) := by simp only [a18, h8, e17, k18]
  clear_value a18
  have d1 : dn = (cond (!(bd W 18)) ((((L - min 19 L : Nat) : Int)) == 0) false) := by simp only [dn, h8, e18]; rfl
  have d2 : vv = r14 (num W 1) (num W 4) (num W 7) (num W 10) (num W 13) (num W 16) (num W 2) (num W 5) (num W 8) (num W 11) (num W 14) (num W 17) (num W 3) (num W 6) (num W 9) (num W 12) (num W 15) (num W 18) := by simp only [vv, e0, e1, e2, e3, e4, e5, e6, e7, e8, e9, e10, e11, e12, e13, e14, e15, e16, e17, e18]
  have d3 : tt = r44 (num W 1) (num W 4) (num W 7) (num W 10) (num W 13) (num W 16) (num W 2) (num W 5) (num W 8) (num W 11) (num W 14) (num W 17) (num W 3) (num W 6) (num W 9) (num W 12) (num W 15) (num W 18) := by simp only [tt, e0, e1, e2, e3, e4, e5, e6, e7, e8, e9, e10, e11, e12, e13, e14, e15, e16, e17, e18]
  clear_value dn vv tt
  simp only [h8, e0, e1, e2, e3, e4, e5, e6, e7, e8, e9, e10, e11, e12, e13, e14, e15, e16, e17, e18, d1, d2, d3]
  rfl
theorem nineteen {l : List (List UInt8)} (h : l.length = 19) : ∃ l0 l1 l2 l3 l4 l5 l6 l7 l8 l9 l10 l11 l12 l13 l14 l15 l16 l17 l18, l = [l0, l1, l2, l3, l4, l5, l6, l7, l8, l9, l10, l11, l12, l13, l14, l15, l16, l17, l18] := by
  match l, h with
  | [l0, l1, l2, l3, l4, l5, l6, l7, l8, l9, l10, l11, l12, l13, l14, l15, l16, l17, l18], _ => exact ⟨l0, l1, l2, l3, l4, l5, l6, l7, l8, l9, l10, l11, l12, l13, l14, l15, l16, l17, l18, rfl⟩
/-- a text of a log -/
structure Good (x : ByteArray) (v1 v2 v3 v4 v5 v6 v7 v8 v9 v10 v11 v12 v13 v14 v15 v16 v17 v18 : Nat) : Prop where
  cut : splitL 32 x.data.toList = [logL, numL v1, numL v2, numL v3, numL v4, numL v5, numL v6, numL v7, numL v8, numL v9, numL v10, numL v11, numL v12, numL v13, numL v14, numL v15, numL v16, numL v17, numL v18]
  bv1 : v1 < 4294967296
  rv1 : rdL (numL v1) = some v1
  bv2 : v2 < 4294967296
  rv2 : rdL (numL v2) = some v2
  bv3 : v3 < 4294967296
  rv3 : rdL (numL v3) = some v3
  bv4 : v4 < 4294967296
  rv4 : rdL (numL v4) = some v4
  bv5 : v5 < 4294967296
  rv5 : rdL (numL v5) = some v5
  bv6 : v6 < 4294967296
  rv6 : rdL (numL v6) = some v6
  bv7 : v7 < 4294967296
  rv7 : rdL (numL v7) = some v7
  bv8 : v8 < 4294967296
  rv8 : rdL (numL v8) = some v8
  bv9 : v9 < 4294967296
  rv9 : rdL (numL v9) = some v9
  bv10 : v10 < 4294967296
  rv10 : rdL (numL v10) = some v10
  bv11 : v11 < 4294967296
  rv11 : rdL (numL v11) = some v11
  bv12 : v12 < 4294967296
  rv12 : rdL (numL v12) = some v12
  bv13 : v13 < 4294967296
  rv13 : rdL (numL v13) = some v13
  bv14 : v14 < 4294967296
  rv14 : rdL (numL v14) = some v14
  bv15 : v15 < 4294967296
  rv15 : rdL (numL v15) = some v15
  bv16 : v16 < 4294967296
  rv16 : rdL (numL v16) = some v16
  bv17 : v17 < 4294967296
  rv17 : rdL (numL v17) = some v17
  bv18 : v18 < 4294967296
  rv18 : rdL (numL v18) = some v18
theorem good_of (x : ByteArray) (hl : (splB 32 x).length = 19) (h0 : ((splB 32 x).getD 0 .empty).toList = LOG.toList) (hr : ∀ j, 1 ≤ j → j ≤ 18 → (rdB ((splB 32 x).getD j .empty)).isSome = true) : ∃ v1 v2 v3 v4 v5 v6 v7 v8 v9 v10 v11 v12 v13 v14 v15 v16 v17 v18, Good x v1 v2 v3 v4 v5 v6 v7 v8 v9 v10 v11 v12 v13 v14 v15 v16 v17 v18 := by
  rw [splB_eq] at hl h0 hr
  rw [List.length_map] at hl
  obtain ⟨l0, l1, l2, l3, l4, l5, l6, l7, l8, l9, l10, l11, l12, l13, l14, l15, l16, l17, l18, e⟩ := nineteen hl
  rw [e] at h0 hr
  have h0 : l0 = logL := by
    have : (mkB l0).toList = LOG.toList := h0
    rw [toList_eq, toList_eq] at this; exact this
  obtain ⟨v1, e1⟩ := Option.isSome_iff_exists.1 (show (rdL l1).isSome = true from hr 1 (by decide) (by decide))
  obtain ⟨v2, e2⟩ := Option.isSome_iff_exists.1 (show (rdL l2).isSome = true from hr 2 (by decide) (by decide))
  obtain ⟨v3, e3⟩ := Option.isSome_iff_exists.1 (show (rdL l3).isSome = true from hr 3 (by decide) (by decide))
  obtain ⟨v4, e4⟩ := Option.isSome_iff_exists.1 (show (rdL l4).isSome = true from hr 4 (by decide) (by decide))
  obtain ⟨v5, e5⟩ := Option.isSome_iff_exists.1 (show (rdL l5).isSome = true from hr 5 (by decide) (by decide))
  obtain ⟨v6, e6⟩ := Option.isSome_iff_exists.1 (show (rdL l6).isSome = true from hr 6 (by decide) (by decide))
  obtain ⟨v7, e7⟩ := Option.isSome_iff_exists.1 (show (rdL l7).isSome = true from hr 7 (by decide) (by decide))
  obtain ⟨v8, e8⟩ := Option.isSome_iff_exists.1 (show (rdL l8).isSome = true from hr 8 (by decide) (by decide))
  obtain ⟨v9, e9⟩ := Option.isSome_iff_exists.1 (show (rdL l9).isSome = true from hr 9 (by decide) (by decide))
  obtain ⟨v10, e10⟩ := Option.isSome_iff_exists.1 (show (rdL l10).isSome = true from hr 10 (by decide) (by decide))
  obtain ⟨v11, e11⟩ := Option.isSome_iff_exists.1 (show (rdL l11).isSome = true from hr 11 (by decide) (by decide))
  obtain ⟨v12, e12⟩ := Option.isSome_iff_exists.1 (show (rdL l12).isSome = true from hr 12 (by decide) (by decide))
  obtain ⟨v13, e13⟩ := Option.isSome_iff_exists.1 (show (rdL l13).isSome = true from hr 13 (by decide) (by decide))
  obtain ⟨v14, e14⟩ := Option.isSome_iff_exists.1 (show (rdL l14).isSome = true from hr 14 (by decide) (by decide))
  obtain ⟨v15, e15⟩ := Option.isSome_iff_exists.1 (show (rdL l15).isSome = true from hr 15 (by decide) (by decide))
  obtain ⟨v16, e16⟩ := Option.isSome_iff_exists.1 (show (rdL l16).isSome = true from hr 16 (by decide) (by decide))
  obtain ⟨v17, e17⟩ := Option.isSome_iff_exists.1 (show (rdL l17).isSome = true from hr 17 (by decide) (by decide))
  obtain ⟨v18, e18⟩ := Option.isSome_iff_exists.1 (show (rdL l18).isSome = true from hr 18 (by decide) (by decide))
  refine ⟨v1, v2, v3, v4, v5, v6, v7, v8, v9, v10, v11, v12, v13, v14, v15, v16, v17, v18, ⟨?_, (numL_rdL e1).1, (by rw [(numL_rdL e1).2]; exact e1), (numL_rdL e2).1, (by rw [(numL_rdL e2).2]; exact e2), (numL_rdL e3).1, (by rw [(numL_rdL e3).2]; exact e3), (numL_rdL e4).1, (by rw [(numL_rdL e4).2]; exact e4), (numL_rdL e5).1, (by rw [(numL_rdL e5).2]; exact e5), (numL_rdL e6).1, (by rw [(numL_rdL e6).2]; exact e6), (numL_rdL e7).1, (by rw [(numL_rdL e7).2]; exact e7), (numL_rdL e8).1, (by rw [(numL_rdL e8).2]; exact e8), (numL_rdL e9).1, (by rw [(numL_rdL e9).2]; exact e9), (numL_rdL e10).1, (by rw [(numL_rdL e10).2]; exact e10), (numL_rdL e11).1, (by rw [(numL_rdL e11).2]; exact e11), (numL_rdL e12).1, (by rw [(numL_rdL e12).2]; exact e12), (numL_rdL e13).1, (by rw [(numL_rdL e13).2]; exact e13), (numL_rdL e14).1, (by rw [(numL_rdL e14).2]; exact e14), (numL_rdL e15).1, (by rw [(numL_rdL e15).2]; exact e15), (numL_rdL e16).1, (by rw [(numL_rdL e16).2]; exact e16), (numL_rdL e17).1, (by rw [(numL_rdL e17).2]; exact e17), (numL_rdL e18).1, (by rw [(numL_rdL e18).2]; exact e18)⟩⟩
  rw [e, h0, (numL_rdL e1).2, (numL_rdL e2).2, (numL_rdL e3).2, (numL_rdL e4).2, (numL_rdL e5).2, (numL_rdL e6).2, (numL_rdL e7).2, (numL_rdL e8).2, (numL_rdL e9).2, (numL_rdL e10).2, (numL_rdL e11).2, (numL_rdL e12).2, (numL_rdL e13).2, (numL_rdL e14).2, (numL_rdL e15).2, (numL_rdL e16).2, (numL_rdL e17).2, (numL_rdL e18).2]
section
variable {x : ByteArray} (hx : x.size ≤ 1048576)
include hx
omit hx in
theorem good_W {v1 v2 v3 v4 v5 v6 v7 v8 v9 v10 v11 v12 v13 v14 v15 v16 v17 v18 : Nat} (g : Good x v1 v2 v3 v4 v5 v6 v7 v8 v9 v10 v11 v12 v13 v14 v15 v16 v17 v18) : splB 32 x = [mkB logL, mkB (numL v1), mkB (numL v2), mkB (numL v3), mkB (numL v4), mkB (numL v5), mkB (numL v6), mkB (numL v7), mkB (numL v8), mkB (numL v9), mkB (numL v10), mkB (numL v11), mkB (numL v12), mkB (numL v13), mkB (numL v14), mkB (numL v15), mkB (numL v16), mkB (numL v17), mkB (numL v18)] := by rw [splB_eq, g.cut]; rfl
set_option maxRecDepth 100000 in
set_option maxHeartbeats 4000000 in
theorem impl_good {v1 v2 v3 v4 v5 v6 v7 v8 v9 v10 v11 v12 v13 v14 v15 v16 v17 v18 : Nat} (g : Good x v1 v2 v3 v4 v5 v6 v7 v8 v9 v10 v11 v12 v13 v14 v15 v16 v17 v18) : r7 x = cond (r14 v1 v4 v7 v10 v13 v16 v2 v5 v8 v11 v14 v17 v3 v6 v9 v12 v15 v18) (0, v1, v4, v7, v10, v13, v16, v2, v5, v8, v11, v14, v17, v3, v6, v9, v12, v15, v18, 0) (0, 0, 0, 0, 0, 0, 0, 0, 0, 0, 0, 0, 0, 0, 0, 0, 0, 0, 0, 5) := by
  have hW := good_W g
  have hr := impl_run x hx hW rfl (by simp)
  generalize hG : [mkB logL, mkB (numL v1), mkB (numL v2), mkB (numL v3), mkB (numL v4), mkB (numL v5), mkB (numL v6), mkB (numL v7), mkB (numL v8), mkB (numL v9), mkB (numL v10), mkB (numL v11), mkB (numL v12), mkB (numL v13), mkB (numL v14), mkB (numL v15), mkB (numL v16), mkB (numL v17), mkB (numL v18)] = W at hr hW
  have hb : bd W 18 = false := by
    refine bd_of (by rw [← hG]; rfl) fun j h1 h2 => ?_
    have hj : j = 1 ∨ j = 2 ∨ j = 3 ∨ j = 4 ∨ j = 5 ∨ j = 6 ∨ j = 7 ∨ j = 8 ∨ j = 9 ∨ j = 10 ∨ j = 11 ∨ j = 12 ∨ j = 13 ∨ j = 14 ∨ j = 15 ∨ j = 16 ∨ j = 17 ∨ j = 18 := by omega
    rcases hj with rfl | rfl | rfl | rfl | rfl | rfl | rfl | rfl | rfl | rfl | rfl | rfl | rfl | rfl | rfl | rfl | rfl | rfl
    · exact ⟨by rw [← hG]; exact (show 1 < 19 by decide), by rw [← hG]; show (rdL (numL v1)).isSome = true; rw [g.rv1]; rfl⟩
    · exact ⟨by rw [← hG]; exact (show 2 < 19 by decide), by rw [← hG]; show (rdL (numL v2)).isSome = true; rw [g.rv2]; rfl⟩
    · exact ⟨by rw [← hG]; exact (show 3 < 19 by decide), by rw [← hG]; show (rdL (numL v3)).isSome = true; rw [g.rv3]; rfl⟩
    · exact ⟨by rw [← hG]; exact (show 4 < 19 by decide), by rw [← hG]; show (rdL (numL v4)).isSome = true; rw [g.rv4]; rfl⟩
    · exact ⟨by rw [← hG]; exact (show 5 < 19 by decide), by rw [← hG]; show (rdL (numL v5)).isSome = true; rw [g.rv5]; rfl⟩
    · exact ⟨by rw [← hG]; exact (show 6 < 19 by decide), by rw [← hG]; show (rdL (numL v6)).isSome = true; rw [g.rv6]; rfl⟩
    · exact ⟨by rw [← hG]; exact (show 7 < 19 by decide), by rw [← hG]; show (rdL (numL v7)).isSome = true; rw [g.rv7]; rfl⟩
    · exact ⟨by rw [← hG]; exact (show 8 < 19 by decide), by rw [← hG]; show (rdL (numL v8)).isSome = true; rw [g.rv8]; rfl⟩
    · exact ⟨by rw [← hG]; exact (show 9 < 19 by decide), by rw [← hG]; show (rdL (numL v9)).isSome = true; rw [g.rv9]; rfl⟩
    · exact ⟨by rw [← hG]; exact (show 10 < 19 by decide), by rw [← hG]; show (rdL (numL v10)).isSome = true; rw [g.rv10]; rfl⟩
    · exact ⟨by rw [← hG]; exact (show 11 < 19 by decide), by rw [← hG]; show (rdL (numL v11)).isSome = true; rw [g.rv11]; rfl⟩
    · exact ⟨by rw [← hG]; exact (show 12 < 19 by decide), by rw [← hG]; show (rdL (numL v12)).isSome = true; rw [g.rv12]; rfl⟩
    · exact ⟨by rw [← hG]; exact (show 13 < 19 by decide), by rw [← hG]; show (rdL (numL v13)).isSome = true; rw [g.rv13]; rfl⟩
    · exact ⟨by rw [← hG]; exact (show 14 < 19 by decide), by rw [← hG]; show (rdL (numL v14)).isSome = true; rw [g.rv14]; rfl⟩
    · exact ⟨by rw [← hG]; exact (show 15 < 19 by decide), by rw [← hG]; show (rdL (numL v15)).isSome = true; rw [g.rv15]; rfl⟩
    · exact ⟨by rw [← hG]; exact (show 16 < 19 by decide), by rw [← hG]; show (rdL (numL v16)).isSome = true; rw [g.rv16]; rfl⟩
    · exact ⟨by rw [← hG]; exact (show 17 < 19 by decide), by rw [← hG]; show (rdL (numL v17)).isSome = true; rw [g.rv17]; rfl⟩
    · exact ⟨by rw [← hG]; exact (show 18 < 19 by decide), by rw [← hG]; show (rdL (numL v18)).isSome = true; rw [g.rv18]; rfl⟩
  have n1 : num W 1 = v1 := by rw [← hG]; show (rdL (numL v1)).getD 0 = v1; rw [g.rv1]; rfl
  have n2 : num W 2 = v2 := by rw [← hG]; show (rdL (numL v2)).getD 0 = v2; rw [g.rv2]; rfl
  have n3 : num W 3 = v3 := by rw [← hG]; show (rdL (numL v3)).getD 0 = v3; rw [g.rv3]; rfl
  have n4 : num W 4 = v4 := by rw [← hG]; show (rdL (numL v4)).getD 0 = v4; rw [g.rv4]; rfl
  have n5 : num W 5 = v5 := by rw [← hG]; show (rdL (numL v5)).getD 0 = v5; rw [g.rv5]; rfl
  have n6 : num W 6 = v6 := by rw [← hG]; show (rdL (numL v6)).getD 0 = v6; rw [g.rv6]; rfl
  have n7 : num W 7 = v7 := by rw [← hG]; show (rdL (numL v7)).getD 0 = v7; rw [g.rv7]; rfl
  have n8 : num W 8 = v8 := by rw [← hG]; show (rdL (numL v8)).getD 0 = v8; rw [g.rv8]; rfl
  have n9 : num W 9 = v9 := by rw [← hG]; show (rdL (numL v9)).getD 0 = v9; rw [g.rv9]; rfl
  have n10 : num W 10 = v10 := by rw [← hG]; show (rdL (numL v10)).getD 0 = v10; rw [g.rv10]; rfl
  have n11 : num W 11 = v11 := by rw [← hG]; show (rdL (numL v11)).getD 0 = v11; rw [g.rv11]; rfl
  have n12 : num W 12 = v12 := by rw [← hG]; show (rdL (numL v12)).getD 0 = v12; rw [g.rv12]; rfl
  have n13 : num W 13 = v13 := by rw [← hG]; show (rdL (numL v13)).getD 0 = v13; rw [g.rv13]; rfl
  have n14 : num W 14 = v14 := by rw [← hG]; show (rdL (numL v14)).getD 0 = v14; rw [g.rv14]; rfl
  have n15 : num W 15 = v15 := by rw [← hG]; show (rdL (numL v15)).getD 0 = v15; rw [g.rv15]; rfl
  have n16 : num W 16 = v16 := by rw [← hG]; show (rdL (numL v16)).getD 0 = v16; rw [g.rv16]; rfl
  have n17 : num W 17 = v17 := by rw [← hG]; show (rdL (numL v17)).getD 0 = v17; rw [g.rv17]; rfl
  have n18 : num W 18 = v18 := by rw [← hG]; show (rdL (numL v18)).getD 0 = v18; rw [g.rv18]; rfl
  rw [hb, n1, n2, n3, n4, n5, n6, n7, n8, n9, n10, n11, n12, n13, n14, n15, n16, n17, n18, wood_text g.bv1 g.bv4 g.bv7 g.bv10 g.bv13 g.bv16 g.bv2 g.bv5 g.bv8 g.bv11 g.bv14 g.bv17 g.bv3 g.bv6 g.bv9 g.bv12 g.bv15 g.bv18] at hr
  have ht : x = mkB (joinL 32 [logL, numL v1, numL v2, numL v3, numL v4, numL v5, numL v6, numL v7, numL v8, numL v9, numL v10, numL v11, numL v12, numL v13, numL v14, numL v15, numL v16, numL v17, numL v18]) := by rw [← g.cut, join_splitL]; rfl
  rw [← ht] at hr
  have hlen : W.length = 19 := by rw [← hG]; rfl
  rw [hlen] at hr
  rw [hr]
  simp only [beq_self_eq_true]
  cases r14 v1 v4 v7 v10 v13 v16 v2 v5 v8 v11 v14 v17 v3 v6 v9 v12 v15 v18 <;> rfl
set_option maxRecDepth 100000 in
set_option maxHeartbeats 4000000 in
theorem spec_good {v1 v2 v3 v4 v5 v6 v7 v8 v9 v10 v11 v12 v13 v14 v15 v16 v17 v18 : Nat} (g : Good x v1 v2 v3 v4 v5 v6 v7 v8 v9 v10 v11 v12 v13 v14 v15 v16 v17 v18) : r99 x = (0, v1, v4, v7, v10, v13, v16, v2, v5, v8, v11, v14, v17, v3, v6, v9, v12, v15, v18, r61 v1 v4 v7 v10 v13 v16 v2 v5 v8 v11 v14 v17 v3 v6 v9 v12 v15 v18) := by
  have hW := good_W g
  have h15 : r95 x 32 = (0, [mkB logL, mkB (numL v1), mkB (numL v2), mkB (numL v3), mkB (numL v4), mkB (numL v5), mkB (numL v6), mkB (numL v7), mkB (numL v8), mkB (numL v9), mkB (numL v10), mkB (numL v11), mkB (numL v12), mkB (numL v13), mkB (numL v14), mkB (numL v15), mkB (numL v16), mkB (numL v17), mkB (numL v18)], ByteArray.empty) := by
    rcases cut_eq x 32 hx with ⟨h, e⟩ | ⟨h, e⟩
    · rw [hW] at e; exact e
    · rw [hW] at h; simp at h
  have h16 : r114 1 (List.length [mkB logL, mkB (numL v1), mkB (numL v2), mkB (numL v3), mkB (numL v4), mkB (numL v5), mkB (numL v6), mkB (numL v7), mkB (numL v8), mkB (numL v9), mkB (numL v10), mkB (numL v11), mkB (numL v12), mkB (numL v13), mkB (numL v14), mkB (numL v15), mkB (numL v16), mkB (numL v17), mkB (numL v18)] - 1) [mkB logL, mkB (numL v1), mkB (numL v2), mkB (numL v3), mkB (numL v4), mkB (numL v5), mkB (numL v6), mkB (numL v7), mkB (numL v8), mkB (numL v9), mkB (numL v10), mkB (numL v11), mkB (numL v12), mkB (numL v13), mkB (numL v14), mkB (numL v15), mkB (numL v16), mkB (numL v17), mkB (numL v18)] = (0, true, [[((v1 : Nat) : Int)], [((v2 : Nat) : Int)], [((v3 : Nat) : Int)], [((v4 : Nat) : Int)], [((v5 : Nat) : Int)], [((v6 : Nat) : Int)], [((v7 : Nat) : Int)], [((v8 : Nat) : Int)], [((v9 : Nat) : Int)], [((v10 : Nat) : Int)], [((v11 : Nat) : Int)], [((v12 : Nat) : Int)], [((v13 : Nat) : Int)], [((v14 : Nat) : Int)], [((v15 : Nat) : Int)], [((v16 : Nat) : Int)], [((v17 : Nat) : Int)], [((v18 : Nat) : Int)]]) := by
    rw [nums_eq [mkB logL, mkB (numL v1), mkB (numL v2), mkB (numL v3), mkB (numL v4), mkB (numL v5), mkB (numL v6), mkB (numL v7), mkB (numL v8), mkB (numL v9), mkB (numL v10), mkB (numL v11), mkB (numL v12), mkB (numL v13), mkB (numL v14), mkB (numL v15), mkB (numL v16), mkB (numL v17), mkB (numL v18)] 1 _ (by simp) (by simp)]
    have hall : ((([mkB logL, mkB (numL v1), mkB (numL v2), mkB (numL v3), mkB (numL v4), mkB (numL v5), mkB (numL v6), mkB (numL v7), mkB (numL v8), mkB (numL v9), mkB (numL v10), mkB (numL v11), mkB (numL v12), mkB (numL v13), mkB (numL v14), mkB (numL v15), mkB (numL v16), mkB (numL v17), mkB (numL v18)] : List ByteArray).drop 1).take (List.length [mkB logL, mkB (numL v1), mkB (numL v2), mkB (numL v3), mkB (numL v4), mkB (numL v5), mkB (numL v6), mkB (numL v7), mkB (numL v8), mkB (numL v9), mkB (numL v10), mkB (numL v11), mkB (numL v12), mkB (numL v13), mkB (numL v14), mkB (numL v15), mkB (numL v16), mkB (numL v17), mkB (numL v18)] - 1)) = [mkB (numL v1), mkB (numL v2), mkB (numL v3), mkB (numL v4), mkB (numL v5), mkB (numL v6), mkB (numL v7), mkB (numL v8), mkB (numL v9), mkB (numL v10), mkB (numL v11), mkB (numL v12), mkB (numL v13), mkB (numL v14), mkB (numL v15), mkB (numL v16), mkB (numL v17), mkB (numL v18)] := rfl
    rw [hall, if_pos (by simp only [allN', rdB, mkB_data, List.all_cons, List.all_nil, g.rv1, g.rv2, g.rv3, g.rv4, g.rv5, g.rv6, g.rv7, g.rv8, g.rv9, g.rv10, g.rv11, g.rv12, g.rv13, g.rv14, g.rv15, g.rv16, g.rv17, g.rv18]; rfl)]
    simp only [rowsN, rdB, mkB_data, List.map_cons, List.map_nil, g.rv1, g.rv2, g.rv3, g.rv4, g.rv5, g.rv6, g.rv7, g.rv8, g.rv9, g.rv10, g.rv11, g.rv12, g.rv13, g.rv14, g.rv15, g.rv16, g.rv17, g.rv18]
    rfl
  unfold r99
  rw [h15]
  rw [h16]
  have hlog : ((((0, [mkB logL, mkB (numL v1), mkB (numL v2), mkB (numL v3), mkB (numL v4), mkB (numL v5), mkB (numL v6), mkB (numL v7), mkB (numL v8), mkB (numL v9), mkB (numL v10), mkB (numL v11), mkB (numL v12), mkB (numL v13), mkB (numL v14), mkB (numL v15), mkB (numL v16), mkB (numL v17), mkB (numL v18)], ByteArray.empty) : Nat × List ByteArray × ByteArray).2.1.getD 0 .empty).toList == (ByteArray.mk #[108, 111, 103]).toList) = true := beq_self_eq_true (mkB logL).toList
  rw [hlog]
  rfl
theorem impl_bad (h : ¬ ∃ v1 v2 v3 v4 v5 v6 v7 v8 v9 v10 v11 v12 v13 v14 v15 v16 v17 v18, Good x v1 v2 v3 v4 v5 v6 v7 v8 v9 v10 v11 v12 v13 v14 v15 v16 v17 v18) : r7 x = (0, 0, 0, 0, 0, 0, 0, 0, 0, 0, 0, 0, 0, 0, 0, 0, 0, 0, 0, 5) := by
  have h1 : 1 ≤ (splB 32 x).length := by rw [splB_eq, List.length_map]; exact List.length_pos_iff.2 (splitL_ne 32 _)
  have hr := impl_run x hx rfl rfl h1
  have hD : (cond (!(bd (splB 32 x) 18)) (((((splB 32 x).length - min 19 (splB 32 x).length : Nat) : Int)) == 0) false) = false := by
    cases hb : bd (splB 32 x) 18 with
    | true => rfl
    | false =>
      obtain ⟨g1, g2⟩ := bd_false hb
      by_cases hl : (splB 32 x).length = 19
      · exact absurd (good_of x hl g1 fun j h1 h2 => (g2 j h1 h2).2) h
      · have := (g2 18 (by decide) (by decide)).1
        exact beq_eq_false_iff_ne.2 (by omega)
  rw [hr, hD]; rfl
theorem spec_bad (h : ¬ ∃ v1 v2 v3 v4 v5 v6 v7 v8 v9 v10 v11 v12 v13 v14 v15 v16 v17 v18, Good x v1 v2 v3 v4 v5 v6 v7 v8 v9 v10 v11 v12 v13 v14 v15 v16 v17 v18) : ∃ u0 u1 u2 u3 u4 u5 u6 u7 u8 u9 u10 u11 u12 u13 u14 u15 u16 u17, r99 x = (0, u0, u1, u2, u3, u4, u5, u6, u7, u8, u9, u10, u11, u12, u13, u14, u15, u16, u17, false) := by
  unfold r99
  rcases cut_eq x 32 hx with ⟨h2, e⟩ | ⟨h2, e⟩
  · have e : r95 x 32 = (0, splB 32 x, ByteArray.empty) := e
    rw [e]
    simp only []
    rw [blt_t (show 0 < (splB 32 x).length by omega)]
    by_cases g0 : ((splB 32 x).getD 0 .empty).toList = LOG.toList
    · rw [show (((splB 32 x).getD 0 .empty).toList == (ByteArray.mk #[108, 111, 103]).toList) = true from beq_iff_eq.2 g0]
      by_cases hl : (splB 32 x).length = 19
      · have hna : ¬ (allN' (((splB 32 x).drop 1).take ((splB 32 x).length - 1)) = true) := fun ha => by
          refine h (good_of x hl g0 fun j h1 h2 => ?_)
          have hm : (splB 32 x).getD j .empty ∈ ((splB 32 x).drop 1).take ((splB 32 x).length - 1) := by
            rw [List.getD_eq_getElem?_getD, List.getElem?_eq_getElem (show j < (splB 32 x).length by omega)]
            rw [List.take_of_length_le (by rw [List.length_drop]; omega)]
            exact List.mem_drop_iff_getElem.2 ⟨j - 1, by omega, by congr 1; omega⟩
          exact List.all_eq_true.1 ha _ hm
        rw [nums_eq (splB 32 x) 1 _ (by omega) (by omega), if_neg hna, show ((((splB 32 x).length : Nat) : Int) != 19) = false from by rw [hl]; rfl, Nat.ble_eq_true_of_le (show 1 ≤ (splB 32 x).length by omega), Nat.ble_eq_true_of_le (Nat.le_refl _)]
        exact ⟨_, _, _, _, _, _, _, _, _, _, _, _, _, _, _, _, _, _, rfl⟩
      · rw [show ((((splB 32 x).length : Nat) : Int) != 19) = true from bne_iff_ne.2 (by omega)]
        exact ⟨_, _, _, _, _, _, _, _, _, _, _, _, _, _, _, _, _, _, rfl⟩
    · rw [show (((splB 32 x).getD 0 .empty).toList == (ByteArray.mk #[108, 111, 103]).toList) = false from beq_eq_false_iff_ne.2 g0]
      exact ⟨_, _, _, _, _, _, _, _, _, _, _, _, _, _, _, _, _, _, rfl⟩
  · have e : r95 x 32 = (1, [], x) := e
    rw [e]
    refine ⟨0, 0, 0, 0, 0, 0, 0, 0, 0, 0, 0, 0, 0, 0, 0, 0, 0, 0, ?_⟩
    show cond (!(x.toList == (ByteArray.mk #[108, 111, 103]).toList)) _ _ = _
    cases (x.toList == (ByteArray.mk #[108, 111, 103]).toList) <;> rfl
end
theorem same_refl (w : Nat) : r75 w w = true := by
  unfold r75
  cases hn : feq .f64 w w with
  | false => rfl
  | true => cases feq .f64 w 0 <;> simp
theorem row_refl (a b c d e f : Nat) : r119 a b c d e f a b c d e f = true := by
  unfold r119 w119
  simp only [same_refl, Bool.not_true, cond_false]
theorem wood_refl (a0 a1 a2 a3 a4 a5 a6 a7 a8 a9 a10 a11 a12 a13 a14 a15 a16 a17 : Nat) : r104 a0 a1 a2 a3 a4 a5 a6 a7 a8 a9 a10 a11 a12 a13 a14 a15 a16 a17 a0 a1 a2 a3 a4 a5 a6 a7 a8 a9 a10 a11 a12 a13 a14 a15 a16 a17 = true := by
  unfold r104 w104
  simp only [row_refl, Bool.not_true, cond_false]
end Go.Proofs.YtbmagccjcccnaaaGreatDoor
