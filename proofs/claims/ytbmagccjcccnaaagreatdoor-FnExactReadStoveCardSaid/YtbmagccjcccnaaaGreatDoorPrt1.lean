/- Numbers are read from their texts. -/
import Derived.Test.YtbmagccjcccnaaaGreatDoorA38
import Derived.Test.YtbmagccjcccnaaaGreatDoorRt6
namespace Go.Proofs.YtbmagccjcccnaaaGreatDoor
open Go.Ab

theorem wrap_u32 {z : Int} (h0 : 0 ≤ z) (h1 : z < 4294967296) : IntKind.u32.wrap z = z := by
  have e : IntKind.u32.wrap z = z % 4294967296 := by
    unfold IntKind.wrap
    rw [show IntKind.u32.bits = 32 from rfl, show IntKind.u32.signed = false from rfl]
    rfl
  rw [e]; omega
theorem wrap_u8 {z : Int} (h0 : 0 ≤ z) (h1 : z < 256) : IntKind.u8.wrap z = z := by
  have e : IntKind.u8.wrap z = z % 256 := by
    unfold IntKind.wrap
    rw [show IntKind.u8.bits = 8 from rfl, show IntKind.u8.signed = false from rfl]
    rfl
  rw [e]; omega
theorem digv {n : Nat} {c : UInt8} (hn : n < 268435456) (h1 : 48 ≤ c.toNat) (h2 : c.toNat ≤ 57) : IntKind.u32.wrap (IntKind.u32.wrap ((n : Int) * 16) + IntKind.u32.wrap (IntKind.u8.wrap ((c.toNat : Int) - 48))) = ((n * 16 + (c.toNat - 48) : Nat) : Int) := by
  rw [wrap_u8 (by omega) (by omega), wrap_u32 (z := (n : Int) * 16) (by omega) (by omega), wrap_u32 (z := (c.toNat : Int) - 48) (by omega) (by omega), wrap_u32 (by omega) (by omega)]
  omega
theorem letv {n : Nat} {c : UInt8} (hn : n < 268435456) (h1 : 97 ≤ c.toNat) (h2 : c.toNat ≤ 102) : IntKind.u32.wrap (IntKind.u32.wrap (IntKind.u32.wrap ((n : Int) * 16) + IntKind.u32.wrap (IntKind.u8.wrap ((c.toNat : Int) - 97))) + 10) = ((n * 16 + (c.toNat - 87) : Nat) : Int) := by
  rw [wrap_u8 (by omega) (by omega), wrap_u32 (z := (n : Int) * 16) (by omega) (by omega), wrap_u32 (z := (c.toNat : Int) - 97) (by omega) (by omega), wrap_u32 (z := (n : Int) * 16 + ((c.toNat : Int) - 97)) (by omega) (by omega), wrap_u32 (by omega) (by omega)]
  omega
theorem digv0 {c : UInt8} (h1 : 48 ≤ c.toNat) (h2 : c.toNat ≤ 57) : IntKind.u32.wrap (0 + IntKind.u32.wrap (IntKind.u8.wrap ((c.toNat : Int) - 48))) = ((0 * 16 + (c.toNat - 48) : Nat) : Int) := by
  rw [wrap_u8 (by omega) (by omega), wrap_u32 (z := (c.toNat : Int) - 48) (by omega) (by omega), wrap_u32 (by omega) (by omega)]
  omega
theorem letv0 {c : UInt8} (h1 : 97 ≤ c.toNat) (h2 : c.toNat ≤ 102) : IntKind.u32.wrap (IntKind.u32.wrap (0 + IntKind.u32.wrap (IntKind.u8.wrap ((c.toNat : Int) - 97))) + 10) = ((0 * 16 + (c.toNat - 87) : Nat) : Int) := by
  rw [wrap_u8 (by omega) (by omega), wrap_u32 (z := (c.toNat : Int) - 97) (by omega) (by omega), wrap_u32 (z := 0 + ((c.toNat : Int) - 97)) (by omega) (by omega), wrap_u32 (by omega) (by omega)]
  omega
theorem valD_dec {c : UInt8} (h1 : 48 ≤ c.toNat) (h2 : c.toNat ≤ 57) : valD c = some (c.toNat - 48) := by unfold valD; rw [if_pos ⟨h1, h2⟩]
theorem valD_let {c : UInt8} (h1 : 97 ≤ c.toNat) (h2 : c.toNat ≤ 102) : valD c = some (c.toNat - 87) := by unfold valD; rw [if_neg (by omega), if_pos ⟨h1, h2⟩]
theorem valD_non {c : UInt8} (h1 : ¬ (48 ≤ c.toNat ∧ c.toNat ≤ 57)) (h2 : ¬ (97 ≤ c.toNat ∧ c.toNat ≤ 102)) : valD c = none := by unfold valD; rw [if_neg h1, if_neg h2]
theorem dge {a b : Nat} (h : b ≤ a) : decide ((a : Int) ≥ (b : Int)) = true := by rw [decide_eq_true_eq]; omega
section
variable (c0 c1 c2 c3 c4 c5 c6 c7 : UInt8)
/-- from digit 7 on -/
theorem rd7 (n : Nat) (hn : n < 268435456) : (∃ m, unhexL n [c7] = some m ∧ r96l0b (mkB [c0, c1, c2, c3, c4, c5, c6, c7]) (n : Int) = (0, (m : Int))) ∨ (unhexL n [c7] = none ∧ r96l0b (mkB [c0, c1, c2, c3, c4, c5, c6, c7]) (n : Int) = (1, 0)) := by
  have e : List.getD (ByteArray.data (mkB [c0, c1, c2, c3, c4, c5, c6, c7])).toList 7 0 = c7 := rfl
  have es : Nat.blt 7 (ByteArray.size (mkB [c0, c1, c2, c3, c4, c5, c6, c7])) = true := rfl
  unfold r96l0b w96l0b
  simp only [e, es]
  by_cases h1 : 48 ≤ c7.toNat
  · rw [show decide ((c7.toNat : Int) ≥ 48) = true from decide_eq_true (by omega)]
    by_cases h2 : c7.toNat ≤ 57
    · rw [show decide ((c7.toNat : Int) ≤ 57) = true from decide_eq_true (by omega), digv (by omega) h1 h2]
      exact .inl ⟨_, by rw [unhexL, valD_dec h1 h2]; rfl, rfl⟩
    · rw [show decide ((c7.toNat : Int) ≤ 57) = false from decide_eq_false (by omega)]
      by_cases h3 : 97 ≤ c7.toNat
      · rw [show decide ((c7.toNat : Int) ≥ 97) = true from decide_eq_true (by omega)]
        by_cases h4 : c7.toNat ≤ 102
        · rw [show decide ((c7.toNat : Int) ≤ 102) = true from decide_eq_true (by omega), letv (by omega) h3 h4]
          exact .inl ⟨_, by rw [unhexL, valD_let h3 h4]; rfl, rfl⟩
        · rw [show decide ((c7.toNat : Int) ≤ 102) = false from decide_eq_false (by omega)]
          exact .inr ⟨by rw [unhexL, valD_non (by omega) (by omega)], rfl⟩
      · rw [show decide ((c7.toNat : Int) ≥ 97) = false from decide_eq_false (by omega)]
        exact .inr ⟨by rw [unhexL, valD_non (by omega) (by omega)], rfl⟩
  · rw [show decide ((c7.toNat : Int) ≥ 48) = false from decide_eq_false (by omega), show decide ((c7.toNat : Int) ≥ 97) = false from decide_eq_false (by omega)]
    exact .inr ⟨by rw [unhexL, valD_non (by omega) (by omega)], rfl⟩
/-- from digit 6 on -/
theorem rd6 (n : Nat) (hn : n < 16777216) : (∃ m, unhexL n [c6, c7] = some m ∧ r96l0c (mkB [c0, c1, c2, c3, c4, c5, c6, c7]) (n : Int) = (0, (m : Int), 0)) ∨ (unhexL n [c6, c7] = none ∧ ∃ q, r96l0c (mkB [c0, c1, c2, c3, c4, c5, c6, c7]) (n : Int) = (1, 0, q)) := by
  have e : List.getD (ByteArray.data (mkB [c0, c1, c2, c3, c4, c5, c6, c7])).toList 6 0 = c6 := rfl
  have es : Nat.blt 6 (ByteArray.size (mkB [c0, c1, c2, c3, c4, c5, c6, c7])) = true := rfl
  unfold r96l0c w96l0c
  simp only [e, es]
  by_cases h1 : 48 ≤ c6.toNat
  · rw [show decide ((c6.toNat : Int) ≥ 48) = true from decide_eq_true (by omega)]
    by_cases h2 : c6.toNat ≤ 57
    · rw [show decide ((c6.toNat : Int) ≤ 57) = true from decide_eq_true (by omega), digv (by omega) h1 h2]
      rcases rd7 c0 c1 c2 c3 c4 c5 c6 c7 (n * 16 + (c6.toNat - 48)) (by omega) with ⟨m, e1, e2⟩ | ⟨e1, e2⟩
      · rw [e2]; exact .inl ⟨m, by rw [unhexL, valD_dec h1 h2]; exact e1, rfl⟩
      · rw [e2]; exact .inr ⟨by rw [unhexL, valD_dec h1 h2]; exact e1, _, rfl⟩
    · rw [show decide ((c6.toNat : Int) ≤ 57) = false from decide_eq_false (by omega)]
      by_cases h3 : 97 ≤ c6.toNat
      · rw [show decide ((c6.toNat : Int) ≥ 97) = true from decide_eq_true (by omega)]
        by_cases h4 : c6.toNat ≤ 102
        · rw [show decide ((c6.toNat : Int) ≤ 102) = true from decide_eq_true (by omega), letv (by omega) h3 h4]
          rcases rd7 c0 c1 c2 c3 c4 c5 c6 c7 (n * 16 + (c6.toNat - 87)) (by omega) with ⟨m, e1, e2⟩ | ⟨e1, e2⟩
          · rw [e2]; exact .inl ⟨m, by rw [unhexL, valD_let h3 h4]; exact e1, rfl⟩
          · rw [e2]; exact .inr ⟨by rw [unhexL, valD_let h3 h4]; exact e1, _, rfl⟩
        · rw [show decide ((c6.toNat : Int) ≤ 102) = false from decide_eq_false (by omega)]
          exact .inr ⟨by rw [unhexL, valD_non (by omega) (by omega)], _, rfl⟩
      · rw [show decide ((c6.toNat : Int) ≥ 97) = false from decide_eq_false (by omega)]
        exact .inr ⟨by rw [unhexL, valD_non (by omega) (by omega)], _, rfl⟩
  · rw [show decide ((c6.toNat : Int) ≥ 48) = false from decide_eq_false (by omega), show decide ((c6.toNat : Int) ≥ 97) = false from decide_eq_false (by omega)]
    exact .inr ⟨by rw [unhexL, valD_non (by omega) (by omega)], _, rfl⟩
/-- from digit 5 on -/
theorem rd5 (n : Nat) (hn : n < 1048576) : (∃ m, unhexL n [c5, c6, c7] = some m ∧ r96l0d (mkB [c0, c1, c2, c3, c4, c5, c6, c7]) (n : Int) = (0, (m : Int), 0)) ∨ (unhexL n [c5, c6, c7] = none ∧ ∃ q, r96l0d (mkB [c0, c1, c2, c3, c4, c5, c6, c7]) (n : Int) = (1, 0, q)) := by
  have e : List.getD (ByteArray.data (mkB [c0, c1, c2, c3, c4, c5, c6, c7])).toList 5 0 = c5 := rfl
  have es : Nat.blt 5 (ByteArray.size (mkB [c0, c1, c2, c3, c4, c5, c6, c7])) = true := rfl
  unfold r96l0d w96l0d
  simp only [e, es]
  by_cases h1 : 48 ≤ c5.toNat
  · rw [show decide ((c5.toNat : Int) ≥ 48) = true from decide_eq_true (by omega)]
    by_cases h2 : c5.toNat ≤ 57
    · rw [show decide ((c5.toNat : Int) ≤ 57) = true from decide_eq_true (by omega), digv (by omega) h1 h2]
      rcases rd6 c0 c1 c2 c3 c4 c5 c6 c7 (n * 16 + (c5.toNat - 48)) (by omega) with ⟨m, e1, e2⟩ | ⟨e1, q, e2⟩
      · rw [e2]; exact .inl ⟨m, by rw [unhexL, valD_dec h1 h2]; exact e1, rfl⟩
      · rw [e2]; exact .inr ⟨by rw [unhexL, valD_dec h1 h2]; exact e1, _, rfl⟩
    · rw [show decide ((c5.toNat : Int) ≤ 57) = false from decide_eq_false (by omega)]
      by_cases h3 : 97 ≤ c5.toNat
      · rw [show decide ((c5.toNat : Int) ≥ 97) = true from decide_eq_true (by omega)]
        by_cases h4 : c5.toNat ≤ 102
        · rw [show decide ((c5.toNat : Int) ≤ 102) = true from decide_eq_true (by omega), letv (by omega) h3 h4]
          rcases rd6 c0 c1 c2 c3 c4 c5 c6 c7 (n * 16 + (c5.toNat - 87)) (by omega) with ⟨m, e1, e2⟩ | ⟨e1, q, e2⟩
          · rw [e2]; exact .inl ⟨m, by rw [unhexL, valD_let h3 h4]; exact e1, rfl⟩
          · rw [e2]; exact .inr ⟨by rw [unhexL, valD_let h3 h4]; exact e1, _, rfl⟩
        · rw [show decide ((c5.toNat : Int) ≤ 102) = false from decide_eq_false (by omega)]
          exact .inr ⟨by rw [unhexL, valD_non (by omega) (by omega)], _, rfl⟩
      · rw [show decide ((c5.toNat : Int) ≥ 97) = false from decide_eq_false (by omega)]
        exact .inr ⟨by rw [unhexL, valD_non (by omega) (by omega)], _, rfl⟩
  · rw [show decide ((c5.toNat : Int) ≥ 48) = false from decide_eq_false (by omega), show decide ((c5.toNat : Int) ≥ 97) = false from decide_eq_false (by omega)]
    exact .inr ⟨by rw [unhexL, valD_non (by omega) (by omega)], _, rfl⟩
/-- from digit 4 on -/
theorem rd4 (n : Nat) (hn : n < 65536) : (∃ m, unhexL n [c4, c5, c6, c7] = some m ∧ r96l0e (mkB [c0, c1, c2, c3, c4, c5, c6, c7]) (n : Int) = (0, (m : Int), 0)) ∨ (unhexL n [c4, c5, c6, c7] = none ∧ ∃ q, r96l0e (mkB [c0, c1, c2, c3, c4, c5, c6, c7]) (n : Int) = (1, 0, q)) := by
  have e : List.getD (ByteArray.data (mkB [c0, c1, c2, c3, c4, c5, c6, c7])).toList 4 0 = c4 := rfl
  have es : Nat.blt 4 (ByteArray.size (mkB [c0, c1, c2, c3, c4, c5, c6, c7])) = true := rfl
  unfold r96l0e w96l0e
  simp only [e, es]
  by_cases h1 : 48 ≤ c4.toNat
  · rw [show decide ((c4.toNat : Int) ≥ 48) = true from decide_eq_true (by omega)]
    by_cases h2 : c4.toNat ≤ 57
    · rw [show decide ((c4.toNat : Int) ≤ 57) = true from decide_eq_true (by omega), digv (by omega) h1 h2]
      rcases rd5 c0 c1 c2 c3 c4 c5 c6 c7 (n * 16 + (c4.toNat - 48)) (by omega) with ⟨m, e1, e2⟩ | ⟨e1, q, e2⟩
      · rw [e2]; exact .inl ⟨m, by rw [unhexL, valD_dec h1 h2]; exact e1, rfl⟩
      · rw [e2]; exact .inr ⟨by rw [unhexL, valD_dec h1 h2]; exact e1, _, rfl⟩
    · rw [show decide ((c4.toNat : Int) ≤ 57) = false from decide_eq_false (by omega)]
      by_cases h3 : 97 ≤ c4.toNat
      · rw [show decide ((c4.toNat : Int) ≥ 97) = true from decide_eq_true (by omega)]
        by_cases h4 : c4.toNat ≤ 102
        · rw [show decide ((c4.toNat : Int) ≤ 102) = true from decide_eq_true (by omega), letv (by omega) h3 h4]
          rcases rd5 c0 c1 c2 c3 c4 c5 c6 c7 (n * 16 + (c4.toNat - 87)) (by omega) with ⟨m, e1, e2⟩ | ⟨e1, q, e2⟩
          · rw [e2]; exact .inl ⟨m, by rw [unhexL, valD_let h3 h4]; exact e1, rfl⟩
          · rw [e2]; exact .inr ⟨by rw [unhexL, valD_let h3 h4]; exact e1, _, rfl⟩
        · rw [show decide ((c4.toNat : Int) ≤ 102) = false from decide_eq_false (by omega)]
          exact .inr ⟨by rw [unhexL, valD_non (by omega) (by omega)], _, rfl⟩
      · rw [show decide ((c4.toNat : Int) ≥ 97) = false from decide_eq_false (by omega)]
        exact .inr ⟨by rw [unhexL, valD_non (by omega) (by omega)], _, rfl⟩
  · rw [show decide ((c4.toNat : Int) ≥ 48) = false from decide_eq_false (by omega), show decide ((c4.toNat : Int) ≥ 97) = false from decide_eq_false (by omega)]
    exact .inr ⟨by rw [unhexL, valD_non (by omega) (by omega)], _, rfl⟩
/-- from digit 3 on -/
theorem rd3 (n : Nat) (hn : n < 4096) : (∃ m, unhexL n [c3, c4, c5, c6, c7] = some m ∧ r96l0f (mkB [c0, c1, c2, c3, c4, c5, c6, c7]) (n : Int) = (0, (m : Int), 0)) ∨ (unhexL n [c3, c4, c5, c6, c7] = none ∧ ∃ q, r96l0f (mkB [c0, c1, c2, c3, c4, c5, c6, c7]) (n : Int) = (1, 0, q)) := by
  have e : List.getD (ByteArray.data (mkB [c0, c1, c2, c3, c4, c5, c6, c7])).toList 3 0 = c3 := rfl
  have es : Nat.blt 3 (ByteArray.size (mkB [c0, c1, c2, c3, c4, c5, c6, c7])) = true := rfl
  unfold r96l0f w96l0f
  simp only [e, es]
  by_cases h1 : 48 ≤ c3.toNat
  · rw [show decide ((c3.toNat : Int) ≥ 48) = true from decide_eq_true (by omega)]
    by_cases h2 : c3.toNat ≤ 57
    · rw [show decide ((c3.toNat : Int) ≤ 57) = true from decide_eq_true (by omega), digv (by omega) h1 h2]
      rcases rd4 c0 c1 c2 c3 c4 c5 c6 c7 (n * 16 + (c3.toNat - 48)) (by omega) with ⟨m, e1, e2⟩ | ⟨e1, q, e2⟩
      · rw [e2]; exact .inl ⟨m, by rw [unhexL, valD_dec h1 h2]; exact e1, rfl⟩
      · rw [e2]; exact .inr ⟨by rw [unhexL, valD_dec h1 h2]; exact e1, _, rfl⟩
    · rw [show decide ((c3.toNat : Int) ≤ 57) = false from decide_eq_false (by omega)]
      by_cases h3 : 97 ≤ c3.toNat
      · rw [show decide ((c3.toNat : Int) ≥ 97) = true from decide_eq_true (by omega)]
        by_cases h4 : c3.toNat ≤ 102
        · rw [show decide ((c3.toNat : Int) ≤ 102) = true from decide_eq_true (by omega), letv (by omega) h3 h4]
          rcases rd4 c0 c1 c2 c3 c4 c5 c6 c7 (n * 16 + (c3.toNat - 87)) (by omega) with ⟨m, e1, e2⟩ | ⟨e1, q, e2⟩
          · rw [e2]; exact .inl ⟨m, by rw [unhexL, valD_let h3 h4]; exact e1, rfl⟩
          · rw [e2]; exact .inr ⟨by rw [unhexL, valD_let h3 h4]; exact e1, _, rfl⟩
        · rw [show decide ((c3.toNat : Int) ≤ 102) = false from decide_eq_false (by omega)]
          exact .inr ⟨by rw [unhexL, valD_non (by omega) (by omega)], _, rfl⟩
      · rw [show decide ((c3.toNat : Int) ≥ 97) = false from decide_eq_false (by omega)]
        exact .inr ⟨by rw [unhexL, valD_non (by omega) (by omega)], _, rfl⟩
  · rw [show decide ((c3.toNat : Int) ≥ 48) = false from decide_eq_false (by omega), show decide ((c3.toNat : Int) ≥ 97) = false from decide_eq_false (by omega)]
    exact .inr ⟨by rw [unhexL, valD_non (by omega) (by omega)], _, rfl⟩
/-- from digit 2 on -/
theorem rd2 (n : Nat) (hn : n < 256) : (∃ m, unhexL n [c2, c3, c4, c5, c6, c7] = some m ∧ r96l0g (mkB [c0, c1, c2, c3, c4, c5, c6, c7]) (n : Int) = (0, (m : Int), 0)) ∨ (unhexL n [c2, c3, c4, c5, c6, c7] = none ∧ ∃ q, r96l0g (mkB [c0, c1, c2, c3, c4, c5, c6, c7]) (n : Int) = (1, 0, q)) := by
  have e : List.getD (ByteArray.data (mkB [c0, c1, c2, c3, c4, c5, c6, c7])).toList 2 0 = c2 := rfl
  have es : Nat.blt 2 (ByteArray.size (mkB [c0, c1, c2, c3, c4, c5, c6, c7])) = true := rfl
  unfold r96l0g w96l0g
  simp only [e, es]
  by_cases h1 : 48 ≤ c2.toNat
  · rw [show decide ((c2.toNat : Int) ≥ 48) = true from decide_eq_true (by omega)]
    by_cases h2 : c2.toNat ≤ 57
    · rw [show decide ((c2.toNat : Int) ≤ 57) = true from decide_eq_true (by omega), digv (by omega) h1 h2]
      rcases rd3 c0 c1 c2 c3 c4 c5 c6 c7 (n * 16 + (c2.toNat - 48)) (by omega) with ⟨m, e1, e2⟩ | ⟨e1, q, e2⟩
      · rw [e2]; exact .inl ⟨m, by rw [unhexL, valD_dec h1 h2]; exact e1, rfl⟩
      · rw [e2]; exact .inr ⟨by rw [unhexL, valD_dec h1 h2]; exact e1, _, rfl⟩
    · rw [show decide ((c2.toNat : Int) ≤ 57) = false from decide_eq_false (by omega)]
      by_cases h3 : 97 ≤ c2.toNat
      · rw [show decide ((c2.toNat : Int) ≥ 97) = true from decide_eq_true (by omega)]
        by_cases h4 : c2.toNat ≤ 102
        · rw [show decide ((c2.toNat : Int) ≤ 102) = true from decide_eq_true (by omega), letv (by omega) h3 h4]
          rcases rd3 c0 c1 c2 c3 c4 c5 c6 c7 (n * 16 + (c2.toNat - 87)) (by omega) with ⟨m, e1, e2⟩ | ⟨e1, q, e2⟩
          · rw [e2]; exact .inl ⟨m, by rw [unhexL, valD_let h3 h4]; exact e1, rfl⟩
          · rw [e2]; exact .inr ⟨by rw [unhexL, valD_let h3 h4]; exact e1, _, rfl⟩
        · rw [show decide ((c2.toNat : Int) ≤ 102) = false from decide_eq_false (by omega)]
          exact .inr ⟨by rw [unhexL, valD_non (by omega) (by omega)], _, rfl⟩
      · rw [show decide ((c2.toNat : Int) ≥ 97) = false from decide_eq_false (by omega)]
        exact .inr ⟨by rw [unhexL, valD_non (by omega) (by omega)], _, rfl⟩
  · rw [show decide ((c2.toNat : Int) ≥ 48) = false from decide_eq_false (by omega), show decide ((c2.toNat : Int) ≥ 97) = false from decide_eq_false (by omega)]
    exact .inr ⟨by rw [unhexL, valD_non (by omega) (by omega)], _, rfl⟩
/-- from digit 1 on -/
theorem rd1 (n : Nat) (hn : n < 16) : (∃ m, unhexL n [c1, c2, c3, c4, c5, c6, c7] = some m ∧ r96l0h (mkB [c0, c1, c2, c3, c4, c5, c6, c7]) (n : Int) = (0, (m : Int), 0)) ∨ (unhexL n [c1, c2, c3, c4, c5, c6, c7] = none ∧ ∃ q, r96l0h (mkB [c0, c1, c2, c3, c4, c5, c6, c7]) (n : Int) = (1, 0, q)) := by
  have e : List.getD (ByteArray.data (mkB [c0, c1, c2, c3, c4, c5, c6, c7])).toList 1 0 = c1 := rfl
  have es : Nat.blt 1 (ByteArray.size (mkB [c0, c1, c2, c3, c4, c5, c6, c7])) = true := rfl
  unfold r96l0h w96l0h
  simp only [e, es]
  by_cases h1 : 48 ≤ c1.toNat
  · rw [show decide ((c1.toNat : Int) ≥ 48) = true from decide_eq_true (by omega)]
    by_cases h2 : c1.toNat ≤ 57
    · rw [show decide ((c1.toNat : Int) ≤ 57) = true from decide_eq_true (by omega), digv (by omega) h1 h2]
      rcases rd2 c0 c1 c2 c3 c4 c5 c6 c7 (n * 16 + (c1.toNat - 48)) (by omega) with ⟨m, e1, e2⟩ | ⟨e1, q, e2⟩
      · rw [e2]; exact .inl ⟨m, by rw [unhexL, valD_dec h1 h2]; exact e1, rfl⟩
      · rw [e2]; exact .inr ⟨by rw [unhexL, valD_dec h1 h2]; exact e1, _, rfl⟩
    · rw [show decide ((c1.toNat : Int) ≤ 57) = false from decide_eq_false (by omega)]
      by_cases h3 : 97 ≤ c1.toNat
      · rw [show decide ((c1.toNat : Int) ≥ 97) = true from decide_eq_true (by omega)]
        by_cases h4 : c1.toNat ≤ 102
        · rw [show decide ((c1.toNat : Int) ≤ 102) = true from decide_eq_true (by omega), letv (by omega) h3 h4]
          rcases rd2 c0 c1 c2 c3 c4 c5 c6 c7 (n * 16 + (c1.toNat - 87)) (by omega) with ⟨m, e1, e2⟩ | ⟨e1, q, e2⟩
          · rw [e2]; exact .inl ⟨m, by rw [unhexL, valD_let h3 h4]; exact e1, rfl⟩
          · rw [e2]; exact .inr ⟨by rw [unhexL, valD_let h3 h4]; exact e1, _, rfl⟩
        · rw [show decide ((c1.toNat : Int) ≤ 102) = false from decide_eq_false (by omega)]
          exact .inr ⟨by rw [unhexL, valD_non (by omega) (by omega)], _, rfl⟩
      · rw [show decide ((c1.toNat : Int) ≥ 97) = false from decide_eq_false (by omega)]
        exact .inr ⟨by rw [unhexL, valD_non (by omega) (by omega)], _, rfl⟩
  · rw [show decide ((c1.toNat : Int) ≥ 48) = false from decide_eq_false (by omega), show decide ((c1.toNat : Int) ≥ 97) = false from decide_eq_false (by omega)]
    exact .inr ⟨by rw [unhexL, valD_non (by omega) (by omega)], _, rfl⟩
/-- from digit 0 on -/
theorem rd0 : (∃ m, unhexL 0 [c0, c1, c2, c3, c4, c5, c6, c7] = some m ∧ r96l0i (mkB [c0, c1, c2, c3, c4, c5, c6, c7]) = (0, (m : Int), 0)) ∨ (unhexL 0 [c0, c1, c2, c3, c4, c5, c6, c7] = none ∧ ∃ q, r96l0i (mkB [c0, c1, c2, c3, c4, c5, c6, c7]) = (1, 0, q)) := by
  have e : List.getD (ByteArray.data (mkB [c0, c1, c2, c3, c4, c5, c6, c7])).toList 0 0 = c0 := rfl
  have es : Nat.blt 0 (ByteArray.size (mkB [c0, c1, c2, c3, c4, c5, c6, c7])) = true := rfl
  unfold r96l0i w96l0i
  simp only [e, es]
  by_cases h1 : 48 ≤ c0.toNat
  · rw [show decide ((c0.toNat : Int) ≥ 48) = true from decide_eq_true (by omega)]
    by_cases h2 : c0.toNat ≤ 57
    · rw [show decide ((c0.toNat : Int) ≤ 57) = true from decide_eq_true (by omega), digv0 h1 h2]
      rcases rd1 c0 c1 c2 c3 c4 c5 c6 c7 (0 * 16 + (c0.toNat - 48)) (by omega) with ⟨m, e1, e2⟩ | ⟨e1, q, e2⟩
      · rw [e2]; exact .inl ⟨m, by rw [unhexL, valD_dec h1 h2]; exact e1, rfl⟩
      · rw [e2]; exact .inr ⟨by rw [unhexL, valD_dec h1 h2]; exact e1, _, rfl⟩
    · rw [show decide ((c0.toNat : Int) ≤ 57) = false from decide_eq_false (by omega)]
      by_cases h3 : 97 ≤ c0.toNat
      · rw [show decide ((c0.toNat : Int) ≥ 97) = true from decide_eq_true (by omega)]
        by_cases h4 : c0.toNat ≤ 102
        · rw [show decide ((c0.toNat : Int) ≤ 102) = true from decide_eq_true (by omega), letv0 h3 h4]
          rcases rd1 c0 c1 c2 c3 c4 c5 c6 c7 (0 * 16 + (c0.toNat - 87)) (by omega) with ⟨m, e1, e2⟩ | ⟨e1, q, e2⟩
          · rw [e2]; exact .inl ⟨m, by rw [unhexL, valD_let h3 h4]; exact e1, rfl⟩
          · rw [e2]; exact .inr ⟨by rw [unhexL, valD_let h3 h4]; exact e1, _, rfl⟩
        · rw [show decide ((c0.toNat : Int) ≤ 102) = false from decide_eq_false (by omega)]
          exact .inr ⟨by rw [unhexL, valD_non (by omega) (by omega)], _, rfl⟩
      · rw [show decide ((c0.toNat : Int) ≥ 97) = false from decide_eq_false (by omega)]
        exact .inr ⟨by rw [unhexL, valD_non (by omega) (by omega)], _, rfl⟩
  · rw [show decide ((c0.toNat : Int) ≥ 48) = false from decide_eq_false (by omega), show decide ((c0.toNat : Int) ≥ 97) = false from decide_eq_false (by omega)]
    exact .inr ⟨by rw [unhexL, valD_non (by omega) (by omega)], _, rfl⟩
end
theorem eight {l : List UInt8} (h : l.length = 8) : ∃ c0 c1 c2 c3 c4 c5 c6 c7, l = [c0, c1, c2, c3, c4, c5, c6, c7] := by
  match l, h with
  | [c0, c1, c2, c3, c4, c5, c6, c7], _ => exact ⟨c0, c1, c2, c3, c4, c5, c6, c7, rfl⟩
theorem bits_eq (n : Nat) : (r113 n == (n : Int)) = !(isN .f32 n && !Nat.beq n 2143289344) := by
  unfold r113
  rw [feq_self]
  cases h : isN .f32 n with
  | true =>
    show ((2143289344 : Int) == (n : Int)) = !(true && !Nat.beq n 2143289344)
    cases hb : Nat.beq n 2143289344 with
    | true => have := Nat.eq_of_beq_eq_true hb; subst this; rfl
    | false =>
      have : n ≠ 2143289344 := fun e => by subst e; simp at hb
      rw [show ((2143289344 : Int) == (n : Int)) = false from beq_eq_false_iff_ne.2 (by omega)]; rfl
  | false => simp
/-- the reference reads a number -/
theorem read_spec (s : ByteArray) : r96 s = (0, (if rdL s.data.toList = none then (r96 s).2.1 else (rdL s.data.toList).getD 0), (rdL s.data.toList).isSome) := by
  by_cases hl : s.data.toList.length = 8
  · obtain ⟨c0, c1, c2, c3, c4, c5, c6, c7, e⟩ := eight hl
    have es : s = mkB [c0, c1, c2, c3, c4, c5, c6, c7] := by rw [← e]; rfl
    subst es
    have hz : ((((mkB [c0, c1, c2, c3, c4, c5, c6, c7]).size : Nat) : Int) != 8) = false := rfl
    have key : r96 (mkB [c0, c1, c2, c3, c4, c5, c6, c7]) = (0, (unhexL 0 [c0, c1, c2, c3, c4, c5, c6, c7]).getD 0, (rdL [c0, c1, c2, c3, c4, c5, c6, c7]).isSome) := by
      unfold r96 w96
      rcases rd0 c0 c1 c2 c3 c4 c5 c6 c7 with ⟨m, e1, e2⟩ | ⟨e1, q, e2⟩
      · have e2 : r96l0i (mkB [c0, c1, c2, c3, c4, c5, c6, c7]) = (0, (m : Int), 0) := e2
        rw [hz, e2, rdL_of (l := [c0, c1, c2, c3, c4, c5, c6, c7]) rfl e1, e1]
        show (0, Int.toNat (m : Int), (r113 (Int.toNat (m : Int)) == (m : Int))) = _
        rw [Int.toNat_natCast, bits_eq]
        cases (isN .f32 m && !Nat.beq m 2143289344) <;> rfl
      · have e2 : r96l0i (mkB [c0, c1, c2, c3, c4, c5, c6, c7]) = (1, 0, q) := e2
        rw [hz, e2, e1, rdL_no e1]
        rfl
    rw [mkB_data]
    by_cases hr : rdL [c0, c1, c2, c3, c4, c5, c6, c7] = none
    · rw [if_pos hr, hr]
      refine Prod.ext ?_ (Prod.ext rfl ?_)
      · rw [key]
      · rw [key, hr]
    · rw [if_neg hr, key]
      cases hu : unhexL 0 [c0, c1, c2, c3, c4, c5, c6, c7] with
      | none => exact absurd (rdL_no hu) hr
      | some m =>
        rw [rdL_of rfl hu] at hr ⊢
        split at hr
        · exact absurd rfl hr
        · rename_i hc; rw [if_neg hc]
  · have hn : rdL s.data.toList = none := by unfold rdL; rw [if_neg hl]
    rw [if_pos hn, hn]
    unfold r96 w96
    rw [show (((s.size : Nat) : Int) != 8) = true from bne_iff_ne.2 (by rw [size_eq]; omega)]
    rfl
/-! ### the program reads a number -/
abbrev HEX : ByteArray := ByteArray.mk #[48, 49, 50, 51, 52, 53, 54, 55, 56, 57, 97, 98, 99, 100, 101, 102]
theorem hex_all : ∀ c : Fin 256, Lib.indexByte [48, 49, 50, 51, 52, 53, 54, 55, 56, 57, 97, 98, 99, 100, 101, 102] (UInt8.ofNat c.val) = (match valD (UInt8.ofNat c.val) with | some v => (v : Int) | none => -1) := by decide +kernel
theorem ix_hex (c : UInt8) : ixB HEX ((c.toNat : Nat) : Int) = (match valD c with | some v => (v : Int) | none => -1) := by
  have h := hex_all ⟨c.toNat, c.toNat_lt⟩
  rw [show UInt8.ofNat (⟨c.toNat, c.toNat_lt⟩ : Fin 256).val = c from u8_of c] at h
  unfold ixB
  rw [Int.toNat_natCast, show c.toNat.toUInt8 = c from u8_of c]
  exact h
theorem or_dig {n v : Nat} (hn : n < 268435456) (hv : v < 16) : bits .or .u32 (IntKind.u32.wrap ((n : Int) * 2 ^ (min (4 : Int).toNat (IntKind.bits .u32)))) (IntKind.u32.wrap (v : Int)) = ((n * 16 + v : Nat) : Int) := by
  rw [show (2 : Int) ^ (min (4 : Int).toNat (IntKind.bits .u32)) = 16 from rfl, wrap_u32 (z := (n : Int) * 16) (by omega) (by omega), wrap_u32 (z := (v : Int)) (by omega) (by omega)]
  have e : bits .or .u32 ((n : Int) * 16) (v : Int) = IntKind.u32.wrap (((BitVec.ofInt 32 ((n : Int) * 16) ||| BitVec.ofInt 32 (v : Int)).toNat : Nat) : Int) := rfl
  have e1 : (BitVec.ofInt 32 ((n : Int) * 16)).toNat = n * 16 := by
    rw [BitVec.toNat_ofInt]; omega
  have e2 : (BitVec.ofInt 32 (v : Int)).toNat = v := by
    rw [BitVec.toNat_ofInt]; omega
  have e3 : n * 16 ||| v = n * 16 + v := by
    have := Nat.two_pow_add_eq_or_of_lt (i := 4) (b := v) (by omega) n
    rw [Nat.mul_comm n 16]
    exact this.symm
  rw [e, BitVec.toNat_or, e1, e2, e3, wrap_u32 (by omega) (by omega)]
section
variable (s : ByteArray) (hl : s.data.toList.length = 8)
include hl
theorem unhex_loop : ∀ (k i n fuel : Nat), i + k = 8 → k < fuel → n < 16 ^ i →
    (∃ m, unhexL n (s.data.toList.drop i) = some m ∧ r46l0 fuel s (n : Int) 8 (i : Int) = (1, 0, (m : Int))) ∨ (unhexL n (s.data.toList.drop i) = none ∧ ∃ q, r46l0 fuel s (n : Int) 8 (i : Int) = (0, q, 0)) := by
  intro k
  induction k with
  | zero =>
    intro i n fuel hi hf hn
    obtain ⟨m, rfl⟩ : ∃ m, fuel = m + 1 := ⟨fuel - 1, by omega⟩
    obtain rfl : i = 8 := by omega
    left
    refine ⟨n, by rw [List.drop_of_length_le (by omega)]; rfl, ?_⟩
    show b46l0 (r46l0 m) _ _ _ _ = _
    unfold b46l0 w46l0
    rfl
  | succ k ih =>
    intro i n fuel hi hf hn
    obtain ⟨m, rfl⟩ : ∃ m, fuel = m + 1 := ⟨fuel - 1, by omega⟩
    have hi8 : i < 8 := by omega
    have hlt : i < s.data.toList.length := by omega
    have hd : s.data.toList.drop i = s.data.toList[i] :: s.data.toList.drop (i + 1) := List.drop_eq_getElem_cons hlt
    have hg : List.getD s.data.toList i 0 = s.data.toList[i] := by rw [List.getD_eq_getElem?_getD, List.getElem?_eq_getElem hlt]; rfl
    show (∃ m', _ ∧ b46l0 (r46l0 m) _ _ _ _ = _) ∨ (_ ∧ ∃ q, b46l0 (r46l0 m) _ _ _ _ = _)
    unfold b46l0 w46l0
    have hn16 : n < 268435456 := by
      have : 16 ^ i ≤ 16 ^ 7 := Nat.pow_le_pow_right (by decide) (by omega)
      have : (16 : Nat) ^ 7 = 268435456 := by decide
      omega
    simp only [Int.toNat_natCast, hg]
    rw [show decide ((i : Int) < 8) = true from decide_eq_true (by omega), dle0, blt_t (show i < s.size by rw [size_eq]; omega), ix_hex, hd]
    generalize s.data.toList[i] = c
    cases hv : valD c with
    | none =>
      right
      exact ⟨by rw [unhexL, hv], _, rfl⟩
    | some v =>
      have hv16 := (dig_valD hv).1
      simp only [hv]
      rw [show decide ((v : Int) < 0) = false from decide_eq_false (by omega), or_dig hn16 hv16, wrap_succ (by omega)]
      have hp : n * 16 + v < 16 ^ (i + 1) := by rw [Nat.pow_succ]; omega
      rcases ih (i + 1) (n * 16 + v) m (by omega) (by omega) hp with ⟨m', e1, e2⟩ | ⟨e1, q, e2⟩
      · exact .inl ⟨m', by rw [unhexL, hv]; exact e1, e2⟩
      · exact .inr ⟨by rw [unhexL, hv]; exact e1, q, e2⟩
theorem unhex_eq : r46 s = match unhexL 0 s.data.toList with | some m => (0, (m : Int), true) | none => (0, 0, false) := by
  unfold r46 w46
  have hz : s.size = 8 := by rw [size_eq]; exact hl
  rw [hz]
  rcases unhex_loop s hl 8 0 0 1008 (by omega) (by omega) (by omega) with ⟨m, e1, e2⟩ | ⟨e1, q, e2⟩
  · have e2 : r46l0 (1000 + 8) s 0 ((8 : Nat) : Int) 0 = (1, 0, (m : Int)) := e2
    rw [e2, show unhexL 0 s.data.toList = some m from e1]; rfl
  · have e2 : r46l0 (1000 + 8) s 0 ((8 : Nat) : Int) 0 = (0, q, 0) := e2
    rw [e2, show unhexL 0 s.data.toList = none from e1]; rfl
end
theorem unhex_bad {s : ByteArray} (hl : s.data.toList.length ≠ 8) : r46 s = (0, 0, false) := by
  unfold r46 w46
  rw [show (((s.size : Nat) : Int) != 8) = true from bne_iff_ne.2 (by rw [size_eq]; omega)]
  rfl
/-! ### .. and writes one -/
theorem and15 (n m : Nat) (hn : n < 4294967296) : bits .and .u32 (Int.fdiv (n : Int) (2 ^ m)) 15 = ((n / 2 ^ m % 16 : Nat) : Int) := by
  have e0 : Int.fdiv (n : Int) (2 ^ m) = ((n / 2 ^ m : Nat) : Int) := by
    rw [Int.fdiv_eq_ediv_of_nonneg _ (Int.le_of_lt (Int.pow_pos (by decide)))]
    rw [Int.natCast_ediv, Int.natCast_pow]; rfl
  rw [e0]
  have hle : n / 2 ^ m < 4294967296 := Nat.lt_of_le_of_lt (Nat.div_le_self _ _) hn
  generalize n / 2 ^ m = q at hle
  have e : bits .and .u32 (q : Int) 15 = IntKind.u32.wrap (((BitVec.ofInt 32 (q : Int) &&& BitVec.ofInt 32 15).toNat : Nat) : Int) := rfl
  have e1 : (BitVec.ofInt 32 (q : Int)).toNat = q := by rw [BitVec.toNat_ofInt]; omega
  have e2 : (BitVec.ofInt 32 15).toNat = 15 := rfl
  have e3 : q &&& 15 = q % 16 := Nat.and_two_pow_sub_one_eq_mod q 4
  rw [e, BitVec.toNat_and, e1, e2, e3, wrap_u32 (by omega) (by omega)]
theorem tab_dig_all : ∀ d : Fin 16, List.getD (ByteArray.data HEX).toList d.val 0 = dig d.val := by decide +kernel
theorem tab_dig (x : Nat) : ((UInt8.toNat (List.getD (ByteArray.data HEX).toList (x % 16) 0) : Nat) : Int) = (((dig (x % 16)).toNat : Nat) : Int) := by
  rw [tab_dig_all ⟨x % 16, Nat.mod_lt _ (by decide)⟩]
theorem tab2 (x : Nat) : List.getD [48, 49, 50, 51, 52, 53, 54, 55, 56, 57, 97, 98, 99, 100, 101, 102] (x % 16) 0 = dig (x % 16) := tab_dig_all ⟨x % 16, Nat.mod_lt _ (by decide)⟩
theorem of_u8 (c : UInt8) : UInt8.ofNat (Int.toNat ((c.toNat : Nat) : Int)) = c := by rw [Int.toNat_natCast]; exact u8_of c
theorem bytes8 (c0 c1 c2 c3 c4 c5 c6 c7 : UInt8) : bytesOf [[((c0.toNat : Nat) : Int)], [((c1.toNat : Nat) : Int)], [((c2.toNat : Nat) : Int)], [((c3.toNat : Nat) : Int)], [((c4.toNat : Nat) : Int)], [((c5.toNat : Nat) : Int)], [((c6.toNat : Nat) : Int)], [((c7.toNat : Nat) : Int)]] = mkB [c0, c1, c2, c3, c4, c5, c6, c7] := by
  unfold bytesOf
  simp only [List.map_cons, List.map_nil, List.getD_cons_zero, List.foldl_cons, List.foldl_nil, of_u8]
  rfl
theorem hex_eq {n : Nat} (hn : n < 4294967296) : r48 (n : Int) = (0, mkB (hexL n)) := by
  unfold r48 w48
  rw [show (min (28 : Int).toNat (IntKind.bits .u32)) = 28 from rfl, show (min (24 : Int).toNat (IntKind.bits .u32)) = 24 from rfl, show (min (20 : Int).toNat (IntKind.bits .u32)) = 20 from rfl, show (min (16 : Int).toNat (IntKind.bits .u32)) = 16 from rfl, show (min (12 : Int).toNat (IntKind.bits .u32)) = 12 from rfl, show (min (8 : Int).toNat (IntKind.bits .u32)) = 8 from rfl, show (min (4 : Int).toNat (IntKind.bits .u32)) = 4 from rfl, show (min (0 : Int).toNat (IntKind.bits .u32)) = 0 from rfl]
  simp only [and15 n _ hn, Int.toNat_natCast, tab_dig, dle0, blt_t (Nat.mod_lt _ (show 16 > 0 by decide)), Bool.true_and, cond_true]
  rw [bytes8]
  unfold hexL
  simp only [Nat.reducePow, Nat.div_one, tab2]
theorem text_eq {n : Nat} (hn : n < 4294967296) : r11 n = (0, mkB (numL n)) := by
  unfold r11 numL
  rw [feq_self, hex_eq hn, Bool.not_not]
  cases isN .f32 n <;> rfl
/-- the program reads a number -/
theorem read_impl (s : ByteArray) : r10 s = (0, (rdL s.data.toList).getD 0, if rdL s.data.toList = none then 5 else 0) := by
  unfold r10 w10
  by_cases hl : s.data.toList.length = 8
  · rw [unhex_eq s hl]
    cases hu : unhexL 0 s.data.toList with
    | none =>
      have : rdL s.data.toList = none := rdL_no hu
      rw [this]; rfl
    | some m =>
      obtain ⟨h1, h2⟩ := hexL_unhex hl hu
      simp only [Int.toNat_natCast]
      rw [text_eq h1, rdL_of hl hu]
      have e : ((mkB (numL m)).toList == s.toList) = !(isN .f32 m && !Nat.beq m 2143289344) := by
        rw [toList_eq, toList_eq, mkB_data, ← h2]
        unfold numL
        cases hn : isN .f32 m with
        | false => simp
        | true =>
          rw [if_pos rfl]
          cases hb : Nat.beq m 2143289344 with
          | true => have := Nat.eq_of_beq_eq_true hb; subst this; rw [nanL_eq]; simp
          | false =>
            have : m ≠ 2143289344 := fun e => by subst e; simp at hb
            have hne : nanL ≠ hexL m := fun e => by
              rw [← nanL_eq] at e
              have := unhex_hexL h1
              rw [← e, unhex_hexL (by decide)] at this
              simp at this; omega
            simp [hne]
      show (cond (Nat.beq 0 0) (cond (!true) _ (cond (Nat.beq 0 0) (cond (!((mkB (numL m)).toList == s.toList)) _ _) _)) _) = _
      rw [e]
      cases (isN .f32 m && !Nat.beq m 2143289344) <;> rfl
  · rw [unhex_bad hl]
    have : rdL s.data.toList = none := by unfold rdL; rw [if_neg hl]
    rw [this]; rfl
end Go.Proofs.YtbmagccjcccnaaaGreatDoor
