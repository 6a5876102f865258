/- Numbers are read from their texts. -/
import Derived.Test.YtffpnkkhcgjmfaaGreatDoorA38
import Derived.Test.YtffpnkkhcgjmfaaGreatDoorFl6
namespace Go.Proofs.YtffpnkkhcgjmfaaGreatDoor
open Go.Ab

theorem wrap_u32 {z : Int} (h0 : 0 ≤ z) (h1 : z < 4294967296) : IntKind.u32.wrap z = z := by
  have e : IntKind.u32.wrap z = z % 4294967296 := by
    unfold IntKind.wrap
    rw [show IntKind.u32.bits = 32 from rfl, show IntKind.u32.signed = false from rfl]
    rfl
  rw [e]; omega
theorem wrap_u8 {z : Int} (h0 : 0 ≤ z) (h1 : z < 256) : IntKind.u8.wrap z = z := by
  have e : IntKind.u8.wrap z = z % 256 := by
    unfold IntKind.wrap
    rw [show IntKind.u8.bits = 8 from rfl, show IntKind.u8.signed = false from rfl]
    rfl
  rw [e]; omega
theorem digv {n : Nat} {c : UInt8} (hn : n < 268435456) (h1 : 48 ≤ c.toNat) (h2 : c.toNat ≤ 57) : IntKind.u32.wrap (IntKind.u32.wrap ((n : Int) * 16) + IntKind.u32.wrap (IntKind.u8.wrap ((c.toNat : Int) - 48))) = ((n * 16 + (c.toNat - 48) : Nat) : Int) := by
  rw [wrap_u8 (by omega) (by omega), wrap_u32 (z := (n : Int) * 16) (by omega) (by omega), wrap_u32 (z := (c.toNat : Int) - 48) (by omega) (by omega), wrap_u32 (by omega) (by omega)]
  omega
theorem letv {n : Nat} {c : UInt8} (hn : n < 268435456) (h1 : 97 ≤ c.toNat) (h2 : c.toNat ≤ 102) : IntKind.u32.wrap (IntKind.u32.wrap (IntKind.u32.wrap ((n : Int) * 16) + IntKind.u32.wrap (IntKind.u8.wrap ((c.toNat : Int) - 97))) + 10) = ((n * 16 + (c.toNat - 87) : Nat) : Int) := by
  rw [wrap_u8 (by omega) (by omega), wrap_u32 (z := (n : Int) * 16) (by omega) (by omega), wrap_u32 (z := (c.toNat : Int) - 97) (by omega) (by omega), wrap_u32 (z := (n : Int) * 16 + ((c.toNat : Int) - 97)) (by omega) (by omega), wrap_u32 (by omega) (by omega)]
  omega
theorem digv0 {c : UInt8} (h1 : 48 ≤ c.toNat) (h2 : c.toNat ≤ 57) : IntKind.u32.wrap (0 + IntKind.u32.wrap (IntKind.u8.wrap ((c.toNat : Int) - 48))) = ((0 * 16 + (c.toNat - 48) : Nat) : Int) := by
  rw [wrap_u8 (by omega) (by omega), wrap_u32 (z := (c.toNat : Int) - 48) (by omega) (by omega), wrap_u32 (by omega) (by omega)]
  omega
theorem letv0 {c : UInt8} (h1 : 97 ≤ c.toNat) (h2 : c.toNat ≤ 102) : IntKind.u32.wrap (IntKind.u32.wrap (0 + IntKind.u32.wrap (IntKind.u8.wrap ((c.toNat : Int) - 97))) + 10) = ((0 * 16 + (c.toNat - 87) : Nat) : Int) := by
  rw [wrap_u8 (by omega) (by omega), wrap_u32 (z := (c.toNat : Int) - 97) (by omega) (by omega), wrap_u32 (z := 0 + ((c.toNat : Int) - 97)) (by omega) (by omega), wrap_u32 (by omega) (by omega)]
  omega
theorem valD_dec {c : UInt8} (h1 : 48 ≤ c.toNat) (h2 : c.toNat ≤ 57) : valD c = some (c.toNat - 48) := by unfold valD; rw [if_pos ⟨h1, h2⟩]
theorem valD_let {c : UInt8} (h1 : 97 ≤ c.toNat) (h2 : c.toNat ≤ 102) : valD c = some (c.toNat - 87) := by unfold valD; rw [if_neg (by omega), if_pos ⟨h1, h2⟩]
theorem valD_non {c : UInt8} (h1 : ¬ (48 ≤ c.toNat ∧ c.toNat ≤ 57)) (h2 : ¬ (97 ≤ c.toNat ∧ c.toNat ≤ 102)) : valD c = none := by unfold valD; rw [if_neg h1, if_neg h2]
theorem dge {a b : Nat} (h : b ≤ a) : decide ((a : Int) ≥ (b : Int)) = true := by rw [decide_eq_true_eq]; omega
section
variable (c0 c1 c2 c3 c4 c5 c6 c7 : UInt8)
end
theorem eight {l : List UInt8} (h : l.length = 8) : ∃ c0 c1 c2 c3 c4 c5 c6 c7, l = [c0, c1, c2, c3, c4, c5, c6, c7] := by
  match l, h with
  | [c0, c1, c2, c3, c4, c5, c6, c7], _ => exact ⟨c0, c1, c2, c3, c4, c5, c6, c7, rfl⟩
/-! ### the program reads a number -/
abbrev HEX : ByteArray := ByteArray.mk #[48, 49, 50, 51, 52, 53, 54, 55, 56, 57, 97, 98, 99, 100, 101, 102]
theorem hex_all : ∀ c : Fin 256, Lib.indexByte [48, 49, 50, 51, 52, 53, 54, 55, 56, 57, 97, 98, 99, 100, 101, 102] (UInt8.ofNat c.val) = (match valD (UInt8.ofNat c.val) with | some v => (v : Int) | none => -1) := by decide +kernel
theorem ix_hex (c : UInt8) : ixB HEX ((c.toNat : Nat) : Int) = (match valD c with | some v => (v : Int) | none => -1) := by
  have h := hex_all ⟨c.toNat, c.toNat_lt⟩
  rw [show UInt8.ofNat (⟨c.toNat, c.toNat_lt⟩ : Fin 256).val = c from u8_of c] at h
  unfold ixB
  rw [Int.toNat_natCast, show c.toNat.toUInt8 = c from u8_of c]
  exact h
theorem or_dig {n v : Nat} (hn : n < 268435456) (hv : v < 16) : bits .or .u32 (IntKind.u32.wrap ((n : Int) * 2 ^ (min (4 : Int).toNat (IntKind.bits .u32)))) (IntKind.u32.wrap (v : Int)) = ((n * 16 + v : Nat) : Int) := by
  rw [show (2 : Int) ^ (min (4 : Int).toNat (IntKind.bits .u32)) = 16 from rfl, wrap_u32 (z := (n : Int) * 16) (by omega) (by omega), wrap_u32 (z := (v : Int)) (by omega) (by omega)]
  have e : bits .or .u32 ((n : Int) * 16) (v : Int) = IntKind.u32.wrap (((BitVec.ofInt 32 ((n : Int) * 16) ||| BitVec.ofInt 32 (v : Int)).toNat : Nat) : Int) := rfl
  have e1 : (BitVec.ofInt 32 ((n : Int) * 16)).toNat = n * 16 := by
    rw [BitVec.toNat_ofInt]; omega
  have e2 : (BitVec.ofInt 32 (v : Int)).toNat = v := by
    rw [BitVec.toNat_ofInt]; omega
  have e3 : n * 16 ||| v = n * 16 + v := by
    have := Nat.two_pow_add_eq_or_of_lt (i := 4) (b := v) (by omega) n
    rw [Nat.mul_comm n 16]
    exact this.symm
  rw [e, BitVec.toNat_or, e1, e2, e3, wrap_u32 (by omega) (by omega)]
section
variable (s : ByteArray) (hl : s.data.toList.length = 8)
include hl
theorem unhex_loop : ∀ (k i n fuel : Nat), i + k = 8 → k < fuel → n < 16 ^ i →
    (∃ m, unhexL n (s.data.toList.drop i) = some m ∧ r120l0 fuel s (n : Int) 8 (i : Int) = (1, 0, (m : Int))) ∨ (unhexL n (s.data.toList.drop i) = none ∧ ∃ q, r120l0 fuel s (n : Int) 8 (i : Int) = (0, q, 0)) := by
  intro k
  induction k with
  | zero =>
    intro i n fuel hi hf hn
    obtain ⟨m, rfl⟩ : ∃ m, fuel = m + 1 := ⟨fuel - 1, by omega⟩
    obtain rfl : i = 8 := by omega
    left
    refine ⟨n, by rw [List.drop_of_length_le (by omega)]; rfl, ?_⟩
    show b120l0 (r120l0 m) _ _ _ _ = _
    unfold b120l0 w120l0
    rfl
  | succ k ih =>
    intro i n fuel hi hf hn
    obtain ⟨m, rfl⟩ : ∃ m, fuel = m + 1 := ⟨fuel - 1, by omega⟩
    have hi8 : i < 8 := by omega
    have hlt : i < s.data.toList.length := by omega
    have hd : s.data.toList.drop i = s.data.toList[i] :: s.data.toList.drop (i + 1) := List.drop_eq_getElem_cons hlt
    have hg : List.getD s.data.toList i 0 = s.data.toList[i] := by rw [List.getD_eq_getElem?_getD, List.getElem?_eq_getElem hlt]; rfl
    show (∃ m', _ ∧ b120l0 (r120l0 m) _ _ _ _ = _) ∨ (_ ∧ ∃ q, b120l0 (r120l0 m) _ _ _ _ = _)
    unfold b120l0 w120l0
    have hn16 : n < 268435456 := by
      have : 16 ^ i ≤ 16 ^ 7 := Nat.pow_le_pow_right (by decide) (by omega)
      have : (16 : Nat) ^ 7 = 268435456 := by decide
      omega
    simp only [Int.toNat_natCast, hg]
    rw [show decide ((i : Int) < 8) = true from decide_eq_true (by omega), dle0, blt_t (show i < s.size by rw [size_eq]; omega), ix_hex, hd]
    generalize s.data.toList[i] = c
    cases hv : valD c with
    | none =>
      right
      exact ⟨by rw [unhexL, hv], _, rfl⟩
    | some v =>
      have hv16 := (dig_valD hv).1
      simp only [hv]
      rw [show decide ((v : Int) < 0) = false from decide_eq_false (by omega), or_dig hn16 hv16, wrap_succ (by omega)]
      have hp : n * 16 + v < 16 ^ (i + 1) := by rw [Nat.pow_succ]; omega
      rcases ih (i + 1) (n * 16 + v) m (by omega) (by omega) hp with ⟨m', e1, e2⟩ | ⟨e1, q, e2⟩
      · exact .inl ⟨m', by rw [unhexL, hv]; exact e1, e2⟩
      · exact .inr ⟨by rw [unhexL, hv]; exact e1, q, e2⟩
theorem unhex_eq : r120 s = match unhexL 0 s.data.toList with | some m => (0, (m : Int), true) | none => (0, 0, false) := by
  unfold r120 w120
  have hz : s.size = 8 := by rw [size_eq]; exact hl
  rw [hz]
  rcases unhex_loop s hl 8 0 0 1008 (by omega) (by omega) (by omega) with ⟨m, e1, e2⟩ | ⟨e1, q, e2⟩
  · have e2 : r120l0 (1000 + 8) s 0 ((8 : Nat) : Int) 0 = (1, 0, (m : Int)) := e2
    rw [e2, show unhexL 0 s.data.toList = some m from e1]; rfl
  · have e2 : r120l0 (1000 + 8) s 0 ((8 : Nat) : Int) 0 = (0, q, 0) := e2
    rw [e2, show unhexL 0 s.data.toList = none from e1]; rfl
end
theorem unhex_bad {s : ByteArray} (hl : s.data.toList.length ≠ 8) : r120 s = (0, 0, false) := by
  unfold r120 w120
  rw [show (((s.size : Nat) : Int) != 8) = true from bne_iff_ne.2 (by rw [size_eq]; omega)]
  rfl
/-! ### .. and writes one -/
theorem and15 (n m : Nat) (hn : n < 4294967296) : bits .and .u32 (Int.fdiv (n : Int) (2 ^ m)) 15 = ((n / 2 ^ m % 16 : Nat) : Int) := by
  have e0 : Int.fdiv (n : Int) (2 ^ m) = ((n / 2 ^ m : Nat) : Int) := by
    rw [Int.fdiv_eq_ediv_of_nonneg _ (Int.le_of_lt (Int.pow_pos (by decide)))]
    rw [Int.natCast_ediv, Int.natCast_pow]; rfl
  rw [e0]
  have hle : n / 2 ^ m < 4294967296 := Nat.lt_of_le_of_lt (Nat.div_le_self _ _) hn
  generalize n / 2 ^ m = q at hle
  have e : bits .and .u32 (q : Int) 15 = IntKind.u32.wrap (((BitVec.ofInt 32 (q : Int) &&& BitVec.ofInt 32 15).toNat : Nat) : Int) := rfl
  have e1 : (BitVec.ofInt 32 (q : Int)).toNat = q := by rw [BitVec.toNat_ofInt]; omega
  have e2 : (BitVec.ofInt 32 15).toNat = 15 := rfl
  have e3 : q &&& 15 = q % 16 := Nat.and_two_pow_sub_one_eq_mod q 4
  rw [e, BitVec.toNat_and, e1, e2, e3, wrap_u32 (by omega) (by omega)]
theorem tab_dig_all : ∀ d : Fin 16, List.getD (ByteArray.data HEX).toList d.val 0 = dig d.val := by decide +kernel
theorem tab_dig (x : Nat) : ((UInt8.toNat (List.getD (ByteArray.data HEX).toList (x % 16) 0) : Nat) : Int) = (((dig (x % 16)).toNat : Nat) : Int) := by
  rw [tab_dig_all ⟨x % 16, Nat.mod_lt _ (by decide)⟩]
theorem tab2 (x : Nat) : List.getD [48, 49, 50, 51, 52, 53, 54, 55, 56, 57, 97, 98, 99, 100, 101, 102] (x % 16) 0 = dig (x % 16) := tab_dig_all ⟨x % 16, Nat.mod_lt _ (by decide)⟩
theorem of_u8 (c : UInt8) : UInt8.ofNat (Int.toNat ((c.toNat : Nat) : Int)) = c := by rw [Int.toNat_natCast]; exact u8_of c
theorem bytes8 (c0 c1 c2 c3 c4 c5 c6 c7 : UInt8) : bytesOf [[((c0.toNat : Nat) : Int)], [((c1.toNat : Nat) : Int)], [((c2.toNat : Nat) : Int)], [((c3.toNat : Nat) : Int)], [((c4.toNat : Nat) : Int)], [((c5.toNat : Nat) : Int)], [((c6.toNat : Nat) : Int)], [((c7.toNat : Nat) : Int)]] = mkB [c0, c1, c2, c3, c4, c5, c6, c7] := by
  unfold bytesOf
  simp only [List.map_cons, List.map_nil, List.getD_cons_zero, List.foldl_cons, List.foldl_nil, of_u8]
  rfl
theorem hex_eq {n : Nat} (hn : n < 4294967296) : r125 (n : Int) = (0, mkB (hexL n)) := by
  unfold r125 w125
  rw [show (min (28 : Int).toNat (IntKind.bits .u32)) = 28 from rfl, show (min (24 : Int).toNat (IntKind.bits .u32)) = 24 from rfl, show (min (20 : Int).toNat (IntKind.bits .u32)) = 20 from rfl, show (min (16 : Int).toNat (IntKind.bits .u32)) = 16 from rfl, show (min (12 : Int).toNat (IntKind.bits .u32)) = 12 from rfl, show (min (8 : Int).toNat (IntKind.bits .u32)) = 8 from rfl, show (min (4 : Int).toNat (IntKind.bits .u32)) = 4 from rfl, show (min (0 : Int).toNat (IntKind.bits .u32)) = 0 from rfl]
  simp only [and15 n _ hn, Int.toNat_natCast, tab_dig, dle0, blt_t (Nat.mod_lt _ (show 16 > 0 by decide)), Bool.true_and, cond_true]
  rw [bytes8]
  unfold hexL
  simp only [Nat.reducePow, Nat.div_one, tab2]
theorem text_eq {n : Nat} (hn : n < 4294967296) : r84 n = (0, mkB (numL n)) := by
  unfold r84 numL
  rw [feq_self, hex_eq hn, Bool.not_not]
  cases isN .f32 n <;> rfl
/-- the program reads a number -/
theorem read_impl (s : ByteArray) : r80 s = (0, (rdL s.data.toList).getD 0, if rdL s.data.toList = none then 5 else 0) := by
  unfold r80 w80
  by_cases hl : s.data.toList.length = 8
  · rw [unhex_eq s hl]
    cases hu : unhexL 0 s.data.toList with
    | none =>
      have : rdL s.data.toList = none := rdL_no hu
      rw [this]; rfl
    | some m =>
      obtain ⟨h1, h2⟩ := hexL_unhex hl hu
      simp only [Int.toNat_natCast]
      rw [text_eq h1, rdL_of hl hu]
      have e : ((mkB (numL m)).toList == s.toList) = !(isN .f32 m && !Nat.beq m 2143289344) := by
        rw [toList_eq, toList_eq, mkB_data, ← h2]
        unfold numL
        cases hn : isN .f32 m with
        | false => simp
        | true =>
          rw [if_pos rfl]
          cases hb : Nat.beq m 2143289344 with
          | true => have := Nat.eq_of_beq_eq_true hb; subst this; rw [nanL_eq]; simp
          | false =>
            have : m ≠ 2143289344 := fun e => by subst e; simp at hb
            have hne : nanL ≠ hexL m := fun e => by
              rw [← nanL_eq] at e
              have := unhex_hexL h1
              rw [← e, unhex_hexL (by decide)] at this
              simp at this; omega
            simp [hne]
      show (cond (Nat.beq 0 0) (cond (!true) _ (cond (Nat.beq 0 0) (cond (!((mkB (numL m)).toList == s.toList)) _ _) _)) _) = _
      rw [e]
      cases (isN .f32 m && !Nat.beq m 2143289344) <;> rfl
  · rw [unhex_bad hl]
    have : rdL s.data.toList = none := by unfold rdL; rw [if_neg hl]
    rw [this]; rfl
end Go.Proofs.YtffpnkkhcgjmfaaGreatDoor

namespace Go.Proofs.YtffpnkkhcgjmfaaGreatDoor
open Go.Ab
theorem take_all' {α : Type} (s : List α) : (s.drop 0).take s.length = s := by simp
/-! ### validity -/
theorem fin_spec (d : Nat) : r101 d = decide (d % 2147483648 < 2139095040) := finite_sub d
theorem fin_impl (d : Nat) : r57 d = decide (d % 2147483648 < 2139095040) := by
  have e : r100 (widen d) 0 = decide (d % 2147483648 = 2139095040) := abs_top d
  unfold r57 w57 r99 w99
  rw [e, feq_self, isN_widen, isN32]
  by_cases h1 : 2139095040 < d % 2147483648
  · have h2 : ¬ (d % 2147483648 < 2139095040) := by omega
    simp [h1, h2]
  · by_cases h2 : d % 2147483648 = 2139095040
    · simp [h2]
    · have h3 : d % 2147483648 < 2139095040 := by omega
      simp [h1, h2, h3]
theorem amount_eq (d : Nat) (h : d < 4294967296) : r91 d = decide (d < 2139095040) ∧ r94 d = decide (d < 2139095040) := by
  unfold r91 r94 w94
  rw [fin_spec, fin_impl]
  by_cases h1 : d % 2147483648 < 2139095040
  · have hn : isN .f32 d = false := by rw [isN32, decide_eq_false_iff_not]; omega
    have z : isN .f32 0 = false := by decide
    rw [decide_eq_true h1]
    rw [fgt_key .f32 d _ hn z, feq_key .f32 d _ hn z, key32 d h, key32 0 (by decide)]
    have e31 : (min (31 : Int).toNat (IntKind.bits .u32)) = 31 := by decide
    have ef : Int.fdiv (d : Int) (2 ^ 31) = ((d / 2147483648 : Nat) : Int) := by
      rw [Int.fdiv_eq_ediv_of_nonneg _ (by decide)]; rfl
    rw [e31, ef]
    by_cases h2 : 2147483648 ≤ d
    · have g1 : ¬ d < 2139095040 := by omega
      have g2 : d / 2147483648 = 1 := by omega
      have g3 : ((d : Int) == 0) = false := by rw [beq_eq_false_iff_ne]; omega
      have g4 : ¬ ((d : Int) < 2147483648) := by omega
      simp only [if_pos h2, g2]
      simp [g1, g3, g4, hn]
    · have g1 : d < 2139095040 := by omega
      have g2 : d / 2147483648 = 0 := by omega
      simp only [if_neg h2, g2]
      by_cases h3 : d = 0
      · subst h3; simp [hn]
      · have g5 : 0 < d := by omega
        simp [g1, g5]
  · have g1 : ¬ d < 2139095040 := by omega
    rw [decide_eq_false h1, decide_eq_false g1]
    exact ⟨rfl, rfl⟩
/-! ### the reference's cut -/
theorem extract_data (s : ByteArray) (a b : Nat) : s.extract a b = mkB ((s.data.toList.drop a).take (b - a)) := by
  have : (s.extract a b).data.toList = (s.data.toList.drop a).take (b - a) := by
    rw [ByteArray.data_extract, Array.toList_extract]
  rw [← this]; rfl
theorem beq_u8 (a c : UInt8) : ((((a.toNat : Nat) : Int)) == ((c.toNat : Nat) : Int)) = decide (a = c) := by
  by_cases h : a = c
  · subst h; simp
  · rw [decide_eq_false h, beq_eq_false_iff_ne]
    intro e
    exact h (UInt8.toNat_inj.1 (by omega))
section
variable (s : ByteArray) (c : UInt8) (hs : s.size ≤ 1048576)
include hs
end
/-! ### the reference's numbers -/
def rdB (s : ByteArray) : Option Nat := rdL s.data.toList
end Go.Proofs.YtffpnkkhcgjmfaaGreatDoor
