/- Texts of numbers. -/
import Derived.Test.YtffpnkkhcgjmfaaDoorPt4
import Derived.Test.YtffpnkkhcgjmfaaDoorA28
import Derived.Test.YtffpnkkhcgjmfaaDoorA38
namespace Go.Proofs.YtffpnkkhcgjmfaaDoor
open Go.Ab
theorem wrap_u32 {z : Int} (h0 : 0 ≤ z) (h1 : z < 4294967296) : IntKind.u32.wrap z = z := by
  have e : IntKind.u32.wrap z = z % 4294967296 := by
    unfold IntKind.wrap
    rw [show IntKind.u32.bits = 32 from rfl, show IntKind.u32.signed = false from rfl]
    rfl
  rw [e]; omega
abbrev HEX : ByteArray := ⟨#[48, 49, 50, 51, 52, 53, 54, 55, 56, 57, 97, 98, 99, 100, 101, 102]⟩
theorem and15 (n m : Nat) (hn : n < 4294967296) : bits .and .u32 (Int.fdiv (n : Int) (2 ^ m)) 15 = ((n / 2 ^ m % 16 : Nat) : Int) := by
  have e0 : Int.fdiv (n : Int) (2 ^ m) = ((n / 2 ^ m : Nat) : Int) := by
    rw [Int.fdiv_eq_ediv_of_nonneg _ (Int.le_of_lt (Int.pow_pos (by decide)))]
    rw [Int.natCast_ediv, Int.natCast_pow]; rfl
  rw [e0]
  have hle : n / 2 ^ m < 4294967296 := Nat.lt_of_le_of_lt (Nat.div_le_self _ _) hn
  generalize n / 2 ^ m = q at hle
  have e : bits .and .u32 (q : Int) 15 = IntKind.u32.wrap (((BitVec.ofInt 32 (q : Int) &&& BitVec.ofInt 32 15).toNat : Nat) : Int) := rfl
  have e1 : (BitVec.ofInt 32 (q : Int)).toNat = q := by rw [BitVec.toNat_ofInt]; omega
  have e2 : (BitVec.ofInt 32 15).toNat = 15 := rfl
  have e3 : q &&& 15 = q % 16 := Nat.and_two_pow_sub_one_eq_mod q 4
  rw [e, BitVec.toNat_and, e1, e2, e3, wrap_u32 (by omega) (by omega)]
theorem tab_dig_all : ∀ d : Fin 16, List.getD (ByteArray.data HEX).toList d.val 0 = dig d.val := by decide +kernel
theorem tab_dig (x : Nat) : ((UInt8.toNat (List.getD (ByteArray.data HEX).toList (x % 16) 0) : Nat) : Int) = (((dig (x % 16)).toNat : Nat) : Int) := by
  rw [tab_dig_all ⟨x % 16, Nat.mod_lt _ (by decide)⟩]
theorem tab2 (x : Nat) : List.getD [48, 49, 50, 51, 52, 53, 54, 55, 56, 57, 97, 98, 99, 100, 101, 102] (x % 16) 0 = dig (x % 16) := tab_dig_all ⟨x % 16, Nat.mod_lt _ (by decide)⟩
theorem of_u8 (c : UInt8) : UInt8.ofNat (Int.toNat ((c.toNat : Nat) : Int)) = c := by rw [Int.toNat_natCast]; exact u8_of c
theorem bytes8 (c0 c1 c2 c3 c4 c5 c6 c7 : UInt8) : bytesOf [[((c0.toNat : Nat) : Int)], [((c1.toNat : Nat) : Int)], [((c2.toNat : Nat) : Int)], [((c3.toNat : Nat) : Int)], [((c4.toNat : Nat) : Int)], [((c5.toNat : Nat) : Int)], [((c6.toNat : Nat) : Int)], [((c7.toNat : Nat) : Int)]] = mkB [c0, c1, c2, c3, c4, c5, c6, c7] := by
  unfold bytesOf
  simp only [List.map_cons, List.map_nil, List.getD_cons_zero, List.foldl_cons, List.foldl_nil, of_u8]
  rfl
theorem hex_eq {n : Nat} (hn : n < 4294967296) : r54 (n : Int) = (0, mkB (hexL n)) := by
  unfold r54 w54
  rw [show (min (28 : Int).toNat (IntKind.bits .u32)) = 28 from rfl, show (min (24 : Int).toNat (IntKind.bits .u32)) = 24 from rfl, show (min (20 : Int).toNat (IntKind.bits .u32)) = 20 from rfl, show (min (16 : Int).toNat (IntKind.bits .u32)) = 16 from rfl, show (min (12 : Int).toNat (IntKind.bits .u32)) = 12 from rfl, show (min (8 : Int).toNat (IntKind.bits .u32)) = 8 from rfl, show (min (4 : Int).toNat (IntKind.bits .u32)) = 4 from rfl, show (min (0 : Int).toNat (IntKind.bits .u32)) = 0 from rfl]
  simp only [and15 n _ hn, Int.toNat_natCast, tab_dig, dle0, blt_t (Nat.mod_lt _ (show 16 > 0 by decide)), Bool.true_and, cond_true]
  rw [bytes8]
  unfold hexL
  simp only [Nat.reducePow, Nat.div_one, tab2]
theorem text_eq {n : Nat} (hn : n < 4294967296) : r25 n = (0, mkB (numL n)) := by
  unfold r25 numL
  rw [feq_self, hex_eq hn, Bool.not_not]
  cases isN .f32 n <;> rfl

/-! ### the reference writes one -/
theorem bits_eq (n : Nat) : r47 n = (((if isN .f32 n then 2143289344 else n) : Nat) : Int) := by
  unfold r47
  rw [feq_self, Bool.not_not]
  cases isN .f32 n <;> rfl
theorem num_hex (n : Nat) : numL n = hexL (if isN .f32 n then 2143289344 else n) := by
  unfold numL
  split
  · rw [nanL_eq]
  · rfl
theorem tm16 (q : Nat) : Int.tmod (q : Int) 16 = ((q % 16 : Nat) : Int) := rfl
theorem hexs_eq {n : Nat} (hn : n < 4294967296) : r19 n = (0, mkB (numL n)) := by
  unfold r19 w19
  rw [bits_eq, num_hex]
  have hm : (if isN .f32 n then 2143289344 else n) < 4294967296 := by split <;> omega
  generalize (if isN .f32 n then 2143289344 else n) = m at hm
  have t1 : IntKind.u32.wrap (Int.tdiv (m : Int) 16) = ((m / 16 : Nat) : Int) := by
    rw [show Int.tdiv (m : Int) 16 = ((m / 16 : Nat) : Int) from rfl, wrap_u32 (by omega) (by omega)]
  have t2 : ∀ k : Nat, IntKind.u32.wrap (Int.tdiv ((m / k : Nat) : Int) 16) = ((m / (k * 16) : Nat) : Int) := fun k => by
    rw [show Int.tdiv ((m / k : Nat) : Int) 16 = ((m / k / 16 : Nat) : Int) from rfl, Nat.div_div_eq_div_mul]
    have hq : m / (k * 16) < 4294967296 := Nat.lt_of_le_of_lt (Nat.div_le_self _ _) hm
    generalize m / (k * 16) = q at hq
    rw [wrap_u32 (by omega) (by omega)]
  simp only [t1, t2, Nat.reduceMul, tm16, Int.toNat_natCast, tab_dig, dle0, blt_t (Nat.mod_lt _ (show 16 > 0 by decide)), Bool.true_and, cond_true]
  rw [bytes8]
  unfold hexL
  simp only [tab2]
/-! ### small whole numbers -/
def decL (n : Nat) : List UInt8 := [UInt8.ofNat (48 + n)]
theorem dec_all : ∀ d : Fin 10, Lib.decDigits d.val = decL d.val ∧ UInt8.ofNat (Int.toNat (IntKind.u8.wrap (IntKind.i64.wrap (48 + (d.val : Int))))) = UInt8.ofNat (48 + d.val) := by decide +kernel
theorem dec_impl {n : Nat} (h : n < 10) : digB (n : Int) = mkB (decL n) := by
  unfold digB
  rw [Int.toNat_natCast, (dec_all ⟨n, h⟩).1]; rfl
theorem dec_spec {n : Nat} (h : n < 10) : r20 (n : Int) = (0, mkB (decL n)) := by
  unfold r20 w20
  rw [decide_eq_false (by omega), cond_false]
  unfold bytesOf
  exact (congrArg (fun c => ((0 : Nat), ByteArray.empty.push c)) (dec_all ⟨n, h⟩).2).trans rfl
/-! ### texts put together -/
theorem mk_app (a b : List UInt8) : mkB a ++ mkB b = mkB (a ++ b) := by
  apply ByteArray.ext
  simp [mkB, ByteArray.data_append]
theorem cs {α : Type} {c : Prop} [Decidable c] {a b r : α} (h : c) (e : a = r) : cond (decide c) a b = r := by rw [decide_eq_true h]; exact e
theorem cb {α : Type} {c : Bool} {a b r : α} (h : c = true) (e : a = r) : cond c a b = r := by rw [h]; exact e
theorem text_loop {G : Nat → ByteArray → Int → Nat × ByteArray} {n N : Nat} {line : Nat → List UInt8} (hN : N ≤ 10000000)
    (hl : ∀ i, i < n → (line i).length ≤ 1000)
    (hs : ∀ m t i, i < n → t.length ≤ N → G (m + 1) (mkB t) (i : Int) = G m (mkB (t ++ line i)) ((i + 1 : Nat) : Int))
    (he : ∀ m t, G (m + 1) (mkB t) (n : Int) = (0, mkB t)) :
    ∀ k i t fuel, i + k = n → k < fuel → t.length + 1000 * k ≤ N → G fuel (mkB t) (i : Int) = (0, mkB (t ++ ((List.range' i k).flatMap line))) := by
  intro k
  induction k with
  | zero =>
    intro i t fuel h hf _
    obtain ⟨m, rfl⟩ : ∃ m, fuel = m + 1 := ⟨fuel - 1, by omega⟩
    obtain rfl : i = n := by omega
    rw [he]; simp
  | succ k ih =>
    intro i t fuel h hf hb
    obtain ⟨m, rfl⟩ : ∃ m, fuel = m + 1 := ⟨fuel - 1, by omega⟩
    have := hl i (by omega)
    rw [hs m t i (by omega) (by omega), ih (i + 1) _ m (by omega) (by omega) (by rw [List.length_append]; omega)]
    rw [List.range'_succ, List.flatMap_cons, List.append_assoc]
theorem lines_length {line : Nat → List UInt8} {n : Nat} (hl : ∀ i, i < n → (line i).length ≤ 1000) : ((List.range' 0 n).flatMap line).length ≤ 1000 * n := by
  have key : ∀ k i, i + k ≤ n → ((List.range' i k).flatMap line).length ≤ 1000 * k := by
    intro k
    induction k with
    | zero => intro i _; simp
    | succ k ih =>
      intro i h
      rw [List.range'_succ, List.flatMap_cons, List.length_append]
      have := hl i (by omega); have := ih (i + 1) (by omega); omega
  exact key n 0 (by omega)
end Go.Proofs.YtffpnkkhcgjmfaaDoor
