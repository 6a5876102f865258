/- Texts of numbers (eight digits); texts cut and joined. -/
import Derived.Test.YtffpnkkhcgjmfaaGreatDoorA37
import Derived.Test.YtffpnkkhcgjmfaaGreatDoorA25
namespace Go.Ab
open Go.Proofs

/-! ### digits -/
def dig (d : Nat) : UInt8 := UInt8.ofNat (if d < 10 then 48 + d else 87 + d)
def hexL (n : Nat) : List UInt8 := [dig (n / 268435456 % 16), dig (n / 16777216 % 16), dig (n / 1048576 % 16), dig (n / 65536 % 16), dig (n / 4096 % 16), dig (n / 256 % 16), dig (n / 16 % 16), dig (n % 16)]
def mkB (l : List UInt8) : ByteArray := ⟨l.toArray⟩
theorem mkB_data (l : List UInt8) : (mkB l).data.toList = l := rfl
theorem mkB_of (s : ByteArray) : mkB s.data.toList = s := rfl
theorem mkB_inj {a b : List UInt8} (h : mkB a = mkB b) : a = b := by
  have := congrArg (fun s : ByteArray => s.data.toList) h
  exact this
theorem mkB_size (l : List UInt8) : (mkB l).size = l.length := by
  show l.toArray.size = _
  simp
theorem size_eq (s : ByteArray) : s.size = s.data.toList.length := by
  show s.data.size = _
  simp
theorem toList_eq (s : ByteArray) : s.toList = s.data.toList := Lib.toList_data s
/-- a digit's value -/
def valD (c : UInt8) : Option Nat := if 48 ≤ c.toNat ∧ c.toNat ≤ 57 then some (c.toNat - 48) else if 97 ≤ c.toNat ∧ c.toNat ≤ 102 then some (c.toNat - 87) else none
theorem valD_dig_all : ∀ d : Fin 16, valD (dig d.val) = some d.val := by decide +kernel
theorem valD_dig {d : Nat} (h : d < 16) : valD (dig d) = some d := valD_dig_all ⟨d, h⟩
theorem dig_valD_all : ∀ c : Fin 256, valD (UInt8.ofNat c.val) = none ∨ ∃ v : Fin 16, valD (UInt8.ofNat c.val) = some v.val ∧ dig v.val = UInt8.ofNat c.val := by decide +kernel
theorem u8_of (c : UInt8) : UInt8.ofNat c.toNat = c := UInt8.ofNat_toNat
theorem dig_valD {c : UInt8} {v : Nat} (h : valD c = some v) : v < 16 ∧ dig v = c := by
  rcases dig_valD_all ⟨c.toNat, c.toNat_lt⟩ with h1 | ⟨w, h1, h2⟩
  · rw [show UInt8.ofNat (⟨c.toNat, c.toNat_lt⟩ : Fin 256).val = c from u8_of c, h] at h1; cases h1
  · rw [show UInt8.ofNat (⟨c.toNat, c.toNat_lt⟩ : Fin 256).val = c from u8_of c] at h1 h2
    rw [h] at h1; cases h1
    exact ⟨w.isLt, h2⟩
def unhexL : Nat → List UInt8 → Option Nat
  | n, [] => some n
  | n, c :: l => match valD c with
    | some v => unhexL (n * 16 + v) l
    | none => none
theorem unhex_hexL {n : Nat} (h : n < 4294967296) : unhexL 0 (hexL n) = some n := by
  unfold hexL
  simp only [unhexL, valD_dig (Nat.mod_lt _ (show 16 > 0 by decide))]
  congr 1
  omega
theorem unhex_cons {n m : Nat} {c : UInt8} {l : List UInt8} (h : unhexL n (c :: l) = some m) : ∃ v, v < 16 ∧ c = dig v ∧ unhexL (n * 16 + v) l = some m := by
  rw [unhexL] at h
  split at h
  · rename_i v hv
    obtain ⟨h1, h2⟩ := dig_valD hv
    exact ⟨v, h1, h2.symm, h⟩
  · cases h
theorem hexL_unhex {l : List UInt8} {n : Nat} (hl : l.length = 8) (h : unhexL 0 l = some n) : n < 4294967296 ∧ hexL n = l := by
  match l, hl with
  | [c0, c1, c2, c3, c4, c5, c6, c7], _ =>
    clear hl
    obtain ⟨v0, a0, rfl, h0⟩ := unhex_cons h
    obtain ⟨v1, a1, rfl, h1⟩ := unhex_cons h0
    obtain ⟨v2, a2, rfl, h2⟩ := unhex_cons h1
    obtain ⟨v3, a3, rfl, h3⟩ := unhex_cons h2
    obtain ⟨v4, a4, rfl, h4⟩ := unhex_cons h3
    obtain ⟨v5, a5, rfl, h5⟩ := unhex_cons h4
    obtain ⟨v6, a6, rfl, h6⟩ := unhex_cons h5
    obtain ⟨v7, a7, rfl, h7⟩ := unhex_cons h6
    rw [unhexL] at h7
    cases h7
    refine ⟨by omega, ?_⟩
    unfold hexL
    congr 1
    · congr 1; omega
    congr 1
    · congr 1; omega
    congr 1
    · congr 1; omega
    congr 1
    · congr 1; omega
    congr 1
    · congr 1; omega
    congr 1
    · congr 1; omega
    congr 1
    · congr 1; omega
    congr 1
    · congr 1; omega
theorem hexL_length (n : Nat) : (hexL n).length = 8 := rfl
theorem dig_ne_all : ∀ d : Fin 16, dig d.val ≠ 32 ∧ dig d.val ≠ 10 ∧ dig d.val ≠ 45 := by decide +kernel
theorem hexL_no {n : Nat} {c : UInt8} (hc : c = 32 ∨ c = 10) : c ∉ hexL n := by
  have h : ∀ x, dig (x % 16) ≠ c := fun x => by
    have := dig_ne_all ⟨x % 16, Nat.mod_lt _ (by decide)⟩
    rcases hc with rfl | rfl
    · exact this.1
    · exact this.2.1
  unfold hexL
  simp only [List.mem_cons, List.not_mem_nil, or_false, not_or]
  exact ⟨(h _).symm, (h _).symm, (h _).symm, (h _).symm, (h _).symm, (h _).symm, (h _).symm, (h _).symm⟩
def nanL : List UInt8 := [55, 102, 99, 48, 48, 48, 48, 48]
/-- the text of a number -/
def numL (n : Nat) : List UInt8 := if isN .f32 n then nanL else hexL n
/-- the number with a text -/
def rdL (l : List UInt8) : Option Nat := if l.length = 8 then match unhexL 0 l with
    | some n => if isN .f32 n && !Nat.beq n 2143289344 then none else some n
    | none => none
  else none
theorem nanL_eq : hexL 2143289344 = nanL := by decide +kernel
theorem isN_nan : isN .f32 2143289344 = true := by decide +kernel
theorem numL_length (n : Nat) : (numL n).length = 8 := by unfold numL; split <;> rfl
theorem numL_no {n : Nat} {c : UInt8} (hc : c = 32 ∨ c = 10) : c ∉ numL n := by
  unfold numL
  split
  · rw [← nanL_eq]; exact hexL_no hc
  · exact hexL_no hc
theorem rdL_of {l : List UInt8} (hl : l.length = 8) {n : Nat} (h : unhexL 0 l = some n) : rdL l = if isN .f32 n && !Nat.beq n 2143289344 then none else some n := by
  unfold rdL
  rw [if_pos hl, h]
theorem rdL_no {l : List UInt8} (h : unhexL 0 l = none) : rdL l = none := by
  unfold rdL
  split
  · rw [h]
  · rfl
theorem rdL_numL {n : Nat} (h : n < 4294967296) : rdL (numL n) = some (if isN .f32 n then 2143289344 else n) := by
  unfold numL
  cases hn : isN .f32 n with
  | true =>
    rw [if_pos rfl, if_pos rfl, rdL_of rfl (n := 2143289344) (by rw [← nanL_eq]; exact unhex_hexL (by decide))]
    rfl
  | false =>
    rw [if_neg (by decide), if_neg (by decide), rdL_of (hexL_length n) (unhex_hexL h), hn]
    rfl
theorem numL_rdL {l : List UInt8} {n : Nat} (h : rdL l = some n) : n < 4294967296 ∧ numL n = l := by
  by_cases hl : l.length = 8
  · cases hm : unhexL 0 l with
    | none => unfold rdL at h; rw [if_pos hl, hm] at h; cases h
    | some m =>
      rw [rdL_of hl hm] at h
      obtain ⟨h1, h2⟩ := hexL_unhex hl hm
      unfold numL
      cases hn : isN .f32 m with
      | true =>
        rw [hn, Bool.true_and] at h
        cases hb : Nat.beq m 2143289344 with
        | true =>
          rw [hb] at h
          have e := Nat.eq_of_beq_eq_true hb
          have e2 : m = n := by simpa using h
          subst e2
          refine ⟨h1, ?_⟩
          rw [hn, if_pos rfl, ← nanL_eq, ← h2, e]
        | false => rw [hb] at h; simp at h
      | false =>
        rw [hn, Bool.false_and] at h
        have e2 : m = n := by simpa using h
        subst e2
        refine ⟨h1, ?_⟩
        rw [hn, if_neg (by decide)]; exact h2
  · unfold rdL at h; rw [if_neg hl] at h; cases h

/-! ### cut and join -/
theorem splitL_no {c : UInt8} : ∀ {a : List UInt8}, c ∉ a → splitL c a = [a]
  | [], _ => rfl
  | b :: l, h => by
    rw [List.mem_cons, not_or] at h
    exact splitL_cons_ne (fun e => h.1 e.symm) (splitL_no h.2)
theorem splitL_app {c : UInt8} {r : List UInt8} : ∀ {a : List UInt8}, c ∉ a → splitL c (a ++ c :: r) = a :: splitL c r
  | [], _ => splitL_cons_eq c r
  | b :: l, h => by
    rw [List.mem_cons, not_or] at h
    exact splitL_cons_ne (fun e => h.1 e.symm) (splitL_app h.2)
def joinL (c : UInt8) : List (List UInt8) → List UInt8
  | [] => []
  | [x] => x
  | x :: y :: r => x ++ c :: joinL c (y :: r)
theorem split_joinL {c : UInt8} : ∀ {L : List (List UInt8)}, L ≠ [] → (∀ x ∈ L, c ∉ x) → splitL c (joinL c L) = L
  | [], h, _ => absurd rfl h
  | [x], _, h => splitL_no (h x (by simp))
  | x :: y :: r, _, h => by
    rw [joinL, splitL_app (h x (by simp)), split_joinL (by simp) (fun z hz => h z (by simp [hz]))]
theorem joinL_cons (c : UInt8) (x : List UInt8) {r : List (List UInt8)} (h : r ≠ []) : joinL c (x :: r) = x ++ c :: joinL c r := by
  cases r with
  | nil => exact absurd rfl h
  | cons y r => rfl
theorem join_splitL (c : UInt8) : ∀ l : List UInt8, joinL c (splitL c l) = l
  | [] => rfl
  | b :: l => by
    have ih := join_splitL c l
    have hne := splitL_ne c l
    by_cases hb : b = c
    · subst hb
      rw [splitL_cons_eq, joinL_cons b [] hne, ih]; rfl
    · cases hs : splitL c l with
      | nil => exact absurd hs hne
      | cons x r =>
        rw [splitL_cons_ne hb hs]
        rw [hs] at ih
        cases r with
        | nil => simp only [joinL] at ih ⊢; rw [ih]
        | cons y r => rw [joinL] at ih ⊢; rw [← ih]; rfl
theorem splitL_mem {c : UInt8} : ∀ {l : List UInt8}, ∀ x ∈ splitL c l, c ∉ x
  | [], x, hx => by simp [splitL] at hx; subst hx; simp
  | b :: l, x, hx => by
    by_cases hb : b = c
    · subst hb
      rw [splitL_cons_eq, List.mem_cons] at hx
      rcases hx with rfl | hx
      · simp
      · exact splitL_mem x hx
    · cases hs : splitL c l with
      | nil => exact absurd hs (splitL_ne c l)
      | cons y r =>
        rw [splitL_cons_ne hb hs, List.mem_cons] at hx
        rcases hx with rfl | hx
        · have := splitL_mem (c := c) (l := l) y (by rw [hs]; simp)
          rw [List.mem_cons, not_or]
          exact ⟨fun e => hb e.symm, this⟩
        · exact splitL_mem x (by rw [hs]; simp [hx])
theorem lib_join (c : UInt8) : ∀ L : List (List UInt8), Lib.join L [c] = joinL c L
  | [] => rfl
  | [x] => by rw [Lib.join_one]; rfl
  | x :: y :: r => by
    have ih := lib_join c (y :: r)
    rw [Lib.join_cons] at ih ⊢
    rw [joinL, ← ih]
    simp [Lib.joinTail]
theorem joinB_eq (L : List (List UInt8)) (c : UInt8) : joinB (L.map mkB) ⟨#[c]⟩ = mkB (joinL c L) := by
  unfold joinB
  rw [show (⟨#[c]⟩ : ByteArray).data.toList = [c] from rfl, List.map_map, ← lib_join]
  congr 3
  exact List.map_id L
theorem joinL_length (c : UInt8) : ∀ L : List (List UInt8), (joinL c L).length ≤ (L.map fun x => x.length + 1).sum
  | [] => by simp [joinL]
  | [x] => by simp [joinL]
  | x :: y :: r => by
    have := joinL_length c (y :: r)
    rw [joinL, List.length_append, List.length_cons, List.map_cons, List.sum_cons]
    omega
theorem joinOk_eq {L : List (List UInt8)} {c : UInt8} (h1 : L.length ≤ 1000000) (h2 : (L.map fun x => x.length + 1).sum ≤ 1000000) : joinOk (L.map mkB) ⟨#[c]⟩ = true := by
  unfold joinOk
  refine decide_eq_true ⟨by rw [List.length_map]; omega, ?_⟩
  have e := congrArg (fun s : ByteArray => s.data.toList.length) (joinB_eq L c)
  have := joinL_length c L
  have e : (Lib.join ((L.map mkB).map fun x => x.data.toList) (⟨#[c]⟩ : ByteArray).data.toList).length = (joinL c L).length := e
  omega
theorem splB_eq (c : UInt8) (s : ByteArray) : splB c s = (splitL c s.data.toList).map mkB := rfl
end Go.Ab
