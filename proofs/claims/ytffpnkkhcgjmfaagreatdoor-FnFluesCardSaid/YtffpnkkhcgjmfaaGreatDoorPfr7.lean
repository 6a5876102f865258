/- The text of a chimney, and lines that are texts. -/
import Derived.Test.YtffpnkkhcgjmfaaGreatDoorPfr3
namespace Go.Proofs.YtffpnkkhcgjmfaaGreatDoor
open Go.Ab

/-! ### texts put together -/
theorem mk_app (a b : List UInt8) : mkB a ++ mkB b = mkB (a ++ b) := by
  apply ByteArray.ext
  simp [mkB, ByteArray.data_append]
theorem cs {α : Type} {c : Prop} [Decidable c] {a b r : α} (h : c) (e : a = r) : cond (decide c) a b = r := by rw [decide_eq_true h]; exact e
theorem cb {α : Type} {c : Bool} {a b r : α} (h : c = true) (e : a = r) : cond c a b = r := by rw [h]; exact e
theorem text_loop {G : Nat → ByteArray → Int → Nat × ByteArray} {n N : Nat} {line : Nat → List UInt8} (hN : N ≤ 10000000)
    (hl : ∀ i, i < n → (line i).length ≤ 1000)
    (hs : ∀ m t i, i < n → t.length ≤ N → G (m + 1) (mkB t) (i : Int) = G m (mkB (t ++ line i)) ((i + 1 : Nat) : Int))
    (he : ∀ m t, G (m + 1) (mkB t) (n : Int) = (0, mkB t)) :
    ∀ k i t fuel, i + k = n → k < fuel → t.length + 1000 * k ≤ N → G fuel (mkB t) (i : Int) = (0, mkB (t ++ ((List.range' i k).flatMap line))) := by
  intro k
  induction k with
  | zero =>
    intro i t fuel h hf _
    obtain ⟨m, rfl⟩ : ∃ m, fuel = m + 1 := ⟨fuel - 1, by omega⟩
    obtain rfl : i = n := by omega
    rw [he]; simp
  | succ k ih =>
    intro i t fuel h hf hb
    obtain ⟨m, rfl⟩ : ∃ m, fuel = m + 1 := ⟨fuel - 1, by omega⟩
    have := hl i (by omega)
    rw [hs m t i (by omega) (by omega), ih (i + 1) _ m (by omega) (by omega) (by rw [List.length_append]; omega)]
    rw [List.range'_succ, List.flatMap_cons, List.append_assoc]
theorem lines_length {line : Nat → List UInt8} {n : Nat} (hl : ∀ i, i < n → (line i).length ≤ 1000) : ((List.range' 0 n).flatMap line).length ≤ 1000 * n := by
  have key : ∀ k i, i + k ≤ n → ((List.range' i k).flatMap line).length ≤ 1000 * k := by
    intro k
    induction k with
    | zero => intro i _; simp
    | succ k ih =>
      intro i h
      rw [List.range'_succ, List.flatMap_cons, List.length_append]
      have := hl i (by omega); have := ih (i + 1) (by omega); omega
  exact key n 0 (by omega)
/-! ### sides -/
def sideL (x : Int) : List UInt8 := if x = -1 then [45] else decL x.toNat
theorem sideL_length (x : Int) : (sideL x).length = 1 := by unfold sideL decL; split <;> rfl
theorem no_all : ∀ d : Fin 6, UInt8.ofNat (48 + d.val) ≠ 32 ∧ UInt8.ofNat (48 + d.val) ≠ 10 := by decide +kernel
theorem sideL_no {x : Int} (h : x = -1 ∨ (0 ≤ x ∧ x ≤ 5)) {c : UInt8} (hc : c = 32 ∨ c = 10) : c ∉ sideL x := by
  unfold sideL
  rcases h with rfl | ⟨h0, h1⟩
  · rw [if_pos rfl]; rcases hc with rfl | rfl <;> decide
  · obtain ⟨n, rfl⟩ := Int.eq_ofNat_of_zero_le h0
    have e := no_all ⟨n, by omega⟩
    rw [if_neg (by omega)]
    unfold decL
    rw [Int.toNat_natCast, List.mem_singleton]
    rcases hc with rfl | rfl
    · exact fun h => e.1 h.symm
    · exact fun h => e.2 h.symm
theorem side_impl {x : Int} (h : x = -1 ∨ (0 ≤ x ∧ x ≤ 5)) : r85 x = (0, mkB (sideL x)) := by
  unfold r85 w85 sideL
  rcases h with rfl | ⟨h0, h1⟩
  · rfl
  · obtain ⟨n, rfl⟩ := Int.eq_ofNat_of_zero_le h0
    rw [show (((n : Nat) : Int) == -1) = false from beq_eq_false_iff_ne.2 (by omega), decide_eq_true (show (0 : Int) ≤ (n : Int) by omega), decide_eq_true (show ((n : Nat) : Int) < 100 by omega), if_neg (by omega), dig_dec (by omega)]; rfl
theorem not_dash {n : Nat} (h : n ≤ 5) : ((mkB (decL n)).toList == DASH.toList) = false := by
  rw [toList_eq, toList_eq]
  exact beq_eq_false_iff_ne.2 fun e => dash_all ⟨n, by omega⟩ e
theorem side_word {x : Int} (h : x = -1 ∨ (0 ≤ x ∧ x ≤ 5)) : okI (mkB (sideL x)) = true ∧ sdI (mkB (sideL x)) = x := by
  unfold okI sdI sideL
  rcases h with rfl | ⟨h0, h1⟩
  · rw [if_pos rfl, show mkB [45] = DASH from rfl, beq_self_eq_true]; exact ⟨rfl, rfl⟩
  · obtain ⟨n, rfl⟩ := Int.eq_ofNat_of_zero_le h0
    rw [if_neg (by omega), Int.toNat_natCast, not_dash (by omega), (p_dec (show n ≤ 5 by omega)).1, (p_dec (show n ≤ 5 by omega)).2]
    exact ⟨rfl, rfl⟩
/-! ### the text of a chimney -/
def lnR (r : List Int) : List UInt8 := joinL 32 [numL (Int.toNat (r.getD 0 0)), numL (Int.toNat (r.getD 1 0)), numL (Int.toNat (r.getD 2 0)), numL (Int.toNat (r.getD 3 0)), sideL (r.getD 4 0)]
def ln (c : List (List Int)) (i : Nat) : List UInt8 := lnR (c.getD i [])
def textC (c : List (List Int)) : List UInt8 := ((List.range' 0 c.length).map (ln c)).flatMap (· ++ [10])
theorem lnR_length (r : List Int) : (lnR r).length ≤ 100 := by
  unfold lnR; simp only [joinL, List.length_append, numL_length, sideL_length, List.length_cons, List.length_nil]; omega
theorem lnR_no {r : List Int} (h : r.getD 4 0 = -1 ∨ (0 ≤ r.getD 4 0 ∧ r.getD 4 0 ≤ 5)) : (10 : UInt8) ∉ lnR r := by
  unfold lnR
  have h5 := sideL_no h (c := 10) (.inr rfl)
  have h0 := fun j => numL_no (n := Int.toNat (r.getD j 0)) (c := 10) (.inr rfl)
  simp only [joinL, List.mem_append, List.mem_cons, not_or]
  exact ⟨h0 0, by decide, h0 1, by decide, h0 2, by decide, h0 3, by decide, h5⟩
theorem into_ok {c : List (List Int)} (ok : ChOk c) {i : Nat} (hi : i < c.length) : ic c i 4 = -1 ∨ (0 ≤ ic c i 4 ∧ ic c i 4 ≤ 5) := by
  rcases ok.into i hi with h | ⟨h0, h1, _, _⟩
  · exact .inl h
  · have := ok.n2; exact .inr ⟨h0, by omega⟩
theorem map5 (a b c d e : List UInt8) : [mkB a, mkB b, mkB c, mkB d, mkB e] = List.map mkB [a, b, c, d, e] := rfl
theorem flue_line {ih : ByteArray → Int → Int → List (List Int) → (Nat × ByteArray)} {c : List (List Int)} (ok : ChOk c) {i : Nat} (hi : i < c.length) {t : List UInt8} (ht : t.length ≤ 100000) : b40l0 ih (mkB t) ((c.length : Nat) : Int) (i : Int) c = ih (mkB (t ++ (ln c i ++ [10]))) ((c.length : Nat) : Int) ((i + 1 : Nat) : Int) c := by
  have n2 := ok.n2
  have hi4 := into_ok ok hi
  have hr := ok.rows
  unfold b40l0
  rw [dlt_t hi, dle0, Int.toNat_natCast, blt_t hi, wrap_succ (by omega), text_eq (fc_lt hr (j := 0) hi rfl), text_eq (fc_lt hr (j := 1) hi rfl), text_eq (fc_lt hr (j := 2) hi rfl), text_eq (fc_lt hr (j := 3) hi rfl), side_impl hi4, show (ByteArray.mk #[10]) = mkB [10] from rfl]
  simp only [map5]
  rw [joinOk_eq (by simp) (by simp only [List.map_cons, List.map_nil, List.sum_cons, List.sum_nil, List.length_append, numL_length, sideL_length, List.length_cons, List.length_nil]; omega)]
  simp only [joinB_eq]
  simp only [mk_app, mkB_size, joinL, List.length_append, numL_length, sideL_length, List.length_cons, List.length_nil]
  repeat' first | refine cs (by unfold strMax; omega) ?_ | refine cb rfl ?_
  rfl
theorem text_chimney {c : List (List Int)} (ok : ChOk c) : r40 c = (0, mkB (textC c)) := by
  have n2 := ok.n2
  have e0 : ∀ fuel, c.length < fuel → r40l0 fuel (mkB []) ((c.length : Nat) : Int) ((0 : Nat) : Int) c = (0, mkB ([] ++ (List.range' 0 c.length).flatMap fun i => ln c i ++ [10])) := fun fuel hf =>
    text_loop (G := fun m x i => r40l0 m x ((c.length : Nat) : Int) i c) (n := c.length) (N := 100000) (line := fun i => ln c i ++ [10]) (by omega) (fun i _ => by rw [List.length_append]; have := lnR_length (c.getD i []); show (lnR (c.getD i [])).length + 1 ≤ 1000; omega)
      (fun m t i hi ht => flue_line ok hi ht)
      (fun m t => by show b40l0 _ _ _ _ _ = _; unfold b40l0; rw [dlt_f (Nat.lt_irrefl _)]; rfl) c.length 0 [] fuel (by omega) hf (by simp; omega)
  unfold r40 w40
  rw [show (ByteArray.mk #[]) = mkB [] from rfl, show (0 : Int) = ((0 : Nat) : Int) from rfl, e0 _ (by omega), List.nil_append]
  unfold textC
  rw [List.flatMap_map]
  rfl
/-! ### cut and put together -/
theorem split_text : ∀ (L : List (List UInt8)), (∀ l ∈ L, (10 : UInt8) ∉ l) → splitL 10 (L.flatMap (· ++ [10])) = L ++ [[]]
  | [], _ => splitL_no (by simp)
  | a :: L, h => by
    rw [List.flatMap_cons, List.append_assoc, List.singleton_append, splitL_app (h a (List.mem_cons_self ..)), split_text L fun l hl => h l (List.mem_cons_of_mem _ hl)]; rfl
theorem join_text : ∀ (L : List (List UInt8)), joinL 10 (L ++ [[]]) = L.flatMap (· ++ [10])
  | [] => rfl
  | a :: L => by
    rw [List.cons_append, joinL_cons 10 a (by simp), join_text L, List.flatMap_cons, List.append_assoc, List.singleton_append]
theorem join_len (c : UInt8) : ∀ L : List (List UInt8), L.length ≤ (joinL c L).length + 1
  | [] => by simp
  | [x] => by simp
  | x :: y :: r => by
    rw [joinL_cons c x (by simp), List.length_append, List.length_cons]
    have := join_len c (y :: r)
    simp only [List.length_cons] at this ⊢
    omega
theorem splB_len {c : UInt8} {s : ByteArray} : (splB c s).length ≤ s.size + 1 := by
  rw [splB_eq, List.length_map]
  have := join_len c (splitL c s.data.toList)
  rw [join_splitL] at this
  rw [size_eq]; exact this
/-! ### lines that are texts -/
theorem split_ln {r : List Int} (h : r.getD 4 0 = -1 ∨ (0 ≤ r.getD 4 0 ∧ r.getD 4 0 ≤ 5)) : splB 32 (mkB (lnR r)) = [mkB (numL (Int.toNat (r.getD 0 0))), mkB (numL (Int.toNat (r.getD 1 0))), mkB (numL (Int.toNat (r.getD 2 0))), mkB (numL (Int.toNat (r.getD 3 0))), mkB (sideL (r.getD 4 0))] := by
  have h0 := fun j => numL_no (n := Int.toNat (r.getD j 0)) (c := 32) (.inl rfl)
  rw [splB_eq, mkB_data]
  unfold lnR
  rw [split_joinL (by simp) (by
    intro x hx
    simp only [List.mem_cons, List.not_mem_nil, or_false] at hx
    rcases hx with rfl | rfl | rfl | rfl | rfl
    · exact h0 0
    · exact h0 1
    · exact h0 2
    · exact h0 3
    · exact sideL_no h (.inl rfl))]
  rfl
theorem rd_num {v : Nat} (h : v < 4294967296) (hn : isN .f32 v = false) : rdB (mkB (numL v)) = some v := by
  unfold rdB
  rw [mkB_data, rdL_numL h, hn]; rfl
theorem line_of {r : List Int} (hr : RowOk Sh5 r) (h : r.getD 4 0 = -1 ∨ (0 ≤ r.getD 4 0 ∧ r.getD 4 0 ≤ 5)) (hn : ∀ j, j < 4 → isN .f32 (Int.toNat (r.getD j 0)) = false) : lineI (mkB (lnR r)) = some r := by
  have hlt : ∀ j, j < 4 → Int.toNat (r.getD j 0) < 4294967296 := fun j hj => by
    have : j = 0 ∨ j = 1 ∨ j = 2 ∨ j = 3 := by omega
    rcases this with rfl | rfl | rfl | rfl <;> exact CTok.lt32 (hr.get rfl)
  have q := fun j (hj : j < 4) => rd_num (hlt j hj) (hn j hj)
  obtain ⟨s1, s2⟩ := side_word h
  unfold lineI goodI
  rw [split_ln h]
  have hb : bd [mkB (numL (Int.toNat (r.getD 0 0))), mkB (numL (Int.toNat (r.getD 1 0))), mkB (numL (Int.toNat (r.getD 2 0))), mkB (numL (Int.toNat (r.getD 3 0))), mkB (sideL (r.getD 4 0))] 4 = false := by
    refine bd_of fun j hj => ?_
    have : j = 0 ∨ j = 1 ∨ j = 2 ∨ j = 3 := by omega
    rcases this with rfl | rfl | rfl | rfl
    · exact ⟨by simp, congrArg Option.isSome (q 0 (by omega))⟩
    · exact ⟨by simp, congrArg Option.isSome (q 1 (by omega))⟩
    · exact ⟨by simp, congrArg Option.isSome (q 2 (by omega))⟩
    · exact ⟨by simp, congrArg Option.isSome (q 3 (by omega))⟩
  have hv : ∀ x, rowOf [mkB (numL (Int.toNat (r.getD 0 0))), mkB (numL (Int.toNat (r.getD 1 0))), mkB (numL (Int.toNat (r.getD 2 0))), mkB (numL (Int.toNat (r.getD 3 0))), mkB (sideL (r.getD 4 0))] x = [((Int.toNat (r.getD 0 0) : Nat) : Int), ((Int.toNat (r.getD 1 0) : Nat) : Int), ((Int.toNat (r.getD 2 0) : Nat) : Int), ((Int.toNat (r.getD 3 0) : Nat) : Int), x] := fun x => by
    unfold rowOf num
    simp only [List.length_cons, List.length_nil, Nat.reduceAdd, Nat.reduceLT, if_true, List.getD_cons_zero, List.getD_cons_succ]
    rw [q 0 (by omega), q 1 (by omega), q 2 (by omega), q 3 (by omega)]
    rfl
  rw [hb, hv]
  simp only [List.getD_cons_zero, List.getD_cons_succ, s1, s2]
  have hre : [((Int.toNat (r.getD 0 0) : Nat) : Int), ((Int.toNat (r.getD 1 0) : Nat) : Int), ((Int.toNat (r.getD 2 0) : Nat) : Int), ((Int.toNat (r.getD 3 0) : Nat) : Int), r.getD 4 0] = r := reb_eq hr
  rw [hre]
  rfl
theorem row_ok {W : List ByteArray} {x : Int} (h0 : -9223372036854775808 ≤ x) (h1 : x ≤ 9223372036854775807) : RowOk Sh5 (rowOf W x) := by
  have := num_lt W 0; have := num_lt W 1; have := num_lt W 2; have := num_lt W 3
  have hm : IntKind.i64.min = -9223372036854775808 := by decide
  have hM : IntKind.i64.max = 9223372036854775807 := by decide
  refine ⟨⟨by omega, by omega⟩, ⟨by omega, by omega⟩, ⟨by omega, by omega⟩, ⟨by omega, by omega⟩, ⟨by rw [hm]; omega, by rw [hM]; omega⟩, trivial⟩
theorem rowI_ok {s : ByteArray} {r : List Int} (h : lineI s = some r) : RowOk Sh5 r := by
  unfold lineI at h
  cases hg : goodI (splB 32 s) with
  | false => rw [hg] at h; cases h
  | true =>
    rw [hg] at h
    cases h
    unfold goodI at hg
    rw [Bool.and_eq_true, Bool.and_eq_true] at hg
    have ho := hg.2.2
    have : -9223372036854775808 ≤ sdI ((splB 32 s).getD 4 .empty) ∧ sdI ((splB 32 s).getD 4 .empty) ≤ 9223372036854775807 := by
      unfold okI at ho
      unfold sdI
      cases hd : ((splB 32 s).getD 4 .empty).toList == DASH.toList with
      | true => exact ⟨by show (-9223372036854775808 : Int) ≤ -1; omega, by show (-1 : Int) ≤ 9223372036854775807; omega⟩
      | false => rw [hd] at ho; exact p_range ho
    exact row_ok this.1 this.2
theorem five {l : List (List UInt8)} (h : l.length = 5) : ∃ a b c d e, l = [a, b, c, d, e] := by
  match l, h with
  | [a, b, c, d, e], _ => exact ⟨a, b, c, d, e, rfl⟩
end Go.Proofs.YtffpnkkhcgjmfaaGreatDoor

namespace Go.Proofs.YtffpnkkhcgjmfaaGreatDoor
open Go.Ab

/-! ### lines, one after the other -/
theorem read_loop {G : Nat → Int → List (List Int) → Nat × List (List Int) × List (List Int)} {n : Nat} {P : Nat → Option (List Int)}
    (he : ∀ m o, G (m + 1) (n : Int) o = (3, [], []))
    (h1 : ∀ m i o, i < n → o.length ≤ 100 → G (m + 1) (i : Int) o = match P i with
      | none => (0, [], [])
      | some r => comb (o ++ [r]) (G m ((i + 1 : Nat) : Int) (o ++ [r]))) :
    ∀ (k i : Nat) (o : List (List Int)) (fuel : Nat), i + k = n → k < fuel → o.length + k ≤ 100 →
      (∃ R : List (List Int), R.length = k ∧ (∀ j, j < k → P (i + j) = some (R.getD j [])) ∧ G fuel (i : Int) o = (if k = 0 then (3, [], []) else (2, [], o ++ R))) ∨
      ((∃ j, j < k ∧ P (i + j) = none) ∧ ∃ q, G fuel (i : Int) o = (0, q, []) ∨ G fuel (i : Int) o = (1, q, [])) := by
  intro k
  induction k with
  | zero =>
    intro i o fuel h hf ho
    obtain ⟨m, rfl⟩ : ∃ m, fuel = m + 1 := ⟨fuel - 1, by omega⟩
    obtain rfl : i = n := by omega
    exact .inl ⟨[], rfl, fun j hj => by omega, he m o⟩
  | succ k ih =>
    intro i o fuel h hf ho
    obtain ⟨m, rfl⟩ : ∃ m, fuel = m + 1 := ⟨fuel - 1, by omega⟩
    rw [h1 m i o (by omega) (by omega)]
    cases hP : P i with
    | none => exact .inr ⟨⟨0, by omega, hP⟩, [], .inl rfl⟩
    | some r =>
      rcases ih (i + 1) (o ++ [r]) m (by omega) (by omega) (by rw [List.length_append]; simp; omega) with ⟨R, g1, g2, g3⟩ | ⟨⟨j, g1, g2⟩, q, g3⟩
      · refine .inl ⟨r :: R, by simp [g1], fun j hj => ?_, ?_⟩
        · cases j with
          | zero => exact hP
          | succ j => rw [show i + (j + 1) = i + 1 + j by omega, g2 j (by omega)]; rfl
        · show comb (o ++ [r]) (G m ((i + 1 : Nat) : Int) (o ++ [r])) = _
          rw [g3, if_neg (show ¬ k + 1 = 0 by omega)]
          by_cases hk : k = 0
          · subst hk
            have : R = [] := List.length_eq_zero_iff.1 g1
            subst this
            rw [if_pos rfl]; rfl
          · rw [if_neg hk]
            show (2, ([] : List (List Int)), (o ++ [r]) ++ R) = _
            rw [List.append_assoc]; rfl
      · refine .inr ⟨⟨j + 1, by omega, by rw [show i + (j + 1) = i + 1 + j by omega]; exact g2⟩, ?_⟩
        rcases g3 with g3 | g3
        · exact ⟨o ++ [r], .inr (by show comb (o ++ [r]) (G m ((i + 1 : Nat) : Int) (o ++ [r])) = _; rw [g3]; rfl)⟩
        · exact ⟨q, .inr (by show comb (o ++ [r]) (G m ((i + 1 : Nat) : Int) (o ++ [r])) = _; rw [g3]; rfl)⟩
/-- a text of so many lines -/
structure Sh (x : ByteArray) (n : Nat) : Prop where
  len : (splB 10 x).length = n + 1
  n1 : 1 ≤ n
  n6 : n ≤ 6
  last : ((splB 10 x).getD n .empty).toList = (ByteArray.mk #[]).toList
/-- rows that are a valid chimney -/
structure V (c : List (List Int)) : Prop where
  rows : RowsOk Sh5 c
  len : c.length ≤ 1048576
  val : r16 c = (0, true)
theorem V.ok {c : List (List Int)} (h : V c) : ChOk c := by
  obtain ⟨b, v2, v3⟩ := valid_i h.rows h.len
  have hb : b = true := by
    have := h.val
    rw [v2] at this
    exact congrArg Prod.snd this
  subst hb
  exact v3 rfl
theorem no16 : r16 [] = (0, false) := rfl
theorem empty_of {x : ByteArray} (h : x.toList = (ByteArray.mk #[]).toList) : x.data.toList = [] := by
  rw [toList_eq, toList_eq] at h; exact h
section
variable {x : ByteArray} (hx : x.size ≤ 1048576)
theorem line_size (hx : x.size ≤ 1048576) (i : Nat) : ((splB 10 x).getD i .empty).size ≤ 1048576 := by
  by_cases hj : i < (splB 10 x).length
  · have h2 := join_splitL 10 x.data.toList
    rw [splB_eq] at hj ⊢
    rw [List.length_map] at hj
    rw [List.getD_eq_getElem?_getD, List.getElem?_map, List.getElem?_eq_getElem hj]
    show (mkB ((splitL 10 x.data.toList)[i])).size ≤ _
    rw [mkB_size]
    have : ∀ (L : List (List UInt8)) (l : List UInt8), l ∈ L → l.length ≤ (joinL 10 L).length := by
      intro L l
      induction L with
      | nil => intro h; cases h
      | cons y r ih =>
        intro h
        by_cases hr : r = []
        · subst hr
          rcases List.mem_cons.1 h with h | h
          · subst h; simp [joinL]
          · cases h
        · rw [joinL_cons 10 y hr, List.length_append, List.length_cons]
          rcases List.mem_cons.1 h with h | h
          · subst h; omega
          · have := ih h; omega
    have h3 := this _ _ (List.getElem_mem hj)
    rw [h2] at h3
    have := size_eq x
    omega
  · rw [List.getD_eq_getElem?_getD, List.getElem?_eq_none (by omega)]
    show ByteArray.empty.size ≤ _
    decide
theorem splB_ne : 1 ≤ (splB 10 x).length := by
  rw [splB_eq, List.length_map]
  exact List.length_pos_iff.2 (splitL_ne 10 x.data.toList)
theorem one_line (h : (splB 10 x).length = 1) : (splB 10 x).getD 0 .empty = x := by
  rw [splB_eq, List.length_map] at h
  obtain ⟨a, ha⟩ := List.length_eq_one_iff.1 h
  have hj := join_splitL 10 x.data.toList
  rw [ha] at hj
  rw [splB_eq, ha]
  show mkB a = x
  rw [← mkB_of x, ← hj]; rfl
/-! ### the program -/
include hx
theorem lines_impl (h0 : (x.toList == (ByteArray.mk #[]).toList) = false) : r35 x = (1, (splB 10 x).length - 1, (((splB 10 x).getD ((splB 10 x).length - 1) .empty).toList == (ByteArray.mk #[]).toList), splB 10 x) := by
  have h1 := splB_ne (x := x)
  have h2 := splB_len (c := 10) (s := x)
  unfold r35 w35
  have hw : IntKind.i64.wrap ((((splB 10 x).length : Nat) : Int) - 1) = (((splB 10 x).length - 1 : Nat) : Int) := by rw [wrap_i64 (by omega) (by omega)]; omega
  rw [h0, hw, Int.toNat_natCast, dle0, Nat.ble_eq_true_of_le (Nat.zero_le _), Nat.ble_eq_true_of_le (show (splB 10 x).length - 1 ≤ (splB 10 x).length by omega), blt_t (show (splB 10 x).length - 1 < (splB 10 x).length by omega), blt_t (show x.size < 4294967281 by omega), Nat.zero_add, blt_t (show (splB 10 x).length - 1 < (splB 10 x).length by omega)]
  rfl
theorem impl_no (h : ¬ ∃ n, Sh x n) : r7 x = (0, []) := by
  unfold r7 w7
  cases h0 : x.toList == (ByteArray.mk #[]).toList with
  | true =>
    have : r35 x = (0, 0, false, []) := by unfold r35 w35; rw [h0]; rfl
    rw [this, no16]; rfl
  | false =>
    rw [lines_impl hx h0]
    cases hl : ((splB 10 x).getD ((splB 10 x).length - 1) .empty).toList == (ByteArray.mk #[]).toList with
    | false => rfl
    | true =>
      by_cases h6 : (splB 10 x).length - 1 > 6
      · simp only
        rw [decide_eq_true (show (((splB 10 x).length - 1 : Nat) : Int) > 6 by omega)]; rfl
      · exfalso
        have h1 := splB_ne (x := x)
        by_cases hn : (splB 10 x).length = 1
        · have := one_line hn
          rw [hn, show 1 - 1 = 0 from rfl, this, h0] at hl
          cases hl
        · exact h ⟨(splB 10 x).length - 1, by omega, by omega, by omega, eq_of_beq hl⟩
theorem loop_impl {n : Nat} (h : Sh x n) {fuel : Nat} (hf : n < fuel) :
    (∃ R : List (List Int), R.length = n ∧ (∀ j, j < n → lineI ((splB 10 x).getD j .empty) = some (R.getD j [])) ∧ r7l0b fuel x 0 n (n : Int) 0 [] (splB 10 x) = (2, [], R)) ∨
    ((∃ j, j < n ∧ lineI ((splB 10 x).getD j .empty) = none) ∧ ∃ q, r7l0b fuel x 0 n (n : Int) 0 [] (splB 10 x) = (0, q, []) ∨ r7l0b fuel x 0 n (n : Int) 0 [] (splB 10 x) = (1, q, [])) := by
  have n6 := h.n6; have n1 := h.n1; have len := h.len
  have := read_loop (G := fun m i o => r7l0b m x 0 n (n : Int) i o (splB 10 x)) (n := n) (P := fun i => lineI ((splB 10 x).getD i .empty))
    (fun m o => by show b7l0b (r7l0b m) _ _ _ _ _ _ _ = _; unfold b7l0b w7l0b; rw [dlt_f (Nat.lt_irrefl _)]; rfl)
    (fun m i o hi ho => round_impl (by omega) hi (by omega) ho (line_size hx i)) n 0 [] fuel (by omega) hf (by simp; omega)
  rcases this with ⟨R, g1, g2, g3⟩ | ⟨⟨j, g1, g2⟩, q, g3⟩
  · rw [if_neg (by omega)] at g3
    exact .inl ⟨R, g1, fun j hj => by have := g2 j hj; rwa [Nat.zero_add] at this, g3⟩
  · rw [Nat.zero_add] at g2
    exact .inr ⟨⟨j, g1, g2⟩, q, g3⟩
theorem impl_yes {n : Nat} (h : Sh x n) : (∃ c, V c ∧ c.length = n ∧ (∀ j, j < n → lineI ((splB 10 x).getD j .empty) = some (c.getD j [])) ∧ x = mkB (textC c) ∧ r7 x = (1, c)) ∨
    (r7 x = (0, []) ∧ ¬ ∃ c, V c ∧ c.length = n ∧ (∀ j, j < n → lineI ((splB 10 x).getD j .empty) = some (c.getD j [])) ∧ x = mkB (textC c)) := by
  have h0 : (x.toList == (ByteArray.mk #[]).toList) = false := by
    cases h0 : x.toList == (ByteArray.mk #[]).toList with
    | false => rfl
    | true =>
      exfalso
      have e := empty_of (eq_of_beq h0)
      have := h.len; have := h.n1
      have e2 : (splB 10 x).length = 1 := by rw [splB_eq, e]; rfl
      omega
  have hn : (splB 10 x).length - 1 = n := by have := h.len; omega
  have n6 := h.n6; have n1 := h.n1
  have hl : (((splB 10 x).getD n .empty).toList == (ByteArray.mk #[]).toList) = true := by rw [h.last]; exact beq_self_eq_true _
  have e35 := lines_impl hx h0
  rw [hn, hl] at e35
  rcases loop_impl hx h (fuel := 1000 + (splB 10 x).length + 0 + x.size) (by have := h.len; omega) with ⟨R, g1, g2, g3⟩ | ⟨⟨j, g1, g2⟩, q, g3⟩
  · have hR : RowsOk Sh5 R := by
      intro r hr
      obtain ⟨j, hj, rfl⟩ := List.getElem_of_mem hr
      have := rowI_ok (g2 j (by omega))
      rw [List.getD_eq_getElem?_getD, List.getElem?_eq_getElem hj] at this
      exact this
    obtain ⟨b, v2, v3⟩ := valid_i hR (by omega)
    have e7 : r7 x = cond b (cond (!((mkB (textC R)).toList == x.toList)) (0, []) (1, R)) (0, []) := by
      unfold r7 w7
      rw [e35]
      simp only
      rw [g3]
      simp only
      rw [v2, decide_eq_false (show ¬ ((n : Nat) : Int) > 6 by omega)]
      cases b with
      | false => rfl
      | true => rw [text_chimney (v3 rfl)]; rfl
    rw [e7]
    have uniq : ∀ c : List (List Int), c.length = n → (∀ j, j < n → lineI ((splB 10 x).getD j .empty) = some (c.getD j [])) → c = R := by
      intro c c1 c2
      apply List.ext_getElem (by omega)
      intro j hj1 hj2
      have e1 := c2 j (by omega)
      rw [g2 j (by omega)] at e1
      have e2 := Option.some.inj e1
      rw [List.getD_eq_getElem?_getD, List.getElem?_eq_getElem hj2, List.getD_eq_getElem?_getD, List.getElem?_eq_getElem hj1] at e2
      exact e2.symm
    cases b with
    | false =>
      refine .inr ⟨rfl, ?_⟩
      rintro ⟨c, c1, c2, c3, _⟩
      have := uniq c c2 c3
      subst this
      rw [c1.val] at v2
      cases v2
    | true =>
      cases ht : (mkB (textC R)).toList == x.toList with
      | true =>
        refine .inl ⟨R, ⟨hR, by omega, v2⟩, g1, g2, ?_, rfl⟩
        have := eq_of_beq ht
        rw [toList_eq, toList_eq, mkB_data] at this
        rw [← mkB_of x, ← this]
      | false =>
        refine .inr ⟨rfl, ?_⟩
        rintro ⟨c, c1, c2, c3, c4⟩
        have := uniq c c2 c3
        subst this
        rw [← c4, beq_self_eq_true] at ht
        cases ht
  · refine .inr ⟨?_, ?_⟩
    · unfold r7 w7
      rw [e35]
      simp only
      rw [decide_eq_false (show ¬ ((n : Nat) : Int) > 6 by omega)]
      rcases g3 with g3 | g3 <;> rw [g3] <;> rfl
    · rintro ⟨c, _, _, c3, _⟩
      rw [c3 j g1] at g2
      cases g2
end
end Go.Proofs.YtffpnkkhcgjmfaaGreatDoor

namespace Go.Proofs.YtffpnkkhcgjmfaaGreatDoor
open Go.Ab

section
variable {x : ByteArray} (hx : x.size ≤ 1048576)
include hx
omit hx in
theorem uniq {f : Nat → Option (List Int)} {n : Nat} {c R : List (List Int)} (c1 : c.length = n) (c2 : ∀ j, j < n → f j = some (c.getD j [])) (g1 : R.length = n) (g2 : ∀ j, j < n → f j = some (R.getD j [])) : c = R := by
  apply List.ext_getElem (by omega)
  intro j hj1 hj2
  have e1 := c2 j (by omega)
  rw [g2 j (by omega)] at e1
  have e2 := Option.some.inj e1
  rw [List.getD_eq_getElem?_getD, List.getElem?_eq_getElem hj2, List.getD_eq_getElem?_getD, List.getElem?_eq_getElem hj1] at e2
  exact e2.symm
end
/-! ### a chimney's text is cut into its lines, and lines make the text -/
theorem ok_no {c : List (List Int)} (ok : ChOk c) : ∀ l ∈ (List.range' 0 c.length).map (ln c), (10 : UInt8) ∉ l := by
  intro l hl
  rw [List.mem_map] at hl
  obtain ⟨i, hi, rfl⟩ := hl
  rw [List.mem_range'_1] at hi
  exact lnR_no (into_ok ok (by omega))
theorem split_of {c : List (List Int)} (ok : ChOk c) : splB 10 (mkB (textC c)) = ((List.range' 0 c.length).map (ln c) ++ [[]]).map mkB := by
  rw [splB_eq, mkB_data]
  unfold textC
  rw [split_text _ (ok_no ok)]
theorem nums_ok {c : List (List Int)} (ok : ChOk c) {i : Nat} (hi : i < c.length) : ∀ j, j < 4 → isN .f32 (Int.toNat ((c.getD i []).getD j 0)) = false := by
  obtain ⟨f1, f2, f3, _, _, _, _, f4, _, _, _⟩ := ok.flue i hi
  intro j hj
  have : j = 0 ∨ j = 1 ∨ j = 2 ∨ j = 3 := by omega
  rcases this with rfl | rfl | rfl | rfl
  · refine nn_isN.2 ?_
    show fc c i 0 % 2147483648 ≤ 2139095040
    omega
  · refine nn_isN.2 ?_
    show fc c i 1 % 2147483648 ≤ 2139095040
    omega
  · exact nn_isN.2 f4
  · refine nn_isN.2 ?_
    show fc c i 3 % 2147483648 ≤ 2139095040
    omega
theorem lines_of {c : List (List Int)} (ok : ChOk c) : Sh (mkB (textC c)) c.length ∧ ∀ j, j < c.length → lineI ((splB 10 (mkB (textC c))).getD j .empty) = some (c.getD j []) := by
  have hs := split_of ok
  refine ⟨⟨by rw [hs]; simp, ok.n1, ok.n2, ?_⟩, fun j hj => ?_⟩
  · rw [hs, List.getD_eq_getElem?_getD, List.getElem?_map, List.getElem?_append_right (by simp)]
    simp
    rw [toList_eq]; rfl
  · have e : (splB 10 (mkB (textC c))).getD j .empty = mkB (lnR (c.getD j [])) := by
      rw [hs, List.getD_eq_getElem?_getD, List.getElem?_map, List.getElem?_append_left (by simpa using hj), List.getElem?_map, List.getElem?_range' hj]
      simp [ln]
    rw [e]
    exact line_of (ok.rows.get hj) (into_ok ok hj) (nums_ok ok hj)
end Go.Proofs.YtffpnkkhcgjmfaaGreatDoor
