/- The text of a chimney, and lines that are texts. -/
import Derived.Test.YtffpnkkhcgjmfaaGreatDoorPrm6
namespace Go.Proofs.YtffpnkkhcgjmfaaGreatDoor
open Go.Ab

/-! ### texts put together -/
theorem mk_app (a b : List UInt8) : mkB a ++ mkB b = mkB (a ++ b) := by
  apply ByteArray.ext
  simp [mkB, ByteArray.data_append]
theorem cs {α : Type} {c : Prop} [Decidable c] {a b r : α} (h : c) (e : a = r) : cond (decide c) a b = r := by rw [decide_eq_true h]; exact e
theorem cb {α : Type} {c : Bool} {a b r : α} (h : c = true) (e : a = r) : cond c a b = r := by rw [h]; exact e
theorem text_loop {G : Nat → ByteArray → Int → Nat × ByteArray} {n N : Nat} {line : Nat → List UInt8} (hN : N ≤ 10000000)
    (hl : ∀ i, i < n → (line i).length ≤ 1000)
    (hs : ∀ m t i, i < n → t.length ≤ N → G (m + 1) (mkB t) (i : Int) = G m (mkB (t ++ line i)) ((i + 1 : Nat) : Int))
    (he : ∀ m t, G (m + 1) (mkB t) (n : Int) = (0, mkB t)) :
    ∀ k i t fuel, i + k = n → k < fuel → t.length + 1000 * k ≤ N → G fuel (mkB t) (i : Int) = (0, mkB (t ++ ((List.range' i k).flatMap line))) := by
  intro k
  induction k with
  | zero =>
    intro i t fuel h hf _
    obtain ⟨m, rfl⟩ : ∃ m, fuel = m + 1 := ⟨fuel - 1, by omega⟩
    obtain rfl : i = n := by omega
    rw [he]; simp
  | succ k ih =>
    intro i t fuel h hf hb
    obtain ⟨m, rfl⟩ : ∃ m, fuel = m + 1 := ⟨fuel - 1, by omega⟩
    have := hl i (by omega)
    rw [hs m t i (by omega) (by omega), ih (i + 1) _ m (by omega) (by omega) (by rw [List.length_append]; omega)]
    rw [List.range'_succ, List.flatMap_cons, List.append_assoc]
theorem lines_length {line : Nat → List UInt8} {n : Nat} (hl : ∀ i, i < n → (line i).length ≤ 1000) : ((List.range' 0 n).flatMap line).length ≤ 1000 * n := by
  have key : ∀ k i, i + k ≤ n → ((List.range' i k).flatMap line).length ≤ 1000 * k := by
    intro k
    induction k with
    | zero => intro i _; simp
    | succ k ih =>
      intro i h
      rw [List.range'_succ, List.flatMap_cons, List.length_append]
      have := hl i (by omega); have := ih (i + 1) (by omega); omega
  exact key n 0 (by omega)
/-! ### sides -/
def sideL (x : Int) : List UInt8 := if x = -1 then [45] else decL x.toNat
theorem sideL_length (x : Int) : (sideL x).length = 1 := by unfold sideL decL; split <;> rfl
theorem no_all : ∀ d : Fin 6, UInt8.ofNat (48 + d.val) ≠ 32 ∧ UInt8.ofNat (48 + d.val) ≠ 10 := by decide +kernel
theorem sideL_no {x : Int} (h : x = -1 ∨ (0 ≤ x ∧ x ≤ 5)) {c : UInt8} (hc : c = 32 ∨ c = 10) : c ∉ sideL x := by
  unfold sideL
  rcases h with rfl | ⟨h0, h1⟩
  · rw [if_pos rfl]; rcases hc with rfl | rfl <;> decide
  · obtain ⟨n, rfl⟩ := Int.eq_ofNat_of_zero_le h0
    have e := no_all ⟨n, by omega⟩
    rw [if_neg (by omega)]
    unfold decL
    rw [Int.toNat_natCast, List.mem_singleton]
    rcases hc with rfl | rfl
    · exact fun h => e.1 h.symm
    · exact fun h => e.2 h.symm
theorem side_impl {x : Int} (h : x = -1 ∨ (0 ≤ x ∧ x ≤ 5)) : r85 x = (0, mkB (sideL x)) := by
  unfold r85 w85 sideL
  rcases h with rfl | ⟨h0, h1⟩
  · rfl
  · obtain ⟨n, rfl⟩ := Int.eq_ofNat_of_zero_le h0
    rw [show (((n : Nat) : Int) == -1) = false from beq_eq_false_iff_ne.2 (by omega), decide_eq_true (show (0 : Int) ≤ (n : Int) by omega), decide_eq_true (show ((n : Nat) : Int) < 100 by omega), if_neg (by omega), dig_dec (by omega)]; rfl
theorem not_dash {n : Nat} (h : n ≤ 5) : ((mkB (decL n)).toList == DASH.toList) = false := by
  rw [toList_eq, toList_eq]
  exact beq_eq_false_iff_ne.2 fun e => dash_all ⟨n, by omega⟩ e
theorem side_word {x : Int} (h : x = -1 ∨ (0 ≤ x ∧ x ≤ 5)) : (okI (mkB (sideL x)) = true ∧ sdI (mkB (sideL x)) = x) ∧ okS (mkB (sideL x)) = true ∧ sdS (mkB (sideL x)) = x := by
  unfold okI sdI okS sdS sideL
  rcases h with rfl | ⟨h0, h1⟩
  · rw [if_pos rfl, show mkB [45] = DASH from rfl, beq_self_eq_true]; exact ⟨⟨rfl, rfl⟩, rfl, rfl⟩
  · obtain ⟨n, rfl⟩ := Int.eq_ofNat_of_zero_le h0
    rw [if_neg (by omega), Int.toNat_natCast, not_dash (by omega), (p_dec (show n ≤ 5 by omega)).1, (p_dec (show n ≤ 5 by omega)).2, number_dec (by omega)]
    exact ⟨⟨rfl, rfl⟩, rfl, rfl⟩
/-! ### the text of a chimney -/
def lnR (r : List Int) : List UInt8 := joinL 32 [numL (Int.toNat (r.getD 0 0)), numL (Int.toNat (r.getD 1 0)), numL (Int.toNat (r.getD 2 0)), numL (Int.toNat (r.getD 3 0)), sideL (r.getD 4 0)]
def ln (c : List (List Int)) (i : Nat) : List UInt8 := lnR (c.getD i [])
def textC (c : List (List Int)) : List UInt8 := ((List.range' 0 c.length).map (ln c)).flatMap (· ++ [10])
theorem lnR_length (r : List Int) : (lnR r).length ≤ 100 := by
  unfold lnR; simp only [joinL, List.length_append, numL_length, sideL_length, List.length_cons, List.length_nil]; omega
theorem lnR_no {r : List Int} (h : r.getD 4 0 = -1 ∨ (0 ≤ r.getD 4 0 ∧ r.getD 4 0 ≤ 5)) : (10 : UInt8) ∉ lnR r := by
  unfold lnR
  have h5 := sideL_no h (c := 10) (.inr rfl)
  have h0 := fun j => numL_no (n := Int.toNat (r.getD j 0)) (c := 10) (.inr rfl)
  simp only [joinL, List.mem_append, List.mem_cons, not_or]
  exact ⟨h0 0, by decide, h0 1, by decide, h0 2, by decide, h0 3, by decide, h5⟩
theorem into_ok {c : List (List Int)} (ok : ChOk c) {i : Nat} (hi : i < c.length) : ic c i 4 = -1 ∨ (0 ≤ ic c i 4 ∧ ic c i 4 ≤ 5) := by
  rcases ok.into i hi with h | ⟨h0, h1, _, _⟩
  · exact .inl h
  · have := ok.n2; exact .inr ⟨h0, by omega⟩
theorem map5 (a b c d e : List UInt8) : [mkB a, mkB b, mkB c, mkB d, mkB e] = List.map mkB [a, b, c, d, e] := rfl
theorem flue_line {ih : ByteArray → Int → Int → List (List Int) → (Nat × ByteArray)} {c : List (List Int)} (ok : ChOk c) {i : Nat} (hi : i < c.length) {t : List UInt8} (ht : t.length ≤ 100000) : b40l0 ih (mkB t) ((c.length : Nat) : Int) (i : Int) c = ih (mkB (t ++ (ln c i ++ [10]))) ((c.length : Nat) : Int) ((i + 1 : Nat) : Int) c := by
  have n2 := ok.n2
  have hi4 := into_ok ok hi
  have hr := ok.rows
  unfold b40l0
  rw [dlt_t hi, dle0, Int.toNat_natCast, blt_t hi, wrap_succ (by omega), text_eq (fc_lt hr (j := 0) hi rfl), text_eq (fc_lt hr (j := 1) hi rfl), text_eq (fc_lt hr (j := 2) hi rfl), text_eq (fc_lt hr (j := 3) hi rfl), side_impl hi4, show (ByteArray.mk #[10]) = mkB [10] from rfl]
  simp only [map5]
  rw [joinOk_eq (by simp) (by simp only [List.map_cons, List.map_nil, List.sum_cons, List.sum_nil, List.length_append, numL_length, sideL_length, List.length_cons, List.length_nil]; omega)]
  simp only [joinB_eq]
  simp only [mk_app, mkB_size, joinL, List.length_append, numL_length, sideL_length, List.length_cons, List.length_nil]
  repeat' first | refine cs (by unfold strMax; omega) ?_ | refine cb rfl ?_
  rfl
theorem text_chimney {c : List (List Int)} (ok : ChOk c) : r40 c = (0, mkB (textC c)) := by
  have n2 := ok.n2
  have e0 : ∀ fuel, c.length < fuel → r40l0 fuel (mkB []) ((c.length : Nat) : Int) ((0 : Nat) : Int) c = (0, mkB ([] ++ (List.range' 0 c.length).flatMap fun i => ln c i ++ [10])) := fun fuel hf =>
    text_loop (G := fun m x i => r40l0 m x ((c.length : Nat) : Int) i c) (n := c.length) (N := 100000) (line := fun i => ln c i ++ [10]) (by omega) (fun i _ => by rw [List.length_append]; have := lnR_length (c.getD i []); show (lnR (c.getD i [])).length + 1 ≤ 1000; omega)
      (fun m t i hi ht => flue_line ok hi ht)
      (fun m t => by show b40l0 _ _ _ _ _ = _; unfold b40l0; rw [dlt_f (Nat.lt_irrefl _)]; rfl) c.length 0 [] fuel (by omega) hf (by simp; omega)
  unfold r40 w40
  rw [show (ByteArray.mk #[]) = mkB [] from rfl, show (0 : Int) = ((0 : Nat) : Int) from rfl, e0 _ (by omega), List.nil_append]
  unfold textC
  rw [List.flatMap_map]
  rfl
/-! ### cut and put together -/
theorem split_text : ∀ (L : List (List UInt8)), (∀ l ∈ L, (10 : UInt8) ∉ l) → splitL 10 (L.flatMap (· ++ [10])) = L ++ [[]]
  | [], _ => splitL_no (by simp)
  | a :: L, h => by
    rw [List.flatMap_cons, List.append_assoc, List.singleton_append, splitL_app (h a (List.mem_cons_self ..)), split_text L fun l hl => h l (List.mem_cons_of_mem _ hl)]; rfl
theorem join_text : ∀ (L : List (List UInt8)), joinL 10 (L ++ [[]]) = L.flatMap (· ++ [10])
  | [] => rfl
  | a :: L => by
    rw [List.cons_append, joinL_cons 10 a (by simp), join_text L, List.flatMap_cons, List.append_assoc, List.singleton_append]
theorem join_len (c : UInt8) : ∀ L : List (List UInt8), L.length ≤ (joinL c L).length + 1
  | [] => by simp
  | [x] => by simp
  | x :: y :: r => by
    rw [joinL_cons c x (by simp), List.length_append, List.length_cons]
    have := join_len c (y :: r)
    simp only [List.length_cons] at this ⊢
    omega
theorem splB_len {c : UInt8} {s : ByteArray} : (splB c s).length ≤ s.size + 1 := by
  rw [splB_eq, List.length_map]
  have := join_len c (splitL c s.data.toList)
  rw [join_splitL] at this
  rw [size_eq]; exact this
/-! ### lines that are texts -/
theorem split_ln {r : List Int} (h : r.getD 4 0 = -1 ∨ (0 ≤ r.getD 4 0 ∧ r.getD 4 0 ≤ 5)) : splB 32 (mkB (lnR r)) = [mkB (numL (Int.toNat (r.getD 0 0))), mkB (numL (Int.toNat (r.getD 1 0))), mkB (numL (Int.toNat (r.getD 2 0))), mkB (numL (Int.toNat (r.getD 3 0))), mkB (sideL (r.getD 4 0))] := by
  have h0 := fun j => numL_no (n := Int.toNat (r.getD j 0)) (c := 32) (.inl rfl)
  rw [splB_eq, mkB_data]
  unfold lnR
  rw [split_joinL (by simp) (by
    intro x hx
    simp only [List.mem_cons, List.not_mem_nil, or_false] at hx
    rcases hx with rfl | rfl | rfl | rfl | rfl
    · exact h0 0
    · exact h0 1
    · exact h0 2
    · exact h0 3
    · exact sideL_no h (.inl rfl))]
  rfl
theorem rd_num {v : Nat} (h : v < 4294967296) (hn : isN .f32 v = false) : rdB (mkB (numL v)) = some v := by
  unfold rdB
  rw [mkB_data, rdL_numL h, hn]; rfl
theorem line_of {r : List Int} (hr : RowOk Sh5 r) (h : r.getD 4 0 = -1 ∨ (0 ≤ r.getD 4 0 ∧ r.getD 4 0 ≤ 5)) (hn : ∀ j, j < 4 → isN .f32 (Int.toNat (r.getD j 0)) = false) : lineI (mkB (lnR r)) = some r ∧ lineS (mkB (lnR r)) = some r := by
  have hlt : ∀ j, j < 4 → Int.toNat (r.getD j 0) < 4294967296 := fun j hj => by
    have : j = 0 ∨ j = 1 ∨ j = 2 ∨ j = 3 := by omega
    rcases this with rfl | rfl | rfl | rfl <;> exact CTok.lt32 (hr.get rfl)
  have q := fun j (hj : j < 4) => rd_num (hlt j hj) (hn j hj)
  obtain ⟨⟨s1, s2⟩, s3, s4⟩ := side_word h
  unfold lineI lineS goodI goodS
  rw [split_ln h]
  have hb : bd [mkB (numL (Int.toNat (r.getD 0 0))), mkB (numL (Int.toNat (r.getD 1 0))), mkB (numL (Int.toNat (r.getD 2 0))), mkB (numL (Int.toNat (r.getD 3 0))), mkB (sideL (r.getD 4 0))] 4 = false := by
    refine bd_of fun j hj => ?_
    have : j = 0 ∨ j = 1 ∨ j = 2 ∨ j = 3 := by omega
    rcases this with rfl | rfl | rfl | rfl
    · exact ⟨by simp, congrArg Option.isSome (q 0 (by omega))⟩
    · exact ⟨by simp, congrArg Option.isSome (q 1 (by omega))⟩
    · exact ⟨by simp, congrArg Option.isSome (q 2 (by omega))⟩
    · exact ⟨by simp, congrArg Option.isSome (q 3 (by omega))⟩
  have hv : ∀ x, rowOf [mkB (numL (Int.toNat (r.getD 0 0))), mkB (numL (Int.toNat (r.getD 1 0))), mkB (numL (Int.toNat (r.getD 2 0))), mkB (numL (Int.toNat (r.getD 3 0))), mkB (sideL (r.getD 4 0))] x = [((Int.toNat (r.getD 0 0) : Nat) : Int), ((Int.toNat (r.getD 1 0) : Nat) : Int), ((Int.toNat (r.getD 2 0) : Nat) : Int), ((Int.toNat (r.getD 3 0) : Nat) : Int), x] := fun x => by
    unfold rowOf num
    simp only [List.length_cons, List.length_nil, Nat.reduceAdd, Nat.reduceLT, if_true, List.getD_cons_zero, List.getD_cons_succ]
    rw [q 0 (by omega), q 1 (by omega), q 2 (by omega), q 3 (by omega)]
    rfl
  rw [hb, hv, hv]
  simp only [List.getD_cons_zero, List.getD_cons_succ, s1, s2, s3, s4]
  have hre : [((Int.toNat (r.getD 0 0) : Nat) : Int), ((Int.toNat (r.getD 1 0) : Nat) : Int), ((Int.toNat (r.getD 2 0) : Nat) : Int), ((Int.toNat (r.getD 3 0) : Nat) : Int), r.getD 4 0] = r := reb_eq hr
  rw [hre]
  exact ⟨rfl, rfl⟩
theorem row_ok {W : List ByteArray} {x : Int} (h0 : -9223372036854775808 ≤ x) (h1 : x ≤ 9223372036854775807) : RowOk Sh5 (rowOf W x) := by
  have := num_lt W 0; have := num_lt W 1; have := num_lt W 2; have := num_lt W 3
  have hm : IntKind.i64.min = -9223372036854775808 := by decide
  have hM : IntKind.i64.max = 9223372036854775807 := by decide
  refine ⟨⟨by omega, by omega⟩, ⟨by omega, by omega⟩, ⟨by omega, by omega⟩, ⟨by omega, by omega⟩, ⟨by rw [hm]; omega, by rw [hM]; omega⟩, trivial⟩
theorem rowI_ok {s : ByteArray} {r : List Int} (h : lineI s = some r) : RowOk Sh5 r := by
  unfold lineI at h
  cases hg : goodI (splB 32 s) with
  | false => rw [hg] at h; cases h
  | true =>
    rw [hg] at h
    cases h
    unfold goodI at hg
    rw [Bool.and_eq_true, Bool.and_eq_true] at hg
    have ho := hg.2.2
    have : -9223372036854775808 ≤ sdI ((splB 32 s).getD 4 .empty) ∧ sdI ((splB 32 s).getD 4 .empty) ≤ 9223372036854775807 := by
      unfold okI at ho
      unfold sdI
      cases hd : ((splB 32 s).getD 4 .empty).toList == DASH.toList with
      | true => exact ⟨by show (-9223372036854775808 : Int) ≤ -1; omega, by show (-1 : Int) ≤ 9223372036854775807; omega⟩
      | false => rw [hd] at ho; exact p_range ho
    exact row_ok this.1 this.2
theorem five {l : List (List UInt8)} (h : l.length = 5) : ∃ a b c d e, l = [a, b, c, d, e] := by
  match l, h with
  | [a, b, c, d, e], _ => exact ⟨a, b, c, d, e, rfl⟩
theorem rowS_text {s : ByteArray} {r : List Int} (h : lineS s = some r) : RowOk Sh5 r ∧ ((r.getD 4 0 = -1 ∨ (0 ≤ r.getD 4 0 ∧ r.getD 4 0 ≤ 5)) → s.data.toList = lnR r) := by
  unfold lineS at h
  cases hg : goodS (splB 32 s) with
  | false => rw [hg] at h; cases h
  | true =>
    rw [hg] at h
    cases h
    unfold goodS at hg
    rw [Bool.and_eq_true, Bool.and_eq_true, decide_eq_true_eq, Bool.not_eq_true'] at hg
    obtain ⟨h5, hb, ho⟩ := hg
    have hj := join_splitL 32 s.data.toList
    rw [splB_eq] at h5 hb ho ⊢
    rw [List.length_map] at h5
    obtain ⟨a, b, c, d, e, hl⟩ := five h5
    rw [hl] at hj hb ho ⊢
    simp only [List.map_cons, List.map_nil, List.getD_cons_zero, List.getD_cons_succ] at ho ⊢
    have q := bd_false hb
    have hw : ∀ j (l : List UInt8), [mkB a, mkB b, mkB c, mkB d, mkB e].getD j .empty = mkB l → j < 4 → numL (num [mkB a, mkB b, mkB c, mkB d, mkB e] j) = l := fun j l hx hj => by
      have h2 := (q j hj).2
      unfold num
      rw [if_pos (by simp; omega)]
      have h2' : (rdB ([mkB a, mkB b, mkB c, mkB d, mkB e].getD j .empty)).isSome = true := h2
      rw [hx] at h2' ⊢
      cases hr : rdB (mkB l) with
      | none => rw [hr] at h2'; cases h2'
      | some v => exact (numL_rdL hr).2
    obtain ⟨v, bb, g, g1, g2⟩ := number_spec (mkB e)
    unfold okS at ho
    have hsd : ∃ x, sdS (mkB e) = x ∧ -9223372036854775808 ≤ x ∧ x ≤ 9223372036854775807 ∧ ((x = -1 ∨ (0 ≤ x ∧ x ≤ 5)) → sideL x = e) := by
      unfold sdS
      cases hd : (mkB e).toList == DASH.toList with
      | true =>
        have he : (mkB e).toList = DASH.toList := eq_of_beq hd
        rw [toList_eq, toList_eq, mkB_data] at he
        exact ⟨-1, rfl, by omega, by omega, fun _ => by unfold sideL; rw [if_pos rfl, he]⟩
      | false =>
        rw [hd, g] at ho
        rw [g]
        refine ⟨(v : Int), rfl, by omega, by omega, fun hx => ?_⟩
        have := g2 ho (by omega)
        have he : e = decL v := mkB_inj this
        unfold sideL
        rw [if_neg (by omega), Int.toNat_natCast, he]
    obtain ⟨x, e1, e2, e3, e4⟩ := hsd
    rw [e1]
    refine ⟨row_ok e2 e3, fun hx => ?_⟩
    unfold lnR rowOf
    simp only [List.getD_cons_zero, List.getD_cons_succ, Int.toNat_natCast] at hx ⊢
    have hx' : x = -1 ∨ (0 ≤ x ∧ x ≤ 5) := hx
    rw [hw 0 a rfl (by omega), hw 1 b rfl (by omega), hw 2 c rfl (by omega), hw 3 d rfl (by omega), e4 hx', hj]
end Go.Proofs.YtffpnkkhcgjmfaaGreatDoor
