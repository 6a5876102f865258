/- The text of a flat: both ways of writing it. -/
import Derived.Test.YtffpnkkhcgjmfaaDoorPft1
import Derived.Test.YtffpnkkhcgjmfaaDoorPftt
namespace Go.Proofs.YtffpnkkhcgjmfaaDoor
open Go.Ab

/-! ### sides -/
theorem sides_ok {a b : Int} {n : Nat} (hn : n ≤ 1048576) (h : r85 a b (n : Int) = true) : (0 ≤ a ∧ a < n) ∧ (-1 ≤ b ∧ b < n) := by
  rw [sides_eq a b hn] at h
  unfold r67 w67 at h
  by_cases h1 : a ≥ 0
  · rw [decide_eq_true h1, cond_true] at h
    by_cases h2 : a < (n : Int)
    · rw [decide_eq_true h2, cond_true] at h
      by_cases h3 : b ≥ -1
      · rw [decide_eq_true h3, cond_true] at h
        by_cases h4 : b < (n : Int)
        · exact ⟨⟨h1, h2⟩, h3, h4⟩
        · rw [decide_eq_false h4] at h; cases h
      · rw [decide_eq_false h3] at h; cases h
    · rw [decide_eq_false h2] at h; cases h
  · rw [decide_eq_false h1] at h; cases h
theorem wall_ix {h s w p : List (List Int)} (ok : FlatOk h s w p) {i : Nat} (hi : i < w.length) : (0 ≤ ic w i 0 ∧ ic w i 0 < 5) ∧ (-1 ≤ ic w i 1 ∧ ic w i 1 < 5) := by
  have := ok.walls i hi
  unfold pW at this
  simp only [Bool.and_eq_true] at this
  have := sides_ok (by have := ok.n5; omega) this.2.2.2.2.1
  have := ok.n5
  omega
theorem pane_ix {h s w p : List (List Int)} (ok : FlatOk h s w p) {i : Nat} (hi : i < p.length) : (0 ≤ ic p i 0 ∧ ic p i 0 < 5) ∧ (-1 ≤ ic p i 1 ∧ ic p i 1 < 5) := by
  have := ok.panes i hi
  unfold pP at this
  simp only [Bool.and_eq_true] at this
  have := sides_ok (by have := ok.n5; omega) this.1
  have := ok.n5
  omega
def sideL (x : Int) : List UInt8 := if x = -1 then [45] else decL x.toNat
theorem sideL_length (x : Int) : (sideL x).length = 1 := by unfold sideL decL; split <;> rfl
theorem dig_at {x : Int} (h0 : 0 ≤ x) (h1 : x < 5) : digB x = mkB (decL x.toNat) := by
  obtain ⟨n, rfl⟩ := Int.eq_ofNat_of_zero_le h0
  exact dec_impl (by omega)
theorem side_impl {x : Int} (h0 : -1 ≤ x) (h1 : x < 5) : r72 x = (0, mkB (sideL x)) := by
  unfold r72 w72 sideL
  by_cases h : x = -1
  · subst h; rfl
  · rw [show ((x : Int) == -1) = false from by simpa using h, decide_eq_true (show 0 ≤ x by omega), decide_eq_true (show x < 100 by omega), if_neg h, dig_at (by omega) h1]; rfl
theorem side_spec {x : Int} (h0 : -1 ≤ x) (h1 : x < 5) : r62 x = (0, mkB (sideL x)) := by
  unfold r62 w62 sideL
  by_cases h : x = -1
  · subst h; rfl
  · obtain ⟨n, rfl⟩ := Int.eq_ofNat_of_zero_le (show 0 ≤ x by omega)
    rw [decide_eq_false (by omega), if_neg h, dec_spec (by omega)]; rfl
theorem side_num {x : Int} (h0 : 0 ≤ x) : sideL x = decL x.toNat := if_neg (by omega)

/-! ### lines -/
def rowR (h s : List (List Int)) (i : Nat) : List UInt8 := [114, 111, 111, 109, 32] ++ numL (fc h i 0) ++ [32] ++ numL (fc s i 0) ++ [10]
def rowW (w : List (List Int)) (i : Nat) : List UInt8 := joinL 32 [[119, 97, 108, 108], sideL (ic w i 0), sideL (ic w i 1), numL (fc w i 2), numL (fc w i 3), numL (fc w i 4), numL (fc w i 5), numL (fc w i 6), numL (fc w i 7)] ++ [10]
def rowP (w : List (List Int)) (i : Nat) : List UInt8 := joinL 32 [[112, 97, 110, 101], sideL (ic w i 0), sideL (ic w i 1), numL (fc w i 2), numL (fc w i 3)] ++ [10]
theorem rowR_length (h s : List (List Int)) (i : Nat) : (rowR h s i).length ≤ 1000 := by
  unfold rowR; simp only [List.length_append, numL_length, List.length_cons, List.length_nil]; omega
theorem rowW_length (w : List (List Int)) (i : Nat) : (rowW w i).length ≤ 1000 := by
  unfold rowW; simp only [joinL, List.length_append, numL_length, sideL_length, List.length_cons, List.length_nil]; omega
theorem rowP_length (w : List (List Int)) (i : Nat) : (rowP w i).length ≤ 1000 := by
  unfold rowP; simp only [joinL, List.length_append, numL_length, sideL_length, List.length_cons, List.length_nil]; omega
theorem lRoom : (ByteArray.mk #[114, 111, 111, 109, 32]) = mkB [114, 111, 111, 109, 32] := rfl
theorem lWall : (ByteArray.mk #[119, 97, 108, 108, 32]) = mkB [119, 97, 108, 108, 32] := rfl
theorem lWall' : (ByteArray.mk #[119, 97, 108, 108]) = mkB [119, 97, 108, 108] := rfl
theorem lPane : (ByteArray.mk #[112, 97, 110, 101, 32]) = mkB [112, 97, 110, 101, 32] := rfl
theorem lPane' : (ByteArray.mk #[112, 97, 110, 101]) = mkB [112, 97, 110, 101] := rfl
theorem lSp : (ByteArray.mk #[32]) = mkB [32] := rfl
theorem lNl : (ByteArray.mk #[10]) = mkB [10] := rfl
theorem map9 (a b c d e f g h i : List UInt8) : [mkB a, mkB b, mkB c, mkB d, mkB e, mkB f, mkB g, mkB h, mkB i] = List.map mkB [a, b, c, d, e, f, g, h, i] := rfl
theorem map5 (a b c d e : List UInt8) : [mkB a, mkB b, mkB c, mkB d, mkB e] = List.map mkB [a, b, c, d, e] := rfl
section
variable {h s w p : List (List Int)} {ih : ByteArray → Int → List (List Int) → List (List Int) → List (List Int) → List (List Int) → (Nat × ByteArray)} {ih' : ByteArray → Int → Int → List (List Int) → List (List Int) → List (List Int) → List (List Int) → (Nat × ByteArray)} {ih3 : ByteArray → Int → Int → List (List Int) → (Nat × ByteArray)} {t : List UInt8} {i : Nat}
theorem room_spec (k0 : RowsOk Sh1 h) (k1 : RowsOk Sh1 s) (ok : FlatOk h s w p) (hi : i < h.length) (ht : t.length ≤ 100000) : b33l0 ih (mkB t) (i : Int) h s w p = ih (mkB (t ++ rowR h s i)) ((i + 1 : Nat) : Int) h s w p := by
  have hs : i < s.length := by rw [ok.s]; exact hi
  have := ok.n5
  unfold b33l0
  rw [dlt_t hi, dle0, Int.toNat_natCast, blt_t hi, blt_t hs, wrap_succ (by omega), hexs_eq (fc_lt k0 hi rfl), hexs_eq (fc_lt k1 hs rfl), lRoom, lSp, lNl]
  simp only [mk_app, mkB_size, List.length_append, numL_length, List.length_cons, List.length_nil]
  repeat' first | refine cs (by unfold strMax; omega) ?_ | refine cb rfl ?_
  rfl
theorem room_impl (k0 : RowsOk Sh1 h) (k1 : RowsOk Sh1 s) (ok : FlatOk h s w p) (hi : i < h.length) (ht : t.length ≤ 100000) : b38l0 ih' (mkB t) ((h.length : Nat) : Int) (i : Int) h s w p = ih' (mkB (t ++ rowR h s i)) ((h.length : Nat) : Int) ((i + 1 : Nat) : Int) h s w p := by
  have hs : i < s.length := by rw [ok.s]; exact hi
  have := ok.n5
  unfold b38l0
  rw [dlt_t hi, dle0, Int.toNat_natCast, blt_t hi, blt_t hs, wrap_succ (by omega), text_eq (fc_lt k0 hi rfl), text_eq (fc_lt k1 hs rfl), lRoom, lSp, lNl]
  simp only [mk_app, mkB_size, List.length_append, numL_length, List.length_cons, List.length_nil]
  repeat' first | refine cs (by unfold strMax; omega) ?_ | refine cb rfl ?_
  rfl
theorem wall_spec (k2 : RowsOk Sh8 w) (ok : FlatOk h s w p) (hi : i < w.length) (ht : t.length ≤ 100000) : b33l1 ih (mkB t) (i : Int) h s w p = ih (mkB (t ++ rowW w i)) ((i + 1 : Nat) : Int) h s w p := by
  have := ok.w
  obtain ⟨⟨a0, a1⟩, b0, b1⟩ := wall_ix ok hi
  unfold b33l1
  rw [dlt_t hi, dle0, Int.toNat_natCast, blt_t hi, wrap_succ (by omega), side_spec (x := ic w i 0) (by omega) a1, side_spec b0 b1, hexs_eq (fc_lt k2 (j := 2) hi rfl), hexs_eq (fc_lt k2 (j := 3) hi rfl), hexs_eq (fc_lt k2 (j := 4) hi rfl), hexs_eq (fc_lt k2 (j := 5) hi rfl), hexs_eq (fc_lt k2 (j := 6) hi rfl), hexs_eq (fc_lt k2 (j := 7) hi rfl), lWall, lSp, lNl]
  simp only [mk_app, mkB_size, List.length_append, numL_length, sideL_length, List.length_cons, List.length_nil]
  repeat' first | refine cs (by unfold strMax; omega) ?_ | refine cb rfl ?_
  exact congrArg (fun x => ih (mkB x) _ h s w p) (by unfold rowW; simp [joinL])
theorem wall_impl (k2 : RowsOk Sh8 w) (ok : FlatOk h s w p) (hi : i < w.length) (ht : t.length ≤ 100000) : b38l1 ih' (mkB t) ((w.length : Nat) : Int) (i : Int) w h s p = ih' (mkB (t ++ rowW w i)) ((w.length : Nat) : Int) ((i + 1 : Nat) : Int) w h s p := by
  have := ok.w
  obtain ⟨⟨a0, a1⟩, b0, b1⟩ := wall_ix ok hi
  unfold b38l1
  rw [dlt_t hi, dle0, Int.toNat_natCast, blt_t hi, wrap_succ (by omega), decide_eq_true (show (0 : Int) ≤ ic w i 0 from a0), decide_eq_true (show ic w i 0 < 100 by omega), dig_at (x := ic w i 0) a0 a1, ← side_num (x := ic w i 0) a0, side_impl b0 b1, text_eq (fc_lt k2 (j := 2) hi rfl), text_eq (fc_lt k2 (j := 3) hi rfl), text_eq (fc_lt k2 (j := 4) hi rfl), text_eq (fc_lt k2 (j := 5) hi rfl), text_eq (fc_lt k2 (j := 6) hi rfl), text_eq (fc_lt k2 (j := 7) hi rfl), lWall', lNl]
  simp only [map9]
  rw [joinOk_eq (by simp) (by simp only [List.map_cons, List.map_nil, List.sum_cons, List.sum_nil, List.length_append, numL_length, sideL_length, List.length_cons, List.length_nil]; omega)]
  simp only [joinB_eq]
  simp only [mk_app, mkB_size, joinL, List.length_append, numL_length, sideL_length, List.length_cons, List.length_nil]
  repeat' first | refine cs (by unfold strMax; omega) ?_ | refine cb rfl ?_
  rfl
theorem pane_spec (k2 : RowsOk Sh4 p) (ok : FlatOk h s w p) (hi : i < p.length) (ht : t.length ≤ 100000) : b33l3 ih (mkB t) (i : Int) h s w p = ih (mkB (t ++ rowP p i)) ((i + 1 : Nat) : Int) h s w p := by
  have := ok.p
  obtain ⟨⟨a0, a1⟩, b0, b1⟩ := pane_ix ok hi
  unfold b33l3
  rw [dlt_t hi, dle0, Int.toNat_natCast, blt_t hi, wrap_succ (by omega), side_spec (x := ic p i 0) (by omega) a1, side_spec b0 b1, hexs_eq (fc_lt k2 (j := 2) hi rfl), hexs_eq (fc_lt k2 (j := 3) hi rfl), lPane, lSp, lNl]
  simp only [mk_app, mkB_size, List.length_append, numL_length, sideL_length, List.length_cons, List.length_nil]
  repeat' first | refine cs (by unfold strMax; omega) ?_ | refine cb rfl ?_
  exact congrArg (fun x => ih (mkB x) _ h s w p) (by unfold rowP; simp [joinL])
theorem pane_impl (k2 : RowsOk Sh4 p) (ok : FlatOk h s w p) (hi : i < p.length) (ht : t.length ≤ 100000) : b38l3 ih3 (mkB t) ((p.length : Nat) : Int) (i : Int) p = ih3 (mkB (t ++ rowP p i)) ((p.length : Nat) : Int) ((i + 1 : Nat) : Int) p := by
  have := ok.p
  obtain ⟨⟨a0, a1⟩, b0, b1⟩ := pane_ix ok hi
  unfold b38l3
  rw [dlt_t hi, dle0, Int.toNat_natCast, blt_t hi, wrap_succ (by omega), decide_eq_true (show (0 : Int) ≤ ic p i 0 from a0), decide_eq_true (show ic p i 0 < 100 by omega), dig_at (x := ic p i 0) a0 a1, ← side_num (x := ic p i 0) a0, side_impl b0 b1, text_eq (fc_lt k2 (j := 2) hi rfl), text_eq (fc_lt k2 (j := 3) hi rfl), lPane', lNl]
  simp only [map5]
  rw [joinOk_eq (by simp) (by simp only [List.map_cons, List.map_nil, List.sum_cons, List.sum_nil, List.length_append, numL_length, sideL_length, List.length_cons, List.length_nil]; omega)]
  simp only [joinB_eq]
  simp only [mk_app, mkB_size, joinL, List.length_append, numL_length, sideL_length, List.length_cons, List.length_nil]
  repeat' first | refine cs (by unfold strMax; omega) ?_ | refine cb rfl ?_
  rfl
end
def lin (f : Nat → List UInt8) (n : Nat) : List UInt8 := (List.range' 0 n).flatMap f
def flatL (h s w p : List (List Int)) : List UInt8 := ([] ++ lin (rowR h s) h.length) ++ lin (rowW w) w.length ++ lin (rowP p) p.length
section
variable {h s w p : List (List Int)} (k0 : RowsOk Sh1 h) (k1 : RowsOk Sh1 s) (k2 : RowsOk Sh8 w) (k3 : RowsOk Sh4 p) (ok : FlatOk h s w p)
include k0 k1 k2 k3 ok
theorem text_spec : r33 h s w p = (0, mkB (flatL h s w p)) := by
  have n5 := ok.n5; have nw := ok.w; have np := ok.p
  have e0 : ∀ fuel, h.length < fuel → r33l0 fuel (mkB []) ((0 : Nat) : Int) h s w p = (0, mkB ([] ++ lin (rowR h s) h.length)) := fun fuel hf =>
    text_loop (G := fun m x i => r33l0 m x i h s w p) (n := h.length) (N := 100000) (line := rowR h s) (by omega) (fun i _ => rowR_length h s i)
      (fun m t i hi ht => room_spec k0 k1 ok hi ht)
      (fun m t => by show b33l0 _ _ _ _ _ _ _ = _; unfold b33l0; rw [dlt_f (Nat.lt_irrefl _)]; rfl) h.length 0 [] fuel (by omega) hf (by simp; omega)
  have l0 : ([] ++ lin (rowR h s) h.length).length ≤ 5000 := by
    have := lines_length (n := h.length) (fun i (_ : i < h.length) => rowR_length h s i); simp only [List.nil_append]; unfold lin; omega
  have e1 : ∀ fuel, w.length < fuel → r33l1 fuel (mkB ([] ++ lin (rowR h s) h.length)) ((0 : Nat) : Int) h s w p = (0, mkB (([] ++ lin (rowR h s) h.length) ++ lin (rowW w) w.length)) := fun fuel hf =>
    text_loop (G := fun m x i => r33l1 m x i h s w p) (n := w.length) (N := 100000) (line := rowW w) (by omega) (fun i _ => rowW_length w i)
      (fun m t i hi ht => wall_spec k2 ok hi ht)
      (fun m t => by show b33l1 _ _ _ _ _ _ _ = _; unfold b33l1; rw [dlt_f (Nat.lt_irrefl _)]; rfl) w.length 0 _ fuel (by omega) hf (by omega)
  have l1 : (([] ++ lin (rowR h s) h.length) ++ lin (rowW w) w.length).length ≤ 15000 := by
    have := lines_length (n := w.length) (fun i (_ : i < w.length) => rowW_length w i); rw [List.length_append]; have e : (lin (rowW w) w.length).length ≤ 1000 * w.length := this; omega
  have e2 : ∀ fuel, p.length < fuel → r33l3 fuel (mkB (([] ++ lin (rowR h s) h.length) ++ lin (rowW w) w.length)) ((0 : Nat) : Int) h s w p = (0, mkB (flatL h s w p)) := fun fuel hf =>
    text_loop (G := fun m x i => r33l3 m x i h s w p) (n := p.length) (N := 100000) (line := rowP p) (by omega) (fun i _ => rowP_length p i)
      (fun m t i hi ht => pane_spec k3 ok hi ht)
      (fun m t => by show b33l3 _ _ _ _ _ _ _ = _; unfold b33l3; rw [dlt_f (Nat.lt_irrefl _)]; rfl) p.length 0 _ fuel (by omega) hf (by omega)
  unfold r33 w33
  rw [show (ByteArray.mk #[]) = mkB [] from rfl, show (0 : Int) = ((0 : Nat) : Int) from rfl, e0 _ (by omega)]
  simp only []
  rw [e1 _ (by omega)]
  simp only []
  rw [e2 _ (by omega)]
  rfl
theorem text_impl : r38 h s w p = (0, mkB (flatL h s w p)) := by
  have n5 := ok.n5; have nw := ok.w; have np := ok.p
  have e0 : ∀ fuel, h.length < fuel → r38l0 fuel (mkB []) ((h.length : Nat) : Int) ((0 : Nat) : Int) h s w p = (0, mkB ([] ++ lin (rowR h s) h.length)) := fun fuel hf =>
    text_loop (G := fun m x i => r38l0 m x ((h.length : Nat) : Int) i h s w p) (n := h.length) (N := 100000) (line := rowR h s) (by omega) (fun i _ => rowR_length h s i)
      (fun m t i hi ht => room_impl k0 k1 ok hi ht)
      (fun m t => by show b38l0 _ _ _ _ _ _ _ _ = _; unfold b38l0; rw [dlt_f (Nat.lt_irrefl _)]; rfl) h.length 0 [] fuel (by omega) hf (by simp; omega)
  have l0 : ([] ++ lin (rowR h s) h.length).length ≤ 5000 := by
    have := lines_length (n := h.length) (fun i (_ : i < h.length) => rowR_length h s i); simp only [List.nil_append]; unfold lin; omega
  have e1 : ∀ fuel, w.length < fuel → r38l1 fuel (mkB ([] ++ lin (rowR h s) h.length)) ((w.length : Nat) : Int) ((0 : Nat) : Int) w h s p = (0, mkB (([] ++ lin (rowR h s) h.length) ++ lin (rowW w) w.length)) := fun fuel hf =>
    text_loop (G := fun m x i => r38l1 m x ((w.length : Nat) : Int) i w h s p) (n := w.length) (N := 100000) (line := rowW w) (by omega) (fun i _ => rowW_length w i)
      (fun m t i hi ht => wall_impl k2 ok hi ht)
      (fun m t => by show b38l1 _ _ _ _ _ _ _ _ = _; unfold b38l1; rw [dlt_f (Nat.lt_irrefl _)]; rfl) w.length 0 _ fuel (by omega) hf (by omega)
  have l1 : (([] ++ lin (rowR h s) h.length) ++ lin (rowW w) w.length).length ≤ 15000 := by
    have := lines_length (n := w.length) (fun i (_ : i < w.length) => rowW_length w i); rw [List.length_append]; have e : (lin (rowW w) w.length).length ≤ 1000 * w.length := this; omega
  have e2 : ∀ fuel, p.length < fuel → r38l3 fuel (mkB (([] ++ lin (rowR h s) h.length) ++ lin (rowW w) w.length)) ((p.length : Nat) : Int) ((0 : Nat) : Int) p = (0, mkB (flatL h s w p)) := fun fuel hf =>
    text_loop (G := fun m x i => r38l3 m x ((p.length : Nat) : Int) i p) (n := p.length) (N := 100000) (line := rowP p) (by omega) (fun i _ => rowP_length p i)
      (fun m t i hi ht => pane_impl k3 ok hi ht)
      (fun m t => by show b38l3 _ _ _ _ _ = _; unfold b38l3; rw [dlt_f (Nat.lt_irrefl _)]; rfl) p.length 0 _ fuel (by omega) hf (by omega)
  unfold r38 w38
  rw [show (ByteArray.mk #[]) = mkB [] from rfl, show (0 : Int) = ((0 : Nat) : Int) from rfl, e0 _ (by omega)]
  simp only []
  rw [e1 _ (by omega)]
  simp only []
  rw [e2 _ (by omega)]
  rfl
end
theorem plain4 (x0 x1 x2 x3 : List (List Int)) (k0 : RowsOk Sh1 x0) (l0 : x0.length ≤ 9223372036854775807) (k1 : RowsOk Sh1 x1) (l1 : x1.length ≤ 9223372036854775807) (k2 : RowsOk Sh8 x2) (l2 : x2.length ≤ 9223372036854775807) (k3 : RowsOk Sh4 x3) (l3 : x3.length ≤ 9223372036854775807) : r4 x0 x1 x2 x3 = (0, true) := by
  unfold r4
  rcases szF l0 l1 l2 l3 with g | ⟨g, h0, h1, h2, h3⟩
  · rw [decide_eq_true g]; rfl
  rw [decide_eq_false (by omega), copyF k0 k1 k2 k3 h0 h1 h2 h3]
  obtain ⟨b, hs, hi, hok⟩ := valid_both k1 k2 k3 h0 h1 h2 h3
  have e : ∃ q, r11 x0 x1 x2 x3 = (0, q) ∧ r13 x0 x1 x2 x3 = (0, q) := by
    unfold r11 w11 r13 w13
    rw [hs, hi]
    cases b with
    | false => exact ⟨_, rfl, rfl⟩
    | true => rw [text_spec k0 k1 k2 k3 (hok rfl), text_impl k0 k1 k2 k3 (hok rfl)]; exact ⟨_, rfl, rfl⟩
  obtain ⟨q, e1, e2⟩ := e
  simp only [e1, e2, flat_self h0 h1 h2 h3, beq_self_eq_true]
  rfl
end Go.Proofs.YtffpnkkhcgjmfaaDoor
