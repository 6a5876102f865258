/- Lines of a chimney: both readers of a line. -/
import Derived.Test.YtffpnkkhcgjmfaaGreatDoorPrm5
namespace Go.Proofs.YtffpnkkhcgjmfaaGreatDoor
open Go.Ab

/-! ### the program's reader of words -/
noncomputable def num (W : List ByteArray) (m : Nat) : Nat := if m < W.length then (rdB (W.getD m .empty)).getD 0 else 0
noncomputable def nb (W : List ByteArray) (m : Nat) : Bool := !(decide (m < W.length) && (rdB (W.getD m .empty)).isSome)
noncomputable def bd (W : List ByteArray) : Nat → Bool
  | 0 => false
  | m + 1 => bd W m || nb W m
theorem bd_false {W : List ByteArray} : ∀ {m : Nat}, bd W m = false → ∀ j, j < m → j < W.length ∧ (rdB (W.getD j .empty)).isSome = true
  | 0, h, j, h1 => by omega
  | m + 1, h, j, h1 => by
    unfold bd at h
    rw [Bool.or_eq_false_iff] at h
    by_cases hj : j < m
    · exact bd_false h.1 j hj
    · obtain rfl : j = m := by omega
      have := h.2
      unfold nb at this
      rw [Bool.not_eq_false', Bool.and_eq_true, decide_eq_true_eq] at this
      exact this
theorem bd_of {W : List ByteArray} : ∀ {m : Nat}, (∀ j, j < m → j < W.length ∧ (rdB (W.getD j .empty)).isSome = true) → bd W m = false
  | 0, _ => rfl
  | m + 1, h => by
    unfold bd nb
    rw [bd_of fun j h1 => h j (by omega), decide_eq_true (h m (by omega)).1, (h m (by omega)).2]
    rfl
theorem num_lt (W : List ByteArray) (m : Nat) : num W m < 4294967296 := by
  unfold num
  split
  · cases h : rdB (W.getD m .empty) with
    | none => show 0 < _; omega
    | some v => exact (numL_rdL h).1
  · omega
theorem next_some {off len : Nat} {bad : Bool} {W : List ByteArray} (h1 : 0 < len) (h2 : off + len = W.length) : r81 off len bad W = (0, W.getD off .empty, off + 1, len - 1, bad) := by
  unfold r81 w81
  rw [show (((len : Nat) : Int) == 0) = false from beq_eq_false_iff_ne.2 (by omega), blt_t h1, blt_t (show off + 0 < W.length by omega), Nat.ble_eq_true_of_le (show 1 ≤ len from h1), Nat.ble_eq_true_of_le (Nat.le_refl len)]
  rfl
theorem next_none {off : Nat} {bad : Bool} {W : List ByteArray} : r81 off 0 bad W = (0, ByteArray.mk #[], off, 0, true) := rfl
noncomputable def sdI (w : ByteArray) : Int := cond (w.toList == DASH.toList) (-1) (pInt w)
noncomputable def okI (w : ByteArray) : Bool := (w.toList == DASH.toList) || pOk w
noncomputable def rowOf (W : List ByteArray) (x : Int) : List Int := [((num W 0 : Nat) : Int), ((num W 1 : Nat) : Int), ((num W 2 : Nat) : Int), ((num W 3 : Nat) : Int), x]
section
variable {W : List ByteArray} {L : Nat} (hL : W.length = L)
include hL
theorem number_eq (m : Nat) : r37 (min m L) (L - min m L) (bd W m) W = (0, num W m, min (m + 1) L, L - min (m + 1) L, bd W (m + 1)) := by
  unfold r37 w37
  by_cases h : m < L
  · rw [show min m L = m by omega, show min (m + 1) L = m + 1 by omega, next_some (by omega) (by omega), bd]
    simp only [read_impl]
    unfold nb num
    rw [decide_eq_true (show m < W.length by omega), if_pos (show m < W.length by omega)]
    unfold rdB
    rw [show L - m - 1 = L - (m + 1) by omega]
    cases bd W m with
    | true => rfl
    | false =>
      cases rdL (W.getD m .empty).data.toList with
      | none => rfl
      | some v => rfl
  · rw [show min m L = L by omega, show min (m + 1) L = L by omega, Nat.sub_self, next_none, bd]
    simp only [read_impl]
    unfold nb num
    rw [decide_eq_false (show ¬ m < W.length by omega), if_neg (show ¬ m < W.length by omega)]
    cases bd W m <;> rfl
theorem side_many (h4 : 4 < L) (hsz : (W.getD 4 .empty).size ≤ 281474976710656) : r38 4 (L - 4) (bd W 4) W = (0, sdI (W.getD 4 .empty), 5, L - 5, bd W 4 || !(okI (W.getD 4 .empty))) := by
  have e81 : r81 4 (L - 4) (bd W 4) W = (0, W.getD 4 .empty, 5, L - 5, bd W 4) := by
    rw [next_some (by omega) (by omega), show L - 4 - 1 = L - 5 by omega]
  have e82 : r82 4 (L - 4) (bd W 4) W = (0, pInt (W.getD 4 .empty), 5, L - 5, bd W 4 || !(pOk (W.getD 4 .empty))) := by
    unfold r82 w82
    rw [e81]
    simp only
    rw [Nat.ble_eq_true_of_le hsz]
    cases bd W 4 <;> rfl
  unfold r38 w38 sdI okI
  rw [decide_eq_true (show ((L - 4 : Nat) : Int) > 0 by omega), blt_t (show 0 < L - 4 by omega), blt_t (show 4 + 0 < W.length by omega), e81, e82, Nat.add_zero]
  cases (W.getD 4 .empty).toList == DASH.toList with
  | true => simp [Nat.beq]
  | false => simp [Nat.beq]
omit hL in
theorem side_few (h4 : L ≤ 4) : r38 L 0 (bd W 4) W = (0, pInt (ByteArray.mk #[]), L, 0, true) := by
  have e82 : r82 L 0 (bd W 4) W = (0, pInt (ByteArray.mk #[]), L, 0, true) := by
    unfold r82 w82
    rw [next_none]
    rfl
  unfold r38 w38
  rw [e82]
  rfl
end
/-- the program's row of a line -/
noncomputable def goodI (W : List ByteArray) : Bool := decide (W.length = 5) && (!bd W 4 && okI (W.getD 4 .empty))
noncomputable def lineI (s : ByteArray) : Option (List Int) := cond (goodI (splB 32 s)) (some (rowOf (splB 32 s) (sdI ((splB 32 s).getD 4 .empty)))) none
/-- the reference's -/
noncomputable def sdS (w : ByteArray) : Int := cond (w.toList == DASH.toList) (-1) (r33 w).2.1
noncomputable def okS (w : ByteArray) : Bool := (w.toList == DASH.toList) || (r33 w).2.2
noncomputable def goodS (W : List ByteArray) : Bool := decide (W.length = 5) && (!bd W 4 && okS (W.getD 4 .empty))
noncomputable def lineS (s : ByteArray) : Option (List Int) := cond (goodS (splB 32 s)) (some (rowOf (splB 32 s) (sdS ((splB 32 s).getD 4 .empty)))) none
/-- what a round does behind a line -/
def comb (o : List (List Int)) (p : Nat × List (List Int) × List (List Int)) : Nat × List (List Int) × List (List Int) :=
  cond (Nat.beq p.1 0) (1, o, []) (cond (Nat.beq p.1 1) (1, p.2.1, []) (cond (Nat.beq p.1 2) (2, [], p.2.2) (cond (Nat.beq p.1 3) (2, [], o) (4, [], []))))
theorem splB_sizes {c : UInt8} {s : ByteArray} (hs : s.size ≤ 1048576) (j : Nat) : ((splB c s).getD j .empty).size ≤ 281474976710656 := by
  have key : ∀ x ∈ splB c s, x.size ≤ 1048576 := by
    intro x hx
    rw [splB_eq, List.mem_map] at hx
    obtain ⟨l, hl, rfl⟩ := hx
    rw [mkB_size]
    have hj := join_splitL c s.data.toList
    have : ∀ (L : List (List UInt8)), l ∈ L → l.length ≤ (joinL c L).length := by
      intro L
      induction L with
      | nil => intro h; cases h
      | cons y r ih =>
        intro h
        by_cases hr : r = []
        · subst hr
          rcases List.mem_cons.1 h with h | h
          · subst h; simp [joinL]
          · cases h
        · rw [joinL_cons c y hr, List.length_append, List.length_cons]
          rcases List.mem_cons.1 h with h | h
          · subst h; omega
          · have := ih h; omega
    have h2 := this _ hl
    rw [hj] at h2
    have := size_eq s
    omega
  by_cases hj : j < (splB c s).length
  · rw [List.getD_eq_getElem?_getD, List.getElem?_eq_getElem hj]
    have := key _ (List.getElem_mem hj)
    show ((splB c s)[j]).size ≤ _
    omega
  · rw [List.getD_eq_getElem?_getD, List.getElem?_eq_none (by omega)]
    show ByteArray.empty.size ≤ _
    decide
theorem round_impl {ih : ByteArray → Nat → Nat → Int → Int → List (List Int) → List ByteArray → (Nat × List (List Int) × List (List Int))} {x : ByteArray} {n i : Nat} {o : List (List Int)} {S : List ByteArray} (hn : n ≤ 100) (hi : i < n) (hS : n ≤ S.length) (ho : o.length ≤ 100) (hsz : (S.getD i .empty).size ≤ 1048576) :
    b7l0b ih x 0 n (n : Int) (i : Int) o S = match lineI (S.getD i .empty) with
      | none => (0, [], [])
      | some r => comb (o ++ [r]) (ih x 0 n (n : Int) ((i + 1 : Nat) : Int) (o ++ [r]) S) := by
  have e36 : r36 (S.getD i .empty) = (0, (splB 32 (S.getD i .empty)).length, splB 32 (S.getD i .empty)) := by
    unfold r36 w36
    rw [blt_t (by omega)]; rfl
  have hw4 := splB_sizes (c := 32) hsz 4
  unfold b7l0b w7l0b lineI goodI
  rw [Nat.zero_add, Int.toNat_natCast, e36]
  generalize hW : splB 32 (S.getD i .empty) = W at hw4 ⊢
  obtain ⟨L, hL⟩ : ∃ L, W.length = L := ⟨_, rfl⟩
  have n0 : r37 0 L false W = (0, num W 0, min 1 L, L - min 1 L, bd W 1) := by
    have := number_eq hL 0
    rw [Nat.zero_min, Nat.sub_zero] at this
    exact this
  have n1 := number_eq hL 1
  have n2 := number_eq hL 2
  have n3 := number_eq hL 3
  simp only [hL, n0, n1, n2, n3]
  rw [dlt_t hi, dle0, blt_t hi, blt_t (show i < S.length by omega), wrap_succ (by omega), Nat.ble_eq_true_of_le (show (o.length + 1) * 25 ≤ 140737488355328 by omega), take_all']
  by_cases h4 : 4 < L
  · rw [show min (3 + 1) L = 4 by omega, side_many hL h4 hw4]
    simp only [r39, w39]
    by_cases h5 : L = 5
    · subst h5
      rw [decide_eq_true rfl]
      cases hb : bd W 4 with
      | true => rfl
      | false =>
        cases ho : okI (W.getD 4 .empty) with
        | false => rfl
        | true => rfl
    · rw [decide_eq_false h5, show (((L - 5 : Nat) : Int) == 0) = false from beq_eq_false_iff_ne.2 (by omega)]
      cases bd W 4 || !okI (W.getD 4 .empty) <;> rfl
  · rw [show min (3 + 1) L = L by omega, Nat.sub_self, side_few (by omega), decide_eq_false (show ¬ L = 5 by omega)]
    rfl
theorem read_at {W : List ByteArray} (j : Nat) : r78 (W.getD j .empty) = (0, (r78 (W.getD j .empty)).2.1, (rdB (W.getD j .empty)).isSome) ∧ ((rdB (W.getD j .empty)).isSome = true → (r78 (W.getD j .empty)).2.1 = (rdB (W.getD j .empty)).getD 0) := by
  cases h : rdB (W.getD j .empty) with
  | none =>
    obtain ⟨v, e⟩ := read_none h
    rw [e]
    exact ⟨rfl, fun h => by cases h⟩
  | some v =>
    rw [read_some h]
    exact ⟨rfl, fun _ => rfl⟩
theorem nums_eq {W : List ByteArray} (hL : W.length = 5) : r32 5 W = cond (bd W 4) (0, 0, 0, 0, 0) (1, num W 0, num W 1, num W 2, num W 3) := by
  have key : ∀ j, j < 5 → nb W j = !(rdB (W.getD j .empty)).isSome ∧ num W j = (rdB (W.getD j .empty)).getD 0 := fun j hj => by
    unfold nb num
    rw [decide_eq_true (show j < W.length by omega), if_pos (show j < W.length by omega), Bool.true_and]
    exact ⟨rfl, rfl⟩
  have hb : bd W 4 = (((nb W 0 || nb W 1) || nb W 2) || nb W 3) := by
    show ((((false || nb W 0) || nb W 1) || nb W 2) || nb W 3) = _
    rw [Bool.false_or]
  rw [hb, (key 0 (by omega)).1, (key 1 (by omega)).1, (key 2 (by omega)).1, (key 3 (by omega)).1, (key 0 (by omega)).2, (key 1 (by omega)).2, (key 2 (by omega)).2, (key 3 (by omega)).2]
  obtain ⟨a0, b0⟩ := read_at (W := W) 0
  obtain ⟨a1, b1⟩ := read_at (W := W) 1
  obtain ⟨a2, b2⟩ := read_at (W := W) 2
  obtain ⟨a3, b3⟩ := read_at (W := W) 3
  have f : ∀ j, (r78 (W.getD j .empty)).1 = 0 ∧ (r78 (W.getD j .empty)).2.2 = (rdB (W.getD j .empty)).isSome := fun j => ⟨congrArg Prod.fst (read_at (W := W) j).1, congrArg (fun p => p.2.2) (read_at (W := W) j).1⟩
  unfold r32 w32
  rw [(f 0).1, (f 1).1, (f 2).1, (f 3).1, (f 0).2, (f 1).2, (f 2).2, (f 3).2, blt_t (show 0 < W.length by omega), blt_t (show 1 < W.length by omega), blt_t (show 2 < W.length by omega), blt_t (show 3 < W.length by omega)]
  cases h0 : (rdB (W.getD 0 .empty)).isSome with
  | false => rfl
  | true =>
  cases h1 : (rdB (W.getD 1 .empty)).isSome with
  | false => rfl
  | true =>
  cases h2 : (rdB (W.getD 2 .empty)).isSome with
  | false => rfl
  | true =>
  cases h3 : (rdB (W.getD 3 .empty)).isSome with
  | false => rfl
  | true =>
    rw [b0 h0, b1 h1, b2 h2, b3 h3]; rfl
theorem round_spec {ih : Int → Int → List ByteArray → List (List Int) → (Nat × List (List Int) × List (List Int))} {n i : Nat} {o : List (List Int)} {S : List ByteArray} (hn : n ≤ 100) (hi : i < n) (hS : n ≤ S.length) (ho : o.length ≤ 100) (hsz : (S.getD i .empty).size ≤ 1048576) :
    b6l0 ih ((n + 1 : Nat) : Int) (i : Int) S o = match lineS (S.getD i .empty) with
      | none => (0, [], [])
      | some r => comb (o ++ [r]) (ih ((n + 1 : Nat) : Int) ((i + 1 : Nat) : Int) S (o ++ [r])) := by
  have hc := cut_eq (S.getD i .empty) 32 hsz
  have e32 : (((32 : UInt8).toNat : Nat) : Int) = 32 := rfl
  rw [e32] at hc
  have hwr : IntKind.i64.wrap (((n + 1 : Nat) : Int) - 1) = (n : Int) := by rw [wrap_i64 (by omega) (by omega)]; omega
  unfold b6l0 lineS goodS
  rw [hwr, Int.toNat_natCast, dlt_t hi, dle0, blt_t (show i < S.length by omega), wrap_succ (by omega)]
  generalize hW : splB 32 (S.getD i .empty) = W at hc ⊢
  rcases hc with ⟨h2, e⟩ | ⟨h1, e⟩
  · rw [e]
    simp only
    by_cases h5 : W.length = 5
    · rw [h5, nums_eq h5, blt_t (show 0 < 5 by omega), blt_t (show 4 < 5 by omega), Nat.ble_eq_true_of_le (show 4 ≤ 5 by omega), Nat.ble_eq_true_of_le (show (o.length + 1) * 25 ≤ 140737488355328 by omega), take_all', decide_eq_true rfl]
      obtain ⟨v, b, g, _, _⟩ := number_spec (W.getD 4 .empty)
      unfold okS sdS
      rw [g]
      cases bd W 4 with
      | true => cases (W.getD 4 .empty).toList == DASH.toList <;> rfl
      | false =>
        cases (W.getD 4 .empty).toList == DASH.toList with
        | true => rfl
        | false => cases b <;> rfl
    · rw [decide_eq_false h5, show ((((W.length : Nat) : Int) : Int) != 5) = true from by simp only [bne_iff_ne, ne_eq]; omega]
      rfl
  · rw [e]
    have : W.length = 1 := by rw [h1]; rfl
    rw [this]
    rfl
end Go.Proofs.YtffpnkkhcgjmfaaGreatDoor
