/- The text of a program: both ways of writing it. -/
import Derived.Test.YtffpnkkhcgjmfaaDoorPpt1
import Derived.Test.YtffpnkkhcgjmfaaDoorPptt
namespace Go.Proofs.YtffpnkkhcgjmfaaDoor
open Go.Ab

/-- from here on all is well, and at the end there are so many values -/
def Good (o : List (List Int)) (L : Int) : Nat → Nat → Int → Int → Prop
  | 0, _, d, v => d = 0 ∧ v = L
  | n + 1, i, d, v => okS ((o.getD i []).getD 0 0) ((o.getD i []).getD 1 0) (Int.toNat ((o.getD i []).getD 2 0)) d v = true ∧ Good o L n (i + 1) (dd ((o.getD i []).getD 0 0) d) (vv ((o.getD i []).getD 0 0) v)

theorem good_of {l : List ByteArray} {o : List (List Int)} (hr : RowsOk Sh3 o) (ho : o.length ≤ 1048576) : ∀ (n i fs : Nat) (d v : Int), i + n = o.length → n < fs → 0 ≤ d → d ≤ 20 → 0 ≤ v → v ≤ (i : Int) →
    (∃ d' v', r17l1 fs d v (i : Int) l o = (1, 0, 0, d', v') ∧ (d' = 0 → Good o v' n i d v)) ∨ (r17l1 fs d v (i : Int) l o).1 = 0 := by
  intro n
  induction n with
  | zero =>
    intro i fs d v h hf1 _ _ _ _
    obtain ⟨m, rfl⟩ : ∃ m, fs = m + 1 := ⟨fs - 1, by omega⟩
    refine .inl ⟨d, v, ?_, fun h => ⟨h, rfl⟩⟩
    show b17l1 (r17l1 m) _ _ _ _ _ = _
    unfold b17l1
    rw [dlt_f (by omega)]; rfl
  | succ n ih =>
    intro i fs d v h hf1 hd0 hd1 hv0 hv1
    obtain ⟨m, rfl⟩ : ∃ m, fs = m + 1 := ⟨fs - 1, by omega⟩
    have hi : i < o.length := by omega
    have hrow := hr.get hi
    have c0 := hrow.get (show Sh3[0]? = some (.int .i8) from rfl)
    have c1 := hrow.get (show Sh3[1]? = some (.int .i16) from rfl)
    have c2 := (hrow.get (show Sh3[2]? = some (.fl .f32) from rfl)).lt32
    simp only [CTok, show IntKind.i8.min = -128 from by decide, show IntKind.i8.max = 127 from by decide] at c0
    simp only [CTok, show IntKind.i16.min = -32768 from by decide, show IntKind.i16.max = 32767 from by decide] at c1
    obtain ⟨s1, s2⟩ := stepS (l := l) ho hi hd0 hd1 hv0 (by omega) rfl rfl rfl c0 c1 c2 m
    cases hs : okS ((o.getD i []).getD 0 0) ((o.getD i []).getD 1 0) (Int.toNat ((o.getD i []).getD 2 0)) d v with
    | false => exact .inr (s2 hs)
    | true =>
      rw [s1 hs]
      have hb : 0 ≤ dd ((o.getD i []).getD 0 0) d ∧ dd ((o.getD i []).getD 0 0) d ≤ 20 := by
        have ht := takes ((o.getD i []).getD 0 0)
        unfold okS at hs
        simp only [Bool.and_eq_true, Bool.not_eq_true', decide_eq_false_iff_not] at hs
        refine ⟨?_, by omega⟩
        have := hs.1.1.2
        unfold dd; omega
      have hvv : 0 ≤ vv ((o.getD i []).getD 0 0) v ∧ vv ((o.getD i []).getD 0 0) v ≤ ((i + 1 : Nat) : Int) := by
        unfold vv
        cases (o.getD i []).getD 0 0 == 4 <;> simp only [cond_true, cond_false] <;> omega
      rcases ih (i + 1) m _ _ (by omega) (by omega) hb.1 hb.2 hvv.1 hvv.2 with ⟨d', v', g1, g2⟩ | g
      · exact .inl ⟨d', v', g1, fun h => ⟨hs, g2 h⟩⟩
      · exact .inr g

/-- what is known of a step that is well -/
theorem okS_facts {k a : Int} {f : Nat} {d v : Int} (h : okS k a f d v = true) : (1 ≤ k ∧ k ≤ 12) ∧ (k = 2 → 0 ≤ a ∧ a ≤ 3) ∧ (k = 3 → 0 ≤ a ∧ a < v) ∧ (k = 4 → a = v ∧ d = 1) ∧ (r46 k).1 ≤ d ∧ dd k d ≤ 20 := by
  unfold okS at h
  simp only [Bool.and_eq_true, Bool.not_eq_true', decide_eq_false_iff_not] at h
  obtain ⟨⟨⟨⟨h1, h2⟩, h3⟩, h4⟩, h5⟩ := h
  have hr : r44 k 1 12 = (decide (k ≥ 1) && decide (k ≤ 12)) := by unfold r44 w44; cases decide (k ≥ 1) <;> rfl
  rw [hr, Bool.and_eq_true, decide_eq_true_eq, decide_eq_true_eq] at h1
  have ha := h2.2
  refine ⟨by omega, ?_, ?_, ?_, by omega, by omega⟩
  · rintro rfl
    have : (decide (a ≥ 0) && decide (a ≤ 3)) = true := ha
    simp at this; omega
  · rintro rfl
    have : (decide (a ≥ 0) && decide (a ≤ v - 1)) = true := ha
    simp at this; omega
  · rintro rfl
    have e1 : (a == v) = true := ha
    have e2 : (!(dd 4 d != 0)) = true := h5
    refine ⟨by simpa using e1, ?_⟩
    simp at e2
    have : dd 4 d = d + (0 - 1) := rfl
    omega


/-! ### what is known of a valid program -/
theorem vv_ge (k v : Int) : v ≤ vv k v := by
  unfold vv; cases k == 4 <;> simp only [cond_true, cond_false] <;> omega
theorem good_le {o : List (List Int)} {L : Int} : ∀ (n i : Nat) (d v : Int), Good o L n i d v → v ≤ L
  | 0, _, _, v, h => by have := h.2; omega
  | n + 1, i, d, v, h => Int.le_trans (vv_ge _ v) (good_le n (i + 1) _ _ h.2)
structure OpOk (L k a : Int) : Prop where
  rng : 1 ≤ k ∧ k ≤ 12
  input : k = 2 → 0 ≤ a ∧ a ≤ 3
  load : k = 3 → 0 ≤ a ∧ a < L
  store : k = 4 → 0 ≤ a ∧ a < L
theorem good_ops {o : List (List Int)} {L : Int} : ∀ (n i : Nat) (d v : Int), Good o L n i d v → 0 ≤ v → ∀ j, i ≤ j → j < i + n → OpOk L ((o.getD j []).getD 0 0) ((o.getD j []).getD 1 0)
  | 0, _, _, _, _, _, j, h1, h2 => by omega
  | n + 1, i, d, v, h, hv, j, h1, h2 => by
    by_cases hj : j = i
    · subst hj
      obtain ⟨f1, f2, f3, f4, _, _⟩ := okS_facts h.1
      have hle := good_le n _ _ _ h.2
      have hge := vv_ge ((o.getD j []).getD 0 0) v
      refine ⟨f1, f2, fun e => ?_, fun e => ?_⟩
      · have := f3 e; omega
      · have := (f4 e).1
        rw [e] at hle
        have e4 : vv 4 v = v + 1 := rfl
        omega
    · exact good_ops n (i + 1) _ _ h.2 (Int.le_trans hv (vv_ge _ v)) j (by omega) (by omega)
structure ProgOk (l : List ByteArray) (o : List (List Int)) : Prop where
  l12 : l.length ≤ 12
  o300 : o.length ≤ 300
  names : ∀ i, i < l.length → (l.getD i .empty).size ≤ 8
  ops : ∀ i, i < o.length → OpOk (l.length : Int) ((o.getD i []).getD 0 0) ((o.getD i []).getD 1 0)
theorem name_size {s : ByteArray} (h : (r42 s).2 = true) : s.size ≤ 8 := by
  unfold r42 w42 at h
  cases h1 : Nat.beq (r42l0 (1000 + s.size) s 0) 0 with
  | true => rw [h1] at h; cases h
  | false =>
  rw [h1, cond_false] at h
  cases h2 : Nat.beq (r42l0 (1000 + s.size) s 0) 1 with
  | false => rw [h2] at h; cases h
  | true =>
  rw [h2, cond_true] at h
  cases h3 : r44 ((s.size : Nat) : Int) 1 8 with
  | false => rw [h3] at h; cases h
  | true =>
    unfold r44 w44 at h3
    cases h4 : decide (((s.size : Nat) : Int) ≥ 1) with
    | false => rw [h4] at h3; cases h3
    | true => rw [h4] at h3; have := of_decide_eq_true h3; omega
theorem prog_ok {l : List ByteArray} {o : List (List Int)} (hs : ∀ s ∈ l, s.size ≤ 9223372036854775807) (hr : RowsOk Sh3 o) (hl : l.length ≤ 1048576) (ho : o.length ≤ 1048576) (h : r17 l o = (0, true)) : ProgOk l o := by
  unfold r17 w17 at h
  rw [varsS hs hl o (by omega)] at h
  by_cases h1 : ((l.length : Nat) : Int) > 12
  · rw [decide_eq_true h1] at h; cases h
  rw [decide_eq_false h1] at h
  by_cases h2 : ((o.length : Nat) : Int) > 300
  · rw [decide_eq_true h2] at h; cases h
  rw [decide_eq_false h2] at h
  cases h3 : allN l.length (varOk l) with
  | false => rw [h3] at h; cases h
  | true =>
  rw [h3] at h
  rcases good_of (l := l) hr ho o.length 0 (1000 + o.length + l.length) 0 0 (by omega) (by omega) (by decide) (by decide) (by decide) (by decide) with ⟨d', v', g1, g2⟩ | g
  · have g1' : r17l1 (1000 + o.length + l.length) 0 0 0 l o = (1, 0, 0, d', v') := g1
    rw [g1'] at h
    cases hd : (d' == 0) with
    | false => simp only [cond_true, cond_false, Nat.beq, hd] at h; cases h
    | true =>
      simp only [cond_true, cond_false, Nat.beq, hd] at h
      have hv : (v' == ((l.length : Nat) : Int)) = true := congrArg Prod.snd h
      have hg := g2 (by simpa using hd)
      have hv' : v' = ((l.length : Nat) : Int) := by simpa using hv
      subst hv'
      refine ⟨by omega, by omega, fun i hi => ?_, fun i hi => good_ops o.length 0 0 0 hg (by decide) i (by omega) (by omega)⟩
      have := allN_true.1 h3 i hi
      unfold varOk at this
      rw [Bool.and_eq_true] at this
      exact name_size this.1
  · have g' : (r17l1 (1000 + o.length + l.length) 0 0 0 l o).1 = 0 := g
    simp only [g', cond_true, cond_false, Nat.beq] at h
    cases h
/-! ### lines -/
def wdL (k : Int) : List UInt8 := (([(ByteArray.mk #[]), (ByteArray.mk #[112, 117, 115, 104]), (ByteArray.mk #[105, 110, 112, 117, 116]), (ByteArray.mk #[108, 111, 97, 100]), (ByteArray.mk #[115, 116, 111, 114, 101]), (ByteArray.mk #[97, 100, 100]), (ByteArray.mk #[115, 117, 98]), (ByteArray.mk #[109, 117, 108]), (ByteArray.mk #[108, 101, 115, 115]), (ByteArray.mk #[109, 105, 110]), (ByteArray.mk #[109, 97, 120]), (ByteArray.mk #[112, 105, 99, 107]), (ByteArray.mk #[110, 101, 103])] : List ByteArray).getD (0 + Int.toNat k) .empty).data.toList
theorem wd_all : ∀ k : Fin 13, (([(ByteArray.mk #[]), (ByteArray.mk #[112, 117, 115, 104]), (ByteArray.mk #[105, 110, 112, 117, 116]), (ByteArray.mk #[108, 111, 97, 100]), (ByteArray.mk #[115, 116, 111, 114, 101]), (ByteArray.mk #[97, 100, 100]), (ByteArray.mk #[115, 117, 98]), (ByteArray.mk #[109, 117, 108]), (ByteArray.mk #[108, 101, 115, 115]), (ByteArray.mk #[109, 105, 110]), (ByteArray.mk #[109, 97, 120]), (ByteArray.mk #[112, 105, 99, 107]), (ByteArray.mk #[110, 101, 103])] : List ByteArray).getD (0 + k.val) .empty).data.toList.length ≤ 5 := by decide
theorem wdL_length {k : Int} (h : 1 ≤ k ∧ k ≤ 12) : (wdL k).length ≤ 5 := by
  obtain ⟨n, rfl⟩ := Int.eq_ofNat_of_zero_le (show 0 ≤ k by omega)
  exact wd_all ⟨n, by omega⟩
theorem wd_eq (k : Int) : ([(ByteArray.mk #[]), (ByteArray.mk #[112, 117, 115, 104]), (ByteArray.mk #[105, 110, 112, 117, 116]), (ByteArray.mk #[108, 111, 97, 100]), (ByteArray.mk #[115, 116, 111, 114, 101]), (ByteArray.mk #[97, 100, 100]), (ByteArray.mk #[115, 117, 98]), (ByteArray.mk #[109, 117, 108]), (ByteArray.mk #[108, 101, 115, 115]), (ByteArray.mk #[109, 105, 110]), (ByteArray.mk #[109, 97, 120]), (ByteArray.mk #[112, 105, 99, 107]), (ByteArray.mk #[110, 101, 103])] : List ByteArray).getD (0 + Int.toNat k) .empty = mkB (wdL k) := (mkB_of _).symm
def argL (l : List ByteArray) (k a : Int) (f : Nat) : List UInt8 :=
  if k = 1 then 32 :: numL f else if k = 2 then 32 :: decL a.toNat else if k = 3 ∨ k = 4 then 32 :: (l.getD a.toNat .empty).data.toList else []
def rowO (l : List ByteArray) (o : List (List Int)) (i : Nat) : List UInt8 := wdL ((o.getD i []).getD 0 0) ++ argL l ((o.getD i []).getD 0 0) ((o.getD i []).getD 1 0) (Int.toNat ((o.getD i []).getD 2 0)) ++ [10]
theorem name_at {l : List ByteArray} {o : List (List Int)} (ok : ProgOk l o) {a : Int} (h0 : 0 ≤ a) (h1 : a < l.length) : ∃ nm, l.getD a.toNat .empty = mkB nm ∧ nm.length ≤ 8 :=
  ⟨(l.getD a.toNat .empty).data.toList, (mkB_of _).symm, by have := ok.names a.toNat (by omega); rw [size_eq] at this; exact this⟩
theorem rowO_length {l : List ByteArray} {o : List (List Int)} (ok : ProgOk l o) {i : Nat} (hi : i < o.length) : (rowO l o i).length ≤ 1000 := by
  obtain ⟨hk, h2, h3, h4⟩ := ok.ops i hi
  have hw := wdL_length hk
  have ha : (argL l ((o.getD i []).getD 0 0) ((o.getD i []).getD 1 0) (Int.toNat ((o.getD i []).getD 2 0))).length ≤ 20 := by
    unfold argL
    split
    · simp only [List.length_cons, numL_length]; omega
    · split
      · simp only [List.length_cons, decL, List.length_nil]; omega
      · split
        · rename_i h
          have hb : 0 ≤ (o.getD i []).getD 1 0 ∧ (o.getD i []).getD 1 0 < l.length := by exact h.elim h3 h4
          obtain ⟨nm, e, hn⟩ := name_at ok hb.1 hb.2
          rw [e, List.length_cons, mkB_data]; omega
        · simp
  unfold rowO
  rw [List.length_append, List.length_append, List.length_cons, List.length_nil]; omega
theorem lSp : (ByteArray.mk #[32]) = mkB [32] := rfl
theorem lNl : (ByteArray.mk #[10]) = mkB [10] := rfl
theorem cf {α : Type} {c : Bool} {a b r : α} (h : c = false) (e : b = r) : cond c a b = r := by rw [h]; exact e
section
variable {l : List ByteArray} {o : List (List Int)} {ih : ByteArray → Int → List ByteArray → List (List Int) → (Nat × ByteArray)} {ih' : ByteArray → Int → Int → List (List Int) → List ByteArray → (Nat × ByteArray)} {t : List UInt8} {i : Nat}
theorem op_spec (hr : RowsOk Sh3 o) (ok : ProgOk l o) (hi : i < o.length) (ht : t.length ≤ 400000) : b6l0 ih (mkB t) (i : Int) l o = ih (mkB (t ++ rowO l o i)) ((i + 1 : Nat) : Int) l o := by
  have o3 := ok.o300
  obtain ⟨hk, h2, h3, h4⟩ := ok.ops i hi
  have hw := wdL_length hk
  have c2 : Int.toNat ((o.getD i []).getD 2 0) < 4294967296 := ((hr.get hi).get (show Sh3[2]? = some (.fl .f32) from rfl)).lt32
  unfold b6l0
  rw [dlt_t hi, dle0, Int.toNat_natCast, blt_t hi, wrap_succ (by omega), hexs_eq c2, wd_eq, lSp, lNl]
  show _ = ih (mkB (t ++ (wdL ((o.getD i []).getD 0 0) ++ argL l ((o.getD i []).getD 0 0) ((o.getD i []).getD 1 0) (Int.toNat ((o.getD i []).getD 2 0)) ++ [10]))) ((i + 1 : Nat) : Int) l o
  generalize (o.getD i []).getD 0 0 = k at hk h2 h3 h4 hw ⊢
  generalize (o.getD i []).getD 1 0 = a at h2 h3 h4 ⊢
  generalize Int.toNat ((o.getD i []).getD 2 0) = f at c2 ⊢
  have hk' : k = 1 ∨ k = 2 ∨ k = 3 ∨ k = 4 ∨ k = 5 ∨ k = 6 ∨ k = 7 ∨ k = 8 ∨ k = 9 ∨ k = 10 ∨ k = 11 ∨ k = 12 := by omega
  rcases hk' with rfl | rfl | rfl | rfl | hk'
  · simp only [mk_app, mkB_size, List.length_append, numL_length, List.length_cons, List.length_nil]
    generalize wdL 1 = w at hw ⊢
    repeat' first | refine cs (by unfold strMax; omega) ?_ | refine cb rfl ?_ | refine cf rfl ?_
    exact congrArg (fun x => ih (mkB x) _ l o) (by simp [argL])
  · obtain ⟨q0, q1⟩ := h2 rfl
    obtain ⟨q, rfl⟩ := Int.eq_ofNat_of_zero_le q0
    rw [wrap_i64 (by omega) (by omega), dec_spec (by omega)]
    simp only [mk_app, mkB_size, List.length_append, decL, List.length_cons, List.length_nil]
    generalize wdL 2 = w at hw ⊢
    repeat' first | refine cs (by unfold strMax; omega) ?_ | refine cb rfl ?_ | refine cf rfl ?_
    exact congrArg (fun x => ih (mkB x) _ l o) (by simp [argL, decL])
  · obtain ⟨q0, q1⟩ := h3 rfl
    obtain ⟨nm, e, hn⟩ := name_at ok q0 q1
    rw [decide_eq_true q0, blt_t (show a.toNat < l.length by omega), e]
    simp only [mk_app, mkB_size, List.length_append, List.length_cons, List.length_nil]
    generalize wdL 3 = w at hw ⊢
    repeat' first | refine cs (by unfold strMax; omega) ?_ | refine cb rfl ?_ | refine cf rfl ?_
    exact congrArg (fun x => ih (mkB x) _ l o) (by simp only [argL]; rw [e]; simp [mkB_data])
  · obtain ⟨q0, q1⟩ := h4 rfl
    obtain ⟨nm, e, hn⟩ := name_at ok q0 q1
    rw [decide_eq_true q0, blt_t (show a.toNat < l.length by omega), e]
    simp only [mk_app, mkB_size, List.length_append, List.length_cons, List.length_nil]
    generalize wdL 4 = w at hw ⊢
    repeat' first | refine cs (by unfold strMax; omega) ?_ | refine cb rfl ?_ | refine cf rfl ?_
    exact congrArg (fun x => ih (mkB x) _ l o) (by simp only [argL]; rw [e]; simp [mkB_data])
  · have ea : argL l k a f = [] := by unfold argL; rw [if_neg (by omega), if_neg (by omega), if_neg (by omega)]
    rw [ea]
    generalize wdL k = w at hw ⊢
    simp only [mk_app, mkB_size, List.length_append, List.length_cons, List.length_nil]
    rcases hk' with rfl | rfl | rfl | rfl | rfl | rfl | rfl | rfl
    all_goals
      repeat' first | refine cs (by unfold strMax; omega) ?_ | refine cb rfl ?_ | refine cf rfl ?_
      exact congrArg (fun x => ih (mkB x) _ l o) (by simp)
theorem op_impl (hr : RowsOk Sh3 o) (ok : ProgOk l o) (hi : i < o.length) (ht : t.length ≤ 400000) : b8l0 ih' (mkB t) ((o.length : Nat) : Int) (i : Int) o l = ih' (mkB (t ++ rowO l o i)) ((o.length : Nat) : Int) ((i + 1 : Nat) : Int) o l := by
  have o3 := ok.o300
  obtain ⟨hk, h2, h3, h4⟩ := ok.ops i hi
  have hw := wdL_length hk
  have c2 : Int.toNat ((o.getD i []).getD 2 0) < 4294967296 := ((hr.get hi).get (show Sh3[2]? = some (.fl .f32) from rfl)).lt32
  unfold b8l0
  rw [dlt_t hi, dle0, Int.toNat_natCast, blt_t hi, wrap_succ (by omega), text_eq c2, wd_eq, lSp, lNl]
  show _ = ih' (mkB (t ++ (wdL ((o.getD i []).getD 0 0) ++ argL l ((o.getD i []).getD 0 0) ((o.getD i []).getD 1 0) (Int.toNat ((o.getD i []).getD 2 0)) ++ [10]))) ((o.length : Nat) : Int) ((i + 1 : Nat) : Int) o l
  generalize (o.getD i []).getD 0 0 = k at hk h2 h3 h4 hw ⊢
  generalize (o.getD i []).getD 1 0 = a at h2 h3 h4 ⊢
  generalize Int.toNat ((o.getD i []).getD 2 0) = f at c2 ⊢
  have hk' : k = 1 ∨ k = 2 ∨ k = 3 ∨ k = 4 ∨ k = 5 ∨ k = 6 ∨ k = 7 ∨ k = 8 ∨ k = 9 ∨ k = 10 ∨ k = 11 ∨ k = 12 := by omega
  rcases hk' with rfl | rfl | rfl | rfl | hk'
  · simp only [mk_app, mkB_size, List.length_append, numL_length, List.length_cons, List.length_nil]
    generalize wdL 1 = w at hw ⊢
    repeat' first | refine cs (by unfold strMax; omega) ?_ | refine cb rfl ?_ | refine cf rfl ?_
    exact congrArg (fun x => ih' (mkB x) _ _ o l) (by simp [argL])
  · obtain ⟨q0, q1⟩ := h2 rfl
    obtain ⟨q, rfl⟩ := Int.eq_ofNat_of_zero_le q0
    rw [wrap_i64 (by omega) (by omega), decide_eq_true (show (0 : Int) ≤ (q : Int) by omega), decide_eq_true (show (q : Int) < 100 by omega), dec_impl (by omega)]
    simp only [mk_app, mkB_size, List.length_append, decL, List.length_cons, List.length_nil]
    generalize wdL 2 = w at hw ⊢
    repeat' first | refine cs (by unfold strMax; omega) ?_ | refine cb rfl ?_ | refine cf rfl ?_
    exact congrArg (fun x => ih' (mkB x) _ _ o l) (by simp [argL, decL])
  · obtain ⟨q0, q1⟩ := h3 rfl
    obtain ⟨nm, e, hn⟩ := name_at ok q0 q1
    rw [decide_eq_true q0, blt_t (show a.toNat < l.length by omega), e]
    simp only [mk_app, mkB_size, List.length_append, List.length_cons, List.length_nil]
    generalize wdL 3 = w at hw ⊢
    repeat' first | refine cs (by unfold strMax; omega) ?_ | refine cb rfl ?_ | refine cf rfl ?_
    exact congrArg (fun x => ih' (mkB x) _ _ o l) (by simp only [argL]; rw [e]; simp [mkB_data])
  · obtain ⟨q0, q1⟩ := h4 rfl
    obtain ⟨nm, e, hn⟩ := name_at ok q0 q1
    rw [decide_eq_true q0, blt_t (show a.toNat < l.length by omega), e]
    simp only [mk_app, mkB_size, List.length_append, List.length_cons, List.length_nil]
    generalize wdL 4 = w at hw ⊢
    repeat' first | refine cs (by unfold strMax; omega) ?_ | refine cb rfl ?_ | refine cf rfl ?_
    exact congrArg (fun x => ih' (mkB x) _ _ o l) (by simp only [argL]; rw [e]; simp [mkB_data])
  · have ea : argL l k a f = [] := by unfold argL; rw [if_neg (by omega), if_neg (by omega), if_neg (by omega)]
    rw [ea]
    generalize wdL k = w at hw ⊢
    simp only [mk_app, mkB_size, List.length_append, List.length_cons, List.length_nil]
    rcases hk' with rfl | rfl | rfl | rfl | rfl | rfl | rfl | rfl
    all_goals
      repeat' first | refine cs (by unfold strMax; omega) ?_ | refine cb rfl ?_ | refine cf rfl ?_
      exact congrArg (fun x => ih' (mkB x) _ _ o l) (by simp)
end
section
variable {l : List ByteArray} {o : List (List Int)} (hr : RowsOk Sh3 o) (ok : ProgOk l o)
include hr ok
theorem text_spec {fuel : Nat} (hf : o.length < fuel) : r6l0 fuel (mkB []) 0 l o = (0, mkB ([] ++ (List.range' 0 o.length).flatMap (rowO l o))) :=
  have o3 := ok.o300
  text_loop (G := fun m x i => r6l0 m x i l o) (n := o.length) (N := 400000) (line := rowO l o) (by omega) (fun i hi => rowO_length ok hi)
    (fun m t i hi ht => op_spec hr ok hi ht)
    (fun m t => by show b6l0 _ _ _ _ _ = _; unfold b6l0; rw [dlt_f (Nat.lt_irrefl _)]; rfl) o.length 0 [] fuel (by omega) hf (by simp; omega)
theorem text_impl {fuel : Nat} (hf : o.length < fuel) : r8l0 fuel (mkB []) ((o.length : Nat) : Int) 0 o l = (0, mkB ([] ++ (List.range' 0 o.length).flatMap (rowO l o))) :=
  have o3 := ok.o300
  text_loop (G := fun m x i => r8l0 m x ((o.length : Nat) : Int) i o l) (n := o.length) (N := 400000) (line := rowO l o) (by omega) (fun i hi => rowO_length ok hi)
    (fun m t i hi ht => op_impl hr ok hi ht)
    (fun m t => by show b8l0 _ _ _ _ _ _ = _; unfold b8l0; rw [dlt_f (Nat.lt_irrefl _)]; rfl) o.length 0 [] fuel (by omega) hf (by simp; omega)
end
theorem plain3 (x0 : List ByteArray) (x1 : List (List Int)) (s5 : ∀ s ∈ x0, s.size ≤ 9223372036854775807) (l5 : x0.length ≤ 9223372036854775807) (k6 : RowsOk Sh3 x1) (l6 : x1.length ≤ 9223372036854775807) : r3 x0 x1 = (0, true) := by
  unfold r3
  obtain ⟨v, e, hv⟩ := szP s5 l5 l6 (show (0 : Int) ≤ 1048576 by decide) (Int.le_refl _)
  rw [e]
  rcases hv with rfl | ⟨g1, g2, g3, g4⟩
  · rfl
  rw [decide_eq_false (show ¬ v < 0 by omega), copyP k6 g3 g4]
  obtain ⟨b, c1, c2⟩ := valid_both s5 k6 g3 g4
  have key : ∃ q, r6 x0 x1 = (0, q) ∧ r8 x0 x1 = (0, q) := by
    unfold r6 w6 r8 w8
    rw [c1, c2]
    cases b with
    | false => exact ⟨_, rfl, rfl⟩
    | true =>
      have ok := prog_ok s5 k6 g3 g4 c1
      rw [show (ByteArray.mk #[]) = mkB [] from rfl, text_spec k6 ok (by omega), text_impl k6 ok (by omega)]
      exact ⟨_, rfl, rfl⟩
  obtain ⟨q, d1, d2⟩ := key
  simp only [d1, d2, prog_self g3 g4, beq_self_eq_true]
  rfl
end Go.Proofs.YtffpnkkhcgjmfaaDoor
