/- Running a valid program: all rounds, both ways. -/
import Derived.Test.YtfclciebpnnieaaPni2
namespace Go.Proofs.Ytfclciebpnnieaa
open Go.Ab

/-- from here on all is well, and at the end there are so many values -/
def Good (o : List (List Int)) (L : Int) : Nat → Nat → Int → Int → Prop
  | 0, _, d, v => d = 0 ∧ v = L
  | n + 1, i, d, v => okS ((o.getD i []).getD 0 0) ((o.getD i []).getD 1 0) (Int.toNat ((o.getD i []).getD 2 0)) d v = true ∧ Good o L n (i + 1) (dd ((o.getD i []).getD 0 0) d) (vv ((o.getD i []).getD 0 0) v)

theorem good_of {l : List ByteArray} {o : List (List Int)} (hr : RowsOk S3 o) (ho : o.length ≤ 1048576) : ∀ (n i fs : Nat) (d v : Int), i + n = o.length → n < fs → 0 ≤ d → d ≤ 20 → 0 ≤ v → v ≤ (i : Int) →
    (∃ d' v', r48l1 fs d v (i : Int) l o = (1, 0, 0, d', v') ∧ (d' = 0 → Good o v' n i d v)) ∨ (r48l1 fs d v (i : Int) l o).1 = 0 := by
  intro n
  induction n with
  | zero =>
    intro i fs d v h hf1 _ _ _ _
    obtain ⟨m, rfl⟩ : ∃ m, fs = m + 1 := ⟨fs - 1, by omega⟩
    refine .inl ⟨d, v, ?_, fun h => ⟨h, rfl⟩⟩
    show b48l1 (r48l1 m) _ _ _ _ _ = _
    unfold b48l1
    rw [dlt_f (by omega)]; rfl
  | succ n ih =>
    intro i fs d v h hf1 hd0 hd1 hv0 hv1
    obtain ⟨m, rfl⟩ : ∃ m, fs = m + 1 := ⟨fs - 1, by omega⟩
    have hi : i < o.length := by omega
    have hrow := hr.get hi
    have c0 := hrow.get (show S3[0]? = some (.int .i8) from rfl)
    have c1 := hrow.get (show S3[1]? = some (.int .i16) from rfl)
    have c2 := (hrow.get (show S3[2]? = some (.fl .f32) from rfl)).lt32
    simp only [CTok, show IntKind.i8.min = -128 from by decide, show IntKind.i8.max = 127 from by decide] at c0
    simp only [CTok, show IntKind.i16.min = -32768 from by decide, show IntKind.i16.max = 32767 from by decide] at c1
    obtain ⟨s1, s2⟩ := stepS (l := l) ho hi hd0 hd1 hv0 (by omega) rfl rfl rfl c0 c1 c2 m
    cases hs : okS ((o.getD i []).getD 0 0) ((o.getD i []).getD 1 0) (Int.toNat ((o.getD i []).getD 2 0)) d v with
    | false => exact .inr (s2 hs)
    | true =>
      rw [s1 hs]
      have hb : 0 ≤ dd ((o.getD i []).getD 0 0) d ∧ dd ((o.getD i []).getD 0 0) d ≤ 20 := by
        have ht := takes ((o.getD i []).getD 0 0)
        unfold okS at hs
        simp only [Bool.and_eq_true, Bool.not_eq_true', decide_eq_false_iff_not] at hs
        refine ⟨?_, by omega⟩
        have := hs.1.1.2
        unfold dd; omega
      have hvv : 0 ≤ vv ((o.getD i []).getD 0 0) v ∧ vv ((o.getD i []).getD 0 0) v ≤ ((i + 1 : Nat) : Int) := by
        unfold vv
        cases (o.getD i []).getD 0 0 == 4 <;> simp only [cond_true, cond_false] <;> omega
      rcases ih (i + 1) m _ _ (by omega) (by omega) hb.1 hb.2 hvv.1 hvv.2 with ⟨d', v', g1, g2⟩ | g
      · exact .inl ⟨d', v', g1, fun h => ⟨hs, g2 h⟩⟩
      · exact .inr g

/-- what is known of a step that is well -/
theorem okS_facts {k a : Int} {f : Nat} {d v : Int} (h : okS k a f d v = true) : (1 ≤ k ∧ k ≤ 12) ∧ (k = 2 → 0 ≤ a ∧ a ≤ 3) ∧ (k = 3 → 0 ≤ a ∧ a < v) ∧ (k = 4 → a = v ∧ d = 1) ∧ (r77 k).1 ≤ d ∧ dd k d ≤ 20 := by
  unfold okS at h
  simp only [Bool.and_eq_true, Bool.not_eq_true', decide_eq_false_iff_not] at h
  obtain ⟨⟨⟨⟨h1, h2⟩, h3⟩, h4⟩, h5⟩ := h
  have hr : r68 k 1 12 = (decide (k ≥ 1) && decide (k ≤ 12)) := by unfold r68; cases decide (k ≥ 1) <;> rfl
  rw [hr, Bool.and_eq_true, decide_eq_true_eq, decide_eq_true_eq] at h1
  have ha := h2.2
  refine ⟨by omega, ?_, ?_, ?_, by omega, by omega⟩
  · rintro rfl
    have : (decide (a ≥ 0) && decide (a ≤ 3)) = true := ha
    simp at this; omega
  · rintro rfl
    have : (decide (a ≥ 0) && decide (a ≤ v - 1)) = true := ha
    simp at this; omega
  · rintro rfl
    have e1 : (a == v) = true := ha
    have e2 : (!(dd 4 d != 0)) = true := h5
    refine ⟨by simpa using e1, ?_⟩
    simp at e2
    have : dd 4 d = d + (0 - 1) := rfl
    omega

theorem dd_op {k : Int} (h : 5 ≤ k ∧ k ≤ 12) (d : Int) : dd k d = d + (1 - ((les k : Nat) : Int)) := by
  have : k = 5 ∨ k = 6 ∨ k = 7 ∨ k = 8 ∨ k = 9 ∨ k = 10 ∨ k = 11 ∨ k = 12 := by omega
  rcases this with rfl | rfl | rfl | rfl | rfl | rfl | rfl | rfl <;> rfl
theorem r77_les {k : Int} (h : 5 ≤ k ∧ k ≤ 12) : (r77 k).1 = ((les k : Nat) : Int) := r53_les h
theorem vv_op {k : Int} (h : k ≠ 4) (v : Int) : vv k v = v := by
  unfold vv; rw [show (k == 4) = false from beq_eq_false_iff_ne.2 h]; rfl

theorem runs {o : List (List Int)} (ho : o.length ≤ 1048576) {L : Int} {x1 x2 x3 x4 x5 x6 x7 x8 : Nat} {nm : List ByteArray} : ∀ (n i fs fi : Nat) (vals s : List (List Int)), i + n = o.length → n < fs → n < fi → s.length ≤ 20 → vals.length ≤ i → Good o L n i (s.length : Int) (vals.length : Int) →
    ∃ v, (v.length : Int) = L ∧ AnsS vals v (r62l0 fs (i : Int) x1 x2 x3 x4 x5 x6 x7 x8 vals s nm o) ∧ AnsI vals v (r88l0 fi ((o.length : Nat) : Int) (i : Int) x1 x2 x3 x4 x5 x6 x7 x8 vals s o) := by
  intro n
  induction n with
  | zero =>
    intro i fs fi vals s h hf1 hf2 hs hv hg
    obtain ⟨m, rfl⟩ : ∃ m, fs = m + 1 := ⟨fs - 1, by omega⟩
    obtain ⟨m', rfl⟩ : ∃ m, fi = m + 1 := ⟨fi - 1, by omega⟩
    refine ⟨vals, hg.2, .inr ⟨.inr ?_, rfl⟩, .inr ⟨.inr ?_, rfl⟩⟩
    · show (b62l0 (r62l0 m) _ _ _ _ _ _ _ _ _ _ _ _ _).1 = _
      unfold b62l0
      rw [dlt_f (by omega)]; rfl
    · show (b88l0 (r88l0 m') _ _ _ _ _ _ _ _ _ _ _ _ _).1 = _
      unfold b88l0
      rw [dlt_f (by omega)]; rfl
  | succ n ih =>
    intro i fs fi vals s h hf1 hf2 hs hv hg
    obtain ⟨m, rfl⟩ : ∃ m, fs = m + 1 := ⟨fs - 1, by omega⟩
    obtain ⟨m', rfl⟩ : ∃ m, fi = m + 1 := ⟨fi - 1, by omega⟩
    have hi : i < o.length := by omega
    obtain ⟨hok, hg⟩ := hg
    obtain ⟨f1, f2, f3, f4, f5, f6⟩ := okS_facts hok
    show ∃ v, (v.length : Int) = L ∧ AnsS vals v (b62l0 (r62l0 m) (i : Int) x1 x2 x3 x4 x5 x6 x7 x8 vals s nm o) ∧ AnsI vals v (b88l0 (r88l0 m') ((o.length : Nat) : Int) (i : Int) x1 x2 x3 x4 x5 x6 x7 x8 vals s o)
    obtain ⟨k, hk⟩ : ∃ k, (o.getD i []).getD 0 0 = k := ⟨_, rfl⟩
    rw [hk] at f1 f2 f3 f4 f5 f6 hg
    -- a number is laid on the stack
    have push : ∀ y : Nat × Nat, dd k (s.length : Int) = (s.length : Int) + 1 → k ≠ 4 → ∃ v, (v.length : Int) = L ∧ AnsS vals v (r62l0 m ((i + 1 : Nat) : Int) x1 x2 x3 x4 x5 x6 x7 x8 vals (s ++ [rw2 y]) nm o) ∧ AnsI vals v (r88l0 m' ((o.length : Nat) : Int) ((i + 1 : Nat) : Int) x1 x2 x3 x4 x5 x6 x7 x8 vals (s ++ [rw2 y]) o) := by
      intro y e1 e2
      rw [e1] at f6
      rw [e1, vv_op e2] at hg
      refine ih (i + 1) m m' vals (s ++ [rw2 y]) (by omega) (by omega) (by omega) ?_ (by omega) ?_
      · simp only [List.length_append, List.length_singleton]; omega
      · simp only [List.length_append, List.length_singleton, Int.natCast_add, Int.cast_ofNat_Int]; exact hg
    by_cases k1 : k = 1
    · subst k1
      obtain ⟨v, g1, g2, g3⟩ := push (Int.toNat ((o.getD i []).getD 2 0), Int.toNat ((o.getD i []).getD 2 0)) rfl (by decide)
      exact ⟨v, g1, rs1 ho hi hs hk rfl g2, ri1 ho hi hs hk rfl g3⟩
    by_cases k2 : k = 2
    · subst k2
      obtain ⟨v, g1, g2, g3⟩ := push _ rfl (by decide)
      exact ⟨v, g1, rs2 ho hi hs hk rfl (f2 rfl) g2, ri2 ho hi hs hk rfl (f2 rfl) g3⟩
    by_cases k3 : k = 3
    · subst k3
      obtain ⟨v, g1, g2, g3⟩ := push _ rfl (by decide)
      exact ⟨v, g1, rs3 ho hi hs hk rfl (f3 rfl) g2, ri3 ho hi hs hk rfl (f3 rfl) g3⟩
    by_cases k4 : k = 4
    · subst k4
      have hs1 : s.length = 1 := by have := (f4 rfl).2; omega
      have e1 : dd 4 (s.length : Int) = 0 := by rw [hs1]; rfl
      have e2 : vv 4 (vals.length : Int) = (vals.length : Int) + 1 := rfl
      rw [e1, e2] at hg
      obtain ⟨v, g1, g2, g3⟩ := ih (i + 1) m m' (vals ++ [rw2 (el s 0)]) [] (by omega) (by omega) (by omega) (by simp) (by simp; omega) (by
        simp only [List.length_append, List.length_singleton, Int.natCast_add, Int.cast_ofNat_Int, List.length_nil]; exact hg)
      exact ⟨v, g1, rs4 ho hi hs1 (by omega) hk g2, ri4 ho hi hs1 (by omega) hk g3⟩
    · have hk5 : 5 ≤ k ∧ k ≤ 12 := by omega
      have hq := les_le k
      rw [r77_les hk5] at f5
      rw [dd_op hk5, vv_op k4] at hg
      have hnl : (nxt k s).length = s.length - les k + 1 := by
        unfold nxt
        rw [List.length_append, List.length_take, Nat.min_eq_left (by omega)]; rfl
      obtain ⟨v, g1, g2, g3⟩ := ih (i + 1) m m' vals (nxt k s) (by omega) (by omega) (by omega) (by rw [hnl]; omega) (by omega) (by
        rw [hnl]
        rw [show (((s.length - les k + 1 : Nat)) : Int) = (s.length : Int) + (1 - ((les k : Nat) : Int)) by omega]; exact hg)
      refine ⟨v, g1, ?_, riB ho hi (by omega) hs hk hk5 g3⟩
      by_cases k12 : k = 12
      · subst k12
        exact rs12 ho hi (by simpa [les] using (show les 12 ≤ s.length by omega)) hs hk g2
      · by_cases k11 : k = 11
        · subst k11
          exact rs11 ho hi (by simpa [les] using (show les 11 ≤ s.length by omega)) hs hk g2
        · have e : les k = 2 := by unfold les; rw [if_neg k12, if_neg k11]
          exact rsB ho hi (by omega) hs hk (by omega) g2

/-- THE MACHINE RUNS A VALID PROGRAM ALIKE IN BOTH -/
theorem run_both {l : List ByteArray} {o : List (List Int)} (hr : RowsOk S3 o) (ho : o.length ≤ 1048576) (hl : l.length ≤ 1048576) (hv : r48 l o = (0, true)) (x1 x2 x3 x4 x5 x6 x7 x8 : Nat) : ∃ v, v.length = l.length ∧ r62 x1 x2 x3 x4 x5 x6 x7 x8 l o = (0, v) ∧ r88 x1 x2 x3 x4 x5 x6 x7 x8 l o = (0, v) := by
  have hg : Good o (l.length : Int) o.length 0 0 0 := by
    unfold r48 at hv
    cases h1 : decide ((((l.length : Nat) : Int) : Int) > 12) with
    | true => rw [h1] at hv; cases hv
    | false =>
      cases h2 : decide ((((o.length : Nat) : Int) : Int) > 300) with
      | true => rw [h1, h2] at hv; cases hv
      | false =>
        rw [h1, h2] at hv
        simp only [cond_false] at hv
        cases h3 : Nat.beq (r48l0 (1000 + o.length + l.length) 0 l o) 0 with
        | true => rw [h3] at hv; cases hv
        | false =>
          rw [h3] at hv
          cases h4 : Nat.beq (r48l0 (1000 + o.length + l.length) 0 l o) 1 with
          | false => rw [h4] at hv; cases hv
          | true =>
            rw [h4] at hv
            simp only [cond_false, cond_true] at hv
            rcases good_of (l := l) hr ho o.length 0 (1000 + o.length + l.length) 0 0 (by omega) (by omega) (by decide) (by decide) (by decide) (by decide) with ⟨d', v', g1, g2⟩ | g
            · have g1' : r48l1 (1000 + o.length + l.length) 0 0 0 l o = (1, 0, 0, d', v') := g1
              rw [g1'] at hv
              have hv2 : (cond (d' == 0) (0, v' == ((l.length : Nat) : Int)) (0, false) : Nat × Bool) = (0, true) := hv
              cases h5 : d' == 0 with
              | false => rw [h5] at hv2; cases hv2
              | true =>
                rw [h5] at hv2
                have h6 : (v' == ((l.length : Nat) : Int)) = true := (Prod.mk.inj hv2).2
                have h7 : v' = ((l.length : Nat) : Int) := by simpa using h6
                rw [← h7]
                exact g2 (by simpa using h5)
            · have g1' : (r48l1 (1000 + o.length + l.length) 0 0 0 l o).1 = 0 := g
              rw [g1'] at hv
              cases hv
  obtain ⟨v, g1, g2, g3⟩ := runs (x1 := x1) (x2 := x2) (x3 := x3) (x4 := x4) (x5 := x5) (x6 := x6) (x7 := x7) (x8 := x8) (nm := l) ho o.length 0 (1000 + o.length + l.length + 0 + 0) (1000 + o.length + 0 + 0) [] [] (by omega) (by omega) (by omega) (by simp) (by simp) hg
  refine ⟨v, by omega, ?_, ?_⟩
  · unfold r62
    have g2' : AnsS [] v (r62l0 (1000 + o.length + l.length + 0 + 0) 0 x1 x2 x3 x4 x5 x6 x7 x8 [] [] l o) := g2
    rcases g2' with ⟨e1, e2⟩ | ⟨e1 | e1, e2⟩ <;> simp only [e1] <;> subst e2 <;> rfl
  · unfold r88
    have g3' : AnsI [] v (r88l0 (1000 + o.length + 0 + 0) ((o.length : Nat) : Int) 0 x1 x2 x3 x4 x5 x6 x7 x8 [] [] o) := g3
    rcases g3' with ⟨e1, e2⟩ | ⟨e1 | e1, e2⟩ <;> simp only [e1] <;> subst e2 <;> rfl
end Go.Proofs.Ytfclciebpnnieaa
