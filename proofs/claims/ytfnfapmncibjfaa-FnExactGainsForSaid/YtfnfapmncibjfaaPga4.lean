/- The plain law of GainsFor. -/
import Derived.Test.YtfnfapmncibjfaaPga3
namespace Go.Proofs.Ytfnfapmncibjfaa
open Go.Ab

theorem upto_eq (d m : Nat) (h : d < 4294967296) : r67 d m = cond (r88 d) (flt .f32 d m || feq .f32 d m) false := by
  unfold r67
  rw [amt d h]
section
variable {h s w p g : List (List Int)} (ok : FlatOk h s w p) (hg : g.length = h.length) (kw : RowsOk S8 w) (kp : RowsOk S4 p) (kg : RowsOk S1 g) {a b : Nat} (ha : Le a 1128792064) (hb : b ≤ 1092616192) (hh : ∀ i, i < g.length → r84 (fc g i 0) = true)
include hg kg ha hh
theorem bnd_le {x : Int} (h2 : x < h.length) : Le (bnd a g x) 1128792064 := by
  unfold bnd
  by_cases hx : 0 ≤ x
  · rw [decide_eq_true hx]
    exact heat_le (fc_lt kg (show x.toNat < g.length by omega) rfl) (hh _ (by omega))
  · rw [decide_eq_false hx]; exact ha
theorem term_le {i : Nat} (hi : i < h.length) {x : Int} (h2 : x < h.length) {l : Nat} (hl : Le l 1120403456) : Le (fmul .f32 l (fsub .f32 (fc g i 0) (bnd a g x))) 1199570944 := by
  have g1 : Le (fsub .f32 (fc g i 0) (bnd a g x)) 1137180672 := diff_le (heat_le (fc_lt kg (show i < g.length by omega) rfl) (hh _ (by omega))) (bnd_le hg kg ha hh h2) (by omega) (by omega) (by omega) (by decide +kernel)
  exact prod_le hl g1 (by omega) (by omega) (by omega) (by decide +kernel)
include ok kw in
theorem gW_bd {i : Nat} (hi : i < h.length) {k x n : Nat} (hk : k < w.length) (hn : n + 1 ≤ 90) (hx : Le x (Bd n)) : Le (gW a g w i k x) (Bd (n + 1)) := by
  obtain ⟨⟨q1, q2⟩, q3, q4⟩ := wall_ix ok hk
  have hl : Le (fmul .f32 1048576000 (fc w k 2)) 1120403456 := by
    have hp := ok.walls k hk
    unfold pW at hp
    simp only [Bool.and_eq_true] at hp
    have hd := fc_lt kw hk (j := 2) rfl
    have hle := lead_le hd hp.2.2.2.2.2.1 hp.2.2.2.2.2.2.2.1
    exact prod_le (r1 := 1048576000) (Nat.le_refl _) (le_of_pos hle (by omega)) (by omega) (by omega) (by omega) (by decide +kernel)
  unfold gW
  cases (ic w k 0 == (i : Int)) with
  | true => exact Bd_add hx (term_le hg kg ha hh hi q4 hl) (by omega)
  | false =>
    cases (ic w k 1 == (i : Int)) with
    | true => exact Bd_add hx (term_le hg kg ha hh hi q2 hl) (by omega)
    | false => exact Bd_le hx (by omega)
include ok kp hb in
theorem gP_bd {i : Nat} (hi : i < h.length) {k x n : Nat} (hk : k < p.length) (hn : n + 2 ≤ 90) (hx : Le x (Bd n)) : Le (gP a b g p i k x) (Bd (n + 2)) := by
  obtain ⟨⟨q1, q2⟩, q3, q4⟩ := pane_ix ok hk
  have hp := ok.panes k hk
  unfold pP at hp
  simp only [Bool.and_eq_true] at hp
  have hl : Le (fc p k 2) 1120403456 := le_of_pos (lead_le (fc_lt kp hk (j := 2) rfl) hp.2.1 hp.2.2.1) (by omega)
  have hs : Le (fmul .f32 (fc p k 3) b) 1199570944 := by
    have hd := fc_lt kp hk (j := 3) rfl
    have hle := sun_le hd hp.2.2.2.1 hp.2.2.2.2
    exact prod_le (le_of_pos hle (by omega)) (le_of_pos hb (by omega)) (by omega) (by omega) (by omega) (by decide +kernel)
  unfold gP
  cases (ic p k 0 == (i : Int)) with
  | true => exact Bd_sub (Bd_add hx (term_le hg kg ha hh hi q4 hl) (by omega)) hs (by omega)
  | false =>
    cases (ic p k 1 == (i : Int)) with
    | true => exact Bd_le (Bd_add hx (term_le hg kg ha hh hi q2 hl) (by omega)) (by omega)
    | false => exact Bd_le hx (by omega)
include ok kw kp hb in
theorem gain_fi {i : Nat} (hi : i < h.length) : Fi (gain a b g w p i) := by
  have hw := ok.w
  have hp := ok.p
  have z : Le 0 (Bd 0) := Nat.zero_le _
  have e1 := foldN_bd (c := 1) (step := gW a g w i) (n := w.length) (fun k x n hk hn hx => gW_bd ok hg kw kg ha hh hi hk hn hx) w.length 0 0 0 (by omega) (by omega) z
  have e2 := foldN_bd (c := 2) (step := gP a b g p i) (n := p.length) (fun k x n hk hn hx => gP_bd ok hg kp kg ha hb hh hi hk hn hx) p.length 0 _ _ (by omega) (by omega) e1
  exact e2.fi (by unfold Bd; omega)
end
theorem fin_all {l : List (List Int)} (hl : l.length ≤ 1048576) (hf : ∀ i, i < l.length → Fi (fc l i 0)) : r70b l = (0, true) := by
  have key : r70l0c (1000 + l.length) ((l.length : Nat) : Int) 0 l = 1 := by
    have := all_loop (n := l.length) (p := fun _ => true) (yes := 1) (no := 0) (G := fun m i => r70l0c m ((l.length : Nat) : Int) i l) (fuel := 1000 + l.length) ?_ ?_ (by omega)
    · rw [this, show allN l.length (fun _ => true) = true from allN_true.2 (fun _ _ => rfl)]; rfl
    · intro m
      show b70l0c (r70l0c m) _ _ _ = _
      unfold b70l0c
      rw [dlt_f (Nat.lt_irrefl _)]; rfl
    · intro m i hi
      show b70l0c (r70l0c m) _ _ _ = _
      unfold b70l0c
      have e : cond (r116 (widen (fc l i 0))) false (cond (r117 (widen (fc l i 0)) 0) false true) = true := by
        have e70 : r70 (fc l i 0) = cond (r116 (widen (fc l i 0))) false (cond (r117 (widen (fc l i 0)) 0) false true) := by unfold r70 r70l0b; cases r116 (widen (fc l i 0)) <;> cases r117 (widen (fc l i 0)) 0 <;> rfl
        rw [← e70, fin_impl]; exact decide_eq_true (hf i hi)
      rw [dlt_t hi, dle0, Int.toNat_natCast, blt_t hi, wrap_succ (by omega)]
      cases e1 : r116 (widen (fc l i 0)) with
      | true => rw [e1] at e; cases e
      | false =>
        cases e2 : r117 (widen (fc l i 0)) 0 with
        | true => rw [e1, e2] at e; cases e
        | false => rfl
  unfold r70b; rw [key]; rfl
section
variable {h s w p g : List (List Int)} (a b : Nat) (hl : g.length ≤ 1048576)
include hl
theorem wantS {c : Bool} {fuel : Nat} (hf : g.length < fuel) : r29l0 fuel a b c 0 g h s w p = (0, c && allN g.length (fun i => r84 (fc g i 0))) := by
  have key : ∀ (k i fuel : Nat) (c : Bool), i + k = g.length → k < fuel → r29l0 fuel a b c (i : Int) g h s w p = (0, c && (List.range' i k).all (fun i => r84 (fc g i 0))) := by
    intro k
    induction k with
    | zero =>
      intro i fuel c hik hf
      obtain ⟨m, rfl⟩ : ∃ m, fuel = m + 1 := ⟨fuel - 1, by omega⟩
      show b29l0 (r29l0 m) _ _ _ _ _ _ _ _ _ = _
      unfold b29l0
      rw [dlt_f (by omega)]; simp
    | succ k ih =>
      intro i fuel c hik hf
      obtain ⟨m, rfl⟩ : ∃ m, fuel = m + 1 := ⟨fuel - 1, by omega⟩
      show b29l0 (r29l0 m) _ _ _ _ _ _ _ _ _ = _
      unfold b29l0
      rw [dlt_t (show i < g.length by omega), dle0, Int.toNat_natCast, blt_t (show i < g.length by omega), wrap_succ (by omega), ih (i + 1) m _ (by omega) (by omega), ih (i + 1) m _ (by omega) (by omega), List.range'_succ, List.all_cons]
      cases c <;> rfl
  have := key g.length 0 fuel c (by omega) hf
  rw [show allN g.length (fun i => r84 (fc g i 0)) = (List.range' 0 g.length).all (fun i => r84 (fc g i 0)) by unfold allN; rw [List.range_eq_range']]
  exact this
theorem wantI {fuel : Nat} (hf : g.length < fuel) : r20l0 fuel a b ((g.length : Nat) : Int) 0 g h s w p = cond (allN g.length (fun i => r84 (fc g i 0))) 1 0 := by
  refine all_loop (n := g.length) (p := fun i => r84 (fc g i 0)) (yes := 1) (no := 0) (G := fun m i => r20l0 m a b ((g.length : Nat) : Int) i g h s w p) ?_ ?_ hf
  · intro m
    show b20l0 (r20l0 m) _ _ _ _ _ _ _ _ _ = _
    unfold b20l0
    rw [dlt_f (Nat.lt_irrefl _)]; rfl
  · intro m i hi
    show b20l0 (r20l0 m) _ _ _ _ _ _ _ _ _ = _
    unfold b20l0
    rw [dlt_t hi, dle0, Int.toNat_natCast, blt_t hi, wrap_succ (by omega), show r68 (fc g i 0) = r84 (fc g i 0) from rfl]
    cases r84 (fc g i 0) <;> rfl
end
theorem plain5 (x0 x1 : Nat) (x2 x3 x4 x5 x6 : List (List Int)) (h0 : FloatKind.f32.has x0) (h1 : FloatKind.f32.has x1) (k2 : RowsOk S1 x2) (l2 : x2.length ≤ 9223372036854775807) (k3 : RowsOk S1 x3) (l3 : x3.length ≤ 9223372036854775807) (k4 : RowsOk S8 x4) (l4 : x4.length ≤ 9223372036854775807) (k5 : RowsOk S4 x5) (l5 : x5.length ≤ 9223372036854775807) (k6 : RowsOk S1 x6) (l6 : x6.length ≤ 9223372036854775807) : r5 x0 x1 x2 x3 x4 x5 x6 = (0, true) := by
  unfold r5
  by_cases hx : (((x6.length : Nat) : Int) : Int) > 1048576
  · rw [decide_eq_true hx]; rfl
  rw [decide_eq_false hx]
  have hl6 : x6.length ≤ 1048576 := by omega
  rcases szF l2 l3 l4 l5 with g | ⟨g, g2, g3, g4, g5⟩
  · rw [decide_eq_true g]; rfl
  rw [decide_eq_false (show ¬ r23 1048576 x2 x3 x4 x5 < 0 by omega), copyF k2 k3 k4 k5 g2 g3 g4 g5, copy30 k6 hl6]
  obtain ⟨b, v1, v2, v3⟩ := valid_both k3 k4 k5 g2 g3 g4 g5
  obtain ⟨a', b', c', d', m1⟩ := markF g2 g3 g4 g5
  have hs := flat_self g2 g3 g4 g5
  have hp := mTop_pos x2 x3 x4 x5
  have hq : mTop x2 x3 x4 x5 ≤ 20000000 := by unfold mTop; omega
  have m2 := mk33 (k := mTop x2 x3 x4 x5) hl6 hp (by omega)
  have key : (∃ c, r29 x0 x1 x2 x3 x4 x5 x6 = (0, c, []) ∧ r20 x0 x1 x2 x3 x4 x5 x6 = (0, c, [])) ∨ ∃ l, l.length ≤ 1048576 ∧ r29 x0 x1 x2 x3 x4 x5 x6 = (0, 0, l) ∧ r20 x0 x1 x2 x3 x4 x5 x6 = (1, 0, l) := by
    unfold r29 r20
    rw [v1, v2]
    cases b with
    | false => exact .inl ⟨1, rfl, rfl⟩
    | true =>
    have ok := v3 rfl
    have hn := ok.n5
    have hw := ok.w
    have hpn := ok.p
    have hn1 := ok.n1
    have e66 : r66 x0 = r122 x0 := rfl
    rw [e66, upto_eq x1 1092616192 (has32 h1), bne_len]
    have e83 : r83 x0 x1 = cond (r122 x0) (cond (r88 x1) (flt .f32 x1 1092616192 || feq .f32 x1 1092616192) false) false := rfl
    rw [wantS x0 x1 hl6 (by omega), wantS x0 x1 hl6 (by omega), wantI x0 x1 hl6 (by omega)]
    have elen : ((((x6.length : Nat) : Int) : Int) == ((x2.length : Nat) : Int)) = decide (x2.length = x6.length) := by
      by_cases e : x2.length = x6.length
      · rw [decide_eq_true e, beq_iff_eq]; omega
      · rw [decide_eq_false e, beq_eq_false_iff_ne]; omega
    rw [elen, e83]
    by_cases hlen : ¬ x2.length = x6.length
    · rw [decide_eq_false hlen]
      refine .inl ⟨2, ?_, rfl⟩
      cases cond (r122 x0) (cond (r88 x1) (flt .f32 x1 1092616192 || feq .f32 x1 1092616192) false) false <;> rfl
    rw [decide_eq_true (show x2.length = x6.length by omega)]
    cases ho : r122 x0 with
    | false => exact .inl ⟨2, rfl, rfl⟩
    | true =>
    cases hs1 : r88 x1 with
    | false => exact .inl ⟨2, rfl, rfl⟩
    | true =>
    cases hs2 : (flt .f32 x1 1092616192 || feq .f32 x1 1092616192) with
    | false => exact .inl ⟨2, rfl, rfl⟩
    | true =>
    cases hall : allN x6.length (fun i => r84 (fc x6 i 0)) with
    | false => exact .inl ⟨2, rfl, rfl⟩
    | true =>
      have hg : x6.length = x2.length := by omega
      have q1 := g3S ok hg x0 x1 x2.length 0 (1000 + x5.length + x4.length + x3.length + x2.length + 0 + x6.length) (by omega) (by omega)
      have q2 := g3I ok hg x0 x1 x2.length 0 (1000 + x5.length + x4.length + x3.length + x2.length + 0 + x6.length) (by omega) (by omega)
      have z : Nat.beq x2.length 0 = false := by
        rw [← Bool.not_eq_true]; intro e; have := Nat.eq_of_beq_eq_true e; omega
      have q1' : r29l1 (1000 + x5.length + x4.length + x3.length + x2.length + 0 + x6.length) x0 x1 0 x6 [] x2 x3 x4 x5 = (0, gains x0 x1 x6 x4 x5 x2.length) := by
        refine Eq.trans q1 ?_
        rw [z]; rfl
      have q2' : r20l1 (1000 + x5.length + x4.length + x3.length + x2.length + 0 + x6.length) x0 x1 ((x6.length : Nat) : Int) 0 x6 [] x2 x3 x4 x5 = (0, gains x0 x1 x6 x4 x5 x2.length) := by
        rw [hg]
        rw [hg] at q2
        refine Eq.trans q2 ?_
        rw [z]; rfl
      have hlg := gains_len x0 x1 x6 x4 x5 x2.length
      have hfin : r70b (gains x0 x1 x6 x4 x5 x2.length) = (0, true) := fin_all (by omega) (fun i hi => by
        have hi' : i < x2.length := by omega
        have e : fc (gains x0 x1 x6 x4 x5 x2.length) i 0 = gain x0 x1 x6 x4 x5 i := by
          have e' : (gains x0 x1 x6 x4 x5 x2.length).getD i [] = [((gain x0 x1 x6 x4 x5 i : Nat) : Int)] := by unfold gains; simp [List.getD_eq_getElem?_getD, hi']
          show Int.toNat (((gains x0 x1 x6 x4 x5 x2.length).getD i []).getD 0 0) = _
          rw [e']; rfl
        rw [e]
        exact gain_fi ok hg k4 k5 k6 (out_le (has32 h0) ho) (sun_le (has32 h1) hs1 hs2) (allN_true.1 hall) hi')
      rw [q1', q2']
      dsimp only
      rw [hfin]
      exact .inr ⟨_, by omega, rfl, rfl⟩
  have hself6 := self31 hl6
  rcases key with ⟨c, d1, d2⟩ | ⟨l, hl, d1, d2⟩
  · have e31 : r31 ([] : List (List Int)) = true := rfl
    simp only [d1, d2, hs, m1, m2, hself6, bne_self_eq_false]
    rw [decide_eq_false (show ¬ mTop x2 x3 x4 x5 + 1 * (x6.length : Int) < 0 by omega)]
    first | rfl | (rw [e31]; rfl)
  · have n1 := mk33 (k := 1) hl (by omega) (by omega)
    have n2 := hd34 (k := 1) hl (by omega) (by omega)
    have hself := self31 hl
    simp only [d1, d2, hs, m1, m2, n1, n2, hself6, hself, bne_self_eq_false]
    rw [decide_eq_false (show ¬ mTop x2 x3 x4 x5 + 1 * (x6.length : Int) < 0 by omega), decide_eq_false (show ¬ 1 + 1 * (l.length : Int) < 0 by omega)]
    rfl
end Go.Proofs.Ytfnfapmncibjfaa
