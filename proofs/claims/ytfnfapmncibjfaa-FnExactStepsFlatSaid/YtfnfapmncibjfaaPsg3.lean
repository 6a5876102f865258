/- A step of a flat: both ways of doing it. -/
import Derived.Test.YtfnfapmncibjfaaPsg2
namespace Go.Proofs.Ytfnfapmncibjfaa
open Go.Ab

/-! ### where things stand -/
theorem sides_ok {a b : Int} {n : Nat} (hn : n ≤ 1048576) (h : r125 a b (n : Int) = true) : (0 ≤ a ∧ a < n) ∧ (-1 ≤ b ∧ b < n) := by
  rw [sides_eq a b hn] at h
  unfold r114 at h
  by_cases h1 : a ≥ 0
  · rw [decide_eq_true h1, cond_true] at h
    by_cases h2 : a < (n : Int)
    · rw [decide_eq_true h2, cond_true] at h
      by_cases h3 : b ≥ -1
      · rw [decide_eq_true h3, cond_true] at h
        by_cases h4 : b < (n : Int)
        · exact ⟨⟨h1, h2⟩, h3, h4⟩
        · rw [decide_eq_false h4] at h; cases h
      · rw [decide_eq_false h3] at h; cases h
    · rw [decide_eq_false h2] at h; cases h
  · rw [decide_eq_false h1] at h; cases h
theorem wall_ix {h s w p : List (List Int)} (ok : FlatOk h s w p) {i : Nat} (hi : i < w.length) : (0 ≤ ic w i 0 ∧ ic w i 0 < h.length) ∧ (-1 ≤ ic w i 1 ∧ ic w i 1 < h.length) := by
  have := ok.walls i hi
  unfold pW at this
  simp only [Bool.and_eq_true] at this
  exact sides_ok (by have := ok.n5; omega) this.2.2.2.2.1
theorem pane_ix {h s w p : List (List Int)} (ok : FlatOk h s w p) {i : Nat} (hi : i < p.length) : (0 ≤ ic p i 0 ∧ ic p i 0 < h.length) ∧ (-1 ≤ ic p i 1 ∧ ic p i 1 < h.length) := by
  have := ok.panes i hi
  unfold pP at this
  simp only [Bool.and_eq_true] at this
  exact sides_ok (by have := ok.n5; omega) this.1
/-! ### the flows -/
noncomputable def wA (h w : List (List Int)) (i : Nat) (o : List (List Int)) : List (List Int) :=
  o.set (ic w i 0).toNat [((fadd .f32 (fc o (ic w i 0).toNat 0) (fmul .f32 (fmul .f32 1073741824 (fc w i 2)) (fsub .f32 (fc w i 4) (fc h (ic w i 0).toNat 0))) : Nat) : Int)]
noncomputable def wF (h w : List (List Int)) (i : Nat) (o : List (List Int)) : List (List Int) :=
  cond (decide (0 ≤ ic w i 1)) ((wA h w i o).set (ic w i 1).toNat [((fadd .f32 (fc (wA h w i o) (ic w i 1).toNat 0) (fmul .f32 (fmul .f32 1073741824 (fc w i 2)) (fsub .f32 (fc w i 7) (fc h (ic w i 1).toNat 0))) : Nat) : Int)]) (wA h w i o)
noncomputable def bnd (a : Nat) (h : List (List Int)) (x : Int) : Nat := cond (decide (0 ≤ x)) (fc h x.toNat 0) a
noncomputable def pA (a b : Nat) (h p : List (List Int)) (i : Nat) (o : List (List Int)) : List (List Int) :=
  o.set (ic p i 0).toNat [((fadd .f32 (fadd .f32 (fc o (ic p i 0).toNat 0) (fmul .f32 (fc p i 2) (fsub .f32 (bnd a h (ic p i 1)) (fc h (ic p i 0).toNat 0)))) (fmul .f32 (fc p i 3) b) : Nat) : Int)]
noncomputable def pF (a b : Nat) (h p : List (List Int)) (i : Nat) (o : List (List Int)) : List (List Int) :=
  cond (decide (0 ≤ ic p i 1)) ((pA a b h p i o).set (ic p i 1).toNat [((fadd .f32 (fc (pA a b h p i o) (ic p i 1).toNat 0) (fmul .f32 (fc p i 2) (fsub .f32 (fc h (ic p i 0).toNat 0) (bnd a h (ic p i 1)))) : Nat) : Int)]) (pA a b h p i o)
theorem wA_len (h w : List (List Int)) (i : Nat) (o : List (List Int)) : (wA h w i o).length = o.length := by unfold wA; rw [List.length_set]
theorem wF_len (h w : List (List Int)) (i : Nat) (o : List (List Int)) : (wF h w i o).length = o.length := by
  unfold wF; cases decide (0 ≤ ic w i 1) <;> simp [wA_len]
theorem pA_len (a b : Nat) (h p : List (List Int)) (i : Nat) (o : List (List Int)) : (pA a b h p i o).length = o.length := by unfold pA; rw [List.length_set]
theorem pF_len (a b : Nat) (h p : List (List Int)) (i : Nat) (o : List (List Int)) : (pF a b h p i o).length = o.length := by
  unfold pF; cases decide (0 ≤ ic p i 1) <;> simp [pA_len]
theorem bndS {a : Nat} {h : List (List Int)} {x : Int} (h1 : -1 ≤ x) (h2 : x < h.length) : r60 x a h = (0, bnd a h x) := by
  unfold r60 bnd
  by_cases hx : 0 ≤ x
  · rw [decide_eq_false (show ¬ x < 0 by omega), decide_eq_true hx, blt_t (show x.toNat < h.length by omega)]; rfl
  · rw [decide_eq_true (show x < 0 by omega), decide_eq_false hx]; rfl
theorem bndI {a : Nat} {h : List (List Int)} {x : Int} (h1 : -1 ≤ x) (h2 : x < h.length) : r69 x a h = (0, bnd a h x) := by
  unfold r69 bnd
  by_cases hx : 0 ≤ x
  · rw [show (x == -1) = false from by rw [beq_eq_false_iff_ne]; omega, decide_eq_true hx, blt_t (show x.toNat < h.length by omega)]; rfl
  · rw [show (x == -1) = true from by rw [beq_iff_eq]; omega, decide_eq_false hx]; rfl
theorem ne1 {x : Int} (h1 : -1 ≤ x) : (x != -1) = decide (0 ≤ x) := by
  by_cases hx : 0 ≤ x
  · rw [decide_eq_true hx, bne_iff_ne]; omega
  · rw [decide_eq_false hx, show x = -1 by omega]; rfl
theorem eq1 {x : Int} (h1 : -1 ≤ x) : (x == -1) = decide (x < 0) := by
  by_cases hx : x < 0
  · rw [decide_eq_true hx, beq_iff_eq]; omega
  · rw [decide_eq_false hx, beq_eq_false_iff_ne]; omega
theorem set_get {o : List (List Int)} {j : Nat} (h : j < o.length) (x : Int) : ((o.set j [x]).getD j []).getD 0 0 = x := by
  have : (o.set j [x]).getD j [] = [x] := by simp [List.getD, h]
  rw [this]; rfl
section
variable {h s w p : List (List Int)} (ok : FlatOk h s w p) (a b : Nat)
include ok
theorem flow1S {fuel : Nat} {o : List (List Int)} (hf : w.length < fuel) (ho : o.length = h.length) : r98l0 fuel a b 0 o h s w p = (0, foldN (wF h w) w.length 0 o) := by
  have hw := ok.w
  refine fold_loop (n := w.length) (step := wF h w) (mk := fun o => (0, o)) (G := fun m o i => r98l0 m a b i o h s w p) (fun _ o => o.length = h.length) ?_ ?_ ?_ hf ho
  · intro m o _
    show b98l0 (r98l0 m) _ _ _ _ _ _ _ _ = _
    unfold b98l0
    rw [dlt_f (Nat.lt_irrefl _)]; rfl
  · intro m i o hi ho
    obtain ⟨⟨q1, q2⟩, q3, q4⟩ := wall_ix ok hi
    show b98l0 (r98l0 m) _ _ _ _ _ _ _ _ = _
    unfold b98l0
    simp only [List.length_set, Int.toNat_natCast]
    rw [dlt_t hi, dle0, blt_t hi, decide_eq_true q1, blt_t (show (ic w i 0).toNat < o.length by omega), blt_t (show (ic w i 0).toNat < h.length by omega), wrap_succ (by omega)]
    by_cases hB : 0 ≤ ic w i 1
    · have e : wF h w i o = (wA h w i o).set (ic w i 1).toNat [((fadd .f32 (fc (wA h w i o) (ic w i 1).toNat 0) (fmul .f32 (fmul .f32 1073741824 (fc w i 2)) (fsub .f32 (fc w i 7) (fc h (ic w i 1).toNat 0))) : Nat) : Int)] := by unfold wF; rw [decide_eq_true hB]; rfl
      rw [e, show decide ((w.getD i []).getD 1 0 ≥ 0) = true from decide_eq_true hB, blt_t (show (ic w i 1).toNat < o.length by omega), blt_t (show (ic w i 1).toNat < h.length by omega)]
      rfl
    · have e : wF h w i o = wA h w i o := by unfold wF; rw [decide_eq_false hB]; rfl
      rw [e, show decide ((w.getD i []).getD 1 0 ≥ 0) = false from decide_eq_false hB]
      rfl
  · intro i o _ ho
    rw [wF_len]; exact ho
theorem flow2S {fuel : Nat} {o : List (List Int)} (hf : p.length < fuel) (ho : o.length = h.length) : r98l1 fuel a b 0 o h s w p = (0, foldN (pF a b h p) p.length 0 o) := by
  have hp := ok.p
  refine fold_loop (n := p.length) (step := pF a b h p) (mk := fun o => (0, o)) (G := fun m o i => r98l1 m a b i o h s w p) (fun _ o => o.length = h.length) ?_ ?_ ?_ hf ho
  · intro m o _
    show b98l1 (r98l1 m) _ _ _ _ _ _ _ _ = _
    unfold b98l1
    rw [dlt_f (Nat.lt_irrefl _)]; rfl
  · intro m i o hi ho
    obtain ⟨⟨q1, q2⟩, q3, q4⟩ := pane_ix ok hi
    show b98l1 (r98l1 m) _ _ _ _ _ _ _ _ = _
    unfold b98l1
    simp only [List.length_set, Int.toNat_natCast]
    rw [dlt_t hi, dle0, blt_t hi, bndS q3 q4, decide_eq_true q1, blt_t (show (ic p i 0).toNat < o.length by omega), blt_t (show (ic p i 0).toNat < h.length by omega), wrap_succ (by omega)]
    by_cases hB : 0 ≤ ic p i 1
    · have e : pF a b h p i o = (pA a b h p i o).set (ic p i 1).toNat [((fadd .f32 (fc (pA a b h p i o) (ic p i 1).toNat 0) (fmul .f32 (fc p i 2) (fsub .f32 (fc h (ic p i 0).toNat 0) (bnd a h (ic p i 1)))) : Nat) : Int)] := by unfold pF; rw [decide_eq_true hB]; rfl
      rw [e, show decide ((p.getD i []).getD 1 0 ≥ 0) = true from decide_eq_true hB, blt_t (show (ic p i 1).toNat < o.length by omega)]
      rfl
    · have e : pF a b h p i o = pA a b h p i o := by unfold pF; rw [decide_eq_false hB]; rfl
      rw [e, show decide ((p.getD i []).getD 1 0 ≥ 0) = false from decide_eq_false hB]
      rfl
  · intro i o _ ho
    rw [pF_len]; exact ho
theorem flow1I {fuel : Nat} {o : List (List Int)} (hf : w.length < fuel) (ho : o.length = h.length) : r97l0 fuel a b ((w.length : Nat) : Int) 0 o w h s p = (0, foldN (wF h w) w.length 0 o) := by
  have hw := ok.w
  refine fold_loop (n := w.length) (step := wF h w) (mk := fun o => (0, o)) (G := fun m o i => r97l0 m a b ((w.length : Nat) : Int) i o w h s p) (fun _ o => o.length = h.length) ?_ ?_ ?_ hf ho
  · intro m o _
    show b97l0 (r97l0 m) _ _ _ _ _ _ _ _ _ = _
    unfold b97l0
    rw [dlt_f (Nat.lt_irrefl _)]; rfl
  · intro m i o hi ho
    obtain ⟨⟨q1, q2⟩, q3, q4⟩ := wall_ix ok hi
    show b97l0 (r97l0 m) _ _ _ _ _ _ _ _ _ = _
    unfold b97l0
    simp only [List.length_set, Int.toNat_natCast]
    rw [dlt_t hi, dle0, blt_t hi, decide_eq_true q1, blt_t (show (ic w i 0).toNat < o.length by omega), blt_t (show (ic w i 0).toNat < h.length by omega), wrap_succ (by omega), ne1 q3]
    by_cases hB : 0 ≤ ic w i 1
    · have e : wF h w i o = (wA h w i o).set (ic w i 1).toNat [((fadd .f32 (fc (wA h w i o) (ic w i 1).toNat 0) (fmul .f32 (fmul .f32 1073741824 (fc w i 2)) (fsub .f32 (fc w i 7) (fc h (ic w i 1).toNat 0))) : Nat) : Int)] := by unfold wF; rw [decide_eq_true hB]; rfl
      rw [e, decide_eq_true hB, blt_t (show (ic w i 1).toNat < o.length by omega), blt_t (show (ic w i 1).toNat < h.length by omega)]
      rfl
    · have e : wF h w i o = wA h w i o := by unfold wF; rw [decide_eq_false hB]; rfl
      rw [e, decide_eq_false hB]
      rfl
  · intro i o _ ho
    rw [wF_len]; exact ho
theorem flow2I {fuel : Nat} {o : List (List Int)} (hf : p.length < fuel) (ho : o.length = h.length) : r97l1 fuel a b ((p.length : Nat) : Int) 0 o p h s w = (0, foldN (pF a b h p) p.length 0 o) := by
  have hp := ok.p
  refine fold_loop (n := p.length) (step := pF a b h p) (mk := fun o => (0, o)) (G := fun m o i => r97l1 m a b ((p.length : Nat) : Int) i o p h s w) (fun _ o => o.length = h.length) ?_ ?_ ?_ hf ho
  · intro m o _
    show b97l1 (r97l1 m) _ _ _ _ _ _ _ _ _ = _
    unfold b97l1
    rw [dlt_f (Nat.lt_irrefl _)]; rfl
  · intro m i o hi ho
    obtain ⟨⟨q1, q2⟩, q3, q4⟩ := pane_ix ok hi
    show b97l1 (r97l1 m) _ _ _ _ _ _ _ _ _ = _
    unfold b97l1
    simp only [List.length_set, Int.toNat_natCast]
    rw [dlt_t hi, dle0, blt_t hi, bndI q3 q4, decide_eq_true q1, blt_t (show (ic p i 0).toNat < o.length by omega), blt_t (show (ic p i 0).toNat < h.length by omega), wrap_succ (by omega), ne1 q3]
    simp only [List.set_set, set_get (show (ic p i 0).toNat < o.length by omega), Int.toNat_natCast]
    by_cases hB : 0 ≤ ic p i 1
    · have e : pF a b h p i o = (pA a b h p i o).set (ic p i 1).toNat [((fadd .f32 (fc (pA a b h p i o) (ic p i 1).toNat 0) (fmul .f32 (fc p i 2) (fsub .f32 (fc h (ic p i 0).toNat 0) (bnd a h (ic p i 1)))) : Nat) : Int)] := by unfold pF; rw [decide_eq_true hB]; rfl
      rw [e, decide_eq_true hB, blt_t (show (ic p i 1).toNat < o.length by omega)]
      rfl
    · have e : pF a b h p i o = pA a b h p i o := by unfold pF; rw [decide_eq_false hB]; rfl
      rw [e, decide_eq_false hB]
      rfl
  · intro i o _ ho
    rw [pF_len]; exact ho
end
theorem foldN_len {step : Nat → List (List Int) → List (List Int)} (hs : ∀ i o, (step i o).length = o.length) : ∀ (k i : Nat) (o : List (List Int)), (foldN step k i o).length = o.length
  | 0, _, _ => rfl
  | k + 1, i, o => by rw [foldN, foldN_len hs k, hs]
/-- the flows of a flat -/
noncomputable def flows (a b : Nat) (h w p : List (List Int)) : List (List Int) := foldN (pF a b h p) p.length 0 (foldN (wF h w) w.length 0 (List.replicate h.length [0]))
theorem flows_len (a b : Nat) (h w p : List (List Int)) : (flows a b h w p).length = h.length := by
  unfold flows
  rw [foldN_len (pF_len a b h p), foldN_len (wF_len h w), List.length_replicate]
theorem flowsS {h s w p : List (List Int)} (ok : FlatOk h s w p) (a b : Nat) : r98 a b h s w p = (0, flows a b h w p) := by
  have hn := ok.n5
  have hw := ok.w
  have hp := ok.p
  unfold r98
  rw [flow1S ok a b (o := List.replicate h.length [0]) (by omega) (by simp), show decide ((0 : Int) ≤ ((h.length : Nat) : Int)) = true from dle0 _, show decide ((((h.length : Nat) : Int) : Int) ≤ ((h.length : Nat) : Int)) = true by simp, show decide (((4 : Nat) : Int) * ((h.length : Nat) : Int) ≤ 281474976710656) = true from decide_eq_true (by omega), show decide (((h.length : Nat) : Int) ≤ 9223372036854775807) = true from decide_eq_true (by omega)]
  dsimp only
  rw [flow2S ok a b (by omega) (by rw [foldN_len (wF_len h w), List.length_replicate])]
  rfl
theorem flowsI {h s w p : List (List Int)} (ok : FlatOk h s w p) (a b : Nat) : r97 a b h s w p = (0, flows a b h w p) := by
  have hn := ok.n5
  have hw := ok.w
  have hp := ok.p
  unfold r97
  rw [flow1I ok a b (o := List.replicate h.length [0]) (by omega) (by simp), show decide ((0 : Int) ≤ ((h.length : Nat) : Int)) = true from dle0 _, show decide ((((h.length : Nat) : Int) : Int) ≤ ((h.length : Nat) : Int)) = true by simp, show decide (((4 : Nat) : Int) * ((h.length : Nat) : Int) ≤ 281474976710656) = true from decide_eq_true (by omega), show decide (((h.length : Nat) : Int) ≤ 9223372036854775807) = true from decide_eq_true (by omega)]
  dsimp only
  rw [flow2I ok a b (by omega) (by rw [foldN_len (wF_len h w), List.length_replicate])]
  rfl
/-! ### the loss -/
noncomputable def l1F (a : Nat) (w : List (List Int)) (i : Nat) (s : Nat) : Nat := cond (decide (ic w i 1 < 0)) (fadd .f32 s (fmul .f32 (fmul .f32 1073741824 (fc w i 2)) (fsub .f32 (fc w i 7) a))) s
noncomputable def l2F (a : Nat) (h p : List (List Int)) (i : Nat) (s : Nat) : Nat := cond (decide (ic p i 1 < 0)) (fadd .f32 s (fmul .f32 (fc p i 2) (fsub .f32 (fc h (ic p i 0).toNat 0) a))) s
noncomputable def loss (a : Nat) (h w p : List (List Int)) : Nat := foldN (l2F a h p) p.length 0 (foldN (l1F a w) w.length 0 0)
section
variable {h s w p : List (List Int)} (ok : FlatOk h s w p) (a : Nat)
include ok
theorem loss1S {fuel : Nat} (x : Nat) (hf : w.length < fuel) : r124l0 fuel a x 0 h s w p = (0, foldN (l1F a w) w.length 0 x) := by
  have hw := ok.w
  refine fold_loop (n := w.length) (step := l1F a w) (mk := fun o => (0, o)) (G := fun m o i => r124l0 m a o i h s w p) (fun _ _ => True) ?_ ?_ (fun _ _ _ _ => trivial) hf trivial
  · intro m o _
    show b124l0 (r124l0 m) _ _ _ _ _ _ _ = _
    unfold b124l0
    rw [dlt_f (Nat.lt_irrefl _)]; rfl
  · intro m i o hi _
    show b124l0 (r124l0 m) _ _ _ _ _ _ _ = _
    unfold b124l0 l1F
    rw [dlt_t hi, dle0, Int.toNat_natCast, blt_t hi, wrap_succ (by omega)]
    cases decide (ic w i 1 < 0) <;> rfl
theorem loss2S {fuel : Nat} (x : Nat) (hf : p.length < fuel) : r124l1 fuel a x 0 h s w p = (0, foldN (l2F a h p) p.length 0 x) := by
  have hp := ok.p
  refine fold_loop (n := p.length) (step := l2F a h p) (mk := fun o => (0, o)) (G := fun m o i => r124l1 m a o i h s w p) (fun _ _ => True) ?_ ?_ (fun _ _ _ _ => trivial) hf trivial
  · intro m o _
    show b124l1 (r124l1 m) _ _ _ _ _ _ _ = _
    unfold b124l1
    rw [dlt_f (Nat.lt_irrefl _)]; rfl
  · intro m i o hi _
    obtain ⟨⟨q1, q2⟩, q3, q4⟩ := pane_ix ok hi
    show b124l1 (r124l1 m) _ _ _ _ _ _ _ = _
    unfold b124l1 l2F
    rw [dlt_t hi, dle0, Int.toNat_natCast, blt_t hi, wrap_succ (by omega), decide_eq_true q1, blt_t (show (ic p i 0).toNat < h.length by omega)]
    cases decide (ic p i 1 < 0) <;> rfl
theorem loss1I {fuel : Nat} (x : Nat) (hf : w.length < fuel) : r112l0 fuel a x ((w.length : Nat) : Int) 0 w h s p = (0, foldN (l1F a w) w.length 0 x) := by
  have hw := ok.w
  refine fold_loop (n := w.length) (step := l1F a w) (mk := fun o => (0, o)) (G := fun m o i => r112l0 m a o ((w.length : Nat) : Int) i w h s p) (fun _ _ => True) ?_ ?_ (fun _ _ _ _ => trivial) hf trivial
  · intro m o _
    show b112l0 (r112l0 m) _ _ _ _ _ _ _ _ = _
    unfold b112l0
    rw [dlt_f (Nat.lt_irrefl _)]; rfl
  · intro m i o hi _
    obtain ⟨⟨q1, q2⟩, q3, q4⟩ := wall_ix ok hi
    show b112l0 (r112l0 m) _ _ _ _ _ _ _ _ = _
    unfold b112l0 l1F
    rw [dlt_t hi, dle0, Int.toNat_natCast, blt_t hi, wrap_succ (by omega), eq1 q3]
    cases decide (ic w i 1 < 0) <;> rfl
theorem loss2I {fuel : Nat} (x : Nat) (hf : p.length < fuel) : r112l1 fuel a x ((p.length : Nat) : Int) 0 p h s w = (0, foldN (l2F a h p) p.length 0 x) := by
  have hp := ok.p
  refine fold_loop (n := p.length) (step := l2F a h p) (mk := fun o => (0, o)) (G := fun m o i => r112l1 m a o ((p.length : Nat) : Int) i p h s w) (fun _ _ => True) ?_ ?_ (fun _ _ _ _ => trivial) hf trivial
  · intro m o _
    show b112l1 (r112l1 m) _ _ _ _ _ _ _ _ = _
    unfold b112l1
    rw [dlt_f (Nat.lt_irrefl _)]; rfl
  · intro m i o hi _
    obtain ⟨⟨q1, q2⟩, q3, q4⟩ := pane_ix ok hi
    show b112l1 (r112l1 m) _ _ _ _ _ _ _ _ = _
    unfold b112l1 l2F
    rw [dlt_t hi, dle0, Int.toNat_natCast, blt_t hi, wrap_succ (by omega), eq1 q3, decide_eq_true q1, blt_t (show (ic p i 0).toNat < h.length by omega)]
    cases decide (ic p i 1 < 0) <;> rfl
theorem lossS : r124 a h s w p = (0, loss a h w p) := by
  have hw := ok.w
  have hp := ok.p
  unfold r124
  rw [loss1S ok a 0 (by omega)]
  dsimp only
  rw [loss2S ok a _ (by omega)]; rfl
theorem lossI : r112 a h s w p = (0, loss a h w p) := by
  have hw := ok.w
  have hp := ok.p
  unfold r112
  rw [loss1I ok a 0 (by omega)]
  dsimp only
  rw [loss2I ok a _ (by omega)]; rfl
end
end Go.Proofs.Ytfnfapmncibjfaa
