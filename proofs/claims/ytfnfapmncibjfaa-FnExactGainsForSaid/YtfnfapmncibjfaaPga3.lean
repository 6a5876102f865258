/- The gains of a flat: both ways. -/
import Derived.Test.YtfnfapmncibjfaaPga2
namespace Go.Proofs.Ytfnfapmncibjfaa
open Go.Ab

/-! ### where things stand -/
theorem sides_ok {a b : Int} {n : Nat} (hn : n ≤ 1048576) (h : r125 a b (n : Int) = true) : (0 ≤ a ∧ a < n) ∧ (-1 ≤ b ∧ b < n) := by
  rw [sides_eq a b hn] at h
  unfold r114 at h
  by_cases h1 : a ≥ 0
  · rw [decide_eq_true h1, cond_true] at h
    by_cases h2 : a < (n : Int)
    · rw [decide_eq_true h2, cond_true] at h
      by_cases h3 : b ≥ -1
      · rw [decide_eq_true h3, cond_true] at h
        by_cases h4 : b < (n : Int)
        · exact ⟨⟨h1, h2⟩, h3, h4⟩
        · rw [decide_eq_false h4] at h; cases h
      · rw [decide_eq_false h3] at h; cases h
    · rw [decide_eq_false h2] at h; cases h
  · rw [decide_eq_false h1] at h; cases h
theorem wall_ix {h s w p : List (List Int)} (ok : FlatOk h s w p) {i : Nat} (hi : i < w.length) : (0 ≤ ic w i 0 ∧ ic w i 0 < h.length) ∧ (-1 ≤ ic w i 1 ∧ ic w i 1 < h.length) := by
  have := ok.walls i hi
  unfold pW at this
  simp only [Bool.and_eq_true] at this
  exact sides_ok (by have := ok.n5; omega) this.2.2.2.2.1
theorem pane_ix {h s w p : List (List Int)} (ok : FlatOk h s w p) {i : Nat} (hi : i < p.length) : (0 ≤ ic p i 0 ∧ ic p i 0 < h.length) ∧ (-1 ≤ ic p i 1 ∧ ic p i 1 < h.length) := by
  have := ok.panes i hi
  unfold pP at this
  simp only [Bool.and_eq_true] at this
  exact sides_ok (by have := ok.n5; omega) this.1
noncomputable def bnd (a : Nat) (h : List (List Int)) (x : Int) : Nat := cond (decide (0 ≤ x)) (fc h x.toNat 0) a
theorem bndS {a : Nat} {h : List (List Int)} {x : Int} (h1 : -1 ≤ x) (h2 : x < h.length) : r60 x a h = (0, bnd a h x) := by
  unfold r60 bnd
  by_cases hx : 0 ≤ x
  · rw [decide_eq_false (show ¬ x < 0 by omega), decide_eq_true hx, blt_t (show x.toNat < h.length by omega)]; rfl
  · rw [decide_eq_true (show x < 0 by omega), decide_eq_false hx]; rfl
theorem bndI {a : Nat} {h : List (List Int)} {x : Int} (h1 : -1 ≤ x) (h2 : x < h.length) : r69 x a h = (0, bnd a h x) := by
  unfold r69 bnd
  by_cases hx : 0 ≤ x
  · rw [show (x == -1) = false from by rw [beq_eq_false_iff_ne]; omega, decide_eq_true hx, blt_t (show x.toNat < h.length by omega)]; rfl
  · rw [show (x == -1) = true from by rw [beq_iff_eq]; omega, decide_eq_false hx]; rfl

/-! ### how great a sum can be -/
theorem rval_double {r : Nat} (h : 8388608 ≤ r) : rval F32 (r + 8388608) = 2 * rval F32 r := by
  have hb : F32.binade = 8388608 := by decide +kernel
  unfold rval
  rw [hb, if_neg (by omega), if_neg (by omega)]
  have e1 : (r + 8388608) % 8388608 = r % 8388608 := by omega
  have e2 : (r + 8388608) / 8388608 - 1 = (r / 8388608 - 1) + 1 := by omega
  rw [e1, e2, Nat.pow_succ]
  generalize 2 ^ (r / 8388608 - 1) = q
  rw [← Nat.mul_assoc, Nat.mul_comm]
def Bd (k : Nat) : Nat := 1199570944 + k * 8388608
theorem Bd_mono (k : Nat) : rval F32 (Bd 0) ≤ rval F32 (Bd k) := by
  rcases Nat.eq_or_lt_of_le (show Bd 0 ≤ Bd k by unfold Bd; omega) with h | h
  · rw [h]; exact Nat.le_refl _
  · exact Nat.le_of_lt (rval_lt _ h)
theorem Bd_succ (k : Nat) : rval F32 (Bd k) + rval F32 (Bd 0) ≤ rval F32 (Bd (k + 1)) := by
  have e : Bd (k + 1) = Bd k + 8388608 := by unfold Bd; omega
  rw [e, rval_double (by unfold Bd; omega)]
  have := Bd_mono k
  omega
theorem Bd_add {x y k : Nat} (hx : Le x (Bd k)) (hy : Le y 1199570944) (hk : k ≤ 100) : Le (fadd .f32 x y) (Bd (k + 1)) :=
  sum_le hx hy (by unfold Bd; omega) (by omega) (by unfold Bd; omega) (Bd_succ k)
theorem Bd_sub {x y k : Nat} (hx : Le x (Bd k)) (hy : Le y 1199570944) (hk : k ≤ 100) : Le (fsub .f32 x y) (Bd (k + 1)) :=
  diff_le hx hy (by unfold Bd; omega) (by omega) (by unfold Bd; omega) (Bd_succ k)
theorem Bd_le {x k j : Nat} (hx : Le x (Bd k)) (h : k ≤ j) : Le x (Bd j) := hx.mono (by unfold Bd; omega)
theorem foldN_bd {c : Nat} {step : Nat → Nat → Nat} {n : Nat} (hs : ∀ i x k, i < n → k + c ≤ 90 → Le x (Bd k) → Le (step i x) (Bd (k + c))) : ∀ (m i x k : Nat), i + m = n → k + c * m ≤ 90 → Le x (Bd k) → Le (foldN step m i x) (Bd (k + c * m))
  | 0, _, _, _, _, _, h => h
  | m + 1, i, x, k, h, hk, hx => by
    rw [Nat.mul_succ] at hk ⊢
    have g := foldN_bd hs m (i + 1) (step i x) (k + c) (by omega) (by omega) (hs i x k (by omega) (by omega) hx)
    rw [foldN]
    rwa [show k + (c * m + c) = k + c + c * m by omega]
theorem lead_le {d : Nat} (hd : d < 4294967296) (h : r88 d = true) (h' : (flt .f32 d 1120403456 || feq .f32 d 1120403456) = true) : d ≤ 1120403456 := by
  rw [(amount_eq d hd).2, decide_eq_true_eq] at h
  rw [flt_pos (by omega) (by omega), feq_of (by unfold Nn; omega) (by unfold Nn; omega) hd (by omega), if_neg (by omega), if_neg (by omega), Bool.or_eq_true, decide_eq_true_eq, decide_eq_true_eq] at h'
  omega
theorem sun_le {d : Nat} (hd : d < 4294967296) (h : r88 d = true) (h' : (flt .f32 d 1092616192 || feq .f32 d 1092616192) = true) : d ≤ 1092616192 := by
  rw [(amount_eq d hd).2, decide_eq_true_eq] at h
  rw [flt_pos (by omega) (by omega), feq_of (by unfold Nn; omega) (by unfold Nn; omega) hd (by omega), if_neg (by omega), if_neg (by omega), Bool.or_eq_true, decide_eq_true_eq, decide_eq_true_eq] at h'
  omega
theorem out_le {h : Nat} (hd : h < 4294967296) (e : r122 h = true) : Le h 1128792064 := by
  unfold r122 at e
  cases hn : isN .f32 h with
  | true => rw [fgt_nan_l hn, feq_nan_l hn] at e; cases e
  | false =>
    have hN := nn_isN.1 hn
    rw [fgt_flt, flt_of (by unfold Nn; omega) hN (by omega) hd, feq_of hN (by unfold Nn; omega) hd (by omega), flt_of hN (by unfold Nn; omega) hd (by omega), feq_of hN (by unfold Nn; omega) hd (by omega)] at e
    unfold Nn at hN
    unfold Le
    by_cases h1 : 2147483648 ≤ h
    · simp only [if_pos h1, if_pos (show 2147483648 ≤ 3262119936 by omega), if_neg (show ¬ 2147483648 ≤ 1114636288 by omega)] at e
      by_cases h2 : (2147483648 - ((3262119936 : Nat) : Int) < 2147483648 - (h : Int)) ∨ (2147483648 - (h : Int) = 2147483648 - ((3262119936 : Nat) : Int))
      · omega
      · rw [decide_eq_false (fun g => h2 (.inl g)), decide_eq_false (fun g => h2 (.inr g))] at e; cases e
    · simp only [if_neg h1, if_pos (show 2147483648 ≤ 3262119936 by omega), if_neg (show ¬ 2147483648 ≤ 1114636288 by omega)] at e
      by_cases h2 : ((h : Int) < ((1114636288 : Nat) : Int)) ∨ ((h : Int) = ((1114636288 : Nat) : Int))
      · omega
      · rw [decide_eq_false (fun g => h2 (.inl g)), decide_eq_false (fun g => h2 (.inr g)), decide_eq_true (show 2147483648 - ((3262119936 : Nat) : Int) < (h : Int) by omega)] at e
        cases e
/-! ### the gain of a room -/
noncomputable def gW (a : Nat) (g w : List (List Int)) (i k : Nat) (x : Nat) : Nat :=
  cond (ic w k 0 == (i : Int)) (fadd .f32 x (fmul .f32 (fmul .f32 1048576000 (fc w k 2)) (fsub .f32 (fc g i 0) (bnd a g (ic w k 1)))))
   (cond (ic w k 1 == (i : Int)) (fadd .f32 x (fmul .f32 (fmul .f32 1048576000 (fc w k 2)) (fsub .f32 (fc g i 0) (bnd a g (ic w k 0))))) x)
noncomputable def gP (a b : Nat) (g p : List (List Int)) (i k : Nat) (x : Nat) : Nat :=
  cond (ic p k 0 == (i : Int)) (fsub .f32 (fadd .f32 x (fmul .f32 (fc p k 2) (fsub .f32 (fc g i 0) (bnd a g (ic p k 1))))) (fmul .f32 (fc p k 3) b))
   (cond (ic p k 1 == (i : Int)) (fadd .f32 x (fmul .f32 (fc p k 2) (fsub .f32 (fc g i 0) (bnd a g (ic p k 0))))) x)
noncomputable def gain (a b : Nat) (g w p : List (List Int)) (i : Nat) : Nat := foldN (gP a b g p i) p.length 0 (foldN (gW a g w i) w.length 0 0)
theorem bnd_in {a : Nat} {g : List (List Int)} {x : Int} (h : 0 ≤ x) : bnd a g x = fc g x.toNat 0 := by
  unfold bnd; rw [decide_eq_true h]; rfl
theorem sides_ne {a b : Int} {n : Nat} (h : r125 a b (n : Int) = true) : a ≠ b := by
  unfold r125 at h
  cases h1 : r87 a 0 (IntKind.i64.wrap ((n : Int) - 1)) with
  | false => rw [h1] at h; cases h
  | true =>
    cases h2 : r87 b (-1) (IntKind.i64.wrap ((n : Int) - 1)) with
    | false => rw [h1, h2] at h; cases h
    | true => rw [h1, h2] at h; exact bne_iff_ne.1 h
section
variable {h s w p g : List (List Int)} (ok : FlatOk h s w p) (hg : g.length = h.length) (a b : Nat)
theorem wall_ne (ok : FlatOk h s w p) {k : Nat} (hk : k < w.length) : ic w k 0 ≠ ic w k 1 := by
  have := ok.walls k hk
  unfold pW at this
  simp only [Bool.and_eq_true] at this
  exact sides_ne this.2.2.2.2.1
theorem pane_ne (ok : FlatOk h s w p) {k : Nat} (hk : k < p.length) : ic p k 0 ≠ ic p k 1 := by
  have := ok.panes k hk
  unfold pP at this
  simp only [Bool.and_eq_true] at this
  exact sides_ne this.1
include ok hg
theorem g1S {i : Nat} (hi : i < h.length) {e : List (List Int)} {fuel x : Nat} (hf : w.length < fuel) : r29l2 fuel a b (i : Int) x 0 g e h s w p = (0, foldN (gW a g w i) w.length 0 x) := by
  have hw := ok.w
  refine fold_loop (n := w.length) (step := gW a g w i) (mk := fun o => (0, o)) (G := fun m o k => r29l2 m a b (i : Int) o k g e h s w p) (fun _ _ => True) ?_ ?_ (fun _ _ _ _ => trivial) hf trivial
  · intro m o _
    show b29l2 (r29l2 m) _ _ _ _ _ _ _ _ _ _ _ = _
    unfold b29l2
    rw [dlt_f (Nat.lt_irrefl _)]; rfl
  · intro m k x hk _
    obtain ⟨⟨q1, q2⟩, q3, q4⟩ := wall_ix ok hk
    have hne := wall_ne ok hk
    show b29l2 (r29l2 m) _ _ _ _ _ _ _ _ _ _ _ = _
    unfold b29l2 gW
    simp only [Int.toNat_natCast]
    rw [dlt_t hk, dle0, dle0, blt_t hk, blt_t (show i < g.length by omega), wrap_succ (by omega), bndS q3 (by omega), decide_eq_true q1, blt_t (show (ic w k 0).toNat < g.length by omega), bnd_in q1]
    by_cases e1 : ic w k 0 = (i : Int)
    · rw [show (ic w k 0 == (i : Int)) = true from beq_iff_eq.2 e1, show (ic w k 1 == (i : Int)) = false from beq_eq_false_iff_ne.2 (fun e2 => hne (e1.trans e2.symm))]
      rfl
    · rw [show (ic w k 0 == (i : Int)) = false from beq_eq_false_iff_ne.2 e1]
      cases (ic w k 1 == (i : Int)) <;> rfl
theorem g2S {i : Nat} (hi : i < h.length) {e : List (List Int)} {fuel x : Nat} (hf : p.length < fuel) : r29l3 fuel a b (i : Int) x 0 g e h s w p = (0, foldN (gP a b g p i) p.length 0 x) := by
  have hp := ok.p
  refine fold_loop (n := p.length) (step := gP a b g p i) (mk := fun o => (0, o)) (G := fun m o k => r29l3 m a b (i : Int) o k g e h s w p) (fun _ _ => True) ?_ ?_ (fun _ _ _ _ => trivial) hf trivial
  · intro m o _
    show b29l3 (r29l3 m) _ _ _ _ _ _ _ _ _ _ _ = _
    unfold b29l3
    rw [dlt_f (Nat.lt_irrefl _)]; rfl
  · intro m k x hk _
    obtain ⟨⟨q1, q2⟩, q3, q4⟩ := pane_ix ok hk
    have hne := pane_ne ok hk
    show b29l3 (r29l3 m) _ _ _ _ _ _ _ _ _ _ _ = _
    unfold b29l3 gP
    simp only [Int.toNat_natCast]
    rw [dlt_t hk, dle0, dle0, blt_t hk, blt_t (show i < g.length by omega), wrap_succ (by omega), bndS q3 (by omega), decide_eq_true q1, blt_t (show (ic p k 0).toNat < g.length by omega), bnd_in q1]
    by_cases e1 : ic p k 0 = (i : Int)
    · rw [show (ic p k 0 == (i : Int)) = true from beq_iff_eq.2 e1, show (ic p k 1 == (i : Int)) = false from beq_eq_false_iff_ne.2 (fun e2 => hne (e1.trans e2.symm))]
      rfl
    · rw [show (ic p k 0 == (i : Int)) = false from beq_eq_false_iff_ne.2 e1]
      cases (ic p k 1 == (i : Int)) <;> rfl
theorem g1I {i : Nat} (hi : i < h.length) {c d : Int} {e : List (List Int)} {fuel x : Nat} (hf : w.length < fuel) : r20l2 fuel a b (fc g i 0) (i : Int) x c d ((w.length : Nat) : Int) 0 g e w h s p = (0, foldN (gW a g w i) w.length 0 x) := by
  have hw := ok.w
  have hn := ok.n5
  refine fold_loop (n := w.length) (step := gW a g w i) (mk := fun o => (0, o)) (G := fun m o k => r20l2 m a b (fc g i 0) (i : Int) o c d ((w.length : Nat) : Int) k g e w h s p) (fun _ _ => True) ?_ ?_ (fun _ _ _ _ => trivial) hf trivial
  · intro m o _
    show b20l2 (r20l2 m) _ _ _ _ _ _ _ _ _ _ _ _ _ _ _ = _
    unfold b20l2
    rw [dlt_f (Nat.lt_irrefl _)]; rfl
  · intro m k x hk _
    obtain ⟨⟨q1, q2⟩, q3, q4⟩ := wall_ix ok hk
    have hne := wall_ne ok hk
    have hwr : IntKind.i64.wrap (IntKind.i64.wrap (ic w k 0 + ic w k 1) - (i : Int)) = ic w k 0 + ic w k 1 - (i : Int) := by
      rw [wrap_i64 (n := ic w k 0 + ic w k 1) (by omega) (by omega), wrap_i64 (by omega) (by omega)]
    show b20l2 (r20l2 m) _ _ _ _ _ _ _ _ _ _ _ _ _ _ _ = _
    unfold b20l2 gW
    simp only [Int.toNat_natCast]
    rw [hwr, dlt_t hk, dle0, blt_t hk, wrap_succ (by omega)]
    by_cases e1 : ic w k 0 = (i : Int)
    · rw [show ic w k 0 + ic w k 1 - (i : Int) = ic w k 1 by omega, bndI q3 (by omega), show (ic w k 0 == (i : Int)) = true from beq_iff_eq.2 e1]
      rfl
    · rw [show (ic w k 0 == (i : Int)) = false from beq_eq_false_iff_ne.2 e1]
      by_cases e2 : ic w k 1 = (i : Int)
      · rw [show ic w k 0 + ic w k 1 - (i : Int) = ic w k 0 by omega, bndI (show -1 ≤ ic w k 0 by omega) (by omega), show (ic w k 1 == (i : Int)) = true from beq_iff_eq.2 e2]
        rfl
      · rw [show (ic w k 1 == (i : Int)) = false from beq_eq_false_iff_ne.2 e2]
        rfl
theorem g2I {i : Nat} (hi : i < h.length) {c d : Int} {e : List (List Int)} {fuel x : Nat} (hf : p.length < fuel) : r20l3 fuel a b (fc g i 0) (i : Int) x c d ((p.length : Nat) : Int) 0 g e p h s w = (0, foldN (gP a b g p i) p.length 0 x) := by
  have hp := ok.p
  have hn := ok.n5
  refine fold_loop (n := p.length) (step := gP a b g p i) (mk := fun o => (0, o)) (G := fun m o k => r20l3 m a b (fc g i 0) (i : Int) o c d ((p.length : Nat) : Int) k g e p h s w) (fun _ _ => True) ?_ ?_ (fun _ _ _ _ => trivial) hf trivial
  · intro m o _
    show b20l3 (r20l3 m) _ _ _ _ _ _ _ _ _ _ _ _ _ _ _ = _
    unfold b20l3
    rw [dlt_f (Nat.lt_irrefl _)]; rfl
  · intro m k x hk _
    obtain ⟨⟨q1, q2⟩, q3, q4⟩ := pane_ix ok hk
    have hne := pane_ne ok hk
    have hwr : IntKind.i64.wrap (IntKind.i64.wrap (ic p k 0 + ic p k 1) - (i : Int)) = ic p k 0 + ic p k 1 - (i : Int) := by
      rw [wrap_i64 (n := ic p k 0 + ic p k 1) (by omega) (by omega), wrap_i64 (by omega) (by omega)]
    show b20l3 (r20l3 m) _ _ _ _ _ _ _ _ _ _ _ _ _ _ _ = _
    unfold b20l3 gP
    simp only [Int.toNat_natCast]
    rw [hwr, dlt_t hk, dle0, blt_t hk, wrap_succ (by omega)]
    by_cases e1 : ic p k 0 = (i : Int)
    · rw [show ic p k 0 + ic p k 1 - (i : Int) = ic p k 1 by omega, bndI q3 (by omega), show (ic p k 0 == (i : Int)) = true from beq_iff_eq.2 e1]
      rfl
    · rw [show (ic p k 0 == (i : Int)) = false from beq_eq_false_iff_ne.2 e1]
      by_cases e2 : ic p k 1 = (i : Int)
      · rw [show ic p k 0 + ic p k 1 - (i : Int) = ic p k 0 by omega, bndI (show -1 ≤ ic p k 0 by omega) (by omega), show (ic p k 1 == (i : Int)) = true from beq_iff_eq.2 e2]
        rfl
      · rw [show (ic p k 1 == (i : Int)) = false from beq_eq_false_iff_ne.2 e2]
        rfl
omit ok hg in
theorem tk (l : List (List Int)) : (l.drop 0).take l.length = l := by simp
omit ok hg in
theorem ble_t {a b : Nat} (h : a ≤ b) : Nat.ble a b = true := Nat.ble_eq_true_of_le h
/-- the gains of the first rooms -/
noncomputable def gains (a b : Nat) (g w p : List (List Int)) (k : Nat) : List (List Int) := (List.range k).map fun i => [((gain a b g w p i : Nat) : Int)]
omit ok hg in
theorem gains_succ (a b : Nat) (g w p : List (List Int)) (k : Nat) : gains a b g w p (k + 1) = gains a b g w p k ++ [[((gain a b g w p k : Nat) : Int)]] := by
  unfold gains; rw [List.range_succ, List.map_append]; rfl
omit ok hg in
theorem gains_len (a b : Nat) (g w p : List (List Int)) (k : Nat) : (gains a b g w p k).length = k := by unfold gains; simp
theorem g3S : ∀ (k i fuel : Nat), i + k = h.length → k < fuel → r29l1 fuel a b (i : Int) g (gains a b g w p i) h s w p = cond (Nat.beq k 0) (1, []) (0, gains a b g w p h.length) := by
  have hn := ok.n5
  have hw := ok.w
  have hp := ok.p
  intro k
  induction k with
  | zero =>
    intro i fuel hik hf
    obtain ⟨m, rfl⟩ : ∃ m, fuel = m + 1 := ⟨fuel - 1, by omega⟩
    show b29l1 (r29l1 m) _ _ _ _ _ _ _ _ _ = _
    unfold b29l1
    rw [dlt_f (by omega)]; rfl
  | succ k ih =>
    intro i fuel hik hf
    obtain ⟨m, rfl⟩ : ∃ m, fuel = m + 1 := ⟨fuel - 1, by omega⟩
    show b29l1 (r29l1 m) _ _ _ _ _ _ _ _ _ = _
    unfold b29l1
    rw [dlt_t (show i < g.length by omega), g1S ok hg a b (show i < h.length by omega) (by omega)]
    dsimp only
    rw [g2S ok hg a b (show i < h.length by omega) (by omega)]
    dsimp only
    rw [tk, show foldN (gP a b g p i) p.length 0 (foldN (gW a g w i) w.length 0 0) = gain a b g w p i from rfl, ← gains_succ, gains_len, wrap_succ (by omega), ih (i + 1) m (by omega) (by omega), ble_t (show (i + 1) * 5 ≤ 140737488355328 by omega)]
    cases k with
    | zero => rw [show h.length = i + 1 by omega]; rfl
    | succ k => rfl
theorem g3I : ∀ (k i fuel : Nat), i + k = h.length → k < fuel → r20l1 fuel a b ((h.length : Nat) : Int) (i : Int) g (gains a b g w p i) h s w p = cond (Nat.beq k 0) (1, []) (0, gains a b g w p h.length) := by
  have hn := ok.n5
  have hw := ok.w
  have hp := ok.p
  intro k
  induction k with
  | zero =>
    intro i fuel hik hf
    obtain ⟨m, rfl⟩ : ∃ m, fuel = m + 1 := ⟨fuel - 1, by omega⟩
    show b20l1 (r20l1 m) _ _ _ _ _ _ _ _ _ _ = _
    unfold b20l1
    rw [dlt_f (by omega)]; rfl
  | succ k ih =>
    intro i fuel hik hf
    obtain ⟨m, rfl⟩ : ∃ m, fuel = m + 1 := ⟨fuel - 1, by omega⟩
    show b20l1 (r20l1 m) _ _ _ _ _ _ _ _ _ _ = _
    unfold b20l1
    simp only [Int.toNat_natCast]
    rw [dlt_t (show i < h.length by omega), dle0, blt_t (show i < g.length by omega), g1I ok hg a b (show i < h.length by omega) (by omega)]
    dsimp only
    rw [g2I ok hg a b (show i < h.length by omega) (by omega)]
    dsimp only
    rw [tk, show foldN (gP a b g p i) p.length 0 (foldN (gW a g w i) w.length 0 0) = gain a b g w p i from rfl, ← gains_succ, gains_len, wrap_succ (by omega), ih (i + 1) m (by omega) (by omega), ble_t (show (i + 1) * 5 ≤ 140737488355328 by omega)]
    cases k with
    | zero => rw [show h.length = i + 1 by omega]; rfl
    | succ k => rfl
end
end Go.Proofs.Ytfnfapmncibjfaa
