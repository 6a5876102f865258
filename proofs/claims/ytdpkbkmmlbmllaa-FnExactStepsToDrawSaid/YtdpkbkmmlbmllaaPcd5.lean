/- Chimneys: the flues that are blown back. -/
import Derived.Test.YtdpkbkmmlbmllaaPcd4
import Derived.Test.YtdpkbkmmlbmllaaCd4
namespace Go.Proofs.Ytdpkbkmmlbmllaa
open Go.Ab Ieee

noncomputable def bkF (l : List (List Int)) (i : Nat) : Option (List Int) := if flt .f32 (fc l i 0) 0 = true then some [(i : Int)] else none
/-- the flues that are blown back -/
noncomputable def back (l : List (List Int)) : List (List Int) := (List.range l.length).filterMap (bkF l)
theorem back_len (l : List (List Int)) : (back l).length ≤ l.length := by
  unfold back
  have := List.length_filterMap_le (bkF l) (List.range l.length)
  rwa [List.length_range] at this
theorem backS {l : List (List Int)} (hl : l.length ≤ 6) : r76 l = (0, back l) := by
  have lp := app_loop (n := l.length) (f := bkF l) (G := fun m s i => r76l0 m i l s) (fuel := 1000 + 0 + l.length) ?_ ?_ (by omega)
  · unfold r76
    rcases lp with e | ⟨e, e'⟩
    · have e2 : r76l0 (1000 + 0 + l.length) 0 l [] = _ := e
      rw [e2]; rfl
    · have e2 : r76l0 (1000 + 0 + l.length) 0 l [] = _ := e
      rw [e2]; unfold back; rw [e']; rfl
  · intro m s
    show b76l0 (r76l0 m) _ _ _ = _
    unfold b76l0
    rw [dlt_f (Nat.lt_irrefl _)]; rfl
  · intro m i s hi hs
    show b76l0 (r76l0 m) _ _ _ = _
    unfold b76l0 bkF
    simp only [take_all, Int.toNat_natCast]
    rw [dlt_t hi, dle0, blt_t hi, wrap_succ (by omega), show Nat.ble ((s.length + 1) * 9) 140737488355328 = true from Nat.ble_eq_true_of_le (by omega)]
    cases flt .f32 (fc l i 0) 0 <;> rfl
theorem backI {l : List (List Int)} (hl : l.length ≤ 6) : r59 l = (0, back l) := by
  have lp := app_loop (n := l.length) (f := bkF l) (G := fun m s i => r59l0 m ((l.length : Nat) : Int) i s l) (fuel := 1000 + l.length + 0) ?_ ?_ (by omega)
  · unfold r59
    rcases lp with e | ⟨e, e'⟩
    · have e2 : r59l0 (1000 + l.length + 0) ((l.length : Nat) : Int) 0 [] l = _ := e
      rw [e2]; rfl
    · have e2 : r59l0 (1000 + l.length + 0) ((l.length : Nat) : Int) 0 [] l = _ := e
      rw [e2]; unfold back; rw [e']; rfl
  · intro m s
    show b59l0 (r59l0 m) _ _ _ _ = _
    unfold b59l0
    rw [dlt_f (Nat.lt_irrefl _)]; rfl
  · intro m i s hi hs
    show b59l0 (r59l0 m) _ _ _ _ = _
    unfold b59l0 bkF
    simp only [take_all, Int.toNat_natCast]
    rw [dlt_t hi, dle0, blt_t hi, wrap_succ (by omega), show Nat.ble ((s.length + 1) * 9) 140737488355328 = true from Nat.ble_eq_true_of_le (by omega)]
    cases flt .f32 (fc l i 0) 0 <;> rfl
theorem self38 {l : List (List Int)} (hl : l.length ≤ 1048576) : r38b l l = (0, true) := by
  have key : r38l0b (1000 + l.length + l.length) 0 l l = 1 := by
    have := all_loop (n := l.length) (p := fun _ => true) (yes := 1) (no := 0) (G := fun m i => r38l0b m i l l) (fuel := 1000 + l.length + l.length) ?_ ?_ (by omega)
    · rw [this, show allN l.length (fun _ => true) = true from allN_true.2 (fun _ _ => rfl)]; rfl
    · intro m
      show b38l0b (r38l0b m) _ _ _ = _
      unfold b38l0b
      rw [dlt_f (Nat.lt_irrefl _)]; rfl
    · intro m i hi
      show b38l0b (r38l0b m) _ _ _ = _
      unfold b38l0b
      simp only [bne_self_eq_false]
      rw [dlt_t hi, dle0, Int.toNat_natCast, blt_t hi, wrap_succ (by omega)]
      rfl
  unfold r38b
  rw [key, bne_len]; simp [Nat.beq]
def MI (k : Int) : List Int := [k]
theorem mark39 : ∀ (n i fuel : Nat) (k : Int) (l : List (List Int)), i + n = l.length → n < fuel → 0 ≤ k → k + 1 * (n : Int) ≤ 100000000 → l.length ≤ 1048576 → r39l0b fuel k (i : Int) l = (0, k + 1 * (n : Int), markT MI 1 n k i l) := by
  intro n
  induction n with
  | zero =>
    intro i fuel k l h hf _ _ _
    obtain ⟨m, rfl⟩ : ∃ m, fuel = m + 1 := ⟨fuel - 1, by omega⟩
    show b39l0b (r39l0b m) _ _ _ = _
    unfold b39l0b
    rw [dlt_f (by omega)]; simp [markT]
  | succ n ih =>
    intro i fuel k l h hf h0 h1 hl
    obtain ⟨m, rfl⟩ : ∃ m, fuel = m + 1 := ⟨fuel - 1, by omega⟩
    have hi : i < l.length := by omega
    have hk : k + 1 + 1 * (n : Int) = k + 1 * ((n + 1 : Nat) : Int) := by omega
    have g := ih (i + 1) m (k + 1) (l.set i (MI k)) (by simp; omega) (by omega) (by omega) (by omega) (by simpa using hl)
    rw [hk] at g
    refine Eq.trans ?_ g
    show b39l0b (r39l0b m) _ _ _ = _
    unfold b39l0b
    rw [dlt_t hi, dle0, Int.toNat_natCast, blt_t hi, wrap_succ (by omega), w1 h0 (by omega)]
    rfl
theorem mk39 {l : List (List Int)} (hl : l.length ≤ 1048576) : r39b 1 l = (0, 1 + 1 * (l.length : Int), markT MI 1 l.length 1 0 l) := by
  have := mark39 l.length 0 (1000 + l.length) 1 l (by omega) (by omega) (by omega) (by omega) hl
  have e : r39l0b (1000 + l.length) 1 0 l = _ := this
  unfold r39b
  rw [e]; rfl
theorem hd40 {l : List (List Int)} (hl : l.length ≤ 1048576) : r40b 1 (markT MI 1 l.length 1 0 l) = (0, 1 + 1 * (l.length : Int)) := by
  have hlen : (markT MI 1 l.length 1 0 l).length = l.length := markT_len _ _ _ _ _ _
  have hg : ∀ j, j < l.length → (markT MI 1 l.length 1 0 l).getD j [] = MI (1 + 1 * (j : Int)) := fun j hj => by
    have := markT_get MI 1 l.length 1 0 j l (by omega) hj
    rwa [Nat.zero_add] at this
  generalize markT MI 1 l.length 1 0 l = L at *
  have key : ∀ (k i fuel : Nat), i + k = l.length → k < fuel → r40l0b fuel (1 + 1 * (i : Int)) (i : Int) L = (1, 0, 1 + 1 * (l.length : Int)) := by
    intro k
    induction k with
    | zero =>
      intro i fuel h hf
      obtain ⟨m, rfl⟩ : ∃ m, fuel = m + 1 := ⟨fuel - 1, by omega⟩
      show b40l0b (r40l0b m) _ _ _ = _
      unfold b40l0b
      rw [dlt_f (by omega), show i = l.length by omega]; rfl
    | succ k ih =>
      intro i fuel h hf
      obtain ⟨m, rfl⟩ : ∃ m, fuel = m + 1 := ⟨fuel - 1, by omega⟩
      have hi : i < l.length := by omega
      have g := ih (i + 1) m (by omega) (by omega)
      refine Eq.trans ?_ g
      show b40l0b (r40l0b m) _ _ _ = _
      unfold b40l0b
      rw [dlt_t (show i < L.length by omega), dle0, Int.toNat_natCast, blt_t (show i < L.length by omega), wrap_succ (by omega), w1 (by omega) (by omega), hg i hi]
      show cond ((1 + 1 * (i : Int)) != (1 + 1 * (i : Int))) _ _ = _
      rw [bne_self_eq_false, show 1 + 1 * (i : Int) + 1 = 1 + 1 * ((i + 1 : Nat) : Int) by omega]
      rfl
  have k0 := key l.length 0 (1000 + L.length) (by omega) (by omega)
  have e : r40l0b (1000 + L.length) 1 0 L = _ := k0
  unfold r40b
  rw [e]; rfl
theorem plain8 (x0 x1 : Nat) (x2 : List (List Int)) (h0 : x0 < 4294967296) (h1 : x1 < 4294967296) (k2 : RowsOk S5 x2) (l2 : x2.length ≤ 9223372036854775807) : r8 x0 x1 x2 = (0, true) := by
  unfold r8
  rcases szC l2 with g | ⟨g, g2⟩
  · rw [decide_eq_true g]; rfl
  rw [decide_eq_false (show ¬ r24 1048576 x2 < 0 by omega), copyC k2 g2, selfC g2]
  obtain ⟨c, e1, e2, hc⟩ := code_both k2 g2 x0 x1 h0 h1
  obtain ⟨l', m1⟩ := mk31 g2
  have key : (∃ c, r37 x0 x1 x2 = (0, c, []) ∧ r17 x0 x1 x2 = (0, c, [])) ∨ ∃ l, l.length ≤ 1048576 ∧ r37 x0 x1 x2 = (0, 0, l) ∧ r17 x0 x1 x2 = (1, 0, l) := by
    unfold r37 r17 r16
    rw [e1, e2]
    rcases hc with hc | ⟨rfl, ck, wk⟩
    · refine .inl ⟨c, ?_, ?_⟩ <;> simp only [Nat.beq, cond_true] <;> rw [show (c != 0) = true from bne_iff_ne.2 hc] <;> (try simp only [cond_true]) <;> (try rw [show (c != 0) = true from bne_iff_ne.2 hc]) <;> rfl
    · have n2 := ck.n2
      have hb := backS (l := flows x2 x0 x1) (by rw [flows_len]; omega)
      have hb2 := backI (l := flows x2 x0 x1) (by rw [flows_len]; omega)
      have hbl := back_len (flows x2 x0 x1)
      rw [flows_len] at hbl
      rw [flowsS ck wk, flowsI ck wk]
      dsimp only
      rw [hb2]
      refine .inr ⟨back (flows x2 x0 x1), by omega, ?_, rfl⟩
      show cond true (cond false _ (cond (Nat.beq (r76 (flows x2 x0 x1)).1 0) (0, 0, (r76 (flows x2 x0 x1)).2) _)) _ = _
      rw [hb]; rfl
  rcases key with ⟨c, d1, d2⟩ | ⟨l, hl, d1, d2⟩
  · have e38 : r38 ([] : List (List Int)) = true := rfl
    simp only [d1, d2, m1, bne_self_eq_false, e38]
    rw [decide_eq_false (show ¬ 1 + 5 * (x2.length : Int) < 0 by omega)]
    rfl
  · simp only [d1, d2, m1, mk39 hl, hd40 hl, self38 hl, bne_self_eq_false]
    rw [decide_eq_false (show ¬ 1 + 5 * (x2.length : Int) < 0 by omega), decide_eq_false (show ¬ 1 + 1 * (l.length : Int) < 0 by omega)]
    rfl
end Go.Proofs.Ytdpkbkmmlbmllaa
