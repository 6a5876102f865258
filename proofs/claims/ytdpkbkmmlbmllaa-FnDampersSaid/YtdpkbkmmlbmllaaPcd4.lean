/- Chimneys: the flows; marks. -/
import Derived.Test.YtdpkbkmmlbmllaaPcd3
import Derived.Test.YtdpkbkmmlbmllaaCd3
import Derived.Test.YtdpkbkmmlbmllaaA26
namespace Go.Proofs.Ytdpkbkmmlbmllaa
open Go.Ab Ieee

theorem num_fi {v : Nat} (h : Fi v) : r97 v = (v, 0) := by
  unfold r97
  rw [fin_spec, decide_eq_true (show v % 2147483648 < 2139095040 from h)]; rfl
/-! ### flows -/
/-- the flow of a flue -/
noncomputable def fl (t : List (List Int)) (o w i : Nat) : Nat := if ic t i 4 = -1 then flo t o i (fsub .f32 (atP t o w i) w) else flo t o i (fsub .f32 0 (atP t o w (ic t i 4).toNat))
noncomputable def flows (t : List (List Int)) (o w : Nat) : List (List Int) := (List.range t.length).map fun i => [((fl t o w i : Nat) : Int)]
theorem flows_len (t : List (List Int)) (o w : Nat) : (flows t o w).length = t.length := by unfold flows; simp
theorem flows_get {t : List (List Int)} {o w i : Nat} (hi : i < t.length) : fc (flows t o w) i 0 = fl t o w i := by
  show Int.toNat (((flows t o w).getD i []).getD 0 0) = _
  unfold flows
  rw [map_getD hi]; rfl
section
variable {t : List (List Int)} {o w : Nat} (hc : ChOk t) (hw : WOk o w)
include hc hw
theorem fl_ok {i : Nat} (hi : i < t.length) : Fi (fl t o w i) ∧ fl t o w i < 4294967296 := by
  obtain ⟨f1, f2, f3⟩ := w_fi hw
  unfold fl
  split
  · have a := at_ok t o w i
    exact (floI hc hw hi (pu_wind a.f a.lo a.hi f1 f2 f3)).2
  · have a := at_ok t o w (ic t i 4).toNat
    exact (floI hc hw hi (pu_neg a.f a.lo a.hi)).2
theorem flowsI : r55 o w t = (0, flows t o w) := by
  obtain ⟨f1, f2, f3⟩ := w_fi hw
  have n1 := hc.n1
  have n2 := hc.n2
  have lp := app_loop (n := t.length) (f := fun i => some [((fl t o w i : Nat) : Int)]) (G := fun m s i => r55l0 m o w ((t.length : Nat) : Int) i t s) (fuel := 1000 + 0 + t.length) ?_ ?_ (by omega)
  · have em : (List.range t.length).filterMap (fun i => some [((fl t o w i : Nat) : Int)]) = flows t o w := congrFun List.filterMap_eq_map' _
    rw [em] at lp
    unfold r55
    rcases lp with e | ⟨_, e'⟩
    · have e2 : r55l0 (1000 + 0 + t.length) o w ((t.length : Nat) : Int) 0 t [] = _ := e
      rw [e2]; rfl
    · have := congrArg List.length e'
      rw [flows_len] at this
      exact absurd this (by show ¬ t.length = 0; omega)
  · intro m s
    show b55l0 (r55l0 m) _ _ _ _ _ _ = _
    unfold b55l0
    rw [dlt_f (Nat.lt_irrefl _)]; rfl
  · intro m i s hi hs
    show b55l0 (r55l0 m) _ _ _ _ _ _ = _
    unfold b55l0
    simp only [take_all, Int.toNat_natCast]
    rw [dlt_t hi, dle0, blt_t hi, wrap_succ (by omega), show Nat.ble ((s.length + 1) * 5) 140737488355328 = true from Nat.ble_eq_true_of_le (by omega)]
    show cond (ic t i 4 == -1) _ _ = _
    have hin := hc.into i hi
    by_cases h1 : ic t i 4 = -1
    · have a := at_ok t o w i
      have q := (floI hc hw hi (pu_wind a.f a.lo a.hi f1 f2 f3)).1
      have e : fl t o w i = flo t o i (fsub .f32 (atP t o w i) w) := by unfold fl; rw [if_pos h1]
      rw [atI hc hw hi, e]
      simp only [q]
      rw [show (ic t i 4 == -1) = true from by rw [h1]; rfl]
      rfl
    · obtain ⟨i0, i1, _, _⟩ := hin.resolve_left h1
      obtain ⟨k, hk⟩ : ∃ k : Nat, ic t i 4 = (k : Int) := ⟨(ic t i 4).toNat, by omega⟩
      have a := at_ok t o w k
      have q := (floI hc hw hi (pu_neg a.f a.lo a.hi)).1
      have e : fl t o w i = flo t o i (fsub .f32 0 (atP t o w k)) := by unfold fl; rw [if_neg h1, hk]; rfl
      have q2 : r62 (ic t i 4) o w t = (0, atP t o w k) := by rw [hk]; exact atI hc hw (by omega)
      rw [show (ic t i 4 == -1) = false from beq_eq_false_iff_ne.2 h1]
      show cond (Nat.beq (r62 (ic t i 4) o w t).1 0) (cond (Nat.beq (r93 (fc t i 0) (fc t i 1) (fc t i 2) (fc t i 3) (ic t i 4) o (fsub .f32 0 (r62 (ic t i 4) o w t).2)).1 0) _ _) _ = _
      simp only [q2, q]
      rw [e]
      rfl
theorem flowsS : r58 o w t = (0, 0, flows t o w) := by
  obtain ⟨f1, f2, f3⟩ := w_fi hw
  have n1 := hc.n1
  have n2 := hc.n2
  have key : ∀ k i fuel s, i + k = t.length → k < fuel → s.length ≤ i → r58l0 fuel o w (i : Int) t s = (2, 0, 0, [], s ++ (List.range' i k).map fun i => [((fl t o w i : Nat) : Int)]) ∨ (k = 0 ∧ r58l0 fuel o w (i : Int) t s = (3, 0, 0, [], [])) := by
    intro k
    induction k with
    | zero =>
      intro i fuel s h hf hs
      obtain ⟨m, rfl⟩ : ∃ m, fuel = m + 1 := ⟨fuel - 1, by omega⟩
      refine .inr ⟨rfl, ?_⟩
      show b58l0 (r58l0 m) _ _ _ _ _ = _
      unfold b58l0
      rw [dlt_f (by omega)]; rfl
    | succ k ih =>
      intro i fuel s h hf hs
      obtain ⟨m, rfl⟩ : ∃ m, fuel = m + 1 := ⟨fuel - 1, by omega⟩
      have hi : i < t.length := by omega
      refine .inl ?_
      have hih := ih (i + 1) m (s ++ [[((fl t o w i : Nat) : Int)]]) (by omega) (by omega) (by simp; omega)
      rw [List.range'_succ, List.map_cons]
      show b58l0 (r58l0 m) _ _ _ _ _ = _
      unfold b58l0
      simp only [take_all, Int.toNat_natCast]
      rw [dlt_t hi, dle0, blt_t hi, wrap_succ (by omega), show Nat.ble ((s.length + 1) * 5) 140737488355328 = true from Nat.ble_eq_true_of_le (by omega)]
      show cond (ic t i 4 == -1) _ (cond (Nat.beq (r64 (ic t i 4) o w t).1 0) (cond (Nat.beq (r98 i o (fsub .f32 0 (r64 (ic t i 4) o w t).2) t).1 0) _ _) _) = _
      have hin := hc.into i hi
      by_cases h1 : ic t i 4 = -1
      · have a := at_ok t o w i
        have hp := pu_wind a.f a.lo a.hi f1 f2 f3
        have q := floS hc hw hi hp
        have qf := (floI hc hw hi hp).2.1
        have e : fl t o w i = flo t o i (fsub .f32 (atP t o w i) w) := by unfold fl; rw [if_pos h1]
        rw [e] at hih ⊢
        rw [atS hc hw hi, show (ic t i 4 == -1) = true from by rw [h1]; rfl]
        simp only [q, num_fi qf]
        rcases hih with hih | ⟨h0, hih⟩
        · rw [hih]; simp [Nat.beq]
        · subst h0; rw [hih]; simp [Nat.beq]
      · obtain ⟨i0, i1, _, _⟩ := hin.resolve_left h1
        obtain ⟨j, hj⟩ : ∃ j : Nat, ic t i 4 = (j : Int) := ⟨(ic t i 4).toNat, by omega⟩
        have a := at_ok t o w j
        have hp := pu_neg a.f a.lo a.hi
        have q := floS hc hw hi hp
        have qf := (floI hc hw hi hp).2.1
        have e : fl t o w i = flo t o i (fsub .f32 0 (atP t o w j)) := by unfold fl; rw [if_neg h1, hj]; rfl
        have q2 : r64 (ic t i 4) o w t = (0, atP t o w j) := by rw [hj]; exact atS hc hw (by omega)
        rw [e] at hih ⊢
        rw [show (ic t i 4 == -1) = false from beq_eq_false_iff_ne.2 h1, q2]
        have q3 : r64 ((t.getD i []).getD 4 0) o w t = (0, atP t o w j) := q2
        simp only [q3, q, num_fi qf]
        rcases hih with hih | ⟨h0, hih⟩
        · rw [hih]; simp [Nat.beq]
        · subst h0; rw [hih]; simp [Nat.beq]
  have k0 := key t.length 0 (1000 + 0 + t.length) [] (by omega) (by omega) (Nat.le_refl _)
  unfold r58
  rcases k0 with k0 | ⟨h0, _⟩
  · have e2 : r58l0 (1000 + 0 + t.length) o w 0 t [] = _ := k0
    rw [e2]
    unfold flows
    rw [List.range_eq_range']
    rfl
  · omega
end
/-! ### lists of numbers -/
theorem self30 {l : List (List Int)} (hl : l.length ≤ 1048576) : r30b l l = (0, true) := by
  have key : r30l0b (1000 + l.length + l.length) 0 l l = 1 := by
    have := all_loop (n := l.length) (p := fun _ => true) (yes := 1) (no := 0) (G := fun m i => r30l0b m i l l) (fuel := 1000 + l.length + l.length) ?_ ?_ (by omega)
    · rw [this, show allN l.length (fun _ => true) = true from allN_true.2 (fun _ _ => rfl)]; rfl
    · intro m
      show b30l0b (r30l0b m) _ _ _ = _
      unfold b30l0b
      rw [dlt_f (Nat.lt_irrefl _)]; rfl
    · intro m i hi
      show b30l0b (r30l0b m) _ _ _ = _
      unfold b30l0b
      simp only [float_self]
      rw [dlt_t hi, dle0, Int.toNat_natCast, blt_t hi, wrap_succ (by omega)]
      rfl
  unfold r30b
  rw [key, bne_len]; simp [Nat.beq]
theorem fin_all {l : List (List Int)} (hl : l.length ≤ 1048576) (hf : ∀ i, i < l.length → Fi (fc l i 0)) : r56b l = (0, true) := by
  have key : r56l0c (1000 + l.length) ((l.length : Nat) : Int) 0 l = 1 := by
    have := all_loop (n := l.length) (p := fun _ => true) (yes := 1) (no := 0) (G := fun m i => r56l0c m ((l.length : Nat) : Int) i l) (fuel := 1000 + l.length) ?_ ?_ (by omega)
    · rw [this, show allN l.length (fun _ => true) = true from allN_true.2 (fun _ _ => rfl)]; rfl
    · intro m
      show b56l0c (r56l0c m) _ _ _ = _
      unfold b56l0c
      rw [dlt_f (Nat.lt_irrefl _)]; rfl
    · intro m i hi
      show b56l0c (r56l0c m) _ _ _ = _
      unfold b56l0c
      have e : cond (r94 (widen (fc l i 0))) false (cond (r95 (widen (fc l i 0)) 0) false true) = true := by
        have e56 : r56 (fc l i 0) = cond (r94 (widen (fc l i 0))) false (cond (r95 (widen (fc l i 0)) 0) false true) := by unfold r56 r56l0b; cases r94 (widen (fc l i 0)) <;> cases r95 (widen (fc l i 0)) 0 <;> rfl
        rw [← e56, fin_impl]; exact decide_eq_true (hf i hi)
      rw [dlt_t hi, dle0, Int.toNat_natCast, blt_t hi, wrap_succ (by omega)]
      cases e1 : r94 (widen (fc l i 0)) with
      | true => rw [e1] at e; cases e
      | false =>
        cases e2 : r95 (widen (fc l i 0)) 0 with
        | true => rw [e1, e2] at e; cases e
        | false => rfl
  unfold r56b; rw [key]; rfl
/-! ### marks -/
/-- a table whose rows are marked from row i on -/
def markT (M : Int → List Int) (C : Int) : Nat → Int → Nat → List (List Int) → List (List Int)
  | 0, _, _, l => l
  | n + 1, k, i, l => markT M C n (k + C) (i + 1) (l.set i (M k))
theorem markT_len (M : Int → List Int) (C : Int) : ∀ (n : Nat) (k : Int) (i : Nat) (l : List (List Int)), (markT M C n k i l).length = l.length
  | 0, _, _, _ => rfl
  | n + 1, k, i, l => by rw [markT, markT_len M C n, List.length_set]
theorem markT_old (M : Int → List Int) (C : Int) : ∀ (n : Nat) (k : Int) (i j : Nat) (l : List (List Int)), j < i → (markT M C n k i l).getD j [] = l.getD j []
  | 0, _, _, _, _, _ => rfl
  | n + 1, k, i, j, l, h => by
    rw [markT, markT_old M C n _ _ _ _ (by omega)]
    simp [List.getD, List.getElem?_set_ne (show i ≠ j by omega)]
theorem markT_get (M : Int → List Int) (C : Int) : ∀ (n : Nat) (k : Int) (i j : Nat) (l : List (List Int)), i + n = l.length → j < n → (markT M C n k i l).getD (i + j) [] = M (k + C * (j : Int))
  | 0, _, _, _, _, _, h => by omega
  | n + 1, k, i, 0, l, h, _ => by
    rw [markT, Nat.add_zero, markT_old M C n _ _ _ _ (by omega)]
    have hi : i < l.length := by omega
    simp [List.getD, hi]
  | n + 1, k, i, j + 1, l, h, hj => by
    rw [markT, show i + (j + 1) = i + 1 + j by omega, markT_get M C n _ _ _ _ (by rw [List.length_set]; omega) (by omega)]
    congr 1
    rw [show ((j + 1 : Nat) : Int) = (j : Int) + 1 by omega, Int.mul_add, Int.mul_one]
    omega
theorem w1 {k : Int} (h0 : 0 ≤ k) (h1 : k ≤ 1000000000) : IntKind.i64.wrap (k + 1) = k + 1 := wrap_i64 (by omega) (by omega)
theorem modify_const (l : List (List Int)) (i : Nat) (x : List Int) : l.modify i (fun _ => x) = l.set i x := by
  apply List.ext_getElem?
  intro j
  by_cases h : i = j
  · subst h
    by_cases hi : i < l.length
    · simp [List.getElem?_modify, List.getElem?_set, hi]
    · simp [List.getElem?_modify, List.getElem?_set, hi]
  · simp [List.getElem?_modify, List.getElem?_set, h]
theorem mod5 (l : List (List Int)) (i : Nat) (a b c d e : Int) : ((((l.modify i (fun r => spl 5 r 0 [a])).modify i (fun r => spl 5 r 1 [b])).modify i (fun r => spl 5 r 2 [c])).modify i (fun r => spl 5 r 3 [d])).modify i (fun r => spl 5 r 4 [e]) = l.set i [a, b, c, d, e] := by
  rw [modify_modify, modify_modify, modify_modify, modify_modify]
  exact modify_const l i [a, b, c, d, e]
def M5 (k : Int) : List Int := [((ofInt .f32 k : Nat) : Int), ((ofInt .f32 (k + 1) : Nat) : Int), ((ofInt .f32 (k + 1 + 1) : Nat) : Int), ((ofInt .f32 (k + 1 + 1 + 1) : Nat) : Int), k + 1 + 1 + 1 + 1]
theorem mark31 : ∀ (n i fuel : Nat) (k : Int) (l : List (List Int)), i + n = l.length → n < fuel → 0 ≤ k → k + 5 * (n : Int) ≤ 100000000 → l.length ≤ 1048576 → r31l0 fuel k (i : Int) l = (0, k + 5 * (n : Int), markT M5 5 n k i l) := by
  intro n
  induction n with
  | zero =>
    intro i fuel k l h hf _ _ _
    obtain ⟨m, rfl⟩ : ∃ m, fuel = m + 1 := ⟨fuel - 1, by omega⟩
    show b31l0 (r31l0 m) _ _ _ = _
    unfold b31l0
    rw [dlt_f (by omega)]; simp [markT]
  | succ n ih =>
    intro i fuel k l h hf h0 h1 hl
    obtain ⟨m, rfl⟩ : ∃ m, fuel = m + 1 := ⟨fuel - 1, by omega⟩
    have hi : i < l.length := by omega
    have hk : k + 5 + 5 * (n : Int) = k + 5 * ((n + 1 : Nat) : Int) := by omega
    have g := ih (i + 1) m (k + 5) (l.set i (M5 k)) (by simp; omega) (by omega) (by omega) (by omega) (by simpa using hl)
    rw [hk] at g
    refine Eq.trans ?_ g
    show b31l0 (r31l0 m) _ _ _ = _
    unfold b31l0
    simp only [List.length_modify, Int.toNat_natCast]
    rw [dlt_t hi, dle0, blt_t hi, wrap_succ (by omega), w1 h0 (by omega), w1 (show 0 ≤ k + 1 by omega) (by omega), w1 (show 0 ≤ k + 1 + 1 by omega) (by omega), w1 (show 0 ≤ k + 1 + 1 + 1 by omega) (by omega), w1 (show 0 ≤ k + 1 + 1 + 1 + 1 by omega) (by omega), mod5]
    rw [show k + 5 = k + 1 + 1 + 1 + 1 + 1 by omega]
    rfl
theorem mk31 {l : List (List Int)} (hl : l.length ≤ 1048576) : ∃ l', r31 1 l = (0, 1 + 5 * (l.length : Int), l') := by
  have := mark31 l.length 0 (1000 + l.length) 1 l (by omega) (by omega) (by omega) (by omega) hl
  have e : r31l0 (1000 + l.length) 1 0 l = _ := this
  unfold r31
  rw [e]
  exact ⟨_, rfl⟩
def M1 (k : Int) : List Int := [((ofInt .f32 k : Nat) : Int)]
theorem mark32 : ∀ (n i fuel : Nat) (k : Int) (l : List (List Int)), i + n = l.length → n < fuel → 0 ≤ k → k + 1 * (n : Int) ≤ 100000000 → l.length ≤ 1048576 → r32l0b fuel k (i : Int) l = (0, k + 1 * (n : Int), markT M1 1 n k i l) := by
  intro n
  induction n with
  | zero =>
    intro i fuel k l h hf _ _ _
    obtain ⟨m, rfl⟩ : ∃ m, fuel = m + 1 := ⟨fuel - 1, by omega⟩
    show b32l0b (r32l0b m) _ _ _ = _
    unfold b32l0b
    rw [dlt_f (by omega)]; simp [markT]
  | succ n ih =>
    intro i fuel k l h hf h0 h1 hl
    obtain ⟨m, rfl⟩ : ∃ m, fuel = m + 1 := ⟨fuel - 1, by omega⟩
    have hi : i < l.length := by omega
    have hk : k + 1 + 1 * (n : Int) = k + 1 * ((n + 1 : Nat) : Int) := by omega
    have g := ih (i + 1) m (k + 1) (l.set i (M1 k)) (by simp; omega) (by omega) (by omega) (by omega) (by simpa using hl)
    rw [hk] at g
    refine Eq.trans ?_ g
    show b32l0b (r32l0b m) _ _ _ = _
    unfold b32l0b
    rw [dlt_t hi, dle0, Int.toNat_natCast, blt_t hi, wrap_succ (by omega), w1 h0 (by omega)]
    rfl
theorem mk32 {l : List (List Int)} (hl : l.length ≤ 1048576) : r32b 1 l = (0, 1 + 1 * (l.length : Int), markT M1 1 l.length 1 0 l) := by
  have := mark32 l.length 0 (1000 + l.length) 1 l (by omega) (by omega) (by omega) (by omega) hl
  have e : r32l0b (1000 + l.length) 1 0 l = _ := this
  unfold r32b
  rw [e]; rfl
theorem hd33 {l : List (List Int)} (hl : l.length ≤ 1048576) : r33b 1 (markT M1 1 l.length 1 0 l) = (0, 1 + 1 * (l.length : Int)) := by
  have hlen : (markT M1 1 l.length 1 0 l).length = l.length := markT_len _ _ _ _ _ _
  have hg : ∀ j, j < l.length → (markT M1 1 l.length 1 0 l).getD j [] = M1 (1 + 1 * (j : Int)) := fun j hj => by
    have := markT_get M1 1 l.length 1 0 j l (by omega) hj
    rwa [Nat.zero_add] at this
  generalize markT M1 1 l.length 1 0 l = L at *
  have key : ∀ (k i fuel : Nat), i + k = l.length → k < fuel → r33l0b fuel (1 + 1 * (i : Int)) (i : Int) L = (1, 0, 1 + 1 * (l.length : Int)) := by
    intro k
    induction k with
    | zero =>
      intro i fuel h hf
      obtain ⟨m, rfl⟩ : ∃ m, fuel = m + 1 := ⟨fuel - 1, by omega⟩
      show b33l0b (r33l0b m) _ _ _ = _
      unfold b33l0b
      rw [dlt_f (by omega), show i = l.length by omega]; rfl
    | succ k ih =>
      intro i fuel h hf
      obtain ⟨m, rfl⟩ : ∃ m, fuel = m + 1 := ⟨fuel - 1, by omega⟩
      have hi : i < l.length := by omega
      have g := ih (i + 1) m (by omega) (by omega)
      refine Eq.trans ?_ g
      show b33l0b (r33l0b m) _ _ _ = _
      unfold b33l0b
      rw [dlt_t (show i < L.length by omega), dle0, Int.toNat_natCast, blt_t (show i < L.length by omega), wrap_succ (by omega), w1 (by omega) (by omega), hg i hi]
      show cond (!feq .f32 (ofInt .f32 (1 + 1 * (i : Int))) (ofInt .f32 (1 + 1 * (i : Int)))) _ _ = _
      rw [ofInt_same, show 1 + 1 * (i : Int) + 1 = 1 + 1 * ((i + 1 : Nat) : Int) by omega]
      rfl
  have k0 := key l.length 0 (1000 + L.length) (by omega) (by omega)
  have e : r33l0b (1000 + L.length) 1 0 L = _ := k0
  unfold r33b
  rw [e]; rfl
theorem plain6 (x0 x1 : Nat) (x2 : List (List Int)) (h0 : x0 < 4294967296) (h1 : x1 < 4294967296) (k2 : RowsOk S5 x2) (l2 : x2.length ≤ 9223372036854775807) : r6 x0 x1 x2 = (0, true) := by
  unfold r6
  rcases szC l2 with g | ⟨g, g2⟩
  · rw [decide_eq_true g]; rfl
  rw [decide_eq_false (show ¬ r24 1048576 x2 < 0 by omega), copyC k2 g2, selfC g2]
  obtain ⟨c, e1, e2, hc⟩ := code_both k2 g2 x0 x1 h0 h1
  obtain ⟨l', m1⟩ := mk31 g2
  have key : (∃ c, r16 x0 x1 x2 = (0, c, []) ∧ r15 x0 x1 x2 = (0, c, [])) ∨ ∃ l, l.length ≤ 1048576 ∧ r16 x0 x1 x2 = (0, 0, l) ∧ r15 x0 x1 x2 = (1, 0, l) := by
    unfold r16 r15
    rw [e1, e2]
    rcases hc with hc | ⟨rfl, ck, wk⟩
    · refine .inl ⟨c, ?_, ?_⟩ <;> simp only [Nat.beq, cond_true] <;> rw [show (c != 0) = true from bne_iff_ne.2 hc] <;> rfl
    · have n2 := ck.n2
      rw [flowsS ck wk, flowsI ck wk]
      have hf := fin_all (l := flows x2 x0 x1) (by rw [flows_len]; omega) (fun i hi => by
        rw [flows_len] at hi
        rw [flows_get hi]; exact (fl_ok ck wk hi).1)
      dsimp only
      rw [hf]
      exact .inr ⟨_, by rw [flows_len]; omega, rfl, rfl⟩
  rcases key with ⟨c, d1, d2⟩ | ⟨l, hl, d1, d2⟩
  · have e30 : r30 ([] : List (List Int)) = true := rfl
    simp only [d1, d2, m1, bne_self_eq_false, e30]
    rw [decide_eq_false (show ¬ 1 + 5 * (x2.length : Int) < 0 by omega)]
    rfl
  · simp only [d1, d2, m1, mk32 hl, hd33 hl, self30 hl, bne_self_eq_false]
    rw [decide_eq_false (show ¬ 1 + 5 * (x2.length : Int) < 0 by omega), decide_eq_false (show ¬ 1 + 1 * (l.length : Int) < 0 by omega)]
    rfl
end Go.Proofs.Ytdpkbkmmlbmllaa
