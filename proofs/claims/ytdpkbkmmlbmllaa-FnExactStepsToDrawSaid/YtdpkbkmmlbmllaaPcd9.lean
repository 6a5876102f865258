/- Chimneys: the steps that make one draw. -/
import Derived.Test.YtdpkbkmmlbmllaaPcd8
namespace Go.Proofs.Ytdpkbkmmlbmllaa
open Go.Ab Ieee

theorem upd_self {x : List (List Int)} {i v : Nat} (hi : i < x.length) : Int.toNat (((x.modify i (fun r => spl 5 r 2 [((v : Nat) : Int)])).getD i []).getD 2 0) = v := by
  have e : (x.modify i (fun r => spl 5 r 2 [((v : Nat) : Int)])).getD i [] = spl 5 (x.getD i []) 2 [((v : Nat) : Int)] := by simp [List.getD, List.getElem?_modify, hi]
  rw [e]; rfl
section
variable {t F O : List (List Int)} (n6 : t.length ≤ 6) (hF : F.length = t.length) (hO : O.length = t.length) (o a : Nat)
include n6 hF hO
theorem warmLS : ∀ (k i fuel : Nat) (x : List (List Int)), i + k = t.length → k < fuel → x.length = t.length →
    ((List.range' i k).all (fun i => !isN .f32 (newS t F O o a i)) = true ∧ r78l0 fuel o a (i : Int) t F O x = (1, [], updN (newS t F O o a) k i x)) ∨
    ((List.range' i k).all (fun i => !isN .f32 (newS t F O o a i)) = false ∧ ∃ tb, r78l0 fuel o a (i : Int) t F O x = (0, tb, [])) := by
  intro k
  induction k with
  | zero =>
    intro i fuel x h hf hx
    obtain ⟨m, rfl⟩ : ∃ m, fuel = m + 1 := ⟨fuel - 1, by omega⟩
    refine .inl ⟨rfl, ?_⟩
    show b78l0 (r78l0 m) _ _ _ _ _ _ _ = _
    unfold b78l0
    rw [dlt_f (by omega)]; rfl
  | succ k ih =>
    intro i fuel x h hf hx
    obtain ⟨m, rfl⟩ : ∃ m, fuel = m + 1 := ⟨fuel - 1, by omega⟩
    have hi : i < t.length := by omega
    have hs := upd_self (x := x) (i := i) (v := newS t F O o a i) (by omega)
    have hih := ih (i + 1) m (x.modify i (fun r => spl 5 r 2 [((newS t F O o a i : Nat) : Int)])) (by omega) (by omega) (by rw [List.length_modify]; exact hx)
    have step : r78l0 (m + 1) o a (i : Int) t F O x = cond (isN .f32 (newS t F O o a i)) (0, x.modify i (fun r => spl 5 r 2 [((newS t F O o a i : Nat) : Int)]), []) (r78l0 m o a ((i + 1 : Nat) : Int) t F O (x.modify i (fun r => spl 5 r 2 [((newS t F O o a i : Nat) : Int)]))) := by
      show b78l0 (r78l0 m) _ _ _ _ _ _ _ = _
      unfold b78l0
      simp only [Int.toNat_natCast, List.length_modify]
      rw [dlt_t (show i < x.length by omega), dle0, blt_t hi, blt_t (show i < F.length by omega), blt_t (show i < O.length by omega), blt_t (show i < x.length by omega), wrap_succ (by omega)]
      show cond true (cond true (cond true (cond true (cond true (cond (!feq .f32 (Int.toNat (((x.modify i (fun r => spl 5 r 2 [((newS t F O o a i : Nat) : Int)])).getD i []).getD 2 0)) (Int.toNat (((x.modify i (fun r => spl 5 r 2 [((newS t F O o a i : Nat) : Int)])).getD i []).getD 2 0))) _ _) _) _) _) _) _ = _
      rw [hs, feq_self, Bool.not_not]
      rfl
    rw [List.range'_succ, List.all_cons]
    cases hn : isN .f32 (newS t F O o a i) with
    | true =>
      refine .inr ⟨rfl, x.modify i (fun r => spl 5 r 2 [((newS t F O o a i : Nat) : Int)]), ?_⟩
      rw [step, hn]; rfl
    | false =>
      rw [step, hn]
      exact hih
theorem warmLI : ∀ (k i fuel : Nat) (x : List (List Int)), i + k = t.length → k < fuel → x.length = t.length → r80l0 fuel o a ((t.length : Nat) : Int) (i : Int) t F O x = (0, updN (newI t F O o a) k i x) := by
  intro k
  induction k with
  | zero =>
    intro i fuel x h hf hx
    obtain ⟨m, rfl⟩ : ∃ m, fuel = m + 1 := ⟨fuel - 1, by omega⟩
    show b80l0 (r80l0 m) _ _ _ _ _ _ _ _ = _
    unfold b80l0
    rw [dlt_f (by omega)]; rfl
  | succ k ih =>
    intro i fuel x h hf hx
    obtain ⟨m, rfl⟩ : ∃ m, fuel = m + 1 := ⟨fuel - 1, by omega⟩
    have hi : i < t.length := by omega
    have hih := ih (i + 1) m (x.modify i (fun r => spl 5 r 2 [((newI t F O o a i : Nat) : Int)])) (by omega) (by omega) (by rw [List.length_modify]; exact hx)
    refine Eq.trans ?_ hih
    show b80l0 (r80l0 m) _ _ _ _ _ _ _ _ = _
    unfold b80l0 newI
    simp only [Int.toNat_natCast]
    rw [dlt_t hi, dle0, blt_t hi, blt_t (show i < F.length by omega), blt_t (show i < O.length by omega), blt_t (show i < x.length by omega), wrap_succ (by omega)]
    simp only [cond_true, Bool.and_self]
    cases flt .f32 (fc F i 0) 0 <;> rfl
end
section
variable {t S : List (List Int)} {o w : Nat} (hc : ChOk t) (hw : WOk o w) (hS : S.length = t.length) (a : Nat)
include hc hw hS
theorem warmS : r78 o w a t S = (0, 4, [], []) ∧ (fins (intos t S (flows t o w) o) = false ∨ okN (newS t (flows t o w) (intos t S (flows t o w) o) o a) t.length = false) ∨
    (r78 o w a t S = (0, 0, updN (newS t (flows t o w) (intos t S (flows t o w) o) o a) t.length 0 t, flows t o w) ∧ fins (intos t S (flows t o w) o) = true ∧ okN (newS t (flows t o w) (intos t S (flows t o w) o) o a) t.length = true) := by
  have n1 := hc.n1
  have n2 := hc.n2
  have hFl := flows_len t o w
  have hOl := intos_len t S (flows t o w) o
  have e1 := flowsS hc hw
  have e2 := intoS hc hS hFl o
  have e3 := finsS (l := intos t S (flows t o w) o) (by omega)
  have hb : Nat.ble ((0 + t.length) * 25) 140737488355328 = true := Nat.ble_eq_true_of_le (by omega)
  have lp := warmLS n2 hFl hOl o a t.length 0 (1000 + t.length + (intos t S (flows t o w) o).length + (flows t o w).length + t.length) t (by omega) (by omega) rfl
  rw [show (List.range' 0 t.length).all (fun i => !isN .f32 (newS t (flows t o w) (intos t S (flows t o w) o) o a i)) = okN (newS t (flows t o w) (intos t S (flows t o w) o) o a) t.length by unfold okN allN; rw [List.range_eq_range']] at lp
  unfold r78
  simp only [e1, e2, e3, List.nil_append, hb]
  cases fins (intos t S (flows t o w) o) with
  | false => exact .inl ⟨rfl, .inl rfl⟩
  | true =>
    rcases lp with ⟨k1, k2⟩ | ⟨k1, tb, k2⟩
    · have k2' : r78l0 (1000 + t.length + (intos t S (flows t o w) o).length + (flows t o w).length + t.length) o a 0 t (flows t o w) (intos t S (flows t o w) o) t = _ := k2
      rw [k2']
      exact .inr ⟨rfl, rfl, k1⟩
    · have k2' : r78l0 (1000 + t.length + (intos t S (flows t o w) o).length + (flows t o w).length + t.length) o a 0 t (flows t o w) (intos t S (flows t o w) o) t = _ := k2
      rw [k2']
      exact .inl ⟨rfl, .inr k1⟩
theorem warmI : (r80 o w a t S = (0, false, [], []) ∧ fins (intos t S (flows t o w) o) = false) ∨
    (r80 o w a t S = (1, okN (newI t (flows t o w) (intos t S (flows t o w) o) o a) t.length, updN (newI t (flows t o w) (intos t S (flows t o w) o) o a) t.length 0 t, flows t o w) ∧ fins (intos t S (flows t o w) o) = true) := by
  have n1 := hc.n1
  have n2 := hc.n2
  have hFl := flows_len t o w
  have hOl := intos_len t S (flows t o w) o
  have e1 := flowsI hc hw
  have e2 := intoI hc hS hFl o
  have e3 := finsI (l := intos t S (flows t o w) o) (by omega)
  have e4 := fin_all (l := flows t o w) (by omega) (fun i hi => by rw [hFl] at hi; rw [flows_get hi]; exact (fl_ok hc hw hi).1)
  have e71 : r71 t = (0, t) := by
    unfold r71
    rw [show Nat.ble ((0 + t.length) * 25) 140737488355328 = true from Nat.ble_eq_true_of_le (by omega)]
    rfl
  have lp := warmLI n2 hFl hOl o a t.length 0 (1000 + t.length + (intos t S (flows t o w) o).length + (flows t o w).length + t.length) t (by omega) (by omega) rfl
  have lp' : r80l0 (1000 + t.length + (intos t S (flows t o w) o).length + (flows t o w).length + t.length) o a ((t.length : Nat) : Int) 0 t (flows t o w) (intos t S (flows t o w) o) t = _ := lp
  have up := (upd_ok hc (g := newI t (flows t o w) (intos t S (flows t o w) o) o a) (fun j _ => newI_lt _ _ _ _ _ _) (fun j _ => held_in (fadd_lt _ _))).1
  unfold r80
  simp only [e1, e2, e3, e4, e71, lp', up]
  cases fins (intos t S (flows t o w) o) with
  | false => exact .inl ⟨rfl, rfl⟩
  | true => exact .inr ⟨rfl, rfl⟩
end
theorem okN_zq {g g' : Nat → Nat} {n : Nat} (h : ∀ j, j < n → Zq (g j) (g' j)) : okN g n = okN g' n := by
  unfold okN
  refine allN_congr fun i hi => ?_
  rw [isN32, isN32, (h i hi).mod]
theorem draw_both {o w a : Nat} (hw : WOk o w) {S : List (List Int)} {m : Nat} (hm : m ≤ 200) : ∀ (k i fuel fuel' : Nat) (t u : List (List Int)), i + k = m → k < fuel → k < fuel' → ChOk t → ChOk u → Tz t u → S.length = t.length →
    ∃ r, r41l0 fuel o w a (m : Int) (i : Int) t S = (0, r) ∧ r43l0 fuel' o w a (m : Int) (i : Int) u S = (0, r) := by
  intro k
  induction k with
  | zero =>
    intro i fuel fuel' t u h h1 h2 ct cu tz hS
    obtain ⟨f, rfl⟩ : ∃ m, fuel = m + 1 := ⟨fuel - 1, by omega⟩
    obtain ⟨f', rfl⟩ : ∃ m, fuel' = m + 1 := ⟨fuel' - 1, by omega⟩
    obtain rfl : i = m := by omega
    show ∃ r, b41l0 (r41l0 f) _ _ _ _ _ _ _ = _ ∧ b43l0 (r43l0 f') _ _ _ _ _ _ _ = _
    have n2 := ct.n2
    have e1 := flowsS ct hw
    have e2 := flowsI cu hw
    rw [flows_tz tz] at e2
    have b1 := backS (l := flows t o w) (by rw [flows_len]; omega)
    have b2 := backI (l := flows t o w) (by rw [flows_len]; omega)
    unfold b41l0 b43l0
    simp only [e1, e2, b1, b2, beq_self_eq_true, bne_self_eq_false]
    simp only [Nat.beq, cond_true, cond_false]
    cases ((((back (flows t o w)).length : Nat) : Int) == 0)
    · exact ⟨_, rfl, rfl⟩
    · exact ⟨_, rfl, rfl⟩
  | succ k ih =>
    intro i fuel fuel' t u h h1 h2 ct cu tz hS
    obtain ⟨f, rfl⟩ : ∃ m, fuel = m + 1 := ⟨fuel - 1, by omega⟩
    obtain ⟨f', rfl⟩ : ∃ m, fuel' = m + 1 := ⟨fuel' - 1, by omega⟩
    show ∃ r, b41l0 (r41l0 f) _ _ _ _ _ _ _ = _ ∧ b43l0 (r43l0 f') _ _ _ _ _ _ _ = _
    have n2 := ct.n2
    have e1 := flowsS ct hw
    have e2 := flowsI cu hw
    rw [flows_tz tz] at e2
    have b1 := backS (l := flows t o w) (by rw [flows_len]; omega)
    have b2 := backI (l := flows t o w) (by rw [flows_len]; omega)
    have hne : (((i : Nat) : Int) == (m : Int)) = false := beq_eq_false_iff_ne.2 (by omega)
    have ws := warmS ct hw hS a
    have wi := warmI cu hw (show S.length = u.length by rw [tz.len]; exact hS) a
    rw [flows_tz tz, fins_tz tz, tz.len] at wi
    have gz : ∀ j, j < t.length → Zq (newS t (flows t o w) (intos t S (flows t o w) o) o a j) (newI u (flows t o w) (intos u S (flows t o w) o) o a j) := fun j hj => by
      have fo := fl_ok ct hw hj
      refine new_zq tz ?_ (by rw [flows_get hj]; exact fo.1) (by rw [flows_get hj]; exact fo.2)
      rw [intos_get hj, intos_get (by rw [tz.len]; exact hj)]
      exact intoV_tz tz S _ j
    have oz := okN_zq gz
    unfold b41l0 b43l0
    simp only [e1, e2, b1, b2, bne_self_eq_false, hne]
    simp only [Nat.beq, cond_true, cond_false]
    cases ((((back (flows t o w)).length : Nat) : Int) == 0)
    · simp only [cond_false]
      rcases ws with ⟨s1, s2⟩ | ⟨s1, s2, s3⟩
      · rw [s1]
        rcases wi with ⟨i1, i2⟩ | ⟨i1, i2⟩
        · rw [i1]; exact ⟨_, rfl, rfl⟩
        · rcases s2 with s2 | s2
          · rw [i2] at s2; cases s2
          · rw [i1, ← oz, s2]; exact ⟨_, rfl, rfl⟩
      · rw [s1]
        rcases wi with ⟨i1, i2⟩ | ⟨i1, i2⟩
        · rw [i2] at s2; cases s2
        · rw [i1, ← oz, s3, wrap_succ (by omega)]
          have tz' := upd_tz (g := newS t (flows t o w) (intos t S (flows t o w) o) o a) (g' := newI u (flows t o w) (intos u S (flows t o w) o) o a) tz (fun j hj => ⟨gz j hj, newS_lt _ _ _ _ _ _, newI_lt _ _ _ _ _ _⟩)
          have cu' := (upd_ok cu (g := newI u (flows t o w) (intos u S (flows t o w) o) o a) (fun j _ => newI_lt _ _ _ _ _ _) (fun j _ => held_in (fadd_lt _ _))).2 (by rw [tz.len, ← oz]; exact s3)
          have ct' := (upd_ok ct (g := newS t (flows t o w) (intos t S (flows t o w) o) o a) (fun j _ => newS_lt _ _ _ _ _ _) (fun j _ => held_in (fadd_lt _ _))).2 s3
          rw [tz.len] at tz' cu'
          exact ih (i + 1) f f' _ _ (by omega) (by omega) (by omega) ct' cu' tz' (by rw [updN_len]; exact hS)
    · exact ⟨_, rfl, rfl⟩
theorem tz_refl {t : List (List Int)} (hc : ChOk t) : Tz t t := by
  have l : ∀ i, fc t i 2 < 4294967296 := fun i => by
    by_cases h : i < t.length
    · exact fc_lt hc.rows h rfl
    · have e' : t.getD i [] = [] := by rw [List.getD_eq_getElem?_getD, List.getElem?_eq_none (by omega)]; rfl
      show Int.toNat ((t.getD i []).getD 2 0) < _
      rw [e']; decide
  exact ⟨rfl, fun _ => rfl, fun _ => rfl, fun _ => rfl, fun _ => rfl, fun _ => .rfl' _, l, l⟩
theorem plain9 (x0 x1 x2 : Nat) (x3 : Int) (x4 x5 : List (List Int)) (h0 : x0 < 4294967296) (h1 : x1 < 4294967296) (h2 : x2 < 4294967296) (_ : IntKind.i64.has x3) (k4 : RowsOk S5 x4) (l4 : x4.length ≤ 9223372036854775807) (k5 : RowsOk S1 x5) (l5 : x5.length ≤ 9223372036854775807) : r9 x0 x1 x2 x3 x4 x5 = (0, true) := by
  unfold r9
  by_cases hx : (((x5.length : Nat) : Int) : Int) > 1048576
  · rw [decide_eq_true hx]; rfl
  rw [decide_eq_false hx]
  have hl5 : x5.length ≤ 1048576 := by omega
  rcases szC l4 with g | ⟨g, g2⟩
  · rw [decide_eq_true g]; rfl
  rw [decide_eq_false (show ¬ r24 1048576 x4 < 0 by omega), copyC k4 g2, copy42 k5 hl5, selfC g2, self30 hl5]
  obtain ⟨c, e1, e2, hc⟩ := warm_both k4 g2 hl5 x0 x1 x2 h0 h1 h2
  have key : ∃ p, r41 x0 x1 x2 x3 x4 x5 = (0, p) ∧ r43 x0 x1 x2 x3 x4 x5 = (0, p) := by
    unfold r41 r43
    rw [e1, e2]
    rcases hc with hc | ⟨rfl, ck, wk, hS⟩
    · refine ⟨(0, c), ?_, ?_⟩ <;> simp only [Nat.beq, cond_true] <;> rw [show (c != 0) = true from bne_iff_ne.2 hc] <;> rfl
    · simp only [Nat.beq, cond_true]
      rw [show ((0 : Int) != 0) = false from rfl, cond_false, cond_false]
      unfold r63
      by_cases g0 : x3 < 0
      · rw [decide_eq_true g0, decide_eq_false (show ¬ x3 ≥ 0 by omega)]
        exact ⟨(0, 2), rfl, rfl⟩
      · rw [decide_eq_false g0, decide_eq_true (show x3 ≥ 0 by omega)]
        by_cases hn : x3 > 200
        · rw [decide_eq_true hn, decide_eq_false (show ¬ x3 ≤ 200 by omega)]
          exact ⟨(0, 2), rfl, rfl⟩
        · rw [decide_eq_false hn, decide_eq_true (show x3 ≤ 200 by omega)]
          obtain ⟨k, rfl⟩ : ∃ k : Nat, x3 = (k : Int) := ⟨x3.toNat, by omega⟩
          obtain ⟨r, d1, d2⟩ := draw_both (a := x2) wk (S := x5) (m := k) (by omega) k 0 (1000 + x5.length + x4.length) (1000 + x5.length + x4.length) x4 x4 (by omega) (by omega) (by omega) ck ck (tz_refl ck) hS
          have d1' : r41l0 (1000 + x5.length + x4.length) x0 x1 x2 (k : Int) 0 x4 x5 = (0, r) := d1
          have d2' : r43l0 (1000 + x5.length + x4.length) x0 x1 x2 (k : Int) 0 x4 x5 = (0, r) := d2
          rw [d1', d2']
          exact ⟨_, rfl, rfl⟩
  obtain ⟨p, k1, k2⟩ := key
  simp only [k1, k2, bne_self_eq_false]
  rfl
end Go.Proofs.Ytdpkbkmmlbmllaa
