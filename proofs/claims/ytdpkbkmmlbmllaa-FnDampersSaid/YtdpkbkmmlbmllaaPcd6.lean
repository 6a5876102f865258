/- Chimneys: the least damper for a flow. -/
import Derived.Test.YtdpkbkmmlbmllaaPcd4
import Derived.Test.YtdpkbkmmlbmllaaCd5
namespace Go.Proofs.Ytdpkbkmmlbmllaa
open Go.Ab Ieee

/-- a chimney with another damper -/
noncomputable def dam (t : List (List Int)) (f d : Nat) : List (List Int) := t.modify f (fun r => spl 5 r 3 [((d : Nat) : Int)])
theorem dam_len (t : List (List Int)) (f d : Nat) : (dam t f d).length = t.length := by unfold dam; simp
theorem dam_dam (t : List (List Int)) (f d e : Nat) : dam (dam t f d) f e = dam t f e := by
  unfold dam
  rw [modify_modify]
  rfl
theorem dam_ne {t : List (List Int)} {f d i : Nat} (h : i ≠ f) : (dam t f d).getD i [] = t.getD i [] := by
  unfold dam
  simp [List.getD, List.getElem?_modify, Ne.symm h]
theorem dam_eq {t : List (List Int)} {f d : Nat} (hf : f < t.length) : (dam t f d).getD f [] = [ic t f 0, ic t f 1, ic t f 2, (d : Int), ic t f 4] := by
  unfold dam
  have e : (t.modify f (fun r => spl 5 r 3 [((d : Nat) : Int)])).getD f [] = spl 5 (t.getD f []) 3 [((d : Nat) : Int)] := by
    simp [List.getD, List.getElem?_modify, hf]
  rw [e]; rfl
theorem dam_ic {t : List (List Int)} {f d i : Nat} (hf : f < t.length) : ic (dam t f d) i 0 = ic t i 0 ∧ ic (dam t f d) i 1 = ic t i 1 ∧ ic (dam t f d) i 2 = ic t i 2 ∧ ic (dam t f d) i 3 = (if i = f then (d : Int) else ic t i 3) ∧ ic (dam t f d) i 4 = ic t i 4 := by
  by_cases h : i = f
  · subst h
    show ((dam t i d).getD i []).getD 0 0 = _ ∧ ((dam t i d).getD i []).getD 1 0 = _ ∧ ((dam t i d).getD i []).getD 2 0 = _ ∧ ((dam t i d).getD i []).getD 3 0 = _ ∧ ((dam t i d).getD i []).getD 4 0 = _
    rw [dam_eq hf, if_pos rfl]
    exact ⟨rfl, rfl, rfl, rfl, rfl⟩
  · show ((dam t f d).getD i []).getD 0 0 = _ ∧ ((dam t f d).getD i []).getD 1 0 = _ ∧ ((dam t f d).getD i []).getD 2 0 = _ ∧ ((dam t f d).getD i []).getD 3 0 = _ ∧ ((dam t f d).getD i []).getD 4 0 = _
    rw [dam_ne h, if_neg h]
    exact ⟨rfl, rfl, rfl, rfl, rfl⟩
theorem row5 {r : List Int} (h : RowOk S5 r) : ∃ a b c d e, r = [a, b, c, d, e] ∧ CTok (.fl .f32) a ∧ CTok (.fl .f32) b ∧ CTok (.fl .f32) c ∧ CTok (.fl .f32) d ∧ CTok (.int .i64) e := by
  have hl := h.length
  obtain ⟨a, r1, rfl, h1⟩ := cons_of (n := 4) hl
  obtain ⟨b, r2, rfl, h2⟩ := cons_of h1
  obtain ⟨c, r3, rfl, h3⟩ := cons_of h2
  obtain ⟨d, r4, rfl, h4⟩ := cons_of h3
  obtain ⟨e, r5, rfl, h5⟩ := cons_of h4
  obtain rfl := nil_of h5
  exact ⟨a, b, c, d, e, rfl, h.1, h.2.1, h.2.2.1, h.2.2.2.1, h.2.2.2.2.1⟩
theorem ct_nat {d : Nat} (h : d < 4294967296) : CTok (.fl .f32) (d : Int) := by
  exact ⟨Int.natCast_nonneg _, by omega⟩
theorem rows_getD {t : List (List Int)} {r : List Int} (h : r ∈ t) : ∃ i, i < t.length ∧ t.getD i [] = r := by
  obtain ⟨i, hi, e⟩ := List.mem_iff_getElem.1 h
  exact ⟨i, hi, by rw [List.getD_eq_getElem?_getD, List.getElem?_eq_getElem hi]; exact e⟩
theorem dam_ok {t : List (List Int)} (hc : ChOk t) {f d : Nat} (hf : f < t.length) (hd : d ≤ 1065353216) : ChOk (dam t f d) := by
  refine ⟨?_, by rw [dam_len]; exact hc.n1, by rw [dam_len]; exact hc.n2, fun i hi => ?_, fun i hi => ?_⟩
  · intro r hr
    obtain ⟨i, hi, e⟩ := rows_getD hr
    rw [dam_len] at hi
    by_cases h : i = f
    · subst h
      rw [dam_eq hi] at e
      have ho := hc.rows.get hi
      rw [← e]
      exact ⟨ho.get (j := 0) rfl, ho.get (j := 1) rfl, ho.get (j := 2) rfl, ct_nat (by omega), ho.get (j := 4) rfl, trivial⟩
    · rw [dam_ne h] at e
      rw [← e]
      exact hc.rows.get hi
  · rw [dam_len] at hi
    obtain ⟨e0, e1, e2, e3, e4⟩ := dam_ic (t := t) (f := f) (d := d) (i := i) hf
    have k := hc.flue i hi
    have g0 : fc (dam t f d) i 0 = fc t i 0 := congrArg Int.toNat e0
    have g1 : fc (dam t f d) i 1 = fc t i 1 := congrArg Int.toNat e1
    have g2 : fc (dam t f d) i 2 = fc t i 2 := congrArg Int.toNat e2
    have g3 : fc (dam t f d) i 3 = (if i = f then (d : Int) else ic t i 3).toNat := congrArg Int.toNat e3
    rw [g0, g1, g2, g3]
    refine ⟨k.h, k.w, ?_, k.h1, k.h2, k.w1, k.w2, k.tn, k.t0, k.t1, k.t2⟩
    split
    · exact hd
    · exact k.d
  · rw [dam_len] at hi ⊢
    obtain ⟨e0, e1, e2, e3, e4⟩ := dam_ic (t := t) (f := f) (d := d) (i := i) hf
    rw [e4]
    rcases hc.into i hi with h | ⟨h1, h2, h3, h4⟩
    · exact .inl h
    · refine .inr ⟨h1, h2, h3, ?_⟩
      rw [(dam_ic (t := t) (f := f) (d := d) (i := (ic t i 4).toNat) hf).2.2.2.2]
      exact h4
/-- so many parts of 64 -/
noncomputable def dv (i : Nat) : Nat := fdiv .f32 (ofInt .f32 (i : Int)) 1115684864
theorem dv_le : ∀ i : Fin 65, fdiv .f32 (ofInt .f32 ((i.val : Nat) : Int)) 1115684864 ≤ 1065353216 := by decide +kernel
theorem dv_share {i : Nat} (h : i < 65) : dv i ≤ 1065353216 := dv_le ⟨i, h⟩
section
variable {t : List (List Int)} {o w : Nat} (hc : ChOk t) (hw : WOk o w) {f : Nat} (hf : f < t.length) (x1 : Nat)
include hc hw hf
theorem find_both : ∀ (k i fuel fuel' : Nat) (s : List (List Int)), i + k = 65 → k < fuel → k < fuel' → s.length = t.length → (∀ d, dam s f d = dam t f d) → ∃ c v s1 s2, (c = 0 ∨ c = 1) ∧ r28l0 fuel (f : Int) x1 o w (i : Int) t = (c, v) ∧ r29l0 fuel' (f : Int) x1 o w (i : Int) s = (c, v, s1, s2) := by
  have n2 := hc.n2
  intro k
  induction k with
  | zero =>
    intro i fuel fuel' s h h1 h2 hs hd
    obtain ⟨m, rfl⟩ : ∃ m, fuel = m + 1 := ⟨fuel - 1, by omega⟩
    obtain ⟨m', rfl⟩ : ∃ m, fuel' = m + 1 := ⟨fuel' - 1, by omega⟩
    refine ⟨1, 0, [], s, .inr rfl, ?_, ?_⟩
    · show b28l0 (r28l0 m) _ _ _ _ _ _ = _
      unfold b28l0
      rw [decide_eq_false (show ¬ ((i : Nat) : Int) ≤ 64 by omega)]; rfl
    · show b29l0 (r29l0 m') _ _ _ _ _ _ = _
      unfold b29l0
      rw [decide_eq_false (show ¬ ((i : Nat) : Int) < 65 by omega)]; rfl
  | succ k ih =>
    intro i fuel fuel' s h h1 h2 hs hd
    obtain ⟨m, rfl⟩ : ∃ m, fuel = m + 1 := ⟨fuel - 1, by omega⟩
    obtain ⟨m', rfl⟩ : ∃ m, fuel' = m + 1 := ⟨fuel' - 1, by omega⟩
    have hdi : dv i ≤ 1065353216 := dv_share (by omega)
    have ck := dam_ok hc hf hdi
    have e69 : r69 (f : Int) (fdiv .f32 (ofInt .f32 (i : Int)) 1115684864) t = (0, dam t f (dv i)) := by
      unfold r69
      simp only [List.nil_append, Int.toNat_natCast]
      rw [show Nat.ble ((0 + t.length) * 25) 140737488355328 = true from Nat.ble_eq_true_of_le (by omega), dle0, blt_t hf]
      rfl
    have es := flowsS ck hw
    have ei := flowsI ck hw
    have hls : f < (flows (dam t f (dv i)) o w).length := by rw [flows_len, dam_len]; exact hf
    have emod : s.modify f (fun r => spl 5 r 3 [(((fdiv .f32 (ofInt .f32 (i : Int)) 1115684864) : Nat) : Int)]) = dam t f (dv i) := hd (dv i)
    have ih' := ih (i + 1) m m' (dam t f (dv i)) (by omega) (by omega) (by omega) (dam_len _ _ _) (fun d => dam_dam t f (dv i) d)
    have hget : Int.toNat (((dam t f (dv i)).getD f []).getD 3 0) = dv i := by rw [dam_eq hf]; rfl
    show ∃ c v s1 s2, (c = 0 ∨ c = 1) ∧ b28l0 (r28l0 m) _ _ _ _ _ _ = (c, v) ∧ b29l0 (r29l0 m') _ _ _ _ _ _ = (c, v, s1, s2)
    unfold b28l0 b29l0
    simp only [Int.toNat_natCast, e69, es, emod, ei, hget]
    rw [decide_eq_true (show ((i : Nat) : Int) ≤ 64 by omega), decide_eq_true (show ((i : Nat) : Int) < 65 by omega), dle0, blt_t hls, blt_t (show f < s.length by omega), blt_t (show f < (dam t f (dv i)).length by rw [dam_len]; exact hf), wrap_succ (by omega)]
    simp only [cond_true, Bool.and_self, Nat.beq, beq_self_eq_true]
    cases (fgt .f32 (Int.toNat (((flows (dam t f (dv i)) o w).getD f []).getD 0 0)) x1 || feq .f32 (Int.toNat (((flows (dam t f (dv i)) o w).getD f []).getD 0 0)) x1) with
    | true => exact ⟨0, dv i, _, _, .inl rfl, rfl, rfl⟩
    | false => exact ih'
end
theorem plain5 (x0 : Int) (x1 x2 x3 : Nat) (x4 : List (List Int)) (_ : IntKind.i64.has x0) (h1 : x1 < 4294967296) (h2 : x2 < 4294967296) (h3 : x3 < 4294967296) (k4 : RowsOk S5 x4) (l4 : x4.length ≤ 9223372036854775807) : r5 x0 x1 x2 x3 x4 = (0, true) := by
  unfold r5
  rcases szC l4 with g | ⟨g, g2⟩
  · rw [decide_eq_true g]; rfl
  rw [decide_eq_false (show ¬ r24 1048576 x4 < 0 by omega), copyC k4 g2, selfC g2]
  obtain ⟨c, e1, e2, hc⟩ := code_both k4 g2 x2 x3 h2 h3
  have key : ∃ p, r28 x0 x1 x2 x3 x4 = (0, p) ∧ r29 x0 x1 x2 x3 x4 = (0, p) := by
    unfold r28 r29
    rw [e1, e2, (amount_eq x1 h1).1, (amount_eq x1 h1).2]
    rcases hc with hc | ⟨rfl, ck, wk⟩
    · refine ⟨(0, c), ?_, ?_⟩ <;> simp only [Nat.beq, cond_true] <;> rw [show (c != 0) = true from bne_iff_ne.2 hc] <;> rfl
    · have n6 := ck.n2
      simp only [Nat.beq, cond_true]
      rw [show ((0 : Int) != 0) = false from rfl, cond_false, cond_false, wrap_i64 (by omega) (by omega)]
      unfold r63
      by_cases h0 : x0 < 0
      · rw [decide_eq_true h0, decide_eq_false (show ¬ x0 ≥ 0 by omega)]
        exact ⟨(0, 2), rfl, rfl⟩
      · rw [decide_eq_false h0, decide_eq_true (show x0 ≥ 0 by omega)]
        by_cases hn : x0 ≥ (x4.length : Int)
        · rw [decide_eq_true hn, decide_eq_false (show ¬ x0 ≤ (x4.length : Int) - 1 by omega)]
          exact ⟨(0, 2), rfl, rfl⟩
        · rw [decide_eq_false hn, decide_eq_true (show x0 ≤ (x4.length : Int) - 1 by omega)]
          obtain ⟨k, rfl⟩ : ∃ k : Nat, x0 = (k : Int) := ⟨x0.toNat, by omega⟩
          by_cases ha : x1 < 2139095040
          · rw [decide_eq_true ha]
            have e71 : r71 x4 = (0, x4) := by
              unfold r71
              rw [show Nat.ble ((0 + x4.length) * 25) 140737488355328 = true from Nat.ble_eq_true_of_le (by omega)]
              rfl
            obtain ⟨c, v, s1, s2, hcc, d1, d2⟩ := find_both ck wk (f := k) (by omega) x1 65 0 (1000 + x4.length) (1000 + x4.length) x4 (by omega) (by omega) (by omega) rfl (fun _ => rfl)
            have d1' : r28l0 (1000 + x4.length) (k : Int) x1 x2 x3 0 x4 = (c, v) := d1
            have d2' : r29l0 (1000 + x4.length) (k : Int) x1 x2 x3 0 x4 = (c, v, s1, s2) := d2
            rw [e71]
            dsimp only
            rw [d1', d2']
            rcases hcc with rfl | rfl
            · exact ⟨_, rfl, rfl⟩
            · exact ⟨_, rfl, rfl⟩
          · rw [decide_eq_false ha]
            exact ⟨(0, 2), rfl, rfl⟩
  obtain ⟨p, k1, k2⟩ := key
  simp only [k1, k2, float_self, bne_self_eq_false]
  rfl
end Go.Proofs.Ytdpkbkmmlbmllaa
