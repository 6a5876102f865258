/- The plain law of FnDampers. -/
import Derived.Test.YtdpkbkmmlbmllaaPce2
namespace Go.Proofs.Ytdpkbkmmlbmllaa
open Go.Ab Ieee

theorem w00 : WOk 0 0 := ⟨by unfold Nn; decide, by decide, by decide +kernel, by decide +kernel, by unfold Nn; decide, by decide, by decide +kernel, by decide +kernel⟩
/-- what is valid is told so -/
theorem valid_ok {t : List (List Int)} (hc : ChOk t) : r73 t = (0, true) ∧ r50 t = (0, true) := by
  have n1 := hc.n1
  have n2 := hc.n2
  have ha : allN t.length (pC t) = true := allN_true.2 fun i hi => by
    have hib : intoB t i = true := by
      unfold intoB
      rcases hc.into i hi with h | ⟨h1, h2, h3, h4⟩
      · rw [decide_eq_true h]; rfl
      · rw [decide_eq_true (show 0 ≤ ic t i 4 ∧ ic t i 4 < t.length ∧ ic t i 4 ≠ i from ⟨h1, h2, h3⟩), decide_eq_true h4, Bool.true_and, Bool.or_true]
    have h := hc.flue i hi
    have hH := h.h
    have hW := h.w
    have hD := h.d
    have a1 : r70 (fc t i 0) = true := by rw [(amount_eq _ (by omega)).2]; exact decide_eq_true hH
    have a2 : r70 (fc t i 1) = true := by rw [(amount_eq _ (by omega)).2]; exact decide_eq_true hW
    have b1 : r108 (fc t i 0) 1031798784 1106247680 = true := by
      unfold r108
      rw [fge_sv (by unfold Nn; omega) (by unfold Nn; decide) (by omega) (by decide), fle_sv (by unfold Nn; omega) (by unfold Nn; decide) (by omega) (by decide), decide_eq_true h.h1, decide_eq_true h.h2]; rfl
    have b2 : r108 (fc t i 1) 1015021568 1082130432 = true := by
      unfold r108
      rw [fge_sv (by unfold Nn; omega) (by unfold Nn; decide) (by omega) (by decide), fle_sv (by unfold Nn; omega) (by unfold Nn; decide) (by omega) (by decide), decide_eq_true h.w1, decide_eq_true h.w2]; rfl
    have b3 : r108 (fc t i 2) 3262119936 1153138688 = true := by
      unfold r108
      rw [fge_sv h.tn (by unfold Nn; decide) h.t0 (by decide), fle_sv h.tn (by unfold Nn; decide) h.t0 (by decide), decide_eq_true h.t1, decide_eq_true h.t2]; rfl
    have d1 : r72 (fc t i 3) = true := by
      unfold r72
      rw [(amount_eq _ (by omega)).2, decide_eq_true (show fc t i 3 < 2139095040 by omega), fle_sv (by unfold Nn; omega) (by unfold Nn; decide) (by omega) (by decide)]
      refine decide_eq_true ?_
      rw [sv_pos (by omega), sv_pos (by decide)]
      exact Int.ofNat_le.2 (rv_le hD)
    unfold pC flueB r87
    rw [hib, a1, a2, b1, b2, b3, d1]
    rfl
  unfold r73 r50
  rw [loopS hc.rows (by omega) (by omega), loopI (by omega) (by omega), ha]
  unfold r63
  rw [decide_eq_true (show (((t.length : Nat) : Int)) ≥ 1 by omega), decide_eq_false (show ¬ (((t.length : Nat) : Int)) < 1 by omega), decide_eq_true (show (((t.length : Nat) : Int)) ≤ 6 by omega), decide_eq_false (show ¬ (((t.length : Nat) : Int)) > 6 by omega)]
  exact ⟨rfl, rfl⟩
theorem code_ok {t : List (List Int)} (hc : ChOk t) {o w : Nat} (hw : WOk o w) : r57 o w t = (0, 0) ∧ r54 o w t = (0, 0) := by
  obtain ⟨v1, v2⟩ := valid_ok hc
  have h1 : r91 o = true := by
    unfold r91 r108
    rw [fge_sv hw.on (by unfold Nn; decide) hw.o0 (by decide), fle_sv hw.on (by unfold Nn; decide) hw.o0 (by decide), decide_eq_true hw.o1, decide_eq_true hw.o2]; rfl
  have h2 : r92 w = true := by
    unfold r92 r108
    rw [fge_sv hw.wn (by unfold Nn; decide) hw.w0 (by decide), fle_sv hw.wn (by unfold Nn; decide) hw.w0 (by decide), decide_eq_true hw.w1, decide_eq_true hw.w2]; rfl
  unfold r57 r54
  rw [v1, v2, out_eq, push_eq, h1, h2]
  exact ⟨rfl, rfl⟩
/-- does a damper do? -/
noncomputable def doB (t : List (List Int)) (o w f x1 j : Nat) : Bool := fgt .f32 (fl (dam t f (dv j)) o w f) x1 || feq .f32 (fl (dam t f (dv j)) o w f) x1
section
variable {t : List (List Int)} {o w : Nat} (hc : ChOk t) (hw : WOk o w) {f : Nat} (hf : f < t.length) (x1 : Nat)
include hc hw hf
theorem find_least : ∀ (k i fuel : Nat), i + k = 65 → k < fuel → (∃ j, i ≤ j ∧ j < 65 ∧ r28l0 fuel (f : Int) x1 o w (i : Int) t = (0, dv j) ∧ doB t o w f x1 j = true ∧ ∀ j', i ≤ j' → j' < j → doB t o w f x1 j' = false) ∨ r28l0 fuel (f : Int) x1 o w (i : Int) t = (1, 0) := by
  have n2 := hc.n2
  intro k
  induction k with
  | zero =>
    intro i fuel h h1
    obtain ⟨m, rfl⟩ : ∃ m, fuel = m + 1 := ⟨fuel - 1, by omega⟩
    refine .inr ?_
    show b28l0 (r28l0 m) _ _ _ _ _ _ = _
    unfold b28l0
    rw [decide_eq_false (show ¬ ((i : Nat) : Int) ≤ 64 by omega)]; rfl
  | succ k ih =>
    intro i fuel h h1
    obtain ⟨m, rfl⟩ : ∃ m, fuel = m + 1 := ⟨fuel - 1, by omega⟩
    have hdi : dv i ≤ 1065353216 := dv_share (by omega)
    have ck := dam_ok hc hf hdi
    have e69 : r69 (f : Int) (fdiv .f32 (ofInt .f32 (i : Int)) 1115684864) t = (0, dam t f (dv i)) := by
      unfold r69
      simp only [List.nil_append, Int.toNat_natCast]
      rw [show Nat.ble ((0 + t.length) * 25) 140737488355328 = true from Nat.ble_eq_true_of_le (by omega), dle0, blt_t hf]
      rfl
    have es := flowsS ck hw
    have hls : f < (flows (dam t f (dv i)) o w).length := by rw [flows_len, dam_len]; exact hf
    have hg : Int.toNat (((flows (dam t f (dv i)) o w).getD f []).getD 0 0) = fl (dam t f (dv i)) o w f := flows_get (by rw [dam_len]; exact hf)
    have step : r28l0 (m + 1) (f : Int) x1 o w (i : Int) t = cond (doB t o w f x1 i) (0, dv i) (r28l0 m (f : Int) x1 o w ((i + 1 : Nat) : Int) t) := by
      show b28l0 (r28l0 m) _ _ _ _ _ _ = _
      unfold b28l0 doB
      simp only [Int.toNat_natCast, e69, es, hg]
      rw [decide_eq_true (show ((i : Nat) : Int) ≤ 64 by omega), dle0, blt_t hls, wrap_succ (by omega)]
      simp only [cond_true, Bool.and_self, Nat.beq, beq_self_eq_true]
      rfl
    rw [step]
    cases e : doB t o w f x1 i with
    | true => exact .inl ⟨i, Nat.le_refl _, by omega, rfl, e, fun j' h1 h2 => by omega⟩
    | false =>
      rcases ih (i + 1) m (by omega) (by omega) with ⟨j, g1, g2, g3, g4, g5⟩ | g
      · refine .inl ⟨j, by omega, g2, g3, g4, fun j' h1 h2 => ?_⟩
        by_cases hj : j' = i
        · rw [hj]; exact e
        · exact g5 j' (by omega) h2
      · exact .inr g
theorem dampers_eq (hx : x1 < 2139095040) : (∃ j, j < 65 ∧ r28 (f : Int) x1 o w t = (0, dv j, 0) ∧ r29 (f : Int) x1 o w t = (0, dv j, 0) ∧ doB t o w f x1 j = true ∧ ∀ j', j' < j → doB t o w f x1 j' = false) ∨ (r28 (f : Int) x1 o w t = (0, 0, 6) ∧ r29 (f : Int) x1 o w t = (0, 0, 6)) := by
  have n6 := hc.n2
  obtain ⟨c, e1, e2, hcc⟩ := code_both hc.rows (by omega) o w hw.o0 hw.w0
  have c0' : c = 0 := by
    obtain ⟨b, v1, v2, _⟩ := valid_both hc.rows (by omega : t.length ≤ 1048576)
    rcases hcc with h | h
    · exfalso
      have := (code_ok hc hw).1
      rw [e1] at this
      exact h (congrArg Prod.snd this)
    · exact h.1
  subst c0'
  have e71 : r71 t = (0, t) := by
    unfold r71
    rw [show Nat.ble ((0 + t.length) * 25) 140737488355328 = true from Nat.ble_eq_true_of_le (by omega)]
    rfl
  have hle := find_least hc hw hf x1 65 0 (1000 + t.length) (by omega) (by omega)
  obtain ⟨c, v, s1, s2, hc2, d1, d2⟩ := find_both hc hw hf x1 65 0 (1000 + t.length) (1000 + t.length) t (by omega) (by omega) (by omega) rfl (fun _ => rfl)
  have d1' : r28l0 (1000 + t.length) (f : Int) x1 o w 0 t = (c, v) := d1
  have d2' : r29l0 (1000 + t.length) (f : Int) x1 o w 0 t = (c, v, s1, s2) := d2
  have k28 : r28 (f : Int) x1 o w t = cond (Nat.beq c 0) (0, v, 0) (cond (Nat.beq c 1) (0, 0, 6) (1, 0, 0)) := by
    unfold r28
    simp only [e1, d1', (amount_eq x1 (by omega)).1, decide_eq_true hx]
    unfold r63
    rw [wrap_i64 (by omega) (by omega), decide_eq_true (show (f : Int) ≥ 0 by omega), decide_eq_true (show (f : Int) ≤ (t.length : Int) - 1 by omega)]
    rfl
  have k29 : r29 (f : Int) x1 o w t = cond (Nat.beq c 0) (0, v, 0) (cond (Nat.beq c 1) (0, 0, 6) (1, 0, 0)) := by
    unfold r29
    simp only [e2, e71, d2', (amount_eq x1 (by omega)).2, decide_eq_true hx]
    rw [decide_eq_false (show ¬ (f : Int) < 0 by omega), decide_eq_false (show ¬ (f : Int) ≥ (t.length : Int) by omega)]
    rfl
  rcases hle with ⟨j, _, g2, g3, g4, g5⟩ | g
  · have g3' : r28l0 (1000 + t.length) (f : Int) x1 o w 0 t = _ := g3
    rw [d1'] at g3'
    cases g3'
    exact .inl ⟨j, g2, k28, k29, g4, fun j' h => g5 j' (Nat.zero_le _) h⟩
  · have g' : r28l0 (1000 + t.length) (f : Int) x1 o w 0 t = _ := g
    rw [d1'] at g'
    cases g'
    exact .inr ⟨k28, k29⟩
end
/-- a chimney that is valid in a weather that is -/
theorem set_both {t : List (List Int)} (hc : ChOk t) {f d : Nat} (hf : f < t.length) (hd : d ≤ 1065353216) : r34 (f : Int) d t = (1, 0, dam t f d) ∧ r35 (f : Int) d t = (0, 0, dam t f d) := by
  have n6 := hc.n2
  obtain ⟨v1, v2⟩ := valid_ok hc
  have hs : r72 d = true := by
    unfold r72
    rw [(amount_eq d (by omega)).2, decide_eq_true (show d < 2139095040 by omega), fle_sv (by unfold Nn; omega) (by unfold Nn; decide) (by omega) (by decide)]
    refine decide_eq_true ?_
    rw [sv_pos (by omega), sv_pos (by decide)]
    exact Int.ofNat_le.2 (rv_le hd)
  have e71 : r71 t = (0, t) := by
    unfold r71
    rw [show Nat.ble ((0 + t.length) * 25) 140737488355328 = true from Nat.ble_eq_true_of_le (by omega)]
    rfl
  have e69 : r69 (f : Int) d t = (0, dam t f d) := by
    unfold r69
    simp only [List.nil_append, Int.toNat_natCast]
    rw [show Nat.ble ((0 + t.length) * 25) 140737488355328 = true from Nat.ble_eq_true_of_le (by omega), dle0, blt_t hf]
    rfl
  constructor
  · unfold r34
    simp only [v2, e71, hs, Int.toNat_natCast]
    rw [decide_eq_false (show ¬ (f : Int) < 0 by omega), decide_eq_false (show ¬ (f : Int) ≥ (t.length : Int) by omega), dle0, blt_t hf]
    rfl
  · unfold r35
    simp only [v1, share_eq d (by omega), hs, e69]
    unfold r63
    rw [wrap_i64 (by omega) (by omega), decide_eq_true (show (f : Int) ≥ 0 by omega), decide_eq_true (show (f : Int) ≤ (t.length : Int) - 1 by omega)]
    rfl
theorem same60 (x : Nat) : r60 x x = true := by
  unfold r60
  cases feq .f32 x x <;> simp
theorem same36 {l : List (List Int)} (hl : l.length ≤ 1048576) : r36b l l = (0, true) := by
  have key : r75l0b (1000 + l.length + l.length) 0 l l = 1 := by
    have := all_loop (n := l.length) (p := fun _ => true) (yes := 1) (no := 0) (G := fun m i => r75l0b m i l l) (fuel := 1000 + l.length + l.length) ?_ ?_ (by omega)
    · rw [this, show allN l.length (fun _ => true) = true from allN_true.2 (fun _ _ => rfl)]; rfl
    · intro m
      show b75l0b (r75l0b m) _ _ _ = _
      unfold b75l0b
      rw [dlt_f (Nat.lt_irrefl _)]; rfl
    · intro m i hi
      show b75l0b (r75l0b m) _ _ _ = _
      unfold b75l0b
      simp only [same60, bne_self_eq_false]
      rw [dlt_t hi, dle0, Int.toNat_natCast, blt_t hi, wrap_succ (by omega)]
      rfl
  have e : r75b l l = (0, true) := by
    unfold r75b
    rw [key, bne_len]; simp [Nat.beq]
  unfold r36b
  rw [e]; rfl
theorem flowsOf_ok {t : List (List Int)} {o w : Nat} (hc : ChOk t) (hw : WOk o w) : r15 o w t = (1, 0, flows t o w) := by
  have n6 := hc.n2
  have hf := fin_all (l := flows t o w) (by rw [flows_len]; omega) (fun i hi => by
    rw [flows_len] at hi
    rw [flows_get hi]; exact (fl_ok hc hw hi).1)
  unfold r15
  simp only [(code_ok hc hw).2, flowsI hc hw, hf]
  rfl
/-! ### the numbers of the law -/
theorem share16 : ∀ i : Fin 17, fdiv .f32 (ofInt .f32 ((i.val : Nat) : Int)) 1098907648 ≤ 1065353216 := by decide +kernel
theorem flow16 : ∀ i : Fin 12, fdiv .f32 (ofInt .f32 ((1 + i.val : Nat) : Int)) 1098907648 < 2139095040 ∧ 0 < sv (fdiv .f32 (ofInt .f32 ((1 + i.val : Nat) : Int)) 1098907648) := by decide +kernel
theorem dv_pos : ∀ i : Fin 64, (flt .f32 (fdiv .f32 (ofInt .f32 ((i.val + 1 : Nat) : Int)) 1115684864) 0 || feq .f32 (fdiv .f32 (ofInt .f32 ((i.val + 1 : Nat) : Int)) 1115684864) 0) = false := by decide +kernel
theorem dv_less : ∀ i : Fin 64, fsub .f32 (fdiv .f32 (ofInt .f32 ((i.val + 1 : Nat) : Int)) 1115684864) 1015021568 = fdiv .f32 (ofInt .f32 ((i.val : Nat) : Int)) 1115684864 := by decide +kernel
theorem dv_feq : ∀ i : Fin 65, feq .f32 (fdiv .f32 (ofInt .f32 ((i.val : Nat) : Int)) 1115684864) (fdiv .f32 (ofInt .f32 ((i.val : Nat) : Int)) 1115684864) = true := by decide +kernel
theorem fl_shut {t : List (List Int)} (f o w : Nat) (hf : f < t.length) : fl (dam t f (dv 0)) o w f = 0 := by
  have e : fc (dam t f (dv 0)) f 3 = 0 := by
    have := (dam_ic (t := t) (f := f) (d := dv 0) (i := f) hf).2.2.2.1
    rw [if_pos rfl] at this
    have e2 : fc (dam t f (dv 0)) f 3 = dv 0 := congrArg Int.toNat this
    rw [e2]
    show fdiv .f32 (ofInt .f32 ((0 : Nat) : Int)) 1115684864 = 0
    decide +kernel
  have k : ∀ p, flo (dam t f (dv 0)) o f p = 0 := fun p => by
    unfold flo thr r93
    rw [e, show feq .f32 0 0 = true from by decide +kernel]; rfl
  unfold fl
  rw [k, k]
  split <;> rfl
theorem doB_sv {t : List (List Int)} (hc : ChOk t) {f x1 j : Nat} (hf : f < t.length) (hj : j < 65) (hx : x1 < 2139095040) : doB t 0 0 f x1 j = decide (sv x1 ≤ sv (fl (dam t f (dv j)) 0 0 f)) ∧ flt .f32 (fl (dam t f (dv j)) 0 0 f) x1 = decide (sv (fl (dam t f (dv j)) 0 0 f) < sv x1) := by
  have ck := dam_ok hc hf (dv_share hj)
  have fo := fl_ok ck w00 (i := f) (by rw [dam_len]; exact hf)
  unfold doB
  exact ⟨fge_sv fo.1.nn (by unfold Nn; omega) fo.2 (by omega), flt_sv fo.1.nn (by unfold Nn; omega) fo.2 (by omega)⟩
theorem plain7 (x0 x1 : List (List Int)) (k0 : RowsOk SU x0) (_ : x0.length ≤ 9223372036854775807) (k1 : RowsOk SU x1) (_ : x1.length ≤ 9223372036854775807) : r7 x0 x1 = (0, true) := by
  unfold r7 r12
  by_cases h0 : x0.length ≤ 4096
  · by_cases h1 : x1.length ≤ 4096
    · rw [decide_eq_false (show ¬ ((((x0.length : Nat) : Int) : Int) > 4096) by omega), decide_eq_false (show ¬ ((((x1.length : Nat) : Int) : Int) > 4096) by omega)]
      obtain ⟨t, e13, hd⟩ := draw_ok k0 h0
      have hc := hd.ch
      have n1 := hd.n1
      have n2 := hd.n2
      obtain ⟨f, ef, hf⟩ := pick14 k1 h1 (n := t.length) (by omega)
      have hf' : f < t.length := by omega
      obtain ⟨p, ep, hp⟩ := pick14 k1 h1 (n := 17) (by omega)
      obtain ⟨q, eq, hq⟩ := pick14 k0 h0 (n := 12) (by omega)
      have ep' : r14 17 x1 = (0, (p : Int)) := ep
      have eq' : r14 12 x0 = (0, (q : Int)) := eq
      have hsh := share16 ⟨p, by omega⟩
      have hfl := flow16 ⟨q, by omega⟩
      simp only at hsh hfl
      obtain ⟨s1, s2⟩ := set_both hc hf' hsh
      have hw : IntKind.i64.wrap (1 + (q : Int)) = ((1 + q : Nat) : Int) := by rw [wrap_i64 (by omega) (by omega)]; omega
      have hself := same36 (l := dam t f (fdiv .f32 (ofInt .f32 (p : Int)) 1098907648)) (by rw [dam_len]; omega)
      generalize hF : fdiv .f32 (ofInt .f32 ((1 + q : Nat) : Int)) 1098907648 = F at hfl
      rcases dampers_eq hc w00 hf' F hfl.1 with ⟨j, j1, d1, d2, d3, d4⟩ | ⟨d1, d2⟩
      · have j0 : j ≠ 0 := fun e => by
          subst e
          rw [(doB_sv hc hf' (by decide) hfl.1).1, fl_shut f 0 0 hf', decide_eq_true_eq, c0] at d3
          omega
        obtain ⟨i, rfl⟩ : ∃ i, j = i + 1 := ⟨j - 1, by omega⟩
        obtain ⟨_, g2⟩ := set_both hc hf' (dv_share j1)
        obtain ⟨_, g4⟩ := set_both hc hf' (dv_share (i := i) (by omega))
        have ck1 := dam_ok hc hf' (dv_share j1)
        have ck2 := dam_ok hc hf' (dv_share (i := i) (by omega))
        have o1 := flowsOf_ok ck1 w00
        have o2 := flowsOf_ok ck2 w00
        have m1 : Int.toNat (((flows (dam t f (dv (i + 1))) 0 0).getD f []).getD 0 0) = _ := flows_get (by rw [dam_len]; exact hf')
        have m2 : Int.toNat (((flows (dam t f (dv i)) 0 0).getD f []).getD 0 0) = _ := flows_get (by rw [dam_len]; exact hf')
        have q1 := doB_sv hc hf' j1 hfl.1
        have q2 := doB_sv hc hf' (j := i) (by omega) hfl.1
        have d5 := d4 i (by omega)
        rw [q1.1, decide_eq_true_eq] at d3
        rw [q2.1, decide_eq_false_iff_not] at d5
        have hp1 := dv_pos ⟨i, by omega⟩
        have hl1 : fsub .f32 (dv (i + 1)) 1015021568 = dv i := dv_less ⟨i, by omega⟩
        have hq1 : feq .f32 (dv (i + 1)) (dv (i + 1)) = true := dv_feq ⟨i + 1, j1⟩
        have hp1' : (flt .f32 (dv (i + 1)) 0 || feq .f32 (dv (i + 1)) 0) = false := hp1
        have lt1 : flt .f32 (fl (dam t f (dv (i + 1))) 0 0 f) F = false := by rw [q1.2]; exact decide_eq_false (by omega)
        have lt2 : flt .f32 (fl (dam t f (dv i)) 0 0 f) F = true := by rw [q2.2]; exact decide_eq_true (by omega)
        simp only [e13, ef, ep', eq', hw, hF, s1, s2, hself, d1, d2, g2, o1, hl1, g4, o2, hq1, hp1', Int.toNat_natCast, m1, m2, lt1, lt2, flows_len, dam_len, beq_self_eq_true, bne_self_eq_false]
        rw [dle0, blt_t hf']
        rfl
      · have hq0 : feq .f32 0 0 = true := by decide +kernel
        simp only [e13, ef, ep', eq', hw, hF, s1, s2, hself, d1, d2, hq0, bne_self_eq_false]
        rfl
    · rw [decide_eq_true (show ((((x1.length : Nat) : Int) : Int) > 4096) by omega)]
      cases decide ((((x0.length : Nat) : Int) : Int) > 4096) <;> rfl
  · rw [decide_eq_true (show ((((x0.length : Nat) : Int) : Int) > 4096) by omega)]; rfl
end Go.Proofs.Ytdpkbkmmlbmllaa
