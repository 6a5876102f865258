/- Numbers of logs: both ways of asking. -/
import Derived.Test.YtbmagccjcccnaaaSd7
import Derived.Test.YtbmagccjcccnaaaA28
namespace Go.Proofs.Ytbmagccjcccnaaa
open Go.Ab

theorem fin_spec (d : Nat) : r102 d = decide (d % 2147483648 < 2139095040) := finite_sub d
theorem fin_impl (d : Nat) : r104 d = decide (d % 2147483648 < 2139095040) := by
  have e : r122 (widen d) 0 = decide (d % 2147483648 = 2139095040) := abs_top d
  unfold r104 r121
  rw [e, feq_self, isN_widen, isN32]
  by_cases h1 : 2139095040 < d % 2147483648
  · have h2 : ¬ (d % 2147483648 < 2139095040) := by omega
    simp [h1, h2]
  · by_cases h2 : d % 2147483648 = 2139095040
    · simp [h2]
    · have h3 : d % 2147483648 < 2139095040 := by omega
      simp [h1, h2, h3]
theorem amount_eq (d : Nat) (h : d < 4294967296) : r91 d = decide (d < 2139095040) ∧ r100 d = decide (d < 2139095040) := by
  unfold r91 r100
  rw [fin_spec, fin_impl]
  by_cases h1 : d % 2147483648 < 2139095040
  · have hn : isN .f32 d = false := by rw [isN32, decide_eq_false_iff_not]; omega
    have z : isN .f32 0 = false := by decide
    rw [decide_eq_true h1]
    rw [fgt_key .f32 d _ hn z, feq_key .f32 d _ hn z, key32 d h, key32 0 (by decide)]
    have e31 : (min (31 : Int).toNat (IntKind.bits .u32)) = 31 := by decide
    have ef : Int.fdiv (d : Int) (2 ^ 31) = ((d / 2147483648 : Nat) : Int) := by
      rw [Int.fdiv_eq_ediv_of_nonneg _ (by decide)]; rfl
    rw [e31, ef]
    by_cases h2 : 2147483648 ≤ d
    · have g1 : ¬ d < 2139095040 := by omega
      have g2 : d / 2147483648 = 1 := by omega
      have g3 : ((d : Int) == 0) = false := by rw [beq_eq_false_iff_ne]; omega
      have g4 : ¬ ((d : Int) < 2147483648) := by omega
      simp only [if_pos h2, g2]
      simp [g1, g3, g4, hn]
    · have g1 : d < 2139095040 := by omega
      have g2 : d / 2147483648 = 0 := by omega
      simp only [if_neg h2, g2]
      by_cases h3 : d = 0
      · subst h3; simp [hn]
      · have g5 : 0 < d := by omega
        simp [g1, g5]
  · have g1 : ¬ d < 2139095040 := by omega
    rw [decide_eq_false h1, decide_eq_false g1]
    exact ⟨rfl, rfl⟩
theorem upto_eq {β : Type} (d m : Nat) (h : d < 4294967296) (hm : isN .f32 m = false) (F R : β) : cond (!(r100 d)) F (cond (fgt .f32 d m) F R) = cond (!(r85 d m)) F R := by
  unfold r85
  rw [(amount_eq d h).1, (amount_eq d h).2]
  by_cases h1 : d < 2139095040
  · have hn : isN .f32 d = false := by rw [isN32, decide_eq_false_iff_not]; omega
    rw [decide_eq_true h1, fgt_key .f32 d m hn hm, flt_key .f32 d m hn hm, feq_key .f32 d m hn hm]
    generalize key FloatKind.f32.format d = x
    generalize key FloatKind.f32.format m = y
    rcases Int.lt_trichotomy x y with g | g | g
    · have g2 : ¬ y < x := by omega
      simp [g, g2]
    · subst g; simp
    · have g2 : ¬ x < y := by omega
      have g3 : ¬ x = y := by omega
      simp [g, g2, g3]
  · rw [decide_eq_false h1]; rfl
theorem within_eq {β : Type} (d : Nat) (F R : β) : cond (fgt .f32 d 3262119936 || feq .f32 d 3262119936) (cond (!(flt .f32 d 1153138688 || feq .f32 d 1153138688)) F R) F = cond (!(r86 d 3262119936 1153138688)) F R := by
  unfold r86
  cases (fgt .f32 d 3262119936 || feq .f32 d 3262119936) <;> cases (flt .f32 d 1153138688 || feq .f32 d 1153138688) <;> rfl
theorem share_eq (d : Nat) (h : d < 4294967296) : r82 d = r77 d := by
  unfold r82 r77
  rw [(amount_eq d h).1, (amount_eq d h).2]



/-! ### layers -/
/-- what the heat of a layer may be -/
def Ht (h : Nat) : Prop := h ≤ 1153138688 ∨ (2147483648 ≤ h ∧ h ≤ 3262119936)
/-- what a layer may be -/
def Ly (w h f : Nat) : Prop := w ≤ 1092616192 ∧ Ht h ∧ f ≤ 1092616192
theorem Ht.fi {h : Nat} (a : Ht h) : Fi h := by unfold Fi; rcases a with a | ⟨a, b⟩ <;> omega
theorem Ht.le {h : Nat} (a : Ht h) : Le h 1153138688 := by unfold Le; rcases a with a | ⟨a, b⟩ <;> omega
theorem Ht.lt {h : Nat} (a : Ht h) : h < 4294967296 := by rcases a with a | ⟨a, b⟩ <;> omega
theorem upto_le {d m : Nat} (hd : d < 4294967296) (hm : m < 2139095040) (h : r85 d m = true) : d ≤ m := by
  unfold r85 at h
  rw [(amount_eq d hd).1] at h
  by_cases h1 : d < 2139095040
  · rw [decide_eq_true h1, cond_true, feq_of (by unfold Nn; omega) (by unfold Nn; omega) hd (by omega), flt_pos (by omega) (by omega), if_neg (by omega), if_neg (by omega), Bool.or_eq_true, decide_eq_true_eq, decide_eq_true_eq] at h
    omega
  · rw [decide_eq_false h1] at h; cases h
theorem within_ht {h : Nat} (hd : h < 4294967296) (e : r86 h 3262119936 1153138688 = true) : Ht h := by
  unfold r86 at e
  cases hn : isN .f32 h with
  | true => rw [fgt_nan_l hn, feq_nan_l hn] at e; cases e
  | false =>
    have hN := nn_isN.1 hn
    rw [fgt_flt, flt_of (by unfold Nn; omega) hN (by omega) hd, feq_of hN (by unfold Nn; omega) hd (by omega), flt_of hN (by unfold Nn; omega) hd (by omega), feq_of hN (by unfold Nn; omega) hd (by omega)] at e
    unfold Nn at hN
    by_cases h1 : 2147483648 ≤ h
    · simp only [if_pos h1, if_pos (show 2147483648 ≤ 3262119936 by omega), if_neg (show ¬ 2147483648 ≤ 1153138688 by omega)] at e
      by_cases h2 : (2147483648 - ((3262119936 : Nat) : Int) < 2147483648 - (h : Int)) ∨ (2147483648 - (h : Int) = 2147483648 - ((3262119936 : Nat) : Int))
      · exact .inr ⟨h1, by omega⟩
      · rw [decide_eq_false (fun g => h2 (.inl g)), decide_eq_false (fun g => h2 (.inr g))] at e; cases e
    · simp only [if_neg h1, if_pos (show 2147483648 ≤ 3262119936 by omega), if_neg (show ¬ 2147483648 ≤ 1153138688 by omega)] at e
      by_cases h2 : ((h : Int) < ((1153138688 : Nat) : Int)) ∨ ((h : Int) = ((1153138688 : Nat) : Int))
      · exact .inl (by omega)
      · rw [decide_eq_false (fun g => h2 (.inl g)), decide_eq_false (fun g => h2 (.inr g)), decide_eq_true (show 2147483648 - ((3262119936 : Nat) : Int) < (h : Int) by omega)] at e
        cases e
theorem cond_not {a b : Bool} (h : cond (!a) false b = true) : a = true ∧ b = true := by cases a <;> cases b <;> first | exact ⟨rfl, rfl⟩ | cases h
theorem mass_le {w f : Nat} (hw : w ≤ 1092616192) (hf : f ≤ 1092616192) : 1048576000 ≤ r108 w f ∧ r108 w f ≤ 1115684864 := by
  have g1 : fmul .f32 w 1082130432 ≤ 1109393408 := prod_pos hw (Nat.le_refl _) (by omega) (by omega) (by omega) (by decide +kernel)
  have g2 : fmul .f32 f 1073741824 ≤ 1101004800 := prod_pos hf (Nat.le_refl _) (by omega) (by omega) (by omega) (by decide +kernel)
  have g3 : fadd .f32 (fmul .f32 w 1082130432) (fmul .f32 f 1073741824) ≤ 1114636288 := sum_pos g1 g2 (by omega) (by omega) (by omega) (by decide +kernel)
  refine ⟨?_, ?_⟩
  · exact sum_ge (by omega) (by omega)
  · exact sum_pos g3 (Nat.le_refl _) (by omega) (by omega) (by omega) (by decide +kernel)
theorem held_ht {x : Nat} (h : Nn x) (hx : x < 4294967296) : Ht (r114 x 3262119936 1153138688) := by
  unfold r114
  rw [fgt_flt, flt_of h (by unfold Nn; omega) hx (by omega), flt_of (by unfold Nn; omega) h (by omega) hx]
  rw [if_pos (show 2147483648 ≤ 3262119936 by omega), if_neg (show ¬ 2147483648 ≤ 1153138688 by omega)]
  unfold Nn at h
  by_cases h1 : 2147483648 ≤ x
  · rw [if_pos h1]
    by_cases h2 : 2147483648 - (x : Int) < 2147483648 - ((3262119936 : Nat) : Int)
    · rw [decide_eq_true h2]; exact (show Ht 3262119936 from .inr ⟨by omega, by omega⟩)
    · rw [decide_eq_false h2, decide_eq_false (by omega)]; exact (show Ht x from .inr ⟨h1, by omega⟩)
  · rw [if_neg h1]
    rw [decide_eq_false (show ¬ ((x : Int) < 2147483648 - ((3262119936 : Nat) : Int)) by omega)]
    by_cases h2 : ((1153138688 : Nat) : Int) < (x : Int)
    · rw [decide_eq_true h2]; exact (show Ht 1153138688 from .inl (by omega))
    · rw [decide_eq_false h2]; exact (show Ht x from .inl (by omega))
/-- the flow between two layers -/
theorem flow_fi {g h t : Nat} (hg : Ht g) (hh : Ht h) (ht : t ≤ 1065353216) : Fi (fmul .f32 (fmul .f32 1048576000 (fsub .f32 g h)) t) := by
  have g1 : Le (fsub .f32 g h) 1161527296 := diff_le hg.le hh.le (by omega) (by omega) (by omega) (by decide +kernel)
  have g2 : Le (fmul .f32 1048576000 (fsub .f32 g h)) 1161527296 := prod_le (r1 := 1048576000) (Nat.le_refl _) g1 (by omega) (by omega) (by omega) (by decide +kernel)
  exact (prod_le g2 (le_of_pos ht (by omega)) (by omega) (by omega) (by omega : 1161527296 ≤ 2139095040) (by decide +kernel)).fi (by omega)
theorem warm_ht {h w f a b : Nat} (hl : Ly w h f) (ha : Fi a) (hb : Fi b) : Ht (r114 (fadd .f32 h (fdiv .f32 (fsub .f32 a b) (r108 w f))) 3262119936 1153138688) := by
  obtain ⟨h1, h2, h3⟩ := hl
  have hm := mass_le h1 h3
  exact held_ht (add_nn' h2.fi (div_nn (sub_nn ha.nn hb) (by unfold Fi; omega) (by omega))) (fadd_lt _ _)
/-! ### dry -/
@[reducible] noncomputable def dB (t h : Nat) : Nat := fmul .f32 (fmul .f32 (fsub .f32 h 1120403456) 990057071) t
@[reducible] noncomputable def dd (t w h : Nat) : Nat := r109 w (dB t h)
@[reducible] noncomputable def hD (w h f d : Nat) : Nat := fsub .f32 h (fdiv .f32 (fmul .f32 1157234688 d) (r108 w f))
noncomputable def W1 (t w h : Nat) : Nat := cond (fgt .f32 h 1120403456) (fsub .f32 w (dd t w h)) w
noncomputable def H1 (t w h f : Nat) : Nat := cond (fgt .f32 h 1120403456) (cond (flt .f32 (hD w h f (dd t w h)) 1120403456) 1120403456 (hD w h f (dd t w h))) h
noncomputable def aI (s t w h : Nat) : Nat := cond (fgt .f32 h 1120403456) (fadd .f32 s (dd t w h)) s
def Mn (t w h : Nat) : Prop := fgt .f32 h 1120403456 = true → cond (flt .f32 w (dB t h)) w (dB t h) = dd t w h
theorem W1_t {t w h : Nat} (e : fgt .f32 h 1120403456 = true) : W1 t w h = fsub .f32 w (dd t w h) := by unfold W1; rw [e]; rfl
theorem W1_f {t w h : Nat} (e : fgt .f32 h 1120403456 = false) : W1 t w h = w := by unfold W1; rw [e]; rfl
theorem H1_t {t w h f : Nat} (e : fgt .f32 h 1120403456 = true) : H1 t w h f = cond (flt .f32 (hD w h f (dd t w h)) 1120403456) 1120403456 (hD w h f (dd t w h)) := by unfold H1; rw [e]; rfl
theorem H1_f {t w h f : Nat} (e : fgt .f32 h 1120403456 = false) : H1 t w h f = h := by unfold H1; rw [e]; rfl
theorem aI_t {s t w h : Nat} (e : fgt .f32 h 1120403456 = true) : aI s t w h = fadd .f32 s (dd t w h) := by unfold aI; rw [e]; rfl
theorem aI_f {s t w h : Nat} (e : fgt .f32 h 1120403456 = false) : aI s t w h = s := by unfold aI; rw [e]; rfl
theorem hot {h c : Nat} (a : Ht h) (hc : c < 2139095040) (e : fgt .f32 h c = true) : c < h ∧ h ≤ 1153138688 := by
  rw [fgt_flt, flt_of (by unfold Nn; omega) a.fi.nn (by omega) a.lt, if_neg (show ¬ 2147483648 ≤ c by omega), decide_eq_true_eq] at e
  rcases a with a | ⟨a, b⟩
  · rw [if_neg (by omega)] at e; omega
  · rw [if_pos a] at e; omega
theorem dB_le {t h : Nat} (a : Ht h) (ht : t ≤ 1065353216) (e : fgt .f32 h 1120403456 = true) : dB t h ≤ 1153138688 := by
  obtain ⟨h1, h2⟩ := hot a (by omega) e
  have g1 : fsub .f32 h 1120403456 ≤ 1153138688 := Nat.le_trans (diff_pos (by omega) (by omega)) h2
  have g2 : fmul .f32 (fsub .f32 h 1120403456) 990057071 ≤ 1153138688 := prod_pos g1 (Nat.le_refl _) (by omega) (by omega) (by omega) (by decide +kernel)
  exact prod_pos g2 ht (by omega) (by omega) (by omega) (by decide +kernel)
theorem min_pos {w b : Nat} (hw : w ≤ 2139095040) (hb : b ≤ 2139095040) : cond (flt .f32 w b) w b = r109 w b ∧ r109 w b ≤ w ∧ r109 w b ≤ b := by
  unfold r109
  rw [flt_pos hw hb, flt_pos hb hw]
  rcases Nat.lt_trichotomy w b with g | g | g
  · rw [decide_eq_true g, decide_eq_false (by omega)]; exact ⟨rfl, by show w ≤ w; omega, by show w ≤ b; omega⟩
  · subst g; cases decide (w < w) <;> exact ⟨rfl, Nat.le_refl _, Nat.le_refl _⟩
  · rw [decide_eq_true g, decide_eq_false (by omega)]; exact ⟨rfl, by show b ≤ w; omega, by show b ≤ b; omega⟩
theorem mn_ok {t w h f : Nat} (hl : Ly w h f) (ht : t ≤ 1065353216) : Mn t w h := fun e => by
  have := dB_le hl.2.1 ht e
  have h1 := hl.1
  exact (min_pos (by omega) (by omega)).1
theorem dd_le {t w h f : Nat} (hl : Ly w h f) (ht : t ≤ 1065353216) (e : fgt .f32 h 1120403456 = true) : dd t w h ≤ w := by
  have := dB_le hl.2.1 ht e
  have h1 := hl.1
  exact (min_pos (by omega) (by omega)).2.1
theorem dry_ly {t w h f : Nat} (hl : Ly w h f) (ht : t ≤ 1065353216) : Ly (W1 t w h) (H1 t w h f) f := by
  cases e : fgt .f32 h 1120403456 with
  | false => rw [W1_f e, H1_f e]; exact hl
  | true =>
    have hd := dd_le hl ht e
    obtain ⟨h1, h2, h3⟩ := hl
    obtain ⟨k1, k2⟩ := hot h2 (by omega) e
    have hm := mass_le h1 h3
    rw [W1_t e, H1_t e]
    refine ⟨Nat.le_trans (diff_pos hd (by omega)) h1, ?_, h3⟩
    generalize dd t w h = d at hd
    have q1 : fmul .f32 1157234688 d ≤ 1184645120 := prod_pos (Nat.le_refl _) (show d ≤ 1092616192 by omega) (by omega) (by omega) (by omega) (by decide +kernel)
    have q2 : fdiv .f32 (fmul .f32 1157234688 d) (r108 w f) ≤ 1209811968 := quot_pos q1 hm.1 (by omega) (by omega) (by omega) (by omega) (by decide +kernel)
    show Ht (cond (flt .f32 (fsub .f32 h (fdiv .f32 (fmul .f32 1157234688 d) (r108 w f))) 1120403456) 1120403456 (fsub .f32 h (fdiv .f32 (fmul .f32 1157234688 d) (r108 w f))))
    generalize fdiv .f32 (fmul .f32 1157234688 d) (r108 w f) = q at q2
    by_cases hq : q ≤ h
    · have := diff_pos hq (by omega)
      cases flt .f32 (fsub .f32 h q) 1120403456 with
      | true => exact .inl (by show 1120403456 ≤ _; omega)
      | false => exact .inl (by show fsub .f32 h q ≤ _; omega)
    · have g1 := diff_neg (show h < q by omega) (by omega)
      have g2 : Nn (fsub .f32 h q) := sub_nn h2.fi.nn (by unfold Fi; omega)
      rw [flt_of g2 (by unfold Nn; omega) (fsub_lt _ _) (by omega), if_pos g1, if_neg (by omega), decide_eq_true (by omega)]
      exact .inl (by show 1120403456 ≤ _; omega)
theorem aI_le {s t w h f r r' : Nat} (hl : Ly w h f) (ht : t ≤ 1065353216) (hs : s ≤ r) (h1 : r < 2139095040) (h2 : r' ≤ 2139095040) (h3 : r ≤ r') (hr : rval F32 r + rval F32 1092616192 ≤ rval F32 r') : aI s t w h ≤ r' := by
  cases e : fgt .f32 h 1120403456 with
  | false => rw [aI_f e]; omega
  | true =>
    have hd := dd_le hl ht e
    have hw := hl.1
    rw [aI_t e]
    exact sum_pos hs (show dd t w h ≤ 1092616192 by omega) h1 (by omega) h2 hr
/-! ### burn -/
@[reducible] noncomputable def bB (a t h : Nat) : Nat := fmul .f32 (fmul .f32 (fmul .f32 (fsub .f32 h 1132068864) 981668463) a) t
@[reducible] noncomputable def bb (a t h f : Nat) : Nat := r109 f (bB a t h)
@[reducible] noncomputable def hB (w h f b : Nat) : Nat := fadd .f32 h (fdiv .f32 (fmul .f32 1157234688 b) (r108 w f))
@[reducible] noncomputable def cB (h : Nat) : Bool := fgt .f32 h 1132068864 || feq .f32 h 1132068864
@[reducible] noncomputable def eB (w : Nat) : Bool := flt .f32 w 1040187392
noncomputable def H2 (a t w h f : Nat) : Nat := cond (cB h) (cond (eB w) (cond (fgt .f32 (hB w h f (bb a t h f)) 1153138688) 1153138688 (hB w h f (bb a t h f))) h) h
noncomputable def F2 (a t w h f : Nat) : Nat := cond (cB h) (cond (eB w) (fsub .f32 f (bb a t h f)) f) f
noncomputable def qI (s a t w h f : Nat) : Nat := cond (cB h) (cond (eB w) (fadd .f32 s (fmul .f32 1167867904 (bb a t h f))) s) s
noncomputable def pI (s a t w h f : Nat) : Nat := cond (cB h) (cond (eB w) (fadd .f32 s (bb a t h f)) s) s
def Mb (a t w h f : Nat) : Prop := cB h = true → eB w = true → cond (flt .f32 f (bB a t h)) f (bB a t h) = bb a t h f
theorem H2_t {a t w h f : Nat} (e : cB h = true) (e' : eB w = true) : H2 a t w h f = cond (fgt .f32 (hB w h f (bb a t h f)) 1153138688) 1153138688 (hB w h f (bb a t h f)) := by unfold H2; rw [e, e']; rfl
theorem H2_f {a t w h f : Nat} (e : cB h = false) : H2 a t w h f = h := by unfold H2; rw [e]; rfl
theorem H2_g {a t w h f : Nat} (e' : eB w = false) : H2 a t w h f = h := by unfold H2; rw [e']; cases cB h <;> rfl
theorem F2_t {a t w h f : Nat} (e : cB h = true) (e' : eB w = true) : F2 a t w h f = fsub .f32 f (bb a t h f) := by unfold F2; rw [e, e']; rfl
theorem F2_f {a t w h f : Nat} (e : cB h = false) : F2 a t w h f = f := by unfold F2; rw [e]; rfl
theorem F2_g {a t w h f : Nat} (e' : eB w = false) : F2 a t w h f = f := by unfold F2; rw [e']; cases cB h <;> rfl
theorem qI_t {s a t w h f : Nat} (e : cB h = true) (e' : eB w = true) : qI s a t w h f = fadd .f32 s (fmul .f32 1167867904 (bb a t h f)) := by unfold qI; rw [e, e']; rfl
theorem qI_f {s a t w h f : Nat} (e : cB h = false) : qI s a t w h f = s := by unfold qI; rw [e]; rfl
theorem qI_g {s a t w h f : Nat} (e' : eB w = false) : qI s a t w h f = s := by unfold qI; rw [e']; cases cB h <;> rfl
theorem pI_t {s a t w h f : Nat} (e : cB h = true) (e' : eB w = true) : pI s a t w h f = fadd .f32 s (bb a t h f) := by unfold pI; rw [e, e']; rfl
theorem pI_f {s a t w h f : Nat} (e : cB h = false) : pI s a t w h f = s := by unfold pI; rw [e]; rfl
theorem pI_g {s a t w h f : Nat} (e' : eB w = false) : pI s a t w h f = s := by unfold pI; rw [e']; cases cB h <;> rfl
theorem r109_top (x : Nat) : r109 x 1153138688 = cond (fgt .f32 x 1153138688) 1153138688 x := by unfold r109; rw [fgt_flt]
theorem hot_eq {h c : Nat} (a : Ht h) (hc : c < 2139095040) (e : (fgt .f32 h c || feq .f32 h c) = true) (h0 : 0 < c) : c ≤ h ∧ h ≤ 1153138688 := by
  rw [Bool.or_eq_true] at e
  rcases e with e | e
  · have := hot a hc e; omega
  · rw [feq_of a.fi.nn (by unfold Nn; omega) a.lt (by omega), if_neg (show ¬ 2147483648 ≤ c by omega), decide_eq_true_eq] at e
    rcases a with a | ⟨a, b⟩
    · rw [if_neg (by omega)] at e; omega
    · rw [if_pos a] at e; omega
theorem bB_zero {t h : Nat} (a : Ht h) (ht : t ≤ 1065353216) (e : cB h = true) : bB 0 t h = 0 := by
  obtain ⟨h1, h2⟩ := hot_eq a (by omega) e (by omega)
  have g1 : fsub .f32 h 1132068864 ≤ 1153138688 := Nat.le_trans (diff_pos (by omega) (by omega)) h2
  have g2 : fmul .f32 (fsub .f32 h 1132068864) 981668463 ≤ 1153138688 := prod_pos g1 (Nat.le_refl _) (by omega) (by omega) (by omega) (by decide +kernel)
  have g3 : fmul .f32 (fmul .f32 (fsub .f32 h 1132068864) 981668463) 0 ≤ 0 := prod_pos g2 (Nat.le_refl _) (by omega) (by omega) (by omega) (by decide +kernel)
  have g4 : bB 0 t h ≤ 0 := prod_pos g3 ht (by omega) (by omega) (by omega) (by decide +kernel)
  omega
theorem bb_zero {t w h f : Nat} (hl : Ly w h f) (ht : t ≤ 1065353216) (e : cB h = true) : bb 0 t h f = 0 := by
  have := (min_pos (w := f) (b := 0) (by have := hl.2.2; omega) (by omega)).2.2
  unfold bb
  rw [bB_zero hl.2.1 ht e]; omega
theorem mb_ok {t w h f : Nat} (hl : Ly w h f) (ht : t ≤ 1065353216) : Mb 0 t w h f := fun e _ => by
  have h1 := hl.2.2
  unfold bb
  rw [bB_zero hl.2.1 ht e]
  exact (min_pos (by omega) (by omega)).1
theorem burn_ly {t w h f : Nat} (hl : Ly w h f) (ht : t ≤ 1065353216) : Ly w (H2 0 t w h f) (F2 0 t w h f) := by
  cases e : cB h with
  | false => rw [H2_f e, F2_f e]; exact hl
  | true =>
    cases e' : eB w with
    | false => rw [H2_g e', F2_g e']; exact hl
    | true =>
      rw [H2_t e e', F2_t e e', bb_zero hl ht e]
      obtain ⟨h1, h2, h3⟩ := hl
      obtain ⟨k1, k2⟩ := hot_eq h2 (by omega) e (by omega)
      have hm := mass_le h1 h3
      refine ⟨h1, ?_, Nat.le_trans (diff_pos (Nat.zero_le _) (by omega)) h3⟩
      have q1 : fmul .f32 1157234688 0 ≤ 0 := by decide +kernel
      have q2 : fdiv .f32 (fmul .f32 1157234688 0) (r108 w f) ≤ 0 := quot_pos q1 hm.1 (by omega) (by omega) (by omega) (by omega) (by decide +kernel)
      have q3 : hB w h f 0 ≤ 1153138688 := sum_pos k2 q2 (by omega) (by omega) (by omega) (by decide +kernel)
      cases fgt .f32 (hB w h f 0) 1153138688 with
      | true => exact .inl (Nat.le_refl _)
      | false => exact .inl q3
theorem q_zero {t w h f : Nat} (hl : Ly w h f) (ht : t ≤ 1065353216) : qI 0 0 t w h f = 0 ∧ pI 0 0 t w h f = 0 := by
  cases e : cB h with
  | false => rw [qI_f e, pI_f e]; exact ⟨rfl, rfl⟩
  | true =>
    cases e' : eB w with
    | false => rw [qI_g e', pI_g e']; exact ⟨rfl, rfl⟩
    | true =>
      rw [qI_t e e', pI_t e e', bb_zero hl ht e]
      exact ⟨by decide +kernel, by decide +kernel⟩
end Go.Proofs.Ytbmagccjcccnaaa