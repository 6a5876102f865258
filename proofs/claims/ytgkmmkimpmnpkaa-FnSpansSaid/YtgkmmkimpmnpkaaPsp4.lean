/- Spans that are joined, met and multiplied; their width. -/
import Derived.Test.YtgkmmkimpmnpkaaPsp3
namespace Go.Proofs.Ytgkmmkimpmnpkaa
open Go.Ab
def mn (p q : Int) : Int := if q < p then q else p
def mx (p q : Int) : Int := if p < q then q else p
theorem lo_x {p q : Int} {u v : Nat} (hp : X p u) (hq : X q v) : X (mn p q) (r41 u v) := by
  unfold r41 mn
  rw [hq.lt_iff hp]
  by_cases g : q < p
  · rw [decide_eq_true g, if_pos g]; exact hq
  · rw [decide_eq_false g, if_neg g]; exact hp
theorem hi_x {p q : Int} {u v : Nat} (hp : X p u) (hq : X q v) : X (mx p q) (r40 u v) := by
  unfold r40 mx
  rw [hq.gt_iff hp]
  by_cases g : p < q
  · rw [decide_eq_true g, if_pos g]; exact hq
  · rw [decide_eq_false g, if_neg g]; exact hp
theorem mn_le (p q : Int) : mn p q ≤ p ∧ mn p q ≤ q ∧ (mn p q = p ∨ mn p q = q) := by unfold mn; split <;> omega
theorem mx_ge (p q : Int) : p ≤ mx p q ∧ q ≤ mx p q ∧ (mx p q = p ∨ mx p q = q) := by unfold mx; split <;> omega
theorem step_b {l h s : Nat} (a b c d e : Nat) (hs : feq .f32 s s = true) : r36l0b l h a b c d e s = (1, 0, 0, r41 l s, r40 h s) := by
  unfold r36l0b r41 r40
  rw [hs]
  cases flt .f32 s l <;> cases fgt .f32 s h <;> rfl
theorem step_c {l h r s : Nat} (a b c d : Nat) (hs : feq .f32 s s = true) (hr : feq .f32 r r = true) : r36l0c l h a b c d r s = (1, 0, 0, 0, 0, r41 (r41 l r) s, r40 (r40 h r) s) := by
  unfold r36l0c
  rw [hr]
  simp only [step_b _ _ _ _ _ hs]
  unfold r41 r40
  cases flt .f32 r l <;> cases fgt .f32 r h <;> rfl
theorem step_d {l h q r s : Nat} (a b c : Nat) (hs : feq .f32 s s = true) (hr : feq .f32 r r = true) (hq : feq .f32 q q = true) : r36l0d l h a b c q r s = (1, 0, 0, 0, 0, r41 (r41 (r41 l q) r) s, r40 (r40 (r40 h q) r) s) := by
  unfold r36l0d
  rw [hq]
  simp only [step_c _ _ _ _ hs hr]
  cases e1 : flt .f32 q l <;> cases e2 : fgt .f32 q h <;> (rw [show r41 l q = _ from by unfold r41; rw [e1], show r40 h q = _ from by unfold r40; rw [e2]]; rfl)
theorem step_e {l h p q r s : Nat} (a b : Nat) (hs : feq .f32 s s = true) (hr : feq .f32 r r = true) (hq : feq .f32 q q = true) (hp : feq .f32 p p = true) : r36l0e l h a b p q r s = (1, 0, 0, 0, 0, r41 (r41 (r41 (r41 l p) q) r) s, r40 (r40 (r40 (r40 h p) q) r) s) := by
  unfold r36l0e
  rw [hp]
  simp only [step_d _ _ _ hs hr hq]
  cases e1 : flt .f32 p l <;> cases e2 : fgt .f32 p h <;> (rw [show r41 l p = _ from by unfold r41; rw [e1], show r40 h p = _ from by unfold r40; rw [e2]]; rfl)
theorem finite_x {k : Int} {d : Nat} (w : X k d) : r52 d = true := by
  have h64 : FloatKind.f64.format.signWeight = 9223372036854775808 := by decide
  have i64 : FloatKind.f64.format.infRung = 9218868437227405312 := by decide
  have m64 : isN .f64 9218868437227405311 = false := by decide
  have k64 : key FloatKind.f64.format 9218868437227405311 = 9218868437227405311 := by decide
  have hn : isN .f32 d = false := nn_isN.2 w.nn
  have hw : isN .f64 (widen d) = false := by rw [isN_widen, hn]
  have key_small : ∀ r : Nat, r ≤ 9218868437227405312 → isN .f64 r = false ∧ key FloatKind.f64.format r = (r : Int) := by
    intro r hr
    refine ⟨by rw [isN64, decide_eq_false_iff_not, Nat.mod_eq_of_lt (by omega)]; omega, ?_⟩
    unfold key
    rw [h64, Nat.div_eq_of_lt (by omega), if_neg (by decide), Nat.mod_eq_of_lt (by omega)]
  obtain ⟨s, r, e, hr⟩ := widen_fin d w.fi
  rw [show Ieee.double.infRung = 9218868437227405312 from i64] at hr
  have er : widen d % 9223372036854775808 = r := by
    rw [e]
    have := (word_rung Ieee.double s r (by rw [show Ieee.double.signWeight = 9223372036854775808 from h64]; omega)).1
    rw [show Ieee.double.signWeight = 9223372036854775808 from h64] at this
    exact this
  have e46 : r46 (widen d) = r := by
    unfold r46
    rw [hw, Bool.not_false, cond_true, abs_word _ (widen_lt d), er]
  have e26 : r26 (widen d) 0 = fgt .f64 (r46 (widen d)) 9218868437227405311 := rfl
  unfold r52 r55
  rw [feq_self, hw, e26, e46, fgt_key .f64 _ _ (key_small r (by omega)).1 m64, k64, (key_small r (by omega)).2, decide_eq_false (show ¬ ((9218868437227405311 : Int) < (r : Int)) by omega)]
  rfl
section
variable {a b n c d m : Int} {s1 s2 x t1 t2 y : Nat} (H : Two a b n c d m s1 s2 x t1 t2 y)
include H
theorem Two.join : r20 s1 s2 t1 t2 = (r41 s1 t1, r40 s2 t2, 0) ∧ r17 (r41 s1 t1) (r40 s2 t2) x = true ∧ r17 (r41 s1 t1) (r40 s2 t2) y = true := by
  have := H.l1; have := H.l2; have := H.l3; have := H.l4
  have p := lo_x H.xa H.xc
  have q := hi_x H.xb H.xd
  have g1 := mn_le a c
  have g2 := mx_ge b d
  refine ⟨?_, in_x p q H.xn (by omega) (by omega), in_x p q H.xm (by omega) (by omega)⟩
  unfold r20 r31d r38
  rw [H.are]; rfl
theorem Two.meet : r21 s1 s2 t1 t2 = cond (decide (mx a c ≤ mn b d)) (r40 s1 t1, r41 s2 t2, 0) (0, 0, 6) := by
  have p := hi_x H.xa H.xc
  have q := lo_x H.xb H.xd
  unfold r21 r16
  rw [H.are, p.le_iff q]
  cases decide (mx a c ≤ mn b d) <;> rfl
theorem Two.width : r19 s1 s2 = (fsub .f32 s2 s1, 0) ∧ X (b - a) (fsub .f32 s2 s1) := by
  have := H.l1; have := H.l2; have := H.b1; have := H.b2
  have w := H.xb.sub H.xa (by omega) (by omega)
  refine ⟨?_, w⟩
  unfold r19
  rw [H.valid]
  have fin := finite_x w
  unfold r37
  rw [fin]; rfl
end
end Go.Proofs.Ytgkmmkimpmnpkaa
