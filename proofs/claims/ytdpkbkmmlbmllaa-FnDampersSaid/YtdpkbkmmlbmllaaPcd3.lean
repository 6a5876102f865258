/- Chimneys: the push at the foot of a trunk. -/
import Derived.Test.YtdpkbkmmlbmllaaPcd2
namespace Go.Proofs.Ytdpkbkmmlbmllaa
open Go.Ab Ieee

/-! ### branches -/
noncomputable def brF (t : List (List Int)) (k : Int) (i : Nat) : Option (List Int) := if ic t i 4 = k then some [(i : Int)] else none
noncomputable def brs (t : List (List Int)) (k : Int) : List (List Int) := (List.range t.length).filterMap (brF t k)
theorem brs_len (t : List (List Int)) (k : Int) : (brs t k).length ≤ t.length := by
  unfold brs
  have := List.length_filterMap_le (brF t k) (List.range t.length)
  rwa [List.length_range] at this
theorem brs_get {t : List (List Int)} {k : Int} {j : Nat} (hj : j < (brs t k).length) : ∃ i : Nat, i < t.length ∧ ic (brs t k) j 0 = (i : Int) ∧ ic t i 4 = k := by
  have h : (brs t k).getD j [] ∈ brs t k := by
    rw [List.getD_eq_getElem?_getD, List.getElem?_eq_getElem hj]
    exact List.getElem_mem hj
  unfold brs at h
  obtain ⟨i, hi, e⟩ := List.mem_filterMap.1 h
  refine ⟨i, List.mem_range.1 hi, ?_⟩
  unfold brF at e
  by_cases g : ic t i 4 = k
  · rw [if_pos g] at e
    have e2 : (brs t k).getD j [] = [(i : Int)] := (Option.some.inj e).symm
    refine ⟨?_, g⟩
    show ((brs t k).getD j []).getD 0 0 = _
    rw [e2]; rfl
  · rw [if_neg g] at e; cases e
theorem brS {t : List (List Int)} (hl : t.length ≤ 6) (k : Int) : r102 k t = (0, brs t k) := by
  have lp := app_loop (n := t.length) (f := brF t k) (G := fun m s i => r102l0 m k i t s) (fuel := 1000 + 0 + t.length) ?_ ?_ (by omega)
  · unfold r102
    rcases lp with e | ⟨e, e'⟩
    · have e2 : r102l0 (1000 + 0 + t.length) k 0 t [] = _ := e
      rw [e2]; rfl
    · have e2 : r102l0 (1000 + 0 + t.length) k 0 t [] = _ := e
      rw [e2]; unfold brs; rw [e']; rfl
  · intro m s
    show b102l0 (r102l0 m) _ _ _ _ = _
    unfold b102l0
    rw [dlt_f (Nat.lt_irrefl _)]; rfl
  · intro m i s hi hs
    show b102l0 (r102l0 m) _ _ _ _ = _
    unfold b102l0 brF
    simp only [take_all, Int.toNat_natCast]
    rw [dlt_t hi, dle0, blt_t hi, wrap_succ (by omega), show Nat.ble ((s.length + 1) * 9) 140737488355328 = true from Nat.ble_eq_true_of_le (by omega)]
    show cond (ic t i 4 == k) _ _ = _
    by_cases g : ic t i 4 = k
    · rw [if_pos g, g, beq_self_eq_true]; rfl
    · rw [if_neg g, show (ic t i 4 == k) = false from beq_eq_false_iff_ne.2 g]; rfl
theorem brI {t : List (List Int)} (hl : t.length ≤ 6) (k : Int) : r100 k t = (0, brs t k) := by
  have lp := app_loop (n := t.length) (f := brF t k) (G := fun m s i => r100l0 m k ((t.length : Nat) : Int) i s t) (fuel := 1000 + t.length + 0) ?_ ?_ (by omega)
  · unfold r100
    rcases lp with e | ⟨e, e'⟩
    · have e2 : r100l0 (1000 + t.length + 0) k ((t.length : Nat) : Int) 0 [] t = _ := e
      rw [e2]; rfl
    · have e2 : r100l0 (1000 + t.length + 0) k ((t.length : Nat) : Int) 0 [] t = _ := e
      rw [e2]; unfold brs; rw [e']; rfl
  · intro m s
    show b100l0 (r100l0 m) _ _ _ _ _ = _
    unfold b100l0
    rw [dlt_f (Nat.lt_irrefl _)]; rfl
  · intro m i s hi hs
    show b100l0 (r100l0 m) _ _ _ _ _ = _
    unfold b100l0 brF
    simp only [take_all, Int.toNat_natCast]
    rw [dlt_t hi, dle0, blt_t hi, wrap_succ (by omega), show Nat.ble ((s.length + 1) * 9) 140737488355328 = true from Nat.ble_eq_true_of_le (by omega)]
    show cond (ic t i 4 == k) _ _ = _
    by_cases g : ic t i 4 = k
    · rw [if_pos g, g, beq_self_eq_true]; rfl
    · rw [if_neg g, show (ic t i 4 == k) = false from beq_eq_false_iff_ne.2 g]; rfl

/-! ### pushes -/
theorem pu_neg {m : Nat} (f : Fi m) (lo : -(1000 * 2 ^ 149) ≤ sv m) (hi : sv m ≤ 1000 * 2 ^ 149) : PuOk (fsub .f32 0 m) := by
  have g := cFM
  have s := sub_fr (a := 0) (by unfold Fi; decide) f (by rw [c0]; omega) (by rw [c0]; omega)
  rw [c0] at s
  exact ⟨s.fi, s.lt, Fr_lbn s (by decide) c2000 (by omega), Fr_ub s (by decide) c2000 (by omega)⟩
theorem pu_wind {m w : Nat} (f : Fi m) (lo : -(1000 * 2 ^ 149) ≤ sv m) (hi : sv m ≤ 1000 * 2 ^ 149) (fw : Fi w) (wlo : -(1000 * 2 ^ 149) ≤ sv w) (whi : sv w ≤ 1000 * 2 ^ 149) : PuOk (fsub .f32 m w) := by
  have g := cFM
  have s := sub_fr f fw (by omega) (by omega)
  exact ⟨s.fi, s.lt, Fr_lbn s (by decide) c2000 (by omega), Fr_ub s (by decide) c2000 (by omega)⟩
/-- a push that is tried -/
structure BiOk (m : Nat) : Prop where
  f : Fi m
  l : m < 4294967296
  lo : -(1000 * 2 ^ 149) ≤ sv m
  hi : sv m ≤ 1000 * 2 ^ 149
theorem bi_mid {a b : Nat} (ha : BiOk a) (hb : BiOk b) : BiOk (fmul .f32 1056964608 (fadd .f32 a b)) := by
  have g := cFM
  have a1 := ha.lo
  have a2 := ha.hi
  have b1 := hb.lo
  have b2 := hb.hi
  have cc : ((2 ^ 149 : Nat) : Int) = 2 ^ 149 := by rw [Int.natCast_pow]; rfl
  have s := add_fr ha.f hb.f (by omega) (by omega)
  have s1 := Fr_ub s (by decide) c2000 (by omega)
  have s2 := Fr_lbn s (by decide) c2000 (by omega)
  have m := mul_fr (a := 1056964608) (by unfold Fi; decide) s.fi (by rw [c05]; omega) (by rw [c05]; omega)
  rw [c05] at m
  exact ⟨m.fi, m.lt, Fr_lbn m (by decide) c1000 (by rw [cc]; omega), Fr_ub m (by decide) c1000 (by rw [cc]; omega)⟩

/-! ### a chimney in a weather -/
section
variable {t : List (List Int)} {o w : Nat} (hc : ChOk t) (hw : WOk o w)
/-- what goes through a flue of a chimney -/
noncomputable def flo (t : List (List Int)) (o : Nat) (i p : Nat) : Nat := thr (fc t i 0) (fc t i 1) (fc t i 2) (fc t i 3) (ic t i 4) o p
include hc hw in
theorem floI {i p : Nat} (hi : i < t.length) (hp : PuOk p) : r93 (fc t i 0) (fc t i 1) (fc t i 2) (fc t i 3) (ic t i 4) o p = (0, flo t o i p) ∧ Fi (flo t o i p) ∧ flo t o i p < 4294967296 :=
  thr_ok (hc.flue i hi) hw.on hw.o0 hw.o1 hw.o2 _ hp
include hc hw in
theorem floS {i p : Nat} (hi : i < t.length) (hp : PuOk p) : r98 i o p t = (0, flo t o i p) := by
  have h := (floI hc hw hi hp).1
  rw [flowS hi ⟨_, h⟩, h]
/-- the sum of flows, from the first one on -/
noncomputable def sumB (t : List (List Int)) (o : Nat) (k : Int) (p : Nat) : Nat := foldN (fun j s => fadd .f32 s (flo t o (fc (brs t k) j 0) p)) ((brs t k).length - 1) 1 (flo t o (fc (brs t k) 0 0) p)
theorem fc_of {b : List (List Int)} {j i : Nat} (h : ic b j 0 = (i : Int)) : fc b j 0 = i := by
  show (ic b j 0).toNat = i
  rw [h]; rfl
include hc hw in
theorem sumS {k : Int} {m : Nat} (hm : BiOk m) (h0 : 0 < (brs t k).length) (x0 : Int) (x2 x3 x4 : Nat) (x5 : Int) {fuel : Nat} (hf : (brs t k).length < fuel) : r64l1 fuel x0 o x2 x3 x4 x5 m (flo t o (fc (brs t k) 0 0) (fsub .f32 0 m)) 1 t (brs t k) = (0, sumB t o k (fsub .f32 0 m)) := by
  have hp := pu_neg hm.f hm.lo hm.hi
  have hn := brs_len t k
  have h6 := hc.n2
  refine fold_at (n := (brs t k).length) (step := fun j s => fadd .f32 s (flo t o (fc (brs t k) j 0) (fsub .f32 0 m))) (mk := fun s => (0, s)) (G := fun f s i => r64l1 f x0 o x2 x3 x4 x5 m s i t (brs t k)) ?_ ?_ ((brs t k).length - 1) 1 fuel _ (by omega) (by omega)
  · intro f s
    show b64l1 (r64l1 f) _ _ _ _ _ _ _ _ _ _ _ = _
    unfold b64l1
    rw [dlt_f (Nat.lt_irrefl _)]; rfl
  · intro f j s hj
    show b64l1 (r64l1 f) _ _ _ _ _ _ _ _ _ _ _ = _
    unfold b64l1
    obtain ⟨i, hi, e, _⟩ := brs_get hj
    rw [dlt_t hj, dle0, Int.toNat_natCast, blt_t hj, wrap_succ (by omega)]
    have e' : ((brs t k).getD j []).getD 0 0 = (i : Int) := e
    rw [fc_of e]
    simp only [e', Int.toNat_natCast]
    rw [dle0, blt_t hi, floS hc hw hi hp]
    rfl
include hc hw in
theorem listI {k : Int} {m : Nat} (hm : BiOk m) (x0 : Int) (x2 x3 x4 : Nat) (x6 : Int) {fuel : Nat} (hf : (brs t k).length < fuel) (h0 : 0 < (brs t k).length) : r62l1 fuel x0 o x2 x3 x4 m x6 (((brs t k).length : Nat) : Int) 0 t (brs t k) [] = (0, (List.range (brs t k).length).map fun j => [((flo t o (fc (brs t k) j 0) (fsub .f32 0 m) : Nat) : Int)]) := by
  have hp := pu_neg hm.f hm.lo hm.hi
  have hn := brs_len t k
  have h6 := hc.n2
  have lp := app_loop (n := (brs t k).length) (f := fun j => some [((flo t o (fc (brs t k) j 0) (fsub .f32 0 m) : Nat) : Int)]) (G := fun f s i => r62l1 f x0 o x2 x3 x4 m x6 (((brs t k).length : Nat) : Int) i t (brs t k) s) (fuel := fuel) ?_ ?_ hf
  · have em : (List.range (brs t k).length).filterMap (fun j => some [((flo t o (fc (brs t k) j 0) (fsub .f32 0 m) : Nat) : Int)]) = (List.range (brs t k).length).map fun j => [((flo t o (fc (brs t k) j 0) (fsub .f32 0 m) : Nat) : Int)] := congrFun List.filterMap_eq_map' _
    rw [em] at lp
    rcases lp with e | ⟨_, e'⟩
    · exact e
    · have := congrArg List.length e'
      rw [List.length_map, List.length_range] at this
      exact absurd this (by show ¬ (brs t k).length = 0; omega)
  · intro f s
    show b62l1 (r62l1 f) _ _ _ _ _ _ _ _ _ _ _ _ = _
    unfold b62l1
    rw [dlt_f (Nat.lt_irrefl _)]; rfl
  · intro f j s hj hs
    show b62l1 (r62l1 f) _ _ _ _ _ _ _ _ _ _ _ _ = _
    unfold b62l1
    obtain ⟨i, hi, e, _⟩ := brs_get hj
    simp only [take_all, Int.toNat_natCast]
    rw [dlt_t hj, dle0, blt_t hj, wrap_succ (by omega), show Nat.ble ((s.length + 1) * 5) 140737488355328 = true from Nat.ble_eq_true_of_le (by omega)]
    have e' : ((brs t k).getD j []).getD 0 0 = (i : Int) := e
    rw [fc_of e]
    simp only [e', Int.toNat_natCast]
    have h := (floI hc hw hi hp).1
    rw [dle0, blt_t hi, h]
    rfl
end
theorem map_getD {α : Type} {f : Nat → α} {n j : Nat} (hj : j < n) {d : α} : ((List.range n).map f).getD j d = f j := by
  simp [List.getD, hj]
/-- the sum of a list -/
theorem sumI {n : Nat} (hn : 0 < n) (hs : n ≤ 6) (g : Nat → Nat) : r101 ((List.range n).map fun j => [((g j : Nat) : Int)]) = (0, foldN (fun j s => fadd .f32 s (g j)) (n - 1) 1 (g 0)) := by
  have hl : ((List.range n).map fun j => [((g j : Nat) : Int)]).length = n := by simp
  have hg : ∀ j, j < n → Int.toNat ((((List.range n).map fun j => [((g j : Nat) : Int)]).getD j []).getD 0 0) = g j := fun j hj => by
    rw [map_getD hj]; rfl
  generalize ((List.range n).map fun j => [((g j : Nat) : Int)]) = L at *
  have lp : r101l0 (1000 + L.length) (g 0) (n - 1) (n - 1) (((n - 1 : Nat)) : Int) 0 L = (0, foldN (fun j s => fadd .f32 s (g (1 + j))) (n - 1) 0 (g 0)) := by
    refine fold_at (n := n - 1) (step := fun j s => fadd .f32 s (g (1 + j))) (mk := fun s => (0, s)) (G := fun f s i => r101l0 f s (n - 1) (n - 1) (((n - 1 : Nat)) : Int) i L) ?_ ?_ (n - 1) 0 _ _ (by omega) (by omega)
    · intro f s
      show b101l0 (r101l0 f) _ _ _ _ _ _ = _
      unfold b101l0
      rw [dlt_f (Nat.lt_irrefl _)]; rfl
    · intro f j s hj
      show b101l0 (r101l0 f) _ _ _ _ _ _ = _
      unfold b101l0
      rw [dlt_t hj, dle0, Int.toNat_natCast, blt_t hj, wrap_succ (by omega), hg (1 + j) (by omega), blt_t (show 1 + j < L.length by omega)]
      rfl
  rw [foldN_shift (fun j s => fadd .f32 s (g j))] at lp
  unfold r101
  rw [hg 0 hn, hl] at *
  rw [blt_t hn]
  by_cases h1 : 1 < n
  · rw [blt_t h1, show Nat.ble 1 n = true from Nat.ble_eq_true_of_le (by omega), show Nat.ble n n = true from Nat.ble_eq_true_of_le (Nat.le_refl _)]
    rw [lp]; rfl
  · have : n = 1 := by omega
    subst this
    rfl
/-! ### the search for a push -/
/-- one round -/
noncomputable def atStep (t : List (List Int)) (o w k : Nat) (_ : Nat) (b : Nat × Nat) : Nat × Nat :=
  cond (fgt .f32 (sumB t o (k : Int) (fsub .f32 0 (fmul .f32 1056964608 (fadd .f32 b.1 b.2)))) (flo t o k (fsub .f32 (fmul .f32 1056964608 (fadd .f32 b.1 b.2)) w))) (fmul .f32 1056964608 (fadd .f32 b.1 b.2), b.2) (b.1, fmul .f32 1056964608 (fadd .f32 b.1 b.2))
/-- the push at the foot of a trunk -/
noncomputable def atP (t : List (List Int)) (o w k : Nat) : Nat := if (brs t (k : Int)).length = 0 then 0 else (foldN (atStep t o w k) 40 0 (3296329728, 1148846080)).2
def BiOk2 (b : Nat × Nat) : Prop := BiOk b.1 ∧ BiOk b.2
theorem atStep_ok {t : List (List Int)} {o w k i : Nat} {b : Nat × Nat} (h : BiOk2 b) : BiOk2 (atStep t o w k i b) := by
  have m := bi_mid h.1 h.2
  unfold atStep
  cases fgt .f32 (sumB t o (k : Int) (fsub .f32 0 (fmul .f32 1056964608 (fadd .f32 b.1 b.2)))) (flo t o k (fsub .f32 (fmul .f32 1056964608 (fadd .f32 b.1 b.2)) w)) with
  | true => exact ⟨m, h.2⟩
  | false => exact ⟨h.1, m⟩
theorem bi_start : BiOk2 (3296329728, 1148846080) := ⟨⟨by unfold Fi; decide, by decide, by rw [cm1000]; omega, by rw [cm1000]; omega⟩, ⟨by unfold Fi; decide, by decide, by rw [c1000]; omega, by rw [c1000]; omega⟩⟩
theorem fold_ok {t : List (List Int)} {o w k : Nat} : ∀ (n i : Nat) {b : Nat × Nat}, BiOk2 b → BiOk2 (foldN (atStep t o w k) n i b)
  | 0, _, _, h => h
  | n + 1, i, _, h => fold_ok n (i + 1) (atStep_ok h)
theorem at_ok (t : List (List Int)) (o w k : Nat) : BiOk (atP t o w k) := by
  unfold atP
  split
  · exact ⟨by unfold Fi; decide, by decide, by rw [c0]; omega, by rw [c0]; omega⟩
  · exact (fold_ok 40 0 bi_start).2
section
variable {t : List (List Int)} {o w : Nat} (hc : ChOk t) (hw : WOk o w)
include hw in
theorem w_fi : Fi w ∧ -(1000 * 2 ^ 149) ≤ sv w ∧ sv w ≤ 1000 * 2 ^ 149 := by
  have g := cFM
  have h1 := hw.w1
  have h2 := hw.w2
  rw [cm1000] at h1
  rw [c1000] at h2
  exact ⟨nn_fi hw.wn hw.w0 (v := 1000 * 2 ^ 149) (by omega) (by omega) (by omega), by omega, by omega⟩
include hc hw
theorem atS {k : Nat} (hk : k < t.length) : r64 (k : Int) o w t = (0, atP t o w k) := by
  have h6 := hc.n2
  have hn := brs_len t (k : Int)
  obtain ⟨f1, f2, f3⟩ := w_fi hw
  unfold r64 atP
  rw [brS h6]
  by_cases h0 : (brs t (k : Int)).length = 0
  · rw [if_pos h0]
    show cond true (cond ((((brs t (k : Int)).length : Nat) : Int) == 0) _ _) _ = _
    rw [h0]; rfl
  · rw [if_neg h0]
    have lp : r64l0 (1000 + (brs t (k : Int)).length + t.length) (k : Int) o w 3296329728 1148846080 0 t (brs t (k : Int)) = (0, (foldN (atStep t o w k) 40 0 (3296329728, 1148846080)).2) := by
      refine fold_loop (n := 40) (step := atStep t o w k) (mk := fun b => (0, b.2)) (G := fun f b i => r64l0 f (k : Int) o w b.1 b.2 i t (brs t (k : Int))) (s := (3296329728, 1148846080)) (fun _ b => BiOk2 b) ?_ ?_ (fun i b _ h => atStep_ok h) (by omega) bi_start
      · intro f b _
        show b64l0 (r64l0 f) _ _ _ _ _ _ _ _ = _
        unfold b64l0
        rw [show decide (((40 : Nat) : Int) < 40) = false from rfl]; rfl
      · intro f i b hi hb
        show b64l0 (r64l0 f) _ _ _ _ _ _ _ _ = _
        have hm := bi_mid hb.1 hb.2
        have hp := pu_neg hm.f hm.lo hm.hi
        have hpw := pu_wind hm.f hm.lo hm.hi f1 f2 f3
        unfold b64l0 atStep
        generalize fmul .f32 1056964608 (fadd .f32 b.1 b.2) = m at *
        obtain ⟨i0, hi0, e0, _⟩ := brs_get (show 0 < (brs t (k : Int)).length by omega)
        have e0' : ((brs t (k : Int)).getD 0 []).getD 0 0 = (i0 : Int) := e0
        have q1 := floS hc hw hi0 hp
        have q2 := sumS hc hw (k := (k : Int)) hm (by omega) (k : Int) w b.1 b.2 (i : Int) (fuel := 1000 + (brs t (k : Int)).length + t.length) (by omega)
        have q3 := floS hc hw hk hpw
        rw [fc_of e0] at q2
        simp only [e0', Int.toNat_natCast, q1, q2, q3]
        rw [show decide (((i : Nat) : Int) < 40) = true from decide_eq_true (by omega), blt_t (show 0 < (brs t (k : Int)).length by omega), dle0, dle0, blt_t hi0, blt_t hk, wrap_succ (by omega)]
        simp only [cond_true, Bool.and_self, Nat.beq]
        cases fgt .f32 (sumB t o (k : Int) (fsub .f32 0 m)) (flo t o k (fsub .f32 m w)) <;> rfl
    rw [lp]
    show cond true (cond ((((brs t (k : Int)).length : Nat) : Int) == 0) _ _) _ = _
    rw [show ((((brs t (k : Int)).length : Nat) : Int) == 0) = false from beq_eq_false_iff_ne.2 (by omega)]
    rfl
theorem atI {k : Nat} (hk : k < t.length) : r62 (k : Int) o w t = (0, atP t o w k) := by
  have h6 := hc.n2
  have hn := brs_len t (k : Int)
  obtain ⟨f1, f2, f3⟩ := w_fi hw
  unfold r62 atP
  rw [brI h6]
  by_cases h0 : (brs t (k : Int)).length = 0
  · rw [if_pos h0]
    show cond true (cond ((((brs t (k : Int)).length : Nat) : Int) == 0) _ _) _ = _
    rw [h0]; rfl
  · rw [if_neg h0]
    have lp : r62l0 (1000 + (brs t (k : Int)).length + t.length) (k : Int) o w 3296329728 1148846080 0 t (brs t (k : Int)) = (0, (foldN (atStep t o w k) 40 0 (3296329728, 1148846080)).2) := by
      refine fold_loop (n := 40) (step := atStep t o w k) (mk := fun b => (0, b.2)) (G := fun f b i => r62l0 f (k : Int) o w b.1 b.2 i t (brs t (k : Int))) (s := (3296329728, 1148846080)) (fun _ b => BiOk2 b) ?_ ?_ (fun i b _ h => atStep_ok h) (by omega) bi_start
      · intro f b _
        show b62l0 (r62l0 f) _ _ _ _ _ _ _ _ = _
        unfold b62l0
        rw [show decide (((40 : Nat) : Int) < 40) = false from rfl]; rfl
      · intro f i b hi hb
        show b62l0 (r62l0 f) _ _ _ _ _ _ _ _ = _
        have hm := bi_mid hb.1 hb.2
        have hp := pu_neg hm.f hm.lo hm.hi
        have hpw := pu_wind hm.f hm.lo hm.hi f1 f2 f3
        unfold b62l0 atStep
        generalize fmul .f32 1056964608 (fadd .f32 b.1 b.2) = m at *
        have q1 := listI hc hw (k := (k : Int)) hm (k : Int) w b.1 b.2 (i : Int) (fuel := 1000 + 0 + (brs t (k : Int)).length + t.length) (by omega) (by omega)
        have q2 := sumI (n := (brs t (k : Int)).length) (by omega) (by omega) (fun j => flo t o (fc (brs t (k : Int)) j 0) (fsub .f32 0 m))
        have q3 := (floI hc hw hk hpw).1
        simp only [q1, q2, q3, Int.toNat_natCast]
        rw [show decide (((i : Nat) : Int) < 40) = true from decide_eq_true (by omega), dle0, blt_t hk, wrap_succ (by omega)]
        simp only [cond_true, Bool.and_self, Nat.beq]
        show cond (fgt .f32 (sumB t o (k : Int) (fsub .f32 0 m)) _) _ _ = _
        cases fgt .f32 (sumB t o (k : Int) (fsub .f32 0 m)) (flo t o k (fsub .f32 m w)) <;> rfl
    rw [lp]
    show cond true (cond ((((brs t (k : Int)).length : Nat) : Int) == 0) _ _) _ = _
    rw [show ((((brs t (k : Int)).length : Nat) : Int) == 0) = false from beq_eq_false_iff_ne.2 (by omega)]
    rfl
end
theorem plain4 (x0 : Int) (x1 x2 : Nat) (x3 : List (List Int)) (_ : IntKind.i64.has x0) (h1 : x1 < 4294967296) (h2 : x2 < 4294967296) (k3 : RowsOk S5 x3) (l3 : x3.length ≤ 9223372036854775807) : r4 x0 x1 x2 x3 = (0, true) := by
  unfold r4
  rcases szC l3 with g | ⟨g, g2⟩
  · rw [decide_eq_true g]; rfl
  rw [decide_eq_false (show ¬ r24 1048576 x3 < 0 by omega), copyC k3 g2, selfC g2]
  obtain ⟨c, e1, e2, hc⟩ := code_both k3 g2 x1 x2 h1 h2
  have key : ∃ p, r21 x0 x1 x2 x3 = (0, p) ∧ r20 x0 x1 x2 x3 = (0, p) := by
    unfold r21 r20
    rw [e1, e2]
    rcases hc with hc | ⟨rfl, ck, wk⟩
    · refine ⟨(0, c), ?_, ?_⟩ <;> simp only [Nat.beq, cond_true] <;> rw [show (c != 0) = true from bne_iff_ne.2 hc] <;> rfl
    · have n6 := ck.n2
      simp only [Nat.beq, cond_true]
      rw [show ((0 : Int) != 0) = false from rfl, cond_false, cond_false, wrap_i64 (by omega) (by omega)]
      unfold r63
      by_cases h0 : x0 < 0
      · rw [decide_eq_true h0, decide_eq_false (show ¬ x0 ≥ 0 by omega)]
        exact ⟨(0, 2), rfl, rfl⟩
      · rw [decide_eq_false h0, decide_eq_true (show x0 ≥ 0 by omega)]
        by_cases hn : x0 ≥ (x3.length : Int)
        · rw [decide_eq_true hn, decide_eq_false (show ¬ x0 ≤ (x3.length : Int) - 1 by omega)]
          exact ⟨(0, 2), rfl, rfl⟩
        · rw [decide_eq_false hn, decide_eq_true (show x0 ≤ (x3.length : Int) - 1 by omega)]
          obtain ⟨k, rfl⟩ : ∃ k : Nat, x0 = (k : Int) := ⟨x0.toNat, by omega⟩
          rw [atS ck wk (show k < x3.length by omega), atI ck wk (show k < x3.length by omega), Int.toNat_natCast, blt_t (show k < x3.length by omega)]
          simp only [cond_true, cond_false, Bool.not_true, Bool.and_self, Nat.beq]
          show ∃ p, cond (ic x3 k 4 != -1) _ _ = (0, p) ∧ cond (ic x3 k 4 != -1) _ _ = (0, p)
          cases (ic x3 k 4 != -1)
          · exact ⟨_, rfl, rfl⟩
          · exact ⟨_, rfl, rfl⟩
  obtain ⟨p, k1, k2⟩ := key
  simp only [k1, k2, float_self, bne_self_eq_false]
  rfl
end Go.Proofs.Ytdpkbkmmlbmllaa
