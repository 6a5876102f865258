/- A step of a flat: rooms and walls; the answer. -/
import Derived.Test.YtfnfapmncibjfaaPsg3
namespace Go.Proofs.Ytfnfapmncibjfaa
open Go.Ab

noncomputable def hF (t : Nat) (fl g h s : List (List Int)) (i : Nat) (o : List (List Int)) : List (List Int) :=
  o.set i [((fadd .f32 (fc h i 0) (fdiv .f32 (fmul .f32 (fadd .f32 (fc fl i 0) (fc g i 0)) t) (fc s i 0)) : Nat) : Int)]
theorem hF_len (t : Nat) (fl g h s : List (List Int)) (i : Nat) (o : List (List Int)) : (hF t fl g h s i o).length = o.length := by unfold hF; rw [List.length_set]
section
variable {h s w p g fl : List (List Int)} (ok : FlatOk h s w p) (hg : g.length = h.length) (hfl : fl.length = h.length)
include ok hg hfl
theorem roomS {a t y fuel : Nat} {o s' w' p' : List (List Int)} (hf : h.length < fuel) (ho : o.length = h.length) : r101l0 fuel a t y 0 g fl h s w p o s' w' p' = (0, foldN (hF t fl g h s) h.length 0 o) := by
  have hn := ok.n5
  have hs := ok.s
  refine fold_loop (n := h.length) (step := hF t fl g h s) (mk := fun o => (0, o)) (G := fun m o i => r101l0 m a t y i g fl h s w p o s' w' p') (fun _ o => o.length = h.length) ?_ ?_ ?_ hf ho
  · intro m o ho
    show b101l0 (r101l0 m) _ _ _ _ _ _ _ _ _ _ _ _ _ _ = _
    unfold b101l0
    rw [ho, dlt_f (Nat.lt_irrefl _)]; rfl
  · intro m i o hi ho
    show b101l0 (r101l0 m) _ _ _ _ _ _ _ _ _ _ _ _ _ _ = _
    unfold b101l0
    rw [ho, dlt_t hi, dle0, Int.toNat_natCast, blt_t hi, blt_t (show i < fl.length by omega), blt_t (show i < g.length by omega), blt_t (show i < s.length by omega), wrap_succ (by omega)]
    rfl
  · intro i o _ ho
    rw [hF_len]; exact ho
theorem roomI {a t fuel : Nat} {s' w' p' : List (List Int)} (hf : h.length < fuel) : r64l0 fuel a t ((h.length : Nat) : Int) 0 g fl h s w p h s' w' p' = (0, foldN (hF t fl g h s) h.length 0 h) := by
  have hn := ok.n5
  have hs := ok.s
  refine fold_loop (n := h.length) (step := hF t fl g h s) (mk := fun o => (0, o)) (G := fun m o i => r64l0 m a t ((h.length : Nat) : Int) i g fl h s w p o s' w' p') (fun i o => o.length = h.length ∧ ∀ j, i ≤ j → o.getD j [] = h.getD j []) ?_ ?_ ?_ hf ⟨rfl, fun _ _ => rfl⟩
  · intro m o ho
    show b64l0 (r64l0 m) _ _ _ _ _ _ _ _ _ _ _ _ _ _ = _
    unfold b64l0
    rw [dlt_f (Nat.lt_irrefl _)]; rfl
  · intro m i o hi ho
    show b64l0 (r64l0 m) _ _ _ _ _ _ _ _ _ _ _ _ _ _ = _
    unfold b64l0
    simp only [Int.toNat_natCast]
    rw [ho.2 i (Nat.le_refl _), dlt_t hi, dle0, blt_t (show i < o.length by omega), blt_t (show i < fl.length by omega), blt_t (show i < g.length by omega), blt_t (show i < s.length by omega), wrap_succ (by omega)]
    rfl
  · intro i o hi ho
    refine ⟨by rw [hF_len]; exact ho.1, fun j hj => ?_⟩
    rw [← ho.2 j (by omega)]
    unfold hF
    simp [List.getD, List.getElem?_set_ne (show i ≠ j by omega)]
end
/-! ### the walls -/
noncomputable def tF (a : Nat) (h w : List (List Int)) (i j : Nat) : Nat :=
  match j with
  | 0 => fmul .f32 (fmul .f32 1073741824 (fc w i 2)) (fsub .f32 (fc h (ic w i 0).toNat 0) (fc w i 4))
  | 1 => fmul .f32 (fc w i 2) (fsub .f32 (fc w i 4) (fc w i 5))
  | 2 => fmul .f32 (fc w i 2) (fsub .f32 (fc w i 5) (fc w i 6))
  | 3 => fmul .f32 (fc w i 2) (fsub .f32 (fc w i 6) (fc w i 7))
  | _ => fmul .f32 (fmul .f32 1073741824 (fc w i 2)) (fsub .f32 (fc w i 7) (bnd a h (ic w i 1)))
noncomputable def nF (a t : Nat) (h w : List (List Int)) (i j : Nat) : Int :=
  ((fadd .f32 (fc w i (4 + j)) (fdiv .f32 (fmul .f32 (fsub .f32 (tF a h w i j) (tF a h w i (j + 1))) t) (fc w i 3)) : Nat) : Int)
noncomputable def vF (a t : Nat) (h w : List (List Int)) (i : Nat) (o : List (List Int)) : List (List Int) :=
  (((o.modify i (fun r => spl 8 r 4 [nF a t h w i 0])).modify i (fun r => spl 8 r 5 [nF a t h w i 1])).modify i (fun r => spl 8 r 6 [nF a t h w i 2])).modify i (fun r => spl 8 r 7 [nF a t h w i 3])
theorem vF_len (a t : Nat) (h w : List (List Int)) (i : Nat) (o : List (List Int)) : (vF a t h w i o).length = o.length := by unfold vF; simp
theorem vF_ne {a t : Nat} {h w : List (List Int)} {i j : Nat} (hij : i ≠ j) (o : List (List Int)) : (vF a t h w i o).getD j [] = o.getD j [] := by
  unfold vF; simp [List.getD, List.getElem?_modify, hij]
theorem vF_eq {a t : Nat} {h w : List (List Int)} {i : Nat} {o : List (List Int)} (hi : i < o.length) : (vF a t h w i o).getD i [] = [ic o i 0, ic o i 1, ic o i 2, ic o i 3, nF a t h w i 0, nF a t h w i 1, nF a t h w i 2, nF a t h w i 3] := by
  have e : (vF a t h w i o).getD i [] = spl 8 (spl 8 (spl 8 (spl 8 (o.getD i []) 4 [nF a t h w i 0]) 5 [nF a t h w i 1]) 6 [nF a t h w i 2]) 7 [nF a t h w i 3] := by
    unfold vF; simp [List.getD, List.getElem?_modify, hi]
  rw [e]; rfl
theorem mod_get (o : List (List Int)) (i j q : Nat) (v : Int) (hq : q < 8) (hne : q ≠ j) : ((o.modify i (fun r => spl 8 r j [v])).getD i []).getD q 0 = (o.getD i []).getD q 0 := by
  by_cases hi : i < o.length
  · have e : (o.modify i (fun r => spl 8 r j [v])).getD i [] = spl 8 (o.getD i []) j [v] := by simp [List.getD, List.getElem?_modify, hi]
    rw [e, spl_getD _ _ _ _ _ hq, if_neg (show ¬ (j ≤ q ∧ q < j + [v].length) by show ¬ (j ≤ q ∧ q < j + 1); omega)]
  · have e : (o.modify i (fun r => spl 8 r j [v])).getD i [] = [] := by simp [List.getD, List.getElem?_modify, hi]
    have e' : o.getD i [] = [] := by simp [List.getD, hi]
    rw [e, e']
section
variable {h s w p : List (List Int)} (ok : FlatOk h s w p) (a t : Nat)
include ok
theorem wallsSS {y fuel : Nat} {h' s' p' o : List (List Int)} (hf : w.length < fuel) (ho : o.length = w.length) : r101l1 fuel a t y 0 h s w p h' s' o p' = (0, foldN (vF a t h w) w.length 0 o) := by
  have hw := ok.w
  refine fold_loop (n := w.length) (step := vF a t h w) (mk := fun o => (0, o)) (G := fun m o i => r101l1 m a t y i h s w p h' s' o p') (fun _ o => o.length = w.length) ?_ ?_ ?_ hf ho
  · intro m o ho
    show b101l1 (r101l1 m) _ _ _ _ _ _ _ _ _ _ _ _ = _
    unfold b101l1
    rw [ho, dlt_f (Nat.lt_irrefl _)]; rfl
  · intro m i o hi ho
    obtain ⟨⟨q1, q2⟩, q3, q4⟩ := wall_ix ok hi
    have e2 : ∀ (c0 c1 c2 c3 c4 : Nat) (y1 y2 y3 y4 y5 y6 y7 : List (List Int)), r101l2d a t y (i : Int) i w c0 c1 c2 c3 c4 y1 y2 y3 y4 y5 y6 y7 = (0, tF a h w i 1, tF a h w i 2, tF a h w i 3) := fun _ _ _ _ _ _ _ _ _ _ _ _ => by
      unfold r101l2d r101l2c r101l2b
      rw [blt_t hi]; rfl
    have e3 : ∀ (c0 c1 c2 c3 c4 : Nat) (y1 y2 y3 y4 y5 y7 : List (List Int)), r101l3e a t y (i : Int) i w c0 c1 c2 c3 c4 y1 y2 y3 y4 y5 o y7 = (0, (((o.modify i (fun r => spl 8 r 4 [((fadd .f32 (fc w i 4) (fdiv .f32 (fmul .f32 (fsub .f32 c0 c1) t) (fc w i 3)) : Nat) : Int)])).modify i (fun r => spl 8 r 5 [((fadd .f32 (fc w i 5) (fdiv .f32 (fmul .f32 (fsub .f32 c1 c2) t) (fc w i 3)) : Nat) : Int)])).modify i (fun r => spl 8 r 6 [((fadd .f32 (fc w i 6) (fdiv .f32 (fmul .f32 (fsub .f32 c2 c3) t) (fc w i 3)) : Nat) : Int)])).modify i (fun r => spl 8 r 7 [((fadd .f32 (fc w i 7) (fdiv .f32 (fmul .f32 (fsub .f32 c3 c4) t) (fc w i 3)) : Nat) : Int)])) := fun _ _ _ _ _ _ _ _ _ _ _ => by
      unfold r101l3e r101l3d r101l3c r101l3b
      simp only [List.length_modify, Int.toNat_natCast]
      rw [blt_t hi, dle0, blt_t (show i < o.length by omega)]; rfl
    show b101l1 (r101l1 m) _ _ _ _ _ _ _ _ _ _ _ _ = _
    unfold b101l1
    simp only [Int.toNat_natCast]
    rw [ho, dlt_t hi, dle0, blt_t hi, e2, decide_eq_true q1, blt_t (show (ic w i 0).toNat < h.length by omega), bndS q3 q4]
    dsimp only
    rw [e3, wrap_succ (by omega)]
    rfl
  · intro i o _ ho
    rw [vF_len]; exact ho
theorem wallsII {fuel : Nat} {h' s' p' : List (List Int)} (hf : w.length < fuel) : r64l1 fuel a t ((w.length : Nat) : Int) 0 w h s p h' s' w p' = (0, foldN (vF a t h w) w.length 0 w) := by
  have hw := ok.w
  refine fold_loop (n := w.length) (step := vF a t h w) (mk := fun o => (0, o)) (G := fun m o i => r64l1 m a t ((w.length : Nat) : Int) i w h s p h' s' o p') (fun i o => o.length = w.length ∧ ∀ j, i ≤ j → o.getD j [] = w.getD j []) ?_ ?_ ?_ hf ⟨rfl, fun _ _ => rfl⟩
  · intro m o ho
    show b64l1 (r64l1 m) _ _ _ _ _ _ _ _ _ _ _ _ = _
    unfold b64l1
    rw [dlt_f (Nat.lt_irrefl _)]; rfl
  · intro m i o hi ho
    obtain ⟨⟨q1, q2⟩, q3, q4⟩ := wall_ix ok hi
    have e3 : ∀ (x3 x4 x5 x6 : Int) (st y9 y10 y11 y12 c0 c1 c2 c3 c4 ld : Nat) (y1 y2 y3 y4 y5 y6 y7 : List (List Int)), r64l3e a t (i : Int) x3 x4 x5 x6 ld st y9 y10 y11 y12 c0 c1 c2 c3 c4 y1 y2 y3 y4 y5 y6 o y7 = (0, (((o.modify i (fun r => spl 8 r 4 [((fadd .f32 (fc w i 4) (fdiv .f32 (fmul .f32 (fsub .f32 c0 c1) t) st) : Nat) : Int)])).modify i (fun r => spl 8 r 5 [((fadd .f32 (fc w i 5) (fdiv .f32 (fmul .f32 (fsub .f32 c1 c2) t) st) : Nat) : Int)])).modify i (fun r => spl 8 r 6 [((fadd .f32 (fc w i 6) (fdiv .f32 (fmul .f32 (fsub .f32 c2 c3) t) st) : Nat) : Int)])).modify i (fun r => spl 8 r 7 [((fadd .f32 (fc w i 7) (fdiv .f32 (fmul .f32 (fsub .f32 c3 c4) t) st) : Nat) : Int)])) := by
      intros
      unfold r64l3e r64l3d r64l3c r64l3b
      simp only [List.length_modify, Int.toNat_natCast]
      rw [mod_get _ i 6 7 _ (by decide) (by decide), mod_get _ i 5 7 _ (by decide) (by decide), mod_get _ i 4 7 _ (by decide) (by decide), mod_get _ i 5 6 _ (by decide) (by decide), mod_get _ i 4 6 _ (by decide) (by decide), mod_get _ i 4 5 _ (by decide) (by decide), ho.2 i (Nat.le_refl _), dle0, blt_t (show i < o.length by omega)]
      rfl
    show b64l1 (r64l1 m) _ _ _ _ _ _ _ _ _ _ _ _ = _
    unfold b64l1
    simp only [Int.toNat_natCast]
    rw [dlt_t hi, dle0, blt_t hi, decide_eq_true q1, blt_t (show (ic w i 0).toNat < h.length by omega), bndI q3 q4, e3]
    dsimp only
    rw [wrap_succ (by omega)]
    rfl
  · intro i o hi ho
    refine ⟨by rw [vF_len]; exact ho.1, fun j hj => ?_⟩
    rw [vF_ne (show i ≠ j by omega)]
    exact ho.2 j (by omega)
end
/-! ### what the walls are behind it -/
theorem rows_of {S : List CT} {l : List (List Int)} (h : ∀ i, i < l.length → RowOk S (l.getD i [])) : RowsOk S l := by
  intro r hr
  obtain ⟨i, hi, e⟩ := List.getElem_of_mem hr
  have := h i hi
  rw [List.getD_eq_getElem?_getD, List.getElem?_eq_getElem hi] at this
  rw [← e]; exact this
theorem nF_ok (a t : Nat) (h w : List (List Int)) (i j : Nat) : CTok (.fl .f32) (nF a t h w i j) := by
  unfold nF
  exact ⟨Int.natCast_nonneg _, Int.ofNat_lt.2 (fadd_lt _ _)⟩
theorem vF_rows {a t : Nat} {h w : List (List Int)} : ∀ (k i : Nat) (o : List (List Int)), RowsOk S8 o → i + k = o.length → RowsOk S8 (foldN (vF a t h w) k i o)
  | 0, _, _, ho, _ => ho
  | k + 1, i, o, ho, hk => by
    rw [foldN]
    refine vF_rows k (i + 1) _ (rows_of fun j hj => ?_) (by rw [vF_len]; omega)
    rw [vF_len] at hj
    by_cases hij : i = j
    · subst hij
      rw [vF_eq hj]
      have hr := ho.get hj
      exact ⟨hr.get (j := 0) rfl, hr.get (j := 1) rfl, hr.get (j := 2) rfl, hr.get (j := 3) rfl, nF_ok _ _ _ _ _ _, nF_ok _ _ _ _ _ _, nF_ok _ _ _ _ _ _, nF_ok _ _ _ _ _ _, trivial⟩
    · rw [vF_ne hij]; exact ho.get hj
/-! ### the step -/
noncomputable def nHeat (a b t : Nat) (g h s w p : List (List Int)) : List (List Int) := foldN (hF t (flows a b h w p) g h s) h.length 0 h
noncomputable def nWall (a t : Nat) (h w : List (List Int)) : List (List Int) := foldN (vF a t h w) w.length 0 w
noncomputable def nLoss (a t : Nat) (h w p : List (List Int)) : Nat := fmul .f32 (loss a h w p) t
theorem nHeat_len (a b t : Nat) (g h s w p : List (List Int)) : (nHeat a b t g h s w p).length = h.length := foldN_len (hF_len t _ g h s) _ _ _
theorem nWall_len (a t : Nat) (h w : List (List Int)) : (nWall a t h w).length = w.length := foldN_len (vF_len a t h w) _ _ _
section
variable {h s w p g : List (List Int)} (ok : FlatOk h s w p) (hg : g.length = h.length) (k1 : RowsOk S1 s) (k2 : RowsOk S8 w) (k3 : RowsOk S4 p) (a b t : Nat)
include ok
theorem ownS : r59 h s w p = (0, h, s, w, p) := by
  have q1 := ok.n5
  have q2 := ok.s
  have q3 := ok.w
  have q4 := ok.p
  unfold r59
  have b1 : Nat.ble ((0 + h.length) * 5) 140737488355328 = true := Nat.ble_eq_true_of_le (by omega)
  have b2 : Nat.ble ((0 + s.length) * 5) 140737488355328 = true := Nat.ble_eq_true_of_le (by omega)
  have b3 : Nat.ble ((0 + w.length) * 41) 140737488355328 = true := Nat.ble_eq_true_of_le (by omega)
  have b4 : Nat.ble ((0 + p.length) * 25) 140737488355328 = true := Nat.ble_eq_true_of_le (by omega)
  rw [b1, b2, b3, b4]; rfl
theorem ownI : r73 h s w p = (0, h, s, w, p) := ownS ok
include hg k1 k2 k3
theorem step_both : ∃ v, (v = true → FlatOk (nHeat a b t g h s w p) s (nWall a t h w) p) ∧
    r101 a b t g h s w p = cond v (cond (r102 (nLoss a t h w p)) (1, nLoss a t h w p, nHeat a b t g h s w p, s, nWall a t h w, p) (0, 0, [], [], [], [])) (0, 0, [], [], [], []) ∧
    r64 a b t h s w p g = (0, nLoss a t h w p, cond (r102 (nLoss a t h w p)) v false, nHeat a b t g h s w p, s, nWall a t h w, p) := by
  have q1 := ok.n5
  have q2 := ok.s
  have q3 := ok.w
  have q4 := ok.p
  have hH := nHeat_len a b t g h s w p
  have hW := nWall_len a t h w
  have hfl := flows_len a b h w p
  have kW : RowsOk S8 (nWall a t h w) := vF_rows w.length 0 w k2 (by omega)
  obtain ⟨v, v1, v2, v3⟩ := valid_both (x0 := nHeat a b t g h s w p) (x1 := s) (x2 := nWall a t h w) (x3 := p) k1 kW k3 (by omega) (by omega) (by omega) (by omega)
  refine ⟨v, v3, ?_, ?_⟩
  · unfold r101
    rw [flowsS ok, lossS ok, ownS ok]
    dsimp only
    rw [roomS ok hg hfl (by omega) rfl]
    dsimp only
    rw [wallsSS ok a t (by omega) rfl]
    dsimp only
    rw [show foldN (hF t (flows a b h w p) g h s) h.length 0 h = nHeat a b t g h s w p from rfl, show foldN (vF a t h w) w.length 0 w = nWall a t h w from rfl, show fmul .f32 (loss a h w p) t = nLoss a t h w p from rfl, v1]
    cases v <;> cases r102 (nLoss a t h w p) <;> rfl
  · unfold r64
    rw [flowsI ok, lossI ok, ownI ok]
    dsimp only
    rw [roomI ok hg hfl (by omega)]
    dsimp only
    rw [wallsII ok a t (by omega)]
    dsimp only
    rw [show foldN (hF t (flows a b h w p) g h s) h.length 0 h = nHeat a b t g h s w p from rfl, show foldN (vF a t h w) w.length 0 w = nWall a t h w from rfl, show fmul .f32 (loss a h w p) t = nLoss a t h w p from rfl, v2, show r70 (nLoss a t h w p) = r102 (nLoss a t h w p) from (fin_impl _).trans (fin_spec _).symm]
    cases r102 (nLoss a t h w p) <;> rfl
end
/-! ### what is asked -/
theorem upto_eq (d m : Nat) (h : d < 4294967296) : r67 d m = cond (r88 d) (flt .f32 d m || feq .f32 d m) false := by
  unfold r67
  rw [amt d h]
theorem time_eq (d : Nat) (h : d < 4294967296) : r63 d = r100 d := by
  unfold r63 r100
  rw [amt d h]
section
variable {h s w p g : List (List Int)} (lg : g.length ≤ 1048576)
include lg
theorem gainsS {fuel : Nat} (hf : g.length < fuel) : r106l0 fuel 0 g h s w p = cond (allN g.length (fun i => r115 (fc g i 0) 3351465984 1203982336)) 1 0 := by
  refine all_loop (n := g.length) (p := fun i => r115 (fc g i 0) 3351465984 1203982336) (yes := 1) (no := 0) (G := fun m i => r106l0 m i g h s w p) ?_ ?_ hf
  · intro m
    show b106l0 (r106l0 m) _ _ _ _ _ _ = _
    unfold b106l0
    rw [dlt_f (Nat.lt_irrefl _)]; rfl
  · intro m i hi
    show b106l0 (r106l0 m) _ _ _ _ _ _ = _
    unfold b106l0 r115
    rw [dlt_t hi, dle0, Int.toNat_natCast, blt_t hi, wrap_succ (by omega)]
    cases (fgt .f32 (fc g i 0) 3351465984 || feq .f32 (fc g i 0) 3351465984) <;> cases (flt .f32 (fc g i 0) 1203982336 || feq .f32 (fc g i 0) 1203982336) <;> rfl
theorem gainsI {fuel : Nat} (hf : g.length < fuel) : r105l0 fuel ((g.length : Nat) : Int) 0 g = cond (allN g.length (fun i => r115 (fc g i 0) 3351465984 1203982336)) 1 0 := by
  refine all_loop (n := g.length) (p := fun i => r115 (fc g i 0) 3351465984 1203982336) (yes := 1) (no := 0) (G := fun m i => r105l0 m ((g.length : Nat) : Int) i g) ?_ ?_ hf
  · intro m
    show b105l0 (r105l0 m) _ _ _ = _
    unfold b105l0
    rw [dlt_f (Nat.lt_irrefl _)]; rfl
  · intro m i hi
    show b105l0 (r105l0 m) _ _ _ = _
    unfold b105l0
    rw [dlt_t hi, dle0, Int.toNat_natCast, blt_t hi, wrap_succ (by omega)]
    cases r115 (fc g i 0) 3351465984 1203982336 <;> rfl
theorem code_both {a b : Nat} (hb : b < 4294967296) (k1 : RowsOk S1 s) (k2 : RowsOk S8 w) (k3 : RowsOk S4 p) (l0 : h.length ≤ 1048576) (l1 : s.length ≤ 1048576) (l2 : w.length ≤ 1048576) (l3 : p.length ≤ 1048576) : ∃ c, r57 a b g h s w p = (0, c) ∧ r55 a b h s w p g = (0, c) ∧ (c = 0 → FlatOk h s w p ∧ g.length = h.length) := by
  obtain ⟨v, v1, v2, v3⟩ := valid_both k1 k2 k3 l0 l1 l2 l3
  unfold r57 r55 r106 r105
  rw [v1, v2, gainsS lg (by omega), gainsI lg (by omega), show r66 a = r122 a from rfl, upto_eq b 1092616192 hb, show r83 a b = cond (r122 a) (cond (r88 b) (flt .f32 b 1092616192 || feq .f32 b 1092616192) false) false from rfl, bne_len]
  have elen : ((((g.length : Nat) : Int) : Int) == ((h.length : Nat) : Int)) = decide (h.length = g.length) := by
    by_cases e : h.length = g.length
    · rw [decide_eq_true e, beq_iff_eq]; omega
    · rw [decide_eq_false e, beq_eq_false_iff_ne]; omega
  rw [elen]
  cases v with
  | false => exact ⟨1, rfl, rfl, fun h => by cases h⟩
  | true =>
  cases r122 a with
  | false => exact ⟨2, rfl, rfl, fun h => by cases h⟩
  | true =>
  cases r88 b with
  | false => exact ⟨2, rfl, rfl, fun h => by cases h⟩
  | true =>
  cases (flt .f32 b 1092616192 || feq .f32 b 1092616192) with
  | false => exact ⟨2, rfl, rfl, fun h => by cases h⟩
  | true =>
  by_cases e : h.length = g.length
  · rw [decide_eq_true e]
    cases allN g.length (fun i => r115 (fc g i 0) 3351465984 1203982336) with
    | false => exact ⟨2, rfl, rfl, fun h => by cases h⟩
    | true => exact ⟨0, rfl, rfl, fun _ => ⟨v3 rfl, e.symm⟩⟩
  · rw [decide_eq_false e]
    cases allN g.length (fun i => r115 (fc g i 0) 3351465984 1203982336) <;> exact ⟨2, rfl, rfl, fun h => by cases h⟩
end
end Go.Proofs.Ytfnfapmncibjfaa
