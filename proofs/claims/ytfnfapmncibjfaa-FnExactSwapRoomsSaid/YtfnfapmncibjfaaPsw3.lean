/- The plain law of SwapRooms. -/
import Derived.Test.YtfnfapmncibjfaaPsw2
namespace Go.Proofs.Ytfnfapmncibjfaa
open Go.Ab

theorem mod_get (n : Nat) (o : List (List Int)) (i j q : Nat) (v : Int) (hq : q < n) (hne : q ≠ j) : ((o.modify i (fun r => spl n r j [v])).getD i []).getD q 0 = (o.getD i []).getD q 0 := by
  by_cases hi : i < o.length
  · have e : (o.modify i (fun r => spl n r j [v])).getD i [] = spl n (o.getD i []) j [v] := by simp [List.getD, List.getElem?_modify, hi]
    rw [e, spl_getD _ _ _ _ _ hq, if_neg (show ¬ (j ≤ q ∧ q < j + [v].length) by show ¬ (j ≤ q ∧ q < j + 1); omega)]
  · have e : (o.modify i (fun r => spl n r j [v])).getD i [] = [] := by simp [List.getD, List.getElem?_modify, hi]
    have e' : o.getD i [] = [] := by simp [List.getD, hi]
    rw [e, e']
noncomputable def uF (n : Nat) (a b : Int) (i : Nat) (o : List (List Int)) : List (List Int) :=
  (o.modify i (fun r => spl n r 0 [r91 (ic o i 0) a b])).modify i (fun r => spl n r 1 [r91 (ic o i 1) a b])
theorem uF_len (n : Nat) (a b : Int) (i : Nat) (o : List (List Int)) : (uF n a b i o).length = o.length := by unfold uF; simp
theorem foldN_len {step : Nat → List (List Int) → List (List Int)} (hs : ∀ i o, (step i o).length = o.length) : ∀ (k i : Nat) (o : List (List Int)), (foldN step k i o).length = o.length
  | 0, _, _ => rfl
  | k + 1, i, o => by rw [foldN, foldN_len hs k, hs]
theorem w8S {a b : Int} {h s p o : List (List Int)} (hl : o.length ≤ 1048576) {fuel : Nat} (hf : o.length < fuel) : r38l0 fuel a b 0 h s o p = (0, foldN (uF 8 a b) o.length 0 o) := by
  refine fold_loop (n := o.length) (step := uF 8 a b) (mk := fun x => (0, x)) (G := fun m x i => r38l0 m a b i h s x p) (fun _ x => x.length = o.length) ?_ ?_ ?_ hf rfl
  · intro m x hx
    show b38l0 (r38l0 m) _ _ _ _ _ _ _ = _
    unfold b38l0
    rw [hx, dlt_f (Nat.lt_irrefl _)]; rfl
  · intro m i x hi hx
    show b38l0 (r38l0 m) _ _ _ _ _ _ _ = _
    unfold b38l0
    simp only [List.length_modify, Int.toNat_natCast, mod_get 8 _ i 0 1 _ (by decide) (by decide)]
    rw [hx, dlt_t hi, dle0, blt_t hi, wrap_succ (by omega)]
    rfl
  · intro i x _ hx
    rw [uF_len]; exact hx
theorem p4S {a b : Int} {h s w o : List (List Int)} (hl : o.length ≤ 1048576) {fuel : Nat} (hf : o.length < fuel) : r38l1 fuel a b 0 h s w o = (0, foldN (uF 4 a b) o.length 0 o) := by
  refine fold_loop (n := o.length) (step := uF 4 a b) (mk := fun x => (0, x)) (G := fun m x i => r38l1 m a b i h s w x) (fun _ x => x.length = o.length) ?_ ?_ ?_ hf rfl
  · intro m x hx
    show b38l1 (r38l1 m) _ _ _ _ _ _ _ = _
    unfold b38l1
    rw [hx, dlt_f (Nat.lt_irrefl _)]; rfl
  · intro m i x hi hx
    show b38l1 (r38l1 m) _ _ _ _ _ _ _ = _
    unfold b38l1
    simp only [List.length_modify, Int.toNat_natCast, mod_get 4 _ i 0 1 _ (by decide) (by decide)]
    rw [hx, dlt_t hi, dle0, blt_t hi, wrap_succ (by omega)]
    rfl
  · intro i x _ hx
    rw [uF_len]; exact hx
theorem w8I {a b : Int} {h s p o : List (List Int)} (hl : o.length ≤ 1048576) {fuel : Nat} (hf : o.length < fuel) : r22l0 fuel ((o.length : Nat) : Int) 0 a b o h s p = (0, foldN (uF 8 a b) o.length 0 o) := by
  refine fold_loop (n := o.length) (step := uF 8 a b) (mk := fun x => (0, x)) (G := fun m x i => r22l0 m ((o.length : Nat) : Int) i a b x h s p) (fun _ x => x.length = o.length) ?_ ?_ ?_ hf rfl
  · intro m x hx
    show b22l0 (r22l0 m) _ _ _ _ _ _ _ _ = _
    unfold b22l0
    rw [dlt_f (Nat.lt_irrefl _)]; rfl
  · intro m i x hi hx
    show b22l0 (r22l0 m) _ _ _ _ _ _ _ _ = _
    unfold b22l0
    simp only [List.length_modify, Int.toNat_natCast]
    rw [hx, dlt_t hi, dle0, blt_t hi, wrap_succ (by omega)]
    rfl
  · intro i x _ hx
    rw [uF_len]; exact hx
theorem p4I {a b : Int} {h s w o : List (List Int)} (hl : o.length ≤ 1048576) {fuel : Nat} (hf : o.length < fuel) : r22l1 fuel ((o.length : Nat) : Int) 0 a b o h s w = (0, foldN (uF 4 a b) o.length 0 o) := by
  refine fold_loop (n := o.length) (step := uF 4 a b) (mk := fun x => (0, x)) (G := fun m x i => r22l1 m ((o.length : Nat) : Int) i a b x h s w) (fun _ x => x.length = o.length) ?_ ?_ ?_ hf rfl
  · intro m x hx
    show b22l1 (r22l1 m) _ _ _ _ _ _ _ _ = _
    unfold b22l1
    rw [dlt_f (Nat.lt_irrefl _)]; rfl
  · intro m i x hi hx
    show b22l1 (r22l1 m) _ _ _ _ _ _ _ _ = _
    unfold b22l1
    simp only [List.length_modify, Int.toNat_natCast]
    rw [hx, dlt_t hi, dle0, blt_t hi, wrap_succ (by omega)]
    rfl
  · intro i x _ hx
    rw [uF_len]; exact hx
end Go.Proofs.Ytfnfapmncibjfaa
