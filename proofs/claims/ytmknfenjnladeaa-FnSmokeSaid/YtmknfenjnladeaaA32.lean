/- Loops that put one row behind the other. -/
import Derived.Test.YtmknfenjnladeaaA29
namespace Go.Ab

def appR {α : Type} (r : Nat × List α) (s : List α) : Nat × List α := cond (Nat.beq r.1 0) (0,r.2) (cond (Nat.beq r.1 1) (0,s) (2,[]))
theorem app_loop {α : Type} {n : Nat} {f : Nat → Option α} {G : Nat → List α → Int → Nat × List α} (hend : ∀ m s,G (m + 1) s (n : Int) = (1,[]))
    (hstep : ∀ m i s,i < n → s.length ≤ i → G (m + 1) s (i : Int) = match f i with | none => G m s ((i + 1 : Nat) : Int) | some x => appR (G m (s ++ [x]) ((i + 1 : Nat) : Int)) (s ++ [x])) {fuel : Nat} (hf : n < fuel) :
    G fuel [] 0 = (0,(List.range n).filterMap f) ∨ (G fuel [] 0 = (1,[]) ∧ (List.range n).filterMap f = []) := by
  have key : ∀ k i fuel s,i + k = n → k < fuel → s.length ≤ i → G fuel s (i : Int) = (0,s ++ (List.range' i k).filterMap f) ∨ (G fuel s (i : Int) = (1,[]) ∧ (List.range' i k).filterMap f = []) := by
    intro k
    induction k with
    | zero =>
      intro i fuel s h hf hs
      obtain ⟨m,rfl⟩ : ∃ m,fuel = m + 1 := ⟨fuel - 1,by omega⟩
      rw [Nat.add_zero] at h; subst h
      exact .inr ⟨hend m s,rfl⟩
    | succ k ih =>
      intro i fuel s h hf hs
      obtain ⟨m,rfl⟩ : ∃ m,fuel = m + 1 := ⟨fuel - 1,by omega⟩
      rw [hstep m i s (by omega) hs,List.range'_succ]
      cases hx : f i with
      | none =>
        rw [List.filterMap_cons_none hx]
        exact ih (i + 1) m s (by omega) (by omega) (by omega)
      | some x =>
        rw [List.filterMap_cons_some hx]
        refine .inl ?_
        rcases ih (i + 1) m (s ++ [x]) (by omega) (by omega) (by simp; omega) with e | ⟨e,e'⟩
        · show appR _ _ = _
          rw [e]
          show (0,(s ++ [x]) ++ _) = _
          rw [List.append_assoc]; rfl
        · show appR _ _ = _
          rw [e,e']
          rfl
  have := key n 0 fuel [] (by omega) hf (Nat.le_refl _)
  rw [List.nil_append] at this
  rw [List.range_eq_range']
  exact this
theorem fold_at {σ β : Type} {n : Nat} {step : Nat → σ → σ} {mk : σ → β} {G : Nat → σ → Int → β} (hend : ∀ m s,G (m + 1) s (n : Int) = mk s)
    (hstep : ∀ m i s,i < n → G (m + 1) s (i : Int) = G m (step i s) ((i + 1 : Nat) : Int)) : ∀ k i fuel s,i + k = n → k < fuel → G fuel s (i : Int) = mk (foldN step k i s) := by
  intro k
  induction k with
  | zero =>
    intro i fuel s h hf
    obtain ⟨m,rfl⟩ : ∃ m,fuel = m + 1 := ⟨fuel - 1,by omega⟩
    rw [Nat.add_zero] at h; subst h
    exact hend m s
  | succ k ih =>
    intro i fuel s h hf
    obtain ⟨m,rfl⟩ : ∃ m,fuel = m + 1 := ⟨fuel - 1,by omega⟩
    rw [hstep m i s (by omega)]
    exact ih (i + 1) m _ (by omega) (by omega)
theorem foldN_shift {σ : Type} (f : Nat → σ → σ) : ∀ k i s,foldN (fun j => f (1 + j)) k i s = foldN f k (1 + i) s
  | 0,_,_ => rfl
  | k + 1,i,s => by
    show foldN (fun j => f (1 + j)) k (i + 1) _ = foldN f k (1 + i + 1) _
    rw [foldN_shift f k (i + 1)]; rfl
theorem take_all {α : Type} (s : List α) : (s.drop 0).take s.length = s := by simp
end Go.Ab
