/- Loops that count, in plain Lean. -/
import Derived.Test.YtmknfenjnladeaaA24
namespace Go.Ab

theorem wrap_i64 {n : Int} (h1 : -9223372036854775808 ≤ n) (h2 : n < 9223372036854775808) : IntKind.i64.wrap n = n := by
  have e : IntKind.i64.wrap n = if decide (n % 18446744073709551616 ≥ 9223372036854775808) = true then n % 18446744073709551616 - 18446744073709551616 else n % 18446744073709551616 := by
    unfold IntKind.wrap
    rw [show IntKind.i64.bits = 64 from rfl,show IntKind.i64.signed = true from rfl]
    simp only [Bool.true_and]
    rfl
  rw [e]
  split
  · rename_i h; rw [decide_eq_true_eq] at h; omega
  · rename_i h; rw [decide_eq_true_eq] at h; omega
theorem wrap_nat {n : Nat} (h : n < 9223372036854775808) : IntKind.i64.wrap (n : Int) = (n : Int) := wrap_i64 (by omega) (by omega)
theorem wrap_succ {n : Nat} (h : n < 9223372036854775807) : IntKind.i64.wrap ((n : Int) + 1) = ((n + 1 : Nat) : Int) := by
  have := wrap_nat (n := n + 1) (by omega)
  rw [← this]; congr 1
theorem dlt_t {a b : Nat} (h : a < b) : decide ((a : Int) < (b : Int)) = true := by rw [decide_eq_true_eq]; omega
theorem dlt_f {a b : Nat} (h : ¬ a < b) : decide ((a : Int) < (b : Int)) = false := by rw [decide_eq_false_iff_not]; omega
theorem dle0 (a : Nat) : decide ((0 : Int) ≤ (a : Int)) = true := by rw [decide_eq_true_eq]; omega
theorem blt_t {a b : Nat} (h : a < b) : Nat.blt a b = true := Nat.ble_eq_true_of_le h
variable {σ β : Type}
def allN (n : Nat) (p : Nat → Bool) : Bool := (List.range n).all p
theorem allN_true {n : Nat} {p : Nat → Bool} : allN n p = true ↔ ∀ i,i < n → p i = true := by simp [allN]
theorem allN_congr {n : Nat} {p q : Nat → Bool} (h : ∀ i,i < n → p i = q i) : allN n p = allN n q := by
  unfold allN
  rw [Bool.eq_iff_iff]
  simp only [List.all_eq_true,List.mem_range]
  exact ⟨fun g i hi => by rw [← h i hi]; exact g i hi,fun g i hi => by rw [h i hi]; exact g i hi⟩
theorem all_loop {n : Nat} {p : Nat → Bool} {yes no : β} {G : Nat → Int → β} (hend : ∀ m,G (m + 1) (n : Int) = yes) (hstep : ∀ m i,i < n → G (m + 1) (i : Int) = cond (p i) (G m ((i + 1 : Nat) : Int)) no) {fuel : Nat} (hf : n < fuel) :
    G fuel 0 = cond (allN n p) yes no := by
  have key : ∀ k i fuel,i + k = n → k < fuel → G fuel (i : Int) = cond ((List.range' i k).all p) yes no := by
    intro k
    induction k with
    | zero =>
      intro i fuel h hf
      obtain ⟨m,rfl⟩ : ∃ m,fuel = m + 1 := ⟨fuel - 1,by omega⟩
      rw [Nat.add_zero] at h; subst h
      rw [hend]; rfl
    | succ k ih =>
      intro i fuel h hf
      obtain ⟨m,rfl⟩ : ∃ m,fuel = m + 1 := ⟨fuel - 1,by omega⟩
      rw [hstep m i (by omega),ih (i + 1) m (by omega) (by omega),List.range'_succ,List.all_cons]
      cases p i <;> rfl
  have := key n 0 fuel (by omega) hf
  unfold allN
  rw [List.range_eq_range']
  exact this
def foldN (step : Nat → σ → σ) : Nat → Nat → σ → σ
  | 0,_,s => s
  | k + 1,i,s => foldN step k (i + 1) (step i s)
theorem fold_loop {n : Nat} {step : Nat → σ → σ} {mk : σ → β} {G : Nat → σ → Int → β} (Inv : Nat → σ → Prop) (hend : ∀ m s,Inv n s → G (m + 1) s (n : Int) = mk s) (hstep : ∀ m i s,i < n → Inv i s → G (m + 1) s (i : Int) = G m (step i s) ((i + 1 : Nat) : Int))
    (hinv : ∀ i s,i < n → Inv i s → Inv (i + 1) (step i s)) {fuel : Nat} {s : σ} (hf : n < fuel) (hi : Inv 0 s) : G fuel s 0 = mk (foldN step n 0 s) := by
  have key : ∀ k i fuel s,i + k = n → k < fuel → Inv i s → G fuel s (i : Int) = mk (foldN step k i s) := by
    intro k
    induction k with
    | zero =>
      intro i fuel s h hf hi
      obtain ⟨m,rfl⟩ : ∃ m,fuel = m + 1 := ⟨fuel - 1,by omega⟩
      rw [Nat.add_zero] at h; subst h
      exact hend m s hi
    | succ k ih =>
      intro i fuel s h hf hi
      obtain ⟨m,rfl⟩ : ∃ m,fuel = m + 1 := ⟨fuel - 1,by omega⟩
      rw [hstep m i s (by omega) hi]
      exact ih (i + 1) m _ (by omega) (by omega) (hinv i s (by omega) hi)
  exact key n 0 fuel s (by omega) hf hi
theorem RowOk.length {sch : List CT} {r : List Int} (h : RowOk sch r) : r.length = sch.length := (L2.length h).symm
theorem RowOk.get {sch : List CT} {r : List Int} (h : RowOk sch r) {j : Nat} {t : CT} (hj : sch[j]? = some t) : CTok t (r.getD j 0) := by
  obtain ⟨b,h1,h2⟩ := L2.get h j t hj
  rw [List.getD_eq_getElem?_getD,h1]; exact h2
theorem RowsOk.get {sch : List CT} {rows : List (List Int)} (h : RowsOk sch rows) {i : Nat} (hi : i < rows.length) : RowOk sch (rows.getD i []) := by
  rw [List.getD_eq_getElem?_getD,List.getElem?_eq_getElem hi]
  exact h _ (List.getElem_mem hi)
theorem CTok.lt32 {x : Int} (h : CTok (.fl .f32) x) : Int.toNat x < 4294967296 := by
  simp only [CTok] at h; omega

theorem L2.nil {α β : Type} {R : α → β → Prop} : L2 R [] [] := trivial
theorem L2.mk {α β : Type} {R : α → β → Prop} {a : α} {b : β} {l : List α} {l' : List β} (h : R a b) (t : L2 R l l') : L2 R (a :: l) (b :: l') := ⟨h,t⟩
theorem vrel_c {ι : Nat → Info} {D : Nat → Prop} {v v' : Value} (h : CRel ι D v v') : VRel ι D v v' := h.toV1.toV
end Go.Ab
