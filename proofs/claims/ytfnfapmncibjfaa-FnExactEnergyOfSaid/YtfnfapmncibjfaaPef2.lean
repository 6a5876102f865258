/- The plain law of EnergyOf. -/
import Derived.Test.YtfnfapmncibjfaaPef1
namespace Go.Proofs.Ytfnfapmncibjfaa
open Go.Ab

noncomputable def pr (h s : List (List Int)) (i : Nat) : Nat := fmul .f32 (fc h i 0) (fc s i 0)
noncomputable def wl (w : List (List Int)) (i : Nat) : List Nat := [fmul .f32 (fc w i 4) (fc w i 3), fmul .f32 (fc w i 5) (fc w i 3), fmul .f32 (fc w i 6) (fc w i 3), fmul .f32 (fc w i 7) (fc w i 3)]
def tab (l : List Nat) : List (List Int) := l.map fun a => [((a : Nat) : Int)]
theorem tab_len (l : List Nat) : (tab l).length = l.length := by unfold tab; simp
theorem tab_append (l m : List Nat) : tab (l ++ m) = tab l ++ tab m := by unfold tab; simp
theorem tab_at {l : List Nat} {i : Nat} (hi : i < l.length) : fc (tab l) i 0 = l[i] := by
  have e : (tab l).getD i [] = [((l[i] : Nat) : Int)] := by unfold tab; simp [List.getD, hi]
  show Int.toNat (((tab l).getD i []).getD 0 0) = _
  rw [e]; rfl
noncomputable def rooms (h s : List (List Int)) (k : Nat) : List Nat := (List.range k).map (pr h s)
noncomputable def walls (w : List (List Int)) (k : Nat) : List Nat := (List.range k).flatMap (wl w)
theorem rooms_succ (h s : List (List Int)) (k : Nat) : rooms h s (k + 1) = rooms h s k ++ [pr h s k] := by
  unfold rooms; rw [List.range_succ, List.map_append]; rfl
theorem rooms_len (h s : List (List Int)) (k : Nat) : (rooms h s k).length = k := by unfold rooms; simp
theorem walls_succ (w : List (List Int)) (k : Nat) : walls w (k + 1) = walls w k ++ wl w k := by
  unfold walls; rw [List.range_succ, List.flatMap_append]; simp
theorem walls_len (w : List (List Int)) : ∀ k, (walls w k).length = 4 * k
  | 0 => rfl
  | k + 1 => by rw [walls_succ, List.length_append, walls_len w k]; show 4 * k + 4 = _; omega
theorem tk (l : List (List Int)) : (l.drop 0).take l.length = l := by simp
theorem ble_t {a b : Nat} (h : a ≤ b) : Nat.ble a b = true := Nat.ble_eq_true_of_le h
section
variable {h s w p : List (List Int)} (ok : FlatOk h s w p)
include ok
theorem rS : ∀ (k i fuel x : Nat), i + k = h.length → k < fuel → r24l0 fuel x (i : Int) h s w p = (0, ((List.range' i k).map (pr h s)).foldl (fadd .f32) x) := by
  have hn := ok.n5
  have hs := ok.s
  intro k
  induction k with
  | zero =>
    intro i fuel x hik hf
    obtain ⟨m, rfl⟩ : ∃ m, fuel = m + 1 := ⟨fuel - 1, by omega⟩
    show b24l0 (r24l0 m) _ _ _ _ _ _ = _
    unfold b24l0
    rw [dlt_f (by omega)]; rfl
  | succ k ih =>
    intro i fuel x hik hf
    obtain ⟨m, rfl⟩ : ∃ m, fuel = m + 1 := ⟨fuel - 1, by omega⟩
    show b24l0 (r24l0 m) _ _ _ _ _ _ = _
    unfold b24l0
    rw [dlt_t (show i < h.length by omega), dle0, Int.toNat_natCast, blt_t (show i < h.length by omega), blt_t (show i < s.length by omega), wrap_succ (by omega), ih (i + 1) m _ (by omega) (by omega), List.range'_succ]
    rfl
theorem wS : ∀ (k i fuel x : Nat), i + k = w.length → k < fuel → r24l1 fuel x (i : Int) h s w p = (0, ((List.range' i k).flatMap (wl w)).foldl (fadd .f32) x) := by
  have hw := ok.w
  intro k
  induction k with
  | zero =>
    intro i fuel x hik hf
    obtain ⟨m, rfl⟩ : ∃ m, fuel = m + 1 := ⟨fuel - 1, by omega⟩
    show b24l1 (r24l1 m) _ _ _ _ _ _ = _
    unfold b24l1
    rw [dlt_f (by omega)]; rfl
  | succ k ih =>
    intro i fuel x hik hf
    obtain ⟨m, rfl⟩ : ∃ m, fuel = m + 1 := ⟨fuel - 1, by omega⟩
    have e : r24l2e x (i : Int) h s w p = (0, (wl w i).foldl (fadd .f32) x) := by
      unfold r24l2e r24l2d r24l2c r24l2b
      simp only [Int.toNat_natCast]
      rw [dle0, blt_t (show i < w.length by omega)]; rfl
    show b24l1 (r24l1 m) _ _ _ _ _ _ = _
    unfold b24l1
    rw [dlt_t (show i < w.length by omega), e, wrap_succ (by omega), List.range'_succ, List.flatMap_cons, List.foldl_append]
    exact ih (i + 1) m _ (by omega) (by omega)
theorem rI : ∀ (k i fuel : Nat), i + k = h.length → k < fuel → r26l0 fuel ((h.length : Nat) : Int) (i : Int) (tab (rooms h s i)) h s w p = cond (Nat.beq k 0) (1, []) (0, tab (rooms h s h.length)) := by
  have hn := ok.n5
  have hs := ok.s
  intro k
  induction k with
  | zero =>
    intro i fuel hik hf
    obtain ⟨m, rfl⟩ : ∃ m, fuel = m + 1 := ⟨fuel - 1, by omega⟩
    show b26l0 (r26l0 m) _ _ _ _ _ _ _ = _
    unfold b26l0
    rw [dlt_f (by omega)]; rfl
  | succ k ih =>
    intro i fuel hik hf
    obtain ⟨m, rfl⟩ : ∃ m, fuel = m + 1 := ⟨fuel - 1, by omega⟩
    have et : tab (rooms h s i) ++ ([[((pr h s i : Nat) : Int)]] : List (List Int)) = tab (rooms h s (i + 1)) := by rw [rooms_succ, tab_append]; rfl
    show b26l0 (r26l0 m) _ _ _ _ _ _ _ = _
    unfold b26l0
    simp only [Int.toNat_natCast]
    rw [tk, show fmul .f32 (Int.toNat ((h.getD i []).getD 0 0)) (Int.toNat ((s.getD i []).getD 0 0)) = pr h s i from rfl, et, tab_len, rooms_len, dlt_t (show i < h.length by omega), dle0, blt_t (show i < h.length by omega), blt_t (show i < s.length by omega), wrap_succ (by omega), ih (i + 1) m (by omega) (by omega), ble_t (show (i + 1) * 5 ≤ 140737488355328 by omega)]
    cases k with
    | zero => rw [show h.length = i + 1 by omega]; rfl
    | succ k => rfl
end
theorem wall4 {l : List Nat} (hl : l.length ≤ 1000) (w : List (List Int)) (i : Nat) (x0 x1 : Int) (y0 y1 : Int) (a b c d : Nat) (t : List (List Int)) : r26l2e x0 x1 (fc w i 4) (fc w i 5) (fc w i 6) (fc w i 7) (tab l) y0 y1 a (fc w i 3) b c d (fc w i 7) t = (0, tab (l ++ wl w i)) := by
  unfold r26l2e r26l2d r26l2c r26l2b
  simp only [tk]
  simp only [List.length_append, List.length_cons, List.length_nil, tab_len]
  rw [ble_t (show (l.length + 1) * 5 ≤ 140737488355328 by omega), ble_t (show (l.length + (0 + 1) + 1) * 5 ≤ 140737488355328 by omega), ble_t (show (l.length + (0 + 1) + (0 + 1) + 1) * 5 ≤ 140737488355328 by omega), ble_t (show (l.length + (0 + 1) + (0 + 1) + (0 + 1) + 1) * 5 ≤ 140737488355328 by omega), tab_append]
  show (0, tab l ++ _ ++ _ ++ _ ++ _) = (0, tab l ++ _)
  rw [List.append_assoc, List.append_assoc, List.append_assoc]; rfl
theorem wI {w : List (List Int)} (hw : w.length ≤ 10) {L : List Nat} (hL : L.length ≤ 10) : ∀ (k i fuel : Nat), i + k = w.length → k < fuel → r26l1 fuel ((w.length : Nat) : Int) (i : Int) (tab (L ++ walls w i)) w = cond (Nat.beq k 0) (1, []) (0, tab (L ++ walls w w.length)) := by
  intro k
  induction k with
  | zero =>
    intro i fuel hik hf
    obtain ⟨m, rfl⟩ : ∃ m, fuel = m + 1 := ⟨fuel - 1, by omega⟩
    show b26l1 (r26l1 m) _ _ _ _ = _
    unfold b26l1
    rw [dlt_f (by omega)]; rfl
  | succ k ih =>
    intro i fuel hik hf
    obtain ⟨m, rfl⟩ : ∃ m, fuel = m + 1 := ⟨fuel - 1, by omega⟩
    have hlen := walls_len w i
    show b26l1 (r26l1 m) _ _ _ _ = _
    unfold b26l1
    simp only [Int.toNat_natCast]
    rw [wall4 (l := L ++ walls w i) (by rw [List.length_append]; omega), dlt_t (show i < w.length by omega), dle0, blt_t (show i < w.length by omega), wrap_succ (by omega)]
    dsimp only
    rw [List.append_assoc, ← walls_succ, ih (i + 1) m (by omega) (by omega)]
    cases k with
    | zero => rw [show w.length = i + 1 by omega]; rfl
    | succ k => rfl
theorem sum_loop {a : Nat} {l : List Nat} (hl : l.length ≤ 1000) : ∀ (k i fuel x : Nat), i + k = l.length → k < fuel → r80l0 fuel x l.length l.length ((l.length : Nat) : Int) (i : Int) (tab (a :: l)) = (0, (l.drop i).foldl (fadd .f32) x) := by
  intro k
  induction k with
  | zero =>
    intro i fuel x hik hf
    obtain ⟨m, rfl⟩ : ∃ m, fuel = m + 1 := ⟨fuel - 1, by omega⟩
    show b80l0 (r80l0 m) _ _ _ _ _ _ = _
    unfold b80l0
    rw [dlt_f (by omega), List.drop_eq_nil_of_le (by omega)]; rfl
  | succ k ih =>
    intro i fuel x hik hf
    obtain ⟨m, rfl⟩ : ∃ m, fuel = m + 1 := ⟨fuel - 1, by omega⟩
    have hi : i < l.length := by omega
    have e : fc (tab (a :: l)) (1 + i) 0 = l[i] := by
      rw [tab_at (show 1 + i < (a :: l).length by simp; omega)]
      simp [Nat.add_comm 1 i]
    show b80l0 (r80l0 m) _ _ _ _ _ _ = _
    unfold b80l0
    simp only [Int.toNat_natCast]
    rw [dlt_t hi, dle0, blt_t hi, tab_len, blt_t (show 1 + i < (a :: l).length by simp; omega), wrap_succ (by omega), show Int.toNat (((tab (a :: l)).getD (1 + i) []).getD 0 0) = l[i] from e, List.drop_eq_getElem_cons hi]
    exact ih (i + 1) m _ (by omega) (by omega)
theorem sumI {a : Nat} {l : List Nat} (hl : l.length ≤ 1000) : r80 (tab (a :: l)) = (0, l.foldl (fadd .f32) a) := by
  have e0 : Int.toNat (((tab (a :: l)).getD 0 []).getD 0 0) = a := rfl
  have el : (tab (a :: l)).length = l.length + 1 := tab_len _
  unfold r80
  rw [e0, el, Nat.add_sub_cancel, blt_t (show 0 < l.length + 1 by omega), ble_t (show 1 ≤ l.length + 1 by omega), ble_t (Nat.le_refl _)]
  cases l with
  | nil => rfl
  | cons b l =>
    have g := sum_loop (a := a) hl (b :: l).length 0 (1000 + ((b :: l).length + 1)) a (by omega) (by omega)
    have g' : r80l0 (1000 + ((b :: l).length + 1)) a (b :: l).length (b :: l).length (((b :: l).length : Nat) : Int) 0 (tab (a :: b :: l)) = (0, (b :: l).foldl (fadd .f32) a) := g
    rw [g', blt_t (show 1 < (b :: l).length + 1 by simp)]
    rfl
/-! ### how great a sum can be -/
theorem rval_double {r : Nat} (h : 8388608 ≤ r) : rval F32 (r + 8388608) = 2 * rval F32 r := by
  have hb : F32.binade = 8388608 := by decide +kernel
  unfold rval
  rw [hb, if_neg (by omega), if_neg (by omega)]
  have e1 : (r + 8388608) % 8388608 = r % 8388608 := by omega
  have e2 : (r + 8388608) / 8388608 - 1 = (r / 8388608 - 1) + 1 := by omega
  rw [e1, e2, Nat.pow_succ]
  generalize 2 ^ (r / 8388608 - 1) = q
  rw [← Nat.mul_assoc, Nat.mul_comm]
def Be (k : Nat) : Nat := 1241513984 + k * 8388608
theorem Be_succ (k : Nat) : rval F32 (Be k) + rval F32 (Be 0) ≤ rval F32 (Be (k + 1)) := by
  have e : Be (k + 1) = Be k + 8388608 := by unfold Be; omega
  have hm : rval F32 (Be 0) ≤ rval F32 (Be k) := by
    rcases Nat.eq_or_lt_of_le (show Be 0 ≤ Be k by unfold Be; omega) with h | h
    · rw [h]; exact Nat.le_refl _
    · exact Nat.le_of_lt (rval_lt _ h)
  rw [e, rval_double (by unfold Be; omega)]
  omega
theorem fold_le : ∀ (l : List Nat) (x k : Nat), Le x (Be k) → (∀ y, y ∈ l → Le y (Be 0)) → k + l.length ≤ 100 → Le (l.foldl (fadd .f32) x) (Be (k + l.length))
  | [], _, _, hx, _, _ => hx
  | y :: l, x, k, hx, hl, hk => by
    rw [List.length_cons] at hk
    have g := fold_le l (fadd .f32 x y) (k + 1) (sum_le hx (hl y (by simp)) (by unfold Be; omega) (by unfold Be; omega) (by unfold Be; omega) (Be_succ k)) (fun z hz => hl z (by simp [hz])) (by omega)
    rw [List.foldl_cons, List.length_cons]
    rwa [show k + (l.length + 1) = k + 1 + l.length by omega]
section
variable {h s w p : List (List Int)} (ok : FlatOk h s w p) (k0 : RowsOk S1 h) (k1 : RowsOk S1 s) (k2 : RowsOk S8 w)
theorem prod_bd {a b : Nat} (ha : Le a 1128792064) (hb : b ≤ 1176256512) : Le (fmul .f32 a b) (Be 0) :=
  prod_le ha (le_of_pos hb (by omega)) (by omega) (by omega) (by unfold Be; omega) (by decide +kernel)
include ok k0 k1 in
theorem pr_bd {i : Nat} (hi : i < h.length) : Le (pr h s i) (Be 0) := by
  have hp := ok.rooms i hi
  unfold pR at hp
  rw [Bool.and_eq_true] at hp
  have hs := ok.s
  exact prod_bd (heat_le (fc_lt k0 hi rfl) hp.1) (store_le (fc_lt k1 (show i < s.length by omega) rfl) hp.2).2
include ok k2 in
theorem wl_bd {i : Nat} (hi : i < w.length) : ∀ y, y ∈ wl w i → Le y (Be 0) := by
  have hp := ok.walls i hi
  unfold pW at hp
  simp only [Bool.and_eq_true] at hp
  obtain ⟨h4, h5, h6, h7, _, _, _, _, hs⟩ := hp
  have hst := (store_le (fc_lt k2 hi (j := 3) rfl) hs).2
  intro y hy
  unfold wl at hy
  simp only [List.mem_cons, List.not_mem_nil, or_false] at hy
  rcases hy with rfl | rfl | rfl | rfl
  · exact prod_bd (heat_le (fc_lt k2 hi (j := 4) rfl) h4) hst
  · exact prod_bd (heat_le (fc_lt k2 hi (j := 5) rfl) h5) hst
  · exact prod_bd (heat_le (fc_lt k2 hi (j := 6) rfl) h6) hst
  · exact prod_bd (heat_le (fc_lt k2 hi (j := 7) rfl) h7) hst
/-- all that is added up, but for the first -/
noncomputable def rest (h s w : List (List Int)) : List Nat := (List.range' 1 (h.length - 1)).map (pr h s) ++ walls w w.length
include ok in
theorem all_eq : rooms h s h.length ++ walls w w.length = pr h s 0 :: rest h s w := by
  have hn := ok.n1
  obtain ⟨n, hn'⟩ : ∃ n, h.length = n + 1 := ⟨h.length - 1, by omega⟩
  unfold rest rooms
  rw [hn', Nat.add_sub_cancel, List.range_eq_range', List.range'_succ]
  rfl
include ok in
theorem rest_len : (rest h s w).length ≤ 60 := by
  have hn := ok.n5
  have hw := ok.w
  unfold rest
  rw [List.length_append, List.length_map, List.length_range', walls_len]
  omega
include ok in
theorem energyS (hv : r61 h s w p = (0, true)) : r24 h s w p = (0, (rest h s w).foldl (fadd .f32) (pr h s 0), 0) := by
  have hn := ok.n5
  have hn1 := ok.n1
  have hs := ok.s
  have hw := ok.w
  have g1 := rS ok (h.length - 1) 1 (1000 + p.length + w.length + s.length + h.length) (pr h s 0) (by omega) (by omega)
  have g1' : r24l0 (1000 + p.length + w.length + s.length + h.length) (pr h s 0) 1 h s w p = (0, ((List.range' 1 (h.length - 1)).map (pr h s)).foldl (fadd .f32) (pr h s 0)) := g1
  have g2 := wS ok w.length 0 (1000 + p.length + w.length + s.length + h.length) (((List.range' 1 (h.length - 1)).map (pr h s)).foldl (fadd .f32) (pr h s 0)) (by omega) (by omega)
  have g2' : r24l1 (1000 + p.length + w.length + s.length + h.length) (((List.range' 1 (h.length - 1)).map (pr h s)).foldl (fadd .f32) (pr h s 0)) 0 h s w p = (0, ((List.range' 0 w.length).flatMap (wl w)).foldl (fadd .f32) (((List.range' 1 (h.length - 1)).map (pr h s)).foldl (fadd .f32) (pr h s 0))) := g2
  have e : (rest h s w).foldl (fadd .f32) (pr h s 0) = ((List.range' 0 w.length).flatMap (wl w)).foldl (fadd .f32) (((List.range' 1 (h.length - 1)).map (pr h s)).foldl (fadd .f32) (pr h s 0)) := by
    unfold rest walls
    rw [List.foldl_append, List.range_eq_range']
  unfold r24
  rw [hv, show fmul .f32 (Int.toNat ((h.getD 0 []).getD 0 0)) (Int.toNat ((s.getD 0 []).getD 0 0)) = pr h s 0 from rfl, g1', blt_t (show 0 < h.length by omega), blt_t (show 0 < s.length by omega)]
  dsimp only
  rw [g2', e]
  rfl
include ok k0 k1 k2 in
theorem energyI (hv : r65 h s w p = (0, true)) : r26 h s w p = (0, (rest h s w).foldl (fadd .f32) (pr h s 0), 0) := by
  have hn := ok.n5
  have hn1 := ok.n1
  have hs := ok.s
  have hw := ok.w
  have hrl := rest_len ok
  have hfin : r79 ((rest h s w).foldl (fadd .f32) (pr h s 0)) = ((rest h s w).foldl (fadd .f32) (pr h s 0), 0) := by
    have g := fold_le (rest h s w) (pr h s 0) 0 (pr_bd ok k0 k1 (by omega)) (fun y hy => by
      unfold rest at hy
      rcases List.mem_append.1 hy with hy | hy
      · obtain ⟨i, hi, rfl⟩ := List.mem_map.1 hy
        have := List.mem_range'_1.1 hi
        exact pr_bd ok k0 k1 (by omega)
      · obtain ⟨i, hi, hy⟩ := List.mem_flatMap.1 hy
        exact wl_bd ok k2 (List.mem_range.1 hi) y hy) (by omega)
    have hfi : Fi ((rest h s w).foldl (fadd .f32) (pr h s 0)) := g.fi (by unfold Be; omega)
    have e : r70 ((rest h s w).foldl (fadd .f32) (pr h s 0)) = true := by rw [fin_impl]; exact decide_eq_true hfi
    unfold r79
    rw [e]; rfl
  have z : Nat.beq h.length 0 = false := by
    rw [← Bool.not_eq_true]; intro e; have := Nat.eq_of_beq_eq_true e; omega
  have q1 := rI ok h.length 0 (1000 + p.length + w.length + s.length + h.length + 0) (by omega) (by omega)
  have q1' : r26l0 (1000 + p.length + w.length + s.length + h.length + 0) ((h.length : Nat) : Int) 0 [] h s w p = (0, tab (rooms h s h.length)) := by
    refine Eq.trans q1 ?_
    rw [z]; rfl
  have hrm := rooms_len h s h.length
  have q2 := wI hw (L := rooms h s h.length) (by omega) w.length 0 (1000 + w.length + (tab (rooms h s h.length)).length) (by omega) (by omega)
  have q2' : r26l1 (1000 + w.length + (tab (rooms h s h.length)).length) ((w.length : Nat) : Int) 0 (tab (rooms h s h.length)) w = cond (Nat.beq w.length 0) (1, []) (0, tab (rooms h s h.length ++ walls w w.length)) := by
    refine Eq.trans ?_ q2
    rw [show walls w 0 = [] from rfl, List.append_nil]; rfl
  have q3 := sumI (a := pr h s 0) (l := rest h s w) (by omega)
  unfold r26
  rw [hv, q1']
  dsimp only
  rw [q2']
  cases hz : Nat.beq w.length 0 with
  | true =>
    have hw0 : w.length = 0 := Nat.eq_of_beq_eq_true hz
    have e : tab (rooms h s h.length) = tab (pr h s 0 :: rest h s w) := by
      rw [← all_eq ok, hw0]
      rw [show walls w 0 = [] from rfl, List.append_nil]
    dsimp only [cond_true]
    rw [e, q3]
    dsimp only
    rw [hfin]
    rfl
  | false =>
    dsimp only [cond_false]
    rw [all_eq ok, q3]
    dsimp only
    rw [hfin]
    rfl
end
theorem plain4 (x0 x1 x2 x3 : List (List Int)) (k0 : RowsOk S1 x0) (l0 : x0.length ≤ 9223372036854775807) (k1 : RowsOk S1 x1) (l1 : x1.length ≤ 9223372036854775807) (k2 : RowsOk S8 x2) (l2 : x2.length ≤ 9223372036854775807) (k3 : RowsOk S4 x3) (l3 : x3.length ≤ 9223372036854775807) : r4 x0 x1 x2 x3 = (0, true) := by
  unfold r4
  rcases szF l0 l1 l2 l3 with g | ⟨g, g2, g3, g4, g5⟩
  · rw [decide_eq_true g]; rfl
  rw [decide_eq_false (show ¬ r23 1048576 x0 x1 x2 x3 < 0 by omega), copyF k0 k1 k2 k3 g2 g3 g4 g5]
  obtain ⟨b, v1, v2, v3⟩ := valid_both k1 k2 k3 g2 g3 g4 g5
  have hs := flat_self g2 g3 g4 g5
  have key : ∃ v c, r24 x0 x1 x2 x3 = (0, v, c) ∧ r26 x0 x1 x2 x3 = (0, v, c) := by
    cases b with
    | false =>
      refine ⟨0, 1, ?_, ?_⟩
      · unfold r24; rw [v1]; rfl
      · unfold r26; rw [v2]; rfl
    | true => exact ⟨_, _, energyS (v3 rfl) v1, energyI (v3 rfl) k0 k1 k2 v2⟩
  obtain ⟨v, c, d1, d2⟩ := key
  have hy := float_self (widen v)
  simp only [d1, d2, hs, hy, bne_self_eq_false]
  rfl
end Go.Proofs.Ytfnfapmncibjfaa
