/- Running a valid program: the machine's rounds, both ways. -/
import Derived.Test.YtfclciebpnnieaaPniS
namespace Go.Proofs.Ytfclciebpnnieaa
open Go.Ab

theorem wsub1 {L : Nat} (h : 1 ≤ L) (hL : L ≤ 1048576) : IntKind.i64.wrap (((L : Nat) : Int) - 1) = ((L - 1 : Nat) : Int) := by
  rw [wrap_i64 (by omega) (by omega)]; omega
theorem wsub2 {L : Nat} (h : 2 ≤ L) (hL : L ≤ 1048576) : IntKind.i64.wrap (((L : Nat) : Int) - 2) = ((L - 2 : Nat) : Int) := by
  rw [wrap_i64 (by omega) (by omega)]; omega
theorem wsub3 {L : Nat} (h : 3 ≤ L) (hL : L ≤ 1048576) : IntKind.i64.wrap (((L : Nat) : Int) - 3) = ((L - 3 : Nat) : Int) := by
  rw [wrap_i64 (by omega) (by omega)]; omega
theorem tk (l : List (List Int)) : (l.drop 0).take l.length = l := by simp
theorem ble_t {a b : Nat} (h : a ≤ b) : Nat.ble a b = true := Nat.ble_eq_true_of_le h
theorem set_take {l : List (List Int)} {j : Nat} (h : j < l.length) (x : List Int) : ((l.set j x).drop 0).take (j + 1) = l.take j ++ [x] := by
  rw [List.drop_zero, List.take_add_one, List.getElem?_set_self h]
  congr 1
  rw [List.take_set_of_le (Nat.le_refl j)]
theorem set_last {l : List (List Int)} (h : 0 < l.length) (x : List Int) : l.set (l.length - 1) x = l.take (l.length - 1) ++ [x] := by
  have := set_take (l := l) (j := l.length - 1) (by omega) x
  rw [← this, List.drop_zero, List.take_of_length_le (by simp; omega)]

/-- what is left of the values: those that were there, or new ones -/
def AnsS (d v : List (List Int)) (p : Nat × List (List Int) × List (List Int)) : Prop := (p.1 = 1 ∧ p.2.1 = v) ∨ ((p.1 = 0 ∨ p.1 = 2) ∧ v = d)
def AnsI (d v : List (List Int)) (p : Nat × List (List Int)) : Prop := (p.1 = 1 ∧ p.2 = v) ∨ ((p.1 = 0 ∨ p.1 = 2) ∧ v = d)
theorem keepS {d v : List (List Int)} {p : Nat × List (List Int) × List (List Int)} (h : AnsS d v p) : AnsS d v (cond (Nat.beq p.1 0) (0, [], []) (cond (Nat.beq p.1 1) (1, p.2.1, []) (cond (Nat.beq p.1 2) (0, [], []) (3, [], [])))) := by
  rcases h with ⟨h1, h2⟩ | ⟨h1 | h1, h2⟩ <;> rw [h1]
  · exact .inl ⟨rfl, h2⟩
  · exact .inr ⟨.inl rfl, h2⟩
  · exact .inr ⟨.inl rfl, h2⟩
theorem putS {d d' v : List (List Int)} {p : Nat × List (List Int) × List (List Int)} (h : AnsS d' v p) : AnsS d v (cond (Nat.beq p.1 0) (1, d', []) (cond (Nat.beq p.1 1) (1, p.2.1, []) (cond (Nat.beq p.1 2) (1, d', []) (3, [], [])))) := by
  rcases h with ⟨h1, h2⟩ | ⟨h1 | h1, h2⟩ <;> rw [h1]
  · exact .inl ⟨rfl, h2⟩
  · exact .inl ⟨rfl, h2.symm⟩
  · exact .inl ⟨rfl, h2.symm⟩
theorem keepI {d v : List (List Int)} {p : Nat × List (List Int)} (h : AnsI d v p) : AnsI d v (cond (Nat.beq p.1 0) (0, []) (cond (Nat.beq p.1 1) (1, p.2) (cond (Nat.beq p.1 2) (0, []) (3, [])))) := by
  rcases h with ⟨h1, h2⟩ | ⟨h1 | h1, h2⟩ <;> rw [h1]
  · exact .inl ⟨rfl, h2⟩
  · exact .inr ⟨.inl rfl, h2⟩
  · exact .inr ⟨.inl rfl, h2⟩
theorem putI {d d' v : List (List Int)} {p : Nat × List (List Int)} (h : AnsI d' v p) : AnsI d v (cond (Nat.beq p.1 0) (1, d') (cond (Nat.beq p.1 1) (1, p.2) (cond (Nat.beq p.1 2) (1, d') (3, [])))) := by
  rcases h with ⟨h1, h2⟩ | ⟨h1 | h1, h2⟩ <;> rw [h1]
  · exact .inl ⟨rfl, h2⟩
  · exact .inl ⟨rfl, h2.symm⟩
  · exact .inl ⟨rfl, h2.symm⟩

noncomputable def el (s : List (List Int)) (j : Nat) : Nat × Nat := (Int.toNat ((s.getD j []).getD 0 0), Int.toNat ((s.getD j []).getD 1 0))
def rw2 (p : Nat × Nat) : List Int := [((p.1 : Nat) : Int), ((p.2 : Nat) : Int)]
noncomputable def inp (x1 x2 x3 x4 x5 x6 x7 x8 : Nat) (a : Int) : Nat × Nat := if a = 0 then (x1, x2) else if a = 1 then (x3, x4) else if a = 2 then (x5, x6) else (x7, x8)
noncomputable def yOf (k : Int) (s : List (List Int)) : Nat × Nat :=
  cond (k == 12) (fneg .f32 (el s (s.length - 1)).2, fneg .f32 (el s (s.length - 1)).1) (cond (k == 11) (r86 (el s (s.length - 3)).1 (el s (s.length - 3)).2 (el s (s.length - 2)).1 (el s (s.length - 2)).2 (el s (s.length - 1)).1 (el s (s.length - 1)).2) (r87 k (el s (s.length - 2)).1 (el s (s.length - 2)).2 (el s (s.length - 1)).1 (el s (s.length - 1)).2).2)
noncomputable def les (k : Int) : Nat := if k = 12 then 1 else if k = 11 then 3 else 2
noncomputable def nxt (k : Int) (s : List (List Int)) : List (List Int) := s.take (s.length - les k) ++ [rw2 (yOf k s)]

/-! ### a round of the reference -/
section
variable {ih : Int → Nat → Nat → Nat → Nat → Nat → Nat → Nat → Nat → List (List Int) → List (List Int) → List ByteArray → List (List Int) → (Nat × List (List Int) × List (List Int))}
variable {x1 x2 x3 x4 x5 x6 x7 x8 : Nat} {vals s o v : List (List Int)} {nm : List ByteArray} {i : Nat} {k a : Int} {f : Nat}

theorem rs1 (ho : o.length ≤ 1048576) (hi : i < o.length) (hs : s.length ≤ 20) (ek : (o.getD i []).getD 0 0 = 1) (ef : Int.toNat ((o.getD i []).getD 2 0) = f)
    (h : AnsS vals v (ih ((i + 1 : Nat) : Int) x1 x2 x3 x4 x5 x6 x7 x8 vals (s ++ [rw2 (f, f)]) nm o)) : AnsS vals v (b62l0 ih (i : Int) x1 x2 x3 x4 x5 x6 x7 x8 vals s nm o) := by
  unfold b62l0
  simp only [Int.toNat_natCast, ek, ef, tk]
  rw [dlt_t hi, dle0, blt_t hi, wrap_succ (by omega), ble_t (show (s.length + 1) * 9 ≤ 140737488355328 by omega)]
  exact keepS h
theorem rs2 (ho : o.length ≤ 1048576) (hi : i < o.length) (hs : s.length ≤ 20) (ek : (o.getD i []).getD 0 0 = 2) (ea : (o.getD i []).getD 1 0 = a) (ha : 0 ≤ a ∧ a ≤ 3)
    (h : AnsS vals v (ih ((i + 1 : Nat) : Int) x1 x2 x3 x4 x5 x6 x7 x8 vals (s ++ [rw2 (inp x1 x2 x3 x4 x5 x6 x7 x8 a)]) nm o)) : AnsS vals v (b62l0 ih (i : Int) x1 x2 x3 x4 x5 x6 x7 x8 vals s nm o) := by
  have hc : a = 0 ∨ a = 1 ∨ a = 2 ∨ a = 3 := by omega
  unfold b62l0
  simp only [Int.toNat_natCast, ek, ea, tk]
  rw [dlt_t hi, dle0, blt_t hi, wrap_succ (by omega), ble_t (show (s.length + 1) * 9 ≤ 140737488355328 by omega)]
  rcases hc with rfl | rfl | rfl | rfl <;> exact keepS h
theorem rs3 (ho : o.length ≤ 1048576) (hi : i < o.length) (hs : s.length ≤ 20) (ek : (o.getD i []).getD 0 0 = 3) (ea : (o.getD i []).getD 1 0 = a) (ha : 0 ≤ a ∧ a < (vals.length : Int))
    (h : AnsS vals v (ih ((i + 1 : Nat) : Int) x1 x2 x3 x4 x5 x6 x7 x8 vals (s ++ [rw2 (el vals a.toNat)]) nm o)) : AnsS vals v (b62l0 ih (i : Int) x1 x2 x3 x4 x5 x6 x7 x8 vals s nm o) := by
  unfold b62l0
  simp only [Int.toNat_natCast, ek, ea, tk]
  rw [dlt_t hi, dle0, blt_t hi, wrap_succ (by omega), ble_t (show (s.length + 1) * 9 ≤ 140737488355328 by omega), decide_eq_true ha.1, blt_t (show a.toNat < vals.length by omega)]
  exact keepS h
theorem rs4 (ho : o.length ≤ 1048576) (hi : i < o.length) (hs : s.length = 1) (hv : vals.length ≤ 1048576) (ek : (o.getD i []).getD 0 0 = 4)
    (h : AnsS (vals ++ [rw2 (el s 0)]) v (ih ((i + 1 : Nat) : Int) x1 x2 x3 x4 x5 x6 x7 x8 (vals ++ [rw2 (el s 0)]) [] nm o)) : AnsS vals v (b62l0 ih (i : Int) x1 x2 x3 x4 x5 x6 x7 x8 vals s nm o) := by
  unfold b62l0
  simp only [Int.toNat_natCast, ek, tk, hs]
  rw [dlt_t hi, dle0, blt_t hi, wrap_succ (by omega), ble_t (show (vals.length + 1) * 9 ≤ 140737488355328 by omega)]
  simp only [show IntKind.i64.wrap (((1 : Nat) : Int) - 1) = 0 from by decide, show Int.toNat 0 = 0 from rfl, List.take_zero]
  exact putS h
theorem rs12 (ho : o.length ≤ 1048576) (hi : i < o.length) (hs0 : 1 ≤ s.length) (hs : s.length ≤ 20) (ek : (o.getD i []).getD 0 0 = 12)
    (h : AnsS vals v (ih ((i + 1 : Nat) : Int) x1 x2 x3 x4 x5 x6 x7 x8 vals (nxt 12 s) nm o)) : AnsS vals v (b62l0 ih (i : Int) x1 x2 x3 x4 x5 x6 x7 x8 vals s nm o) := by
  have e : nxt 12 s = s.set (s.length - 1) (rw2 (fneg .f32 (el s (s.length - 1)).2, fneg .f32 (el s (s.length - 1)).1)) := by
    rw [set_last (by omega)]; rfl
  rw [e] at h
  unfold b62l0
  simp only [Int.toNat_natCast, ek, wsub1 hs0 (show s.length ≤ 1048576 by omega)]
  rw [dlt_t hi, dle0, dle0, blt_t hi, wrap_succ (by omega), blt_t (show s.length - 1 < s.length by omega)]
  exact h
theorem rs11 (ho : o.length ≤ 1048576) (hi : i < o.length) (hs0 : 3 ≤ s.length) (hs : s.length ≤ 20) (ek : (o.getD i []).getD 0 0 = 11)
    (h : AnsS vals v (ih ((i + 1 : Nat) : Int) x1 x2 x3 x4 x5 x6 x7 x8 vals (nxt 11 s) nm o)) : AnsS vals v (b62l0 ih (i : Int) x1 x2 x3 x4 x5 x6 x7 x8 vals s nm o) := by
  have e : ∀ y z : Nat, ((s.set (s.length - 3) [((y : Nat) : Int), ((z : Nat) : Int)]).drop 0).take (s.length - 2) = s.take (s.length - 3) ++ [[((y : Nat) : Int), ((z : Nat) : Int)]] := fun y z => by
    have := set_take (l := s) (j := s.length - 3) (by omega) [((y : Nat) : Int), ((z : Nat) : Int)]
    rwa [show s.length - 3 + 1 = s.length - 2 by omega] at this
  unfold b62l0
  simp only [Int.toNat_natCast, ek, wsub1 (show 1 ≤ s.length by omega) (show s.length ≤ 1048576 by omega), wsub2 (show 2 ≤ s.length by omega) (show s.length ≤ 1048576 by omega), wsub3 hs0 (show s.length ≤ 1048576 by omega), List.length_set, e]
  rw [dlt_t hi, dle0, dle0, dle0, dle0, blt_t hi, wrap_succ (by omega), blt_t (show s.length - 1 < s.length by omega), blt_t (show s.length - 2 < s.length by omega), blt_t (show s.length - 3 < s.length by omega), blt_t (show 0 < s.length by omega), ble_t (Nat.zero_le _), ble_t (show s.length - 2 ≤ s.length by omega)]
  exact keepS h
theorem rsB (ho : o.length ≤ 1048576) (hi : i < o.length) (hs0 : 2 ≤ s.length) (hs : s.length ≤ 20) (ek : (o.getD i []).getD 0 0 = k) (hk : 5 ≤ k ∧ k ≤ 10)
    (h : AnsS vals v (ih ((i + 1 : Nat) : Int) x1 x2 x3 x4 x5 x6 x7 x8 vals (nxt k s) nm o)) : AnsS vals v (b62l0 ih (i : Int) x1 x2 x3 x4 x5 x6 x7 x8 vals s nm o) := by
  have e : ∀ y z : Nat, ((s.set (s.length - 2) [((y : Nat) : Int), ((z : Nat) : Int)]).drop 0).take (s.length - 1) = s.take (s.length - 2) ++ [[((y : Nat) : Int), ((z : Nat) : Int)]] := fun y z => by
    have := set_take (l := s) (j := s.length - 2) (by omega) [((y : Nat) : Int), ((z : Nat) : Int)]
    rwa [show s.length - 2 + 1 = s.length - 1 by omega] at this
  have g : ∀ q : Int, q < 5 ∨ 10 < q → (k == q) = false := fun q hq => beq_eq_false_iff_ne.2 (by omega)
  have e2 : nxt k s = s.take (s.length - 2) ++ [rw2 (r87 k (el s (s.length - 2)).1 (el s (s.length - 2)).2 (el s (s.length - 1)).1 (el s (s.length - 1)).2).2] := by
    unfold nxt yOf les
    rw [g 12 (by omega), g 11 (by omega), if_neg (by omega), if_neg (by omega)]
    rfl
  rw [e2] at h
  unfold b62l0
  simp only [Int.toNat_natCast, ek, wsub1 (show 1 ≤ s.length by omega) (show s.length ≤ 1048576 by omega), wsub2 (show 2 ≤ s.length by omega) (show s.length ≤ 1048576 by omega), List.length_set, e, over0, g 1 (by omega), g 2 (by omega), g 3 (by omega), g 4 (by omega), g 11 (by omega), g 12 (by omega), cond_false]
  rw [dlt_t hi, dle0, dle0, dle0, blt_t hi, wrap_succ (by omega), blt_t (show s.length - 1 < s.length by omega), blt_t (show s.length - 2 < s.length by omega), blt_t (show 0 < s.length by omega), ble_t (Nat.zero_le _), ble_t (show s.length - 1 ≤ s.length by omega)]
  exact keepS h
end


/-! ### a round of the program -/
theorem les_le (k : Int) : 1 ≤ les k ∧ les k ≤ 3 := by unfold les; split <;> (try split) <;> omega
theorem wsubL {L q : Nat} (h : q ≤ L) (hL : L ≤ 1048576) : IntKind.i64.wrap (((L : Nat) : Int) - ((q : Nat) : Int)) = ((L - q : Nat) : Int) := by
  rw [wrap_i64 (by omega) (by omega)]; omega
theorem r53_les {k : Int} (h : 5 ≤ k ∧ k ≤ 12) : (r53 k).1 = ((les k : Nat) : Int) := by
  have : k = 5 ∨ k = 6 ∨ k = 7 ∨ k = 8 ∨ k = 9 ∨ k = 10 ∨ k = 11 ∨ k = 12 := by omega
  rcases this with rfl | rfl | rfl | rfl | rfl | rfl | rfl | rfl <;> rfl
theorem do90_2 {k : Int} {s : List (List Int)} (h : k = 5 ∨ k = 6 ∨ k = 7 ∨ k = 8 ∨ k = 9 ∨ k = 10) (h1 : 2 ≤ s.length) : r90 k (s.length - 2) 2 2 s = (0, yOf k s) := by
  unfold r90
  simp only [wsub1 (show 1 ≤ 2 by omega) (show 2 ≤ 1048576 by omega), Int.toNat_natCast, Nat.add_zero]
  rw [blt_t (show 0 < 2 by omega), blt_t (show s.length - 2 < s.length by omega), dle0, blt_t (show 2 - 1 < 2 by omega), blt_t (show s.length - 2 + (2 - 1) < s.length by omega), show s.length - 2 + (2 - 1) = s.length - 1 by omega, add_eq, sub_eq, mul_eq]
  rcases h with rfl | rfl | rfl | rfl | rfl | rfl
  · have e := add0 (el s (s.length - 2)).1 (el s (s.length - 2)).2 (el s (s.length - 1)).1 (el s (s.length - 1)).2
    have e2 : yOf 5 s = (cond (Nat.beq ((r98 (el s (s.length - 2)).1 (el s (s.length - 2)).2 (el s (s.length - 1)).1 (el s (s.length - 1)).2).1) 0) (0, ((r98 (el s (s.length - 2)).1 (el s (s.length - 2)).2 (el s (s.length - 1)).1 (el s (s.length - 1)).2).2.1), ((r98 (el s (s.length - 2)).1 (el s (s.length - 2)).2 (el s (s.length - 1)).1 (el s (s.length - 1)).2).2.2)) (1, 0, 0) : Nat × Nat × Nat).2 := rfl
    rw [e2, e]
    show (cond (Nat.beq ((r98 (el s (s.length - 2)).1 (el s (s.length - 2)).2 (el s (s.length - 1)).1 (el s (s.length - 1)).2).1) 0) _ _ : Nat × Nat × Nat) = _
    rw [e]; rfl
  · have e := sub0 (el s (s.length - 2)).1 (el s (s.length - 2)).2 (el s (s.length - 1)).1 (el s (s.length - 1)).2
    have e2 : yOf 6 s = (cond (Nat.beq ((r99 (el s (s.length - 2)).1 (el s (s.length - 2)).2 (el s (s.length - 1)).1 (el s (s.length - 1)).2).1) 0) (0, ((r99 (el s (s.length - 2)).1 (el s (s.length - 2)).2 (el s (s.length - 1)).1 (el s (s.length - 1)).2).2.1), ((r99 (el s (s.length - 2)).1 (el s (s.length - 2)).2 (el s (s.length - 1)).1 (el s (s.length - 1)).2).2.2)) (1, 0, 0) : Nat × Nat × Nat).2 := rfl
    rw [e2, e]
    show (cond (Nat.beq ((r99 (el s (s.length - 2)).1 (el s (s.length - 2)).2 (el s (s.length - 1)).1 (el s (s.length - 1)).2).1) 0) _ _ : Nat × Nat × Nat) = _
    rw [e]; rfl
  · have e := mul0 (el s (s.length - 2)).1 (el s (s.length - 2)).2 (el s (s.length - 1)).1 (el s (s.length - 1)).2
    have e2 : yOf 7 s = (cond (Nat.beq ((r100 (el s (s.length - 2)).1 (el s (s.length - 2)).2 (el s (s.length - 1)).1 (el s (s.length - 1)).2).1) 0) (0, ((r100 (el s (s.length - 2)).1 (el s (s.length - 2)).2 (el s (s.length - 1)).1 (el s (s.length - 1)).2).2.1), ((r100 (el s (s.length - 2)).1 (el s (s.length - 2)).2 (el s (s.length - 1)).1 (el s (s.length - 1)).2).2.2)) (1, 0, 0) : Nat × Nat × Nat).2 := rfl
    rw [e2, e]
    show (cond (Nat.beq ((r100 (el s (s.length - 2)).1 (el s (s.length - 2)).2 (el s (s.length - 1)).1 (el s (s.length - 1)).2).1) 0) _ _ : Nat × Nat × Nat) = _
    rw [e]; rfl
  · rfl
  · rfl
  · rfl
theorem do90_3 {s : List (List Int)} (h1 : 3 ≤ s.length) : r90 11 (s.length - 3) 3 3 s = (0, yOf 11 s) := by
  unfold r90
  simp only [wsub1 (show 1 ≤ 3 by omega) (show 3 ≤ 1048576 by omega), Int.toNat_natCast, Nat.add_zero]
  rw [blt_t (show 0 < 3 by omega), blt_t (show s.length - 3 < s.length by omega), dle0, blt_t (show 3 - 1 < 3 by omega), blt_t (show s.length - 3 + (3 - 1) < s.length by omega), show s.length - 3 + (3 - 1) = s.length - 1 by omega, blt_t (show s.length - 3 + 1 < s.length by omega), show s.length - 3 + 1 = s.length - 2 by omega, blt_t (show 1 < 3 by omega)]
  have e2 : yOf 11 s = r86 (el s (s.length - 3)).1 (el s (s.length - 3)).2 (el s (s.length - 2)).1 (el s (s.length - 2)).2 (el s (s.length - 1)).1 (el s (s.length - 1)).2 := rfl
  rw [e2]
  unfold r86
  show (cond (fgt .f32 (el s (s.length - 3)).1 0) _ (cond (flt .f32 (el s (s.length - 3)).2 0 || feq .f32 (el s (s.length - 3)).2 0) _ _) : Nat × Nat × Nat) = _
  cases fgt .f32 (el s (s.length - 3)).1 0 <;> cases (flt .f32 (el s (s.length - 3)).2 0 || feq .f32 (el s (s.length - 3)).2 0) <;> rfl
theorem do90_1 {s : List (List Int)} (h1 : 1 ≤ s.length) : r90 12 (s.length - 1) 1 1 s = (0, yOf 12 s) := by
  unfold r90
  simp only [wsub1 (show 1 ≤ 1 by omega) (show 1 ≤ 1048576 by omega), Int.toNat_natCast, Nat.add_zero]
  rw [blt_t (show 0 < 1 by omega), blt_t (show s.length - 1 < s.length by omega), dle0, blt_t (show s.length - 1 + (1 - 1) < s.length by omega)]
  rfl
theorem do90 {k : Int} {s : List (List Int)} (h : 5 ≤ k ∧ k ≤ 12) (h1 : les k ≤ s.length) : r90 k (s.length - les k) (les k) (les k) s = (0, yOf k s) := by
  by_cases e1 : k = 12
  · subst e1; exact do90_1 h1
  · by_cases e2 : k = 11
    · subst e2; exact do90_3 h1
    · have e : les k = 2 := by unfold les; rw [if_neg e1, if_neg e2]
      rw [e] at h1 ⊢
      exact do90_2 (by omega) h1
section
variable {ih : Int → Int → Nat → Nat → Nat → Nat → Nat → Nat → Nat → Nat → List (List Int) → List (List Int) → List (List Int) → (Nat × List (List Int))}
variable {x1 x2 x3 x4 x5 x6 x7 x8 : Nat} {vals s o v : List (List Int)} {i : Nat} {k a : Int} {f : Nat}

theorem ri1 (ho : o.length ≤ 1048576) (hi : i < o.length) (hs : s.length ≤ 20) (ek : (o.getD i []).getD 0 0 = 1) (ef : Int.toNat ((o.getD i []).getD 2 0) = f)
    (h : AnsI vals v (ih ((o.length : Nat) : Int) ((i + 1 : Nat) : Int) x1 x2 x3 x4 x5 x6 x7 x8 vals (s ++ [rw2 (f, f)]) o)) : AnsI vals v (b88l0 ih ((o.length : Nat) : Int) (i : Int) x1 x2 x3 x4 x5 x6 x7 x8 vals s o) := by
  unfold b88l0
  simp only [Int.toNat_natCast, ek, ef, tk]
  rw [dlt_t hi, dle0, blt_t hi, wrap_succ (by omega), ble_t (show (s.length + 1) * 9 ≤ 140737488355328 by omega)]
  exact keepI h
theorem ri2 (ho : o.length ≤ 1048576) (hi : i < o.length) (hs : s.length ≤ 20) (ek : (o.getD i []).getD 0 0 = 2) (ea : (o.getD i []).getD 1 0 = a) (ha : 0 ≤ a ∧ a ≤ 3)
    (h : AnsI vals v (ih ((o.length : Nat) : Int) ((i + 1 : Nat) : Int) x1 x2 x3 x4 x5 x6 x7 x8 vals (s ++ [rw2 (inp x1 x2 x3 x4 x5 x6 x7 x8 a)]) o)) : AnsI vals v (b88l0 ih ((o.length : Nat) : Int) (i : Int) x1 x2 x3 x4 x5 x6 x7 x8 vals s o) := by
  have hc : a = 0 ∨ a = 1 ∨ a = 2 ∨ a = 3 := by omega
  unfold b88l0
  simp only [Int.toNat_natCast, ek, ea, tk]
  rw [dlt_t hi, dle0, blt_t hi, wrap_succ (by omega), ble_t (show (s.length + 1) * 9 ≤ 140737488355328 by omega)]
  rcases hc with rfl | rfl | rfl | rfl <;> exact keepI h
theorem ri3 (ho : o.length ≤ 1048576) (hi : i < o.length) (hs : s.length ≤ 20) (ek : (o.getD i []).getD 0 0 = 3) (ea : (o.getD i []).getD 1 0 = a) (ha : 0 ≤ a ∧ a < (vals.length : Int))
    (h : AnsI vals v (ih ((o.length : Nat) : Int) ((i + 1 : Nat) : Int) x1 x2 x3 x4 x5 x6 x7 x8 vals (s ++ [rw2 (el vals a.toNat)]) o)) : AnsI vals v (b88l0 ih ((o.length : Nat) : Int) (i : Int) x1 x2 x3 x4 x5 x6 x7 x8 vals s o) := by
  unfold b88l0
  simp only [Int.toNat_natCast, ek, ea, tk]
  rw [dlt_t hi, dle0, blt_t hi, wrap_succ (by omega), ble_t (show (s.length + 1) * 9 ≤ 140737488355328 by omega), decide_eq_true ha.1, blt_t (show a.toNat < vals.length by omega)]
  exact keepI h
theorem ri4 (ho : o.length ≤ 1048576) (hi : i < o.length) (hs : s.length = 1) (hv : vals.length ≤ 1048576) (ek : (o.getD i []).getD 0 0 = 4)
    (h : AnsI (vals ++ [rw2 (el s 0)]) v (ih ((o.length : Nat) : Int) ((i + 1 : Nat) : Int) x1 x2 x3 x4 x5 x6 x7 x8 (vals ++ [rw2 (el s 0)]) [] o)) : AnsI vals v (b88l0 ih ((o.length : Nat) : Int) (i : Int) x1 x2 x3 x4 x5 x6 x7 x8 vals s o) := by
  unfold b88l0
  simp only [Int.toNat_natCast, ek, tk, hs]
  rw [dlt_t hi, dle0, blt_t hi, wrap_succ (by omega), ble_t (show (vals.length + 1) * 9 ≤ 140737488355328 by omega)]
  simp only [show (r53 4).1 = 1 from rfl, show IntKind.i64.wrap (((1 : Nat) : Int) - 1) = 0 from by decide, show Int.toNat 0 = 0 from rfl]
  exact putI h
theorem riB (ho : o.length ≤ 1048576) (hi : i < o.length) (hs0 : les k ≤ s.length) (hs : s.length ≤ 20) (ek : (o.getD i []).getD 0 0 = k) (hk : 5 ≤ k ∧ k ≤ 12)
    (h : AnsI vals v (ih ((o.length : Nat) : Int) ((i + 1 : Nat) : Int) x1 x2 x3 x4 x5 x6 x7 x8 vals (nxt k s) o)) : AnsI vals v (b88l0 ih ((o.length : Nat) : Int) (i : Int) x1 x2 x3 x4 x5 x6 x7 x8 vals s o) := by
  have hq := les_le k
  have g : ∀ q : Int, q < 5 → (k == q) = false := fun q hq => beq_eq_false_iff_ne.2 (by omega)
  unfold b88l0
  simp only [Int.toNat_natCast, ek, r53_les hk, wsubL hs0 (show s.length ≤ 1048576 by omega), show s.length - (s.length - les k) = les k by omega, do90 hk hs0, g 1 (by omega), g 2 (by omega), g 3 (by omega), g 4 (by omega), cond_false, List.drop_zero]
  rw [dlt_t hi, dle0, dle0, blt_t hi, wrap_succ (by omega), blt_t (show s.length - les k < s.length by omega), ble_t (show s.length - les k ≤ s.length by omega), ble_t (Nat.le_refl _), ble_t (Nat.zero_le _), blt_t (show 0 < s.length by omega), ble_t (show (s.length - les k + 1) * 9 ≤ 140737488355328 by omega)]
  exact keepI h
end
end Go.Proofs.Ytfclciebpnnieaa
