/- Memory: what the evaluator's loads, stores and new blocks say of the model's world. -/
import Derived.Test.YtmknfenjnladeaaA2
import Derived.Laws.IdiomCopy
import Derived.Laws.Cells
namespace Go.Ab
open Go.RowKit (Below)

theorem Below.setCells {B : Nat} {a w : World} (h : Below B a w) {b : Nat} (hb : B ≤ b) (vs : List Value) (o : Nat) : Below B a (w.setCells b o vs) := by
  induction vs generalizing w o with
  | nil => exact h
  | cons v r ih => exact ih (h.setCell (p := ⟨b,o,none⟩) hb v) (o + 1)

theorem size_setCells (b : Nat) : ∀ (vs : List Value) (o : Nat) (w : World),(w.setCells b o vs).heap.size = w.heap.size
  | [],_,_ => rfl
  | v :: r,o,w => by rw [World.setCells,size_setCells b r,World.size_setCell]

def firstT {α : Type} : List (Bool × α) → Option α
  | [] => none
  | (c,x) :: l => if c then some x else firstT l

theorem alts_some {α β : Type} {l : List (Bool × α)} {k : α → Option β} {r : β} (h : alts l k = some r) : ∃ x,firstT l = some x ∧ k x = some r := by
  induction l with
  | nil => cases h
  | cons p l ih =>
    obtain ⟨c,x⟩ := p
    cases c with
    | true => exact ⟨x,rfl,h⟩
    | false => exact ih h

theorem firstT_mem {α : Type} {l : List (Bool × α)} {x : α} (h : firstT l = some x) : (true,x) ∈ l := by
  induction l with
  | nil => cases h
  | cons p l ih =>
    obtain ⟨c,y⟩ := p
    cases c with
    | true => cases h; exact List.mem_cons_self
    | false => exact List.mem_cons_of_mem _ (ih h)

theorem firstT_map {α β : Type} {l : List (Bool × α)} {f : α → β} {y : β} (h : firstT (l.map fun (b,x) => (b,f x)) = some y) : ∃ x,firstT l = some x ∧ y = f x := by
  induction l with
  | nil => cases h
  | cons p l ih =>
    obtain ⟨c,x⟩ := p
    cases c with
    | true => cases h; exact ⟨x,rfl,rfl⟩
    | false => exact ih h

theorem firstT_one {α : Type} {c : Bool} {x y : α} (h : firstT [(c,x)] = some y) : c = true ∧ y = x := by
  cases c with
  | true => cases h; exact ⟨rfl,rfl⟩
  | false => cases h

theorem beq_true {a b : Nat} (h : Nat.beq a b = true) : a = b := Nat.eq_of_beq_eq_true h
theorem blt_true {a b : Nat} (h : Nat.blt a b = true) : a < b := by
  have := Nat.le_of_ble_eq_true h
  omega

theorem Con.getN_spec {c : Con} {i j n : Nat} {vs : List Value} (h : (true,vs) ∈ c.getN i j n) : vs.length = n ∧ ∀ q v,vs[q]? = some v → c.at i (j + q) = some v := by
  cases c with
  | cells l =>
    simp only [Con.getN,List.mem_map,List.mem_range,Prod.mk.injEq] at h
    obtain ⟨s,hs,hb,rfl⟩ := h
    simp only [Bool.and_eq_true] at hb
    obtain ⟨h1,h2⟩ := hb
    have e1 := beq_true h1
    have e2 := beq_true h2
    subst e1 e2
    refine ⟨by simp; omega,fun q v hq => ?_⟩
    have hlt := (List.getElem?_eq_some_iff.1 hq).1
    simp at hlt
    rw [List.getElem?_take,if_pos (by omega),List.getElem?_drop] at hq
    simp [Con.at,hq]
  | vals l =>
    simp only [Con.getN] at h
    split at h
    · subst n
      simp only [List.mem_map,Prod.mk.injEq] at h
      obtain ⟨⟨v,s⟩,hm,hb,rfl⟩ := h
      simp only [Bool.and_eq_true] at hb
      have e1 := beq_true hb.1
      have e2 := beq_true hb.2
      subst e1 e2
      refine ⟨rfl,fun q u hq => ?_⟩
      have hlt := (List.getElem?_eq_some_iff.1 hq).1
      simp at hlt; subst hlt
      simp at hq; subst hq
      simp [Con.at,List.mk_mem_zipIdx_iff_getElem?.1 hm]
    · cases h
  | strs l =>
    simp only [Con.getN] at h
    split at h
    · subst n
      simp only [List.mem_singleton,Prod.mk.injEq] at h
      obtain ⟨hb,rfl⟩ := h
      have hb' := hb.symm
      simp only [Bool.and_eq_true] at hb'
      have e1 := beq_true hb'.1
      have e2 := blt_true hb'.2
      subst e1
      refine ⟨rfl,fun q u hq => ?_⟩
      have hlt := (List.getElem?_eq_some_iff.1 hq).1
      simp at hlt; subst hlt
      simp at hq; subst hq
      simp [Con.at,e2]
    · cases h
  | tab sch rows =>
    simp only [Con.getN] at h
    split at h
    · rename_i hle
      simp only [List.mem_singleton,Prod.mk.injEq] at h
      obtain ⟨hb,rfl⟩ := h
      have e2 := blt_true hb.symm
      refine ⟨by simp; omega,fun q u hq => ?_⟩
      have hlt := (List.getElem?_eq_some_iff.1 hq).1
      simp at hlt
      rw [List.getElem?_map,List.getElem?_zipIdx,List.getElem?_take,if_pos (by omega),List.getElem?_drop] at hq
      have hjq : j + q < sch.length := by omega
      rw [List.getElem?_eq_getElem hjq] at hq
      simp at hq
      simp [Con.at,e2,List.getElem?_eq_getElem hjq,← hq]
    · cases h

theorem unAll_spec : ∀ {ts : List CT} {vs : List Value} {xs : List Int},unAll ts vs = some xs → ts.length = vs.length ∧ xs.length = vs.length ∧ ∀ (q : Nat) (t : CT),ts[q]? = some t → vs[q]? = some (t.mk (xs.getD q 0))
  | [],[],xs,h => by cases h; simp
  | [],_ :: _,_,h => by cases h
  | _ :: _,[],_,h => by cases h
  | t :: ts,v :: vs,xs,h => by
    simp only [unAll] at h
    split at h
    · rename_i n ns h1 h2
      cases h
      obtain ⟨l1,l2,hq⟩ := unAll_spec h2
      refine ⟨by simp [l1],by simp [l2],fun q u hu => ?_⟩
      cases q with
      | zero => simp at hu; subst hu; simp [CT.mk_un h1]
      | succ q => simp at hu; simpa using hq q u hu
    · cases h

theorem spl_getD (n : Nat) (row : List Int) (j : Nat) (xs : List Int) (q : Nat) (hq : q < n) : (spl n row j xs).getD q 0 = if j ≤ q ∧ q < j + xs.length then xs.getD (q - j) 0 else row.getD q 0 := by
  simp [spl,List.getD,List.getElem?_map,List.getElem?_range,hq]

theorem Con.putN_spec {c c' : Con} {i j : Nat} {vs : List Value} (hv : 0 < vs.length) (h : (true,c') ∈ c.putN i j vs) :
    c'.es = c.es ∧ c'.len = c.len ∧ i < c.len ∧ j + vs.length ≤ c.es ∧ (∀ q v,c'.at i (j + q) = some v → q < vs.length → vs[q]? = some v) ∧
    ∀ i2 j2,(i2 ≠ i ∨ j2 < j ∨ j + vs.length ≤ j2) → c'.at i2 j2 = c.at i2 j2 := by
  cases c with
  | cells l =>
    simp only [Con.putN,List.mem_map,List.mem_range,Prod.mk.injEq] at h
    obtain ⟨s,hs,hb,rfl⟩ := h
    simp only [Bool.and_eq_true] at hb
    have e1 := beq_true hb.1
    have e2 := beq_true hb.2
    subst e1 e2
    have hle : j + vs.length ≤ l.length := by omega
    refine ⟨by simp [Con.es]; omega,rfl,Nat.one_pos,hle,?_,?_⟩
    · intro q v hq hlt
      simp only [Con.at,if_true] at hq
      rw [List.append_assoc,List.getElem?_append_right (by simp; omega)] at hq
      rw [show j + q - (List.take j l).length = q by simp; omega] at hq
      rwa [List.getElem?_append_left hlt] at hq
    · intro i2 j2 hij
      simp only [Con.at]
      by_cases h0 : i2 = 0
      · simp only [h0,if_true]
        rcases hij with hx | hx | hx
        · exact absurd h0 hx
        · rw [List.append_assoc,List.getElem?_append_left (by simp; omega),List.getElem?_take,if_pos hx]
        · rw [List.getElem?_append_right (by simp; omega),List.getElem?_drop]
          congr 1; simp; omega
      · simp [h0]
  | vals l =>
    simp only [Con.putN] at h
    split at h
    · rename_i v
      simp only [List.mem_map,List.mem_range,Prod.mk.injEq] at h
      obtain ⟨s,hs,hb,rfl⟩ := h
      simp only [Bool.and_eq_true] at hb
      have e1 := beq_true hb.1
      have e2 := beq_true hb.2
      subst e1 e2
      refine ⟨rfl,by simp [Con.len],hs,by simp [Con.es],?_,?_⟩
      · intro q u hq hlt
        simp at hlt; subst hlt
        simp only [Con.at,Nat.add_zero,if_true] at hq
        rw [List.getElem?_set_self hs] at hq
        simpa using hq
      · intro i2 j2 hij
        simp only [Con.at]
        by_cases h0 : j2 = 0
        · simp only [h0,if_true]
          rw [List.getElem?_set_ne]
          simp at hij; omega
        · simp [h0]
    · cases h
  | strs l =>
    simp only [Con.putN] at h
    split at h
    · rename_i s
      simp only [List.mem_singleton,Prod.mk.injEq] at h
      obtain ⟨hb,rfl⟩ := h
      have hb' := hb.symm
      simp only [Bool.and_eq_true] at hb'
      have e1 := beq_true hb'.1
      have e2 := blt_true hb'.2
      subst e1
      refine ⟨rfl,by simp [Con.len],e2,by simp [Con.es],?_,?_⟩
      · intro q u hq hlt
        simp at hlt; subst hlt
        simp only [Con.at,Nat.add_zero,if_true] at hq
        rw [List.getElem?_set_self e2] at hq
        simpa using hq
      · intro i2 j2 hij
        simp only [Con.at]
        by_cases h0 : j2 = 0
        · simp only [h0,if_true]
          rw [List.getElem?_set_ne]
          simp at hij; omega
        · simp [h0]
    · cases h
  | tab sch rows =>
    simp only [Con.putN] at h
    split at h
    · rename_i hle
      split at h
      · rename_i xs hx
        simp only [List.mem_singleton,Prod.mk.injEq] at h
        obtain ⟨hb,rfl⟩ := h
        have e2 := blt_true hb.symm
        obtain ⟨l1,l2,hq⟩ := unAll_spec hx
        -- what the row is now
        have hrow : ∀ i2,(cond (Nat.beq j 0 && Nat.beq vs.length sch.length) (rows.set i xs) (rows.modify i fun r => spl sch.length r j xs)).getD i2 [] = if i2 = i then (cond (Nat.beq j 0 && Nat.beq vs.length sch.length) xs (spl sch.length (rows.getD i []) j xs)) else rows.getD i2 [] := by
          intro i2
          cases hc : Nat.beq j 0 && Nat.beq vs.length sch.length with
          | true =>
            simp only [cond_true]
            split
            · rename_i e; subst e
              simp [List.getD,List.getElem?_set_self e2]
            · rename_i e
              simp [List.getD,List.getElem?_set_ne (Ne.symm e)]
          | false =>
            simp only [cond_false]
            split
            · rename_i e; subst e
              simp [List.getD,List.getElem?_modify,e2]
            · rename_i e
              simp [List.getD,List.getElem?_modify,Ne.symm e]
        have hlen : (cond (Nat.beq j 0 && Nat.beq vs.length sch.length) (rows.set i xs) (rows.modify i fun r => spl sch.length r j xs)).length = rows.length := by
          cases Nat.beq j 0 && Nat.beq vs.length sch.length <;> simp
        have hcell : ∀ q,q < sch.length → (cond (Nat.beq j 0 && Nat.beq vs.length sch.length) xs (spl sch.length (rows.getD i []) j xs)).getD q 0 = if j ≤ q ∧ q < j + xs.length then xs.getD (q - j) 0 else (rows.getD i []).getD q 0 := by
          intro q hq
          cases hc : Nat.beq j 0 && Nat.beq vs.length sch.length with
          | true =>
            simp only [Bool.and_eq_true] at hc
            have g1 := beq_true hc.1
            have g2 := beq_true hc.2
            subst g1
            simp only [cond_true]
            rw [if_pos ⟨by omega,by omega⟩,Nat.sub_zero]
          | false => exact spl_getD sch.length (rows.getD i []) j xs q hq
        refine ⟨rfl,hlen,e2,hle,?_,?_⟩
        · intro q u hu hlt
          simp only [Con.at,hlen,e2,if_true] at hu
          have hjq : j + q < sch.length := by omega
          rw [List.getElem?_eq_getElem hjq] at hu
          simp only [Option.map_some,Option.some.injEq] at hu
          have h1 := hq q sch[j + q] (by rw [List.getElem?_take,if_pos hlt,List.getElem?_drop,List.getElem?_eq_getElem hjq])
          rw [h1,← hu]
          congr 2
          rw [hrow,if_pos rfl,hcell _ hjq,if_pos ⟨by omega,by omega⟩,Nat.add_sub_cancel_left]
        · intro i2 j2 hij
          simp only [Con.at,hlen]
          split
          · rename_i hi2
            by_cases hj2 : j2 < sch.length
            · rw [List.getElem?_eq_getElem hj2]
              simp only [Option.map_some,Option.some.injEq]
              congr 1
              rw [hrow]
              by_cases hi : i2 = i
              · subst hi
                rw [if_pos rfl,hcell _ hj2,if_neg (by rcases hij with hx | hx | hx <;> omega)]
              · rw [if_neg hi]
            · rw [List.getElem?_eq_none (by omega)]; rfl
          · rfl
      · cases h
    · cases h

end Go.Ab
