/- Places, parts, calls of body-less functions; one operation. -/
import Derived.Test.YtmknfenjnladeaaA8
import Derived.Laws.Externs
import Derived.Laws.Slices
import Derived.Laws.Strings
import GoSem.Extern.MathFloatBits
import GoSem.Extern.MathSqrt
namespace Go.Ab
open Go.RowKit (Below)

section
variable {P : Program} {B : Bnd P} {ι : Nat → Info} {D : Nat → Prop} {s : St} {w : World}

theorem cell_add (I : Info) (i j n : Nat) : (I.cell i j).add n = I.cell i (j + n) := by
  unfold Addr.add Info.cell
  split
  · simp [*]
  · simp; omega

theorem conLen_eq {k n : Nat} (H : WRel B ι D s.h w) (hD : D k) (h : conLen s.h k = some n) : (ι k).len = n := by
  unfold conLen at h
  cases hb : s.h[k]? with
  | none => simp [hb] at h
  | some b =>
    cases hcn : b.con with
    | none => simp [hb,hcn] at h
    | some c0 =>
      simp [hb,hcn] at h
      rw [H.lens _ _ _ hD hb hcn,h]
theorem conEs_eq {k m : Nat} (H : WRel B ι D s.h w) (hD : D k) (hes : m = conEs s.h k) (hpos : 0 < m) : (ι k).es = m := by
  unfold conEs at hes
  cases hb : s.h[k]? with
  | none => simp [hb] at hes; omega
  | some b =>
    cases hcn : b.con with
    | none => simp [hb,hcn] at hes; omega
    | some c0 => simp [hb,hcn] at hes; rw [(H.both _ _ _ hD hb hcn).2.1,hes]

theorem fieldAddr_sound {t : TypeId} {x x' v : Value} {f : Nat} (hx : VRel ι D x x') (h : firstT (evFieldAddr P t x f) = some v) : ∃ v',(Instr.fieldAt t x' f).run P w = .ok v' w ∧ VRel ι D v v' := by
  unfold evFieldAddr at h
  split at h
  · rename_i fs a hu
    obtain ⟨a',rfl,hD,j0,hj0,rfl⟩ := hx
    split at h
    · rename_i fd j hf hj
      split at h
      · rename_i q hs
        obtain ⟨hc,rfl⟩ := firstT_one h
        rw [hj0] at hj
        cases hj
        refine ⟨.pointer (some ((ι a.block).cell a.off (j0 + fd.offset))),?_,⟨_,rfl,hD,_,rfl,rfl⟩⟩
        have hf' : fs[f]? = some fd := by simpa using hf
        simp only [Instr.fieldAt,Sem.run_bind,run_underlying hu,Result.andThen_ok,hf',Instr.sureAddr,Sem.run_pure,fieldPlace,tSize_run hs,Nat.succ_ne_zero,if_false,cell_add]
      · cases h
    · cases h
  · cases h

theorem part_sound {t : TypeId} {cs cs' : List Value} (hl : L2 (CRel ι D) cs cs') {off : Nat} {v : Value}
    (h : firstT (match tAgg P t,tSize P t with
      | some true,some n => [(true,Value.agg ((cs.drop off).take n).toArray)]
      | some false,_ => match cs[off]? with
        | some v => [(true,v)]
        | none => []
      | _,_ => []) = some v) : ∃ v',(part t cs'.toArray off).run P w = .ok v' w ∧ VRel1 ι D v v' := by
  split at h
  · rename_i n ha hn
    obtain ⟨hc,rfl⟩ := firstT_one h
    refine ⟨.agg ((cs'.drop off).take n).toArray,?_,⟨_,rfl,by simpa using (hl.drop off).take n⟩⟩
    simp only [part,Sem.run_bind,tAgg_run ha,Result.andThen_ok,if_true,tSize_run hn,Sem.run_pure]
    congr 2
    simp [List.drop_take,Nat.add_sub_cancel_left]
  · rename_i ha
    split at h
    · rename_i u hu
      obtain ⟨hc,rfl⟩ := firstT_one h
      obtain ⟨v',h1,h2⟩ := hl.get _ _ hu
      refine ⟨v',?_,h2.toV1⟩
      simp only [part,Sem.run_bind,tAgg_run ha,Result.andThen_ok,Bool.false_eq_true,if_false]
      simp [h1]
    · cases h
  · cases h

theorem field_sound {t : TypeId} {x x' v : Value} {f : Nat} (hx : VRel ι D x x') (h : firstT (evField P t x f) = some v) : ∃ v',(Instr.field t x' f).run P w = .ok v' w ∧ VRel ι D v v' := by
  unfold evField at h
  split at h
  · rename_i fs cs hu
    obtain ⟨cs',rfl,hl⟩ := hx
    split at h
    · rename_i fd hf
      obtain ⟨v',h1,h2⟩ := part_sound (P := P) (w := w) hl h
      refine ⟨v',?_,h2.toV⟩
      have hf' : fs[f]? = some fd := by simpa using hf
      simp only [Instr.field,Sem.run_bind,run_underlying hu,Result.andThen_ok,hf',asAgg,Sem.run_pure]
      exact h1
    · cases h
  · cases h

theorem idx_lt {i : Int} {n : Nat} (h : (decide (0 ≤ i) && Nat.blt i.toNat n) = true) : 0 ≤ i ∧ i < (n : Int) := by
  simp only [Bool.and_eq_true,decide_eq_true_eq] at h
  have := blt_true h.2
  omega
theorem indexAddr_sound {t : TypeId} {x x' ix ix' v : Value} (H : WRel B ι D s.h w) (hx : VRel ι D x x') (hi : VRel ι D ix ix') (h : firstT (evIndexAddr P s.h t x ix) = some v) :
    ∃ v',(Instr.indexAt t x' ix').run P w = .ok v' w ∧ VRel ι D v v' := by
  unfold evIndexAddr at h
  split at h
  · rename_i n e a k i hu
    obtain rfl : ix' = _ := hi
    obtain ⟨a',rfl,hD,j0,hj0,rfl⟩ := hx
    split at h
    · rename_i j m hj hm
      obtain ⟨hc,rfl⟩ := firstT_one h
      replace hc := idx_lt hc
      rw [hj0] at hj
      cases hj
      refine ⟨.pointer (some ((ι a.block).cell a.off (j0 + i.toNat * m))),?_,⟨_,rfl,hD,_,rfl,rfl⟩⟩
      simp only [Instr.indexAt,asIntOf,Sem.run_bind,Sem.run_pure,run_underlying hu,Result.andThen_ok,Instr.sureAddr,if_pos hc,tSize_run hm,cell_add]
    · cases h
  · rename_i e a l c k i hu
    obtain rfl : ix' = _ := hi
    obtain ⟨a',c',rfl,⟨hD,j0,hj0,rfl⟩,hs0,h1,h2,h3⟩ := hx
    split at h
    · rename_i m hm
      split at h
      · rename_i hes
        obtain ⟨hes,hpos⟩ := hes
        obtain ⟨hc,rfl⟩ := firstT_one h
        replace hc := idx_lt hc
        rw [hj0] at hs0
        cases hs0
        have hI : (ι a.block).es = m := by
          unfold conEs at hes
          cases hb : s.h[a.block]? with
          | none => simp [hb] at hes; omega
          | some b =>
            cases hcn : b.con with
            | none => simp [hb,hcn] at hes; omega
            | some c0 => simp [hb,hcn] at hes; rw [(H.both _ _ _ hD hb hcn).2.1,hes]
        refine ⟨.pointer (some ((ι a.block).cell (a.off + i.toNat) 0)),?_,⟨_,rfl,hD,0,hj0,rfl⟩⟩
        simp only [Instr.indexAt,asIntOf,Sem.run_bind,Sem.run_pure,run_underlying hu,Result.andThen_ok,if_pos hc,tSize_run hm]
        congr 3
        rw [cell_add]
        simp only [Info.cell,Addr.mk.injEq,and_true,true_and]
        rw [hI,Nat.add_mul]; omega
      · cases h
    · cases h
  · rename_i e b0 k i hu
    obtain rfl : ix' = _ := hi
    obtain ⟨hD,hx⟩ := hx
    split at h
    · rename_i l m hl hm
      split at h
      · rename_i hes
        obtain ⟨hes,hpos⟩ := hes
        obtain ⟨hc,rfl⟩ := firstT_one h
        replace hc := idx_lt hc
        have hI := conEs_eq H hD hes hpos
        have hL := conLen_eq H hD hl
        rcases hx with ⟨c',rfl,_⟩ | ⟨rfl,h0⟩
        · rw [hL]
          refine ⟨.pointer (some ((ι b0).cell i.toNat 0)),?_,⟨_,rfl,hD,0,rfl,rfl⟩⟩
          simp only [Instr.indexAt,asIntOf,Sem.run_bind,Sem.run_pure,run_underlying hu,Result.andThen_ok,if_pos hc,tSize_run hm]
          congr 3
          rw [cell_add]
          simp only [Info.cell,Addr.mk.injEq,and_true,true_and]
          rw [hI]; omega
        · omega
      · cases h
    · cases h
  · rename_i e l a k i hu
    obtain rfl : ix' = _ := hi
    split at h
    · rename_i m hm
      split at h
      · rename_i hes
        obtain ⟨hes,hpos⟩ := hes
        obtain ⟨hc,rfl⟩ := firstT_one h
        replace hc := idx_lt hc
        rcases hx with ⟨h0,_⟩ | ⟨a',c',rfl,⟨hD,j0,hj0,rfl⟩,h1⟩
        · have h0 : (l : Nat) = 0 := h0
          rw [h0] at hc; omega
        · have hI := conEs_eq H hD hes hpos
          refine ⟨.pointer (some ((ι a.block).cell (a.off + i.toNat) j0)),?_,⟨_,rfl,hD,j0,hj0,rfl⟩⟩
          simp only [Instr.indexAt,asIntOf,Sem.run_bind,Sem.run_pure,run_underlying hu,Result.andThen_ok,if_pos hc,tSize_run hm]
          congr 3
          rw [cell_add]
          simp only [Info.cell,Addr.mk.injEq,and_true,true_and]
          rw [hI,Nat.add_mul]; omega
      · cases h
    · cases h
  · rename_i e q a l c k i hu
    obtain rfl : ix' = _ := hi
    obtain ⟨a',rfl,⟨hD,j0,hj0,rfl⟩,h1⟩ := hx
    split at h
    · rename_i j m hj hm
      obtain ⟨hc,rfl⟩ := firstT_one h
      replace hc := idx_lt hc
      rw [hj0] at hj
      cases hj
      refine ⟨.pointer (some ((ι a.block).cell a.off (j0 + i.toNat * m))),?_,⟨_,rfl,hD,_,rfl,rfl⟩⟩
      simp only [Instr.indexAt,asIntOf,Sem.run_bind,Sem.run_pure,run_underlying hu,Result.andThen_ok,if_pos hc,tSize_run hm,cell_add]
    · cases h
  · cases h

theorem bound_some {v v' : Value} {d y l : Nat} {b : Bool} {code : BoundsCode} (hv : VRel ι D v v') (h : evBound (some v) d = some (b,l)) (hb : b = true) (hy : l ≤ y) :
    (Instr.sliceBound v' y code).run P w = .ok l w := by
  unfold evBound at h
  split at h
  · rename_i e; cases e
  · rename_i k i e
    cases e
    cases h
    obtain rfl : v' = _ := hv
    simp only [decide_eq_true_eq] at hb
    exact run_sliceBound w _ i y code hb (by omega)
  · cases h

def ORel (ι : Nat → Info) (D : Nat → Prop) (lo lo' : Option Value) : Prop := (lo = none ∧ lo' = none) ∨ ∃ v v',lo = some v ∧ lo' = some v' ∧ VRel ι D v v'

theorem bounds_sound {isS : Bool} {lo lo' hi hi' : Option Value} {n c c' l h0 : Nat} {b : Bool} (hl : ORel ι D lo lo') (hh : ORel ι D hi hi')
    (h : evBounds n c lo hi = some (b,l,h0)) (hb : b = true) (hc : c ≤ c') : (Instr.sliceBounds isS n c' lo' hi' none).run P w = .ok (l,h0,c') w ∧ l ≤ h0 ∧ h0 ≤ c := by
  unfold evBounds at h
  split at h
  · rename_i b1 l1 b2 h1 g1 g2
    cases h
    simp only [Bool.and_eq_true] at hb
    obtain ⟨⟨e0,e3⟩,e4⟩ := hb
    have e12 : b1 = true ∧ b2 = true := by
      cases lo <;> cases hi <;> simp only [evBound,Option.some.injEq,Prod.mk.injEq] at g1 g2
      · exact ⟨g1.1.symm,g2.1.symm⟩
      · exact ⟨g1.1.symm,e0⟩
      · exact ⟨e0,g2.1.symm⟩
      · exact Bool.and_eq_true _ _ ▸ e0
    obtain ⟨e1,e2⟩ := e12
    have e3' : l ≤ h0 := Nat.le_of_ble_eq_true e3
    have e4' : h0 ≤ c := Nat.le_of_ble_eq_true e4
    refine ⟨?_,e3',e4'⟩
    rcases hl with ⟨rfl,rfl⟩ | ⟨v,v',rfl,rfl,hv⟩ <;> rcases hh with ⟨rfl,rfl⟩ | ⟨u,u',rfl,rfl,hu⟩
    · cases g1; cases g2
      simp [Instr.sliceBounds]
    · cases g1
      have q2 := bound_some (P := P) (w := w) (y := c') (code := if isS then BoundsCode.sliceAcap else BoundsCode.sliceAlen) hu g2 e2 (by omega)
      simp [Instr.sliceBounds,q2]
    · cases g2
      have q1 := bound_some (P := P) (w := w) (y := n) (code := BoundsCode.sliceB) hv g1 e1 e3'
      simp [Instr.sliceBounds,q1]
    · have q2 := bound_some (P := P) (w := w) (y := c') (code := if isS then BoundsCode.sliceAcap else BoundsCode.sliceAlen) hu g2 e2 (by omega)
      have q1 := bound_some (P := P) (w := w) (y := h0) (code := BoundsCode.sliceB) hv g1 e1 e3'
      simp [Instr.sliceBounds,q2,q1]
  · cases h

theorem slice_sound {t : TypeId} {x x' v : Value} {lo lo' hi hi' : Option Value} (H : WRel B ι D s.h w) (hx : VRel ι D x x') (hl : ORel ι D lo lo') (hh : ORel ι D hi hi')
    (h : firstT (evSlice P s.h t x lo hi) = some v) : ∃ v',(Instr.sliceAt t x' lo' hi' none).run P w = .ok v' w ∧ VRel ι D v v' := by
  unfold evSlice at h
  split at h
  · rename_i str hu
    obtain rfl : x' = _ := hx
    split at h
    · rename_i b l h0 hb
      obtain ⟨hc,rfl⟩ := firstT_one h
      obtain ⟨q,_,_⟩ := bounds_sound (P := P) (w := w) (isS := false) hl hh hb hc (Nat.le_refl _)
      refine ⟨_,?_,rfl⟩
      rw [run_sliceAt_string w t _ _ _ _ hu]
      simp [Instr.slice,run_underlying hu,q]
    · cases h
  · rename_i n e a hu
    obtain ⟨a',rfl,hD,j0,hj0,rfl⟩ := hx
    split at h
    · rename_i b l h0 m j hb hm hj
      obtain ⟨hc,rfl⟩ := firstT_one h
      rw [hj0] at hj; cases hj
      obtain ⟨q,q1,q2⟩ := bounds_sound (P := P) (w := w) (isS := false) hl hh hb hc (Nat.le_refl _)
      refine ⟨.slice (some ((ι a.block).cell a.off (cond (Nat.beq n l) j0 (j0 + l * m)))) (h0 - l) (n - l),?_,⟨_,rfl,⟨hD,_,rfl,rfl⟩,by omega⟩⟩
      simp only [Instr.sliceAt,Sem.run_bind,Sem.run_pure,run_underlying hu,Result.andThen_ok,Instr.sureAddr,q,tSize_run hm]
      congr 3
      by_cases hnl : n = l
      · subst hnl; simp
      · rw [if_neg hnl,cell_add,show Nat.beq n l = false from by rw [← Bool.not_eq_true]; intro hh; exact hnl (Nat.eq_of_beq_eq_true hh)]
        rfl
    · cases h
  · rename_i e q0 a n c hu
    obtain ⟨a',rfl,⟨hD,j0,hj0,rfl⟩,h1⟩ := hx
    split at h
    · rename_i b l h0 m j hb hm hj
      obtain ⟨hc,rfl⟩ := firstT_one h
      rw [hj0] at hj; cases hj
      obtain ⟨q,q1,q2⟩ := bounds_sound (P := P) (w := w) (isS := true) hl hh hb hc (Nat.le_refl _)
      refine ⟨.slice (some ((ι a.block).cell a.off (cond (Nat.beq c l) j0 (j0 + l * m)))) (h0 - l) (c - l),?_,⟨_,rfl,⟨hD,_,rfl,rfl⟩,by omega⟩⟩
      have hs : (Instr.sliceAt t (.slice (some ((ι a.block).cell a.off j0)) n c) lo' hi' none).run P w = (Instr.slice t (.slice (some ((ι a.block).cell a.off j0)) n c) lo' hi' none).run P w := by
        simp [Instr.sliceAt,run_underlying hu]
      rw [hs]
      simp only [Instr.slice,Sem.run_bind,Sem.run_pure,run_underlying hu,Result.andThen_ok,q,tSize_run hm]
      congr 2
      by_cases hnl : c = l
      · subst hnl; simp
      · rw [if_neg hnl,show Nat.beq c l = false from by rw [← Bool.not_eq_true]; intro hh; exact hnl (Nat.eq_of_beq_eq_true hh)]
        simp only [Option.map_some,cell_add,cond_false]
    · cases h
  · rename_i e a n c hu
    obtain ⟨a',c',rfl,⟨hD,j0,hj0,rfl⟩,hs0,g1,g2,g3⟩ := hx
    split at h
    · rename_i b l h0 m hb hm
      split at h
      · rename_i hes
        obtain ⟨hes,hpos⟩ := hes
        obtain ⟨hc,rfl⟩ := firstT_one h
        rw [Bool.and_eq_true] at hc
        obtain ⟨hc2,hc⟩ := hc
        rw [hj0] at hs0; cases hs0
        have hI : (ι a.block).es = m := by
          unfold conEs at hes
          cases hb : s.h[a.block]? with
          | none => simp [hb] at hes; omega
          | some b =>
            cases hcn : b.con with
            | none => simp [hb,hcn] at hes; omega
            | some c0 => simp [hb,hcn] at hes; rw [(H.both _ _ _ hD hb hcn).2.1,hes]
        obtain ⟨q,q1,q2⟩ := bounds_sound (P := P) (w := w) (isS := true) hl hh hb hc g2
        refine ⟨.slice (some ((ι a.block).cell (a.off + l) 0)) (h0 - l) (c' - l),?_,⟨_,c' - l,rfl,⟨hD,0,hj0,rfl⟩,hj0,by omega,by omega,?_⟩⟩
        · have hs : (Instr.sliceAt t (.slice (some ((ι a.block).cell a.off 0)) n c') lo' hi' none).run P w = (Instr.slice t (.slice (some ((ι a.block).cell a.off 0)) n c') lo' hi' none).run P w := by
            simp [Instr.sliceAt,run_underlying hu]
          rw [hs]
          simp only [Instr.slice,Sem.run_bind,Sem.run_pure,run_underlying hu,Result.andThen_ok,q,tSize_run hm]
          congr 2
          have ha : ((ι a.block).cell a.off 0).add (l * m) = (ι a.block).cell (a.off + l) 0 := by
            rw [cell_add]
            simp only [Info.cell,Addr.mk.injEq,and_true,true_and]
            rw [hI,Nat.add_mul]; omega
          by_cases hl0 : l = 0
          · subst hl0
            split
            · simp
            · simp only [Option.map_some,ha]
          · have : ¬ (c' = l) := by
              rw [Bool.or_eq_true] at hc2
              rcases hc2 with hc2 | hc2
              · exact absurd (Nat.eq_of_beq_eq_true hc2) hl0
              · have := blt_true hc2; omega
            rw [if_neg this]
            simp only [Option.map_some,ha]
        · show a.off + l + (c' - l) ≤ (ι a.block).room
          have : l ≤ c' := by omega
          omega
      · cases h
    · cases h
  · rename_i e b0 hu
    obtain ⟨hD,hx⟩ := hx
    split at h
    · rename_i n m hn hm
      split at h
      · rename_i b l h0 hb
        split at h
        · rename_i hes
          obtain ⟨hes,hpos⟩ := hes
          have hI := conEs_eq H hD hes hpos
          have hL := conLen_eq H hD hn
          by_cases hc1 : (Nat.blt l n && b) = true
          · have hv : some v = some (.slice (some ⟨b0,l,some 0⟩) (h0 - l) (n - l)) := by
              rw [← h]; simp only [firstT,hc1,cond_true,if_true]
            cases hv
            rw [Bool.and_eq_true] at hc1
            obtain ⟨hc2,hc⟩ := hc1
            have hlt := blt_true hc2
            rcases hx with ⟨c',rfl,g2,g3⟩ | ⟨rfl,h0⟩
            · rw [hL] at g2 ⊢
              obtain ⟨q,q1,q2⟩ := bounds_sound (P := P) (w := w) (isS := true) hl hh hb hc g2
              refine ⟨.slice (some ((ι b0).cell l 0)) (h0 - l) (c' - l),?_,⟨_,c' - l,rfl,⟨hD,0,rfl,rfl⟩,rfl,by omega,by omega,?_⟩⟩
              · have hs : (Instr.sliceAt t (.slice (some ((ι b0).cell 0 0)) n c') lo' hi' none).run P w = (Instr.slice t (.slice (some ((ι b0).cell 0 0)) n c') lo' hi' none).run P w := by
                  simp [Instr.sliceAt,run_underlying hu]
                rw [hs]
                simp only [Instr.slice,Sem.run_bind,Sem.run_pure,run_underlying hu,Result.andThen_ok,q,tSize_run hm]
                congr 2
                rw [if_neg (by omega)]
                simp only [Option.map_some,cell_add]
                congr 1
                simp only [Info.cell,Addr.mk.injEq,and_true,true_and]
                rw [hI]; omega
              · show l + (c' - l) ≤ (ι b0).room
                omega
            · omega
          · have hc1' : (Nat.blt l n && b) = false := by rw [← Bool.not_eq_true]; exact hc1
            by_cases hc3 : (Nat.beq l n && b) = true
            · have hv : some v = some (.iface 0 (.slice none 0 0)) := by
                rw [← h]; simp only [firstT,hc1',hc3,cond_true,cond_false,if_true,if_false,Bool.false_eq_true]
              cases hv
              rw [Bool.and_eq_true] at hc3
              obtain ⟨hc2,hc⟩ := hc3
              have hln : l = n := Nat.eq_of_beq_eq_true hc2
              rcases hx with ⟨c',rfl,g2,g3⟩ | ⟨rfl,h00⟩
              · rw [hL] at g2 ⊢
                obtain ⟨q,q1,q2⟩ := bounds_sound (P := P) (w := w) (isS := true) hl hh hb hc g2
                have hs : (Instr.sliceAt t (.slice (some ((ι b0).cell 0 0)) n c') lo' hi' none).run P w = (Instr.slice t (.slice (some ((ι b0).cell 0 0)) n c') lo' hi' none).run P w := by
                  simp [Instr.sliceAt,run_underlying hu]
                refine ⟨.slice (if c' = l then some ((ι b0).cell 0 0) else (some ((ι b0).cell 0 0)).map (·.add (l * m))) (h0 - l) (c' - l),?_,rfl,(if c' = l then some ((ι b0).cell 0 0) else (some ((ι b0).cell 0 0)).map (·.add (l * m))),c' - l,?_⟩
                · rw [hs]
                  simp only [Instr.slice,Sem.run_bind,Sem.run_pure,run_underlying hu,Result.andThen_ok,q,tSize_run hm]
                · rw [show h0 - l = 0 by omega]
              · have hn0 : n = 0 := by rw [← hL]; exact h00
                obtain ⟨q,q1,q2⟩ := bounds_sound (P := P) (w := w) (isS := true) (n := n) (c := n) (c' := 0) hl hh hb hc (by omega)
                have hs : (Instr.sliceAt t (.slice none 0 0) lo' hi' none).run P w = (Instr.slice t (.slice none 0 0) lo' hi' none).run P w := by
                  simp [Instr.sliceAt,run_underlying hu]
                refine ⟨.slice none 0 0,?_,rfl,none,0,rfl⟩
                rw [hs]
                subst hn0
                obtain rfl : l = 0 := by omega
                obtain rfl : h0 = 0 := by omega
                simp [Instr.slice,run_underlying hu,q,tSize_run hm]
            · have hc3' : (Nat.beq l n && b) = false := by rw [← Bool.not_eq_true]; exact hc3
              simp only [firstT,hc1',hc3',cond_false,if_false,Bool.false_eq_true] at h
              cases h
        · cases h
      · cases h
    · cases h
  · rename_i e n c hu
    obtain ⟨rfl,rfl,rfl⟩ := hx
    split at h
    · rename_i b l h0 m hb hm
      obtain ⟨hc,rfl⟩ := firstT_one h
      obtain ⟨q,q1,q2⟩ := bounds_sound (P := P) (w := w) (isS := true) hl hh hb hc (Nat.le_refl _)
      refine ⟨.slice none 0 0,?_,⟨rfl,rfl,rfl⟩⟩
      have hs : (Instr.sliceAt t (.slice none 0 0) lo' hi' none).run P w = (Instr.slice t (.slice none 0 0) lo' hi' none).run P w := by
        simp [Instr.sliceAt,run_underlying hu]
      rw [hs]
      obtain rfl : h0 = 0 := by omega
      obtain rfl : l = 0 := by omega
      simp [Instr.slice,run_underlying hu,q,tSize_run hm]
    · cases h
  · cases h

theorem sliceR_run {t e : TypeId} {m : Nat} (hu : P.underlying t = some (.slice e)) (hm : tSize P e = some m) {o : Option Addr} {n c' l h0 : Nat} {b : Bool} {lo lo' hi hi' : Option Value} (hl : ORel ι D lo lo') (hh : ORel ι D hi hi')
    (hb : evBounds n n lo hi = some (b,l,h0)) (hc : b = true) (hn : n ≤ c') :
    (Instr.sliceAt t (.slice o n c') lo' hi' none).run P w = .ok (.slice (if c' = l then o else o.map (·.add (l * m))) (h0 - l) (c' - l)) w ∧ l ≤ h0 ∧ h0 ≤ n := by
  obtain ⟨q,q1,q2⟩ := bounds_sound (P := P) (w := w) (isS := true) hl hh hb hc hn
  refine ⟨?_,q1,q2⟩
  have hs : (Instr.sliceAt t (.slice o n c') lo' hi' none).run P w = (Instr.slice t (.slice o n c') lo' hi' none).run P w := by
    simp [Instr.sliceAt,run_underlying hu]
  rw [hs]
  simp only [Instr.slice,Sem.run_bind,Sem.run_pure,run_underlying hu,Result.andThen_ok,q,tSize_run hm]
theorem rsl_rel {a : Addr} {j0 n c' l h0 m : Nat} (hD : D a.block) (hj : a.spot = some j0) (hI : (ι a.block).es = m) (hn : n ≤ c') (q1 : l ≤ h0) (q2 : h0 ≤ n) :
    VRel ι D (rsl ⟨a.block,a.off + l,a.spot⟩ (h0 - l)) (.slice (if c' = l then some ((ι a.block).cell a.off j0) else (some ((ι a.block).cell a.off j0)).map (·.add (l * m))) (h0 - l) (c' - l)) := by
  by_cases h : h0 - l = 0
  · rw [h]
    exact .inl ⟨rfl,_,_,rfl⟩
  · rw [if_neg (by omega)]
    refine .inr ⟨(ι a.block).cell (a.off + l) j0,c' - l,?_,⟨hD,j0,hj,rfl⟩,Nat.sub_le_sub_right (Nat.le_trans q2 hn) l⟩
    simp only [Option.map_some,cell_add]
    congr 2
    simp only [Info.cell,Addr.mk.injEq,and_true,true_and]
    rw [hI,Nat.add_mul]; omega
theorem sliceR_sound {t : TypeId} {x x' v : Value} {lo lo' hi hi' : Option Value} (H : WRel B ι D s.h w) (hx : VRel ι D x x') (hl : ORel ι D lo lo') (hh : ORel ι D hi hi')
    (h : firstT (evSliceR P s.h t x lo hi) = some v) : ∃ v',(Instr.sliceAt t x' lo' hi' none).run P w = .ok v' w ∧ VRel ι D v v' := by
  unfold evSliceR at h
  split at h
  · rename_i e n a hu
    split at h
    · rename_i b l h0 m hb hm
      split at h
      · rename_i hes
        obtain ⟨hes,hpos⟩ := hes
        obtain ⟨hc,rfl⟩ := firstT_one h
        rcases hx with ⟨rfl,o,c',rfl⟩ | ⟨a',c',rfl,⟨hD,j0,hj0,rfl⟩,h1⟩
        · obtain ⟨q,q1,q2⟩ := sliceR_run (w := w) hu hm (o := o) (c' := c') hl hh hb hc (Nat.zero_le _)
          obtain rfl : h0 = 0 := by omega
          obtain rfl : l = 0 := by omega
          exact ⟨_,q,.inl ⟨rfl,_,_,rfl⟩⟩
        · obtain ⟨q,q1,q2⟩ := sliceR_run (w := w) hu hm (o := some ((ι a.block).cell a.off j0)) (c' := c') hl hh hb hc h1
          exact ⟨_,q,rsl_rel hD hj0 (conEs_eq H hD hes hpos) h1 q1 q2⟩
      · cases h
    · cases h
  · rename_i e k hu
    obtain ⟨hD,hx⟩ := hx
    split at h
    · rename_i n m hn hm
      split at h
      · rename_i b l h0 hb
        split at h
        · rename_i hes
          obtain ⟨hes,hpos⟩ := hes
          obtain ⟨hc,rfl⟩ := firstT_one h
          have hI := conEs_eq H hD hes hpos
          have hL := conLen_eq H hD hn
          rcases hx with ⟨c',rfl,g2,g3⟩ | ⟨rfl,g0⟩
          · rw [hL] at g2 ⊢
            obtain ⟨q,q1,q2⟩ := sliceR_run (w := w) hu hm (o := some ((ι k).cell 0 0)) (c' := c') hl hh hb hc g2
            refine ⟨_,q,?_⟩
            have := rsl_rel (a := ⟨k,0,some 0⟩) hD rfl hI g2 q1 q2
            rw [Nat.zero_add] at this
            exact this
          · obtain rfl : n = 0 := by rw [← hL]; exact g0
            obtain ⟨q,q1,q2⟩ := sliceR_run (w := w) hu hm (o := none) (c' := 0) hl hh hb hc (Nat.zero_le _)
            obtain rfl : h0 = 0 := by omega
            obtain rfl : l = 0 := by omega
            exact ⟨_,q,.inl ⟨rfl,_,_,rfl⟩⟩
        · cases h
      · cases h
    · cases h
  · rename_i e a n c hu
    split at h
    · rename_i b l h0 m hb hm
      split at h
      · rename_i hes
        obtain ⟨hes,hpos⟩ := hes
        obtain ⟨hc,rfl⟩ := firstT_one h
        obtain ⟨a',c',rfl,⟨hD,j0,hj0,rfl⟩,hs0,g1,g2,g3⟩ := hx
        obtain ⟨q,q1,q2⟩ := sliceR_run (w := w) hu hm (o := some ((ι a.block).cell a.off j0)) (c' := c') hl hh hb hc (Nat.le_trans g1 g2)
        exact ⟨_,q,rsl_rel hD hj0 (conEs_eq H hD hes hpos) (Nat.le_trans g1 g2) q1 q2⟩
      · cases h
    · cases h
  · cases h
theorem sliceX_sound {t : TypeId} {x x' v : Value} {lo lo' hi hi' : Option Value} (H : WRel B ι D s.h w) (hx : VRel ι D x x') (hl : ORel ι D lo lo') (hh : ORel ι D hi hi')
    (h : firstT (evSliceX P s.h t x lo hi) = some v) : ∃ v',(Instr.sliceAt t x' lo' hi' none).run P w = .ok v' w ∧ VRel ι D v v' := by
  unfold evSliceX at h
  cases h1 : isRsl x with
  | true => rw [h1] at h; exact sliceR_sound H hx hl hh h
  | false =>
    rw [h1] at h
    cases h2 : lo.isSome with
    | false => rw [h2] at h; exact slice_sound H hx hl hh h
    | true =>
      rw [h2] at h
      cases h3 : isStrS P t with
      | true => rw [h3] at h; exact sliceR_sound H hx hl hh h
      | false => rw [h3] at h; exact slice_sound H hx hl hh h

theorem index_sound {t : TypeId} {x x' ix ix' v : Value} (hx : VRel ι D x x') (hi : VRel ι D ix ix') (h : firstT (evIndex P t x ix) = some v) :
    ∃ v',(Instr.index t x' ix').run P w = .ok v' w ∧ VRel ι D v v' := by
  unfold evIndex at h
  split at h
  · rename_i n e cs k i hu
    obtain rfl : ix' = _ := hi
    obtain ⟨cs',rfl,hl⟩ := hx
    split at h
    · rename_i ha hm
      have hmem := firstT_mem h
      rw [List.mem_map] at hmem
      obtain ⟨⟨u,q⟩,hq,he⟩ := hmem
      simp only [Prod.mk.injEq,Bool.and_eq_true,decide_eq_true_eq] at he
      obtain ⟨⟨rfl,hlt⟩,rfl⟩ := he
      have hlt' := blt_true hlt
      have hq' := List.mk_mem_zipIdx_iff_getElem?.1 hq
      obtain ⟨v',h1,h2⟩ := hl.get _ _ hq'
      refine ⟨v',?_,h2.toV1.toV⟩
      have hc : (0 : Int) ≤ (q : Int) ∧ (q : Int) < (n : Int) := by omega
      simp only [Instr.index,asIntOf,Sem.run_bind,Sem.run_pure,run_underlying hu,Result.andThen_ok,if_pos hc,tSize_run hm,part,tAgg_run ha,Bool.false_eq_true,if_false]
      have e1 : (q : Int).toNat * 1 = q := by omega
      rw [e1]
      rw [Array.getElem?_toList] at h1
      simp [h1]
    · rename_i m ha hm
      have hmem := firstT_mem h
      rw [List.mem_map] at hmem
      obtain ⟨q,hq,he⟩ := hmem
      simp only [Prod.mk.injEq,decide_eq_true_eq] at he
      obtain ⟨rfl,rfl⟩ := he
      have hq' := List.mem_range.1 hq
      have hc : (0 : Int) ≤ (q : Int) ∧ (q : Int) < (n : Int) := by omega
      obtain ⟨v',h1,h2⟩ := part_sound (P := P) (w := w) (t := e) (off := q * m) hl (v := .agg ((cs.toList.drop (q * m)).take m).toArray) (by simp [ha,hm,firstT])
      refine ⟨v',?_,h2.toV⟩
      simp only [Instr.index,asIntOf,Sem.run_bind,Sem.run_pure,run_underlying hu,Result.andThen_ok,if_pos hc,tSize_run hm]
      have e1 : (q : Int).toNat * m = q * m := by rw [Int.toNat_natCast]
      rw [e1]
      exact h1
    · cases h
  · rename_i str k i hu
    obtain rfl : ix' = _ := hi
    obtain rfl : x' = _ := hx
    obtain ⟨hc,rfl⟩ := firstT_one h
    replace hc := idx_lt hc
    have hlt : i.toNat < str.size := by omega
    refine ⟨_,?_,rfl⟩
    simp only [Instr.index,asIntOf,Sem.run_bind,Sem.run_pure,run_underlying hu,Result.andThen_ok,if_pos hc.1]
    have e1 : str[i.toNat]? = some str[i.toNat] := by simp [hlt]
    rw [e1]
    have e2 : str.data.toList.getD i.toNat 0 = str[i.toNat] := by
      rw [List.getD_eq_getElem?_getD,List.getElem?_eq_getElem (by simpa using hlt)]
      rfl
    rw [e2]; rfl
  · cases h

theorem order_some {k : FloatKind} {a b : Nat} (h : (k.format.order a b).isSome = true) : isN k a = false ∧ isN k b = false := by
  unfold Ieee.Format.order at h
  unfold isN
  cases ea : k.format.read a <;> cases eb : k.format.read b <;> first | exact ⟨rfl,rfl⟩ | (rw [ea,eb] at h; cases h)
theorem mm_sound {at_ : Array TypeId} {ty : TypeId} {mx : Bool} {x x' y y' v : Value} (hx : VRel ι D x x') (hy : VRel ι D y y') (h : firstT (evMM mx x y) = some v) : ∃ v',(cond mx (Builtin.max_ at_ ty #[x',y']) (Builtin.min_ at_ ty #[x',y'])).run P w = .ok v' w ∧ VRel ι D v v' := by
  unfold evMM at h
  split at h
  · rename_i k a k' b
    split at h
    · rename_i e
      subst e
      obtain ⟨hc,rfl⟩ := firstT_one h
      obtain ⟨na,nb⟩ := order_some hc
      obtain ⟨a',rfl,ca⟩ := hx
      obtain ⟨b',rfl,cb⟩ := hy
      obtain rfl : a = a' := eq_of_canon ca.symm na
      obtain rfl : b = b' := eq_of_canon cb.symm nb
      refine ⟨_,?_,⟨_,rfl,rfl⟩⟩
      cases mx with
      | false =>
        show (Builtin.min_ at_ ty #[.float k a,.float k b]).run P w = _
        unfold Builtin.min_ fmin
        simp only [cond_false,List.foldlM_cons,List.foldlM_nil,Builtin.min2]
        cases e : k.format.order a b with
        | none => rw [e] at hc; cases hc
        | some o => cases o <;> simp [Bool.cond_eq_ite]
      | true =>
        show (Builtin.max_ at_ ty #[.float k a,.float k b]).run P w = _
        unfold Builtin.max_ fmax
        simp only [cond_true,List.foldlM_cons,List.foldlM_nil,Builtin.max2]
        cases e : k.format.order a b with
        | none => rw [e] at hc; cases hc
        | some o => cases o <;> simp [Bool.cond_eq_ite]
    · cases h
  · cases h

theorem len_sound {t ty : TypeId} {x x' v : Value} (H : WRel B ι D s.h w) (hx : VRel ι D x x') (h : firstT (evLen P s.h t x) = some v) : ∃ v',(Builtin.len_ #[t] ty #[x']).run P w = .ok v' w ∧ VRel ι D v v' := by
  unfold evLen at h
  split at h
  · rename_i str hu
    obtain rfl : x' = _ := hx
    obtain ⟨hc,rfl⟩ := firstT_one h
    refine ⟨_,?_,rfl⟩
    simp [Builtin.len_,run_underlying hu,goInt]
  · rename_i n e hu
    obtain ⟨hc,rfl⟩ := firstT_one h
    refine ⟨_,?_,rfl⟩
    simp [Builtin.len_,run_underlying hu,goInt]
  · rename_i e a n c hu
    obtain ⟨hc,rfl⟩ := firstT_one h
    refine ⟨.int .i64 n,?_,rfl⟩
    cases a with
    | none =>
      obtain ⟨rfl,rfl,rfl⟩ := hx
      simp [Builtin.len_,run_underlying hu,goInt]
    | some a =>
      obtain ⟨a',c',rfl,_⟩ := hx
      simp [Builtin.len_,run_underlying hu,goInt]
  · rename_i e q a n c hu
    obtain ⟨hc,rfl⟩ := firstT_one h
    refine ⟨.int .i64 n,?_,rfl⟩
    cases a with
    | none =>
      obtain ⟨rfl,o,c',rfl⟩ := hx
      simp [Builtin.len_,run_underlying hu,goInt]
    | some a =>
      obtain ⟨a',rfl,_⟩ := hx
      simp [Builtin.len_,run_underlying hu,goInt]
  · rename_i e n a hu
    obtain ⟨hc,rfl⟩ := firstT_one h
    refine ⟨.int .i64 n,?_,rfl⟩
    rcases hx with ⟨rfl,o,c',rfl⟩ | ⟨a',c',rfl,_⟩
    · simp [Builtin.len_,run_underlying hu,goInt]
    · simp [Builtin.len_,run_underlying hu,goInt]
  · rename_i e b0 hu
    obtain ⟨hD,hx⟩ := hx
    split at h
    · rename_i n hn
      obtain ⟨hc,rfl⟩ := firstT_one h
      have hL := conLen_eq H hD hn
      refine ⟨.int .i64 n,?_,rfl⟩
      rcases hx with ⟨c',rfl,_⟩ | ⟨rfl,h0⟩
      · simp [Builtin.len_,run_underlying hu,goInt,hL]
      · simp [Builtin.len_,run_underlying hu,goInt]; omega
    · cases h
  · cases h

theorem extract_sound {x x' v : Value} {i : Nat} {vs : Array Value} (hx : VRel ι D x x') (he : x = .tuple vs) (hv : vs.toList[i]? = some v) : ∃ v',(Instr.extract x' i).run P w = .ok v' w ∧ VRel ι D v v' := by
  subst he
  obtain ⟨vs',rfl,hl⟩ := hx
  obtain ⟨v',h1,h2⟩ := hl.get _ _ hv
  refine ⟨v',?_,h2.toV⟩
  rw [Array.getElem?_toList] at h1
  simp [Instr.extract,h1]
end

def Ext.run : Ext → Array Value → Sem Value
  | .f32bits => Extern.MathFloatBits.float32bits
  | .f32from => Extern.MathFloatBits.float32frombits
  | .f64bits => Extern.MathFloatBits.float64bits
  | .f64from => Extern.MathFloatBits.float64frombits
  | .sqrt => Extern.MathSqrt.sqrt

theorem sqrt_nan {k : FloatKind} {a : Nat} (h : isN k a = true) : k.format.sqrt a = none := by
  obtain ⟨s,f,e⟩ := read_of_isN h
  simp [Ieee.Format.sqrt,e,Ieee.Datum.root]
theorem sqrt_def (x : Nat) : Extern.MathSqrt.sqrt #[.float .f64 x] = (match FloatKind.f64.format.sqrt x with | some r => (Pure.pure (.float .f64 r) : Sem Value) | none => do Pure.pure (.float .f64 (← choose (.nanBits .f64 x x)))) := rfl
theorem sqrt_run {P : Program} {b b' : Nat} (hb : canon .f64 b' = canon .f64 b) (w : World) : ∃ r' w',(Extern.MathSqrt.sqrt #[.float .f64 b']).run P w = .ok (.float .f64 r') w' ∧ canon .f64 r' = canon .f64 (fsqrt .f64 b) ∧ W2 w w' := by
  have he : FloatKind.f64.format.sqrt b' = FloatKind.f64.format.sqrt b := by
    by_cases h : isN .f64 b = true
    · rw [sqrt_nan h,sqrt_nan (by rw [isN_of_canon hb]; exact h)]
    · have h1 : isN .f64 b = false := by cases e : isN .f64 b <;> simp_all
      rw [eq_of_canon hb.symm h1]
  rw [sqrt_def,he]
  unfold fsqrt
  cases hs : FloatKind.f64.format.sqrt b with
  | some r => exact ⟨r,w,rfl,rfl,.inl rfl⟩
  | none =>
    obtain ⟨t,ht⟩ := run_choose_nan (P := P) (.nanBits .f64 b' b') rfl w
    refine ⟨_,w.drew,by simp only [Sem.run_bind,ht,Result.andThen_ok]; rfl,?_,.inr rfl⟩
    rw [canon_of_isN (nanBits_isN _ _ _ _)]
    simp [canon_qnan]

def ExtOk (P : Program) (ext : FuncId → Option Ext) : Prop := ∀ g e,ext g = some e → ∃ fn,P.funcs[g]? = some fn ∧ (fn.name == "runtime.NumGoroutine") = false ∧ fn.body.isNone = true ∧
  Extern.findNext fn = none ∧ Extern.find fn = some e.run

theorem ext_sound {P : Program} {ι : Nat → Info} {D : Nat → Prop} {w : World} {e : Ext} {args args' : List Value} {v : Value} (ha : L2 (VRel ι D) args args') (h : firstT (evExt e args) = some v) :
    ∃ v' w',(e.run args'.toArray).run P w = .ok v' w' ∧ VRel ι D v v' ∧ W2 w w' := by
  unfold evExt at h
  split at h
  · rename_i b
    match args',ha with
    | [x'],ha =>
      obtain ⟨b',rfl,hb⟩ := ha.1
      refine ⟨.int .u32 b',w,rfl,?_,.inl rfl⟩
      cases hn : isN .f32 b with
      | true => simp [hn,firstT] at h; subst h; exact ⟨rfl,fun _ => ⟨b',rfl,by rw [isN_of_canon hb]; exact hn⟩⟩
      | false => simp [hn,firstT] at h; subst h; rw [eq_of_canon hb.symm hn]; rfl
  · split at h
    · rename_i hc
      obtain ⟨rfl,rfl⟩ := hc
      match args',ha with
      | [x'],ha =>
        obtain ⟨b',rfl,hb⟩ := ha.1.2 rfl
        obtain ⟨hc,rfl⟩ := firstT_one h
        refine ⟨.float .f32 b',w,rfl,⟨_,rfl,?_⟩,.inl rfl⟩
        rw [canon_of_isN hb,canon_of_isN (isN_qnan _)]
    · cases h
  · split at h
    · rename_i hc
      obtain ⟨rfl,rfl⟩ := hc
      match args',ha with
      | [x'],ha =>
        obtain ⟨b',rfl,hb⟩ := ha.1.2 rfl
        obtain ⟨hc,rfl⟩ := firstT_one h
        refine ⟨.float .f64 b',w,rfl,⟨_,rfl,?_⟩,.inl rfl⟩
        rw [canon_of_isN hb,canon_of_isN (isN_qnan _)]
    · cases h
  · match args',ha with
    | [x'],ha =>
      obtain rfl : x' = _ := ha.1
      obtain ⟨hc,rfl⟩ := firstT_one h
      exact ⟨_,w,rfl,⟨_,rfl,rfl⟩,.inl rfl⟩
  · rename_i b
    match args',ha with
    | [x'],ha =>
      obtain ⟨b',rfl,hb⟩ := ha.1
      refine ⟨.int .u64 b',w,rfl,?_,.inl rfl⟩
      cases hn : isN .f64 b with
      | true => simp [hn,firstT] at h; subst h; exact ⟨rfl,fun _ => ⟨b',rfl,by rw [isN_of_canon hb]; exact hn⟩⟩
      | false => simp [hn,firstT] at h; subst h; rw [eq_of_canon hb.symm hn]; rfl
  · match args',ha with
    | [x'],ha =>
      obtain rfl : x' = _ := ha.1
      obtain ⟨hc,rfl⟩ := firstT_one h
      exact ⟨_,w,rfl,⟨_,rfl,rfl⟩,.inl rfl⟩
  · rename_i b
    match args',ha with
    | [x'],ha =>
      obtain ⟨b',rfl,hb⟩ := ha.1
      obtain ⟨hc,rfl⟩ := firstT_one h
      obtain ⟨r',w',h1,h2,h3⟩ := sqrt_run (P := P) hb w
      exact ⟨_,w',h1,⟨r',rfl,h2⟩,h3⟩
  · cases h

end Go.Ab
