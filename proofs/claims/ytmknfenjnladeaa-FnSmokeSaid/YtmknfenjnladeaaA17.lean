/- Tables of functions; a law of plain values. -/
import Derived.Test.YtmknfenjnladeaaA16
namespace Go.Ab
open Go.RowKit (Below)

theorem RunI.widen {P : Program} {B : Bnd P} {ι ι' : Nat → Info} {D : Nat → Prop} {s s' : St} {w w' : World} (l : List Nat) (I : RunI B ι ι' D s s' w w') : RunI B ι ι' D s { s' with wr := unW l s'.wr } w w' := by
  refine ⟨I.agree,I.rel,?_,?_,I.len,I.lo,fun q hq => mem_unW.2 (.inr (I.tch q hq))⟩
  · refine ⟨I.frm.os,I.frm.tape,I.frm.output,I.frm.size,fun b hb hn => I.frm.block b hb (fun hw => hn ?_)⟩
    obtain ⟨k,c,h1,h2,h3,h4⟩ := hw
    exact ⟨k,c,h1,h2,h3,h4.imp id fun h => mem_unW.2 (.inr h)⟩
  · intro t b ht ho
    exact I.prov t b (fun q hq => ht q (mem_unW.2 (.inr hq))) ho
theorem finL_sound {P : Program} {B : Bnd P} {ι ι' : Nat → Info} {D : Nat → Prop} {s s' : St} {w w' : World} {keep : List Nat} {wide : List Nat} {e : Fin'} {fr' : List Value} {a' : Act} {x : Fin' × List Value × St} (hlo : s.lo = s.h.length) (hD : ∀ k,D k → k < s.h.length)
    (I : RunI B ι ι' D s s' w w') (hF : FRel ι' (DomU D s.h.length s'.h.length) fr' a') (h1 : finL keep wide e fr' s' = some x) :
    x.1 = e ∧ ∃ ι3,RunI B ι ι3 D s x.2.2 w w' ∧ FRel ι3 (DomU D s.h.length x.2.2.h.length) x.2.1 a' := by
  have hF0 := keepFr_rel keep hF
  unfold finL at h1
  simp only at h1
  generalize hE : reach s'.h 100 ((keepFr keep fr').flatMap addrsV ++ (s'.h.take s'.lo).flatMap fun b => addrsC b.con) (List.range s'.lo) = E at h1
  cases hc : nodupB E && Nat.ble s'.lo s'.h.length && E.all fun k => Nat.blt k s'.h.length with
  | false => rw [hc] at h1; cases h1
  | true =>
    rw [hc] at h1
    cases h1
    simp only [Bool.and_eq_true] at hc
    obtain ⟨⟨hn,_⟩,hall⟩ := hc
    have hlo' : s'.lo = s.h.length := I.lo.trans hlo
    obtain ⟨t,ht⟩ := reach_pre s'.h 100 ((keepFr keep fr').flatMap addrsV ++ (s'.h.take s'.lo).flatMap fun b => addrsC b.con) (List.range s'.lo)
    rw [hE,hlo'] at ht
    have hElen : s.h.length ≤ E.length := by rw [ht]; simp
    have hEid : ∀ k,k < s.h.length → E.getD k 0 = k := by
      intro k hk
      rw [ht,List.getD_eq_getElem?_getD,List.getElem?_append_left (by simpa using hk)]
      simp [hk]
    have hEge : ∀ k,s.h.length ≤ k → k < E.length → s.h.length ≤ E.getD k 0 := by
      intro k h1 h2
      apply Nat.le_of_not_lt
      intro hlt
      have e1 : E[k]? = some (E.getD k 0) := by rw [List.getElem?_eq_getElem h2]; simp [List.getD,h2]
      have e2 : E[E.getD k 0]? = some (E.getD k 0) := by
        have h3 := hEid _ hlt
        have h4 : E.getD k 0 < E.length := by omega
        rw [List.getElem?_eq_getElem h4]
        rw [List.getD_eq_getElem?_getD,List.getElem?_eq_getElem h4,Option.getD_some] at h3
        rw [h3]
      have := nodupB_spec hn _ _ _ e1 e2
      omega
    have hElt : ∀ k,k < E.length → E.getD k 0 < s'.h.length := by
      intro k hk
      rw [List.all_eq_true] at hall
      have := hall (E.getD k 0) (by simp [List.getD,hk])
      exact blt_true this
    have hdom : subD E (DomU D s.h.length s'.h.length) = DomU D s.h.length E.length := by
      funext k; apply propext
      constructor
      · rintro ⟨h1,h2⟩
        by_cases hk : k < s.h.length
        · rw [hEid k hk] at h2
          rcases h2 with h2 | h2
          · exact .inl h2
          · omega
        · exact .inr ⟨by omega,h1⟩
      · rintro (h1 | h1)
        · have := hD k h1
          exact ⟨by omega,.inl (by rw [hEid k this]; exact h1)⟩
        · exact ⟨h1.2,.inr ⟨hEge k h1.1 h1.2,hElt k h1.2⟩⟩
    have hlen2 : (subH E s'.h).length = E.length := by simp [subH]
    have hrel := sub_rel (s := s') I.rel (DomU_lt hD I.len) hn
    have key : RunI B ι (subι E ι') D s ⟨subH E s'.h,s'.lo,s'.wr⟩ w w' ∧ FRel (subι E ι') (DomU D s.h.length (subH E s'.h).length) ((keepFr keep fr').map (relocV (inv E))) a' := by
     refine ⟨⟨fun k hk => ?_,?_,I.frm,?_,by rw [hlen2]; exact hElen,I.lo,I.tch⟩,?_⟩
     · unfold subι; rw [hEid k hk]; exact I.agree k hk
     · rw [hlen2,← hdom]; exact hrel
     · rw [hlen2]
       rintro t b htb ⟨k,c,g1,g2,g3,g4⟩
       have hklt : k < E.length := by
         rcases g1 with g1 | g1
         · have := hD k g1; omega
         · exact g1.2
       obtain ⟨b0,q1,q2⟩ := subH_get g2 (hElt k hklt)
       obtain ⟨c0,rfl,_⟩ := relocB_own q2.symm
       rw [← hdom] at g1
       refine I.prov t b htb ⟨E.getD k 0,c0,g1.2,q1,g3,?_⟩
       rw [hlo] at g4 ⊢
       by_cases hk : k < s.h.length
       · rw [hEid k hk]; exact g4
       · exact .inl (hEge k (by omega) hklt)
     · rw [hlen2,← hdom]
       exact ⟨relocVs_rel sub_ren hF0.1,hF0.2⟩
    exact ⟨rfl,subι E ι',key.1.widen wide,key.2⟩

theorem loop_step {P : Program} {ext : FuncId → Option Ext} {cf : CallF} (hcf : CfOk P cf) (hext : ExtOk P ext) (hm : P.follows .mixedOrders = true) {lf : LoopT} {K : Nat} {body : Code} (hl : LfOk P lf (loopsOf body)) {kin : Keep} {kout : List Nat} {wide : List Nat} {sum : Sum1} (hs : SumOk P body sum)
    {fr : List Value} {s : St} {x : Fin' × List Value × St} (hlo : s.lo = s.h.length) (h : evC P ext cf lf K body (loopTail kin kout wide sum) fr s = some x) : LoopOK P body fr s x := by
  intro B ι D a w H hD hF
  refine LoopIn.step (wp_mono (code_sound hcf hext hm K body hl _ fr s x h ι D a w H hD hF) ?_)
  rintro e a' w' ⟨fin,ι',fr',s',hem,I,hF',hk⟩
  have done : ∀ fin',EM e fin' → finL kout wide fin' fr' s' = some x → ∃ ι',EM e x.1 ∧ RunI B ι ι' D s x.2.2 w w' ∧ FRel ι' (DomU D s.h.length x.2.2.h.length) x.2.1 a' := by
    intro fin' he hf
    obtain ⟨e1,ι3,h3,h4⟩ := finL_sound hlo hD I hF' hf
    exact ⟨ι3,by rw [e1]; exact he,h3,h4⟩
  cases e with
  | normal =>
    cases fin <;> simp only [EM] at hem
    refine (loopCall_in hs hk I.rel (DomU_lt hD I.len) hF').mono ?_
    rintro e2 a2 w2 ⟨fin2,ι2,fr2,s2,hem2,I2,hF2,hk2⟩
    rw [DomU_trans I.len I2.len] at hF2
    obtain ⟨e1,ι3,h3,h4⟩ := finL_sound hlo hD (I.trans I2) hF2 hk2
    exact ⟨ι3,by rw [e1]; exact hem2,h3,h4⟩
  | ret =>
    cases fin <;> simp only [EM] at hem
    exact done .ret trivial hk
  | exit id =>
    cases fin <;> simp only [EM] at hem
    subst hem
    exact done (.exit id) rfl hk
  | goto l => cases fin <;> simp only [EM] at hem
  | panic ch => cases fin <;> simp only [EM] at hem
  | outgrown => cases fin <;> simp only [EM] at hem

theorem lfOk_no (P : Program) (l : List Code) : LfOk P noL l := fun _ _ _ _ h => by cases h

theorem cfOk_no (P : Program) : CfOk P noF := fun _ _ _ _ _ _ _ h => by cases h

theorem cfOk_add {P : Program} {cf : CallF} (h : CfOk P cf) {g : FuncId} {spec : List Value → St → List (Bool × Value × St)}
    (hs : ∀ args s r s',s.lo = s.h.length → s.wr = [] → firstT (spec args s) = some (r,s') → CallsOK P g args s r s') : CfOk P (addF cf g spec) := by
  intro g' args s r s' h1 h2 h3
  unfold addF at h3
  cases hb : Nat.beq g' g with
  | true =>
    rw [hb] at h3
    have e := beq_true hb
    subst e
    exact hs args s r s' h1 h2 h3
  | false =>
    rw [hb] at h3
    exact h g' args s r s' h1 h2 h3

theorem cond_app {α β : Type} (f : α → β) (c : Bool) {x y : β} {a b : α} (hx : x = f a) (hy : y = f b) : cond c x y = f (cond c a b) := by
  subst hx hy
  cases c <;> rfl

def st0 : St := ⟨[],0,[]⟩
end Go.Ab
