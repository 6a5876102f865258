/- Code, functions. -/
import Derived.Test.YtmknfenjnladeaaA15
namespace Go.Ab
open Go.RowKit (Below)

section
variable {P : Program} {ext : FuncId → Option Ext} {cf : CallF}

theorem RunI.undrew {P : Program} {B : Bnd P} {ι ι' : Nat → Info} {D : Nat → Prop} {s s' : St} {w w' : World} (h : RunI B ι ι' D s s' w.drew w') : RunI B ι ι' D s s' w w' :=
  ⟨h.agree,h.rel,⟨h.frm.os,h.frm.tape,h.frm.output,h.frm.size,h.frm.block⟩,h.prov,h.len,h.lo,h.tch⟩

theorem region_sound (hcf : CfOk P cf) (hext : ExtOk P ext) (hm : P.follows .mixedOrders = true) {id : Nat} {ops : Array Oper} {draw : Bool} {α : Type} {k : List Value → St → Option α} {fr : List Value} {s : St} {r : α}
    (h : evRegion P ext cf ops.toList draw k fr s = some r) {B : Bnd P} {ι : Nat → Info} {D : Nat → Prop} {a : Act} {w : World} (H : WRel B ι D s.h w) (hD : ∀ k,D k → k < s.h.length) (hF : FRel ι D fr a) :
    (Code.region id ops draw).wp P (fun e a' w' => e = .normal ∧ ∃ ι' fr' s',RunI B ι ι' D s s' w w' ∧ FRel ι' (DomU D s.h.length s'.h.length) fr' a' ∧ k fr' s' = some r) a w := by
  unfold evRegion at h
  obtain ⟨kss,fr2,s2,htr,hk⟩ := evOps_trace h
  simp only [List.append_nil,List.reverse_reverse] at hk
  cases draw with
  | false =>
    simp only [Bool.not_false,Bool.true_or,cond_true] at hk
    refine wp_region ?_
    have := ops_sound (Q := fun e a' w' => e = .normal ∧ ∃ ι' fr' s',RunI B ι ι' D s s' w w' ∧ FRel ι' (DomU D s.h.length s'.h.length) fr' a' ∧ k fr' s' = some r) hcf hext htr [] rfl H hD hF
      (fun ι' a' w' I hF' => ⟨rfl,ι',fr2,s2,I,hF',hk⟩)
    simpa [List.range_eq_range'] using this
  | true =>
    cases ho : orderOk ops.toList (kss.map (·.1)) with
    | false => rw [ho] at hk; cases hk
    | true =>
      rw [ho] at hk
      simp only [Bool.or_true,cond_true] at hk
      obtain ⟨Fr,S,V,K,hd,e1,e2,e3,e4,e5⟩ := data_of_tr htr
      subst e1 e2 e3 e4
      have hok := ok_of_order e5 ho
      have H' : WRel B ι D (S 0).h w.drew := H.of_below ((Below.refl _ _).drew)
      refine wp_region_any hm ?_
      have := any_sound (Q := fun e a' w' => e = .normal ∧ ∃ ι' fr' s',RunI B ι ι' D (S 0) s' w w' ∧ FRel ι' (DomU D (S 0).h.length s'.h.length) fr' a' ∧ k fr' s' = some r) (w0 := w.drew) hcf hext hd hok hD
        (fun ι' a' w' I hF' => ⟨rfl,ι',_,_,I.undrew,hF',hk⟩) ops.size (Array.replicate ops.size false) a w.drew (by simp) ?_ ?_ ?_
      · simpa using this
      · have : ∀ n,n ≤ ops.size → (List.range n).countP (fun i => !(Array.replicate ops.size false).getD i true) = n := by
          intro n hn
          induction n with
          | zero => rfl
          | succ n ih =>
            rw [List.range_succ,List.countP_append,ih (by omega)]
            simp [Array.getD,show n < ops.size by omega]
        simpa using this ops.size (Nat.le_refl _)
      · intro j o e _ hj
        simp [Array.getD_eq_getD_getElem?,Array.getElem?_replicate] at hj
        split at hj <;> simp at hj
      · obtain ⟨H2,ι',I⟩ := inv_start hd hD H' hF
        refine ⟨H2,ι',?_⟩
        have : (fun j => (Array.replicate ops.size false).getD j false = true) = fun _ => False := by
          funext j
          apply propext
          constructor
          · intro hj
            simp [Array.getD_eq_getD_getElem?,Array.getElem?_replicate] at hj
            split at hj <;> simp at hj
          · exact False.elim
        rw [this]; exact I

def EM : Exit → Fin' → Prop
  | .normal,.norm => True
  | .ret,.ret => True
  | .exit id,.exit id' => id = id'
  | _,_ => False

def CPost {α : Type} {P : Program} (B : Bnd P) (ι : Nat → Info) (D : Nat → Prop) (s : St) (w : World) (k : Kont α) (r : α) : Exit → Act → World → Prop := fun e a' w' =>
  ∃ fin ι' fr' s',EM e fin ∧ RunI B ι ι' D s s' w w' ∧ FRel ι' (DomU D s.h.length s'.h.length) fr' a' ∧ k fin fr' s' = some r

theorem CPost.trans {α : Type} {P : Program} {B : Bnd P} {ι ι1 : Nat → Info} {D : Nat → Prop} {s s1 : St} {w w1 : World} {k : Kont α} {r : α} {e : Exit} {a : Act} {w' : World} (I : RunI B ι ι1 D s s1 w w1)
    (h : CPost B ι1 (DomU D s.h.length s1.h.length) s1 w1 k r e a w') : CPost B ι D s w k r e a w' := by
  obtain ⟨fin,ι',fr',s',h1,h2,h3,h4⟩ := h
  rw [DomU_trans I.len h2.len] at h3
  exact ⟨fin,ι',fr',s',h1,I.trans h2,h3,h4⟩

theorem keepFr_rel {ι : Nat → Info} {D : Nat → Prop} (keep : List Nat) {fr : List Value} {a : Act} (h : FRel ι D fr a) : FRel ι D (keepFr keep fr) a := by
  refine ⟨?_,h.2⟩
  refine L2.of_get (by unfold keepFr; simp [h.1.length]) ?_
  intro i v v' hv hv'
  unfold keepFr at hv
  rw [List.getElem?_map,List.getElem?_zipIdx] at hv
  cases hf : fr[i]? with
  | none => rw [hf] at hv; cases hv
  | some u =>
    rw [hf] at hv
    simp only [Option.map_some,Nat.zero_add,Option.some.injEq] at hv
    subst hv
    obtain ⟨b,hb,hr⟩ := h.1.get i u hf
    rw [hv'] at hb; cases hb
    cases keep.contains i with
    | true => exact hr
    | false => trivial

def LoopIn (P : Program) (c : Code) (Q : Exit → Act → World → Prop) (a : Act) (w : World) : Prop :=
  ∀ b k cs,∃ e a' w',Q e a' w' ∧ Arrives P (lone (b.at a (.code c :: .inLoop c :: k)) cs w) b k cs e a' w'
theorem LoopIn.step {P : Program} {c : Code} {Q : Exit → Act → World → Prop} {a : Act} {w : World} (h : c.wp P (Exit.then (LoopIn P c Q) Q) a w) : LoopIn P c Q a w := by
  intro b k cs
  obtain ⟨e,a₁,w₁,hq,harr⟩ := h b (.inLoop c :: k) cs
  cases e with
  | normal =>
    obtain ⟨e₂,a₂,w₂,hq₂,harr₂⟩ := hq b k cs
    exact ⟨e₂,a₂,w₂,hq₂,.of_steps (Steps.trans harr (.one step_inLoop)) harr₂⟩
  | exit id => exact ⟨_,a₁,w₁,hq,.pass (x := .inLoop c) rfl (fun _ _ => .inl (by simp)) harr⟩
  | goto l => exact ⟨_,a₁,w₁,hq,.pass (x := .inLoop c) rfl (fun _ _ => .inl (by simp)) harr⟩
  | ret => exact ⟨_,a₁,w₁,hq,.pass (x := .inLoop c) rfl (fun _ _ => .inl (by simp)) harr⟩
  | panic ch => exact ⟨_,a₁,w₁,hq,.pass (x := .inLoop c) rfl (fun _ _ => .inl (by simp)) harr⟩
  | outgrown => exact ⟨_,a₁,w₁,hq,.pass (x := .inLoop c) rfl (fun _ _ => .inl (by simp)) harr⟩
theorem LoopIn.wp {P : Program} {c : Code} {Q : Exit → Act → World → Prop} {a : Act} {w : World} (h : LoopIn P c Q a w) : (Code.loop c).wp P Q a w := by
  intro b k cs
  obtain ⟨e,a',w',hq,harr⟩ := h b k cs
  exact ⟨e,a',w',hq,.of_steps (.one step_loop) harr⟩
theorem LoopIn.mono {P : Program} {c : Code} {Q Q' : Exit → Act → World → Prop} {a : Act} {w : World} (h : LoopIn P c Q a w) (hQ : ∀ e a w,Q e a w → Q' e a w) : LoopIn P c Q' a w := by
  intro b k cs
  obtain ⟨e,a',w',hq,harr⟩ := h b k cs
  exact ⟨e,a',w',hQ _ _ _ hq,harr⟩

def LoopOK (P : Program) (body : Code) (fr : List Value) (s : St) (x : Fin' × List Value × St) : Prop :=
  ∀ (B : Bnd P) ι D a w,WRel B ι D s.h w → (∀ k,D k → k < s.h.length) → FRel ι D fr a →
    LoopIn P body (fun e a' w' => ∃ ι',EM e x.1 ∧ RunI B ι ι' D s x.2.2 w w' ∧ FRel ι' (DomU D s.h.length x.2.2.h.length) x.2.1 a') a w
def SumOk (P : Program) (body : Code) (sum : Sum1) : Prop := ∀ fr s x,s.lo = s.h.length → s.wr = [] → firstT (sum fr s) = some x → LoopOK P body fr s x
def loopsOf : Code → List Code
  | .seq a b => loopsOf a ++ loopsOf b
  | .cond _ t e => loopsOf t ++ loopsOf e
  | .block _ b => loopsOf b
  | .loop b => b :: loopsOf b
  | _ => []
def LfOk (P : Program) (lf : LoopT) (l : List Code) : Prop := ∀ body ∈ l,∀ keep sum,lf (lid body) = some (keep,sum) → SumOk P body sum
theorem LfOk.mono {P : Program} {lf : LoopT} {l l' : List Code} (h : LfOk P lf l) (hs : ∀ b ∈ l',b ∈ l) : LfOk P lf l' := fun b hb => h b (hs b hb)

theorem L2_set {α β : Type} {R : α → β → Prop} {l : List α} {l' : List β} (h : L2 R l l') (i : Nat) {x : α} (hx : ∀ b,l'[i]? = some b → R x b) : L2 R (l.set i x) l' := by
  refine L2.of_get (by simp [h.length]) fun j a b ha hb => ?_
  by_cases e : i = j
  · subst e
    have hl : i < l.length := by have := (List.getElem?_eq_some_iff.1 ha).1; simpa using this
    rw [List.getElem?_set_self hl] at ha
    cases ha
    exact hx b hb
  · rw [List.getElem?_set_ne e] at ha
    obtain ⟨b',h1,h2⟩ := h.get j a ha
    rw [hb] at h1; cases h1
    exact h2

theorem normA_in {fr fr1 : List Value} {s s1 : St} {i : Nat} {b : Bool} {P : Program} {B : Bnd P} {ι : Nat → Info} {D : Nat → Prop} {a : Act} {w : World} (h : normA fr s i = (b,fr1,s1)) (hb : b = true)
    (H : WRel B ι D s.h w) (hD : ∀ k,D k → k < s.h.length) (hF : FRel ι D fr a) : ∃ ι1,RunI B ι ι1 D s s1 w w ∧ FRel ι1 (DomU D s.h.length s1.h.length) fr1 a := by
  have same : fr1 = fr → s1 = s → ∃ ι1,RunI B ι ι1 D s s1 w w ∧ FRel ι1 (DomU D s.h.length s1.h.length) fr1 a := by
    rintro rfl rfl
    exact ⟨ι,RunI.refl H,by rw [DomU_self]; exact hF⟩
  unfold normA at h
  split at h
  · rename_i ad n c0 hfr
    split at h
    · rename_i c hs hbk
      split at h
      · rename_i c' hp
        simp only [Prod.mk.injEq] at h
        obtain ⟨rfl,rfl,rfl⟩ := h
        simp only [Bool.and_eq_true] at hb
        have e0 := beq_true hb.1
        have e1 := Nat.le_of_ble_eq_true hb.2
        obtain ⟨v',hv',hr⟩ := hF.1.get i _ hfr
        obtain ⟨a',cap,rfl,⟨hk,j,hj,rfl⟩,g1,g2,g3,g4⟩ := hr
        rw [hs] at hj
        cases hj
        rw [e0] at hv' g4
        obtain ⟨p1,p2,p3,p4,p5⟩ := Con.part_spec hp (by omega)
        have hpost := grow_rel (n := 0) (news := []) (v' := .slice (some ((ι ad.block).cell 0 0)) n cap) (room := cap) H hD hk hbk e1 p1 p2 (fun i j hi => by rw [p5 i j hi,Nat.zero_add]) (fun i j v hv => by
          have := (Con.at_lt hv).1
          omega) (by simp) (by simp) (by omega) (by omega) (.inl rfl)
        rw [World.setCells] at hpost
        obtain ⟨ι1,P1⟩ := hpost
        refine ⟨ι1,P1.toRunI,?_,hF.2⟩
        refine L2_set (hF.1.imp fun _ _ hv => VRel.mono (fun k hk => ⟨.inl hk,P1.agree k (hD k hk)⟩) hv) i fun b hb => ?_
        rw [hv'] at hb; cases hb
        exact P1.val
      · cases h; exact same rfl rfl
    · cases h; exact same rfl rfl
  · cases h; exact same rfl rfl

theorem normAll_in {α : Type} {k : List Value → St → Option α} {r : α} {P : Program} {B : Bnd P} {a : Act} {w : World} : ∀ {l : List Nat} {fr : List Value} {s : St} {ι : Nat → Info} {D : Nat → Prop},normAll l fr s k = some r →
    WRel B ι D s.h w → (∀ k,D k → k < s.h.length) → FRel ι D fr a → ∃ ι1 fr1 s1,RunI B ι ι1 D s s1 w w ∧ FRel ι1 (DomU D s.h.length s1.h.length) fr1 a ∧ k fr1 s1 = some r := by
  intro l
  induction l with
  | nil =>
    intro fr s ι D h H hD hF
    exact ⟨ι,fr,s,RunI.refl H,by rw [DomU_self]; exact hF,h⟩
  | cons i l ih =>
    intro fr s ι D h H hD hF
    unfold normAll at h
    split at h
    rename_i b fr1 s1 hn
    cases b with
    | false => cases h
    | true =>
      obtain ⟨ι1,I1,hF1⟩ := normA_in hn rfl H hD hF
      obtain ⟨ι2,fr2,s2,I2,hF2,hk⟩ := ih h I1.rel (DomU_lt hD I1.len) hF1
      rw [DomU_trans I1.len I2.len] at hF2
      exact ⟨ι2,fr2,s2,I1.trans I2,hF2,hk⟩

theorem loopCall_in {α : Type} {P : Program} {body : Code} {keep : Keep} {sum : Sum1} {k : Kont α} {fr : List Value} {s : St} {r : α} {B : Bnd P} {ι : Nat → Info} {D : Nat → Prop} {a : Act} {w : World} (hs : SumOk P body sum) (h : loopCall keep sum k fr s = some r)
    (H : WRel B ι D s.h w) (hD : ∀ k,D k → k < s.h.length) (hF : FRel ι D fr a) : LoopIn P body (CPost B ι D s w k r) a w := by
  unfold loopCall at h
  obtain ⟨ι0,fr0,s0,I0,hF0,h⟩ := normAll_in h H hD (keepFr_rel keep.1 hF)
  have H0 := I0.rel
  have hD0 := DomU_lt hD I0.len
  refine LoopIn.mono ?_ fun e a' w' hc => CPost.trans I0 hc
  clear H hF
  simp only at h
  generalize hEdef : reach s0.h 100 (fr0.flatMap addrsV) [] = E at h
  cases hE : nodupB E with
  | false => rw [hE] at h; cases h
  | true =>
    rw [hE] at h
    simp only [cond_true] at h
    obtain ⟨x,hx,hk⟩ := alts_some h
    have hlen0 : (subH E s0.h).length = E.length := by simp [subH]
    have hsubD : ∀ k,subD E (DomU D s.h.length s0.h.length) k → k < (subH E s0.h).length := fun k hk => by rw [hlen0]; exact hk.1
    have hF1 : FRel (subι E ι0) (subD E (DomU D s.h.length s0.h.length)) (fr0.map (relocV (inv E))) a := ⟨relocVs_rel sub_ren hF0.1,hF0.2⟩
    refine (hs _ ⟨subH E s0.h,E.length,[]⟩ x hlen0.symm rfl hx B (subι E ι0) (subD E (DomU D s.h.length s0.h.length)) a w (sub_rel H0 hD0 hE) hsubD hF1).mono ?_
    rintro e a' w' ⟨ι1,hem,I,hF2⟩
    obtain ⟨ι2,I2,hren⟩ := back_run H0 hD0 hE I
    simp only [hlen0] at hF2
    exact ⟨x.1,ι2,_,back s0 E x.2.2,hem,I2,⟨relocVs_rel hren hF2.1,hF2.2⟩,hk⟩

theorem code_sound (hcf : CfOk P cf) (hext : ExtOk P ext) (hm : P.follows .mixedOrders = true) {lf : LoopT} (N : Nat) {B : Bnd P} {α : Type} : ∀ (c : Code),LfOk P lf (loopsOf c) → ∀ (k : Kont α) (fr : List Value) (s : St) (r : α),evC P ext cf lf N c k fr s = some r →
    ∀ (ι : Nat → Info) (D : Nat → Prop) (a : Act) (w : World),WRel B ι D s.h w → (∀ k,D k → k < s.h.length) → FRel ι D fr a → c.wp P (CPost B ι D s w k r) a w := by
  intro c
  induction c with
  | skip =>
    intro hl k fr s r h ι D a w H hD hF
    exact wp_skip ⟨.norm,ι,fr,s,trivial,RunI.refl H,by rw [DomU_self]; exact hF,h⟩
  | label l =>
    intro hl k fr s r h ι D a w H hD hF
    exact wp_label ⟨.norm,ι,fr,s,trivial,RunI.refl H,by rw [DomU_self]; exact hF,h⟩
  | exit id =>
    intro hl k fr s r h ι D a w H hD hF
    exact wp_exit ⟨.exit id,ι,fr,s,rfl,RunI.refl H,by rw [DomU_self]; exact hF,h⟩
  | ret =>
    intro hl k fr s r h ι D a w H hD hF
    exact wp_ret ⟨.ret,ι,fr,s,trivial,RunI.refl H,by rw [DomU_self]; exact hF,h⟩
  | region id ops draw =>
    intro hl k fr s r h ι D a w H hD hF
    refine wp_mono (region_sound hcf hext hm (id := id) h H hD hF) ?_
    rintro e a' w' ⟨rfl,ι',fr',s',I,hF',hk⟩
    exact ⟨.norm,ι',fr',s',trivial,I,hF',hk⟩
  | seq x y ihx ihy =>
    intro hl k fr s r h ι D a w H hD hF
    refine wp_seq (wp_mono (ihx (hl.mono fun b hb => by simp [loopsOf,hb]) _ fr s r h ι D a w H hD hF) ?_)
    rintro e a' w' ⟨fin,ι',fr',s',hem,I,hF',hk⟩
    cases e with
    | normal =>
      cases fin <;> simp only [EM] at hem
      simp only at hk
      exact wp_mono (ihy (hl.mono fun b hb => by simp [loopsOf,hb]) k fr' s' r hk ι' _ a' w' I.rel (DomU_lt hD I.len) hF') (fun e a2 w2 h2 => h2.trans I)
    | ret =>
      cases fin <;> simp only [EM] at hem
      exact ⟨.ret,ι',fr',s',trivial,I,hF',hk⟩
    | exit id =>
      cases fin <;> simp only [EM] at hem
      subst hem
      exact ⟨.exit id,ι',fr',s',rfl,I,hF',hk⟩
    | goto l => cases fin <;> simp only [EM] at hem
    | panic ch => cases fin <;> simp only [EM] at hem
    | outgrown => cases fin <;> simp only [EM] at hem
  | cond c t e iht ihe =>
    intro hl k fr s r h ι D a w H hD hF
    simp only [evC] at h
    split at h
    · rename_i b hc
      have hc' : a.eval c = .bool b := by have := eo_rel hF c; rw [hc] at this; exact this
      cases b with
      | true => exact wp_cond_true hc' (iht (hl.mono fun b hb => by simp [loopsOf,hb]) k fr s r h ι D a w H hD hF)
      | false => exact wp_cond_false hc' (ihe (hl.mono fun b hb => by simp [loopsOf,hb]) k fr s r h ι D a w H hD hF)
    · cases h
  | block id body ih =>
    intro hl k fr s r h ι D a w H hD hF
    refine wp_block (wp_mono (ih (hl.mono fun b hb => by simpa [loopsOf] using hb) _ fr s r h ι D a w H hD hF) ?_)
    rintro e a' w' ⟨fin,ι',fr',s',hem,I,hF',hk⟩
    cases e with
    | normal =>
      cases fin <;> simp only [EM] at hem
      exact ⟨.norm,ι',fr',s',trivial,I,hF',hk⟩
    | ret =>
      cases fin <;> simp only [EM] at hem
      exact ⟨.ret,ι',fr',s',trivial,I,hF',hk⟩
    | exit id' =>
      cases fin <;> simp only [EM] at hem
      subst hem
      simp only at hk
      simp only [Exit.inBlock]
      split at hk
      · rename_i e; rw [if_pos e]; exact ⟨.norm,ι',fr',s',trivial,I,hF',hk⟩
      · rename_i e; rw [if_neg e]; exact ⟨.exit id',ι',fr',s',rfl,I,hF',hk⟩
    | goto l => cases fin <;> simp only [EM] at hem
    | panic ch => cases fin <;> simp only [EM] at hem
    | outgrown => cases fin <;> simp only [EM] at hem
  | loop body ih =>
    intro hl k fr s r h ι D a w H hD hF
    simp only [evC] at h
    split at h
    · rename_i keep sum hlf
      exact (loopCall_in (hl body (by simp [loopsOf]) keep sum hlf) h H hD hF).wp
    rename_i hlf
    refine wp_loop_rounds N ?_
    have key : ∀ n fr s,loopC (evC P ext cf lf N body) k n fr s = some r → ∀ (ι : Nat → Info) (D : Nat → Prop) (a : Act) (w : World),WRel B ι D s.h w → (∀ k,D k → k < s.h.length) → FRel ι D fr a →
        Code.rounds P body (CPost B ι D s w k r) n a w := by
      intro n
      induction n with
      | zero => intro fr s h; cases h
      | succ n ihn =>
        intro fr s h ι D a w H hD hF
        rw [rounds_succ]
        refine wp_mono (ih (hl.mono fun b hb => by simp [loopsOf,hb]) _ fr s r h ι D a w H hD hF) ?_
        rintro e a' w' ⟨fin,ι',fr',s',hem,I,hF',hk⟩
        cases e with
        | normal =>
          cases fin <;> simp only [EM] at hem
          simp only at hk
          have := ihn fr' s' hk ι' _ a' w' I.rel (DomU_lt hD I.len) hF'
          -- what is asked of the rest,seen from here
          have mono : ∀ m (Q Q' : Exit → Act → World → Prop),(∀ e a w,Q e a w → Q' e a w) → ∀ a w,Code.rounds P body Q m a w → Code.rounds P body Q' m a w := by
            intro m Q Q' hQ
            induction m with
            | zero => exact fun _ _ h => h
            | succ m ihm =>
              intro a w hr
              rw [rounds_succ] at hr ⊢
              refine wp_mono hr ?_
              intro e a w h1
              cases e <;> simp only [Exit.then] at h1 ⊢ <;> first | exact ihm _ _ h1 | exact hQ _ _ _ h1
          exact mono n _ _ (fun e a2 w2 h2 => h2.trans I) _ _ this
        | ret =>
          cases fin <;> simp only [EM] at hem
          exact ⟨.ret,ι',fr',s',trivial,I,hF',hk⟩
        | exit id =>
          cases fin <;> simp only [EM] at hem
          subst hem
          exact ⟨.exit id,ι',fr',s',rfl,I,hF',hk⟩
        | goto l => cases fin <;> simp only [EM] at hem
        | panic ch => cases fin <;> simp only [EM] at hem
        | outgrown => cases fin <;> simp only [EM] at hem
    exact key N fr s h ι D a w H hD hF
  | rangeFunc => intro hl k fr s r h; cases h
  | scope => intro hl k fr s r h; cases h
  | goto => intro hl k fr s r h; cases h
  | refuse => intro hl k fr s r h; cases h

def resOne (a : Act) : ResultVar → Sem Value
  | .tmp t => pure (a.tmps.getD t undef)
  | .cell c t => do loadVar t (← asAddr (a.tmps.getD c undef))

theorem res_sound {B : Bnd P} {ι : Nat → Info} {D : Nat → Prop} {s : St} {w : World} {fr : List Value} {a : Act} (H : WRel B ι D s.h w) (hF : FRel ι D fr a) {r : Value × St} : ∀ {l : List ResultVar} {k : List Value → Res},evRes P fr s l k = some r →
    ∃ vs vs' : List Value,k vs = some r ∧ L2 (VRel ι D) vs vs' ∧ (l.mapM (resOne a)).run P w = Result.ok vs' w
  | [],k,h => ⟨[],[],h,trivial,by simp⟩
  | .tmp t :: l,k,h => by
    simp only [evRes] at h
    obtain ⟨vs,vs',h1,h2,h3⟩ := res_sound H hF h
    refine ⟨fr.getD t undef :: vs,a.tmps.getD t undef :: vs',h1,⟨eo_rel hF (.tmp t),h2⟩,?_⟩
    simp only [List.mapM_cons,Sem.run_bind,resOne,Sem.run_pure,Result.andThen_ok]
    rw [h3]; rfl
  | .cell c t :: l,k,h => by
    simp only [evRes] at h
    obtain ⟨v,g1,g2⟩ := alts_some h
    obtain ⟨vs,vs',h1,h2,h3⟩ := res_sound H hF g2
    obtain ⟨v',l1,l2⟩ := load_sound (P := P) H (eo_rel hF (.tmp c)) g1
    refine ⟨v :: vs,v' :: vs',h1,⟨l2.toV,h2⟩,?_⟩
    have hload : (resOne a (.cell c t)).run P w = .ok v' w := by
      unfold resOne
      have hx : (Instr.loadAt t (a.tmps.getD c undef)).run P w = .ok v' w := l1
      unfold Instr.loadAt at hx
      simp only [Sem.run_bind] at hx ⊢
      cases hv : a.tmps.getD c undef with
      | pointer p =>
        cases p with
        | some p => rw [hv] at hx; exact hx
        | none => rw [hv] at hx; simp [Instr.sureAddr,stuck,Sem.run,Result.andThen] at hx
      | _ => rw [hv] at hx; simp [Instr.sureAddr,stuck,Sem.run,Result.andThen] at hx
    simp only [List.mapM_cons,Sem.run_bind,hload,Result.andThen_ok]
    rw [h3]; rfl

theorem reach_pre (h : List Blk) : ∀ (n : Nat) (todo seen : List Nat),∃ t,reach h n todo seen = seen ++ t
  | 0,_,seen => ⟨[],by simp [reach]⟩
  | _ + 1,[],seen => ⟨[],by simp [reach]⟩
  | n + 1,k :: todo,seen => by
    simp only [reach]
    cases seen.contains k with
    | true => exact reach_pre h n todo seen
    | false =>
      obtain ⟨t,ht⟩ := reach_pre h n (todo ++ addrsC ((h.getD k deadB).con)) (seen ++ [k])
      exact ⟨k :: t,by simp only [cond_false]; rw [ht]; simp⟩

theorem fn_sound (hcf : CfOk P cf) (hext : ExtOk P ext) (hm : P.follows .mixedOrders = true) {lf : LoopT} {N : Nat} {f : FuncId} {fn : Func} (hf : P.funcs[f]? = some fn) {args : List Value} {s s2 : St} {r : Value}
    (hlo : s.lo = s.h.length) (htt : s.wr = []) (hl : ∀ c,fn.body = some c → LfOk P lf (loopsOf c)) (h : evFn P ext cf lf N fn args s = some (r,s2)) : CallsOK P f args s r s2 := by
  unfold evFn at h
  split at h
  · rename_i c hb
    split at h
    · cases h
    · rename_i hname
      refine ⟨⟨fn,hf,by rw [hb]; rfl,by simpa using hname⟩,?_⟩
      intro B ι D w args' hD H ha
      refine calls_of_wp hf hb ?_
      have hF : FRel ι D (args ++ List.replicate (fn.ntmps - args.length) undef) { tmps := args' ++ Array.replicate (fn.ntmps - args'.size) undef,defers := [] } := by
        refine ⟨?_,rfl⟩
        have hl := ha.length
        simp only [Array.toList_append,Array.toList_replicate]
        rw [show args'.size = args.length by simpa using hl.symm]
        exact ha.append (L2.replicate undef_rel _)
      refine wp_mono (code_sound hcf hext hm N c (hl c hb) _ _ s _ h ι D _ w H hD hF) ?_
      rintro e a' w' ⟨fin,ι',fr',s',hem,I,hF',hk⟩
      have main : evRes P fr' s' fn.results.toList (fun vs => tidy (resOf s' vs)) = some (r,s2) → a'.defers = [] ∧ ∃ v,(results fn a'.tmps).run P w' = .ok v w' ∧ ∃ v',Ending.returned v = .returned v' ∧ Post B ι D s s2 w r v' w' := by
        intro hk
        refine ⟨hF'.2,?_⟩
        obtain ⟨vs,vs',h1,h2,h3⟩ := res_sound (P := P) I.rel hF' hk
        have hres : (results fn a'.tmps).run P w' = .ok (if h : vs'.toArray.size = 1 then vs'.toArray[0] else .tuple vs'.toArray) w' := by
          have e : results fn a'.tmps = (do let vs ← fn.results.mapM (resOne a'); pure (if h : vs.size = 1 then vs[0] else .tuple vs)) := by
            unfold results
            congr 1
          rw [e]
          simp only [Sem.run_bind]
          rw [Array.mapM_eq_mapM_toList]
          simp only [Sem.run_map,h3,Result.andThen_ok]
          rfl
        refine ⟨_,hres,_,rfl,?_⟩
        -- the result
        obtain ⟨r0,hr0,hv0⟩ : ∃ r0,resOf s' vs = some (r0,s') ∧ VRel ι' (DomU D s.h.length s'.h.length) r0 (if h : vs'.toArray.size = 1 then vs'.toArray[0] else .tuple vs'.toArray) := by
          match vs,vs',h2 with
          | [v],[v'],h2 => exact ⟨v,rfl,h2.1⟩
          | [],[],h2 => exact ⟨.tuple #[],rfl,⟨#[],rfl,trivial⟩⟩
          | x :: y :: l,x' :: y' :: l',h2 =>
            cases ht : (x :: y :: l).any isTup with
            | true =>
              have : resOf s' (x :: y :: l) = none := by unfold resOf; simp only; rw [if_pos ht]
              rw [this] at h1; cases h1
            | false =>
              refine ⟨.tuple (x :: y :: l).toArray,by unfold resOf; simp only; rw [if_neg (by rw [ht]; exact Bool.false_ne_true)],?_⟩
              rw [dif_neg (by simp)]
              refine ⟨_,rfl,?_⟩
              have key : ∀ {m m' : List Value},L2 (VRel ι' (DomU D s.h.length s'.h.length)) m m' → m.any isTup = false → L2 (VRel1 ι' (DomU D s.h.length s'.h.length)) m m' := by
                intro m
                induction m with
                | nil => intro m' hm2 _; cases m' with
                  | nil => trivial
                  | cons => exact hm2.elim
                | cons v m ih => intro m' hm2 hn; cases m' with
                  | nil => exact hm2.elim
                  | cons v' m' =>
                    simp only [List.any_cons,Bool.or_eq_false_iff] at hn
                    refine ⟨?_,ih hm2.2 hn.2⟩
                    have h0 := hm2.1
                    have hn1 := hn.1
                    cases v <;> first | exact h0 | (cases hn1)
              exact key h2 ht
        rw [hr0] at h1
        simp only [tidy] at h1
        generalize hE : reach s'.h 100 (addrsV r0 ++ (s'.h.take s'.lo).flatMap fun b => addrsC b.con) (List.range s'.lo) = E at h1
        cases hc : nodupB E && Nat.ble s'.lo s'.h.length && E.all fun k => Nat.blt k s'.h.length with
        | false => rw [hc] at h1; cases h1
        | true =>
          rw [hc] at h1
          cases h1
          simp only [Bool.and_eq_true] at hc
          obtain ⟨⟨hn,_⟩,hall⟩ := hc
          have hlo' : s'.lo = s.h.length := I.lo.trans hlo
          obtain ⟨t,ht⟩ := reach_pre s'.h 100 (addrsV r0 ++ (s'.h.take s'.lo).flatMap fun b => addrsC b.con) (List.range s'.lo)
          rw [hE,hlo'] at ht
          have hElen : s.h.length ≤ E.length := by rw [ht]; simp
          have hEid : ∀ k,k < s.h.length → E.getD k 0 = k := by
            intro k hk
            rw [ht,List.getD_eq_getElem?_getD,List.getElem?_append_left (by simpa using hk)]
            simp [hk]
          have hEge : ∀ k,s.h.length ≤ k → k < E.length → s.h.length ≤ E.getD k 0 := by
            intro k h1 h2
            apply Nat.le_of_not_lt
            intro hlt
            have e1 : E[k]? = some (E.getD k 0) := by rw [List.getElem?_eq_getElem h2]; simp [List.getD,h2]
            have e2 : E[E.getD k 0]? = some (E.getD k 0) := by
              have h3 := hEid _ hlt
              have h4 : E.getD k 0 < E.length := by omega
              rw [List.getElem?_eq_getElem h4]
              rw [List.getD_eq_getElem?_getD,List.getElem?_eq_getElem h4,Option.getD_some] at h3
              rw [h3]
            have := nodupB_spec hn _ _ _ e1 e2
            omega
          have hElt : ∀ k,k < E.length → E.getD k 0 < s'.h.length := by
            intro k hk
            rw [List.all_eq_true] at hall
            have := hall (E.getD k 0) (by simp [List.getD,hk])
            exact blt_true this
          have hdom : subD E (DomU D s.h.length s'.h.length) = DomU D s.h.length E.length := by
            funext k; apply propext
            constructor
            · rintro ⟨h1,h2⟩
              by_cases hk : k < s.h.length
              · rw [hEid k hk] at h2
                rcases h2 with h2 | h2
                · exact .inl h2
                · omega
              · exact .inr ⟨by omega,h1⟩
            · rintro (h1 | h1)
              · have := hD k h1
                exact ⟨by omega,.inl (by rw [hEid k this]; exact h1)⟩
              · exact ⟨h1.2,.inr ⟨hEge k h1.1 h1.2,hElt k h1.2⟩⟩
          have hlen2 : (subH E s'.h).length = E.length := by simp [subH]
          have hrel := sub_rel (s := s') I.rel (DomU_lt hD I.len) hn
          refine ⟨subι E ι',⟨fun k hk => ?_,?_,I.frm,?_,by rw [hlen2]; exact hElen,I.lo,I.tch⟩,?_⟩
          · unfold subι; rw [hEid k hk]; exact I.agree k hk
          · rw [hlen2,← hdom]; exact hrel
          · rw [hlen2]
            rintro t b htb ⟨k,c,g1,g2,g3,g4⟩
            have hklt : k < E.length := by
              rcases g1 with g1 | g1
              · have := hD k g1; omega
              · exact g1.2
            obtain ⟨b0,q1,q2⟩ := subH_get g2 (hElt k hklt)
            obtain ⟨c0,rfl,_⟩ := relocB_own q2.symm
            rw [← hdom] at g1
            refine I.prov t b htb ⟨E.getD k 0,c0,g1.2,q1,g3,?_⟩
            rw [hlo] at g4 ⊢
            by_cases hk : k < s.h.length
            · rw [hEid k hk]; exact g4
            · exact .inl (hEge k (by omega) hklt)
          · rw [hlen2,← hdom]
            exact relocV_rel sub_ren hv0
      cases e with
      | normal =>
        cases fin <;> simp only [EM] at hem
        exact main hk
      | ret =>
        cases fin <;> simp only [EM] at hem
        exact main hk
      | exit id => cases fin <;> simp only [EM] at hem; cases hk
      | goto l => cases fin <;> simp only [EM] at hem
      | panic ch => cases fin <;> simp only [EM] at hem
      | outgrown => cases fin <;> simp only [EM] at hem
  · cases h
end
end Go.Ab
