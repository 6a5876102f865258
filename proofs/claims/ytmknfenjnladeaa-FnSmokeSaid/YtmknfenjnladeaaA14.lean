/- A region whose order is drawn: the order of the text tells what any order comes to. -/
import Derived.Test.YtmknfenjnladeaaA13
namespace Go.Ab
open Go.RowKit (Below)

theorem ancs_pre : ∀ (l : List Oper) (acc : List Nat) (i : Nat),i < acc.length → (ancs l acc)[i]? = acc[i]?
  | [],_,_,_ => rfl
  | o :: l,acc,i,h => by
    rw [ancs,ancs_pre l _ i (by simp; omega),List.getElem?_append_left h]

theorem fold_bit (acc : List Nat) (i : Nat) : ∀ (es : List Edge) (m : Nat),(es.foldl (fun s e => cond (Region.binds .any e) (s ||| 2 ^ e.on ||| acc.getD e.on 0) s) m).testBit i = true →
    m.testBit i = true ∨ ∃ e ∈ es,Region.binds .any e = true ∧ (e.on = i ∨ (acc.getD e.on 0).testBit i = true)
  | [],m,h => .inl h
  | e :: es,m,h => by
    rw [List.foldl_cons] at h
    rcases fold_bit acc i es _ h with h1 | ⟨e',h1,h2⟩
    · cases hb : Region.binds .any e with
      | false => rw [hb] at h1; exact .inl h1
      | true =>
        rw [hb] at h1
        simp only [cond_true,Nat.testBit_or,Bool.or_eq_true] at h1
        rcases h1 with (h1 | h1) | h1
        · exact .inl h1
        · refine .inr ⟨e,by simp,hb,.inl ?_⟩
          rw [Nat.testBit_two_pow] at h1
          simpa using h1
        · exact .inr ⟨e,by simp,hb,.inr h1⟩
    · exact .inr ⟨e',by simp [h1],h2⟩

theorem ancs_spec : ∀ (l : List Oper) (acc : List Nat) (j i : Nat) (o : Oper),l[j]? = some o → ((ancs l acc).getD (acc.length + j) 0).testBit i = true →
    ∃ e ∈ o.after.toList,Region.binds .any e = true ∧ (e.on = i ∨ (e.on < acc.length + j ∧ ((ancs l acc).getD e.on 0).testBit i = true))
  | [],_,j,i,o,h,_ => by simp at h
  | p :: l,acc,0,i,o,h,hb => by
    simp only [List.getElem?_cons_zero,Option.some.injEq] at h
    subst h
    simp only [ancs,Nat.add_zero] at hb ⊢
    rw [List.getD_eq_getElem?_getD,ancs_pre l _ acc.length (by simp),List.getElem?_append_right (Nat.le_refl _)] at hb
    simp only [Nat.sub_self,List.getElem?_cons_zero,Option.getD_some] at hb
    rcases fold_bit acc i _ 0 hb with h1 | ⟨e,h1,h2,h3⟩
    · simp at h1
    · refine ⟨e,h1,h2,?_⟩
      rcases h3 with h3 | h3
      · exact .inl h3
      · have hlt : e.on < acc.length := by
          apply Nat.lt_of_not_le
          intro hle
          rw [List.getD_eq_getElem?_getD,List.getElem?_eq_none hle] at h3
          simp at h3
        refine .inr ⟨hlt,?_⟩
        rw [List.getD_eq_getElem?_getD,ancs_pre l _ e.on (by simp; omega),List.getElem?_append_left hlt,← List.getD_eq_getElem?_getD]
        exact h3
  | p :: l,acc,j + 1,i,o,h,hb => by
    simp only [List.getElem?_cons_succ] at h
    simp only [ancs] at hb ⊢
    have := ancs_spec l (acc ++ [p.after.toList.foldl (fun s e => cond (Region.binds .any e) (s ||| 2 ^ e.on ||| acc.getD e.on 0) s) 0]) j i o h (by
      rw [show (acc ++ [p.after.toList.foldl (fun s e => cond (Region.binds .any e) (s ||| 2 ^ e.on ||| acc.getD e.on 0) s) 0]).length + j = acc.length + (j + 1) by simp; omega]
      exact hb)
    obtain ⟨e,g1,g2,g3⟩ := this
    refine ⟨e,g1,g2,?_⟩
    rcases g3 with g3 | ⟨g3,g4⟩
    · exact .inl g3
    · exact .inr ⟨by simp at g3; omega,g4⟩

theorem anc_closed {ops : List Oper} {L : Nat → Prop} (hcl : ∀ (j : Nat) (o : Oper) (e : Edge),ops[j]? = some o → L j → e ∈ o.after.toList → Region.binds .any e = true → L e.on) :
    ∀ (j i : Nat),j < ops.length → L j → ((ancs ops []).getD j 0).testBit i = true → L i := by
  intro j
  induction j using Nat.strongRecOn with
  | _ j ih =>
    intro i hj hL hb
    obtain ⟨o,ho⟩ : ∃ o,ops[j]? = some o := ⟨ops[j],List.getElem?_eq_getElem hj⟩
    obtain ⟨e,g1,g2,g3⟩ := ancs_spec ops [] j i o ho (by simpa using hb)
    have hLe := hcl j o e ho hL g1 g2
    rcases g3 with g3 | ⟨g3,g4⟩
    · rw [← g3]; exact hLe
    · simp at g3
      exact ih e.on g3 i (by omega) hLe g4
theorem anc_ready {ops : List Oper} {L : Nat → Prop} (hcl : ∀ (j : Nat) (o : Oper) (e : Edge),ops[j]? = some o → L j → e ∈ o.after.toList → Region.binds .any e = true → L e.on) {j : Nat} {o : Oper} (ho : ops[j]? = some o)
    (hr : ∀ e,e ∈ o.after.toList → Region.binds .any e = true → L e.on) {i : Nat} (hb : ((ancs ops []).getD j 0).testBit i = true) : L i := by
  obtain ⟨e,g1,g2,g3⟩ := ancs_spec ops [] j i o ho (by simpa using hb)
  have hLe := hr e g1 g2
  rcases g3 with g3 | ⟨g3,g4⟩
  · rw [← g3]; exact hLe
  · simp at g3
    have hj := (List.getElem?_eq_some_iff.1 ho).1
    exact anc_closed hcl e.on i (by omega) hLe g4

section
variable {P : Program} {ext : FuncId → Option Ext} {cf : CallF} {ops : List Oper}

structure Data (P : Program) (ext : FuncId → Option Ext) (cf : CallF) (ops l : List Oper) (Fr : Nat → List Value) (S : Nat → St) (V : Nat → Value) (K : Nat → Ft) : Prop where
  step : ∀ i o,l[i]? = some o → Fr (i + 1) = putA (Fr i) o.dst (V i) ∧
    ((wantedB ops (Fr i) o = some false ∧ V i = undef ∧ S (i + 1) = S i ∧ K i = ftNo (S i)) ∨
     (wantedB ops (Fr i) o = some true ∧ ∃ kd,firstT (evOp P ext cf (eo (Fr i)) o.op (S i)) = some (V i,S (i + 1),kd) ∧ K i = ftOf (Fr i) o.op (S i) (S (i + 1)) kd))

theorem data_of_tr {l : List Oper} {fr fr2 : List Value} {s s2 : St} {ks : List (Ft × St)} (h : Tr P ext cf ops l fr s ks fr2 s2) :
    ∃ Fr S V K,Data P ext cf ops l Fr S V K ∧ Fr 0 = fr ∧ S 0 = s ∧ Fr l.length = fr2 ∧ S l.length = s2 ∧ ∀ i,i < l.length → (ks.map (·.1))[i]? = some (K i) := by
  induction h with
  | nil fr s => exact ⟨fun _ => fr,fun _ => s,fun _ => undef,fun _ => ftD,⟨fun i o h => by simp at h⟩,rfl,rfl,rfl,rfl,fun i h => by simp at h⟩
  | @skip o rest fr fr2 s s2 ks hw h ih =>
    obtain ⟨Fr,S,V,K,hd,h1,h2,h3,h4,h5⟩ := ih
    refine ⟨fun i => match i with | 0 => fr | i + 1 => Fr i,fun i => match i with | 0 => s | i + 1 => S i,fun i => match i with | 0 => undef | i + 1 => V i,fun i => match i with | 0 => ftNo s | i + 1 => K i,⟨?_⟩,rfl,rfl,h3,h4,?_⟩
    · intro i p hp
      cases i with
      | zero => simp at hp; subst hp; exact ⟨h1,.inl ⟨hw,rfl,h2,rfl⟩⟩
      | succ i => simp at hp; exact hd.step i p hp
    · intro i hi
      cases i with
      | zero => rfl
      | succ i => simpa using h5 i (by simpa using hi)
  | @run o rest fr fr2 s s1 s2 ks v kd hw ho h ih =>
    obtain ⟨Fr,S,V,K,hd,h1,h2,h3,h4,h5⟩ := ih
    refine ⟨fun i => match i with | 0 => fr | i + 1 => Fr i,fun i => match i with | 0 => s | i + 1 => S i,fun i => match i with | 0 => v | i + 1 => V i,fun i => match i with | 0 => ftOf fr o.op s s1 kd | i + 1 => K i,⟨?_⟩,rfl,rfl,h3,h4,?_⟩
    · intro i p hp
      cases i with
      | zero =>
        simp at hp; subst hp
        refine ⟨h1,.inr ⟨hw,kd,?_,?_⟩⟩
        · show firstT (evOp P ext cf (eo fr) o.op s) = some (v,S 0,kd); rw [h2]; exact ho
        · show ftOf fr o.op s s1 kd = ftOf fr o.op s (S 0) kd; rw [h2]
      | succ i => simp at hp; exact hd.step i p hp
    · intro i hi
      cases i with
      | zero => rfl
      | succ i => simpa using h5 i (by simpa using hi)

variable {Fr : Nat → List Value} {S : Nat → St} {V : Nat → Value} {K : Nat → Ft}

structure AbsI (S : Nat → St) (K : Nat → Ft) (i : Nat) : Prop where
  len : (S i).h.length ≤ (S (i + 1)).h.length
  lo : (S (i + 1)).lo = (S i).lo
  tch : ∀ q,q ∈ (S i).wr → q ∈ (S (i + 1)).wr
  wrW : ∀ q,q ∈ (K i).kd.W → q < (S i).lo → q ∈ (S (i + 1)).wr
  same : ∀ k,k < (S i).h.length → k ∉ (K i).kd.W → (S (i + 1)).h[k]? = (S i).h[k]?
  pure : (K i).kd = .pure → S (i + 1) = S i
  a : (K i).a = (S i).h.length
  b : (K i).b = (S (i + 1)).h.length

theorem Data.abs (hd : Data P ext cf ops ops Fr S V K) {i : Nat} (hi : i < ops.length) : AbsI S K i := by
  rcases (hd.step i _ (List.getElem?_eq_getElem hi)).2 with ⟨_,_,h2,h3⟩ | ⟨_,kd,h2,h3⟩
  · exact ⟨by rw [h2]; exact Nat.le_refl _,by rw [h2],fun q hq => by rw [h2]; exact hq,fun q hq => (by rw [h3] at hq; cases hq),fun k _ _ => by rw [h2],fun _ => h2,by rw [h3]; rfl,by rw [h3,h2]; rfl⟩
  · have A := abs_op h2
    have hk : (K i).kd = kd := by rw [h3]; rfl
    exact ⟨A.len,A.lo,A.tch,by rw [hk]; exact A.wrW,by rw [hk]; exact A.same,by rw [hk]; exact fun h => (A.pure h).1,by rw [h3]; rfl,by rw [h3]; rfl⟩

theorem Data.len (hd : Data P ext cf ops ops Fr S V K) : ∀ {i j : Nat},i ≤ j → j ≤ ops.length → (S i).h.length ≤ (S j).h.length := by
  intro i j hij
  induction hij with
  | refl => intro _; exact Nat.le_refl _
  | @step j _ ih => intro hj; exact Nat.le_trans (ih (by omega)) (hd.abs (show j < ops.length by omega)).len
theorem Data.lo (hd : Data P ext cf ops ops Fr S V K) : ∀ {j : Nat},j ≤ ops.length → (S j).lo = (S 0).lo := by
  intro j
  induction j with
  | zero => intro _; rfl
  | succ j ih => intro hj; exact ((hd.abs (show j < ops.length by omega)).lo).trans (ih (by omega))
theorem Data.tch (hd : Data P ext cf ops ops Fr S V K) : ∀ {i j : Nat},i ≤ j → j ≤ ops.length → ∀ q,q ∈ (S i).wr → q ∈ (S j).wr := by
  intro i j hij
  induction hij with
  | refl => intro _ q hq; exact hq
  | @step j _ ih => intro hj q hq; exact (hd.abs (show j < ops.length by omega)).tch q (ih (by omega) q hq)
theorem Data.quiet (hd : Data P ext cf ops ops Fr S V K) {k : Nat} : ∀ {i j : Nat},i ≤ j → j ≤ ops.length → k < (S i).h.length → (∀ q,i ≤ q → q < j → k ∉ (K q).kd.W) → (S j).h[k]? = (S i).h[k]? := by
  intro i j hij
  induction hij with
  | refl => intro _ _ _; rfl
  | @step j hij' ih =>
    intro hj hk hw
    rw [(hd.abs (show j < ops.length by omega)).same k (Nat.lt_of_lt_of_le hk (hd.len hij' (by omega))) (hw j hij' (by omega))]
    exact ih (by omega) hk (fun q h1 h2 => hw q h1 (by omega))

theorem Data.frame (hd : Data P ext cf ops ops Fr S V K) (hds : ∀ (i j : Nat) (o p : Oper) (d : Tmp),ops[i]? = some o → ops[j]? = some p → o.dst = some d → p.dst = some d → i = j) : ∀ {i : Nat},i ≤ ops.length →
    (Fr i).length = (Fr 0).length ∧ (∀ j o d,j < i → ops[j]? = some o → o.dst = some d → d < (Fr 0).length → (Fr i)[d]? = some (V j)) ∧ ∀ t,(∀ j o,j < i → ops[j]? = some o → o.dst ≠ some t) → (Fr i)[t]? = (Fr 0)[t]? := by
  intro i
  induction i with
  | zero => intro _; exact ⟨rfl,fun j o d hj => by omega,fun t _ => rfl⟩
  | succ i ih =>
    intro hi
    obtain ⟨g1,g2,g3⟩ := ih (by omega)
    have ho : ops[i]? = some ops[i] := List.getElem?_eq_getElem (by omega)
    have hs := (hd.step i _ ho).1
    rw [hs]
    cases hdst : ops[i].dst with
    | none =>
      refine ⟨g1,fun j o d hj hjo hjd hdl => ?_,fun t ht => g3 t (fun j o hj => ht j o (by omega))⟩
      by_cases e : j = i
      · subst e; rw [ho] at hjo; cases hjo; rw [hdst] at hjd; cases hjd
      · exact g2 j o d (by omega) hjo hjd hdl
    | some d0 =>
      refine ⟨by simp [putA,g1],fun j o d hj hjo hjd hdl => ?_,fun t ht => ?_⟩
      · by_cases e : j = i
        · subst e; rw [ho] at hjo; cases hjo; rw [hdst] at hjd; cases hjd
          simp only [putA]
          rw [List.getElem?_set_self (by rw [g1]; exact hdl)]
        · have hne : d0 ≠ d := fun e2 => e (hds j i o _ d hjo ho hjd (by rw [hdst,e2]))
          simp only [putA]
          rw [List.getElem?_set_ne hne]
          exact g2 j o d (by omega) hjo hjd hdl
      · have hne : d0 ≠ t := fun e2 => ht i _ (by omega) ho (by rw [hdst,e2])
        simp only [putA]
        rw [List.getElem?_set_ne hne]
        exact g3 t (fun j o hj => ht j o (by omega))
end

theorem L2.impm {α β : Type} {R T : α → β → Prop} : ∀ {l : List α} {l' : List β},(∀ a b,a ∈ l → R a b → T a b) → L2 R l l' → L2 T l l'
  | [],[],_,_ => trivial
  | a :: l,b :: l',h,hl => ⟨h a b (by simp) hl.1,L2.impm (fun a b ha => h a b (by simp [ha])) hl.2⟩
  | [],_ :: _,_,hl => hl.elim
  | _ :: _,[],_,hl => hl.elim
theorem ARel.part {ι : Nat → Info} {D D1 : Nat → Prop} {a a' : Addr} (hD : D a.block → D1 a.block) (h : ARel ι D a a') : ARel ι D1 a a' := ⟨hD h.1,h.2⟩
theorem CRel.part {ι : Nat → Info} {D D1 : Nat → Prop} {v v' : Value} (hD : ∀ k,k ∈ addrs1 v → D k → D1 k) (h : CRel ι D v v') : CRel ι D1 v v' := by
  unfold CRel at h ⊢
  split at h <;> try exact h
  · obtain ⟨a',e,ha⟩ := h
    exact ⟨a',e,ha.part (hD _ (by simp [addrs1]))⟩
  · obtain ⟨a',c',e,ha,h0⟩ := h
    exact ⟨a',c',e,ha.part (hD _ (by simp [addrs1])),h0⟩
  · obtain ⟨h1,h2⟩ := h
    exact ⟨hD _ (by simp [addrs1]) h1,h2⟩
  · obtain ⟨a',e,ha,h1⟩ := h
    exact ⟨a',e,ha.part (hD _ (by simp [addrs1])),h1⟩
  · rcases h with h | ⟨a',c',e,ha,h1⟩
    · exact .inl h
    · exact .inr ⟨a',c',e,ha.part (hD _ (by simp [addrs1])),h1⟩
  · obtain ⟨h1,y',e,h2⟩ := h
    refine ⟨h1,y',e,h2.impm fun a b ha hc => ?_⟩
    unfold CRel0 at hc ⊢
    split at hc <;> try exact hc
    · obtain ⟨a',e,hr⟩ := hc
      exact ⟨a',e,hr.part (hD _ (List.mem_flatMap.2 ⟨_,ha,by simp [addr0]⟩))⟩
theorem VRel1.part {ι : Nat → Info} {D D1 : Nat → Prop} {v v' : Value} (hD : ∀ k,k ∈ addrs2 v → D k → D1 k) (h : VRel1 ι D v v') : VRel1 ι D1 v v' := by
  cases v
  case agg cs =>
    obtain ⟨cs',e,hf⟩ := h
    exact ⟨cs',e,hf.impm (fun a b ha hc => hc.part fun k hk => hD k (List.mem_flatMap.2 ⟨a,ha,hk⟩))⟩
  all_goals (simp only [VRel1] at h ⊢; exact h.part hD)
theorem VRel.part {ι : Nat → Info} {D D1 : Nat → Prop} {v v' : Value} (hD : ∀ k,k ∈ addrsV v → D k → D1 k) (h : VRel ι D v v') : VRel ι D1 v v' := by
  cases v
  case tuple cs =>
    obtain ⟨cs',e,hf⟩ := h
    exact ⟨cs',e,hf.impm (fun a b ha hc => hc.part fun k hk => hD k (List.mem_flatMap.2 ⟨a,ha,hk⟩))⟩
  case chan => trivial
  all_goals (simp only [VRel] at h ⊢; exact h.part hD)

theorem Con.at_addrs {c : Con} {i j : Nat} {v : Value} (h : c.at i j = some v) : ∀ k,k ∈ addrs1 v → k ∈ addrsC (some c) := by
  intro k hk
  cases c with
  | cells l =>
    simp only [Con.at] at h
    split at h
    · exact List.mem_flatMap.2 ⟨v,List.mem_of_getElem? h,hk⟩
    · cases h
  | vals l =>
    simp only [Con.at] at h
    split at h
    · exact List.mem_flatMap.2 ⟨v,List.mem_of_getElem? h,hk⟩
    · cases h
  | strs l =>
    simp only [Con.at] at h
    split at h
    · rw [Option.map_eq_some_iff] at h
      obtain ⟨s,_,rfl⟩ := h
      cases hk
    · cases h
  | tab sch rows =>
    simp only [Con.at] at h
    split at h
    · rw [Option.map_eq_some_iff] at h
      obtain ⟨t,_,rfl⟩ := h
      cases t <;> cases hk
    · cases h

theorem WRel.part {P : Program} {B : Bnd P} {ι : Nat → Info} {D D1 : Nat → Prop} {h : List Blk} {w : World} (H : WRel B ι D h w) (h1 : ∀ k,D1 k → D k) (hc : ∀ k b,D1 k → h[k]? = some b → ∀ q,q ∈ addrsC b.con → D q → D1 q) : WRel B ι D1 h w := by
  refine ⟨?_,fun k c hk => H.own k c (h1 k hk),fun k c hk => H.ro k c (h1 k hk),fun k k' c c' hk hk' => H.disj k k' c c' (h1 k hk) (h1 k' hk'),H.le,fun k b c hk => H.lens k b c (h1 k hk),H.gl⟩
  intro k b c hk hb hcon
  obtain ⟨g1,g2,g3⟩ := H.both k b c (h1 k hk) hb hcon
  refine ⟨g1,g2,fun i j v hv => ?_⟩
  obtain ⟨v',q1,q2⟩ := g3 i j v hv
  exact ⟨v',q1,q2.part fun q hq => hc k b hk hb q (by rw [hcon]; exact Con.at_addrs hv q hq)⟩

def glι (ι ι1 : Nat → Info) (a b k : Nat) : Info := if a ≤ k ∧ k < b then ι1 k else ι k

theorem glue {P : Program} {B : Bnd P} {ι ι1 : Nat → Info} {D D1 : Nat → Prop} {h h' : List Blk} {s s' : St} {w w' : World} (H : WRel B ι D h w) (hDa : ∀ k,D k → ¬ (s.h.length ≤ k ∧ k < s'.h.length)) (h1 : ∀ k,D1 k → D k) (hD1 : ∀ k,D1 k → k < s.h.length)
    (hs : ∀ k,D1 k → s.h[k]? = h[k]?) (hlo : s.lo = s.h.length) (I : RunI B ι ι1 D1 s s' w w') (hn : ∀ k,DomU D1 s.h.length s'.h.length k → h'[k]? = s'.h[k]?) (ho : ∀ k,D k → ¬ D1 k → h'[k]? = h[k]?) :
    WRel B (glι ι ι1 s.h.length s'.h.length) (DomU D s.h.length s'.h.length) h' w' ∧
    (∀ b,OwnT ι D1 s.h s.lo s'.wr b → ∃ k c,D1 k ∧ k ∈ s'.wr ∧ h[k]? = some ⟨true,some c⟩ ∧ (ι k).blk = b) ∧
    (∀ k c,DomU D s.h.length s'.h.length k → h'[k]? = some ⟨true,some c⟩ → w.heap.size ≤ (glι ι ι1 s.h.length s'.h.length k).blk ∨
      ∃ k' c',D k' ∧ h[k']? = some ⟨true,some c'⟩ ∧ (ι k').blk = (glι ι ι1 s.h.length s'.h.length k).blk ∧ (k' = k ∨ (D1 k' ∧ k' ∈ s'.wr))) := by
  have hold : ∀ k,D k → glι ι ι1 s.h.length s'.h.length k = ι k := fun k hk => if_neg (hDa k hk)
  have hnew : ∀ k,DomU D1 s.h.length s'.h.length k → glι ι ι1 s.h.length s'.h.length k = ι1 k := fun k hk => by
    rcases hk with hk | hk
    · rw [hold k (h1 k hk),I.agree k (hD1 k hk)]
    · exact if_pos hk
  have hm : ∀ k,D k → DomU D s.h.length s'.h.length k ∧ glι ι ι1 s.h.length s'.h.length k = ι k := fun k hk => ⟨.inl hk,hold k hk⟩
  have hm1 : ∀ k,DomU D1 s.h.length s'.h.length k → DomU D s.h.length s'.h.length k ∧ glι ι ι1 s.h.length s'.h.length k = ι1 k := fun k hk => ⟨hk.imp (h1 k) id,hnew k hk⟩
  have hcase : ∀ k,DomU D s.h.length s'.h.length k → DomU D1 s.h.length s'.h.length k ∨ (D k ∧ ¬ D1 k) := fun k hk => by
    rcases hk with hk | hk
    · by_cases hk1 : D1 k
      · exact .inl (.inl hk1)
      · exact .inr ⟨hk,hk1⟩
    · exact .inl (.inr hk)
  have hsub : ∀ b,OwnT ι D1 s.h s.lo s'.wr b → ∃ k c,D1 k ∧ k ∈ s'.wr ∧ h[k]? = some ⟨true,some c⟩ ∧ (ι k).blk = b := by
    rintro b ⟨k,c,hk,hb,eb,et⟩
    rw [hs k hk] at hb
    refine ⟨k,c,hk,et.resolve_left ?_,hb,eb⟩
    have := hD1 k hk
    omega
  have hother : ∀ k b c,D k → ¬ D1 k → h[k]? = some b → b.con = some c → (b.w = true ∨ 0 < c.len) → ¬ OwnT ι D1 s.h s.lo s'.wr (ι k).blk := by
    rintro k b c hk hk1 hb hc h0 hot
    obtain ⟨k2,c2,g1,g2,g3,g4⟩ := hsub _ hot
    have hne : k2 ≠ k := fun e => hk1 (e ▸ g1)
    obtain ⟨bw,bc⟩ := b
    simp only at hc; subst hc
    cases bw with
    | true => exact H.disj _ _ _ _ (h1 k2 g1) hk hne g3 hb g4
    | false =>
      have r1 := H.ro k c hk hb (h0.resolve_left (by simp))
      have r2 := (H.own _ _ (h1 k2 g1) g3).1.1
      omega
  have hkeep : ∀ k b c,D k → ¬ D1 k → h[k]? = some b → b.con = some c → (b.w = true ∨ 0 < c.len) → w'.heap[(ι k).blk]? = w.heap[(ι k).blk]? := fun k b c hk hk1 hb hc h0 =>
    I.frm.block _ (by
      rcases h0 with h0 | h0
      · obtain ⟨bw,bc⟩ := b
        simp only at h0 hc; subst h0 hc
        exact (H.own k c hk hb).1.2
      · exact (H.both k b c hk hb hc).1 h0) (hother k b c hk hk1 hb hc h0)
  -- what is its own to write comes from somewhere
  have hfrom : ∀ k c,DomU D1 s.h.length s'.h.length k → s'.h[k]? = some ⟨true,some c⟩ → w.heap.size ≤ (ι1 k).blk ∨ ∃ k' c',D1 k' ∧ h[k']? = some ⟨true,some c'⟩ ∧ (ι k').blk = (ι1 k).blk ∧ (k' = k ∨ k' ∈ s'.wr) := by
    intro k c hk hb
    rcases I.prov (k :: s'.wr) (ι1 k).blk (fun q hq => List.mem_cons_of_mem _ hq) ⟨k,c,hk,hb,rfl,.inr (List.mem_cons_self ..)⟩ with g | ⟨k',c',g1,g2,g3,g4⟩
    · exact .inl g
    · rw [hs k' g1] at g2
      refine .inr ⟨k',c',g1,g2,g3,?_⟩
      rcases g4 with g4 | g4
      · have := hD1 k' g1; omega
      · exact List.mem_cons.1 g4
  refine ⟨⟨?_,?_,?_,?_,Nat.le_trans H.le I.frm.size,?_,I.rel.gl⟩,hsub,?_⟩
  · intro k b c hk hb hc
    rcases hcase k hk with hk | ⟨hk,hk1⟩
    · rw [hn k hk] at hb
      obtain ⟨g1,g2,g3⟩ := I.rel.both k b c hk hb hc
      rw [hnew k hk]
      refine ⟨g1,g2,fun i j v hv => ?_⟩
      obtain ⟨v',q1,q2⟩ := g3 i j v hv
      exact ⟨v',q1,q2.mono hm1⟩
    · rw [ho k hk hk1] at hb
      obtain ⟨g1,g2,g3⟩ := H.both k b c hk hb hc
      rw [hold k hk]
      refine ⟨fun h0 => Nat.lt_of_lt_of_le (g1 h0) I.frm.size,g2,fun i j v hv => ?_⟩
      obtain ⟨v',q1,q2⟩ := g3 i j v hv
      refine ⟨v',?_,q2.mono hm⟩
      rw [← q1]
      exact World.cell?_of_block (w := w) (hkeep k b c hk hk1 hb hc (.inr (Nat.lt_of_le_of_lt (Nat.zero_le _) (Con.at_lt hv).1)))
  · intro k c hk hb
    rcases hcase k hk with hk | ⟨hk,hk1⟩
    · rw [hn k hk] at hb
      rw [hnew k hk]; exact I.rel.own k c hk hb
    · rw [ho k hk hk1] at hb
      rw [hold k hk]
      obtain ⟨g1,g2,g3⟩ := H.own k c hk hb
      refine ⟨⟨g1.1,Nat.lt_of_lt_of_le g1.2 I.frm.size⟩,g2,fun i2 j2 e1 e2 => ?_⟩
      have hk' := hkeep k _ c hk hk1 hb rfl (.inl rfl)
      rw [show w'.cell? ((ι k).cell i2 j2) = w.cell? ((ι k).cell i2 j2) from World.cell?_of_block (w := w) hk',show w'.frozen? ((ι k).cell i2 j2) = w.frozen? ((ι k).cell i2 j2) from World.frozen?_of_block (w := w) hk']
      exact g3 i2 j2 e1 e2
  · intro k c hk hb
    rcases hcase k hk with hk | ⟨hk,hk1⟩
    · rw [hn k hk] at hb
      rw [hnew k hk]; exact I.rel.ro k c hk hb
    · rw [ho k hk hk1] at hb
      rw [hold k hk]; exact H.ro k c hk hb
  · have cross : ∀ k c k2 c2,DomU D1 s.h.length s'.h.length k → s'.h[k]? = some ⟨true,some c⟩ → D k2 → ¬ D1 k2 → h[k2]? = some ⟨true,some c2⟩ → (ι1 k).blk ≠ (ι k2).blk := by
      intro k c k2 c2 hk hb hk2 hk21 hb2 e
      rcases hfrom k c hk hb with g | ⟨k',c',g1,g2,g3,_⟩
      · have := (H.own k2 c2 hk2 hb2).1.2; omega
      · exact H.disj _ _ _ _ (h1 k' g1) hk2 (fun e2 => hk21 (e2 ▸ g1)) g2 hb2 (g3.trans e)
    intro k k' c c' hk hk' hne hb hb'
    rcases hcase k hk with hk | ⟨hk,hk1⟩ <;> rcases hcase k' hk' with hk' | ⟨hk',hk1'⟩
    · rw [hn k hk] at hb; rw [hn k' hk'] at hb'
      rw [hnew k hk,hnew k' hk']; exact I.rel.disj k k' c c' hk hk' hne hb hb'
    · rw [hn k hk] at hb; rw [ho k' hk' hk1'] at hb'
      rw [hnew k hk,hold k' hk']; exact cross k c k' c' hk hb hk' hk1' hb'
    · rw [ho k hk hk1] at hb; rw [hn k' hk'] at hb'
      rw [hold k hk,hnew k' hk']; exact Ne.symm (cross k' c' k c hk' hb' hk hk1 hb)
    · rw [ho k hk hk1] at hb; rw [ho k' hk' hk1'] at hb'
      rw [hold k hk,hold k' hk']; exact H.disj k k' c c' hk hk' hne hb hb'
  · intro k b c hk hb hc
    rcases hcase k hk with hk | ⟨hk,hk1⟩
    · rw [hn k hk] at hb
      rw [hnew k hk]; exact I.rel.lens k b c hk hb hc
    · rw [ho k hk hk1] at hb
      rw [hold k hk]; exact H.lens k b c hk hb hc
  · intro k c hk hb
    rcases hcase k hk with hk | ⟨hk,hk1⟩
    · rw [hn k hk] at hb
      rw [hnew k hk]
      rcases hfrom k c hk hb with g | ⟨k',c',g1,g2,g3,g4⟩
      · exact .inl g
      · exact .inr ⟨k',c',h1 k' g1,g2,g3,g4.imp id fun g => ⟨g1,g⟩⟩
    · rw [ho k hk hk1] at hb
      rw [hold k hk]
      exact .inr ⟨k,c,hk,hb,rfl,.inl rfl⟩

end Go.Ab
