/- A region whose order is drawn: the proof. -/
import Derived.Test.YtmknfenjnladeaaA14
namespace Go.Ab
open Go.RowKit (Below)

section
variable {P : Program} {ext : FuncId → Option Ext} {cf : CallF} {ops : List Oper} {Fr : Nat → List Value} {S : Nat → St} {V : Nat → Value} {K : Nat → Ft}

def DL (D : Nat → Prop) (S : Nat → St) (L : Nat → Prop) (i : Nat) (k : Nat) : Prop := D k ∨ ∃ j,j < i ∧ L j ∧ (S j).h.length ≤ k ∧ k < (S (j + 1)).h.length

structure Ok (ops : List Oper) (K : Nat → Ft) : Prop where
  pair : ∀ (i j : Nat) (o p : Oper),i < j → ops[i]? = some o → ops[j]? = some p → ((ancs ops []).getD j 0).testBit i = true ∨ (Oper.apart ops.toArray o p = true ∧ okPair (K i) (K j) = true)
  dst : ∀ (i j : Nat) (o p : Oper) (d : Tmp),ops[i]? = some o → ops[j]? = some p → o.dst = some d → p.dst = some d → i = j
  edge : ∀ (i : Nat) (o : Oper) (e : Edge),ops[i]? = some o → e ∈ o.after.toList → Region.binds .any e = true → e.on < i
  ok : ∀ i,i < ops.length → (K i).kd = .pure ∨ (K i).ok = true

theorem nodup_dst : ∀ {ops : List Oper},nodupB (ops.filterMap (·.dst)) = true → ∀ (i j : Nat) (o p : Oper) (d : Tmp),ops[i]? = some o → ops[j]? = some p → o.dst = some d → p.dst = some d → i = j
  | [],_,i,j,o,p,d,h,_,_,_ => by simp at h
  | x :: l,hn,i,j,o,p,d,ho,hp,hod,hpd => by
    have tail : nodupB (l.filterMap (·.dst)) = true := by
      simp only [List.filterMap_cons] at hn
      split at hn
      · exact hn
      · simp only [nodupB,Bool.and_eq_true] at hn; exact hn.2
    have head : ∀ d',x.dst = some d' → ∀ (k : Nat) (q : Oper),l[k]? = some q → q.dst ≠ some d' := by
      intro d' hd' k q hq e
      simp only [List.filterMap_cons,hd'] at hn
      simp only [nodupB,Bool.and_eq_true,Bool.not_eq_true'] at hn
      have : d' ∈ l.filterMap (·.dst) := List.mem_filterMap.2 ⟨q,List.mem_of_getElem? hq,e⟩
      have h2 := hn.1
      rw [List.contains_iff_mem.2 this] at h2
      cases h2
    cases i with
    | zero => cases j with
      | zero => rfl
      | succ j =>
        simp at ho hp; subst ho
        exact absurd hpd (head d hod j p hp)
    | succ i => cases j with
      | zero =>
        simp at ho hp; subst hp
        exact absurd hod (head d hpd i o ho)
      | succ j =>
        simp at ho hp
        rw [nodup_dst tail i j o p d ho hp hod hpd]

theorem ok_of_order {ks : List Ft} (hk : ∀ i : Nat,i < ops.length → ks[i]? = some (K i)) (h : orderOk ops ks = true) : Ok ops K := by
  simp only [orderOk,Bool.and_eq_true] at h
  obtain ⟨⟨⟨h1,h2⟩,h3⟩,h4⟩ := h
  refine ⟨?_,nodup_dst h2,?_,?_⟩
  · intro i j o p hij ho hp
    have hjl := (List.getElem?_eq_some_iff.1 hp).1
    unfold pairsOk at h1
    rw [List.all_eq_true] at h1
    have g1 := h1 (p,j) (List.mk_mem_zipIdx_iff_getElem?.2 hp)
    simp only at g1
    rw [List.all_eq_true] at g1
    have g2 := g1 (o,i) (List.mk_mem_zipIdx_iff_getElem?.2 (by rw [List.getElem?_take,if_pos hij]; exact ho))
    simp only [Bool.or_eq_true,Bool.and_eq_true] at g2
    have e1 : ks.getD i ftD = K i := by rw [List.getD_eq_getElem?_getD,hk i (by omega)]; rfl
    have e2 : ks.getD j ftD = K j := by rw [List.getD_eq_getElem?_getD,hk j hjl]; rfl
    rw [e1,e2] at g2
    exact g2
  · intro i o e ho he hb
    unfold edgesOk at h3
    rw [List.all_eq_true] at h3
    have g1 := h3 (o,i) (List.mk_mem_zipIdx_iff_getElem?.2 ho)
    simp only at g1
    rw [List.all_eq_true] at g1
    have g2 := g1 e he
    rw [hb] at g2
    exact blt_true (by simpa using g2)
  · intro i hi
    rw [List.all_eq_true] at h4
    have := h4 (K i) (List.mem_of_getElem? (hk i hi))
    simpa using this

def Cons (n : Nat) (S : Nat → St) (K : Nat → Ft) (L : Nat → Prop) (k i : Nat) : Prop := k < (S i).h.length ∧ ∀ j,j < n → k ∈ (K j).kd.W → (j < i ↔ L j)

structure Inv {P : Program} (B : Bnd P) (ι : Nat → Info) (D : Nat → Prop) (ops : List Oper) (Fr : Nat → List Value) (S : Nat → St) (V : Nat → Value) (K : Nat → Ft) (w0 : World) (L : Nat → Prop) (H : List Blk) (ι' : Nat → Info) (a : Act) (w : World) : Prop where
  hlen : (S ops.length).h.length ≤ H.length
  agree : ∀ k,k < (S 0).h.length → ι' k = ι k
  cons : ∀ k i,DL D S L ops.length k → i ≤ ops.length → Cons ops.length S K L k i → H[k]? = (S i).h[k]?
  rel : WRel B ι' (DL D S L ops.length) H w
  frm : Frm (OwnT ι D (S 0).h (S 0).lo (S ops.length).wr) w0 w
  prov : ∀ t b,(∀ q,q ∈ (S ops.length).wr → q ∈ t) → OwnT ι' (DL D S L ops.length) H (S 0).lo t b → w0.heap.size ≤ b ∨ OwnT ι D (S 0).h (S 0).lo t b
  done : ∀ (i : Nat) (o : Oper) (d : Tmp),ops[i]? = some o → L i → o.dst = some d → d < (Fr 0).length → ∃ v',a.tmps[d]? = some v' ∧ VRel ι' (DL D S L ops.length) (V i) v'
  todo : ∀ (t : Tmp) (v : Value),(Fr 0)[t]? = some v → (∀ (i : Nat) (o : Oper),ops[i]? = some o → L i → o.dst ≠ some t) → ∃ v',a.tmps[t]? = some v' ∧ VRel ι' D v v'
  size : a.tmps.size = (Fr 0).length
  defers : a.defers = []

theorem cons_uniq (hd : Data P ext cf ops ops Fr S V K) {L : Nat → Prop} {k : Nat} : ∀ {i j : Nat},i ≤ j → j ≤ ops.length → Cons ops.length S K L k i → Cons ops.length S K L k j → (S j).h[k]? = (S i).h[k]? := by
  intro i j hij hj ci cj
  refine hd.quiet hij hj ci.1 fun q h1 h2 hk => ?_
  have e1 := ci.2 q (by omega) hk
  have e2 := cj.2 q (by omega) hk
  have := e1.2 (e2.1 h2)
  omega

theorem DL_lt (hd : Data P ext cf ops ops Fr S V K) {D : Nat → Prop} {L : Nat → Prop} {i : Nat} (hD : ∀ k,D k → k < (S 0).h.length) (hi : i ≤ ops.length) : ∀ k,DL D S L i k → k < (S i).h.length := by
  rintro k (hk | ⟨j,h1,h2,h3,h4⟩)
  · exact Nat.lt_of_lt_of_le (hD k hk) (hd.len (Nat.zero_le _) hi)
  · exact Nat.lt_of_lt_of_le h4 (hd.len h1 hi)
theorem DL_new {D : Nat → Prop} {L : Nat → Prop} {i q : Nat} (h : q < i) : DL D S (fun j => L j ∨ j = q) i = DomU (DL D S L i) (S q).h.length (S (q + 1)).h.length := by
  funext k; apply propext
  constructor
  · rintro (hk | ⟨j,h1,h2,h3⟩)
    · exact .inl (.inl hk)
    · rcases h2 with h2 | h2
      · exact .inl (.inr ⟨j,h1,h2,h3⟩)
      · subst h2; exact .inr h3
  · rintro ((hk | ⟨j,h1,h2,h3⟩) | hk)
    · exact .inl hk
    · exact .inr ⟨j,h1,.inl h2,h3⟩
    · exact .inr ⟨q,h,.inr rfl,hk⟩
theorem DL_none {D : Nat → Prop} {L : Nat → Prop} {i q : Nat} (h : S (q + 1) = S q) : DL D S (fun j => L j ∨ j = q) i = DL D S L i := by
  funext k; apply propext
  constructor
  · rintro (hk | ⟨j,h1,h2,h3⟩)
    · exact .inl hk
    · rcases h2 with h2 | h2
      · exact .inr ⟨j,h1,h2,h3⟩
      · subst h2; rw [h] at h3; omega
  · rintro (hk | ⟨j,h1,h2,h3⟩)
    · exact .inl hk
    · exact .inr ⟨j,h1,.inl h2,h3⟩

theorem wrel_dead {P : Program} {B : Bnd P} {ι : Nat → Info} {D : Nat → Prop} {w : World} (n : Nat) (h : B ≤ w.heap.size) (g : GG P w) : WRel B ι D (List.replicate n deadB) w := by
  have hg : ∀ (k : Nat) (b : Blk),(List.replicate n deadB)[k]? = some b → b.con = none := fun k b hb => by
    rw [List.getElem?_replicate] at hb
    split at hb
    · cases hb; rfl
    · cases hb
  refine ⟨fun k b c _ hb hc => ?_,fun k c _ hb => ?_,fun k c _ hb => ?_,fun k k' c c' _ _ _ hb => ?_,h,fun k b c _ hb hc => (by rw [hg k b hb] at hc; cases hc),g⟩
  · rw [hg k b hb] at hc; cases hc
  · have := hg _ _ hb; cases this
  · have := hg _ _ hb; cases this
  · have := hg _ _ hb; cases this

theorem put_get {a : Act} {dst : Option Tmp} {v : Value} {t : Tmp} (h : dst ≠ some t) : (a.put dst v).tmps[t]? = a.tmps[t]? := by
  cases dst with
  | none => rfl
  | some d =>
    simp only [Act.put]
    rw [Array.getElem?_setIfInBounds_ne]
    intro e; exact h (by rw [e])
theorem put_self {a : Act} {d : Tmp} {v : Value} (h : d < a.tmps.size) : (a.put (some d) v).tmps[d]? = some v := by
  simp only [Act.put]
  rw [Array.getElem?_setIfInBounds_self_of_lt h]

theorem inv_frame {P : Program} {B : Bnd P} {ι : Nat → Info} {D : Nat → Prop} {w0 w : World} {L : Nat → Prop} {H : List Blk} {ι' ι2 : Nat → Info} {a : Act} (I : Inv B ι D ops Fr S V K w0 L H ι' a w) (hok : Ok ops K)
    {i : Nat} {o : Oper} (ho : ops[i]? = some o) {v' : Value} (hm : ∀ k,DL D S L ops.length k → DL D S (fun j => L j ∨ j = i) ops.length k ∧ ι2 k = ι' k) (hv : VRel ι2 (DL D S (fun j => L j ∨ j = i) ops.length) (V i) v') :
    (∀ (q : Nat) (o2 : Oper) (d : Tmp),ops[q]? = some o2 → (L q ∨ q = i) → o2.dst = some d → d < (Fr 0).length → ∃ u',(a.put o.dst v').tmps[d]? = some u' ∧ VRel ι2 (DL D S (fun j => L j ∨ j = i) ops.length) (V q) u') ∧
    (∀ (t : Tmp) (v : Value),(Fr 0)[t]? = some v → (∀ (q : Nat) (o2 : Oper),ops[q]? = some o2 → (L q ∨ q = i) → o2.dst ≠ some t) → ∃ u',(a.put o.dst v').tmps[t]? = some u' ∧ VRel ι2 D v u') ∧
    (a.put o.dst v').tmps.size = (Fr 0).length ∧ (a.put o.dst v').defers = [] := by
  refine ⟨?_,?_,?_,?_⟩
  · intro q o2 d hq hL hdq hdl
    by_cases e : q = i
    · subst e
      rw [ho] at hq; cases hq
      rw [hdq]
      exact ⟨v',put_self (by rw [I.size]; exact hdl),hv⟩
    · have hLq : L q := hL.resolve_right e
      obtain ⟨u',h1,h2⟩ := I.done q o2 d hq hLq hdq hdl
      refine ⟨u',?_,h2.mono hm⟩
      rw [put_get (fun e2 => e (hok.dst q i o2 o d hq ho hdq e2))]
      exact h1
  · intro t v htv hno
    obtain ⟨u',h1,h2⟩ := I.todo t v htv (fun q o2 hq hLq => hno q o2 hq (.inl hLq))
    refine ⟨u',?_,h2.mono fun k hk => ⟨hk,(hm k (.inl hk)).2⟩⟩
    rw [put_get (hno i o ho (.inr rfl))]
    exact h1
  · cases hdst : o.dst with
    | none => exact I.size
    | some d => simp only [Act.put,Array.size_setIfInBounds]; exact I.size
  · cases hdst : o.dst with
    | none => exact I.defers
    | some d => exact I.defers

def mixH (n : Nat) (p : Nat → Bool) (h1 h2 : List Blk) : List Blk := (List.range n).map fun k => if p k then h1.getD k deadB else h2.getD k deadB
theorem mixH_t {n : Nat} {p : Nat → Bool} {h1 h2 : List Blk} {k : Nat} (hk : k < n) (hp : p k = true) (hl : k < h1.length) : (mixH n p h1 h2)[k]? = h1[k]? := by
  unfold mixH
  rw [List.getElem?_map,List.getElem?_range hk]
  simp [hp,List.getD,List.getElem?_eq_getElem hl]
theorem mixH_f {n : Nat} {p : Nat → Bool} {h1 h2 : List Blk} {k : Nat} (hk : k < n) (hp : p k = false) (hl : k < h2.length) : (mixH n p h1 h2)[k]? = h2[k]? := by
  unfold mixH
  rw [List.getElem?_map,List.getElem?_range hk]
  simp [hp,List.getD,List.getElem?_eq_getElem hl]

theorem OpY.mono {ρ' : Operand → Value} {o : Oper} {w : World} {R R' : Value → World → Prop} (h : OpY P ρ' o w R) (hr : ∀ v' w',R v' w' → R' v' w') : OpY P ρ' o w R' := by
  unfold OpY at h ⊢
  cases hrun : (execOp ρ' o).run P w with
  | halt x w' => rw [hrun] at h; exact h
  | ok n w' =>
    rw [hrun] at h
    cases n <;> simp only at h ⊢ <;> try exact h
    · exact hr _ _ h
    · exact hr _ _ h
    · exact Calls.mono h fun e w'' ⟨v',he,hR⟩ => ⟨v',he,hr _ _ hR⟩

theorem Frm.more {W : Nat → Prop} {w0 w w' : World} (h : Frm W w0 w) (hb : Below w.heap.size w w') : Frm W w0 w' :=
  ⟨hb.os.trans h.os,hb.tape.trans h.tape,hb.output.trans h.output,Nat.le_trans h.size hb.size,fun b hlt hn => by
    rw [hb.block b (Nat.lt_of_lt_of_le hlt h.size)]; exact h.block b hlt hn⟩
theorem Frm.none {W : Nat → Prop} {w w' : World} (h : Frm W w w') (hn : ∀ b,¬ W b) : Below w.heap.size w w' :=
  ⟨h.os,h.tape,h.output,h.size,fun b hb => h.block b hb (hn b)⟩

theorem WRel.congr {P : Program} {B : Bnd P} {ι ι2 : Nat → Info} {D : Nat → Prop} {h h2 : List Blk} {w : World} (H : WRel B ι D h w) (hι : ∀ k,D k → ι2 k = ι k) (hh : ∀ k,D k → h2[k]? = h[k]?) : WRel B ι2 D h2 w := by
  have hm : ∀ k,D k → D k ∧ ι2 k = ι k := fun k hk => ⟨hk,hι k hk⟩
  refine ⟨?_,?_,?_,?_,H.le,fun k b c hk hb hc => by rw [hh k hk] at hb; rw [hι k hk]; exact H.lens k b c hk hb hc,H.gl⟩
  · intro k b c hk hb hc
    rw [hh k hk] at hb
    obtain ⟨g1,g2,g3⟩ := H.both k b c hk hb hc
    rw [hι k hk]
    refine ⟨g1,g2,fun i j v hv => ?_⟩
    obtain ⟨v',q1,q2⟩ := g3 i j v hv
    exact ⟨v',q1,q2.mono hm⟩
  · intro k c hk hb
    rw [hh k hk] at hb; rw [hι k hk]; exact H.own k c hk hb
  · intro k c hk hb
    rw [hh k hk] at hb; rw [hι k hk]; exact H.ro k c hk hb
  · intro k k' c c' hk hk' hne hb hb'
    rw [hh k hk] at hb; rw [hh k' hk'] at hb'; rw [hι k hk,hι k' hk']
    exact H.disj k k' c c' hk hk' hne hb hb'

set_option maxHeartbeats 1000000 in
theorem inv_step (hcf : CfOk P cf) (hext : ExtOk P ext) (hd : Data P ext cf ops ops Fr S V K) (hok : Ok ops K) {B : Bnd P} {ι : Nat → Info} {D : Nat → Prop} {w0 : World} (hD : ∀ k,D k → k < (S 0).h.length)
    {L : Nat → Prop} (hLn : ∀ j,L j → j < ops.length) (hcl : ∀ (j : Nat) (o : Oper) (e : Edge),ops[j]? = some o → L j → e ∈ o.after.toList → Region.binds .any e = true → L e.on) {H : List Blk} {ι' : Nat → Info} {a : Act} {w : World} (I : Inv B ι D ops Fr S V K w0 L H ι' a w)
    {i : Nat} {o : Oper} (ho : ops[i]? = some o) (hiL : ¬ L i) (hr : ∀ e,e ∈ o.after.toList → Region.binds .any e = true → L e.on) :
    (Region.wanted o (yielded ops.toArray a.tmps) = false ∧ ∃ H2 ι2,Inv B ι D ops Fr S V K w0 (fun j => L j ∨ j = i) H2 ι2 (a.put o.dst undef) w) ∨
    (Region.wanted o (yielded ops.toArray a.tmps) = true ∧ OpY P a.eval o w (fun v' w' => ∃ H2 ι2,Inv B ι D ops Fr S V K w0 (fun j => L j ∨ j = i) H2 ι2 (a.put o.dst v') w')) := by
  have hil : i < ops.length := (List.getElem?_eq_some_iff.1 ho).1
  obtain ⟨fl,fdone,ftodo⟩ := hd.frame hok.dst (Nat.le_of_lt hil)
  -- a temporary that the operation looks at holds what the text's order has there
  have hlook : ∀ t,t ∈ o.looksAt ops.toArray → ∀ v,(Fr i)[t]? = some v → ∃ v',a.tmps[t]? = some v' ∧ VRel ι' (DL D S L ops.length) v v' := by
    intro t ht v hv
    by_cases hex : ∃ (j : Nat) (p : Oper),ops[j]? = some p ∧ p.dst = some t
    · obtain ⟨j,p,hp,hpd⟩ := hex
      have htl : t < (Fr 0).length := by rw [← fl]; exact (List.getElem?_eq_some_iff.1 hv).1
      rcases Nat.lt_trichotomy j i with hji | hji | hji
      · have hLj : L j := by
          rcases hok.pair j i p o hji hp ho with h | ⟨h,_⟩
          · exact anc_ready hcl ho hr h
          · exact absurd ht ((Oper.apart_spec h).1 t hpd)
        have e1 := fdone j p t hji hp hpd htl
        rw [hv] at e1; cases e1
        exact I.done j p t hp hLj hpd htl
      · subst hji
        rw [ho] at hp; cases hp
        have e1 := ftodo t (fun q p2 hq hp2 e => by have := hok.dst q j p2 o t hp2 ho e hpd; omega)
        rw [hv] at e1
        obtain ⟨v',g1,g2⟩ := I.todo t v e1.symm (fun q p2 hp2 hLq e => by have := hok.dst q j p2 o t hp2 ho e hpd; subst this; exact hiL hLq)
        exact ⟨v',g1,g2.mono fun k hk => ⟨.inl hk,rfl⟩⟩
      · have hLj : ¬ L j := by
          intro hLj
          have hjl := (List.getElem?_eq_some_iff.1 hp).1
          rcases hok.pair i j o p hji ho hp with h | ⟨h,_⟩
          · exact hiL (anc_closed hcl j i hjl hLj h)
          · exact absurd ht ((Oper.apart_spec h).2.2 t hpd)
        have e1 := ftodo t (fun q p2 hq hp2 e => by have := hok.dst q j p2 p t hp2 hp e hpd; omega)
        rw [hv] at e1
        obtain ⟨v',g1,g2⟩ := I.todo t v e1.symm (fun q p2 hp2 hLq e => by have := hok.dst q j p2 p t hp2 hp e hpd; subst this; exact hLj hLq)
        exact ⟨v',g1,g2.mono fun k hk => ⟨.inl hk,rfl⟩⟩
    · have e1 := ftodo t (fun q p2 hq hp2 e => hex ⟨q,p2,hp2,e⟩)
      rw [hv] at e1
      obtain ⟨v',g1,g2⟩ := I.todo t v e1.symm (fun q p2 hp2 hLq e => hex ⟨q,p2,hp2,e⟩)
      exact ⟨v',g1,g2.mono fun k hk => ⟨.inl hk,rfl⟩⟩
  -- the guard
  have hguard : ∀ b,wantedB ops (Fr i) o = some b → Region.wanted o (yielded ops.toArray a.tmps) = b := by
    intro b hb
    unfold wantedB wantedA at hb
    unfold Region.wanted
    cases hg : o.guard with
    | none => rw [hg] at hb; simpa using hb
    | some p =>
      obtain ⟨j,want⟩ := p
      rw [hg] at hb
      simp only at hb ⊢
      unfold yielded
      simp only [List.getElem?_toArray]
      cases hdd : (ops[j]?).bind (·.dst) with
      | none => rw [hdd] at hb; cases hb
      | some d =>
        rw [hdd] at hb
        simp only at hb ⊢
        cases hf : (Fr i)[d]? with
        | none => rw [hf] at hb; cases hb
        | some v =>
          rw [hf] at hb
          have hlk : d ∈ o.looksAt ops.toArray := by
            unfold Oper.looksAt
            rw [hg]
            simp [hdd]
          obtain ⟨v',h1,h2⟩ := hlook d hlk v hf
          simp only [Option.bind_some,h1]
          cases v <;> simp only at hb <;> try (cases hb; done)
          · obtain rfl : v' = _ := h2
            simp only at hb ⊢
            simpa using hb
          · obtain ⟨vs',rfl,_⟩ := h2
            simp only at hb ⊢
            cases want <;> simp at hb <;> subst hb <;> rfl
  have hDlt : ∀ k,DL D S L ops.length k → k < (S ops.length).h.length := DL_lt hd hD (Nat.le_refl _)
  have habs := hd.abs hil
  have hlen0 : ∀ j,j ≤ ops.length → (S 0).h.length ≤ (S j).h.length := fun j hj => hd.len (Nat.zero_le _) hj
  have hout : ∀ k,DL D S L ops.length k → ¬ ((S i).h.length ≤ k ∧ k < (S (i + 1)).h.length) := by
    rintro k (hk | ⟨q,h1,h2,h3,h4⟩) ⟨h5,h6⟩
    · have := hD k hk; have := hlen0 i (by omega); omega
    · have hqi : q ≠ i := fun e => hiL (e ▸ h2)
      rcases Nat.lt_or_gt_of_ne hqi with hlt | hlt
      · have := hd.len (i := q + 1) (j := i) hlt (by omega); omega
      · have := hd.len (i := i + 1) (j := q) hlt (by omega); omega
  have hDnew : DL D S (fun j => L j ∨ j = i) ops.length = DomU (DL D S L ops.length) (S i).h.length (S (i + 1)).h.length := DL_new hil
  -- an operation that looks at nothing and makes no block
  have hpure : ∀ {v' : Value} {w' : World},S (i + 1) = S i → (K i).kd.W = [] → VRel ι' (DL D S L ops.length) (V i) v' → Below w.heap.size w w' → Inv B ι D ops Fr S V K w0 (fun j => L j ∨ j = i) H ι' (a.put o.dst v') w' := by
    intro v' w' hS hK hv hb
    have hn : DL D S (fun j => L j ∨ j = i) ops.length = DL D S L ops.length := DL_none hS
    obtain ⟨f1,f2,f3,f4⟩ := inv_frame (ι2 := ι') I hok ho (v' := v') (fun k hk => ⟨by rw [hn]; exact hk,rfl⟩) (by rw [hn]; exact hv)
    refine ⟨I.hlen,I.agree,?_,by rw [hn]; exact I.rel.of_below hb,I.frm.more hb,by rw [hn]; exact I.prov,f1,f2,f3,f4⟩
    intro k j hk hj hc
    rw [hn] at hk
    refine I.cons k j hk hj ⟨hc.1,fun q hq hkq => ?_⟩
    have hqi : q ≠ i := fun e => by rw [e,hK] at hkq; cases hkq
    rw [hc.2 q hq hkq]
    exact ⟨fun h => h.resolve_right hqi,.inl⟩
  rcases (hd.step i o ho).2 with ⟨hw,hV,hS,hK⟩ | ⟨hw,kd,hev,hKi⟩
  · refine .inl ⟨hguard _ hw,H,ι',hpure hS (by rw [hK]; rfl) ?_ (Below.refl _ _)⟩
    rw [hV]; exact undef_rel
  refine .inr ⟨hguard _ hw,?_⟩
  have A := abs_op hev
  -- the operands,all others left open
  obtain ⟨ρ,hρ,hF⟩ : ∃ ρ : Operand → Value,(∀ x ∈ o.op.operands,eo (Fr i) x = ρ x) ∧ ∀ x,VRel ι' (DL D S L ops.length) (ρ x) (a.eval x) := by
    refine ⟨fun x => @ite _ (x ∈ o.op.operands) (Classical.propDecidable _) (eo (Fr i) x) anyV,fun x hx => by simp only [if_pos hx],fun x => ?_⟩
    by_cases hx : x ∈ o.op.operands
    · simp only [if_pos hx]
      cases x with
      | tmp t =>
        show VRel ι' (DL D S L ops.length) ((Fr i).getD t undef) (a.tmps.getD t undef)
        rw [List.getD_eq_getElem?_getD,Array.getD_eq_getD_getElem?]
        cases ht : (Fr i)[t]? with
        | some v =>
          obtain ⟨v',h1,h2⟩ := hlook t (List.mem_append_left _ (List.mem_filterMap.2 ⟨.tmp t,by simpa using hx,rfl⟩)) v ht
          rw [h1]; exact h2
        | none =>
          have hsz : (Fr i).length = a.tmps.size := by rw [fl,I.size]
          have : a.tmps[t]? = none := by
            rw [Array.getElem?_eq_none_iff]
            rw [List.getElem?_eq_none_iff] at ht
            omega
          rw [this]
          exact undef_rel
      | const v =>
        show VRel ι' (DL D S L ops.length) (cond (cok v) v anyV) v
        cases hc : cok v with
        | true => exact cok_rel hc
        | false => trivial
      | global g => trivial
      | func f => exact ⟨rfl,#[],rfl,trivial⟩
    · simp only [if_neg hx]; trivial
  have hev2 := fun s2 => evOp_congr (P := P) (ext := ext) (cf := cf) hρ s2
  have hkd : (K i).kd = kd := by rw [hKi]; rfl
  by_cases hkp : kd = .pure
  · obtain ⟨hS,hany⟩ := A.pure hkp
    subst hkp
    have hop := op_sound (B := B) (s := ⟨List.replicate (S ops.length).h.length deadB,0,[]⟩) (w := w) (o := o) hcf hext (wrel_dead _ I.rel.le I.rel.gl) (fun k hk => by simp; exact hDlt k hk) hF (fun _ => rfl) (by rw [← hev2]; exact hany _)
    refine hop.mono ?_
    rintro v' w' ⟨ι1,J⟩
    refine ⟨H,ι',hpure hS (by rw [hkd]; rfl) ?_ (J.frm.none ?_)⟩
    · have := J.val
      rw [DomU_self] at this
      exact this.mono fun k hk => ⟨hk,(J.agree k (by simp; exact hDlt k hk)).symm⟩
    · rintro b ⟨k,c,h1,h2,h3⟩
      rw [List.getElem?_replicate] at h2
      split at h2
      · cases h2
      · cases h2
  -- one that looks at some blocks
  have hokI : (K i).ok = true := by
    rcases hok.ok i hil with h | h
    · rw [hkd] at h; exact absurd h hkp
    · exact h
  have hRlt : ∀ k,k ∈ (K i).R → k < (S i).h.length := by
    intro k hk
    rw [hKi] at hk hokI
    simp only [ftOf] at hk hokI
    cases hld : isLd (Fr i) o.op with
    | some q =>
      rw [hld] at hk hokI
      simp only [List.mem_singleton,Bool.and_eq_true] at hk hokI
      subst hk; exact blt_true hokI.1
    | none =>
      rw [hld] at hk hokI
      simp only [ftOk,Bool.and_eq_true,List.all_eq_true,List.contains_iff_mem] at hokI
      exact blt_true (hokI.1.2 k hk).1
  have hWj : ∀ j,j < ops.length → ∀ k,k ∈ (K j).kd.W → (K j).kd ≠ .pure ∧ k ∈ (K j).R := by
    intro j hj k hk
    have hnp : (K j).kd ≠ .pure := fun e => by rw [e] at hk; cases hk
    refine ⟨hnp,?_⟩
    have hjok := (hok.ok j hj).resolve_left hnp
    rcases (hd.step j _ (List.getElem?_eq_getElem hj)).2 with ⟨_,_,_,h3⟩ | ⟨_,kd2,_,h3⟩
    · rw [h3] at hk; cases hk
    · rw [h3] at hjok hk ⊢
      cases hld : isLd (Fr j) ops[j].op with
      | some q =>
        simp only [ftOf,hld,Bool.and_eq_true] at hjok
        exfalso
        cases kd2 with
        | rd => cases hk
        | pure => cases hjok.2
        | write W => cases hjok.2
      | none =>
        simp only [ftOf,hld,ftOk,Bool.and_eq_true,List.all_eq_true,List.contains_iff_mem] at hjok ⊢
        exact hjok.2 k hk
  have hpairs : ∀ (x y : Nat) (p q : Oper),x < y → ops[x]? = some p → ops[y]? = some q → (K x).kd ≠ .pure → (K y).kd ≠ .pure →
      ((ancs ops []).getD y 0).testBit x = true ∨ ((∀ k,k ∈ (K x).kd.W → k ∉ (K y).R) ∧ (∀ k,k ∈ (K y).kd.W → k ∉ (K x).R) ∧ ∀ k,k ∈ (K y).R → k < (S x).h.length ∨ (S (x + 1)).h.length ≤ k) := by
    intro x y p q hxy hp hq h1 h2
    rcases hok.pair x y p q hxy hp hq with h | ⟨_,h⟩
    · exact .inl h
    · refine .inr ?_
      have hx := hd.abs (i := x) (List.getElem?_eq_some_iff.1 hp).1
      simp only [okPair,apartN,Bool.or_eq_true,beq_iff_eq,h1,h2,false_or,Bool.and_eq_true,List.all_eq_true,Bool.not_eq_true',hx.a,hx.b] at h
      refine ⟨fun k hk hm => ?_,fun k hk hm => ?_,fun k hk => ?_⟩
      · have := h.1.1 k hk; rw [List.contains_iff_mem.2 hm] at this; cases this
      · have := h.1.2 k hk; rw [List.contains_iff_mem.2 hm] at this; cases this
      · exact (h.2 k hk).imp blt_true Nat.le_of_ble_eq_true
  have hKnp : (K i).kd ≠ .pure := by rw [hkd]; exact hkp
  -- what it looks at is as it is at its place in the text
  have hcR : ∀ k,k ∈ (K i).R → Cons ops.length S K L k i := by
    intro k hk
    refine ⟨hRlt k hk,fun j hj hkj => ?_⟩
    obtain ⟨hjp,_⟩ := hWj j hj k hkj
    rcases Nat.lt_trichotomy j i with hji | hji | hji
    · refine ⟨fun _ => ?_,fun _ => hji⟩
      rcases hpairs j i _ o hji (List.getElem?_eq_getElem hj) ho hjp hKnp with h | ⟨h,_⟩
      · exact anc_ready hcl ho hr h
      · exact absurd hk (h k hkj)
    · subst hji; exact ⟨fun h => absurd h (Nat.lt_irrefl _),fun h => absurd h hiL⟩
    · refine ⟨fun h => by omega,fun h => ?_⟩
      rcases hpairs i j o _ hji ho (List.getElem?_eq_getElem hj) hKnp hjp with g | ⟨_,g,_⟩
      · exact absurd (anc_closed hcl j i hj h g) hiL
      · exact absurd hk (g k hkj)
  cases hld : isLd (Fr i) o.op with
  | some q =>
    obtain ⟨t,x,ad,hop0,hx,hq⟩ : ∃ t x ad,o.op = .load t x ∧ eo (Fr i) x = .pointer (some ad) ∧ ad.block = q := by
      unfold isLd at hld
      split at hld
      · rename_i t x heq
        split at hld
        · rename_i ad hx
          exact ⟨t,x,ad,heq,hx,by simpa using hld⟩
        · cases hld
      · cases hld
    have hR : (K i).R = [q] := by rw [hKi]; simp only [ftOf,hld]
    have hxm : x ∈ o.op.operands := by rw [hop0]; simp [Op.operands]
    have hev5 := hev
    rw [hop0] at hev5
    simp only [evOp] at hev5
    obtain ⟨hl1,hS,hk2⟩ := lift1_first hev5
    subst hk2
    have hDq : DL D S L ops.length q := by
      have := hF x
      rw [← hρ x hxm,hx] at this
      obtain ⟨a',_,hr,_⟩ := this
      rw [← hq]; exact hr
    have hHq : H[q]? = (S i).h[q]? := I.cons q i hDq (by omega) (hcR q (by rw [hR]; simp))
    have hl2 : firstT (evLoad P H t (ρ x)) = some (V i) := by
      rw [← hρ x hxm,hx]
      rw [hx] at hl1
      rw [← hl1]
      have e : ∀ n,ldN H ad n = ldN (S i).h ad n := fun n => by unfold ldN; rw [hq,hHq]
      unfold evLoad
      rcases tAgg P t with _ | _ | _ <;> rcases tSize P t with _ | n <;> first | rfl | simp only [e]
    have hevH : firstT (evOp P ext cf ρ o.op ⟨H,H.length,[]⟩) = some (V i,⟨H,H.length,[]⟩,.rd) := by
      rw [hop0]
      simp only [evOp]
      exact firstT_mapf (f := fun v : Value => (v,(⟨H,H.length,[]⟩ : St),Kd.rd)) hl2
    have hop := op_sound (B := B) (s := ⟨H,H.length,[]⟩) (w := w) (o := o) hcf hext I.rel (fun k hk => Nat.lt_of_lt_of_le (hDlt k hk) I.hlen) hF (fun _ => rfl) hevH
    refine hop.mono ?_
    rintro v' w' ⟨ι1,J⟩
    refine ⟨H,ι',hpure hS (by rw [hkd]; rfl) ?_ (J.frm.none ?_)⟩
    · have := J.val
      rw [DomU_self] at this
      exact this.mono fun k hk => ⟨hk,(J.agree k (Nat.lt_of_lt_of_le (hDlt k hk) I.hlen)).symm⟩
    · rintro b ⟨k,c,h1,h2,h3,h4⟩
      rcases h4 with h4 | h4
      · have := Nat.lt_of_lt_of_le (hDlt k h1) I.hlen
        exact absurd h4 (by simp only; omega)
      · cases h4
  | none =>
  have hft : ftOk (S i).h (opAs (Fr i) o.op) (K i).R (K i).kd.W = true := by
    rw [hKi] at hokI ⊢
    simp only [ftOf,hld] at hokI ⊢
    exact hokI
  simp only [ftOk,Bool.and_eq_true,List.all_eq_true,List.contains_iff_mem] at hft
  obtain ⟨⟨hfa,hfR⟩,hfW⟩ := hft
  let D1 : Nat → Prop := fun k => DL D S L ops.length k ∧ k ∈ (K i).R
  have hHR : ∀ k,D1 k → (S i).h[k]? = H[k]? := fun k hk => (I.cons k i hk.1 (by omega) (hcR k hk.2)).symm
  have H1 : WRel B ι' D1 (S i).h w := by
    refine WRel.congr (I.rel.part (D1 := D1) (fun k hk => hk.1) fun k b hk hb q hq hDq => ⟨hDq,?_⟩) (fun _ _ => rfl) hHR
    rw [← hHR k hk] at hb
    have := (hfR k hk.2).2 q
    rw [show (S i).h.getD k deadB = b from by rw [List.getD_eq_getElem?_getD,hb]; rfl] at this
    exact this hq
  have hF1 : ∀ x,VRel ι' D1 (@ite _ (x ∈ o.op.operands) (Classical.propDecidable _) (ρ x) anyV) (a.eval x) := by
    intro x
    by_cases hx : x ∈ o.op.operands
    · simp only [if_pos hx]
      refine (hF x).part fun k hk hDk => ⟨hDk,hfa k ?_⟩
      rw [← hρ x hx] at hk
      exact List.mem_flatMap.2 ⟨x,by simpa using hx,hk⟩
    · simp only [if_neg hx]; trivial
  obtain ⟨wr',hev3,hwr'⟩ := A.any hkp (S i).h.length []
  have hev4 : firstT (evOp P ext cf (fun x => @ite _ (x ∈ o.op.operands) (Classical.propDecidable _) (ρ x) anyV) o.op ⟨(S i).h,(S i).h.length,[]⟩) = some (V i,⟨(S (i + 1)).h,(S i).h.length,wr'⟩,kd) := by
    rw [← hev3]
    refine congrArg _ (evOp_congr (fun x hx => ?_) _)
    simp only [if_pos hx]
    exact (hρ x hx).symm
  have hop := op_sound (B := B) (s := ⟨(S i).h,(S i).h.length,[]⟩) (s' := ⟨(S (i + 1)).h,(S i).h.length,wr'⟩) (w := w) (o := o) hcf hext H1 (fun k hk => hRlt k hk.2) hF1 (fun _ => rfl) hev4
  refine hop.mono ?_
  rintro v' w' ⟨ι1,J⟩
  have hwrW : ∀ q,q ∈ wr' → q ∈ (K i).kd.W := fun q hq => by
    rw [hkd]
    exact (hwr' q hq).resolve_left (by simp)
  have hwrn : ∀ q,q ∈ wr' → (S 0).lo ≤ q ∨ q ∈ (S ops.length).wr := fun q hq => by
    by_cases hlt : q < (S 0).lo
    · exact .inr (hd.tch (i := i + 1) (by omega) (Nat.le_refl _) q (habs.wrW q (hwrW q hq) (by rw [hd.lo (by omega)]; exact hlt)))
    · exact .inl (by omega)
  -- the heap behind it
  let H2 : List Blk := mixH (S ops.length).h.length (fun k => (K i).R.contains k || (Nat.ble (S i).h.length k && Nat.blt k (S (i + 1)).h.length)) (S (i + 1)).h H
  have hlen1 : (S (i + 1)).h.length ≤ (S ops.length).h.length := hd.len (by omega) (Nat.le_refl _)
  have hH2n : ∀ k,DomU D1 (S i).h.length (S (i + 1)).h.length k → H2[k]? = (S (i + 1)).h[k]? := by
    intro k hk
    have hlt : k < (S (i + 1)).h.length := by
      rcases hk with hk | hk
      · exact Nat.lt_of_lt_of_le (hRlt k hk.2) habs.len
      · exact hk.2
    refine mixH_t (by omega) ?_ hlt
    rcases hk with hk | hk
    · simp only [Bool.or_eq_true,List.contains_iff_mem]; exact .inl hk.2
    · simp only [Bool.or_eq_true,Bool.and_eq_true]; exact .inr ⟨Nat.ble_eq_true_of_le hk.1,Nat.ble_eq_true_of_le hk.2⟩
  have hH2o : ∀ k,DL D S L ops.length k → ¬ D1 k → H2[k]? = H[k]? := by
    intro k hk hk1
    refine mixH_f (hDlt k hk) ?_ (Nat.lt_of_lt_of_le (hDlt k hk) I.hlen)
    rw [Bool.eq_false_iff]
    intro e
    simp only [Bool.or_eq_true,Bool.and_eq_true,List.contains_iff_mem] at e
    rcases e with e | ⟨e1,e2⟩
    · exact hk1 ⟨hk,e⟩
    · exact hout k hk ⟨Nat.le_of_ble_eq_true e1,blt_true e2⟩
  obtain ⟨G1,G2,G3⟩ := glue (h' := H2) (s := ⟨(S i).h,(S i).h.length,[]⟩) (s' := ⟨(S (i + 1)).h,(S i).h.length,wr'⟩) I.rel hout (fun k hk => hk.1) (fun k hk => hRlt k hk.2) hHR rfl J.toRunI hH2n hH2o
  simp only at G1 G2 G3
  have hgl : ∀ k,DL D S L ops.length k → glι ι' ι1 (S i).h.length (S (i + 1)).h.length k = ι' k := fun k hk => if_neg (hout k hk)
  obtain ⟨f1,f2,f3,f4⟩ := inv_frame (ι2 := glι ι' ι1 (S i).h.length (S (i + 1)).h.length) I hok ho (v' := v') (fun k hk => ⟨by rw [hDnew]; exact .inl hk,hgl k hk⟩) (by
    rw [hDnew]
    refine J.val.mono ?_
    rintro k (hk | hk)
    · exact ⟨.inl hk.1,by rw [hgl k hk.1]; exact (J.agree k (hRlt k hk.2)).symm⟩
    · exact ⟨.inr hk,if_pos hk⟩)
  refine ⟨H2,glι ι' ι1 (S i).h.length (S (i + 1)).h.length,by simp [H2,mixH],fun k hk => ?_,?_,by rw [hDnew]; exact G1,?_,?_,f1,f2,f3,f4⟩
  · have := hlen0 i (by omega)
    unfold glι
    rw [if_neg (by omega)]; exact I.agree k hk
  · intro k j hk hj hc
    rw [hDnew] at hk
    -- it is as it is behind place 'i'
    have hside : ∀ k,k ∈ (K i).R → Cons ops.length S K L k i → Cons ops.length S K (fun j => L j ∨ j = i) k (i + 1) := by
      intro k hk hc
      refine ⟨Nat.lt_of_lt_of_le hc.1 habs.len,fun q hq hkq => ?_⟩
      by_cases e : q = i
      · subst e; exact ⟨fun _ => .inr rfl,fun _ => by omega⟩
      · have := hc.2 q hq hkq
        constructor
        · intro h; exact .inl (this.1 (by omega))
        · intro h; have := this.2 (h.resolve_right e); omega
    have both : Cons ops.length S K (fun j => L j ∨ j = i) k (i + 1) → (S (i + 1)).h[k]? = (S j).h[k]? := by
      intro hc2
      rcases Nat.le_total (i + 1) j with h | h
      · exact (cons_uniq hd h hj hc2 hc).symm
      · exact cons_uniq hd h (by omega) hc hc2
    rcases hk with hk | hk
    · by_cases hk1 : D1 k
      · rw [hH2n k (.inl hk1)]
        exact both (hside k hk1.2 (hcR k hk1.2))
      · rw [hH2o k hk hk1]
        refine I.cons k j hk hj ⟨hc.1,fun q hq hkq => ?_⟩
        have hqi : q ≠ i := fun e => by subst e; exact hk1 ⟨hk,(hWj q hq k hkq).2⟩
        rw [hc.2 q hq hkq]
        exact ⟨fun h => h.resolve_right hqi,.inl⟩
    · rw [hH2n k (.inr hk)]
      have hji : i + 1 ≤ j := by
        apply Nat.le_of_not_lt
        intro hlt
        have := hd.len (i := j) (j := i) (by omega) (by omega)
        have := hc.1
        omega
      symm
      refine hd.quiet hji hj hk.2 fun q h1 h2 hkq => ?_
      have hq : q < ops.length := by omega
      obtain ⟨hqp,hqR⟩ := hWj q hq k hkq
      have hLq : L q := ((hc.2 q hq hkq).1 h2).resolve_right (by omega)
      rcases hpairs i q o _ (by omega) ho (List.getElem?_eq_getElem hq) hKnp hqp with g | ⟨_,_,g⟩
      · exact hiL (anc_closed hcl q i hq hLq g)
      · have := g k hqR; omega
  · refine Frm.trans I.frm J.frm (fun _ h => h) ?_
    intro b hb hot
    obtain ⟨k,c,g1,g2,g3,g4⟩ := G2 b hot
    rcases I.prov (S ops.length).wr b (fun _ h => h) ⟨k,c,g1.1,g3,g4,hwrn k g2⟩ with g | g
    · omega
    · exact g
  · rintro t b ht ⟨k,c,hk,hbk,eb,et⟩
    rw [hDnew] at hk
    rcases G3 k c hk hbk with g | ⟨k',c',g1,g2,g3,g4⟩
    · rw [eb] at g
      exact .inl (Nat.le_trans I.frm.size g)
    · refine I.prov t b ht ⟨k',c',g1,g2,g3.trans eb,?_⟩
      rcases g4 with g4 | ⟨_,g4⟩
      · rw [g4]; exact et
      · exact (hwrn k' g4).imp id (ht k')

theorem any_sound (hcf : CfOk P cf) (hext : ExtOk P ext) (hd : Data P ext cf ops ops Fr S V K) (hok : Ok ops K) {B : Bnd P} {ι : Nat → Info} {D : Nat → Prop} {w0 : World} (hD : ∀ k,D k → k < (S 0).h.length) {Q : Exit → Act → World → Prop}
    (hQ : ∀ ι' a' w',RunI B ι ι' D (S 0) (S ops.length) w0 w' → FRel ι' (DomU D (S 0).h.length (S ops.length).h.length) (Fr ops.length) a' → Q .normal a' w') :
    ∀ (fuel : Nat) (listed : Array Bool) (a : Act) (w : World),listed.size = ops.length → (List.range ops.length).countP (fun i => !listed.getD i true) = fuel →
      (∀ (j : Nat) (o : Oper) (e : Edge),ops[j]? = some o → listed.getD j false = true → e ∈ o.after.toList → Region.binds .any e = true → listed.getD e.on false = true) →
      (∃ H ι',Inv B ι D ops Fr S V K w0 (fun j => listed.getD j false = true) H ι' a w) → wpAny P .any ops.toArray Q fuel listed a w := by
  have final : ∀ (L : Nat → Prop) H ι' a w,(∀ j,L j ↔ j < ops.length) → Inv B ι D ops Fr S V K w0 L H ι' a w → Q .normal a w := by
    intro L H ι' a w hL I
    have hfull : DL D S L ops.length = DomU D (S 0).h.length (S ops.length).h.length := by
      funext k; apply propext
      constructor
      · rintro (hk | ⟨q,h1,h2,h3,h4⟩)
        · exact .inl hk
        · have := hd.len (Nat.zero_le q) (by omega)
          have := hd.len (i := q + 1) (j := ops.length) h1 (Nat.le_refl _)
          exact .inr (by omega)
      · rintro (hk | ⟨h1,h2⟩)
        · exact .inl hk
        · have key : ∀ n,n ≤ ops.length → k < (S n).h.length → ∃ q,q < n ∧ (S q).h.length ≤ k ∧ k < (S (q + 1)).h.length := by
            intro n
            induction n with
            | zero => intro _ h; omega
            | succ n ih =>
              intro hn hlt
              by_cases hk : k < (S n).h.length
              · obtain ⟨q,g1,g2⟩ := ih (by omega) hk
                exact ⟨q,by omega,g2⟩
              · exact ⟨n,by omega,by omega,hlt⟩
          obtain ⟨q,g1,g2⟩ := key ops.length (Nat.le_refl _) h2
          exact .inr ⟨q,g1,(hL q).2 g1,g2⟩
    obtain ⟨fl,fdone,ftodo⟩ := hd.frame hok.dst (Nat.le_refl ops.length)
    have hcn : ∀ k,DL D S L ops.length k → (S ops.length).h[k]? = H[k]? := fun k hk => (I.cons k ops.length hk (Nat.le_refl _) ⟨DL_lt hd hD (Nat.le_refl _) k hk,fun j hj _ => (hL j).symm⟩).symm
    have hrel := I.rel.congr (fun _ _ => rfl) hcn
    have hprov := I.prov
    refine hQ ι' a w ⟨I.agree,by rw [← hfull]; exact hrel,I.frm,?_,hd.len (Nat.zero_le _) (Nat.le_refl _),hd.lo (Nat.le_refl _),hd.tch (Nat.zero_le _) (Nat.le_refl _)⟩ ⟨?_,I.defers⟩
    · rintro t b ht ⟨k,c,hk,hb,eb,et⟩
      rw [← hfull] at hk
      rw [hcn k hk] at hb
      exact hprov t b ht ⟨k,c,hk,hb,eb,et⟩
    · refine L2.of_get (by rw [fl]; have := I.size; simp; omega) fun t v v' hv hv' => ?_
      rw [Array.getElem?_toList] at hv'
      by_cases hex : ∃ (j : Nat) (p : Oper),ops[j]? = some p ∧ p.dst = some t
      · obtain ⟨j,p,hp,hpd⟩ := hex
        have hjl := (List.getElem?_eq_some_iff.1 hp).1
        have htl : t < (Fr 0).length := by rw [← fl]; exact (List.getElem?_eq_some_iff.1 hv).1
        have e1 := fdone j p t hjl hp hpd htl
        rw [hv] at e1; cases e1
        obtain ⟨u,g1,g2⟩ := I.done j p t hp ((hL j).2 hjl) hpd htl
        rw [hv'] at g1; cases g1
        refine g2.mono fun k hk => ⟨?_,rfl⟩
        rw [← hfull]
        exact hk
      · have e1 := ftodo t (fun q p2 hq hp2 e => hex ⟨q,p2,hp2,e⟩)
        rw [hv] at e1
        obtain ⟨u,g1,g2⟩ := I.todo t v e1.symm (fun q p2 hp2 _ e => hex ⟨q,p2,hp2,e⟩)
        rw [hv'] at g1; cases g1
        exact g2.mono fun k hk => ⟨.inl hk,rfl⟩
  have rdy : ∀ (listed : Array Bool),listed.size = ops.length → ∀ i,i ∈ Region.ready .any ops.toArray listed ↔ ∃ o,ops[i]? = some o ∧ listed.getD i true = false ∧ ∀ e ∈ o.after,Region.binds .any e = true → listed.getD e.on false = true := by
    intro listed hsz i
    unfold Region.ready
    simp only [List.mem_filter,List.mem_range,List.size_toArray,Bool.and_eq_true,Bool.not_eq_true',List.getElem?_toArray]
    constructor
    · rintro ⟨h1,h2,h3⟩
      refine ⟨ops[i],List.getElem?_eq_getElem h1,h2,fun e he hb => ?_⟩
      rw [List.getElem?_eq_getElem h1] at h3
      simp only [Option.map_some,Option.getD_some,Array.all_eq_true'] at h3
      have := h3 e he
      rw [hb] at this
      simpa using this
    · rintro ⟨o,h1,h2,h3⟩
      refine ⟨(List.getElem?_eq_some_iff.1 h1).1,h2,?_⟩
      rw [h1]
      simp only [Option.map_some,Option.getD_some,Array.all_eq_true']
      intro e he
      cases hb : Region.binds .any e with
      | false => rfl
      | true => simpa using h3 e he hb
  have gd : ∀ (listed : Array Bool),listed.size = ops.length → ∀ i,i < ops.length → (listed.getD i true = false ↔ ¬ listed.getD i false = true) := by
    intro listed hsz i hi
    have h1 : i < listed.size := by omega
    simp [Array.getD,h1]
  have gl : ∀ (listed : Array Bool),listed.size = ops.length → ∀ i,listed.getD i false = true → i < ops.length := by
    intro listed hsz i h
    apply Nat.lt_of_not_le
    intro hle
    rw [← hsz] at hle
    simp [Array.getD,Nat.not_lt.2 hle] at h
  have nil_all : ∀ (listed : Array Bool),listed.size = ops.length → Region.ready .any ops.toArray listed = [] → ∀ j,listed.getD j false = true ↔ j < ops.length := by
    intro listed hsz hnil j
    constructor
    · exact gl listed hsz j
    · induction j using Nat.strongRecOn with
      | _ j ih =>
        intro hj
        apply Classical.byContradiction
        intro hn
        have : j ∈ Region.ready .any ops.toArray listed := (rdy listed hsz j).2 ⟨ops[j],List.getElem?_eq_getElem hj,(gd listed hsz j hj).2 hn,fun e he hb => by
          have hlt := hok.edge j _ e (List.getElem?_eq_getElem hj) (by simpa using he) hb
          exact ih e.on hlt (by omega)⟩
        rw [hnil] at this; cases this
  intro fuel
  induction fuel with
  | zero =>
    intro listed a w hsz hcnt hcl ⟨H,ι',I⟩
    have hall : ∀ j,listed.getD j false = true ↔ j < ops.length := by
      intro j
      refine ⟨gl listed hsz j,fun hj => ?_⟩
      rw [List.countP_eq_zero] at hcnt
      have := hcnt j (List.mem_range.2 hj)
      have h2 := (gd listed hsz j hj)
      cases h3 : listed.getD j true with
      | true => cases h4 : listed.getD j false with
        | true => rfl
        | false => rw [h3,h4] at h2; simp at h2
      | false => rw [h3] at this; simp at this
    refine ⟨?_,final _ H ι' a w hall I⟩
    cases hr : Region.ready .any ops.toArray listed with
    | nil => rfl
    | cons x xs =>
      have : x ∈ Region.ready .any ops.toArray listed := by rw [hr]; simp
      obtain ⟨o,h1,h2,_⟩ := (rdy listed hsz x).1 this
      have hx := (List.getElem?_eq_some_iff.1 h1).1
      exact absurd ((hall x).2 hx) ((gd listed hsz x hx).1 h2)
  | succ fuel ih =>
    intro listed a w hsz hcnt hcl ⟨H,ι',I⟩
    refine ⟨fun hnil => final _ H ι' a w (nil_all listed hsz hnil) I,fun i hi => ?_⟩
    obtain ⟨o,ho,hun,hedge⟩ := (rdy listed hsz i).1 hi
    have hil := (List.getElem?_eq_some_iff.1 ho).1
    have hiL : ¬ listed.getD i false = true := (gd listed hsz i hil).1 hun
    have hset : ∀ j,(listed.setIfInBounds i true).getD j false = true ↔ (listed.getD j false = true ∨ j = i) := by
      intro j
      have h1 : i < listed.size := by omega
      by_cases e : j = i
      · subst e; simp [Array.getD,h1]
      · simp only [Array.getD_eq_getD_getElem?,Array.getElem?_setIfInBounds_ne (Ne.symm e),e,or_false]
    have hset' : (fun j => (listed.setIfInBounds i true).getD j false = true) = fun j => (listed.getD j false = true ∨ j = i) := by
      funext j; exact propext (hset j)
    have next : ∀ a' w',(∃ H2 ι2,Inv B ι D ops Fr S V K w0 (fun j => listed.getD j false = true ∨ j = i) H2 ι2 a' w') → wpAny P .any ops.toArray Q fuel (listed.setIfInBounds i true) a' w' := by
      intro a' w' hI
      refine ih _ a' w' (by simp [hsz]) ?_ ?_ (by rw [hset']; exact hI)
      · -- one fewer
        have h1 : i < listed.size := by omega
        have hp : ∀ j,j ∈ List.range ops.length → ((fun j => !(listed.setIfInBounds i true).getD j true) j = true ↔ (fun j => !listed.getD j true && j != i) j = true) := by
          intro j hj
          by_cases e : j = i
          · subst e; simp [Array.getD,h1]
          · simp only [Array.getD_eq_getD_getElem?,Array.getElem?_setIfInBounds_ne (Ne.symm e)]
            simp [e]
        rw [List.countP_congr hp]
        have hsplit : ∀ (n : Nat),(List.range n).countP (fun j => !listed.getD j true) = (List.range n).countP (fun j => !listed.getD j true && j != i) + (if i < n then 1 else 0) := by
          intro n
          induction n with
          | zero => simp
          | succ n ihn =>
            rw [List.range_succ,List.countP_append,List.countP_append,ihn]
            by_cases e : n = i
            · subst e
              have hun' : listed[n]?.getD true = false := by rw [← Array.getD_eq_getD_getElem?]; exact hun
              simp [hun']
            · have : (i < n + 1) = (i < n) := by apply propext; omega
              simp only [this]
              have e2 : (n != i) = true := by simpa using e
              simp [List.countP_cons,e2]
              omega
        have := hsplit ops.length
        rw [if_pos hil,hcnt] at this
        omega
      · intro j o2 e hj hL he hb
        rw [hset] at hL ⊢
        rcases hL with hL | hL
        · exact .inl (hcl j o2 e hj hL he hb)
        · subst hL
          rw [ho] at hj; cases hj
          exact .inl (hedge e (by simpa using he) hb)
    unfold wpOp
    simp only [List.getElem?_toArray,ho]
    rcases inv_step hcf hext hd hok hD (fun j hj => gl listed hsz j hj) hcl I ho hiL (fun e he hb => hedge e (by simpa using he) hb) with ⟨h1,h2⟩ | ⟨h1,h2⟩
    · rw [if_neg (by rw [h1]; exact Bool.false_ne_true)]
      exact next _ _ h2
    · rw [if_pos h1]
      exact .inl (h2.wp fun v' w' hh => next _ _ hh)

theorem inv_start (hd : Data P ext cf ops ops Fr S V K) {B : Bnd P} {ι : Nat → Info} {D : Nat → Prop} {a : Act} {w : World} (hD : ∀ k,D k → k < (S 0).h.length) (H : WRel B ι D (S 0).h w) (hF : FRel ι D (Fr 0) a) :
    ∃ H2 ι',Inv B ι D ops Fr S V K w (fun _ => False) H2 ι' a w := by
  have hDL : DL D S (fun _ => False) ops.length = D := by
    funext k; apply propext
    constructor
    · rintro (h | ⟨_,_,h,_⟩)
      · exact h
      · exact h.elim
    · exact .inl
  have hget : ∀ k,D k → ((S 0).h ++ List.replicate (S ops.length).h.length deadB)[k]? = (S 0).h[k]? := fun k hk => List.getElem?_append_left (hD k hk)
  refine ⟨(S 0).h ++ List.replicate (S ops.length).h.length deadB,ι,by simp,fun _ _ => rfl,fun k i hk hi hc => ?_,?_,Frm.refl _ _,?_,fun i o d _ h => h.elim,fun t v hv _ => ?_,?_,hF.2⟩
  · rw [hDL] at hk
    rw [hget k hk]
    refine (cons_uniq hd (Nat.zero_le i) hi ⟨hD k hk,fun j _ _ => ⟨fun h => by omega,False.elim⟩⟩ hc).symm
  · rw [hDL]; exact H.congr (fun _ _ => rfl) hget
  · rw [hDL]
    rintro t b ht ⟨k,c,h1,h2,h3,h4⟩
    rw [hget k h1] at h2
    exact .inr ⟨k,c,h1,h2,h3,h4⟩
  · obtain ⟨v',h1,h2⟩ := hF.1.get t v hv
    exact ⟨v',by rwa [Array.getElem?_toList] at h1,h2⟩
  · have := hF.1.length; simpa using this.symm

end
end Go.Ab
