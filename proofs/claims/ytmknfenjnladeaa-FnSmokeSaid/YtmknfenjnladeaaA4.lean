/- The relation of heaps: loads, stores, new blocks. -/
import Derived.Test.YtmknfenjnladeaaA3
namespace Go.Ab
open Go.RowKit (Below)
open Go.RowKit

def DomU (D : Nat → Prop) (a b : Nat) : Nat → Prop := fun k => D k ∨ (a ≤ k ∧ k < b)

structure Frm (W : Nat → Prop) (w w' : World) : Prop where
  os : w'.os = w.os
  tape : w'.tape = w.tape
  output : w'.output = w.output
  size : w.heap.size ≤ w'.heap.size
  block : ∀ b,b < w.heap.size → ¬ W b → w'.heap[b]? = w.heap[b]?

theorem Frm.refl (W : Nat → Prop) (w : World) : Frm W w w := ⟨rfl,rfl,rfl,Nat.le_refl _,fun _ _ _ => rfl⟩
theorem Frm.drew {W : Nat → Prop} {w w' : World} (h : Frm W w w') : Frm W w w'.drew := ⟨h.os,h.tape,h.output,h.size,h.block⟩
theorem Frm.alloc (W : Nat → Prop) (w : World) (o : Obj) : Frm W w (w.alloc o) :=
  ⟨rfl,rfl,rfl,by simp,fun b hb _ => Below.heap_alloc w o b hb⟩
theorem Frm.below {W : Nat → Prop} {w w' : World} (h : Frm W w w') {B : Nat} (hB : B ≤ w.heap.size) (hW : ∀ b,W b → B ≤ b) : Below B w w' :=
  ⟨h.os,h.tape,h.output,h.size,fun k hk => h.block k (by omega) (fun hw => by have := hW k hw; omega)⟩
theorem Frm.trans {W W1 W2 : Nat → Prop} {w w1 w2 : World} (h1 : Frm W1 w w1) (h2 : Frm W2 w1 w2) (k1 : ∀ b,W1 b → W b) (k2 : ∀ b,b < w.heap.size → W2 b → W b) : Frm W w w2 :=
  ⟨h2.os.trans h1.os,h2.tape.trans h1.tape,h2.output.trans h1.output,Nat.le_trans h1.size h2.size,fun b hb hn => by
    rw [h2.block b (Nat.lt_of_lt_of_le hb h1.size) (fun hw => hn (k2 b hb hw)),h1.block b hb (fun hw => hn (k1 b hw))]⟩

def OwnT (ι : Nat → Info) (D : Nat → Prop) (h : List Blk) (lo : Nat) (W : List Nat) (b : Nat) : Prop :=
  ∃ k c,D k ∧ h[k]? = some ⟨true,some c⟩ ∧ (ι k).blk = b ∧ (lo ≤ k ∨ k ∈ W)

theorem mem_insN {k q : Nat} : ∀ {l : List Nat},q ∈ insN k l ↔ q = k ∨ q ∈ l
  | [] => by simp [insN]
  | x :: l => by
    unfold insN
    cases h1 : Nat.beq k x with
    | true => have := Nat.eq_of_beq_eq_true h1; subst this; simp
    | false =>
      cases h2 : Nat.blt k x with
      | true => simp
      | false =>
        simp only [cond_false,List.mem_cons,mem_insN (l := l)]
        constructor
        · rintro (h | h | h)
          · exact .inr (.inl h)
          · exact .inl h
          · exact .inr (.inr h)
        · rintro (h | h | h)
          · exact .inr (.inl h)
          · exact .inl h
          · exact .inr (.inr h)
theorem mem_addW {lo k q : Nat} {l : List Nat} (h : q ∈ l) : q ∈ addW lo k l := by
  unfold addW
  cases Nat.blt k lo
  · exact h
  · exact mem_insN.2 (.inr h)
theorem addW_self (lo k : Nat) (l : List Nat) : lo ≤ k ∨ k ∈ addW lo k l := by
  unfold addW
  cases h : Nat.blt k lo with
  | true => exact .inr (mem_insN.2 (.inl rfl))
  | false =>
    refine .inl (Nat.le_of_not_lt fun hlt => ?_)
    rw [show Nat.blt k lo = true from Nat.ble_eq_true_of_le hlt] at h
    cases h
theorem of_addW {lo k q : Nat} {l : List Nat} (h : q ∈ addW lo k l) : q ∈ l ∨ (q = k ∧ k < lo) := by
  unfold addW at h
  cases hb : Nat.blt k lo with
  | true =>
    rw [hb] at h
    rcases mem_insN.1 h with e | e
    · exact .inr ⟨e,blt_true hb⟩
    · exact .inl e
  | false => rw [hb] at h; exact .inl h
theorem mem_unW {q : Nat} {m : List Nat} : ∀ {l : List Nat},q ∈ unW l m ↔ q ∈ l ∨ q ∈ m
  | [] => by simp [unW]
  | x :: l => by
    have := mem_unW (q := q) (m := m) (l := l)
    unfold unW at this ⊢
    simp only [List.foldr_cons,mem_insN,this,List.mem_cons]
    constructor
    · rintro (h | h | h)
      · exact .inl (.inl h)
      · exact .inl (.inr h)
      · exact .inr h
    · rintro ((h | h) | h)
      · exact .inl h
      · exact .inr (.inl h)
      · exact .inr (.inr h)

theorem cell_inj {I : Info} {i j i2 j2 : Nat} (hj : j < I.es) (hj2 : j2 < I.es) (h : I.cell i j = I.cell i2 j2) : i = i2 ∧ j = j2 := by
  simp only [Info.cell,Addr.mk.injEq,and_true,true_and] at h
  have h1 : i * I.es + j = i2 * I.es + j2 := by omega
  have hp : 0 < I.es := by omega
  have e1 : (i * I.es + j) / I.es = i := by
    rw [Nat.add_comm,Nat.add_mul_div_right _ _ hp,Nat.div_eq_of_lt hj,Nat.zero_add]
  have e2 : (i2 * I.es + j2) / I.es = i2 := by
    rw [Nat.add_comm,Nat.add_mul_div_right _ _ hp,Nat.div_eq_of_lt hj2,Nat.zero_add]
  have e : i = i2 := by rw [← e1,h1,e2]
  subst e
  exact ⟨rfl,by omega⟩

theorem ld_rel {P : Program} {B : Bnd P} {ι : Nat → Info} {D : Nat → Prop} {h : List Blk} {w : World} (H : WRel B ι D h w) {a a' : Addr} (ha : ARel ι D a a') {n : Nat} {vs : List Value} (hl : (true,vs) ∈ ldN h a n) :
    ∃ vs' : List Value,L2 (CRel ι D) vs vs' ∧ vs.length = n ∧ ∀ q v',vs'[q]? = some v' → w.cell? (a'.add q) = some v' := by
  obtain ⟨hD,j,hs,rfl⟩ := ha
  unfold ldN at hl
  rw [hs] at hl
  cases hb : h[a.block]? with
  | none => simp [hb] at hl
  | some b =>
    cases hc : b.con with
    | none => simp [hb,hc] at hl
    | some c =>
      simp only [hb,Option.bind_some,hc] at hl
      obtain ⟨hlen,hat⟩ := Con.getN_spec hl
      obtain ⟨_,hes,hcell⟩ := H.both _ _ _ hD hb hc
      have key : ∀ q,q < vs.length → ∃ v',w.cell? ((ι a.block).cell a.off (j + q)) = some v' ∧ CRel ι D (vs.getD q undef) v' := fun q hq => by
        have h1 := hat q vs[q] (List.getElem?_eq_getElem hq)
        obtain ⟨v',h2,h3⟩ := hcell _ _ _ h1
        exact ⟨v',h2,by simpa [List.getD,List.getElem?_eq_getElem hq] using h3⟩
      refine ⟨(List.range vs.length).map fun q => (w.cell? ((ι a.block).cell a.off (j + q))).getD undef,?_,hlen,?_⟩
      · refine L2.of_get (by simp) fun q v v' hv hv' => ?_
        have hq := (List.getElem?_eq_some_iff.1 hv).1
        obtain ⟨u,h2,h3⟩ := key q hq
        simp [List.getElem?_map,List.getElem?_range hq,h2] at hv'
        subst hv'
        simpa [List.getD,hv] using h3
      · intro q v' hv'
        have hq : q < vs.length := by simpa using (List.getElem?_eq_some_iff.1 hv').1
        obtain ⟨u,h2,h3⟩ := key q hq
        simp [List.getElem?_map,List.getElem?_range hq,h2] at hv'
        subst hv'
        rw [← h2]
        congr 1
        unfold Addr.add Info.cell
        split
        · simp [*]
        · simp; omega

theorem push_rel {P : Program} {B : Bnd P} {ι : Nat → Info} {D : Nat → Prop} {h : List Blk} {w : World} (H : WRel B ι D h w) (hD : ∀ k,D k → k < h.length) (c : Con) (cs' : Array Value) (t : TypeId) (room : Nat)
    (h1 : c.len ≤ room) (h2 : room * c.es ≤ cs'.size) (h3 : ∀ i j v,c.at i j = some v → ∃ v',cs'[i * c.es + j]? = some v' ∧ CRel ι D v v') :
    ∃ ι' : Nat → Info,(∀ k,k < h.length → ι' k = ι k) ∧ ι' h.length = ⟨w.heap.size,0,c.es,room,c.len⟩ ∧ WRel B ι' (DomU D h.length (h.length + 1)) (h ++ [⟨true,some c⟩]) (w.alloc (.cells cs' t)) := by
  refine ⟨fun k => if k = h.length then ⟨w.heap.size,0,c.es,room,c.len⟩ else ι k,fun k hk => if_neg (by omega),if_pos rfl,?_⟩
  have hmono : ∀ {v v' : Value},CRel ι D v v' → CRel (fun k => if k = h.length then ⟨w.heap.size,0,c.es,room,c.len⟩ else ι k) (DomU D h.length (h.length + 1)) v v' :=
    fun hc => CRel.mono (fun k hk => ⟨Or.inl hk,if_neg (by have := hD k hk; omega)⟩) hc
  have hnew : ∀ i,(w.alloc (.cells cs' t)).cell? ⟨w.heap.size,i,none⟩ = cs'[i]? := fun i => by simp
  have hold : ∀ k b,D k → h[k]? = some b → (h ++ [⟨true,some c⟩])[k]? = some b := fun k b hk hb => by rw [List.getElem?_append_left (hD k hk)]; exact hb
  have hget : ∀ k b,DomU D h.length (h.length + 1) k → (h ++ [⟨true,some c⟩])[k]? = some b → (k < h.length ∧ D k ∧ h[k]? = some b) ∨ (k = h.length ∧ b = ⟨true,some c⟩) := fun k b hk hb => by
    rcases hk with hk | hk
    · have := hD k hk
      rw [List.getElem?_append_left this] at hb
      exact .inl ⟨this,hk,hb⟩
    · have e : k = h.length := by omega
      refine .inr ⟨e,?_⟩
      rw [e] at hb
      simp at hb
      exact hb.symm
  refine ⟨?_,?_,?_,?_,by simp; have := H.le; omega,?_,H.gl.of_below (Nat.le_trans B.ge H.le) ((Frm.alloc (fun _ => False) w _).below (Nat.le_refl _) (fun _ h => h.elim))⟩
  · intro k b c0 hk hb hc
    rcases hget k b hk hb with ⟨hlt,hDk,hb'⟩ | ⟨rfl,rfl⟩
    · obtain ⟨g1,g2,g3⟩ := H.both k b c0 hDk hb' hc
      simp only [if_neg (show k ≠ h.length by omega)]
      refine ⟨fun h0 => by have := g1 h0; simp; omega,g2,fun i j v hv => ?_⟩
      obtain ⟨v',e1,e2⟩ := g3 i j v hv
      exact ⟨v',by rw [World.cell?_alloc_lt _ _ _ (g1 (Nat.lt_of_le_of_lt (Nat.zero_le _) (Con.at_lt hv).1))]; exact e1,hmono e2⟩
    · cases hc
      simp only [if_true]
      refine ⟨by simp,by simp,fun i j v hv => ?_⟩
      obtain ⟨v',e1,e2⟩ := h3 i j v hv
      refine ⟨v',?_,hmono e2⟩
      show (w.alloc (.cells cs' t)).cell? ⟨w.heap.size,0 + i * c.es + j,none⟩ = some v'
      rw [hnew,Nat.zero_add]; exact e1
  · intro k c0 hk hb
    rcases hget k _ hk hb with ⟨hlt,hDk,hb'⟩ | ⟨rfl,e⟩
    · obtain ⟨⟨g1,f1⟩,g2,g3⟩ := H.own k c0 hDk hb'
      simp only [if_neg (show k ≠ h.length by omega)]
      refine ⟨⟨g1,by simp; omega⟩,g2,fun i j hi hj => ?_⟩
      rw [World.cell?_alloc_lt _ _ _ f1,World.frozen?_alloc_old _ _ _ (Nat.ne_of_lt f1)]
      exact g3 i j hi hj
    · cases e
      simp only [if_true]
      refine ⟨⟨H.le,by simp⟩,h1,fun i j hi hj => ?_⟩
      have hlt : i * c.es + j < cs'.size := by
        have e1 : (i + 1) * c.es ≤ room * c.es := Nat.mul_le_mul_right _ hi
        rw [Nat.succ_mul] at e1
        omega
      refine ⟨?_,?_⟩
      · show ((w.alloc (.cells cs' t)).cell? ⟨w.heap.size,0 + i * c.es + j,none⟩).isSome = true
        rw [hnew,Nat.zero_add]; simp [hlt]
      · show (w.alloc (.cells cs' t)).frozen? ⟨w.heap.size,0 + i * c.es + j,none⟩ = false
        simp
  · intro k c0 hk hb
    rcases hget k _ hk hb with ⟨hlt,hDk,hb'⟩ | ⟨rfl,e⟩
    · simp only [if_neg (show k ≠ h.length by omega)]
      exact H.ro k c0 hDk hb'
    · cases e
  · intro k k' c0 c1 hk hk' hne hb hb'
    rcases hget k _ hk hb with ⟨hlt,hDk,g⟩ | ⟨rfl,e⟩ <;> rcases hget k' _ hk' hb' with ⟨hlt',hDk',g'⟩ | ⟨rfl,e'⟩
    · simp only [if_neg (show k ≠ h.length by omega),if_neg (show k' ≠ h.length by omega)]
      exact H.disj k k' c0 c1 hDk hDk' hne g g'
    · simp only [if_neg (show k ≠ h.length by omega),if_true]
      exact Nat.ne_of_lt (H.own k c0 hDk g).1.2
    · simp only [if_neg (show k' ≠ h.length by omega),if_true]
      exact Ne.symm (Nat.ne_of_lt (H.own k' c1 hDk' g').1.2)
    · exact absurd rfl hne
  · intro k b c0 hk hb hc
    rcases hget k b hk hb with ⟨hlt,hDk,hb'⟩ | ⟨rfl,rfl⟩
    · simp only [if_neg (show k ≠ h.length by omega)]
      exact H.lens k b c0 hDk hb' hc
    · cases hc
      simp only [if_true]

theorem heap_setCells (b : Nat) : ∀ (vs : List Value) (o : Nat) (w : World) (k : Nat),k ≠ b → (w.setCells b o vs).heap[k]? = w.heap[k]?
  | [],_,_,_,_ => rfl
  | v :: r,o,w,k,h => by rw [World.setCells,heap_setCells b r _ _ _ h,Below.heap_setCell _ _ _ _ h]

theorem st_rel {P : Program} {B : Bnd P} {ι : Nat → Info} {D : Nat → Prop} {s s1 : St} {w : World} (H : WRel B ι D s.h w) {a a' : Addr} (ha : ARel ι D a a') {vs : List Value} {vs' : List Value} (hv : L2 (CRel ι D) vs vs') (hpos : 0 < vs.length)
    (hst : (true,s1) ∈ stN s a vs) :
    ∃ w',(storeCells a' vs').run P w = .ok () w' ∧ WRel B ι D s1.h w' ∧ Frm (OwnT ι D s.h s.lo s1.wr) w w' ∧ s1.h.length = s.h.length ∧ s1.lo = s.lo ∧ (∀ q,q ∈ s.wr → q ∈ s1.wr) ∧
      (∀ t b,OwnT ι D s1.h s.lo t b → OwnT ι D s.h s.lo t b) := by
  obtain ⟨hD,j,hs,rfl⟩ := ha
  unfold stN at hst
  rw [hs] at hst
  cases hb : s.h[a.block]? with
  | none => simp [hb] at hst
  | some b =>
    obtain ⟨bw,bc⟩ := b
    cases bc with
    | none => simp [hb] at hst
    | some c =>
      simp only [hb,List.mem_map,Prod.mk.injEq] at hst
      obtain ⟨⟨b0,c'⟩,hm,hbw,rfl⟩ := hst
      simp only [Bool.and_eq_true] at hbw
      obtain ⟨rfl,rfl⟩ := hbw
      obtain ⟨p1,p2,p3,p4,p5,p6⟩ := Con.putN_spec hpos hm
      obtain ⟨g1,g2,g3⟩ := H.both _ _ _ hD hb rfl
      obtain ⟨o1,o2,o3⟩ := H.own _ _ hD hb
      have hlen := hv.length
      have hes : j + vs.length ≤ (ι a.block).es := by rw [g2]; exact p4
      have hcells : ∀ q,q < vs'.length → (w.cell? ⟨(ι a.block).blk,(ι a.block).base + a.off * (ι a.block).es + j + q,none⟩).isSome = true ∧ w.frozen? ⟨(ι a.block).blk,(ι a.block).base + a.off * (ι a.block).es + j + q,none⟩ = false := fun q hq => by
        have := o3 a.off (j + q) (by omega) (by omega)
        simpa [Info.cell,Nat.add_assoc] using this
      have hone : ∀ v ∈ vs',v.oneCell' = true := fun v hvm => by
        obtain ⟨q,hq,e⟩ := List.getElem_of_mem hvm
        have h1 : q < vs.length := by omega
        obtain ⟨v2,e2,e3⟩ := hv.get q vs[q] (List.getElem?_eq_getElem h1)
        rw [List.getElem?_eq_getElem hq] at e2
        cases e2
        rw [← e]; exact e3.one
      have hrun := run_storeCells_cells (P := P) (ι a.block).blk ((ι a.block).base + a.off * (ι a.block).es + j) vs' 0 w (fun q hq => by simpa using (hcells q hq).1) (fun q hq => by simpa using (hcells q hq).2) hone
      have hfrm : Frm (OwnT ι D s.h s.lo (addW s.lo a.block s.wr)) w (w.setCells (ι a.block).blk ((ι a.block).base + a.off * (ι a.block).es + j + 0) vs') := by
        have hb1 := Below.setCells (Below.refl (ι a.block).blk w) (Nat.le_refl _) vs' ((ι a.block).base + a.off * (ι a.block).es + j + 0)
        refine ⟨hb1.os,hb1.tape,hb1.output,hb1.size,fun b hb2 hn => ?_⟩
        exact heap_setCells _ _ _ _ _ (fun e => hn ⟨a.block,c,hD,hb,e.symm,addW_self _ _ _⟩)
      refine ⟨_,hrun,?_,hfrm,by simp,rfl,fun q hq => mem_addW hq,?_⟩
      rotate_left
      · rintro t b ⟨k,c0,hk,e,eb,et⟩
        by_cases hne : k = a.block
        · subst hne; exact ⟨_,c,hk,hb,eb,et⟩
        · rw [List.getElem?_set_ne (Ne.symm hne)] at e; exact ⟨k,c0,hk,e,eb,et⟩
      simp only [Nat.add_zero]
      -- the cells behind
      have hblk : ∀ k b',D k → k ≠ a.block → (s.h.set a.block ⟨true,some c'⟩)[k]? = some b' → s.h[k]? = some b' := fun k b' _ hne e => by rwa [List.getElem?_set_ne (Ne.symm hne)] at e
      have hself : (s.h.set a.block ⟨true,some c'⟩)[a.block]? = some ⟨true,some c'⟩ := List.getElem?_set_self (List.getElem?_eq_some_iff.1 hb).1
      have hout : ∀ (x : Addr),(x.block ≠ (ι a.block).blk) → (w.setCells (ι a.block).blk ((ι a.block).base + a.off * (ι a.block).es + j) vs').cell? x = w.cell? x := fun x hx => World.cell?_setCells_out _ _ _ _ _ (fun e => absurd e hx)
      have hother : ∀ k b' c0,D k → k ≠ a.block → s.h[k]? = some b' → b'.con = some c0 → (b'.w = true ∨ 0 < c0.len) → (ι k).blk ≠ (ι a.block).blk := fun k b' c0 hk hne e ec h0 => by
        obtain ⟨bw',bc'⟩ := b'
        simp only at ec; subst ec
        cases bw' with
        | true => exact H.disj k a.block c0 c hk hD hne e hb
        | false =>
          have := H.ro k c0 hk e (h0.resolve_left (by simp))
          have := o1.1
          omega
      refine ⟨?_,?_,?_,?_,by rw [size_setCells]; exact H.le,?_,H.gl.of_below (Nat.le_trans B.ge (Nat.le_refl _)) ((Below.setCells (Below.refl _ w) o1.1 vs' _))⟩
      · intro k b' c0 hk e ec
        by_cases hne : k = a.block
        · subst hne
          rw [hself] at e; cases e
          simp only [Option.some.injEq] at ec; subst ec
          refine ⟨fun _ => by rw [size_setCells]; exact o1.2,by rw [p1]; exact g2,fun i2 j2 v hat => ?_⟩
          by_cases hin : i2 = a.off ∧ j ≤ j2 ∧ j2 < j + vs.length
          · obtain ⟨rfl,h1,h2⟩ := hin
            obtain ⟨q,rfl⟩ : ∃ q,j2 = j + q := ⟨j2 - j,by omega⟩
            have hq : q < vs.length := by omega
            have h3 := p5 q v hat hq
            obtain ⟨v',e2,e3⟩ := hv.get q v h3
            refine ⟨v',?_,e3⟩
            have hq' : q < vs'.length := by omega
            have := World.cell?_setCells_in (ι a.block).blk vs' ((ι a.block).base + a.off * (ι a.block).es + j) w (fun q hq => (hcells q hq).1) q hq'
            rw [List.getElem?_eq_getElem hq'] at e2
            cases e2
            simpa [Info.cell,Nat.add_assoc] using this
          · have hat2 : c.at i2 j2 = some v := by rw [← p6 i2 j2 (by omega)]; exact hat
            obtain ⟨v',e2,e3⟩ := g3 i2 j2 v hat2
            refine ⟨v',?_,e3⟩
            rw [← e2]
            refine World.cell?_setCells_out _ _ _ _ _ (fun _ _ => ?_)
            have hj2 : j2 < (ι a.block).es := by rw [g2]; exact (Con.at_lt hat2).2
            apply Classical.byContradiction
            intro hcon
            have hcon' : ∃ q,q < vs'.length ∧ (ι a.block).cell i2 j2 = (ι a.block).cell a.off (j + q) := by
              refine ⟨((ι a.block).cell i2 j2).off - ((ι a.block).base + a.off * (ι a.block).es + j),by omega,?_⟩
              simp only [Info.cell,Addr.mk.injEq,true_and,and_true] at hcon ⊢
              omega
            obtain ⟨q,hq,eq⟩ := hcon'
            have := cell_inj hj2 (by omega) eq
            omega
        · have e' := hblk k b' hk hne e
          obtain ⟨f1,f2,f3⟩ := H.both k b' c0 hk e' ec
          refine ⟨by rw [size_setCells]; exact f1,f2,fun i2 j2 v hat => ?_⟩
          rw [hout _ (by simpa [Info.cell] using hother k b' c0 hk hne e' ec (.inr (Nat.lt_of_le_of_lt (Nat.zero_le _) (Con.at_lt hat).1)))]
          exact f3 i2 j2 v hat
      · intro k c0 hk e
        by_cases hne : k = a.block
        · subst hne
          rw [hself] at e
          simp only [Option.some.injEq,Blk.mk.injEq,true_and] at e; subst e
          refine ⟨by rw [size_setCells]; exact o1,by rw [p2]; exact o2,fun i2 j2 hi hj => ?_⟩
          rw [World.frozen?_setCells]
          refine ⟨?_,(o3 i2 j2 hi hj).2⟩
          by_cases hin : ∃ q,q < vs'.length ∧ (ι a.block).cell i2 j2 = ⟨(ι a.block).blk,(ι a.block).base + a.off * (ι a.block).es + j + q,none⟩
          · obtain ⟨q,hq,eq⟩ := hin
            rw [eq,World.cell?_setCells_in (ι a.block).blk vs' ((ι a.block).base + a.off * (ι a.block).es + j) w (fun q hq => (hcells q hq).1) q hq]; rfl
          · rw [World.cell?_setCells_out]
            · exact (o3 i2 j2 hi hj).1
            · intro _ _
              apply Classical.byContradiction
              intro hcon
              exact hin ⟨((ι a.block).cell i2 j2).off - ((ι a.block).base + a.off * (ι a.block).es + j),by omega,by simp only [Info.cell,Addr.mk.injEq,true_and,and_true] at hcon ⊢; omega⟩
        · have e' := hblk k _ hk hne e
          obtain ⟨f1,f2,f3⟩ := H.own k c0 hk e'
          refine ⟨by rw [size_setCells]; exact f1,f2,fun i2 j2 hi hj => ?_⟩
          rw [World.frozen?_setCells,hout _ (by simpa [Info.cell] using hother k _ c0 hk hne e' rfl (.inl rfl))]
          exact f3 i2 j2 hi hj
      · intro k c0 hk e
        by_cases hne : k = a.block
        · subst hne
          rw [hself] at e; cases e
        · exact H.ro k c0 hk (hblk k _ hk hne e)
      · intro k k' c0 c1 hk hk' hne e e'
        by_cases h1 : k = a.block
        · subst h1
          have e2 := hblk k' _ hk' (Ne.symm hne) e'
          exact H.disj _ _ c c1 hk hk' hne hb e2
        · by_cases h2 : k' = a.block
          · subst h2
            exact H.disj _ _ c0 c hk hk' hne (hblk k _ hk h1 e) hb
          · exact H.disj _ _ c0 c1 hk hk' hne (hblk k _ hk h1 e) (hblk k' _ hk' h2 e')
      · intro k b' c0 hk e ec
        by_cases hne : k = a.block
        · subst hne
          rw [hself] at e; cases e
          simp only [Option.some.injEq] at ec; subst ec
          rw [p2]; exact H.lens _ _ _ hD hb rfl
        · exact H.lens k b' c0 hk (hblk k b' hk hne e) ec

end Go.Ab
