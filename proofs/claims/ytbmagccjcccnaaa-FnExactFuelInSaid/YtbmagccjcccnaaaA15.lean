/- A region whose order is drawn: the proof. -/
import Derived.Test.YtbmagccjcccnaaaA14
namespace Go.Ab
open Go.RowKit (Below)

section
variable {P : Program} {ext : FuncId → Option Ext} {cf : CallF} {ops : List Oper} {Fr : Nat → List Value} {S : Nat → St} {V : Nat → Value} {K : Nat → Kd}

/-- the blocks that are known of those that stand before place 'i', once the operations of 'L' have come up -/
def DL (D : Nat → Prop) (S : Nat → St) (L : Nat → Prop) (i : Nat) (k : Nat) : Prop := D k ∨ ∃ j, j < i ∧ L j ∧ (S j).h.length ≤ k ∧ k < (S (j + 1)).h.length

/-- what the static look at a region gives -/
structure Ok (ops : List Oper) (K : Nat → Kd) : Prop where
  pair : ∀ (i j : Nat) (o p : Oper), i < j → ops[i]? = some o → ops[j]? = some p → ((ancs ops []).getD j 0).testBit i = true ∨ (Oper.apart ops.toArray o p = true ∧ okPair (K i) (K j) = true)
  dst : ∀ (i j : Nat) (o p : Oper) (d : Tmp), ops[i]? = some o → ops[j]? = some p → o.dst = some d → p.dst = some d → i = j
  edge : ∀ (i : Nat) (o : Oper) (e : Edge), ops[i]? = some o → e ∈ o.after.toList → Region.binds .any e = true → e.on < i

theorem nodup_dst : ∀ {ops : List Oper}, nodupB (ops.filterMap (·.dst)) = true → ∀ (i j : Nat) (o p : Oper) (d : Tmp), ops[i]? = some o → ops[j]? = some p → o.dst = some d → p.dst = some d → i = j
  | [], _, i, j, o, p, d, h, _, _, _ => by simp at h
  | x :: l, hn, i, j, o, p, d, ho, hp, hod, hpd => by
    have tail : nodupB (l.filterMap (·.dst)) = true := by
      simp only [List.filterMap_cons] at hn
      split at hn
      · exact hn
      · simp only [nodupB, Bool.and_eq_true] at hn; exact hn.2
    have head : ∀ d', x.dst = some d' → ∀ (k : Nat) (q : Oper), l[k]? = some q → q.dst ≠ some d' := by
      intro d' hd' k q hq e
      simp only [List.filterMap_cons, hd'] at hn
      simp only [nodupB, Bool.and_eq_true, Bool.not_eq_true'] at hn
      have : d' ∈ l.filterMap (·.dst) := List.mem_filterMap.2 ⟨q, List.mem_of_getElem? hq, e⟩
      have h2 := hn.1
      rw [List.contains_iff_mem.2 this] at h2
      cases h2
    cases i with
    | zero => cases j with
      | zero => rfl
      | succ j =>
        simp at ho hp; subst ho
        exact absurd hpd (head d hod j p hp)
    | succ i => cases j with
      | zero =>
        simp at ho hp; subst hp
        exact absurd hod (head d hpd i o ho)
      | succ j =>
        simp at ho hp
        rw [nodup_dst tail i j o p d ho hp hod hpd]

theorem ok_of_order {ks : List Kd} (hk : ∀ i : Nat, i < ops.length → ks[i]? = some (K i)) (h : orderOk ops ks = true) : Ok ops K := by
  simp only [orderOk, Bool.and_eq_true] at h
  obtain ⟨⟨h1, h2⟩, h3⟩ := h
  refine ⟨?_, nodup_dst h2, ?_⟩
  · intro i j o p hij ho hp
    have hjl := (List.getElem?_eq_some_iff.1 hp).1
    unfold pairsOk at h1
    rw [List.all_eq_true] at h1
    have g1 := h1 (p, j) (List.mk_mem_zipIdx_iff_getElem?.2 hp)
    simp only at g1
    rw [List.all_eq_true] at g1
    have g2 := g1 (o, i) (List.mk_mem_zipIdx_iff_getElem?.2 (by rw [List.getElem?_take, if_pos hij]; exact ho))
    simp only [Bool.or_eq_true, Bool.and_eq_true] at g2
    have e1 : ks.getD i .write = K i := by rw [List.getD_eq_getElem?_getD, hk i (by omega)]; rfl
    have e2 : ks.getD j .write = K j := by rw [List.getD_eq_getElem?_getD, hk j hjl]; rfl
    rw [e1, e2] at g2
    exact g2
  · intro i o e ho he hb
    unfold edgesOk at h3
    rw [List.all_eq_true] at h3
    have g1 := h3 (o, i) (List.mk_mem_zipIdx_iff_getElem?.2 ho)
    simp only at g1
    rw [List.all_eq_true] at g1
    have g2 := g1 e he
    rw [hb] at g2
    exact blt_true (by simpa using g2)

/-- where a run of the region stands, the operations of 'L' having come up: 'm': the first write that has not; 'p': behind the last that has -/
structure Inv (B : Nat) (ι : Nat → Info) (D : Nat → Prop) (ops : List Oper) (Fr : Nat → List Value) (S : Nat → St) (V : Nat → Value) (K : Nat → Kd) (w0 : World) (L : Nat → Prop) (p m : Nat) (ι' : Nat → Info) (a : Act) (w : World) : Prop where
  ple : p ≤ m
  mle : m ≤ ops.length
  mun : m < ops.length → K m = .write ∧ ¬ L m
  mall : ∀ i, i < m → K i = .write → L i
  seg : ∀ q, p ≤ q → q < m → K q ≠ .write
  pex : 0 < p → K (p - 1) = .write ∧ L (p - 1)
  agree : ∀ k, k < (S 0).h.length → ι' k = ι k
  rel : ∀ i, p ≤ i → i ≤ m → WRel B ι' (DL D S L i) (S i).h w
  frm : Frm (OwnT ι D (S 0).h (S 0).lo (S m).touched) w0 w
  prov : ∀ t b, (t = false → (S m).touched = false) → OwnT ι' (DL D S L m) (S m).h (S 0).lo t b → w0.heap.size ≤ b ∨ OwnT ι D (S 0).h (S 0).lo t b
  done : ∀ (i : Nat) (o : Oper) (d : Tmp), ops[i]? = some o → L i → o.dst = some d → d < (Fr 0).length → ∃ v', a.tmps[d]? = some v' ∧ VRel ι' (DL D S L (i + 1)) (V i) v'
  todo : ∀ (t : Tmp) (v : Value), (Fr 0)[t]? = some v → (∀ (i : Nat) (o : Oper), ops[i]? = some o → L i → o.dst ≠ some t) → ∃ v', a.tmps[t]? = some v' ∧ VRel ι' D v v'
  size : a.tmps.size = (Fr 0).length
  defers : a.defers = []

/-- which operations may not be behind 'm' -/
theorem Ok.not_past (hok : Ok ops K) {L : Nat → Prop} (hcl : ∀ (j : Nat) (o : Oper) (e : Edge), ops[j]? = some o → L j → e ∈ o.after.toList → Region.binds .any e = true → L e.on) {m i : Nat} {o : Oper} (hm : m < ops.length) (hmw : K m = .write) (hmL : ¬ L m)
    (ho : ops[i]? = some o) (hr : L i ∨ ∀ e, e ∈ o.after.toList → Region.binds .any e = true → L e.on) (hk : K i ≠ .pure) : i ≤ m := by
  apply Nat.le_of_not_lt
  intro hlt
  have hil := (List.getElem?_eq_some_iff.1 ho).1
  rcases hok.pair m i ops[m] o hlt (List.getElem?_eq_getElem hm) ho with h | ⟨_, h⟩
  · refine hmL ?_
    rcases hr with hr | hr
    · exact anc_closed hcl i m hil hr h
    · exact anc_ready hcl ho hr h
  · rw [hmw] at h
    cases hki : K i <;> rw [hki] at h hk <;> first | (exact hk rfl) | (cases h)

theorem DL_lt (hd : Data P ext cf ops ops Fr S V K) {D : Nat → Prop} {L : Nat → Prop} {i : Nat} (hD : ∀ k, D k → k < (S 0).h.length) (hi : i ≤ ops.length) : ∀ k, DL D S L i k → k < (S i).h.length := by
  rintro k (hk | ⟨j, h1, h2, h3, h4⟩)
  · exact Nat.lt_of_lt_of_le (hD k hk) (hd.len (Nat.zero_le _) hi)
  · exact Nat.lt_of_lt_of_le h4 (hd.len h1 hi)
theorem DL_mono {D : Nat → Prop} {L : Nat → Prop} {i j : Nat} (h : i ≤ j) {k : Nat} (hk : DL D S L i k) : DL D S L j k := by
  rcases hk with hk | ⟨q, h1, h2⟩
  · exact .inl hk
  · exact .inr ⟨q, by omega, h2⟩
/-- one more has come up, which stands not before 'i' -/
theorem DL_same {D : Nat → Prop} {L : Nat → Prop} {i q : Nat} (h : i ≤ q) : DL D S (fun j => L j ∨ j = q) i = DL D S L i := by
  funext k; apply propext
  constructor
  · rintro (hk | ⟨j, h1, h2, h3⟩)
    · exact .inl hk
    · rcases h2 with h2 | h2
      · exact .inr ⟨j, h1, h2, h3⟩
      · omega
  · rintro (hk | ⟨j, h1, h2, h3⟩)
    · exact .inl hk
    · exact .inr ⟨j, h1, .inl h2, h3⟩
theorem DL_new {D : Nat → Prop} {L : Nat → Prop} {i q : Nat} (h : q < i) : DL D S (fun j => L j ∨ j = q) i = DomU (DL D S L i) (S q).h.length (S (q + 1)).h.length := by
  funext k; apply propext
  constructor
  · rintro (hk | ⟨j, h1, h2, h3⟩)
    · exact .inl (.inl hk)
    · rcases h2 with h2 | h2
      · exact .inl (.inr ⟨j, h1, h2, h3⟩)
      · subst h2; exact .inr h3
  · rintro ((hk | ⟨j, h1, h2, h3⟩) | hk)
    · exact .inl hk
    · exact .inr ⟨j, h1, .inl h2, h3⟩
    · exact .inr ⟨q, h, .inr rfl, hk⟩
/-- .. and makes no block -/
theorem DL_none {D : Nat → Prop} {L : Nat → Prop} {i q : Nat} (h : S (q + 1) = S q) : DL D S (fun j => L j ∨ j = q) i = DL D S L i := by
  funext k; apply propext
  constructor
  · rintro (hk | ⟨j, h1, h2, h3⟩)
    · exact .inl hk
    · rcases h2 with h2 | h2
      · exact .inr ⟨j, h1, h2, h3⟩
      · subst h2; rw [h] at h3; omega
  · rintro (hk | ⟨j, h1, h2, h3⟩)
    · exact .inl hk
    · exact .inr ⟨j, h1, .inl h2, h3⟩

theorem wrel_dead {B : Nat} {ι : Nat → Info} {D : Nat → Prop} {w : World} (n : Nat) (h : B ≤ w.heap.size) : WRel B ι D (List.replicate n deadB) w := by
  have hg : ∀ (k : Nat) (b : Blk), (List.replicate n deadB)[k]? = some b → b.con = none := fun k b hb => by
    rw [List.getElem?_replicate] at hb
    split at hb
    · cases hb; rfl
    · cases hb
  refine ⟨fun k b c _ hb hc => ?_, fun k c _ hb => ?_, fun k c _ hb => ?_, fun k k' c c' _ _ _ hb => ?_, h, fun k b c _ hb hc => by rw [hg k b hb] at hc; cases hc⟩
  · rw [hg k b hb] at hc; cases hc
  · have := hg _ _ hb; cases this
  · have := hg _ _ hb; cases this
  · have := hg _ _ hb; cases this

/-- temporaries behind one more operation -/
theorem put_get {a : Act} {dst : Option Tmp} {v : Value} {t : Tmp} (h : dst ≠ some t) : (a.put dst v).tmps[t]? = a.tmps[t]? := by
  cases dst with
  | none => rfl
  | some d =>
    simp only [Act.put]
    rw [Array.getElem?_setIfInBounds_ne]
    intro e; exact h (by rw [e])
theorem put_self {a : Act} {d : Tmp} {v : Value} (h : d < a.tmps.size) : (a.put (some d) v).tmps[d]? = some v := by
  simp only [Act.put]
  rw [Array.getElem?_setIfInBounds_self_of_lt h]

/-- THE FRAME'S PART OF A STEP -/
theorem inv_frame {B : Nat} {ι : Nat → Info} {D : Nat → Prop} {w0 w : World} {L : Nat → Prop} {p m : Nat} {ι' ι2 : Nat → Info} {a : Act} (I : Inv B ι D ops Fr S V K w0 L p m ι' a w) (hok : Ok ops K)
    {i : Nat} {o : Oper} (ho : ops[i]? = some o) {v' : Value} (hm : ∀ j k, DL D S L j k → DL D S (fun j => L j ∨ j = i) j k ∧ ι2 k = ι' k) (hv : VRel ι2 (DL D S (fun j => L j ∨ j = i) (i + 1)) (V i) v') :
    (∀ (q : Nat) (o2 : Oper) (d : Tmp), ops[q]? = some o2 → (L q ∨ q = i) → o2.dst = some d → d < (Fr 0).length → ∃ u', (a.put o.dst v').tmps[d]? = some u' ∧ VRel ι2 (DL D S (fun j => L j ∨ j = i) (q + 1)) (V q) u') ∧
    (∀ (t : Tmp) (v : Value), (Fr 0)[t]? = some v → (∀ (q : Nat) (o2 : Oper), ops[q]? = some o2 → (L q ∨ q = i) → o2.dst ≠ some t) → ∃ u', (a.put o.dst v').tmps[t]? = some u' ∧ VRel ι2 D v u') ∧
    (a.put o.dst v').tmps.size = (Fr 0).length ∧ (a.put o.dst v').defers = [] := by
  refine ⟨?_, ?_, ?_, ?_⟩
  · intro q o2 d hq hL hdq hdl
    by_cases e : q = i
    · subst e
      rw [ho] at hq; cases hq
      rw [hdq]
      exact ⟨v', put_self (by rw [I.size]; exact hdl), hv⟩
    · have hLq : L q := hL.resolve_right e
      obtain ⟨u', h1, h2⟩ := I.done q o2 d hq hLq hdq hdl
      refine ⟨u', ?_, h2.mono (hm _)⟩
      rw [put_get (fun e2 => e (hok.dst q i o2 o d hq ho hdq e2))]
      exact h1
  · intro t v htv hno
    obtain ⟨u', h1, h2⟩ := I.todo t v htv (fun q o2 hq hLq => hno q o2 hq (.inl hLq))
    refine ⟨u', ?_, h2.mono fun k hk => ⟨hk, (hm 0 k (.inl hk)).2⟩⟩
    rw [put_get (hno i o ho (.inr rfl))]
    exact h1
  · cases hdst : o.dst with
    | none => exact I.size
    | some d => simp only [Act.put, Array.size_setIfInBounds]; exact I.size
  · cases hdst : o.dst with
    | none => exact I.defers
    | some d => exact I.defers

theorem OpY.mono {ρ' : Operand → Value} {o : Oper} {w : World} {R R' : Value → World → Prop} (h : OpY P ρ' o w R) (hr : ∀ v' w', R v' w' → R' v' w') : OpY P ρ' o w R' := by
  unfold OpY at h ⊢
  cases hrun : (execOp ρ' o).run P w with
  | halt x w' => rw [hrun] at h; exact h
  | ok n w' =>
    rw [hrun] at h
    cases n <;> simp only at h ⊢ <;> try exact h
    · exact hr _ _ h
    · exact hr _ _ h
    · exact Calls.mono h fun e w'' ⟨v', he, hR⟩ => ⟨v', he, hr _ _ hR⟩

theorem Frm.more {W : Nat → Prop} {w0 w w' : World} (h : Frm W w0 w) (hb : Below w.heap.size w w') : Frm W w0 w' :=
  ⟨hb.os.trans h.os, hb.tape.trans h.tape, hb.output.trans h.output, Nat.le_trans h.size hb.size, fun b hlt hn => by
    rw [hb.block b (Nat.lt_of_lt_of_le hlt h.size)]; exact h.block b hlt hn⟩
theorem Frm.none {W : Nat → Prop} {w w' : World} (h : Frm W w w') (hn : ∀ b, ¬ W b) : Below w.heap.size w w' :=
  ⟨h.os, h.tape, h.output, h.size, fun b hb => h.block b hb (hn b)⟩

theorem WRel.congr {B : Nat} {ι ι2 : Nat → Info} {D : Nat → Prop} {h h2 : List Blk} {w : World} (H : WRel B ι D h w) (hι : ∀ k, D k → ι2 k = ι k) (hh : ∀ k, D k → h2[k]? = h[k]?) : WRel B ι2 D h2 w := by
  have hm : ∀ k, D k → D k ∧ ι2 k = ι k := fun k hk => ⟨hk, hι k hk⟩
  refine ⟨?_, ?_, ?_, ?_, H.le, fun k b c hk hb hc => by rw [hh k hk] at hb; rw [hι k hk]; exact H.lens k b c hk hb hc⟩
  · intro k b c hk hb hc
    rw [hh k hk] at hb
    obtain ⟨g1, g2, g3⟩ := H.both k b c hk hb hc
    rw [hι k hk]
    refine ⟨g1, g2, fun i j v hv => ?_⟩
    obtain ⟨v', q1, q2⟩ := g3 i j v hv
    exact ⟨v', q1, q2.mono hm⟩
  · intro k c hk hb
    rw [hh k hk] at hb; rw [hι k hk]; exact H.own k c hk hb
  · intro k c hk hb
    rw [hh k hk] at hb; rw [hι k hk]; exact H.ro k c hk hb
  · intro k k' c c' hk hk' hne hb hb'
    rw [hh k hk] at hb; rw [hh k' hk'] at hb'; rw [hι k hk, hι k' hk']
    exact H.disj k k' c c' hk hk' hne hb hb'

theorem next_write (K : Nat → Kd) (n : Nat) : ∀ d p, n - p = d → p ≤ n → ∃ m, p ≤ m ∧ m ≤ n ∧ (∀ q, p ≤ q → q < m → K q ≠ .write) ∧ (m < n → K m = .write)
  | 0, p, h, hp => ⟨p, Nat.le_refl _, hp, fun q h1 h2 => by omega, fun h1 => by omega⟩
  | d + 1, p, h, hp => by
    by_cases hk : K p = .write
    · exact ⟨p, Nat.le_refl _, hp, fun q h1 h2 => by omega, fun _ => hk⟩
    · obtain ⟨m, g1, g2, g3, g4⟩ := next_write K n d (p + 1) (by omega) (by omega)
      refine ⟨m, by omega, g2, fun q h1 h2 => ?_, g4⟩
      by_cases e : q = p
      · rw [e]; exact hk
      · exact g3 q (by omega) h2

set_option maxHeartbeats 1000000 in
theorem inv_step (hcf : CfOk P cf) (hext : ExtOk P ext) (hd : Data P ext cf ops ops Fr S V K) (hok : Ok ops K) {B : Nat} {ι : Nat → Info} {D : Nat → Prop} {w0 : World} (hD : ∀ k, D k → k < (S 0).h.length)
    {L : Nat → Prop} (hLn : ∀ j, L j → j < ops.length) (hcl : ∀ (j : Nat) (o : Oper) (e : Edge), ops[j]? = some o → L j → e ∈ o.after.toList → Region.binds .any e = true → L e.on) {p m : Nat} {ι' : Nat → Info} {a : Act} {w : World} (I : Inv B ι D ops Fr S V K w0 L p m ι' a w)
    {i : Nat} {o : Oper} (ho : ops[i]? = some o) (hiL : ¬ L i) (hr : ∀ e, e ∈ o.after.toList → Region.binds .any e = true → L e.on) :
    (Region.wanted o (yielded ops.toArray a.tmps) = false ∧ ∃ p' m' ι2, Inv B ι D ops Fr S V K w0 (fun j => L j ∨ j = i) p' m' ι2 (a.put o.dst undef) w) ∨
    (Region.wanted o (yielded ops.toArray a.tmps) = true ∧ OpY P a.eval o w (fun v' w' => ∃ p' m' ι2, Inv B ι D ops Fr S V K w0 (fun j => L j ∨ j = i) p' m' ι2 (a.put o.dst v') w')) := by
  have hil : i < ops.length := (List.getElem?_eq_some_iff.1 ho).1
  obtain ⟨fl, fdone, ftodo⟩ := hd.frame hok.dst (Nat.le_of_lt hil)
  -- what is past 'm' and has come up is pure
  have hpast : ∀ j, j < ops.length → L j → K j ≠ .pure → j < m := by
    intro j hj hLj hkj
    by_cases hm : m < ops.length
    · obtain ⟨g1, g2⟩ := I.mun hm
      have := hok.not_past hcl hm g1 g2 (List.getElem?_eq_getElem hj) (.inl hLj) hkj
      apply Nat.lt_of_le_of_ne this
      intro e; subst e; exact g2 hLj
    · have := I.mle; omega
  have hipast : K i ≠ .pure → i ≤ m := by
    intro hki
    by_cases hm : m < ops.length
    · obtain ⟨g1, g2⟩ := I.mun hm
      exact hok.not_past hcl hm g1 g2 ho (.inr hr) hki
    · have := I.mle; omega
  -- a temporary that the operation looks at holds what the text's order has there
  have hlook : ∀ t, t ∈ o.looksAt ops.toArray → ∀ v, (Fr i)[t]? = some v → ∃ v', a.tmps[t]? = some v' ∧ VRel ι' (DL D S L i) v v' := by
    intro t ht v hv
    by_cases hex : ∃ (j : Nat) (p : Oper), ops[j]? = some p ∧ p.dst = some t
    · obtain ⟨j, p, hp, hpd⟩ := hex
      have htl : t < (Fr 0).length := by rw [← fl]; exact (List.getElem?_eq_some_iff.1 hv).1
      rcases Nat.lt_trichotomy j i with hji | hji | hji
      · have hLj : L j := by
          rcases hok.pair j i p o hji hp ho with h | ⟨h, _⟩
          · exact anc_ready hcl ho hr h
          · exact absurd ht ((Oper.apart_spec h).1 t hpd)
        have e1 := fdone j p t hji hp hpd htl
        rw [hv] at e1; cases e1
        obtain ⟨v', g1, g2⟩ := I.done j p t hp hLj hpd htl
        exact ⟨v', g1, g2.mono fun k hk => ⟨DL_mono hji hk, rfl⟩⟩
      · subst hji
        rw [ho] at hp; cases hp
        have e1 := ftodo t (fun q p2 hq hp2 e => by have := hok.dst q j p2 o t hp2 ho e hpd; omega)
        rw [hv] at e1
        obtain ⟨v', g1, g2⟩ := I.todo t v e1.symm (fun q p2 hp2 hLq e => by have := hok.dst q j p2 o t hp2 ho e hpd; subst this; exact hiL hLq)
        exact ⟨v', g1, g2.mono fun k hk => ⟨.inl hk, rfl⟩⟩
      · have hLj : ¬ L j := by
          intro hLj
          have hjl := (List.getElem?_eq_some_iff.1 hp).1
          rcases hok.pair i j o p hji ho hp with h | ⟨h, _⟩
          · exact hiL (anc_closed hcl j i hjl hLj h)
          · exact absurd ht ((Oper.apart_spec h).2.2 t hpd)
        have e1 := ftodo t (fun q p2 hq hp2 e => by have := hok.dst q j p2 p t hp2 hp e hpd; omega)
        rw [hv] at e1
        obtain ⟨v', g1, g2⟩ := I.todo t v e1.symm (fun q p2 hp2 hLq e => by have := hok.dst q j p2 p t hp2 hp e hpd; subst this; exact hLj hLq)
        exact ⟨v', g1, g2.mono fun k hk => ⟨.inl hk, rfl⟩⟩
    · have e1 := ftodo t (fun q p2 hq hp2 e => hex ⟨q, p2, hp2, e⟩)
      rw [hv] at e1
      obtain ⟨v', g1, g2⟩ := I.todo t v e1.symm (fun q p2 hp2 hLq e => hex ⟨q, p2, hp2, e⟩)
      exact ⟨v', g1, g2.mono fun k hk => ⟨.inl hk, rfl⟩⟩
  -- the guard
  have hguard : ∀ b, wantedB ops (Fr i) o = some b → Region.wanted o (yielded ops.toArray a.tmps) = b := by
    intro b hb
    unfold wantedB wantedA at hb
    unfold Region.wanted
    cases hg : o.guard with
    | none => rw [hg] at hb; simpa using hb
    | some p =>
      obtain ⟨j, want⟩ := p
      rw [hg] at hb
      simp only at hb ⊢
      unfold yielded
      simp only [List.getElem?_toArray]
      cases hdd : (ops[j]?).bind (·.dst) with
      | none => rw [hdd] at hb; cases hb
      | some d =>
        rw [hdd] at hb
        simp only at hb ⊢
        cases hf : (Fr i)[d]? with
        | none => rw [hf] at hb; cases hb
        | some v =>
          rw [hf] at hb
          have hlk : d ∈ o.looksAt ops.toArray := by
            unfold Oper.looksAt
            rw [hg]
            simp [hdd]
          obtain ⟨v', h1, h2⟩ := hlook d hlk v hf
          simp only [Option.bind_some, h1]
          cases v <;> simp only at hb <;> try (cases hb; done)
          · obtain rfl : v' = _ := h2
            simp only at hb ⊢
            simpa using hb
          · obtain ⟨vs', rfl, _⟩ := h2
            simp only at hb ⊢
            cases want <;> simp at hb <;> subst hb <;> rfl
  have hDlt : ∀ j, j ≤ ops.length → ∀ k, DL D S L j k → k < (S j).h.length := fun j hj => DL_lt hd hD hj
  have habs := hd.abs ho
  have hlen0 : ∀ j, j ≤ ops.length → (S 0).h.length ≤ (S j).h.length := fun j hj => hd.len (Nat.zero_le _) hj
  -- an operation that makes no block
  have hpure : ∀ {v' : Value} {w' : World}, S (i + 1) = S i → K i = .pure → VRel ι' (DL D S L i) (V i) v' → Below w.heap.size w w' → Inv B ι D ops Fr S V K w0 (fun j => L j ∨ j = i) p m ι' (a.put o.dst v') w' := by
    intro v' w' hS hK hv hb
    have hn : ∀ j, DL D S (fun j => L j ∨ j = i) j = DL D S L j := fun j => DL_none hS
    obtain ⟨f1, f2, f3, f4⟩ := inv_frame (ι2 := ι') I hok ho (v' := v') (fun j k hk => ⟨by rw [hn]; exact hk, rfl⟩) (by rw [hn]; exact hv.mono fun k hk => ⟨DL_mono (Nat.le_succ i) hk, rfl⟩)
    refine ⟨I.ple, I.mle, fun hm => ?_, fun q hq hw => .inl (I.mall q hq hw), I.seg, fun hp => ⟨(I.pex hp).1, .inl (I.pex hp).2⟩, I.agree, fun j h1 h2 => by rw [hn]; exact (I.rel j h1 h2).of_below hb, I.frm.more hb, ?_, f1, f2, f3, f4⟩
    · obtain ⟨g1, g2⟩ := I.mun hm
      exact ⟨g1, fun h => h.elim g2 (fun e => by rw [e, hK] at g1; cases g1)⟩
    · rw [hn]; exact I.prov
  rcases (hd.step i o ho).2 with ⟨hw, hV, hS, hK⟩ | ⟨hw, hev⟩
  · refine .inl ⟨hguard _ hw, p, m, ι', hpure hS hK ?_ (Below.refl _ _)⟩
    rw [hV]; exact undef_rel
  refine .inr ⟨hguard _ hw, ?_⟩
  have A := abs_op hev
  -- the operands, all others left open
  obtain ⟨ρ, hρ, hF⟩ : ∃ ρ : Operand → Value, (∀ x ∈ o.op.operands, eo (Fr i) x = ρ x) ∧ ∀ x, VRel ι' (DL D S L i) (ρ x) (a.eval x) := by
    refine ⟨fun x => @ite _ (x ∈ o.op.operands) (Classical.propDecidable _) (eo (Fr i) x) anyV, fun x hx => by simp only [if_pos hx], fun x => ?_⟩
    by_cases hx : x ∈ o.op.operands
    · simp only [if_pos hx]
      cases x with
      | tmp t =>
        show VRel ι' (DL D S L i) ((Fr i).getD t undef) (a.tmps.getD t undef)
        rw [List.getD_eq_getElem?_getD, Array.getD_eq_getD_getElem?]
        cases ht : (Fr i)[t]? with
        | some v =>
          obtain ⟨v', h1, h2⟩ := hlook t (List.mem_append_left _ (List.mem_filterMap.2 ⟨.tmp t, by simpa using hx, rfl⟩)) v ht
          rw [h1]; exact h2
        | none =>
          have hsz : (Fr i).length = a.tmps.size := by rw [fl, I.size]
          have : a.tmps[t]? = none := by
            rw [Array.getElem?_eq_none_iff]
            rw [List.getElem?_eq_none_iff] at ht
            omega
          rw [this]
          exact undef_rel
      | const v =>
        show VRel ι' (DL D S L i) (cond (cok v) v anyV) v
        cases hc : cok v with
        | true => exact cok_rel hc
        | false => trivial
      | global g => trivial
      | func f => exact ⟨rfl, rfl, rfl⟩
    · simp only [if_neg hx]; trivial
  have hev2 := fun s2 => evOp_congr (P := P) (ext := ext) (cf := cf) hρ s2
  have hsz : (Fr i).length = a.tmps.size := by rw [fl, I.size]
  cases hKi : K i with
  | pure =>
    obtain ⟨hS, hany⟩ := A.pure hKi
    have hop := op_sound (B := B) (s := ⟨List.replicate (S i).h.length deadB, 0, false⟩) (w := w) (o := o) hcf hext (wrel_dead _ (I.rel m I.ple (Nat.le_refl _)).le) (fun k hk => by simp; exact hDlt i (by omega) k hk) hF (by rw [← hev2]; exact hany _)
    refine hop.mono ?_
    rintro v' w' ⟨ι1, J⟩
    refine ⟨p, m, ι', hpure hS hKi ?_ (J.frm.none ?_)⟩
    · have := J.val
      rw [DomU_self] at this
      exact this.mono fun k hk => ⟨hk, (J.agree k (by simp; exact hDlt i (by omega) k hk)).symm⟩
    · rintro b ⟨k, c, h1, h2, h3⟩
      rw [List.getElem?_replicate] at h2
      split at h2
      · cases h2
      · cases h2
  | rd =>
    have hKn : K i ≠ .write := by rw [hKi]; intro e; cases e
    have him : i < m := by
      have h1 := hipast (by rw [hKi]; intro e; cases e)
      apply Nat.lt_of_le_of_ne h1
      intro e
      have hm : m < ops.length := by omega
      have := (I.mun hm).1
      rw [← e, hKi] at this; cases this
    have hpi : p ≤ i := by
      apply Nat.le_of_not_lt
      intro hlt
      obtain ⟨g1, g2⟩ := I.pex (by omega)
      have hple := I.ple
      have hmle := I.mle
      by_cases e : i = p - 1
      · rw [← e, hKi] at g1; cases g1
      · have hp1 : p - 1 < ops.length := by omega
        rcases hok.pair i (p - 1) o ops[p - 1] (by omega) ho (List.getElem?_eq_getElem hp1) with h | ⟨_, h⟩
        · exact hiL (anc_closed hcl (p - 1) i hp1 g2 h)
        · rw [hKi, g1] at h; cases h
    obtain ⟨⟨new, hnew⟩, htch, hany⟩ := A.rd hKn
    have hmle := I.mle
    have hop := op_sound (B := B) (s := ⟨(S i).h, (S i).h.length, false⟩) (s' := ⟨(S (i + 1)).h, (S i).h.length, false⟩) (w := w) (o := o) hcf hext (I.rel i hpi (Nat.le_of_lt him)) (hDlt i (by omega)) hF (by rw [← hev2]; exact hany _ _)
    refine hop.mono ?_
    rintro v' w' ⟨ι1, J⟩
    have hb : Below w.heap.size w w' := J.frm.none (by
      rintro b ⟨k, c, h1, h2, h3, h4⟩
      have := hDlt i (by omega) k h1
      have := h4 rfl
      simp only at this; omega)
    have hag : ∀ k, DL D S L i k → ι1 k = ι' k := fun k hk => J.agree k (hDlt i (by omega) k hk)
    have hab : (S i).h.length ≤ (S (i + 1)).h.length := habs.1
    have hout : ∀ j k, DL D S L j k → ¬ ((S i).h.length ≤ k ∧ k < (S (i + 1)).h.length) := by
      rintro j k (hk | ⟨q, h1, h2, h3, h4⟩) ⟨h5, h6⟩
      · have := hD k hk; have := hlen0 i (by omega); omega
      · have hq := hLn q h2
        have hqi : q ≠ i := fun e => hiL (e ▸ h2)
        rcases Nat.lt_or_gt_of_ne hqi with hlt | hlt
        · have := hd.len (i := q + 1) (j := i) hlt (by omega); omega
        · have := hd.len (i := i + 1) (j := q) hlt (by omega); omega
    have hι3 : ∀ j k, DL D S L j k → (if (S i).h.length ≤ k ∧ k < (S (i + 1)).h.length then ι1 k else ι' k) = ι' k := fun j k hk => if_neg (hout j k hk)
    have hJval := J.val
    have hJrel := J.rel
    simp only at hJval hJrel
    have hfresh : ∀ k c, (S i).h.length ≤ k → k < (S (i + 1)).h.length → (S (i + 1)).h[k]? = some ⟨true, some c⟩ → w.heap.size ≤ (ι1 k).blk := by
      intro k c h1 h2 h3
      rcases J.prov false (ι1 k).blk (fun _ => rfl) ⟨k, c, .inr ⟨h1, h2⟩, h3, rfl, fun _ => h1⟩ with g | ⟨k2, c2, g1, g2, g3, g4⟩
      · exact g
      · have := hDlt i (by omega) k2 g1
        have := g4 rfl
        simp only at this; omega
    have hquiet : ∀ j, i + 1 ≤ j → j ≤ m → ∀ k, k < (S (i + 1)).h.length → (S j).h[k]? = (S (i + 1)).h[k]? := fun j h1 h2 => (hd.quiet h1 (by omega) (fun q h3 h4 => I.seg q (by omega) (by omega))).1
    obtain ⟨f1, f2, f3, f4⟩ := inv_frame (ι2 := fun k => if (S i).h.length ≤ k ∧ k < (S (i + 1)).h.length then ι1 k else ι' k) I hok ho (v' := v') (fun j k hk => ⟨by
        rcases hk with hk | ⟨q, h1, h2, h3⟩
        · exact .inl hk
        · exact .inr ⟨q, h1, .inl h2, h3⟩, hι3 j k hk⟩) (by
        rw [DL_new (Nat.lt_succ_self i)]
        refine hJval.mono ?_
        rintro k (hk | hk)
        · exact ⟨.inl (DL_mono (Nat.le_succ i) hk), by rw [hι3 i k hk, hag k hk]⟩
        · exact ⟨.inr hk, if_pos hk⟩)
    refine ⟨p, m, fun k => if (S i).h.length ≤ k ∧ k < (S (i + 1)).h.length then ι1 k else ι' k, I.ple, I.mle, fun hm => ?_, fun q hq hw => .inl (I.mall q hq hw), I.seg, fun hp => ⟨(I.pex hp).1, .inl (I.pex hp).2⟩, fun k hk => ?_, ?_, I.frm.more hb, ?_, f1, f2, f3, f4⟩
    · obtain ⟨g1, g2⟩ := I.mun hm
      exact ⟨g1, fun h => h.elim g2 (fun e => by omega)⟩
    · have := hlen0 i (by omega)
      rw [if_neg (by omega)]; exact I.agree k hk
    · intro j h1 h2
      have Hold := (I.rel j h1 h2).of_below hb
      by_cases hji : j ≤ i
      · rw [DL_same hji]
        exact Hold.congr (fun k hk => hι3 j k hk) (fun k _ => rfl)
      · have hij : i < j := by omega
        rw [DL_new hij]
        refine Hold.add (N := w.heap.size) hJrel (fun k hk => ⟨DL_mono (by omega) hk, hDlt i (by omega) k hk, hag k hk⟩) (hout j) (fun k h3 h4 => (hquiet j hij h2 k h4).symm) ?_ hfresh
        intro k bl c hk hbl hc hw
        obtain ⟨bw, bc⟩ := bl
        simp only at hw hc; subst hw hc
        exact ((I.rel j h1 h2).own k c hk hbl).1.2
    · rintro t b ht ⟨k, c, hk, hbk, eb, et⟩
      rw [DL_new him] at hk
      rcases hk with hk | hk
      · have eb' : (if (S i).h.length ≤ k ∧ k < (S (i + 1)).h.length then ι1 k else ι' k).blk = b := eb
        rw [hι3 m k hk] at eb'
        exact I.prov t b ht ⟨k, c, hk, hbk, eb', et⟩
      · simp only [if_pos hk] at eb
        rw [hquiet m him (Nat.le_refl _) k hk.2] at hbk
        have := hfresh k c hk.1 hk.2 hbk
        exact .inl (Nat.le_trans I.frm.size (by omega))
  | write =>
    have him : i = m := by
      have h1 := hipast (by rw [hKi]; intro e; cases e)
      apply Nat.le_antisymm h1
      apply Nat.le_of_not_lt
      intro hlt
      exact hiL (I.mall i hlt hKi)
    subst him
    have hple := I.ple
    have hop := op_sound (B := B) (s := S i) (s' := S (i + 1)) (w := w) (o := o) hcf hext (I.rel i hple (Nat.le_refl _)) (hDlt i (by omega)) hF (by rw [← hev2]; exact hev)
    refine hop.mono ?_
    rintro v' w' ⟨ι1, J⟩
    obtain ⟨m', n1, n2, n3, n4⟩ := next_write K ops.length (ops.length - (i + 1)) (i + 1) rfl (by omega)
    have hquiet : ∀ j, i + 1 ≤ j → j ≤ m' → (∀ k, k < (S (i + 1)).h.length → (S j).h[k]? = (S (i + 1)).h[k]?) ∧ (S j).touched = (S (i + 1)).touched := fun j h1 h2 => hd.quiet h1 (by omega) (fun q h3 h4 => n3 q h3 (by omega))
    -- what has come up behind 'i' is pure
    have hbeh : ∀ j k, DL D S L j k → DL D S L i k := by
      rintro j k (hk | ⟨q, h1, h2, h3, h4⟩)
      · exact .inl hk
      · have hq := hLn q h2
        by_cases hqp : K q = .pure
        · rw [(hd.abs (List.getElem?_eq_getElem hq)).2.2.2.2 hqp] at h4; omega
        · exact .inr ⟨q, hpast q hq h2 hqp, h2, h3, h4⟩
    have hDnew : ∀ j, i + 1 ≤ j → DL D S (fun j => L j ∨ j = i) j = DomU (DL D S L i) (S i).h.length (S (i + 1)).h.length := by
      intro j hj
      rw [DL_new hj]
      funext k; apply propext
      constructor
      · rintro (hk | hk)
        · exact .inl (hbeh j k hk)
        · exact .inr hk
      · rintro (hk | hk)
        · exact .inl (DL_mono (by omega) hk)
        · exact .inr hk
    have hag : ∀ j k, DL D S L j k → ι1 k = ι' k := fun j k hk => J.agree k (hDlt i (by omega) k (hbeh j k hk))
    have hDUlt : ∀ k, DomU (DL D S L i) (S i).h.length (S (i + 1)).h.length k → k < (S (i + 1)).h.length := DomU_lt (hDlt i (by omega)) habs.1
    have hlo : (S i).lo = (S 0).lo := hd.lo (by omega)
    obtain ⟨f1, f2, f3, f4⟩ := inv_frame (ι2 := ι1) I hok ho (v' := v') (fun j k hk => ⟨by
        rcases hk with hk | ⟨q, h1, h2, h3⟩
        · exact .inl hk
        · exact .inr ⟨q, h1, .inl h2, h3⟩, hag j k hk⟩) (by
        rw [hDnew (i + 1) (Nat.le_refl _)]
        exact J.val)
    refine ⟨i + 1, m', ι1, n1, n2, fun hm => ⟨n4 hm, ?_⟩, ?_, n3, fun _ => ⟨hKi, .inr rfl⟩, fun k hk => ?_, ?_, ?_, ?_, f1, f2, f3, f4⟩
    · rintro (h | h)
      · rcases hok.pair i m' o ops[m'] (by omega) ho (List.getElem?_eq_getElem hm) with g | ⟨_, g⟩
        · exact hiL (anc_closed hcl m' i hm h g)
        · rw [hKi, n4 hm] at g; cases g
      · omega
    · intro q hq hqw
      rcases Nat.lt_trichotomy q i with h | h | h
      · exact .inl (I.mall q h hqw)
      · exact .inr h
      · exact absurd hqw (n3 q h hq)
    · rw [J.agree k (Nat.lt_of_lt_of_le hk (hlen0 i (by omega)))]; exact I.agree k hk
    · intro j h1 h2
      rw [hDnew j h1]
      exact J.rel.congr (fun _ _ => rfl) (fun k hk => (hquiet j h1 h2).1 k (hDUlt k hk))
    · refine Frm.trans I.frm J.frm ?_ ?_
      · rintro b ⟨k, c, g1, g2, g3, g4⟩
        exact ⟨k, c, g1, g2, g3, fun ht => g4 (A.tch (by rw [← (hquiet m' n1 (Nat.le_refl _)).2]; exact ht))⟩
      · intro b hb ho'
        rw [hlo] at ho'
        rcases I.prov _ b A.tch ho' with g | g
        · omega
        · rw [(hquiet m' n1 (Nat.le_refl _)).2]; exact g
    · rintro t b ht ⟨k, c, hk, hbk, eb, et⟩
      rw [hDnew m' n1] at hk
      rw [(hquiet m' n1 (Nat.le_refl _)).1 k (hDUlt k hk)] at hbk
      have ht' : t = false → (S (i + 1)).touched = false := fun e => by rw [← (hquiet m' n1 (Nat.le_refl _)).2]; exact ht e
      rcases J.prov t b ht' ⟨k, c, hk, hbk, eb, fun e => by rw [hlo]; exact et e⟩ with g | g
      · exact .inl (Nat.le_trans I.frm.size g)
      · rw [hlo] at g
        exact I.prov t b (fun e => A.tch (ht' e)) g

/-- WHATEVER ORDER IS DRAWN. -/
theorem any_sound (hcf : CfOk P cf) (hext : ExtOk P ext) (hd : Data P ext cf ops ops Fr S V K) (hok : Ok ops K) {B : Nat} {ι : Nat → Info} {D : Nat → Prop} {w0 : World} (hD : ∀ k, D k → k < (S 0).h.length) {Q : Exit → Act → World → Prop}
    (hQ : ∀ ι' a' w', RunI B ι ι' D (S 0) (S ops.length) w0 w' → FRel ι' (DomU D (S 0).h.length (S ops.length).h.length) (Fr ops.length) a' → Q .normal a' w') :
    ∀ (fuel : Nat) (listed : Array Bool) (a : Act) (w : World), listed.size = ops.length → (List.range ops.length).countP (fun i => !listed.getD i true) = fuel →
      (∀ (j : Nat) (o : Oper) (e : Edge), ops[j]? = some o → listed.getD j false = true → e ∈ o.after.toList → Region.binds .any e = true → listed.getD e.on false = true) →
      (∃ p m ι', Inv B ι D ops Fr S V K w0 (fun j => listed.getD j false = true) p m ι' a w) → wpAny P .any ops.toArray Q fuel listed a w := by
  have final : ∀ (L : Nat → Prop) p m ι' a w, (∀ j, L j ↔ j < ops.length) → Inv B ι D ops Fr S V K w0 L p m ι' a w → Q .normal a w := by
    intro L p m ι' a w hL I
    have hm : m = ops.length := by
      apply Nat.le_antisymm I.mle
      apply Nat.le_of_not_lt
      intro hlt
      exact (I.mun hlt).2 ((hL m).2 hlt)
    subst hm
    have hfull : DL D S L ops.length = DomU D (S 0).h.length (S ops.length).h.length := by
      funext k; apply propext
      constructor
      · rintro (hk | ⟨q, h1, h2, h3, h4⟩)
        · exact .inl hk
        · have := hd.len (Nat.zero_le q) (by omega)
          have := hd.len (i := q + 1) (j := ops.length) h1 (Nat.le_refl _)
          exact .inr (by omega)
      · rintro (hk | ⟨h1, h2⟩)
        · exact .inl hk
        · have key : ∀ n, n ≤ ops.length → k < (S n).h.length → ∃ q, q < n ∧ (S q).h.length ≤ k ∧ k < (S (q + 1)).h.length := by
            intro n
            induction n with
            | zero => intro _ h; omega
            | succ n ih =>
              intro hn hlt
              by_cases hk : k < (S n).h.length
              · obtain ⟨q, g1, g2⟩ := ih (by omega) hk
                exact ⟨q, by omega, g2⟩
              · exact ⟨n, by omega, by omega, hlt⟩
          obtain ⟨q, g1, g2⟩ := key ops.length (Nat.le_refl _) h2
          exact .inr ⟨q, g1, (hL q).2 g1, g2⟩
    obtain ⟨fl, fdone, ftodo⟩ := hd.frame hok.dst (Nat.le_refl ops.length)
    have hrel := I.rel ops.length I.ple (Nat.le_refl _)
    have hprov := I.prov
    rw [hfull] at hrel hprov
    refine hQ ι' a w ⟨I.agree, hrel, I.frm, hprov, hd.len (Nat.zero_le _) (Nat.le_refl _), hd.lo (Nat.le_refl _), ?_⟩ ⟨?_, I.defers⟩
    · have key : ∀ n, n ≤ ops.length → (S n).touched = false → (S 0).touched = false := by
        intro n
        induction n with
        | zero => exact fun _ h => h
        | succ n ih => exact fun hn h => ih (by omega) ((hd.abs (List.getElem?_eq_getElem (show n < ops.length by omega))).2.2.1 h)
      exact key ops.length (Nat.le_refl _)
    · refine L2.of_get (by rw [fl]; have := I.size; simp; omega) fun t v v' hv hv' => ?_
      rw [Array.getElem?_toList] at hv'
      by_cases hex : ∃ (j : Nat) (p : Oper), ops[j]? = some p ∧ p.dst = some t
      · obtain ⟨j, p, hp, hpd⟩ := hex
        have hjl := (List.getElem?_eq_some_iff.1 hp).1
        have htl : t < (Fr 0).length := by rw [← fl]; exact (List.getElem?_eq_some_iff.1 hv).1
        have e1 := fdone j p t hjl hp hpd htl
        rw [hv] at e1; cases e1
        obtain ⟨u, g1, g2⟩ := I.done j p t hp ((hL j).2 hjl) hpd htl
        rw [hv'] at g1; cases g1
        refine g2.mono fun k hk => ⟨?_, rfl⟩
        rw [← hfull]
        exact DL_mono hjl hk
      · have e1 := ftodo t (fun q p2 hq hp2 e => hex ⟨q, p2, hp2, e⟩)
        rw [hv] at e1
        obtain ⟨u, g1, g2⟩ := I.todo t v e1.symm (fun q p2 hp2 _ e => hex ⟨q, p2, hp2, e⟩)
        rw [hv'] at g1; cases g1
        exact g2.mono fun k hk => ⟨.inl hk, rfl⟩
  have rdy : ∀ (listed : Array Bool), listed.size = ops.length → ∀ i, i ∈ Region.ready .any ops.toArray listed ↔ ∃ o, ops[i]? = some o ∧ listed.getD i true = false ∧ ∀ e ∈ o.after, Region.binds .any e = true → listed.getD e.on false = true := by
    intro listed hsz i
    unfold Region.ready
    simp only [List.mem_filter, List.mem_range, List.size_toArray, Bool.and_eq_true, Bool.not_eq_true', List.getElem?_toArray]
    constructor
    · rintro ⟨h1, h2, h3⟩
      refine ⟨ops[i], List.getElem?_eq_getElem h1, h2, fun e he hb => ?_⟩
      rw [List.getElem?_eq_getElem h1] at h3
      simp only [Option.map_some, Option.getD_some, Array.all_eq_true'] at h3
      have := h3 e he
      rw [hb] at this
      simpa using this
    · rintro ⟨o, h1, h2, h3⟩
      refine ⟨(List.getElem?_eq_some_iff.1 h1).1, h2, ?_⟩
      rw [h1]
      simp only [Option.map_some, Option.getD_some, Array.all_eq_true']
      intro e he
      cases hb : Region.binds .any e with
      | false => rfl
      | true => simpa using h3 e he hb
  have gd : ∀ (listed : Array Bool), listed.size = ops.length → ∀ i, i < ops.length → (listed.getD i true = false ↔ ¬ listed.getD i false = true) := by
    intro listed hsz i hi
    have h1 : i < listed.size := by omega
    simp [Array.getD, h1]
  have gl : ∀ (listed : Array Bool), listed.size = ops.length → ∀ i, listed.getD i false = true → i < ops.length := by
    intro listed hsz i h
    apply Nat.lt_of_not_le
    intro hle
    rw [← hsz] at hle
    simp [Array.getD, Nat.not_lt.2 hle] at h
  have nil_all : ∀ (listed : Array Bool), listed.size = ops.length → Region.ready .any ops.toArray listed = [] → ∀ j, listed.getD j false = true ↔ j < ops.length := by
    intro listed hsz hnil j
    constructor
    · exact gl listed hsz j
    · induction j using Nat.strongRecOn with
      | _ j ih =>
        intro hj
        apply Classical.byContradiction
        intro hn
        have : j ∈ Region.ready .any ops.toArray listed := (rdy listed hsz j).2 ⟨ops[j], List.getElem?_eq_getElem hj, (gd listed hsz j hj).2 hn, fun e he hb => by
          have hlt := hok.edge j _ e (List.getElem?_eq_getElem hj) (by simpa using he) hb
          exact ih e.on hlt (by omega)⟩
        rw [hnil] at this; cases this
  intro fuel
  induction fuel with
  | zero =>
    intro listed a w hsz hcnt hcl ⟨p, m, ι', I⟩
    have hall : ∀ j, listed.getD j false = true ↔ j < ops.length := by
      intro j
      refine ⟨gl listed hsz j, fun hj => ?_⟩
      rw [List.countP_eq_zero] at hcnt
      have := hcnt j (List.mem_range.2 hj)
      have h2 := (gd listed hsz j hj)
      cases h3 : listed.getD j true with
      | true => cases h4 : listed.getD j false with
        | true => rfl
        | false => rw [h3, h4] at h2; simp at h2
      | false => rw [h3] at this; simp at this
    refine ⟨?_, final _ p m ι' a w hall I⟩
    cases hr : Region.ready .any ops.toArray listed with
    | nil => rfl
    | cons x xs =>
      have : x ∈ Region.ready .any ops.toArray listed := by rw [hr]; simp
      obtain ⟨o, h1, h2, _⟩ := (rdy listed hsz x).1 this
      have hx := (List.getElem?_eq_some_iff.1 h1).1
      exact absurd ((hall x).2 hx) ((gd listed hsz x hx).1 h2)
  | succ fuel ih =>
    intro listed a w hsz hcnt hcl ⟨p, m, ι', I⟩
    refine ⟨fun hnil => final _ p m ι' a w (nil_all listed hsz hnil) I, fun i hi => ?_⟩
    obtain ⟨o, ho, hun, hedge⟩ := (rdy listed hsz i).1 hi
    have hil := (List.getElem?_eq_some_iff.1 ho).1
    have hiL : ¬ listed.getD i false = true := (gd listed hsz i hil).1 hun
    have hset : ∀ j, (listed.setIfInBounds i true).getD j false = true ↔ (listed.getD j false = true ∨ j = i) := by
      intro j
      have h1 : i < listed.size := by omega
      by_cases e : j = i
      · subst e; simp [Array.getD, h1]
      · simp only [Array.getD_eq_getD_getElem?, Array.getElem?_setIfInBounds_ne (Ne.symm e), e, or_false]
    have hset' : (fun j => (listed.setIfInBounds i true).getD j false = true) = fun j => (listed.getD j false = true ∨ j = i) := by
      funext j; exact propext (hset j)
    have next : ∀ a' w', (∃ p' m' ι2, Inv B ι D ops Fr S V K w0 (fun j => listed.getD j false = true ∨ j = i) p' m' ι2 a' w') → wpAny P .any ops.toArray Q fuel (listed.setIfInBounds i true) a' w' := by
      intro a' w' hI
      refine ih _ a' w' (by simp [hsz]) ?_ ?_ (by rw [hset']; exact hI)
      · -- one fewer
        have h1 : i < listed.size := by omega
        have hp : ∀ j, j ∈ List.range ops.length → ((fun j => !(listed.setIfInBounds i true).getD j true) j = true ↔ (fun j => !listed.getD j true && j != i) j = true) := by
          intro j hj
          by_cases e : j = i
          · subst e; simp [Array.getD, h1]
          · simp only [Array.getD_eq_getD_getElem?, Array.getElem?_setIfInBounds_ne (Ne.symm e)]
            simp [e]
        rw [List.countP_congr hp]
        have hsplit : ∀ (n : Nat), (List.range n).countP (fun j => !listed.getD j true) = (List.range n).countP (fun j => !listed.getD j true && j != i) + (if i < n then 1 else 0) := by
          intro n
          induction n with
          | zero => simp
          | succ n ihn =>
            rw [List.range_succ, List.countP_append, List.countP_append, ihn]
            by_cases e : n = i
            · subst e
              have hun' : listed[n]?.getD true = false := by rw [← Array.getD_eq_getD_getElem?]; exact hun
              simp [hun']
            · have : (i < n + 1) = (i < n) := by apply propext; omega
              simp only [this]
              have e2 : (n != i) = true := by simpa using e
              simp [List.countP_cons, e2]
              omega
        have := hsplit ops.length
        rw [if_pos hil, hcnt] at this
        omega
      · intro j o2 e hj hL he hb
        rw [hset] at hL ⊢
        rcases hL with hL | hL
        · exact .inl (hcl j o2 e hj hL he hb)
        · subst hL
          rw [ho] at hj; cases hj
          exact .inl (hedge e (by simpa using he) hb)
    unfold wpOp
    simp only [List.getElem?_toArray, ho]
    rcases inv_step hcf hext hd hok hD (fun j hj => gl listed hsz j hj) hcl I ho hiL (fun e he hb => hedge e (by simpa using he) hb) with ⟨h1, h2⟩ | ⟨h1, h2⟩
    · rw [if_neg (by rw [h1]; exact Bool.false_ne_true)]
      exact next _ _ h2
    · rw [if_pos h1]
      exact .inl (h2.wp fun v' w' hh => next _ _ hh)

/-- at the start -/
theorem inv_start (hd : Data P ext cf ops ops Fr S V K) {B : Nat} {ι : Nat → Info} {D : Nat → Prop} {a : Act} {w : World} (hD : ∀ k, D k → k < (S 0).h.length) (H : WRel B ι D (S 0).h w) (hF : FRel ι D (Fr 0) a) :
    ∃ p m ι', Inv B ι D ops Fr S V K w (fun _ => False) p m ι' a w := by
  obtain ⟨m, _, n2, n3, n4⟩ := next_write K ops.length ops.length 0 rfl (Nat.zero_le _)
  have hDL : ∀ i, DL D S (fun _ => False) i = D := fun i => by
    funext k; apply propext
    constructor
    · rintro (h | ⟨_, _, h, _⟩)
      · exact h
      · exact h.elim
    · exact .inl
  have hq : ∀ i, i ≤ m → (∀ k, k < (S 0).h.length → (S i).h[k]? = (S 0).h[k]?) ∧ (S i).touched = (S 0).touched := fun i hi => hd.quiet (Nat.zero_le _) (by omega) (fun q _ h => n3 q (Nat.zero_le _) (by omega))
  refine ⟨0, m, ι, Nat.zero_le _, n2, fun h => ⟨n4 h, id⟩, fun i hi hw => absurd hw (n3 i (Nat.zero_le _) hi), n3, fun h => absurd h (by omega), fun _ _ => rfl, fun i _ hi => ?_, Frm.refl _ _, ?_, fun i o d _ h => h.elim, fun t v hv _ => ?_, ?_, hF.2⟩
  · rw [hDL]; exact H.congr (fun _ _ => rfl) (fun k hk => (hq i hi).1 k (hD k hk))
  · rw [hDL]
    rintro t b ht ⟨k, c, h1, h2, h3, h4⟩
    rw [(hq m (Nat.le_refl _)).1 k (hD k h1)] at h2
    exact .inr ⟨k, c, h1, h2, h3, h4⟩
  · obtain ⟨v', h1, h2⟩ := hF.1.get t v hv
    exact ⟨v', by rwa [Array.getElem?_toList] at h1, h2⟩
  · have := hF.1.length; simpa using this.symm

end
end Go.Ab
