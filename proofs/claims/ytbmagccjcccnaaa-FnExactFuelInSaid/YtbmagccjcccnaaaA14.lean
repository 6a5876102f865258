/- A region whose order is drawn: the order of the text tells what any order comes to. -/
import Derived.Test.YtbmagccjcccnaaaA13
namespace Go.Ab
open Go.RowKit (Below)

/-! ### who waits for whom -/
theorem ancs_len : ∀ (l : List Oper) (acc : List Nat), (ancs l acc).length = acc.length + l.length
  | [], acc => by simp [ancs]
  | o :: l, acc => by simp [ancs, ancs_len l]; omega
theorem ancs_pre : ∀ (l : List Oper) (acc : List Nat) (i : Nat), i < acc.length → (ancs l acc)[i]? = acc[i]?
  | [], _, _, _ => rfl
  | o :: l, acc, i, h => by
    rw [ancs, ancs_pre l _ i (by simp; omega), List.getElem?_append_left h]

theorem fold_bit (acc : List Nat) (i : Nat) : ∀ (es : List Edge) (m : Nat), (es.foldl (fun s e => cond (Region.binds .any e) (s ||| 2 ^ e.on ||| acc.getD e.on 0) s) m).testBit i = true →
    m.testBit i = true ∨ ∃ e ∈ es, Region.binds .any e = true ∧ (e.on = i ∨ (acc.getD e.on 0).testBit i = true)
  | [], m, h => .inl h
  | e :: es, m, h => by
    rw [List.foldl_cons] at h
    rcases fold_bit acc i es _ h with h1 | ⟨e', h1, h2⟩
    · cases hb : Region.binds .any e with
      | false => rw [hb] at h1; exact .inl h1
      | true =>
        rw [hb] at h1
        simp only [cond_true, Nat.testBit_or, Bool.or_eq_true] at h1
        rcases h1 with (h1 | h1) | h1
        · exact .inl h1
        · refine .inr ⟨e, by simp, hb, .inl ?_⟩
          rw [Nat.testBit_two_pow] at h1
          simpa using h1
        · exact .inr ⟨e, by simp, hb, .inr h1⟩
    · exact .inr ⟨e', by simp [h1], h2⟩

/-- a bit of a row of 'ancs' is an edge, or a bit of an edge's row -/
theorem ancs_spec : ∀ (l : List Oper) (acc : List Nat) (j i : Nat) (o : Oper), l[j]? = some o → ((ancs l acc).getD (acc.length + j) 0).testBit i = true →
    ∃ e ∈ o.after.toList, Region.binds .any e = true ∧ (e.on = i ∨ (e.on < acc.length + j ∧ ((ancs l acc).getD e.on 0).testBit i = true))
  | [], _, j, i, o, h, _ => by simp at h
  | p :: l, acc, 0, i, o, h, hb => by
    simp only [List.getElem?_cons_zero, Option.some.injEq] at h
    subst h
    simp only [ancs, Nat.add_zero] at hb ⊢
    rw [List.getD_eq_getElem?_getD, ancs_pre l _ acc.length (by simp), List.getElem?_append_right (Nat.le_refl _)] at hb
    simp only [Nat.sub_self, List.getElem?_cons_zero, Option.getD_some] at hb
    rcases fold_bit acc i _ 0 hb with h1 | ⟨e, h1, h2, h3⟩
    · simp at h1
    · refine ⟨e, h1, h2, ?_⟩
      rcases h3 with h3 | h3
      · exact .inl h3
      · have hlt : e.on < acc.length := by
          apply Nat.lt_of_not_le
          intro hle
          rw [List.getD_eq_getElem?_getD, List.getElem?_eq_none hle] at h3
          simp at h3
        refine .inr ⟨hlt, ?_⟩
        rw [List.getD_eq_getElem?_getD, ancs_pre l _ e.on (by simp; omega), List.getElem?_append_left hlt, ← List.getD_eq_getElem?_getD]
        exact h3
  | p :: l, acc, j + 1, i, o, h, hb => by
    simp only [List.getElem?_cons_succ] at h
    simp only [ancs] at hb ⊢
    have := ancs_spec l (acc ++ [p.after.toList.foldl (fun s e => cond (Region.binds .any e) (s ||| 2 ^ e.on ||| acc.getD e.on 0) s) 0]) j i o h (by
      rw [show (acc ++ [p.after.toList.foldl (fun s e => cond (Region.binds .any e) (s ||| 2 ^ e.on ||| acc.getD e.on 0) s) 0]).length + j = acc.length + (j + 1) by simp; omega]
      exact hb)
    obtain ⟨e, g1, g2, g3⟩ := this
    refine ⟨e, g1, g2, ?_⟩
    rcases g3 with g3 | ⟨g3, g4⟩
    · exact .inl g3
    · exact .inr ⟨by simp at g3; omega, g4⟩

/-- a set that holds with each operation those that it waits for holds all its forebears -/
theorem anc_closed {ops : List Oper} {L : Nat → Prop} (hcl : ∀ (j : Nat) (o : Oper) (e : Edge), ops[j]? = some o → L j → e ∈ o.after.toList → Region.binds .any e = true → L e.on) :
    ∀ (j i : Nat), j < ops.length → L j → ((ancs ops []).getD j 0).testBit i = true → L i := by
  intro j
  induction j using Nat.strongRecOn with
  | _ j ih =>
    intro i hj hL hb
    obtain ⟨o, ho⟩ : ∃ o, ops[j]? = some o := ⟨ops[j], List.getElem?_eq_getElem hj⟩
    obtain ⟨e, g1, g2, g3⟩ := ancs_spec ops [] j i o ho (by simpa using hb)
    have hLe := hcl j o e ho hL g1 g2
    rcases g3 with g3 | ⟨g3, g4⟩
    · rw [← g3]; exact hLe
    · simp at g3
      exact ih e.on g3 i (by omega) hLe g4
/-- the same of one that waits only for what is in the set -/
theorem anc_ready {ops : List Oper} {L : Nat → Prop} (hcl : ∀ (j : Nat) (o : Oper) (e : Edge), ops[j]? = some o → L j → e ∈ o.after.toList → Region.binds .any e = true → L e.on) {j : Nat} {o : Oper} (ho : ops[j]? = some o)
    (hr : ∀ e, e ∈ o.after.toList → Region.binds .any e = true → L e.on) {i : Nat} (hb : ((ancs ops []).getD j 0).testBit i = true) : L i := by
  obtain ⟨e, g1, g2, g3⟩ := ancs_spec ops [] j i o ho (by simpa using hb)
  have hLe := hr e g1 g2
  rcases g3 with g3 | ⟨g3, g4⟩
  · rw [← g3]; exact hLe
  · simp at g3
    have hj := (List.getElem?_eq_some_iff.1 ho).1
    exact anc_closed hcl e.on i (by omega) hLe g4

/-! ### a trace as functions of the place -/
section
variable {P : Program} {ext : FuncId → Option Ext} {cf : CallF} {ops : List Oper}

structure Data (P : Program) (ext : FuncId → Option Ext) (cf : CallF) (ops l : List Oper) (Fr : Nat → List Value) (S : Nat → St) (V : Nat → Value) (K : Nat → Kd) : Prop where
  step : ∀ i o, l[i]? = some o → Fr (i + 1) = putA (Fr i) o.dst (V i) ∧
    ((wantedB ops (Fr i) o = some false ∧ V i = undef ∧ S (i + 1) = S i ∧ K i = .pure) ∨
     (wantedB ops (Fr i) o = some true ∧ firstT (evOp P ext cf (eo (Fr i)) o.op (S i)) = some (V i, S (i + 1), K i)))

theorem data_of_tr {l : List Oper} {fr fr2 : List Value} {s s2 : St} {ks : List (Kd × St)} (h : Tr P ext cf ops l fr s ks fr2 s2) :
    ∃ Fr S V K, Data P ext cf ops l Fr S V K ∧ Fr 0 = fr ∧ S 0 = s ∧ Fr l.length = fr2 ∧ S l.length = s2 ∧ ∀ i, i < l.length → (ks.map (·.1))[i]? = some (K i) := by
  induction h with
  | nil fr s => exact ⟨fun _ => fr, fun _ => s, fun _ => undef, fun _ => .pure, ⟨fun i o h => by simp at h⟩, rfl, rfl, rfl, rfl, fun i h => by simp at h⟩
  | @skip o rest fr fr2 s s2 ks hw h ih =>
    obtain ⟨Fr, S, V, K, hd, h1, h2, h3, h4, h5⟩ := ih
    refine ⟨fun i => match i with | 0 => fr | i + 1 => Fr i, fun i => match i with | 0 => s | i + 1 => S i, fun i => match i with | 0 => undef | i + 1 => V i, fun i => match i with | 0 => .pure | i + 1 => K i, ⟨?_⟩, rfl, rfl, h3, h4, ?_⟩
    · intro i p hp
      cases i with
      | zero => simp at hp; subst hp; exact ⟨h1, .inl ⟨hw, rfl, h2, rfl⟩⟩
      | succ i => simp at hp; exact hd.step i p hp
    · intro i hi
      cases i with
      | zero => rfl
      | succ i => simpa using h5 i (by simpa using hi)
  | @run o rest fr fr2 s s1 s2 ks v kd hw ho h ih =>
    obtain ⟨Fr, S, V, K, hd, h1, h2, h3, h4, h5⟩ := ih
    refine ⟨fun i => match i with | 0 => fr | i + 1 => Fr i, fun i => match i with | 0 => s | i + 1 => S i, fun i => match i with | 0 => v | i + 1 => V i, fun i => match i with | 0 => kd | i + 1 => K i, ⟨?_⟩, rfl, rfl, h3, h4, ?_⟩
    · intro i p hp
      cases i with
      | zero => simp at hp; subst hp; exact ⟨h1, .inr ⟨hw, by show firstT (evOp P ext cf (eo fr) o.op s) = some (v, S 0, kd); rw [h2]; exact ho⟩⟩
      | succ i => simp at hp; exact hd.step i p hp
    · intro i hi
      cases i with
      | zero => rfl
      | succ i => simpa using h5 i (by simpa using hi)

variable {Fr : Nat → List Value} {S : Nat → St} {V : Nat → Value} {K : Nat → Kd}

theorem Data.abs (hd : Data P ext cf ops ops Fr S V K) {i : Nat} {o : Oper} (ho : ops[i]? = some o) : (S i).h.length ≤ (S (i + 1)).h.length ∧ (S (i + 1)).lo = (S i).lo ∧ ((S (i + 1)).touched = false → (S i).touched = false) ∧
    (K i ≠ .write → (∃ new, (S (i + 1)).h = (S i).h ++ new) ∧ (S (i + 1)).touched = (S i).touched) ∧ (K i = .pure → S (i + 1) = S i) := by
  rcases (hd.step i o ho).2 with ⟨_, _, h2, h3⟩ | ⟨_, h2⟩
  · rw [h2]; exact ⟨Nat.le_refl _, rfl, id, fun _ => ⟨⟨[], by simp⟩, rfl⟩, fun _ => rfl⟩
  · have A := abs_op h2
    exact ⟨A.len, A.lo, A.tch, fun h => ⟨(A.rd h).1, (A.rd h).2.1⟩, fun h => (A.pure h).1⟩

theorem Data.len (hd : Data P ext cf ops ops Fr S V K) : ∀ {i j : Nat}, i ≤ j → j ≤ ops.length → (S i).h.length ≤ (S j).h.length := by
  intro i j hij
  induction hij with
  | refl => intro _; exact Nat.le_refl _
  | @step j _ ih => intro hj; exact Nat.le_trans (ih (by omega)) (hd.abs (List.getElem?_eq_getElem (show j < ops.length by omega))).1
theorem Data.lo (hd : Data P ext cf ops ops Fr S V K) : ∀ {j : Nat}, j ≤ ops.length → (S j).lo = (S 0).lo := by
  intro j
  induction j with
  | zero => intro _; rfl
  | succ j ih => intro hj; exact ((hd.abs (List.getElem?_eq_getElem (show j < ops.length by omega))).2.1).trans (ih (by omega))
/-- between writes the heap only grows -/
theorem Data.quiet (hd : Data P ext cf ops ops Fr S V K) : ∀ {i j : Nat}, i ≤ j → j ≤ ops.length → (∀ q, i ≤ q → q < j → K q ≠ .write) → (∀ k, k < (S i).h.length → (S j).h[k]? = (S i).h[k]?) ∧ (S j).touched = (S i).touched := by
  intro i j hij
  induction hij with
  | refl => intro _ _; exact ⟨fun _ _ => rfl, rfl⟩
  | @step j hij' ih =>
    intro hj hw
    obtain ⟨g1, g2⟩ := ih (by omega) (fun q h1 h2 => hw q h1 (by omega))
    obtain ⟨⟨new, a1⟩, a2⟩ := (hd.abs (List.getElem?_eq_getElem (show j < ops.length by omega))).2.2.2.1 (hw j hij' (by omega))
    refine ⟨fun k hk => ?_, a2.trans g2⟩
    rw [a1, List.getElem?_append_left (Nat.lt_of_lt_of_le hk (hd.len hij' (by omega))), g1 k hk]

/-- the frame at a place of the text -/
theorem Data.frame (hd : Data P ext cf ops ops Fr S V K) (hds : ∀ (i j : Nat) (o p : Oper) (d : Tmp), ops[i]? = some o → ops[j]? = some p → o.dst = some d → p.dst = some d → i = j) : ∀ {i : Nat}, i ≤ ops.length →
    (Fr i).length = (Fr 0).length ∧ (∀ j o d, j < i → ops[j]? = some o → o.dst = some d → d < (Fr 0).length → (Fr i)[d]? = some (V j)) ∧ ∀ t, (∀ j o, j < i → ops[j]? = some o → o.dst ≠ some t) → (Fr i)[t]? = (Fr 0)[t]? := by
  intro i
  induction i with
  | zero => intro _; exact ⟨rfl, fun j o d hj => by omega, fun t _ => rfl⟩
  | succ i ih =>
    intro hi
    obtain ⟨g1, g2, g3⟩ := ih (by omega)
    have ho : ops[i]? = some ops[i] := List.getElem?_eq_getElem (by omega)
    have hs := (hd.step i _ ho).1
    rw [hs]
    cases hdst : ops[i].dst with
    | none =>
      refine ⟨g1, fun j o d hj hjo hjd hdl => ?_, fun t ht => g3 t (fun j o hj => ht j o (by omega))⟩
      by_cases e : j = i
      · subst e; rw [ho] at hjo; cases hjo; rw [hdst] at hjd; cases hjd
      · exact g2 j o d (by omega) hjo hjd hdl
    | some d0 =>
      refine ⟨by simp [putA, g1], fun j o d hj hjo hjd hdl => ?_, fun t ht => ?_⟩
      · by_cases e : j = i
        · subst e; rw [ho] at hjo; cases hjo; rw [hdst] at hjd; cases hjd
          simp only [putA]
          rw [List.getElem?_set_self (by rw [g1]; exact hdl)]
        · have hne : d0 ≠ d := fun e2 => e (hds j i o _ d hjo ho hjd (by rw [hdst, e2]))
          simp only [putA]
          rw [List.getElem?_set_ne hne]
          exact g2 j o d (by omega) hjo hjd hdl
      · have hne : d0 ≠ t := fun e2 => ht i _ (by omega) ho (by rw [hdst, e2])
        simp only [putA]
        rw [List.getElem?_set_ne hne]
        exact g3 t (fun j o hj => ht j o (by omega))
end

/-- NEW BLOCKS BESIDE OLD ONES. -/
theorem WRel.add {B : Nat} {ι ι2 : Nat → Info} {D D1 : Nat → Prop} {h h1 : List Blk} {w : World} {N a b : Nat} (H : WRel B ι D h w) (H1 : WRel B ι2 (DomU D1 a b) h1 w) (hD1 : ∀ k, D1 k → D k ∧ k < a ∧ ι2 k = ι k)
    (hD : ∀ k, D k → ¬ (a ≤ k ∧ k < b)) (hh : ∀ k, a ≤ k → k < b → h1[k]? = h[k]?) (hold : ∀ k bl c, D k → h[k]? = some bl → bl.con = some c → bl.w = true → (ι k).blk < N) (hnew : ∀ k c, a ≤ k → k < b → h1[k]? = some ⟨true, some c⟩ → N ≤ (ι2 k).blk) :
    WRel B (fun k => if a ≤ k ∧ k < b then ι2 k else ι k) (DomU D a b) h w := by
  have hm : ∀ k, D k → DomU D a b k ∧ (if a ≤ k ∧ k < b then ι2 k else ι k) = ι k := fun k hk => ⟨.inl hk, if_neg (hD k hk)⟩
  have hm1 : ∀ k, DomU D1 a b k → DomU D a b k ∧ (if a ≤ k ∧ k < b then ι2 k else ι k) = ι2 k := fun k hk => by
    rcases hk with hk | hk
    · obtain ⟨g1, g2, g3⟩ := hD1 k hk
      exact ⟨.inl g1, by rw [if_neg (by omega), g3]⟩
    · exact ⟨.inr hk, if_pos hk⟩
  refine ⟨?_, ?_, ?_, ?_, H.le, ?_⟩
  · rintro k bl c (hk | hk) hb hc
    · obtain ⟨g1, g2, g3⟩ := H.both k bl c hk hb hc
      rw [(hm k hk).2]
      refine ⟨g1, g2, fun i j v hv => ?_⟩
      obtain ⟨v', q1, q2⟩ := g3 i j v hv
      exact ⟨v', q1, q2.mono hm⟩
    · rw [← hh k hk.1 hk.2] at hb
      obtain ⟨g1, g2, g3⟩ := H1.both k bl c (.inr hk) hb hc
      simp only [if_pos hk]
      refine ⟨g1, g2, fun i j v hv => ?_⟩
      obtain ⟨v', q1, q2⟩ := g3 i j v hv
      exact ⟨v', q1, q2.mono hm1⟩
  · rintro k c (hk | hk) hb
    · rw [(hm k hk).2]; exact H.own k c hk hb
    · rw [← hh k hk.1 hk.2] at hb
      simp only [if_pos hk]
      exact H1.own k c (.inr hk) hb
  · rintro k c (hk | hk) hb
    · rw [(hm k hk).2]; exact H.ro k c hk hb
    · rw [← hh k hk.1 hk.2] at hb
      simp only [if_pos hk]
      exact H1.ro k c (.inr hk) hb
  · rintro k k' c c' (hk | hk) (hk' | hk') hne hb hb'
    · rw [(hm k hk).2, (hm k' hk').2]; exact H.disj k k' c c' hk hk' hne hb hb'
    · rw [(hm k hk).2]
      simp only [if_pos hk']
      rw [← hh k' hk'.1 hk'.2] at hb'
      have := hold k _ c hk hb rfl rfl
      have := hnew k' c' hk'.1 hk'.2 hb'
      omega
    · rw [(hm k' hk').2]
      simp only [if_pos hk]
      rw [← hh k hk.1 hk.2] at hb
      have := hold k' _ c' hk' hb' rfl rfl
      have := hnew k c hk.1 hk.2 hb
      omega
    · simp only [if_pos hk, if_pos hk']
      rw [← hh k hk.1 hk.2] at hb
      rw [← hh k' hk'.1 hk'.2] at hb'
      exact H1.disj k k' c c' (.inr hk) (.inr hk') hne hb hb'
  · rintro k bl c (hk | hk) hb hc
    · rw [(hm k hk).2]; exact H.lens k bl c hk hb hc
    · rw [← hh k hk.1 hk.2] at hb
      simp only [if_pos hk]
      exact H1.lens k bl c (.inr hk) hb hc

end Go.Ab
