/- Regions, in the order of the text: the trace of a region. -/
import Derived.Test.YtmknfenjnladeaaA11
namespace Go.Ab
open Go.RowKit (Below)

def wantedB (ops : List Oper) (fr : List Value) (o : Oper) : Option Bool :=
  match wantedA ops fr o with
  | none => none
  | some none => some true
  | some (some (_,b,want)) => some (b == want)

inductive Tr (P : Program) (ext : FuncId → Option Ext) (cf : CallF) (ops : List Oper) : List Oper → List Value → St → List (Ft × St) → List Value → St → Prop where
  | nil (fr : List Value) (s : St) : Tr P ext cf ops [] fr s [] fr s
  | skip {o : Oper} {rest : List Oper} {fr fr2 : List Value} {s s2 : St} {ks : List (Ft × St)} (hw : wantedB ops fr o = some false) (h : Tr P ext cf ops rest (putA fr o.dst undef) s ks fr2 s2) :
      Tr P ext cf ops (o :: rest) fr s ((ftNo s,s) :: ks) fr2 s2
  | run {o : Oper} {rest : List Oper} {fr fr2 : List Value} {s s1 s2 : St} {ks : List (Ft × St)} {v : Value} {kd : Kd} (hw : wantedB ops fr o = some true) (ho : firstT (evOp P ext cf (eo fr) o.op s) = some (v,s1,kd))
      (h : Tr P ext cf ops rest (putA fr o.dst v) s1 ks fr2 s2) : Tr P ext cf ops (o :: rest) fr s ((ftOf fr o.op s s1 kd,s) :: ks) fr2 s2

section
variable {P : Program} {ext : FuncId → Option Ext} {cf : CallF} {ops : List Oper}

theorem wantedA_asLit {fr : List Value} {o : Oper} {d : Nat} {b want : Bool} (h : wantedA ops fr o = some (some (d,b,want))) : asLit fr d b = fr := by
  unfold wantedA at h
  split at h
  · cases h
  · split at h
    · split at h
      · rename_i u hu
        cases h
        unfold asLit
        rw [hu]
        simp only
        obtain ⟨h1,h2⟩ := List.getElem?_eq_some_iff.1 hu
        rw [← h2]
        exact List.set_getElem_self h1
      · rename_i u hu
        cases h
        unfold asLit
        rw [hu]
      · cases h
    · cases h

theorem evOps_trace {α : Type} {k : List Value → St → List Ft → Option α} {r : α} : ∀ {l : List Oper} {fr : List Value} {s : St} {ks : List Ft},evOps P ext cf ops l k fr s ks = some r →
    ∃ kss fr2 s2,Tr P ext cf ops l fr s kss fr2 s2 ∧ k fr2 s2 ((kss.map (·.1)).reverse ++ ks) = some r
  | [],fr,s,ks,h => ⟨[],fr,s,.nil fr s,h⟩
  | o :: rest,fr,s,ks,h => by
    simp only [evOps] at h
    split at h
    · cases h
    · rename_i hw
      obtain ⟨⟨v,s1,kd⟩,h1,h2⟩ := alts_some h
      obtain ⟨kss,fr2,s2,g1,g2⟩ := evOps_trace h2
      exact ⟨(ftOf fr o.op s s1 kd,s) :: kss,fr2,s2,.run (by unfold wantedB; rw [hw]) h1 g1,by simpa using g2⟩
    · rename_i d b want hw
      have hl := wantedA_asLit hw
      have hwb : wantedB ops fr o = some (b == want) := by unfold wantedB; rw [hw]
      cases b <;> cases want <;> simp only [cond_true,cond_false] at h <;> rw [hl] at h
      · obtain ⟨⟨v,s1,kd⟩,h1,h2⟩ := alts_some h
        obtain ⟨kss,fr2,s2,g1,g2⟩ := evOps_trace h2
        exact ⟨(ftOf fr o.op s s1 kd,s) :: kss,fr2,s2,.run hwb h1 g1,by simpa using g2⟩
      · obtain ⟨kss,fr2,s2,g1,g2⟩ := evOps_trace h
        exact ⟨(ftNo s,s) :: kss,fr2,s2,.skip hwb g1,by simpa using g2⟩
      · obtain ⟨kss,fr2,s2,g1,g2⟩ := evOps_trace h
        exact ⟨(ftNo s,s) :: kss,fr2,s2,.skip hwb g1,by simpa using g2⟩
      · obtain ⟨⟨v,s1,kd⟩,h1,h2⟩ := alts_some h
        obtain ⟨kss,fr2,s2,g1,g2⟩ := evOps_trace h2
        exact ⟨(ftOf fr o.op s s1 kd,s) :: kss,fr2,s2,.run hwb h1 g1,by simpa using g2⟩

theorem wanted_rel {ι : Nat → Info} {D : Nat → Prop} {fr : List Value} {a : Act} {o : Oper} {b : Bool} (hF : FRel ι D fr a) (h : wantedB ops fr o = some b) : Region.wanted o (yielded ops.toArray a.tmps) = b := by
  unfold wantedB wantedA at h
  unfold Region.wanted
  cases hg : o.guard with
  | none => rw [hg] at h; simpa using h
  | some p =>
    obtain ⟨j,want⟩ := p
    rw [hg] at h
    simp only at h ⊢
    unfold yielded
    simp only [List.getElem?_toArray]
    cases hd : (ops[j]?).bind (·.dst) with
    | none => rw [hd] at h; cases h
    | some d =>
      rw [hd] at h
      simp only at h ⊢
      cases hf : fr[d]? with
      | none => rw [hf] at h; cases h
      | some v =>
        rw [hf] at h
        obtain ⟨v',h1,h2⟩ := hF.1.get d v hf
        rw [Array.getElem?_toList] at h1
        simp only [Option.bind_some,h1]
        cases v <;> simp only at h <;> try (cases h; done)
        · obtain rfl : v' = _ := h2
          simp only at h ⊢
          simpa using h
        · obtain ⟨vs',rfl,_⟩ := h2
          simp only at h ⊢
          cases want <;> simp at h <;> subst h <;> rfl

theorem OpY.wp {a : Act} {o : Oper} {w : World} {R : Value → World → Prop} {next : Act → World → Prop} {Q : Exit → Act → World → Prop} (h : OpY P a.eval o w R) (hn : ∀ v' w',R v' w' → next (a.put o.dst v') w') :
    o.wp P a w next Q := by
  unfold OpY at h
  unfold Oper.wp
  cases hr : (execOp a.eval o).run P w with
  | halt x w' => rw [hr] at h; exact h.elim
  | ok n w' =>
    rw [hr] at h
    cases n <;> simp only at h <;> try exact h.elim
    · exact hn _ _ h
    · exact hn _ _ h
    · refine Calls.mono h ?_
      rintro e w'' ⟨v',rfl,hR⟩
      exact hn _ _ hR

theorem ops_sound (hcf : CfOk P cf) (hext : ExtOk P ext) {B : Bnd P} {Q : Exit → Act → World → Prop} : ∀ {l : List Oper} {fr fr2 : List Value} {s s2 : St} {ks : List (Ft × St)},Tr P ext cf ops l fr s ks fr2 s2 →
    ∀ {ι : Nat → Info} {D : Nat → Prop} {a : Act} {w : World} (pre : List Oper),ops = pre ++ l → WRel B ι D s.h w → (∀ k,D k → k < s.h.length) → FRel ι D fr a →
    (∀ ι' a' w',RunI B ι ι' D s s2 w w' → FRel ι' (DomU D s.h.length s2.h.length) fr2 a' → Q .normal a' w') → wpOps P ops.toArray Q (List.range' pre.length l.length) a w := by
  intro l fr fr2 s s2 ks htr
  induction htr with
  | nil fr s =>
    intro ι D a w pre _ H hD hF hQ
    exact hQ ι a w (RunI.refl H) (by rw [DomU_self]; exact hF)
  | @skip o rest fr fr2 s s2 ks hw h ih =>
    intro ι D a w pre he H hD hF hQ
    have ho : ops.toArray[pre.length]? = some o := by simp [he]
    simp only [List.length_cons,List.range'_succ,wpOps,ho]
    rw [if_neg (by rw [wanted_rel hF hw]; exact Bool.false_ne_true)]
    have := ih (pre ++ [o]) (by simp [he]) H hD (hF.put o.dst undef_rel) hQ
    simpa using this
  | @run o rest fr fr2 s s1 s2 ks v kd hw ho' h ih =>
    intro ι D a w pre he H hD hF hQ
    have ho : ops.toArray[pre.length]? = some o := by simp [he]
    simp only [List.length_cons,List.range'_succ,wpOps,ho]
    rw [if_pos (wanted_rel hF hw)]
    refine .inl ((op_sound hcf hext H hD (eo_rel hF) (fun _ => rfl) ho').wp ?_)
    rintro v' w' ⟨ι1,I⟩
    have hlt := DomU_lt hD I.len
    have hmono : ∀ k,D k → DomU D s.h.length s1.h.length k ∧ ι1 k = ι k := fun k hk => ⟨.inl hk,I.agree k (hD k hk)⟩
    have := ih (pre ++ [o]) (by simp [he]) I.rel hlt ((hF.mono hmono).put o.dst I.val) (fun ι' a' w2 I2 hF2 => hQ ι' a' w2 (I.toRunI.trans I2) (by rw [DomU_trans I.len I2.len] at hF2; exact hF2))
    simpa using this
end
end Go.Ab
