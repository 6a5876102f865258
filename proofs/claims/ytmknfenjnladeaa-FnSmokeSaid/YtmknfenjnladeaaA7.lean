/- Operations on memory. -/
import Derived.Test.YtmknfenjnladeaaA6
import Derived.Great.BuildSlice
namespace Go.Ab
open Go.RowKit (Below)

structure RunI {P : Program} (B : Bnd P) (ι ι' : Nat → Info) (D : Nat → Prop) (s s' : St) (w w' : World) : Prop where
  agree : ∀ k,k < s.h.length → ι' k = ι k
  rel : WRel B ι' (DomU D s.h.length s'.h.length) s'.h w'
  frm : Frm (OwnT ι D s.h s.lo s'.wr) w w'
  prov : ∀ t b,(∀ q,q ∈ s'.wr → q ∈ t) → OwnT ι' (DomU D s.h.length s'.h.length) s'.h s.lo t b → w.heap.size ≤ b ∨ OwnT ι D s.h s.lo t b
  len : s.h.length ≤ s'.h.length
  lo : s'.lo = s.lo
  tch : ∀ q,q ∈ s.wr → q ∈ s'.wr

structure PostI {P : Program} (B : Bnd P) (ι ι' : Nat → Info) (D : Nat → Prop) (s s' : St) (w : World) (v v' : Value) (w' : World) : Prop extends RunI B ι ι' D s s' w w' where
  val : VRel ι' (DomU D s.h.length s'.h.length) v v'

def Post {P : Program} (B : Bnd P) (ι : Nat → Info) (D : Nat → Prop) (s s' : St) (w : World) (v v' : Value) (w' : World) : Prop :=
  ∃ ι' : Nat → Info,PostI B ι ι' D s s' w v v' w'

theorem DomU_self (D : Nat → Prop) (n : Nat) : DomU D n n = D := by
  funext k; unfold DomU; apply propext
  constructor
  · rintro (h | h)
    · exact h
    · omega
  · exact .inl

theorem Below.w2 {B : Nat} {w w' : World} (h : W2 w w') : Below B w w' := by
  rcases h with rfl | rfl
  · exact Below.refl _ _
  · exact (Below.refl _ _).drew

theorem Frm.w2 {W : Nat → Prop} {w w' : World} (h : W2 w w') : Frm W w w' := by
  rcases h with rfl | rfl
  · exact Frm.refl _ _
  · exact (Frm.refl _ _).drew

theorem Post.same {P : Program} {B : Bnd P} {ι : Nat → Info} {D : Nat → Prop} {s : St} {w w' : World} {v v' : Value} (H : WRel B ι D s.h w) (hv : VRel ι D v v') (hw : W2 w w') : Post B ι D s s w v v' w' := by
  refine ⟨ι,⟨fun _ _ => rfl,?_,Frm.w2 hw,?_,Nat.le_refl _,rfl,fun _ hq => hq⟩,?_⟩
  · rw [DomU_self]; exact H.of_below (Below.w2 hw)
  · rw [DomU_self]; exact fun t b _ h => .inr h
  · rw [DomU_self]; exact hv

theorem DomU_trans {D : Nat → Prop} {a b c : Nat} (h1 : a ≤ b) (h2 : b ≤ c) : DomU (DomU D a b) b c = DomU D a c := by
  funext k; unfold DomU; apply propext
  constructor
  · rintro ((h | h) | h)
    · exact .inl h
    · exact .inr (by omega)
    · exact .inr (by omega)
  · rintro (h | h)
    · exact .inl (.inl h)
    · by_cases hk : k < b
      · exact .inl (.inr (by omega))
      · exact .inr (by omega)

theorem DomU_lt {D : Nat → Prop} {a b : Nat} (hD : ∀ k,D k → k < a) (h : a ≤ b) : ∀ k,DomU D a b k → k < b := by
  rintro k (hk | hk)
  · have := hD k hk; omega
  · omega

theorem RunI.refl {P : Program} {B : Bnd P} {ι : Nat → Info} {D : Nat → Prop} {s : St} {w : World} (H : WRel B ι D s.h w) : RunI B ι ι D s s w w :=
  ⟨fun _ _ => rfl,by rw [DomU_self]; exact H,Frm.refl _ _,by rw [DomU_self]; exact fun t b _ h => .inr h,Nat.le_refl _,rfl,fun _ hq => hq⟩

theorem RunI.trans {P : Program} {B : Bnd P} {ι ι1 ι2 : Nat → Info} {D : Nat → Prop} {s s1 s2 : St} {w w1 w2 : World} (h1 : RunI B ι ι1 D s s1 w w1) (h2 : RunI B ι1 ι2 (DomU D s.h.length s1.h.length) s1 s2 w1 w2) : RunI B ι ι2 D s s2 w w2 := by
  have e := DomU_trans (D := D) h1.len h2.len
  refine ⟨fun k hk => (h2.agree k (Nat.lt_of_lt_of_le hk h1.len)).trans (h1.agree k hk),by rw [← e]; exact h2.rel,?_,?_,Nat.le_trans h1.len h2.len,h2.lo.trans h1.lo,fun q hq => h2.tch q (h1.tch q hq)⟩
  · refine Frm.trans h1.frm h2.frm ?_ ?_
    · rintro b ⟨k,c,g1,g2,g3,g4⟩
      exact ⟨k,c,g1,g2,g3,g4.imp id (h2.tch k)⟩
    · intro b hb ho
      rw [h1.lo] at ho
      rcases h1.prov _ b h2.tch ho with g | g
      · omega
      · exact g
  · intro t b ht ho
    rw [← e] at ho
    have hp := h2.prov t b ht (by rw [h1.lo]; exact ho)
    rw [h1.lo] at hp
    rcases hp with g | g
    · exact .inl (Nat.le_trans h1.frm.size g)
    · exact h1.prov t b (fun q hq => ht q (h2.tch q hq)) g

theorem cok1_rel {ι : Nat → Info} {D : Nat → Prop} {v : Value} (h : cok1 v = true) : CRel ι D v v := by
  unfold cok1 at h
  split at h <;> first | (cases h; done) | rfl | skip
  · exact ⟨_,rfl,rfl⟩
  · simp at h; obtain ⟨rfl,rfl⟩ := h; exact ⟨rfl,rfl,rfl⟩
  · simp at h
    obtain ⟨h1,h2⟩ := h
    subst h1 h2
    exact ⟨rfl,#[],rfl,trivial⟩
theorem all_rel {ι : Nat → Info} {D : Nat → Prop} : ∀ {l : List Value},l.all cok1 = true → L2 (CRel ι D) l l
  | [],_ => trivial
  | v :: l,h => by
    simp only [List.all_cons,Bool.and_eq_true] at h
    exact ⟨cok1_rel h.1,all_rel h.2⟩
theorem CRel.toV1 {ι : Nat → Info} {D : Nat → Prop} {v v' : Value} (h : CRel ι D v v') : VRel1 ι D v v' := by
  cases v <;> first | exact h | (exact absurd h (by simp [CRel]))
theorem VRel1.toV {ι : Nat → Info} {D : Nat → Prop} {v v' : Value} (h : VRel1 ι D v v') : VRel ι D v v' := by
  cases v <;> first | exact h | trivial | (exact absurd h (by simp [VRel1,CRel]))
theorem cok2_rel {ι : Nat → Info} {D : Nat → Prop} {v : Value} (h : cok2 v = true) : VRel1 ι D v v := by
  cases v
  case agg cs => exact ⟨cs,rfl,all_rel h⟩
  all_goals (simp only [cok2] at h; exact (cok1_rel h).toV1)
theorem all_rel2 {ι : Nat → Info} {D : Nat → Prop} : ∀ {l : List Value},l.all cok2 = true → L2 (VRel1 ι D) l l
  | [],_ => trivial
  | v :: l,h => by
    simp only [List.all_cons,Bool.and_eq_true] at h
    exact ⟨cok2_rel h.1,all_rel2 h.2⟩
theorem cok_rel {ι : Nat → Info} {D : Nat → Prop} {v : Value} (h : cok v = true) : VRel ι D v v := by
  cases v
  case tuple cs => exact ⟨cs,rfl,all_rel2 h⟩
  all_goals (simp only [cok] at h; exact (cok2_rel h).toV)

theorem vcells_rel {ι : Nat → Info} {D : Nat → Prop} {v v' : Value} {cs : List Value} (h : VRel ι D v v') (hc : vcells v = some cs) : cs = v.cells.toList ∧ L2 (CRel ι D) cs v'.cells.toList := by
  cases v
  case agg a =>
    cases hc
    obtain ⟨cs',rfl,hl⟩ := h
    exact ⟨rfl,hl⟩
  case tuple => cases hc
  case chan => cases hc
  all_goals
    cases hc
    simp only [VRel,VRel1] at h
    have h1 := h
    have h2 := h1.one
    refine ⟨rfl,?_⟩
    cases v' <;> first | exact ⟨h1,trivial⟩ | (cases h2)

def OpY (P : Program) (ρ' : Operand → Value) (o : Oper) (w : World) (R : Value → World → Prop) : Prop :=
  match (execOp ρ' o).run P w with
  | .ok (.value v') w' => R v' w'
  | .ok .skip w' => R undef w'
  | .ok (.enter f args) w' => Calls P f args w' (fun e w'' => ∃ v',e = .returned v' ∧ R v' w'')
  | _ => False

theorem OpY.of_value {P : Program} {ρ' : Operand → Value} {o : Oper} {w w' : World} {v' : Value} {R : Value → World → Prop} (h : (execOp ρ' o).run P w = .ok (.value v') w') (hR : R v' w') : OpY P ρ' o w R := by
  unfold OpY; rw [h]; exact hR
theorem OpY.of_sem {P : Program} {ρ' : Operand → Value} {o : Oper} {w : World} {m : Sem Value} {R R' : Value → World → Prop} (h : execOp ρ' o = (do pure (.value (← m)))) (hm : SemV P m w R') (hR : ∀ v' w',R' v' w' → R v' w') : OpY P ρ' o w R := by
  obtain ⟨v',w',h1,h2⟩ := hm
  refine OpY.of_value (v' := v') (w' := w') ?_ (hR _ _ h2)
  rw [h]; simp only [Sem.run_bind,h1,Result.andThen_ok]; rfl
theorem OpY.of_skip {P : Program} {ρ' : Operand → Value} {o : Oper} {w w' : World} {R : Value → World → Prop} (h : (execOp ρ' o).run P w = .ok .skip w') (hR : R undef w') : OpY P ρ' o w R := by
  unfold OpY; rw [h]; exact hR

theorem tAgg_run {P : Program} {t : TypeId} {b : Bool} (h : tAgg P t = some b) (w : World) : (isAgg t).run P w = .ok b w := by
  unfold tAgg at h
  cases hu : P.underlying t with
  | none => simp [hu] at h
  | some d =>
    rw [hu] at h
    unfold isAgg
    simp only [Sem.run_bind,run_underlying hu,Result.andThen_ok]
    cases d <;> simp at h <;> subst h <;> rfl
theorem tSize_run {P : Program} {t : TypeId} {n : Nat} (h : tSize P t = some n) (w : World) : (sizeOf t).run P w = .ok n w := by
  unfold tSize at h
  cases hi : P.info? t with
  | none => simp [hi] at h
  | some i => simp [hi] at h; simp [sizeOf,typeInfo,hi,h]
theorem tZero_run {P : Program} {t : TypeId} {z : Value} (h : tZero P t = some z) (w : World) : (zeroValue t).run P w = .ok z w := by
  unfold tZero at h
  cases hi : P.info? t with
  | none => simp [hi] at h
  | some i => simp [hi] at h; simp [zeroValue,typeInfo,hi,h]

section
variable {P : Program} {B : Bnd P} {ι : Nat → Info} {D : Nat → Prop} {s : St} {w : World}

theorem load_sound {t : TypeId} {x x' v : Value} (H : WRel B ι D s.h w) (hx : VRel ι D x x') (h : firstT (evLoad P s.h t x) = some v) : ∃ v',(Instr.loadAt t x').run P w = .ok v' w ∧ VRel1 ι D v v' := by
  unfold evLoad at h
  split at h
  · rename_i a n ha hn
    obtain ⟨a',rfl,hra⟩ := hx
    obtain ⟨vs,hf,rfl⟩ := firstT_map (f := fun vs : List Value => Value.agg vs.toArray) h
    obtain ⟨vs',h1,h2,h3⟩ := ld_rel H hra (firstT_mem hf)
    refine ⟨.agg vs'.toArray,?_,⟨_,rfl,by simpa using h1⟩⟩
    have hl := run_loadCells_list (P := P) w a' vs' h3
    have e : vs'.length = n := by rw [← h1.length]; exact h2
    rw [e] at hl
    simp only [Instr.loadAt,Instr.sureAddr,loadVar,Sem.run_bind,Sem.run_pure,Result.andThen_ok,tAgg_run ha,tSize_run hn,if_true,hl]
  · rename_i a ha
    obtain ⟨a',rfl,hra⟩ := hx
    obtain ⟨vs,hf,rfl⟩ := firstT_map (f := fun vs : List Value => vs.headD poison) h
    obtain ⟨vs',h1,h2,h3⟩ := ld_rel H hra (firstT_mem hf)
    match vs,vs',h1,h2 with
    | [v],[v'],h1,_ =>
      refine ⟨v',?_,h1.1.toV1⟩
      have := h3 0 v' rfl
      rw [Addr.add_zero'] at this
      simp only [Instr.loadAt,Instr.sureAddr,loadVar,Sem.run_bind,Sem.run_pure,Result.andThen_ok,tAgg_run ha,Bool.false_eq_true,if_false,load,Sem.run,this]
  · cases h

theorem store_sound {t : TypeId} {x x' v v' : Value} {s' : St} (H : WRel B ι D s.h w) (hx : VRel ι D x x') (hv : VRel ι D v v') (h : firstT (evStore P s t x v) = some s') :
    ∃ w',(Instr.storeAt t x' v').run P w = .ok () w' ∧ Post B ι D s s' w undef undef w' := by
  unfold evStore at h
  split at h
  · rename_i a n vs hn hc
    split at h
    · rename_i hlen'
      obtain ⟨hlen,hpos⟩ := hlen'
      obtain ⟨a',rfl,hra⟩ := hx
      obtain ⟨he,hl⟩ := vcells_rel hv hc
      subst he
      have hsz : v'.cells.size = n := by have := hl.length; simp at this hlen; omega
      obtain ⟨w',h1,h2,h3,h4,h5,h6,h7⟩ := st_rel (P := P) H hra hl (by omega) (firstT_mem h)
      refine ⟨w',?_,ι,⟨fun _ _ => rfl,by rw [h4,DomU_self]; exact h2,h3,by rw [h4,DomU_self]; exact fun t b _ h => .inr (h7 t b h),Nat.le_of_eq h4.symm,h5,h6⟩,by rw [h4,DomU_self]; exact ⟨#[],rfl,trivial⟩⟩
      simp only [Instr.storeAt,Instr.sureAddr,storeVar,Sem.run_bind,Sem.run_pure,Result.andThen_ok,tSize_run hn,hsz,ne_eq,not_true,if_false,h1]
    · cases h
  · cases h
end
end Go.Ab
