/- One operation, whichever; the frame. -/
import Derived.Test.YtmknfenjnladeaaA10
namespace Go.Ab
open Go.RowKit (Below)

theorem lift1_first {s s' : St} {kd kd' : Kd} {l : List (Bool × Value)} {v : Value} (h : firstT (lift1 s kd l) = some (v,s',kd')) : firstT l = some v ∧ s' = s ∧ kd' = kd := by
  obtain ⟨x,h1,h2⟩ := firstT_map (f := fun v : Value => (v,s,kd)) h
  cases h2
  exact ⟨h1,rfl,rfl⟩

theorem run_callFunc_body {P : Program} {f : FuncId} {fn : Func} (hf : P.funcs[f]? = some fn) (hb : fn.body.isNone = false) (hname : (fn.name == "runtime.NumGoroutine") = false) (args : Array Value) (w : World) :
    (callFunc f args).run P w = .ok (.enter f args) w := by
  have h1 : fn.name ≠ "runtime.NumGoroutine" := by simpa using hname
  have h2 : ¬ fn.body = none := fun e => by rw [e] at hb; cases hb
  simp [callFunc,hf,h1,h2]

section
variable {P : Program} {ext : FuncId → Option Ext} {cf : CallF} {B : Bnd P} {ι : Nat → Info} {D : Nat → Prop} {s s' : St} {w : World} {ρ ρ' : Operand → Value}

theorem argsRel (hF : ∀ x,VRel ι D (ρ x) (ρ' x)) : ∀ l : List Operand,L2 (VRel ι D) (l.map ρ) (l.map ρ')
  | [] => trivial
  | x :: l => ⟨hF x,argsRel hF l⟩

set_option maxHeartbeats 1600000 in
theorem CRel0.toV {ι : Nat → Info} {D : Nat → Prop} {v v' : Value} (h : CRel0 ι D v v') : VRel ι D v v' := by
  unfold CRel0 at h
  split at h
  · exact h
  · exact h
  · exact h.elim
theorem caps_rel {ι : Nat → Info} {D : Nat → Prop} {l l' : List Value} (h : L2 (CRel0 ι D) l l') : L2 (VRel ι D) l l' := h.imp fun _ _ hc => hc.toV
theorem caps_of {ι : Nat → Info} {D : Nat → Prop} {v v' : Value} (h : capV v = true) (hr : VRel ι D v v') : CRel0 ι D v v' := by
  cases v with
  | int k n => exact hr
  | pointer a => cases a with
    | none => cases h
    | some a => exact hr
  | _ => cases h
theorem op_sound (hcf : CfOk P cf) (hext : ExtOk P ext) {o : Oper} {v : Value} {kd : Kd} (H : WRel B ι D s.h w) (hD : ∀ k,D k → k < s.h.length) (hF : ∀ x,VRel ι D (ρ x) (ρ' x)) (hC : ∀ c,ρ' (.const c) = c)
    (h : firstT (evOp P ext cf ρ o.op s) = some (v,s',kd)) : OpY P ρ' o w (Post B ι D s s' w v) := by
  obtain ⟨dst,op,type,pos,after,guard⟩ := o
  simp only at h
  -- an operation that leaves the world alone but for a draw
  have pureOp : ∀ {m : Sem Value} {l : List (Bool × Value)} {k0 : Kd},firstT (lift1 s k0 l) = some (v,s',kd) →
      execOp ρ' ⟨dst,op,type,pos,after,guard⟩ = (do pure (.value (← m))) →
      (∀ u,firstT l = some u → SemV P m w (fun v' w' => VRel ι D u v' ∧ W2 w w')) → OpY P ρ' ⟨dst,op,type,pos,after,guard⟩ w (Post B ι D s s' w v) := by
    intro m l k0 h1 h2 h3
    obtain ⟨g1,rfl,rfl⟩ := lift1_first h1
    exact OpY.of_sem h2 (h3 _ g1) (fun v' w' hh => Post.same H hh.1 hh.2)
  have same : ∀ {v' : Value},VRel ι D v v' → s' = s → (execOp ρ' ⟨dst,op,type,pos,after,guard⟩).run P w = .ok (.value v') w → OpY P ρ' ⟨dst,op,type,pos,after,guard⟩ w (Post B ι D s s' w v) := by
    intro v' h1 h2 h3
    subst h2
    exact OpY.of_value h3 (Post.same H h1 (.inl rfl))
  cases op <;> simp only [evOp] at h <;> (try (cases h; done))
  case move x =>
    obtain ⟨_,e⟩ := firstT_one h
    cases e
    exact same (hF x) rfl rfl
  case assign x =>
    obtain ⟨_,e⟩ := firstT_one h
    cases e
    exact same (hF x) rfl rfl
  case pick c a b =>
    split at h
    · rename_i t hc
      have hc' : ρ' c = .bool t := by have := hF c; rw [hc] at this; exact this
      have hrun : (execOp ρ' ⟨dst,.pick c a b,type,pos,after,guard⟩).run P w = .ok (.value (if t then ρ' a else ρ' b)) w := by
        simp only [execOp,hc',asBool]; rfl
      split at h
      · rename_i u1 u2 ha hb
        obtain ⟨_,e⟩ := firstT_one h
        cases e
        have ha' : ρ' a = .bool u1 := by have := hF a; rw [ha] at this; exact this
        have hb' : ρ' b = .bool u2 := by have := hF b; rw [hb] at this; exact this
        refine same (v' := .bool (cond t u1 u2)) rfl rfl ?_
        rw [hrun,ha',hb']; cases t <;> rfl
      · cases t with
        | true =>
          cases h
          exact same (hF a) rfl (by rw [hrun]; rfl)
        | false =>
          cases h
          exact same (hF b) rfl (by rw [hrun]; rfl)
    · cases h
  case alloc t =>
    split at h
    · rename_i cs hc
      obtain ⟨_,e⟩ := firstT_one h
      cases e
      cases hz : zOk P t with
      | false => rw [hz] at hc; cases hc
      | true =>
        rw [hz] at hc
        simp only [cond_true] at hc
        rw [Option.bind_eq_some_iff] at hc
        obtain ⟨z,hzz,hcz⟩ := hc
        obtain ⟨v',w',h1,h2⟩ := alloc_sound (P := P) (t := t) H hD hz hzz hcz
        exact OpY.of_sem (m := Instr.alloc t true (.tuple #[])) rfl ⟨v',w',h1,h2⟩ (fun _ _ hh => hh)
    · cases h
  case box t x =>
    split at h
    · rename_i cs hc
      obtain ⟨_,e⟩ := firstT_one h
      cases e
      obtain ⟨v',w',h1,h2⟩ := box_sound (P := P) (t := t) H hD (hF x) hc
      exact OpY.of_sem (m := Instr.box t (ρ' x)) rfl ⟨v',w',h1,h2⟩ (fun _ _ hh => hh)
    · cases h
  case build t parts =>
    refine pureOp (m := Instr.build t (parts.map fun (i,x) => (i,ρ' x))) h rfl (fun u hu => ?_)
    obtain ⟨v',h1,h2⟩ := build_sound (P := P) (w := w) hF hu
    exact SemV.run h1 h2
  case buildSlice t len parts =>
    obtain ⟨⟨u,s2⟩,h1,e⟩ := firstT_map (f := fun p : Value × St => (p.1,p.2,Kd.rd)) h
    cases e
    obtain ⟨v',w',h2,h3⟩ := buildSlice_sound (P := P) H hD hF h1
    have hrun : (execOp ρ' ⟨dst,.buildSlice t len parts,type,pos,after,guard⟩).run P w = .ok (.value v') w' := by
      unfold execOp
      simp only [Sem.run_bind]
      rw [h2]
      rfl
    exact OpY.of_value hrun h3
  case makeSlice t l c =>
    obtain ⟨⟨u,s2⟩,h1,e⟩ := firstT_map (f := fun p : Value × St => (p.1,p.2,Kd.rd)) h
    cases e
    obtain ⟨v',w',h2,h3⟩ := makeSlice_sound (P := P) H hD (hF l) (hF c) h1
    have hrun : (execOp ρ' ⟨dst,.makeSlice t l c,type,pos,after,guard⟩).run P w = .ok (.value v') w' := by
      unfold execOp
      simp only [Sem.run_bind]
      rw [h2]
      rfl
    exact OpY.of_value hrun h3
  case load t a =>
    refine pureOp (m := Instr.loadAt t (ρ' a)) h rfl (fun u hu => ?_)
    obtain ⟨v',h1,h2⟩ := load_sound H (hF a) hu
    exact SemV.run h1 h2.toV
  case store t a x =>
    obtain ⟨s2,h1,e⟩ := firstT_map (f := fun s2 : St => (undef,s2,Kd.write (addrsV (ρ a)))) h
    cases e
    obtain ⟨w',h2,h3⟩ := store_sound H (hF a) (hF x) h1
    refine OpY.of_skip (w' := w') ?_ h3
    simp only [execOp,Sem.run_bind,h2,Result.andThen_ok]; rfl
  case nilCheck x =>
    split at h
    · rename_i a hx
      obtain ⟨_,e⟩ := firstT_one h
      cases e
      have hx' := hF x
      rw [hx] at hx'
      obtain ⟨a',he,hr⟩ := hx'
      refine same (v' := .pointer (some a')) ⟨a',rfl,hr⟩ rfl ?_
      simp only [execOp,he]; rfl
    · rename_i f a b hx
      obtain ⟨_,e⟩ := firstT_one h
      cases e
      have hx' := hF x
      rw [hx] at hx'
      obtain ⟨rfl,hy⟩ := hx'
      obtain ⟨y',he,hy⟩ := hy
      refine same (v' := .func (.func f) #[] y') ⟨rfl,y',rfl,hy⟩ rfl ?_
      simp only [execOp,he]; rfl
    · cases h
  case binOp bop t x y yt =>
    cases hn : isNilC y with
    | true =>
      rw [hn] at h
      refine pureOp (m := do eqGuard bop t x y (ρ' x) (ρ' y); binOp bop t (ρ' x) (ρ' y)) h rfl (fun u hu => ?_)
      obtain rfl : y = .const .nilIface := by
        unfold isNilC at hn
        split at hn
        · rfl
        · cases hn
      rw [hC]
      exact nil_sound w (hF x) hu
    | false =>
      rw [hn] at h
      exact pureOp (m := do eqGuard bop t x y (ρ' x) (ρ' y); binOp bop t (ρ' x) (ρ' y)) h rfl (fun u hu => bin_sound w (hF x) (hF y) hu)
  case unOp uop t x =>
    exact pureOp (m := Op.unary uop (ρ' x)) h rfl (fun u hu => un_sound w (hF x) hu)
  case convert src dst' x =>
    cases hsl : isSl P src with
    | true =>
      rw [hsl] at h
      refine pureOp (m := convert src dst' (ρ' x)) h rfl (fun u hu => ?_)
      obtain ⟨v',h1,h2⟩ := bytes_sound (P := P) H (hF x) hu
      exact SemV.run h1 h2
    | false =>
      rw [hsl] at h
      exact pureOp (m := convert src dst' (ρ' x)) h rfl (fun u hu => conv_sound w (hF x) hu)
  case makeFunc fn first caps =>
    cases fn with
    | func f =>
      simp only at h
      split at h
      · rename_i hc
        obtain ⟨hc1,hc2⟩ := hc
        obtain ⟨_,e⟩ := firstT_one h
        cases e
        have hfirst : first = #[] := Array.eq_empty_of_size_eq_zero hc1
        subst hfirst
        have hcaps : L2 (CRel0 ι D) (caps.toList.map ρ).toArray.toList (caps.map ρ').toList := by
          rw [Array.toList_map]
          have : ∀ l : List Operand,(l.map ρ).all capV = true → L2 (CRel0 ι D) (l.map ρ) (l.map ρ') := by
            intro l
            induction l with
            | nil => exact fun _ => trivial
            | cons x l ih =>
              intro h
              simp only [List.map_cons,List.all_cons,Bool.and_eq_true] at h
              exact ⟨caps_of h.1 (hF x),ih h.2⟩
          exact this _ hc2
        refine same (v' := .func (.func f) #[] (caps.map ρ')) ⟨rfl,_,rfl,hcaps⟩ rfl ?_
        simp only [execOp,Instr.makeFunc,List.map_toArray,List.map_nil,pure_bind,Sem.run_pure]
      · cases h
    | _ => cases h
  case fieldAddr t x f =>
    refine pureOp (m := Instr.fieldAt t (ρ' x) f) h rfl (fun u hu => ?_)
    obtain ⟨v',h1,h2⟩ := fieldAddr_sound (P := P) (w := w) (hF x) hu
    exact SemV.run h1 h2
  case field t x f =>
    refine pureOp (m := Instr.field t (ρ' x) f) h rfl (fun u hu => ?_)
    obtain ⟨v',h1,h2⟩ := field_sound (P := P) (w := w) (hF x) hu
    exact SemV.run h1 h2
  case indexAddr t x ix =>
    refine pureOp (m := Instr.indexAt t (ρ' x) (ρ' ix)) h rfl (fun u hu => ?_)
    obtain ⟨v',h1,h2⟩ := indexAddr_sound (P := P) H (hF x) (hF ix) hu
    exact SemV.run h1 h2
  case slice t x lo hi mx =>
    cases mx with
    | some mx => cases h
    | none =>
    obtain ⟨hu,rfl,rfl⟩ := lift1_first h
    have orel : ∀ y : Option Operand,ORel ι D (y.map ρ) (y.map ρ') := by
      intro y
      cases y with
      | none => exact .inl ⟨rfl,rfl⟩
      | some y => exact .inr ⟨_,_,rfl,rfl,hF y⟩
    obtain ⟨v',h1,h2⟩ := sliceX_sound (P := P) H (hF x) (orel lo) (orel hi) hu
    refine same h2 rfl ?_
    simp only [execOp,Sem.run_bind,h1,Option.map_none]; rfl
  case index t x ix =>
    refine pureOp (m := Instr.index t (ρ' x) (ρ' ix)) h rfl (fun u hu => ?_)
    obtain ⟨v',h1,h2⟩ := index_sound (P := P) (w := w) (hF x) (hF ix) hu
    exact SemV.run h1 h2
  case extract t i =>
    split at h
    · rename_i vs ht
      split at h
      · rename_i u hu
        obtain ⟨_,e⟩ := firstT_one h
        cases e
        obtain ⟨v',h1,h2⟩ := extract_sound (P := P) (w := w) (hF t) ht hu
        refine same h2 rfl ?_
        simp only [execOp,Sem.run_bind,h1,Result.andThen_ok]; rfl
      · cases h
    · cases h
  case call c =>
    split at h
    · rename_i f hcal
      split at h
      · rename_i g x y hf
        split at h
        · rename_i hxy
          have hf' := hF f
          rw [hf] at hf'
          obtain ⟨rfl,y',he,hy⟩ := hf'
          have hres : ∀ w,(execOp ρ' ⟨dst,.call c,type,pos,after,guard⟩).run P w = (callFunc g (c.args.map ρ' ++ y')).run P w := fun w => by
            simp only [execOp,resolve,hcal,he,Deferred.ofValue,invoke,Sem.run_bind,Sem.run_pure,Result.andThen_ok]
            simp
          have hargs : L2 (VRel ι D) (c.args.toList.map ρ ++ y.toList) (c.args.map ρ' ++ y').toList := by
            rw [Array.toList_append,Array.toList_map]; exact (argsRel hF _).append (caps_rel hy)
          cases hg : ext g with
          | some e =>
            obtain ⟨fn,f1,f2,f3,f4,f5⟩ := hext g e hg
            unfold evCall at h
            rw [hg] at h
            simp only at h
            obtain ⟨u,h1,h2⟩ := firstT_map (f := fun v : Value => (v,s,Kd.pure)) h
            cases h2
            obtain ⟨v',w',r1,r2,r3⟩ := ext_sound (P := P) (w := w) hargs h1
            refine OpY.of_value (v' := v') (w' := w') ?_ (Post.same H r2 r3)
            rw [hres,run_callFunc_extern f1 f2 f3 f4 f5]
            rw [Array.toArray_toList] at r1
            rw [r1]; rfl
          | none =>
            obtain ⟨⟨fn,f1,f2,f3⟩,hc⟩ := call_sound (P := P) hcf H hD hargs hg h
            unfold OpY
            rw [hres,run_callFunc_body f1 f2 f3]
            exact hc
        · cases h
      · cases h
    · rename_i hcal
      split at h
      · rename_i t x ht hx
        have ea : c.args = #[x] := by apply Array.ext'; simpa using hx
        have et : c.argTypes = #[t] := by apply Array.ext'; simpa using ht
        refine pureOp (m := Builtin.len_ #[t] type #[ρ' x]) h ?_ (fun u hu => ?_)
        · simp only [execOp,resolve,hcal,ea,et,pure_bind,invoke,builtin,List.map_toArray,List.map_cons,List.map_nil]
        · obtain ⟨v',h1,h2⟩ := len_sound (P := P) (w := w) (ty := type) H (hF x) hu
          exact SemV.run h1 h2
      · cases h
    · rename_i hcal
      split at h
      · rename_i t t2 x y ht hx
        have ea : c.args = #[x,y] := by apply Array.ext'; simpa using hx
        have et : c.argTypes = #[t,t2] := by apply Array.ext'; simpa using ht
        split at h
        · rename_i e2
          subst e2
          cases hnil : isNilS (ρ y) with
          | true =>
          rw [hnil] at h
          refine pureOp (m := Builtin.append_ #[t,t] type #[ρ' x,ρ' y]) h ?_ (fun u hu => ?_)
          · simp only [execOp,resolve,hcal,ea,et,pure_bind,invoke,builtin,List.map_toArray,List.map_cons,List.map_nil]
          · obtain ⟨v',h1,h2⟩ := appNil_sound (P := P) (w := w) (ty := type) (hF x) (hF y) hnil hu
            exact SemV.run h1 h2
          | false =>
          rw [hnil] at h
          obtain ⟨⟨u,s2⟩,h1,e⟩ := firstT_map (f := fun p : Value × St => (p.1,p.2,Kd.write (addrsV (ρ x)))) h
          cases e
          obtain ⟨v',w',h2,h3⟩ := append_sound (P := P) (ty := type) H hD (hF x) (hF y) h1
          refine OpY.of_value (v' := v') (w' := w') ?_ h3
          simp only [execOp,resolve,hcal,ea,et,pure_bind,invoke,builtin,List.map_toArray,List.map_cons,List.map_nil,Sem.run_bind,h2,Result.andThen_ok]
          rfl
        · cases h
      · cases h
    · rename_i hcal
      split at h
      · rename_i x y hx
        have ea : c.args = #[x,y] := by apply Array.ext'; simpa using hx
        refine pureOp (m := Builtin.min_ c.argTypes type #[ρ' x,ρ' y]) h ?_ (fun u hu => ?_)
        · simp only [execOp,resolve,hcal,ea,pure_bind,invoke,builtin,List.map_toArray,List.map_cons,List.map_nil]
        · obtain ⟨v',h1,h2⟩ := mm_sound (P := P) (w := w) (at_ := c.argTypes) (ty := type) (hF x) (hF y) hu
          exact SemV.run h1 h2
      · cases h
    · rename_i hcal
      split at h
      · rename_i x y hx
        have ea : c.args = #[x,y] := by apply Array.ext'; simpa using hx
        refine pureOp (m := Builtin.max_ c.argTypes type #[ρ' x,ρ' y]) h ?_ (fun u hu => ?_)
        · simp only [execOp,resolve,hcal,ea,pure_bind,invoke,builtin,List.map_toArray,List.map_cons,List.map_nil]
        · obtain ⟨v',h1,h2⟩ := mm_sound (P := P) (w := w) (at_ := c.argTypes) (ty := type) (hF x) (hF y) hu
          exact SemV.run h1 h2
      · cases h
    · cases h

def FRel (ι : Nat → Info) (D : Nat → Prop) (fr : List Value) (a : Act) : Prop := L2 (VRel ι D) fr a.tmps.toList ∧ a.defers = []

theorem undef_rel : VRel ι D undef undef := ⟨#[],rfl,trivial⟩

theorem eo_rel {fr : List Value} {a : Act} (h : FRel ι D fr a) (x : Operand) : VRel ι D (eo fr x) (a.eval x) := by
  cases x with
  | tmp t =>
    show VRel ι D (fr.getD t undef) (a.tmps.getD t undef)
    rw [List.getD_eq_getElem?_getD]
    cases ht : fr[t]? with
    | some v =>
      obtain ⟨v',h1,h2⟩ := h.1.get t v ht
      rw [Array.getElem?_toList] at h1
      rw [Array.getD_eq_getD_getElem?,h1]
      exact h2
    | none =>
      have hl := h.1.length
      have : a.tmps[t]? = none := by
        rw [Array.getElem?_eq_none_iff]
        rw [List.getElem?_eq_none_iff] at ht
        simp at hl; omega
      rw [Array.getD_eq_getD_getElem?,this]
      exact undef_rel
  | const v =>
    show VRel ι D (cond (cok v) v anyV) v
    cases hc : cok v with
    | true => exact cok_rel hc
    | false => trivial
  | global g => trivial
  | func f => exact ⟨rfl,#[],rfl,trivial⟩

theorem FRel.mono {ι' : Nat → Info} {D' : Nat → Prop} {fr : List Value} {a : Act} (h : FRel ι D fr a) (hD : ∀ k,D k → D' k ∧ ι' k = ι k) : FRel ι' D' fr a :=
  ⟨h.1.imp fun _ _ hv => hv.mono hD,h.2⟩

theorem FRel.put {fr : List Value} {a : Act} (h : FRel ι D fr a) (dst : Option Tmp) {v v' : Value} (hv : VRel ι D v v') : FRel ι D (putA fr dst v) (a.put dst v') := by
  cases dst with
  | none => exact h
  | some d =>
    refine ⟨?_,h.2⟩
    simp only [putA,Act.put,Array.toList_setIfInBounds]
    exact h.1.set d hv
end
end Go.Ab
