/- What an operation does to the evaluator's own state; what it looks at. -/
import Derived.Test.YtmknfenjnladeaaA12
namespace Go.Ab

section
variable {P : Program} {ext : FuncId → Option Ext} {cf : CallF}

def stH (h : List Blk) (a : Addr) (vs : List Value) : List (Bool × List Blk) :=
  match a.spot,h[a.block]? with
  | some j,some ⟨w,some c⟩ => (c.putN a.off j vs).map fun (b,c') => (w && b,h.set a.block ⟨w,some c'⟩)
  | _,_ => []
theorem stN_eq (s : St) (a : Addr) (vs : List Value) : stN s a vs = (stH s.h a vs).map fun (b,h') => (b,(⟨h',s.lo,addW s.lo a.block s.wr⟩ : St)) := by
  unfold stN stH
  cases a.spot with
  | none => rfl
  | some j =>
    cases s.h[a.block]? with
    | none => rfl
    | some b =>
      obtain ⟨w,c⟩ := b
      cases c with
      | none => rfl
      | some c => simp [List.map_map,Function.comp_def]
theorem stH_spec {h h' : List Blk} {a : Addr} {vs : List Value} (hm : firstT (stH h a vs) = some h') : h'.length = h.length ∧ ∀ k,k ≠ a.block → h'[k]? = h[k]? := by
  have hm := firstT_mem hm
  unfold stH at hm
  split at hm
  · rw [List.mem_map] at hm
    obtain ⟨⟨b,c'⟩,_,e⟩ := hm
    simp only [Prod.mk.injEq] at e
    obtain ⟨_,rfl⟩ := e
    exact ⟨by simp,fun k hk => by rw [List.getElem?_set_ne (Ne.symm hk)]⟩
  · cases hm

structure Abs (P : Program) (ext : FuncId → Option Ext) (cf : CallF) (ρ : Operand → Value) (op : Op) (s s' : St) (v : Value) (kd : Kd) : Prop where
  len : s.h.length ≤ s'.h.length
  lo : s'.lo = s.lo
  tch : ∀ q,q ∈ s.wr → q ∈ s'.wr
  wrW : ∀ q,q ∈ kd.W → q < s.lo → q ∈ s'.wr
  same : ∀ k,k < s.h.length → k ∉ kd.W → s'.h[k]? = s.h[k]?
  any : kd ≠ .pure → ∀ lo wr,∃ wr',firstT (evOp P ext cf ρ op ⟨s.h,lo,wr⟩) = some (v,⟨s'.h,lo,wr'⟩,kd) ∧ ∀ q,q ∈ wr' → q ∈ wr ∨ q ∈ kd.W
  pure : kd = .pure → s' = s ∧ ∀ s2,firstT (evOp P ext cf ρ op s2) = some (v,s2,.pure)

theorem Abs.of_pure {ρ : Operand → Value} {op : Op} {s : St} {v : Value} (h : ∀ s2,firstT (evOp P ext cf ρ op s2) = some (v,s2,.pure)) : Abs P ext cf ρ op s s v .pure :=
  ⟨Nat.le_refl _,rfl,fun _ => id,fun q hq => (by cases hq),fun _ _ _ => rfl,fun e => absurd rfl e,fun _ => ⟨rfl,h⟩⟩
theorem Abs.of_rd {ρ : Operand → Value} {op : Op} {s s' : St} {v : Value} (new : List Blk) (he : s'.h = s.h ++ new) (hl : s'.lo = s.lo) (ht : s'.wr = s.wr)
    (h : ∀ lo t,firstT (evOp P ext cf ρ op ⟨s.h,lo,t⟩) = some (v,⟨s'.h,lo,t⟩,.rd)) : Abs P ext cf ρ op s s' v .rd :=
  ⟨by rw [he]; simp,hl,fun _ e => by rw [ht]; exact e,fun q hq => (by cases hq),fun k hk _ => by rw [he,List.getElem?_append_left hk],fun _ lo t => ⟨t,h lo t,fun _ => .inl⟩,fun e => by cases e⟩

theorem append_abs {s s' : St} {t : TypeId} {x y v : Value} (h : firstT (evAppend P s t x y) = some (v,s')) : s.h.length ≤ s'.h.length ∧ s'.lo = s.lo ∧ (∀ q,q ∈ s.wr → q ∈ s'.wr) ∧ (∀ q,q ∈ addrsV x → q < s.lo → q ∈ s'.wr) ∧
    (∀ k,k < s.h.length → k ∉ addrsV x → s'.h[k]? = s.h[k]?) ∧ ∀ lo wr,∃ wr',firstT (evAppend P ⟨s.h,lo,wr⟩ t x y) = some (v,⟨s'.h,lo,wr'⟩) ∧ ∀ q,q ∈ wr' → q ∈ wr ∨ q ∈ addrsV x := by
  unfold evAppend at h ⊢
  split at h
  case h_2 => cases h
  rename_i e b n p hu hsh
  split at h
  case h_2 => cases h
  rename_i m z by' hm hz hb
  split at h
  case isFalse => cases h
  rename_i hok
  simp only [hu,hsh,hm,hz,hb,hok,if_true]
  split at h
  · obtain ⟨hc,e⟩ := firstT_one h
    cases e
    refine ⟨by simp,rfl,fun _ => id,fun q hq => (by cases hq),fun k hk _ => by simp only; rw [List.getElem?_append_left hk],fun lo wr => ⟨wr,?_,fun _ => .inl⟩⟩
    simp only [hc]; rfl
  · rename_i hx
    split at h
    case h_2 => cases h
    rename_i k l c b2 happ
    split at h
    case h_2 => cases h
    rename_i c' hc'
    split at h
    case isFalse => cases h
    rename_i hes
    obtain ⟨hc,e⟩ := firstT_one h
    cases e
    have hk : addrsV x = [k] := by
      unfold appTo at happ
      split at happ
      · split at happ
        · cases happ; rfl
        · cases happ
      · split at happ
        · cases happ; rfl
        · cases happ
      · cases happ
    refine ⟨by simp,rfl,fun _ => mem_addW,fun q hq hlo => ?_,fun q hq hn => ?_,fun lo wr => ⟨addW lo k wr,?_,fun q hq => ?_⟩⟩
    · rw [hk] at hq
      simp only [List.mem_singleton] at hq
      subst hq
      exact (addW_self s.lo q s.wr).resolve_left (by omega)
    · rw [hk] at hn
      simp only [List.mem_singleton] at hn
      simp only
      rw [List.getElem?_append_left (by simp; exact hq),List.getElem?_set_ne (Ne.symm hn)]
    · simp only [happ,hc',hes,if_true,hc]; rfl
    · rw [hk]
      rcases of_addW hq with g | g
      · exact .inl g
      · exact .inr (by simp [g.1])

theorem firstT_mapf {α β : Type} {l : List (Bool × α)} {f : α → β} {x : α} (h : firstT l = some x) : firstT (l.map fun (b,x) => (b,f x)) = some (f x) := by
  induction l with
  | nil => cases h
  | cons p l ih =>
    obtain ⟨c,y⟩ := p
    cases c with
    | true => cases h; rfl
    | false => exact ih h

theorem abs_op {ρ : Operand → Value} {op : Op} {s s' : St} {v : Value} {kd : Kd} (h : firstT (evOp P ext cf ρ op s) = some (v,s',kd)) : Abs P ext cf ρ op s s' v kd := by
  have lift : ∀ {l : List (Bool × Value)},firstT (lift1 s .pure l) = some (v,s',kd) → (∀ s2,evOp P ext cf ρ op s2 = lift1 s2 .pure l) → Abs P ext cf ρ op s s' v kd := by
    intro l h1 h2
    obtain ⟨g1,rfl,rfl⟩ := lift1_first h1
    exact Abs.of_pure fun s2 => by rw [h2]; exact firstT_mapf (f := fun v : Value => (v,s2,Kd.pure)) g1
  have liftR : ∀ {l : List (Bool × Value)},firstT (lift1 s .rd l) = some (v,s',kd) → (∀ lo t,evOp P ext cf ρ op ⟨s.h,lo,t⟩ = lift1 ⟨s.h,lo,t⟩ .rd l) → Abs P ext cf ρ op s s' v kd := by
    intro l h1 h2
    obtain ⟨g1,rfl,rfl⟩ := lift1_first h1
    exact Abs.of_rd [] (by simp) rfl rfl fun lo t => by rw [h2]; exact firstT_mapf (f := fun v : Value => (v,(⟨s'.h,lo,t⟩ : St),Kd.rd)) g1
  cases op <;> simp only [evOp] at h <;> (try (cases h; done))
  case move x => obtain ⟨_,e⟩ := firstT_one h; cases e; exact Abs.of_pure fun s2 => rfl
  case assign x => obtain ⟨_,e⟩ := firstT_one h; cases e; exact Abs.of_pure fun s2 => rfl
  case pick c a b =>
    have hindep : ∀ s2,evOp P ext cf ρ (.pick c a b) s2 = (match ρ c with | .bool t => (match ρ a,ρ b with | .bool u,.bool v => [(true,.bool (cond t u v),s2,.pure)] | u,v => [(t,u,s2,.pure),(true,v,s2,.pure)]) | _ => []) := fun _ => rfl
    split at h
    · rename_i t hc
      split at h
      · rename_i u1 u2 ha hb
        obtain ⟨_,e⟩ := firstT_one h
        cases e
        exact Abs.of_pure fun s2 => by rw [hindep,hc,ha,hb]; rfl
      · rename_i hx
        cases t with
        | true =>
          cases h
          exact Abs.of_pure fun s2 => by
            rw [hindep,hc]
            simp only
            rfl
        | false =>
          cases h
          exact Abs.of_pure fun s2 => by
            rw [hindep,hc]
            simp only
            rfl
    · cases h
  case alloc t =>
    split at h
    · rename_i cs hc
      obtain ⟨_,e⟩ := firstT_one h
      cases e
      exact Abs.of_rd [_] rfl rfl rfl fun lo t => by simp only [evOp,hc]; rfl
    · cases h
  case box t x =>
    split at h
    · rename_i cs hc
      obtain ⟨_,e⟩ := firstT_one h
      cases e
      exact Abs.of_rd [_] rfl rfl rfl fun lo t => by simp only [evOp,hc]; rfl
    · cases h
  case build t parts => exact lift h fun _ => rfl
  case buildSlice t len parts =>
    obtain ⟨⟨u,s2⟩,h1,e⟩ := firstT_map (f := fun p : Value × St => (p.1,p.2,Kd.rd)) h
    cases e
    have key : ∃ c,s2 = ⟨s.h ++ [⟨true,some c⟩],s.lo,s.wr⟩ ∧ ∀ lo tt,firstT (evBuildSlice P ⟨s.h,lo,tt⟩ t len (parts.toList.map fun (i,x) => (i,ρ x))) = some (u,⟨s.h ++ [⟨true,some c⟩],lo,tt⟩) := by
      unfold evBuildSlice at h1 ⊢
      cases hcc : Nat.beq len 0 && (parts.toList.map fun (i,x) => (i,ρ x)).isEmpty with
      | true =>
      rw [hcc] at h1
      simp only [cond_true] at h1 ⊢
      unfold evEmpty at h1
      split at h1
      · rename_i e hu
        split at h1
        · rename_i m hm
          split at h1
          · rename_i c hc1 hc2
            obtain ⟨_,e⟩ := firstT_one h1
            cases e
            refine ⟨c,rfl,fun lo tt => ?_⟩
            unfold evEmpty
            simp only [hu,hm,hc1,hc2]
            rfl
          · cases h1
        · cases h1
      · cases h1
      | false =>
      rw [hcc] at h1
      simp only [cond_false] at h1 ⊢
      unfold evBuildSlice1 at h1
      split at h1
      · rename_i e hu
        split at h1
        · rename_i m z hm hz
          split at h1
          · rename_i cs hok hf
            split at h1
            · rename_i c hc
              obtain ⟨_,e⟩ := firstT_one h1
              cases e
              refine ⟨c,rfl,fun lo tt => ?_⟩
              unfold evBuildSlice1
              simp only [hu,hm,hz,hok,hf,hc]
              rfl
            · cases h1
          · cases h1
        · cases h1
      · cases h1
    obtain ⟨c,rfl,g⟩ := key
    refine Abs.of_rd [⟨true,some c⟩] rfl rfl rfl fun lo tt => ?_
    exact firstT_mapf (f := fun p : Value × St => (p.1,p.2,Kd.rd)) (g lo tt)
  case load t a => exact liftR h fun _ _ => rfl
  case makeSlice t l c =>
    obtain ⟨⟨u,s2⟩,h1,e⟩ := firstT_map (f := fun p : Value × St => (p.1,p.2,Kd.rd)) h
    cases e
    have key : ∃ c0,s2 = ⟨s.h ++ [⟨true,some c0⟩],s.lo,s.wr⟩ ∧ ∀ lo tt,firstT (evMakeSlice P ⟨s.h,lo,tt⟩ t (ρ l) (ρ c)) = some (u,⟨s.h ++ [⟨true,some c0⟩],lo,tt⟩) := by
      unfold evMakeSlice at h1
      split at h1
      · rename_i e kl n kc k hu hl hc
        split at h1
        · rename_i m z b hm hz hb
          split at h1
          · rename_i con hok hcon
            obtain ⟨hcc,e⟩ := firstT_one h1
            cases e
            refine ⟨con,rfl,fun lo tt => ?_⟩
            unfold evMakeSlice
            simp only [hu,hl,hc,hm,hz,hb,hok,hcon,hcc]
            rfl
          · cases h1
        · cases h1
      · cases h1
    obtain ⟨c0,rfl,g⟩ := key
    refine Abs.of_rd [⟨true,some c0⟩] rfl rfl rfl fun lo tt => ?_
    exact firstT_mapf (f := fun p : Value × St => (p.1,p.2,Kd.rd)) (g lo tt)
  case store t a x =>
    obtain ⟨s2,h1,e⟩ := firstT_map (f := fun s2 : St => (undef,s2,Kd.write (addrsV (ρ a)))) h
    cases e
    have key : ∃ a0 : Addr,addrsV (ρ a) = [a0.block] ∧ ∃ h2,s' = ⟨h2,s.lo,addW s.lo a0.block s.wr⟩ ∧ h2.length = s.h.length ∧ (∀ k,k ≠ a0.block → h2[k]? = s.h[k]?) ∧ ∀ lo wr,firstT (evStore P ⟨s.h,lo,wr⟩ t (ρ a) (ρ x)) = some ⟨h2,lo,addW lo a0.block wr⟩ := by
      unfold evStore at h1 ⊢
      split at h1
      · rename_i a0 n vs ha hn hv
        split at h1
        · rename_i hlen
          rw [stN_eq] at h1
          obtain ⟨h2,g1,e⟩ := firstT_map (f := fun h' => (⟨h',s.lo,addW s.lo a0.block s.wr⟩ : St)) h1
          cases e
          obtain ⟨g2,g3⟩ := stH_spec g1
          refine ⟨a0,by rw [ha]; rfl,h2,rfl,g2,g3,fun lo wr => ?_⟩
          simp only [ha,hn,hv,hlen,and_self,if_true,stN_eq]
          exact firstT_mapf (f := fun h' => (⟨h',lo,addW lo a0.block wr⟩ : St)) g1
        · cases h1
      · cases h1
    obtain ⟨a0,ea,h2,rfl,g2,g3,g4⟩ := key
    refine ⟨Nat.le_of_eq g2.symm,rfl,fun _ => mem_addW,fun q hq hlo => ?_,fun k _ hk => g3 k (fun e => hk ?_),fun _ lo wr => ⟨addW lo a0.block wr,?_,fun q hq => ?_⟩,fun e => by cases e⟩
    · simp only [Kd.W,ea,List.mem_singleton] at hq
      subst hq
      exact (addW_self s.lo a0.block s.wr).resolve_left (by omega)
    · simp only [Kd.W,ea,List.mem_singleton]; exact e
    · exact firstT_mapf (f := fun s2 : St => (undef,s2,Kd.write (addrsV (ρ a)))) (g4 lo wr)
    · simp only [Kd.W,ea,List.mem_singleton]
      exact (of_addW hq).imp id (·.1)
  case nilCheck x =>
    split at h
    · rename_i a hx
      obtain ⟨_,e⟩ := firstT_one h; cases e
      exact Abs.of_pure fun s2 => by simp only [evOp,hx]; rfl
    · rename_i f a b hx
      obtain ⟨_,e⟩ := firstT_one h; cases e
      exact Abs.of_pure fun s2 => by simp only [evOp,hx]; rfl
    · cases h
  case binOp bop t x y yt =>
    cases hn : isNilC y with
    | true => rw [hn] at h; exact lift h fun _ => by simp only [evOp,hn,cond_true]
    | false => rw [hn] at h; exact lift h fun _ => by simp only [evOp,hn,cond_false]
  case unOp => exact lift h fun _ => rfl
  case convert src dst x =>
    cases hsl : isSl P src with
    | true =>
      rw [hsl] at h
      exact liftR h fun lo t => by simp only [evOp,hsl,cond_true]
    | false =>
      rw [hsl] at h
      exact lift h fun s2 => by simp only [evOp,hsl,cond_false]
  case makeFunc fn first caps =>
    cases fn with
    | func f =>
      simp only at h
      split at h
      · rename_i hc
        obtain ⟨_,e⟩ := firstT_one h; cases e
        exact Abs.of_pure fun s2 => by simp only [evOp,hc,and_self,if_true]; rfl
      · cases h
    | _ => cases h
  case fieldAddr => exact lift h fun _ => rfl
  case field => exact lift h fun _ => rfl
  case indexAddr => exact liftR h fun _ _ => rfl
  case slice t x lo hi mx =>
    cases mx with
    | some mx => cases h
    | none => exact liftR h fun _ _ => rfl
  case index => exact lift h fun _ => rfl
  case extract t i =>
    split at h
    · rename_i vs ht
      split at h
      · rename_i u hu
        obtain ⟨_,e⟩ := firstT_one h; cases e
        exact Abs.of_pure fun s2 => by simp only [evOp,ht,hu]; rfl
      · cases h
    · cases h
  case call c =>
    split at h
    · rename_i f hcal
      split at h
      · rename_i g x y hf
        split at h
        · rename_i hxy
          have hev : ∀ s2,evOp P ext cf ρ (.call c) s2 = evCall ext cf g (c.args.toList.map ρ ++ y.toList) s2 := fun s2 => by simp only [evOp,hcal,hf,hxy,if_true]
          unfold evCall at h
          cases hg : ext g with
          | some e =>
            rw [hg] at h
            simp only at h
            obtain ⟨u,h1,h2⟩ := firstT_map (f := fun v : Value => (v,s,Kd.pure)) h
            cases h2
            exact Abs.of_pure fun s2 => by
              rw [hev]; unfold evCall; rw [hg]
              exact firstT_mapf (f := fun v : Value => (v,s2,Kd.pure)) h1
          | none =>
            rw [hg] at h
            simp only at h
            cases hE : nodupB (reach s.h 100 ((c.args.toList.map ρ ++ y.toList).flatMap addrsV) []) with
            | false => rw [hE] at h; cases h
            | true =>
              rw [hE] at h
              simp only [cond_true] at h
              obtain ⟨⟨r,s1⟩,hcall,e⟩ := firstT_mapc (f := fun p : Value × St => (relocV (outOf (reach s.h 100 ((c.args.toList.map ρ ++ y.toList).flatMap addrsV) []) s.h.length) p.1,back s (reach s.h 100 ((c.args.toList.map ρ ++ y.toList).flatMap addrsV) []) p.2,cond p.2.wr.isEmpty Kd.rd (Kd.write (p.2.wr.map fun i => (reach s.h 100 ((c.args.toList.map ρ ++ y.toList).flatMap addrsV) []).getD i 0)))) h
              generalize hEE : reach s.h 100 ((c.args.toList.map ρ ++ y.toList).flatMap addrsV) [] = E at *
              cases e
              simp only at *
              have hW : ∀ q,q ∈ (cond s1.wr.isEmpty Kd.rd (Kd.write (s1.wr.map fun i => E.getD i 0))).W ↔ ∃ i ∈ s1.wr,E.getD i 0 = q := fun q => by
                cases hw : s1.wr with
                | nil => simp [Kd.W]
                | cons x l => simp only [List.isEmpty_cons,cond_false,Kd.W,List.mem_map]
              have hfold : ∀ (lo : Nat) (m : List Nat) (q : Nat) (l : List Nat),q ∈ l.foldr (fun i l => addW lo (E.getD i 0) l) m → q ∈ m ∨ ∃ i ∈ l,E.getD i 0 = q := by
                intro lo m q l
                induction l with
                | nil => exact fun h => .inl h
                | cons x l ih =>
                  intro h
                  rcases of_addW h with g | g
                  · exact (ih g).imp id fun ⟨i,h1,h2⟩ => ⟨i,List.mem_cons_of_mem _ h1,h2⟩
                  · exact .inr ⟨x,List.mem_cons_self ..,g.1.symm⟩
              refine ⟨by rw [back_eq]; simp [backH],by rw [back_eq],fun q hq => by rw [back_eq]; exact backW_old hq _,fun q hq hlo => ?_,fun k hk hn => ?_,fun _ lo wr => ⟨s1.wr.foldr (fun i l => addW lo (E.getD i 0) l) wr,?_,fun q hq => ?_⟩,fun e => ?_⟩
              · obtain ⟨i,h1,rfl⟩ := (hW q).1 hq
                rw [back_eq]
                exact (backW_new (m := s.wr) h1).resolve_left (by omega)
              · rw [back_eq]
                simp only
                rw [List.getElem?_append_left (by simp [backH]; exact hk)]
                unfold backH
                rw [List.getElem?_map,List.getElem?_zipIdx,List.getElem?_eq_getElem hk]
                simp only [Option.map_some,Nat.zero_add,Option.some.injEq]
                cases hi : inv E k with
                | none => rfl
                | some i =>
                  simp only
                  cases hc : s1.wr.contains i with
                  | false => rfl
                  | true => exact absurd ((hW k).2 ⟨i,List.contains_iff_mem.1 hc,getD_of (inv_spec hi)⟩) hn
              · rw [hev]; unfold evCall; rw [hg]
                simp only [hEE,hE,cond_true]
                have := firstT_mapf (f := fun p : Value × St => (relocV (outOf E s.h.length) p.1,back ⟨s.h,lo,wr⟩ E p.2,cond p.2.wr.isEmpty Kd.rd (Kd.write (p.2.wr.map fun i => E.getD i 0)))) hcall
                rw [back_eq] at this ⊢
                exact this
              · exact ((hfold lo wr q _ hq).imp id (hW q).2)
              · cases hw : s1.wr.isEmpty <;> rw [hw] at e <;> cases e
        · cases h
      · cases h
    · rename_i hcal
      split at h
      · rename_i t x ht hx
        exact liftR h fun lo tt => by simp only [evOp,hcal,ht,hx]
      · cases h
    · rename_i hcal
      split at h
      · rename_i t t2 x y ht hx
        split at h
        · rename_i htt
          cases hnil : isNilS (ρ y) with
          | true =>
          rw [hnil] at h
          exact liftR h fun lo tt => by simp only [evOp,hcal,ht,hx,htt,if_true,hnil,cond_true]
          | false =>
          rw [hnil] at h
          obtain ⟨⟨u,s2⟩,h1,e⟩ := firstT_map (f := fun p : Value × St => (p.1,p.2,Kd.write (addrsV (ρ x)))) h
          cases e
          obtain ⟨g1,g2,g3,g4,g5,g6⟩ := append_abs h1
          refine ⟨g1,g2,g3,g4,g5,fun _ lo wr => ?_,fun e => by cases e⟩
          obtain ⟨wr',q1,q2⟩ := g6 lo wr
          refine ⟨wr',?_,q2⟩
          subst htt
          simp only [evOp,hcal,ht,hx,if_true,hnil,cond_false]
          exact firstT_mapf (f := fun p : Value × St => (p.1,p.2,Kd.write (addrsV (ρ x)))) q1
        · cases h
      · cases h
    · rename_i hcal
      split at h
      · rename_i x y hx
        exact lift h fun s2 => by simp only [evOp,hcal,hx]
      · cases h
    · rename_i hcal
      split at h
      · rename_i x y hx
        exact lift h fun s2 => by simp only [evOp,hcal,hx]
      · cases h
    · cases h

theorem evOp_congr {ρ ρ2 : Operand → Value} {op : Op} (h : ∀ x ∈ op.operands,ρ x = ρ2 x) (s : St) : evOp P ext cf ρ op s = evOp P ext cf ρ2 op s := by
  have pairs : ∀ ps : Array (Nat × Operand),(∀ x ∈ (ps.toList.map (·.2)).toArray,ρ x = ρ2 x) → (ps.toList.map fun (i,x) => (i,ρ x)) = (ps.toList.map fun (i,x) => (i,ρ2 x)) := fun ps hp =>
    List.map_congr_left fun p hm => by
      obtain ⟨i,x⟩ := p
      simp only [hp x (by simpa using ⟨i,Array.mem_toList_iff.1 hm⟩)]
  cases op <;> simp only [Op.operands] at h <;> simp only [evOp]
  case build t ps => rw [pairs ps h]
  case buildSlice t n ps => rw [pairs ps h]
  case call c =>
    have hargs : ∀ x ∈ c.args.toList,ρ x = ρ2 x := fun x hx => h x (by simp [Call.operands]; right; simpa using hx)
    cases hc : c.callee with
    | value f =>
      have hf : ρ f = ρ2 f := h f (by simp [Call.operands,hc])
      simp only [hf,List.map_congr_left hargs]
    | invoke r m => rfl
    | builtin b =>
      cases b <;> simp only
      case len =>
        cases ha : c.args.toList with
        | nil => cases c.argTypes.toList with
          | nil => rfl
          | cons t l' => cases l' <;> rfl
        | cons x l =>
          cases l with
          | nil =>
            have e := hargs x (by rw [ha]; simp)
            cases c.argTypes.toList with
            | nil => rfl
            | cons t l' => cases l' with
              | nil => simp only [e]
              | cons => rfl
          | cons y l => cases c.argTypes.toList with
            | nil => rfl
            | cons t l' => cases l' <;> rfl
      case append =>
        rcases c.argTypes.toList with _ | ⟨t,_ | ⟨t2,_ | ⟨t3,tl⟩⟩⟩ <;> rcases ha : c.args.toList with _ | ⟨x,_ | ⟨y,_ | ⟨z,l⟩⟩⟩ <;> try rfl
        have e1 := hargs x (by rw [ha]; simp)
        have e2 := hargs y (by rw [ha]; simp)
        simp only [e1,e2]
      case min =>
        rcases ha : c.args.toList with _ | ⟨x,_ | ⟨y,_ | ⟨z,l⟩⟩⟩ <;> try rfl
        have e1 := hargs x (by rw [ha]; simp)
        have e2 := hargs y (by rw [ha]; simp)
        simp only [e1,e2]
      case max =>
        rcases ha : c.args.toList with _ | ⟨x,_ | ⟨y,_ | ⟨z,l⟩⟩⟩ <;> try rfl
        have e1 := hargs x (by rw [ha]; simp)
        have e2 := hargs y (by rw [ha]; simp)
        simp only [e1,e2]
  case makeFunc fn first caps =>
    cases fn with
    | func f =>
      have e : caps.toList.map ρ = caps.toList.map ρ2 := List.map_congr_left fun x hx => h x (by simp; right; simpa using hx)
      simp only [e]
    | _ => rfl
  case slice t x lo hi mx =>
    cases mx with
    | some mx => rfl
    | none =>
      have hx : ρ x = ρ2 x := h x (by simp)
      have hlo : lo.map ρ = lo.map ρ2 := by cases lo with | none => rfl | some y => simp only [Option.map_some]; rw [h y (by simp)]
      have hhi : hi.map ρ = hi.map ρ2 := by cases hi with | none => rfl | some y => simp only [Option.map_some]; rw [h y (by simp)]
      simp only [hx,hlo,hhi]
  all_goals (first | rfl | (simp_all; done))
end
end Go.Ab
