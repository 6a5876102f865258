/- New blocks, places, parts of values. -/
import Derived.Laws.MakeOwn
import Derived.Test.YtmknfenjnladeaaA7
namespace Go.Ab
open Go.RowKit (Below)

theorem fold_rel {ι : Nat → Info} {D : Nat → Prop} {l l' : List Value} (hl : L2 (CRel ι D) l l') {cs cs' : Array Value} (hcs : L2 (CRel ι D) cs.toList cs'.toList) (off : Nat) (s : Nat) :
    L2 (CRel ι D) ((l.zipIdx s).foldl (fun cs (x : Value × Nat) => cs.setIfInBounds (off + x.2) x.1) cs).toList ((l'.zipIdx s).foldl (fun cs (x : Value × Nat) => cs.setIfInBounds (off + x.2) x.1) cs').toList := by
  induction l generalizing l' cs cs' s with
  | nil => cases l' with
    | nil => exact hcs
    | cons => exact hl.elim
  | cons v l ih => cases l' with
    | nil => exact hl.elim
    | cons v' l' =>
      simp only [List.zipIdx_cons,List.foldl_cons]
      refine ih hl.2 ?_ (s + 1)
      simp only [Array.toList_setIfInBounds]
      exact hcs.set _ hl.1

theorem zipIdx_foldl {α : Type} (a : Array α) {β : Type} (f : β → α × Nat → β) (b : β) : a.zipIdx.foldl f b = (a.toList.zipIdx 0).foldl f b := by
  rw [← Array.foldl_toList,Array.toList_zipIdx]

def PRel (ι : Nat → Info) (D : Nat → Prop) (p p' : Nat × Value) : Prop := p.1 = p'.1 ∧ L2 (CRel ι D) p.2.cells.toList p'.2.cells.toList

theorem fill_rel {ι : Nat → Info} {D : Nat → Prop} (place : Nat → Option (Nat × Nat)) : ∀ {ps ps' : List (Nat × Value)} {cs cs' r : Array Value},L2 (PRel ι D) ps ps' → L2 (CRel ι D) cs.toList cs'.toList →
    Instr.fill place cs ps = some r → ∃ r',Instr.fill place cs' ps' = some r' ∧ L2 (CRel ι D) r.toList r'.toList
  | [],[],cs,cs',r,_,hcs,h => by cases h; exact ⟨cs',rfl,hcs⟩
  | [],_ :: _,_,_,_,hp,_,_ => hp.elim
  | _ :: _,[],_,_,_,hp,_,_ => hp.elim
  | (i,v) :: ps,(i',v') :: ps',cs,cs',r,hp,hcs,h => by
    obtain ⟨⟨e1,h2⟩,h3⟩ := hp
    simp only at e1 h2
    subst e1
    simp only [Instr.fill] at h ⊢
    cases hpl : place i with
    | none => simp [hpl] at h
    | some p =>
      obtain ⟨off,size⟩ := p
      simp only [hpl] at h ⊢
      have hs : v'.cells.size = v.cells.size := by have := h2.length; simpa using this.symm
      have hc : cs'.size = cs.size := by have := hcs.length; simpa using this.symm
      rw [hs,hc]
      split at h
      · cases h
      · rename_i hne
        rw [if_neg hne]
        refine fill_rel place h3 ?_ h
        rw [zipIdx_foldl,zipIdx_foldl]
        exact fold_rel h2 hcs off 0

theorem fill_size (place : Nat → Option (Nat × Nat)) : ∀ {ps : List (Nat × Value)} {cs r : Array Value},Instr.fill place cs ps = some r → r.size = cs.size
  | [],cs,r,h => by cases h; rfl
  | (i,v) :: ps,cs,r,h => by
    simp only [Instr.fill] at h
    cases hpl : place i with
    | none => simp [hpl] at h
    | some p =>
      obtain ⟨off,size⟩ := p
      simp only [hpl] at h
      split at h
      · cases h
      · rw [fill_size place h,zipIdx_foldl,(Great.foldl_set off v.cells.toList 0 cs).1]

theorem partsRel {ι : Nat → Info} {D : Nat → Prop} {ρ ρ' : Operand → Value} (hF : ∀ x,VRel ι D (ρ x) (ρ' x)) : ∀ {ps : List (Nat × Operand)},partsOk (ps.map fun (i,x) => (i,ρ x)) = true →
    L2 (PRel ι D) (ps.map fun (i,x) => (i,ρ x)) (ps.map fun (i,x) => (i,ρ' x))
  | [],_ => trivial
  | (i,x) :: ps,h => by
    simp only [partsOk,List.map_cons,List.all_cons,Bool.and_eq_true] at h
    obtain ⟨cs,hc⟩ := Option.isSome_iff_exists.1 h.1
    obtain ⟨he,hl⟩ := vcells_rel (hF x) hc
    refine ⟨⟨rfl,by rw [← he]; exact hl⟩,partsRel hF h.2⟩

section
variable {P : Program} {B : Bnd P} {ι : Nat → Info} {D : Nat → Prop} {s : St} {w : World}

theorem zOk_rel {t : TypeId} {z : Value} (h : zOk P t = true) (hz : tZero P t = some z) : VRel1 ι D z z := by
  unfold zOk at h
  rw [hz] at h
  exact cok2_rel h
theorem V1_cells {v v' : Value} (h : VRel1 ι D v v') (hc : isTup v = false) : L2 (CRel ι D) v.cells.toList v'.cells.toList := by
  cases v
  case agg cs => obtain ⟨cs',rfl,hl⟩ := h; exact hl
  case tuple => cases hc
  all_goals
    simp only [VRel1] at h
    have h2 := h.one
    cases v' <;> first | exact ⟨h,trivial⟩ | (cases h2)
theorem zOk_tup {t : TypeId} {z : Value} (h : zOk P t = true) (hz : tZero P t = some z) : isTup z = false := by
  unfold zOk at h
  rw [hz] at h
  cases z <;> first | rfl | (cases h)

theorem built_rel {t : TypeId} {ps ps' : List (Nat × Value)} {cs : Array Value} (hz : zOk P t = true) (hp : L2 (PRel ι D) ps ps') (h : P.built t ps = some cs) :
    ∃ cs',P.built t ps' = some cs' ∧ L2 (CRel ι D) cs.toList cs'.toList := by
  have key : ∀ it z,P.info? t = some it → it.zero = some z → L2 (CRel ι D) z.cells.toList z.cells.toList := fun it z hi hzz => by
    have e : tZero P t = some z := by simp [tZero,hi,hzz]
    exact V1_cells (zOk_rel hz e) (zOk_tup hz e)
  unfold Program.built at h ⊢
  split at h
  · rename_i it n e hi hu
    split at h
    · rename_i z ie hzz hie
      obtain ⟨r',h1,h2⟩ := fill_rel (ι := ι) (D := D) _ hp (key _ _ hi hzz) h
      exact ⟨r',h1,h2⟩
    · cases h
  · rename_i it fields hi hu
    split at h
    · rename_i z places hzz hpl
      obtain ⟨r',h1,h2⟩ := fill_rel (ι := ι) (D := D) _ hp (key _ _ hi hzz) h
      exact ⟨r',h1,h2⟩
    · cases h
  · cases h

theorem push_post (H : WRel B ι D s.h w) (hD : ∀ k,D k → k < s.h.length) (c : Con) (cs' : Array Value) (t : TypeId) (room : Nat)
    (h1 : c.len ≤ room) (h2 : room * c.es ≤ cs'.size) (h3 : ∀ i j v,c.at i j = some v → ∃ v',cs'[i * c.es + j]? = some v' ∧ CRel ι D v v') (l cp cp' : Nat) (isSlice : Bool) (hl : l ≤ cp) (hcp : cp ≤ cp') (hr : cp' ≤ room) :
    Post B ι D s (evPush s c).2 w (if isSlice then .slice (some ⟨s.h.length,0,some 0⟩) l cp else .pointer (some ⟨s.h.length,0,some 0⟩))
      (if isSlice then .slice (some ⟨w.heap.size,0,none⟩) l cp' else .pointer (some ⟨w.heap.size,0,none⟩)) (w.alloc (.cells cs' t)) := by
  obtain ⟨ι',g1,g2,g3⟩ := push_rel H hD c cs' t room h1 h2 h3
  have elen : (evPush s c).2.h.length = s.h.length + 1 := by simp [evPush]
  have hA : ARel ι' (DomU D s.h.length (s.h.length + 1)) ⟨s.h.length,0,some 0⟩ ⟨w.heap.size,0,none⟩ := by
    refine ⟨.inr ⟨Nat.le_refl _,by simp⟩,0,rfl,?_⟩
    simp [Info.cell,g2]
  refine ⟨ι',⟨g1,?_,Frm.alloc _ _ _,?_,by simp [evPush],rfl,fun _ hq => hq⟩,?_⟩
  · rw [elen]; exact g3
  · rw [elen]
    rintro t b _ ⟨k,c0,hk,e,eb,et⟩
    rcases hk with hk | hk
    · have hlt := hD k hk
      rw [show (evPush s c).2.h = s.h ++ [⟨true,some c⟩] from rfl,List.getElem?_append_left hlt] at e
      rw [g1 k hlt] at eb
      exact .inr ⟨k,c0,hk,e,eb,et⟩
    · have : k = s.h.length := by omega
      subst this
      rw [g2] at eb
      exact .inl (Nat.le_of_eq eb)
  · rw [elen]
    cases isSlice with
    | true =>
      refine ⟨_,cp',rfl,hA,rfl,hl,hcp,?_⟩
      simp [g2]; omega
    | false => exact ⟨_,rfl,hA⟩

theorem cells_at {l : List Value} {cs' : Array Value} (hl : L2 (CRel ι D) l cs'.toList) : ∀ i j v,(Con.cells l).at i j = some v → ∃ v',cs'[i * (Con.cells l).es + j]? = some v' ∧ CRel ι D v v' := by
  intro i j v h
  simp only [Con.at] at h
  split at h
  · rename_i e; subst e
    obtain ⟨v',h1,h2⟩ := hl.get j v h
    exact ⟨v',by simpa using h1,h2⟩
  · cases h

theorem box_sound {t : TypeId} {x x' : Value} {cs : List Value} (H : WRel B ι D s.h w) (hD : ∀ k,D k → k < s.h.length) (hx : VRel ι D x x') (hc : vcells x = some cs) :
    ∃ v' w',(Instr.box t x').run P w = .ok v' w' ∧ Post B ι D s (evPush s (.cells cs)).2 w (.pointer (some ⟨s.h.length,0,some 0⟩)) v' w' := by
  obtain ⟨he,hl⟩ := vcells_rel hx hc
  have := push_post H hD (.cells cs) x'.cells t 1 (Nat.le_refl _) (by have := hl.length; simp [Con.es] at this ⊢; omega) (cells_at hl) 0 0 0 false (Nat.le_refl _) (Nat.le_refl _) (Nat.zero_le _)
  exact ⟨_,_,rfl,this⟩

theorem alloc_sound {t : TypeId} {z : Value} {cs : List Value} (H : WRel B ι D s.h w) (hD : ∀ k,D k → k < s.h.length) (hz : zOk P t = true) (hzz : tZero P t = some z) (hc : vcells z = some cs) :
    ∃ v' w',(Instr.alloc t true (.tuple #[])).run P w = .ok v' w' ∧ Post B ι D s (evPush s (.cells cs)).2 w (.pointer (some ⟨s.h.length,0,some 0⟩)) v' w' := by
  obtain ⟨v',w',h1,h2⟩ := box_sound (P := P) (t := t) H hD ((zOk_rel hz hzz).toV) hc
  refine ⟨v',w',?_,h2⟩
  unfold Instr.alloc
  simp only [Sem.run_bind,tZero_run hzz,Result.andThen_ok]
  exact h1

theorem build_sound {ρ ρ' : Operand → Value} (hF : ∀ x,VRel ι D (ρ x) (ρ' x)) {t : TypeId} {parts : Array (Nat × Operand)} {v : Value} (h : firstT (evBuild P t (parts.toList.map fun (i,x) => (i,ρ x))) = some v) :
    ∃ v',(Instr.build t (parts.map fun (i,x) => (i,ρ' x))).run P w = .ok v' w ∧ VRel ι D v v' := by
  unfold evBuild at h
  split at h
  · rename_i cs hok hb
    simp only [Bool.and_eq_true] at hok
    obtain ⟨hc,rfl⟩ := firstT_one h
    obtain ⟨cs',h1,h2⟩ := built_rel hok.1 (partsRel hF hok.2) hb
    refine ⟨.agg cs',run_build w t _ cs' ?_,⟨cs',rfl,h2⟩⟩
    rw [Array.toList_map]; exact h1
  · cases h

theorem chop_spec : ∀ (n m : Nat) (l : List Value) (i : Nat),i < n → (chop n m l)[i]? = some ((l.drop (i * m)).take m)
  | 0,_,_,_,h => by omega
  | n + 1,m,l,0,_ => by simp [chop]
  | n + 1,m,l,i + 1,h => by
    simp only [chop,List.getElem?_cons_succ]
    rw [chop_spec n m (l.drop m) i (by omega),List.drop_drop]
    rw [Nat.succ_mul,Nat.add_comm]
theorem chop_length : ∀ (n m : Nat) (l : List Value),(chop n m l).length = n
  | 0,_,_ => rfl
  | n + 1,m,l => by simp [chop,chop_length n m]
theorem mapM'_spec {α β : Type} {f : α → Option β} : ∀ {l : List α} {r : List β},mapM' f l = some r → r.length = l.length ∧ ∀ (i : Nat) (b : β),r[i]? = some b → ∃ a,l[i]? = some a ∧ f a = some b
  | [],r,h => by cases h; simp
  | a :: l,r,h => by
    simp only [mapM'] at h
    split at h
    · rename_i b bs h1 h2
      cases h
      obtain ⟨e1,e2⟩ := mapM'_spec h2
      refine ⟨by simp [e1],fun i c hc => ?_⟩
      cases i with
      | zero => simp at hc; subst hc; exact ⟨a,rfl,h1⟩
      | succ i => simp at hc; simpa using e2 i c hc
    · cases h
theorem strsOf_spec : ∀ {l : List Value} {r : List ByteArray},strsOf l = some r → l = r.map .string
  | [],r,h => by cases h; rfl
  | v :: l,r,h => by
    cases v <;> simp only [strsOf] at h <;> try (cases h; done)
    rw [Option.map_eq_some_iff] at h
    obtain ⟨r',h1,rfl⟩ := h
    simp [strsOf_spec h1]

theorem conOf_spec {e : TypeId} {n m : Nat} {cs : List Value} {c : Con} (hm : 0 < m) (hlen : cs.length = n * m) (h : conOf P e n m cs = some c) :
    c.es = m ∧ c.len = n ∧ ∀ i j v,c.at i j = some v → cs[i * m + j]? = some v := by
  unfold conOf at h
  split at h
  · rename_i sch hs
    split at h
    · rename_i hsm
      rw [Option.map_eq_some_iff] at h
      obtain ⟨rows,h1,rfl⟩ := h
      obtain ⟨e1,e2⟩ := mapM'_spec h1
      rw [chop_length] at e1
      refine ⟨hsm,e1,fun i j v hv => ?_⟩
      simp only [Con.at] at hv
      split at hv
      · rename_i hi
        rw [Option.map_eq_some_iff] at hv
        obtain ⟨t,ht,rfl⟩ := hv
        obtain ⟨a,ha,hu⟩ := e2 i rows[i] (List.getElem?_eq_getElem hi)
        rw [chop_spec n m cs i (by omega)] at ha
        cases ha
        obtain ⟨_,_,q3⟩ := unAll_spec hu
        have := q3 j t ht
        have hjm : j < m := by have := (List.getElem?_eq_some_iff.1 ht).1; omega
        rw [List.getElem?_take,if_pos hjm,List.getElem?_drop] at this
        rw [this]
        simp [List.getD,List.getElem?_eq_getElem hi]
      · cases hv
    · cases h
  · split at h
    · split at h
      · rename_i hm1
        subst hm1
        rw [Option.map_eq_some_iff] at h
        obtain ⟨l,h1,rfl⟩ := h
        have e := strsOf_spec h1
        subst e
        refine ⟨rfl,by simpa [Con.len] using hlen,fun i j v hv => ?_⟩
        simp only [Con.at] at hv
        split at hv
        · rename_i hj; subst hj; simpa using hv
        · cases hv
      · cases h
    · split at h
      · rename_i hm1
        subst hm1
        cases h
        refine ⟨rfl,by simpa [Con.len] using hlen,fun i j v hv => ?_⟩
        simp only [Con.at] at hv
        split at hv
        · rename_i hj; subst hj; simpa using hv
        · cases hv
      · split at h
        · rename_i hn1
          subst hn1
          cases h
          refine ⟨by simpa [Con.es] using hlen,rfl,fun i j v hv => ?_⟩
          simp only [Con.at] at hv
          split at hv
          · rename_i hi; subst hi; simpa using hv
          · cases hv
        · cases h

theorem buildSlice_sound1 {ρ ρ' : Operand → Value} (H : WRel B ι D s.h w) (hD : ∀ k,D k → k < s.h.length) (hF : ∀ x,VRel ι D (ρ x) (ρ' x)) {t : TypeId} {len : Nat} {parts : Array (Nat × Operand)} {v : Value} {s' : St}
    (h : firstT (evBuildSlice1 P s t len (parts.toList.map fun (i,x) => (i,ρ x))) = some (v,s')) :
    ∃ v' w',(Instr.buildSlice t len (parts.map fun (i,x) => (i,ρ' x))).run P w = .ok v' w' ∧ Post B ι D s s' w v v' w' := by
  unfold evBuildSlice1 at h
  split at h
  · rename_i e hu
    split at h
    · rename_i m z hm hz
      split at h
      · rename_i cs hok hf
        simp only [Bool.and_eq_true] at hok
        obtain ⟨⟨⟨⟨o1,o2⟩,o3⟩,o4⟩,o5⟩ := hok
        have o5' := beq_true o5
        have o3' := blt_true o3
        have o4' := Nat.le_of_ble_eq_true o4
        split at h
        · rename_i c hc
          obtain ⟨hcc,e⟩ := firstT_one h
          cases e
          have hmpos : 0 < m := Nat.pos_of_ne_zero fun e => by subst e; simp at o3'
          have hzc := V1_cells (zOk_rel (ι := ι) (D := D) o1 hz) (zOk_tup o1 hz)
          have h0 : L2 (CRel ι D) ((Array.range (len * m)).map (z.cells[· % z.cells.size]!)).toList ((Array.range (len * m)).map (z.cells[· % z.cells.size]!)).toList := by
            refine L2.of_get rfl fun i a b ha hb => ?_
            rw [ha] at hb; cases hb
            rw [Array.getElem?_toList,Array.getElem?_map] at ha
            rw [Option.map_eq_some_iff] at ha
            obtain ⟨q,_,rfl⟩ := ha
            by_cases hz0 : q % z.cells.size < z.cells.size
            · obtain ⟨b,hb1,hb2⟩ := hzc.get (q % z.cells.size) (z.cells[q % z.cells.size]) (by simp [hz0])
              simp [hz0] at hb1
              subst hb1
              simp only [getElem!_pos z.cells (q % z.cells.size) hz0]
              exact hb2
            · exact absurd (Nat.mod_lt _ (by omega)) hz0
          obtain ⟨cs',f1,f2⟩ := fill_rel (fun i => some (i * m,m)) (partsRel hF o2) h0 hf
          unfold tSize at hm
          cases hi : P.info? e with
          | none => simp [hi] at hm
          | some ie =>
            simp [hi] at hm
            have hzz : ie.zero = some z := by simpa [tZero,hi] using hz
            have hlen : cs.toList.length = len * m := by
              have := fill_size _ hf
              simpa using this
            obtain ⟨q1,q2,q3⟩ := conOf_spec hmpos hlen hc
            have hcs' : cs'.toList.length = len * m := by rw [← f2.length]; exact hlen
            have hrun := run_buildSlice (P := P) w t e len (parts.map fun (i,x) => (i,ρ' x)) cs' ie z hu hi hzz (by rw [hm]; omega) (by rw [hm]; omega) (by rw [hm,Array.toList_map]; exact f1)
            refine ⟨_,_,hrun,?_⟩
            exact push_post H hD c cs' e len (by omega) (by rw [q1]; simp at hcs'; omega) (fun i j v hv => by
              have h1 := q3 i j v hv
              obtain ⟨v',h2,h3⟩ := f2.get _ _ h1
              exact ⟨v',by rw [q1]; simpa using h2,h3⟩) len len len true (Nat.le_refl _) (Nat.le_refl _) (Nat.le_refl _)
        · cases h
      · cases h
    · cases h
  · cases h


theorem repOf_spec {e : TypeId} {n m : Nat} {cs : List Value} {c : Con} (hm : 0 < m) (hlen : cs.length = m) (h : repOf P e n m cs = some c) :
    c.es = m ∧ c.len = n ∧ ∀ i j v,c.at i j = some v → cs[j]? = some v := by
  unfold repOf at h
  split at h
  · rename_i sch hs
    split at h
    · rename_i hsm
      rw [Option.map_eq_some_iff] at h
      obtain ⟨r,h1,rfl⟩ := h
      obtain ⟨_,_,q3⟩ := unAll_spec h1
      refine ⟨hsm,by simp [Con.len],fun i j v hv => ?_⟩
      simp only [Con.at] at hv
      split at hv
      · rename_i hi
        rw [Option.map_eq_some_iff] at hv
        obtain ⟨t,ht,rfl⟩ := hv
        have := q3 j t ht
        rw [this]
        simp at hi
        simp [List.getD,hi]
      · cases hv
    · cases h
  · split at h
    · rename_i str
      cases h
      simp at hlen
      subst hlen
      refine ⟨rfl,by simp [Con.len],fun i j v hv => ?_⟩
      simp only [Con.at] at hv
      split at hv
      · rename_i e0; subst e0
        rw [Option.map_eq_some_iff] at hv
        obtain ⟨q,hq,rfl⟩ := hv
        rw [List.getElem?_replicate] at hq
        split at hq
        · cases hq; rfl
        · cases hq
      · cases hv
    · cases h
    · rename_i v0 _
      cases h
      simp at hlen
      subst hlen
      refine ⟨rfl,by simp [Con.len],fun i j v hv => ?_⟩
      simp only [Con.at] at hv
      split at hv
      · rename_i e0; subst e0
        rw [List.getElem?_replicate] at hv
        split at hv
        · cases hv; rfl
        · cases hv
      · cases hv
    · cases h

theorem push_postW (H : WRel B ι D s.h w) (hD : ∀ k,D k → k < s.h.length) (c : Con) (cs' : Array Value) (t : TypeId) (room : Nat)
    (h1 : c.len ≤ room) (h2 : room * c.es ≤ cs'.size) (h3 : ∀ i j v,c.at i j = some v → ∃ v',cs'[i * c.es + j]? = some v' ∧ CRel ι D v v') :
    Post B ι D s (evPush s c).2 w (wsl s.h.length) (.slice (some ⟨w.heap.size,0,none⟩) c.len room) (w.alloc (.cells cs' t)) := by
  obtain ⟨ι',g1,g2,g3⟩ := push_rel H hD c cs' t room h1 h2 h3
  have elen : (evPush s c).2.h.length = s.h.length + 1 := by simp [evPush]
  refine ⟨ι',⟨g1,?_,Frm.alloc _ _ _,?_,by simp [evPush],rfl,fun _ hq => hq⟩,?_⟩
  · rw [elen]; exact g3
  · rw [elen]
    rintro t b _ ⟨k,c0,hk,e,eb,et⟩
    rcases hk with hk | hk
    · have hlt := hD k hk
      rw [show (evPush s c).2.h = s.h ++ [⟨true,some c⟩] from rfl,List.getElem?_append_left hlt] at e
      rw [g1 k hlt] at eb
      exact .inr ⟨k,c0,hk,e,eb,et⟩
    · have : k = s.h.length := by omega
      subst this
      rw [g2] at eb
      exact .inl (Nat.le_of_eq eb)
  · rw [elen]
    refine ⟨.inr ⟨Nat.le_refl _,by simp⟩,.inl ⟨room,?_,?_,?_⟩⟩
    · simp [Info.cell,g2]
    · rw [g2]; exact h1
    · rw [g2]; exact Nat.le_refl _

theorem makeSlice_sound {t : TypeId} {l l' c c' v : Value} {s' : St} (H : WRel B ι D s.h w) (hD : ∀ k,D k → k < s.h.length) (hl : VRel ι D l l') (hc : VRel ι D c c') (h : firstT (evMakeSlice P s t l c) = some (v,s')) :
    ∃ v' w',(Instr.makeSlice t l' c').run P w = .ok v' w' ∧ Post B ι D s s' w v v' w' := by
  unfold evMakeSlice at h
  split at h
  · rename_i e kl n kc k hu
    obtain rfl : l' = _ := hl
    obtain rfl : c' = _ := hc
    split at h
    · rename_i m z b hm hz hb
      split at h
      · rename_i con hok hcon
        simp only [Bool.and_eq_true] at hok
        obtain ⟨⟨o1,o2⟩,o3⟩ := hok
        have o2' : z.cells.size = m := beq_true o2
        have o3' := blt_true o3
        obtain ⟨hcc,e⟩ := firstT_one h
        cases e
        simp only [Bool.and_eq_true,decide_eq_true_eq] at hcc
        obtain ⟨⟨⟨d1,d2⟩,d3⟩,d4⟩ := hcc
        unfold tSize at hm
        unfold tBytes at hb
        cases hi : P.info? e with
        | none => simp [hi] at hm
        | some ie =>
          simp [hi] at hm hb
          have hzz : ie.zero = some z := by simpa [tZero,hi] using hz
          have hrun := run_make (P := P) w t e ie z hu hi hzz kl kc n k d1 d2 (by rw [hb]; exact d3) d4
          obtain ⟨q1,q2,q3⟩ := repOf_spec o3' (by simpa using o2') hcon
          refine ⟨_,_,hrun,?_⟩
          rw [hm]
          have hzc := V1_cells (zOk_rel (ι := ι) (D := D) o1 hz) (zOk_tup o1 hz)
          have := push_postW H hD con (madeCells z.cells (k.toNat * m)) e k.toNat (by rw [q2]; omega) (by rw [q1,size_madeCells]; exact Nat.le_refl _) (fun i j v hv => by
            have hat := q3 i j v hv
            obtain ⟨hi1,hj1⟩ := Con.at_lt hv
            rw [q1] at hj1 ⊢
            rw [q2] at hi1
            obtain ⟨v',g1,g2⟩ := hzc.get j v hat
            rw [hat] at g1; cases g1
            refine ⟨v,?_,g2⟩
            have hlt : i * m + j < k.toNat * m := by
              have : (i + 1) * m ≤ k.toNat * m := Nat.mul_le_mul_right _ (by omega)
              rw [Nat.succ_mul] at this; omega
            unfold madeCells
            rw [Array.getElem?_map,Array.getElem?_range,if_pos hlt]
            simp only [Option.map_some]
            rw [o2',Nat.mul_comm i m,Nat.mul_add_mod,Nat.mod_eq_of_lt hj1]
            have hjz : j < z.cells.size := by omega
            rw [getElem!_pos z.cells j hjz]
            rw [Array.getElem?_toList,Array.getElem?_eq_getElem hjz] at hat
            exact hat)
          rw [q2] at this
          exact this
      · cases h
    · cases h
  · cases h

theorem empty_sound {t : TypeId} {v : Value} {s' : St} (H : WRel B ι D s.h w) (hD : ∀ k,D k → k < s.h.length) (h : firstT (evEmpty P s t) = some (v,s')) :
    ∃ v' w',(Instr.buildSlice t 0 #[]).run P w = .ok v' w' ∧ Post B ι D s s' w v v' w' := by
  unfold evEmpty at h
  split at h
  · rename_i e hu
    split at h
    · rename_i m hm
      split at h
      · rename_i c hpos hc
        obtain ⟨_,e1⟩ := firstT_one h
        cases e1
        have hpos' := blt_true hpos
        obtain ⟨q1,q2,q3⟩ := conOf_spec hpos' (by simp) hc
        have hat : ∀ i j v,c.at i j ≠ some v := fun i j v hv => by
          have := (Con.at_lt hv).1
          omega
        unfold tSize at hm
        cases hi : P.info? e with
        | none => simp [hi] at hm
        | some ie =>
          simp [hi] at hm
          refine ⟨_,w.alloc (.cells #[] e),?_,push_postW H hD c #[] e 0 (by omega) (by simp) (fun i j v hv => absurd hv (hat i j v))⟩
          rw [q2]
          simp [Instr.buildSlice,run_underlying hu,sizeOf,typeInfo,hi,Instr.fill,newRow,Array.range_zero']
      · cases h
    · cases h
  · cases h

theorem buildSlice_sound {ρ ρ' : Operand → Value} (H : WRel B ι D s.h w) (hD : ∀ k,D k → k < s.h.length) (hF : ∀ x,VRel ι D (ρ x) (ρ' x)) {t : TypeId} {len : Nat} {parts : Array (Nat × Operand)} {v : Value} {s' : St}
    (h : firstT (evBuildSlice P s t len (parts.toList.map fun (i,x) => (i,ρ x))) = some (v,s')) :
    ∃ v' w',(Instr.buildSlice t len (parts.map fun (i,x) => (i,ρ' x))).run P w = .ok v' w' ∧ Post B ι D s s' w v v' w' := by
  unfold evBuildSlice at h
  cases hc : Nat.beq len 0 && (parts.toList.map fun (i,x) => (i,ρ x)).isEmpty with
  | false => rw [hc] at h; exact buildSlice_sound1 H hD hF h
  | true =>
    rw [hc] at h
    simp only [Bool.and_eq_true] at hc
    have e1 := beq_true hc.1
    subst e1
    have e2 : parts = #[] := by
      have := hc.2
      simp at this
      exact this
    subst e2
    simpa using empty_sound H hD h
end
end Go.Ab
