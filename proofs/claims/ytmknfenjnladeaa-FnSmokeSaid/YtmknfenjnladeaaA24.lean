/- Arguments of a law that hold slices: rows of scalars, strings, as they came in. -/
import Derived.Test.YtmknfenjnladeaaA23
import GoSem.ClaimChange
namespace Go.Ab
open Go.RowKit (Below)

def CTok : CT → Int → Prop
  | .fl .f32,x => 0 ≤ x ∧ x < 4294967296
  | .fl .f64,x => 0 ≤ x ∧ x < 18446744073709551616
  | .int k,x => k.min ≤ x ∧ x ≤ k.max
  | .bool,x => x = 0 ∨ x = 1
def RowOk (sch : List CT) (r : List Int) : Prop := L2 CTok sch r
def RowsOk (sch : List CT) (rows : List (List Int)) : Prop := ∀ r ∈ rows,RowOk sch r

def schF (P : Program) (rec : TypeId → Option (List CT)) : List Field → Nat → Option (List CT)
  | [],_ => some []
  | f :: fs,o =>
    match rec f.type with
    | some l => if f.offset = o ∧ P.cellsOf f.type = l.length then (schF P rec fs (o + l.length)).map (l ++ ·) else none
    | none => none
def schOf (P : Program) : Nat → TypeId → Option (List CT)
  | 0,_ => none
  | n + 1,t =>
    match P.underlying t with
    | some .bool => some [.bool]
    | some (.int k) => some [.int k]
    | some (.float k) => some [.fl k]
    | some (.array m e) =>
      match schOf P n e with
      | some l => if P.cellsOf e = l.length ∧ P.cellsOf t = m * l.length then some (List.replicate m l).flatten else none
      | none => none
    | some (.struct fs) =>
      match schF P (schOf P n) fs.toList 0 with
      | some l => if P.cellsOf t = l.length then some l else none
      | none => none
    | _ => none

theorem unAll_append : ∀ {ts ts' : List CT} {vs vs' : List Value} {xs xs' : List Int},unAll ts vs = some xs → unAll ts' vs' = some xs' → unAll (ts ++ ts') (vs ++ vs') = some (xs ++ xs')
  | [],_,[],_,xs,_,h,h' => by cases h; exact h'
  | [],_,_ :: _,_,_,_,h,_ => by cases h
  | _ :: _,_,[],_,_,_,h,_ => by cases h
  | t :: ts,ts',v :: vs,vs',xs,xs',h,h' => by
    simp only [unAll] at h
    split at h
    · rename_i n ns h1 h2
      cases h
      simp only [List.cons_append,unAll,h1,unAll_append h2 h']
    · cases h
theorem RowOk_append : ∀ {ts ts' : List CT} {xs xs' : List Int},RowOk ts xs → RowOk ts' xs' → RowOk (ts ++ ts') (xs ++ xs')
  | [],_,[],_,_,h' => h'
  | [],_,_ :: _,_,h,_ => h.elim
  | _ :: _,_,[],_,h,_ => h.elim
  | _ :: _,_,_ :: _,_,h,h' => ⟨h.1,RowOk_append h.2 h'⟩

section
variable {H : Type} {enc : TypeId × Value → H} {P : Program} {w : World} {base : Nat} {spare : Nat → Bool} {held : Bool}

theorem mapM_mem {α β : Type} {f : α → Option β} : ∀ {l : List α} {r : List β},l.mapM f = some r → ∀ a ∈ l,∃ b,f a = some b
  | [],_,_,a,ha => by cases ha
  | x :: l,r,h,a,ha => by
    rw [List.mapM_cons] at h
    cases hx : f x with
    | none => simp [hx] at h
    | some b =>
      cases hl : l.mapM f with
      | none => simp [hx,hl] at h
      | some bs =>
        rcases List.mem_cons.1 ha with rfl | ha
        · exact ⟨b,hx⟩
        · exact mapM_mem hl a ha

theorem trod_bool {fuel : Nat} {t : TypeId} {cs : List Value} {x : DataW H × List MemPlace} (hu : P.underlying t = some .bool) (h : DataW.trod enc P w base spare held (fuel + 1) t cs = some x) : ∃ b,cs = [.bool b] := by
  rcases cs with _ | ⟨v,_ | ⟨u,l⟩⟩
  · simp [DataW.trod,hu] at h
  · cases v <;> simp [DataW.trod,hu] at h
    exact ⟨_,rfl⟩
  · cases v <;> simp [DataW.trod,hu] at h
theorem trod_int {fuel : Nat} {t : TypeId} {k : IntKind} {cs : List Value} {x : DataW H × List MemPlace} (hu : P.underlying t = some (.int k)) (h : DataW.trod enc P w base spare held (fuel + 1) t cs = some x) : ∃ n,cs = [.int k n] ∧ k.min ≤ n ∧ n ≤ k.max := by
  rcases cs with _ | ⟨v,_ | ⟨u,l⟩⟩
  · simp [DataW.trod,hu] at h
  · cases v <;> simp [DataW.trod,hu] at h
    obtain ⟨⟨rfl,h1⟩,_⟩ := h
    simp [Lit.wf] at h1
    exact ⟨_,rfl,h1⟩
  · cases v <;> simp [DataW.trod,hu] at h
theorem trod_float {fuel : Nat} {t : TypeId} {k : FloatKind} {cs : List Value} {x : DataW H × List MemPlace} (hu : P.underlying t = some (.float k)) (h : DataW.trod enc P w base spare held (fuel + 1) t cs = some x) : ∃ n,cs = [.float k n] ∧ k.has n := by
  rcases cs with _ | ⟨v,_ | ⟨u,l⟩⟩
  · simp [DataW.trod,hu] at h
  · cases v
    case float k' b =>
      simp only [DataW.trod,hu] at h
      split at h
      · rename_i hc
        obtain ⟨rfl,h1⟩ := hc
        refine ⟨b,rfl,?_⟩
        cases k' <;> simpa [Lit.wf,FloatKind.has] using h1
      · cases h
    all_goals simp [DataW.trod,hu] at h
  · cases v <;> simp [DataW.trod,hu] at h
theorem sch_cells : ∀ {n : Nat} {fuel : Nat} {t : TypeId} {cs : List Value} {x : DataW H × List MemPlace} {sch : List CT},DataW.trod enc P w base spare held fuel t cs = some x → schOf P n t = some sch →
    ∃ xs,unAll sch cs = some xs ∧ RowOk sch xs := by
  intro n
  induction n with
  | zero => intro fuel t cs x sch h hs; cases hs
  | succ n ih =>
    intro fuel t cs x sch h hs
    cases fuel with
    | zero => cases h
    | succ fuel =>
    simp only [schOf] at hs
    split at hs
    · rename_i hu
      cases hs
      obtain ⟨b,rfl⟩ := trod_bool hu h
      cases b
      · exact ⟨[0],rfl,.inl rfl,trivial⟩
      · exact ⟨[1],rfl,.inr rfl,trivial⟩
    · rename_i k hu
      cases hs
      obtain ⟨m,rfl,h1⟩ := trod_int hu h
      exact ⟨[m],by simp [unAll,CT.un],h1,trivial⟩
    · rename_i k hu
      cases hs
      obtain ⟨m,rfl,h1⟩ := trod_float hu h
      refine ⟨[(m : Int)],by cases k <;> simp [unAll,CT.un],?_,trivial⟩
      cases k <;> simp only [FloatKind.has,CTok] at h1 ⊢ <;> omega
    · rename_i m e hu
      split at hs
      · rename_i l hl
        split at hs
        · rename_i hc
          cases hs
          have h' : ∃ r,((List.range m).mapM fun i => DataW.trod enc P w base spare held fuel e ((cs.drop (i * P.cellsOf e)).take (P.cellsOf e))) = some r ∧ cs.length = P.cellsOf t := by
            rcases cs with _ | ⟨v,cs⟩ <;> simp only [DataW.trod,hu] at h <;> split at h <;> try (cases h; done)
            · rename_i hc0
              rw [Option.map_eq_some_iff] at h
              obtain ⟨r,hr,_⟩ := h
              exact ⟨r,hr,hc0⟩
            · rename_i hc0
              rw [Option.map_eq_some_iff] at h
              obtain ⟨r,hr,_⟩ := h
              exact ⟨r,hr,hc0⟩
          obtain ⟨r,hr,hlen⟩ := h'
          have hall : ∀ i,i < m → ∃ xs,unAll l ((cs.drop (i * l.length)).take l.length) = some xs ∧ RowOk l xs := by
            intro i hi
            obtain ⟨y,hy⟩ := mapM_mem hr i (List.mem_range.2 hi)
            rw [hc.1] at hy
            exact ih hy hl
          rw [hc.2] at hlen
          clear hr h hc hu
          -- one part behind the other
          have key : ∀ (m : Nat) (cs : List Value),cs.length = m * l.length → (∀ i,i < m → ∃ xs,unAll l ((cs.drop (i * l.length)).take l.length) = some xs ∧ RowOk l xs) → ∃ xs,unAll (List.replicate m l).flatten cs = some xs ∧ RowOk (List.replicate m l).flatten xs := by
            intro m
            induction m with
            | zero => intro cs hlen _; rw [Nat.zero_mul] at hlen; obtain rfl := List.eq_nil_of_length_eq_zero hlen; exact ⟨[],rfl,trivial⟩
            | succ m ihm =>
              intro cs hlen hall
              obtain ⟨x0,g1,g2⟩ := hall 0 (by omega)
              rw [Nat.zero_mul,List.drop_zero] at g1
              obtain ⟨x1,g3,g4⟩ := ihm (cs.drop l.length) (by rw [List.length_drop,hlen,Nat.succ_mul]; omega) (fun i hi => by
                have := hall (i + 1) (by omega)
                rw [Nat.succ_mul,Nat.add_comm] at this
                rw [List.drop_drop]; exact this)
              refine ⟨x0 ++ x1,?_,?_⟩
              · rw [List.replicate_succ,List.flatten_cons]
                have := unAll_append g1 g3
                rwa [List.take_append_drop] at this
              · rw [List.replicate_succ,List.flatten_cons]
                exact RowOk_append g2 g4
          exact key m cs hlen hall
        · cases hs
      · cases hs
    · rename_i fs hu
      split at hs
      · rename_i l hl
        split at hs
        · rename_i hc
          cases hs
          have h' : ∃ r,(fs.toList.mapM fun f => DataW.trod enc P w base spare held fuel f.type ((cs.drop f.offset).take (P.cellsOf f.type))) = some r ∧ cs.length = P.cellsOf t := by
            rcases cs with _ | ⟨v,cs⟩ <;> simp only [DataW.trod,hu] at h <;> split at h <;> try (cases h; done)
            · rename_i hc0
              rw [Option.map_eq_some_iff] at h
              obtain ⟨r,hr,_⟩ := h
              exact ⟨r,hr,hc0⟩
            · rename_i hc0
              rw [Option.map_eq_some_iff] at h
              obtain ⟨r,hr,_⟩ := h
              exact ⟨r,hr,hc0⟩
          obtain ⟨r,hr,hlen⟩ := h'
          have hall : ∀ f ∈ fs.toList,∃ y,DataW.trod enc P w base spare held fuel f.type ((cs.drop f.offset).take (P.cellsOf f.type)) = some y := fun f hf => mapM_mem hr f hf
          rw [hc] at hlen
          clear hr h hc hu
          have key : ∀ (fl : List Field) (o : Nat) (l : List CT),schF P (schOf P n) fl o = some l → cs.length = o + l.length → (∀ f ∈ fl,∃ y,DataW.trod enc P w base spare held fuel f.type ((cs.drop f.offset).take (P.cellsOf f.type)) = some y) → ∃ xs,unAll l (cs.drop o) = some xs ∧ RowOk l xs := by
            intro fl
            induction fl with
            | nil => intro o l hl hlen _; cases hl; rw [List.drop_eq_nil_of_le (by simp at hlen; omega)]; exact ⟨[],rfl,trivial⟩
            | cons f fl ihf =>
              intro o l hl hlen hall
              simp only [schF] at hl
              split at hl
              · rename_i l0 hl0
                split at hl
                · rename_i hfo
                  rw [Option.map_eq_some_iff] at hl
                  obtain ⟨l1,hl1,rfl⟩ := hl
                  obtain ⟨y,hy⟩ := hall f (by simp)
                  rw [hfo.1,hfo.2] at hy
                  obtain ⟨x0,g1,g2⟩ := ih hy hl0
                  rw [List.length_append] at hlen
                  obtain ⟨x1,g3,g4⟩ := ihf (o + l0.length) l1 hl1 (by omega) (fun f hf => hall f (by simp [hf]))
                  refine ⟨x0 ++ x1,?_,RowOk_append g2 g4⟩
                  have := unAll_append g1 g3
                  rw [← List.drop_drop,List.take_append_drop] at this
                  exact this
                · cases hl
              · cases hl
          have := key fs.toList 0 _ hl (by omega) hall
          rwa [List.drop_zero] at this
        · cases hs
      · cases hs
    · cases hs

theorem mapM_get {α β : Type} {f : α → Option β} : ∀ {l : List α} {r : List β},l.mapM f = some r → r.length = l.length ∧ ∀ (i : Nat) (b : β),r[i]? = some b → ∃ a,l[i]? = some a ∧ f a = some b
  | [],r,h => by simp at h; subst h; simp
  | x :: l,r,h => by
    rw [List.mapM_cons] at h
    cases hx : f x with
    | none => simp [hx] at h
    | some b =>
      cases hl : l.mapM f with
      | none => simp [hx,hl] at h
      | some bs =>
        simp [hx,hl] at h
        subst h
        obtain ⟨e1,e2⟩ := mapM_get hl
        refine ⟨by simp [e1],fun i c hc => ?_⟩
        cases i with
        | zero => simp at hc; subst hc; exact ⟨x,rfl,hx⟩
        | succ i => simp at hc; simpa using e2 i c hc

theorem trod_slice {fuel : Nat} {t e : TypeId} {cs : List Value} {x : DataW H × List MemPlace} (hu : P.underlying t = some (.slice e)) (h : DataW.trod enc P w base spare held (fuel + 1) t cs = some x) :
    cs = [.slice none 0 0] ∨ ∃ a len cap,cs = [.slice (some a) len cap] ∧ len ≤ cap ∧ cap ≤ maxLen ∧ ∀ i,i < len → ∃ cells y,w.cells? base (a.add (i * P.cellsOf e)) (P.cellsOf e) = some cells ∧ DataW.trod enc P w base spare held fuel e cells = some y := by
  rcases cs with _ | ⟨v,_ | ⟨u,l⟩⟩
  · simp [DataW.trod,hu] at h
  · cases v
    case slice a len cap =>
      cases a with
      | none =>
        rcases len with _ | len
        · rcases cap with _ | cap
          · exact .inl rfl
          · simp [DataW.trod,hu] at h
        · simp [DataW.trod,hu] at h
      | some a =>
        simp only [DataW.trod,hu] at h
        split at h
        · rename_i hc
          rw [Option.bind_eq_some_iff] at h
          obtain ⟨elems,he,_⟩ := h
          refine .inr ⟨a,len,cap,rfl,hc.2.1,hc.2.2,fun i hi => ?_⟩
          obtain ⟨y,hy⟩ := mapM_mem he i (List.mem_range.2 hi)
          rw [Option.bind_eq_some_iff] at hy
          obtain ⟨cells,h1,h2⟩ := hy
          exact ⟨cells,y,h1,h2⟩
        · cases h
    all_goals simp [DataW.trod,hu] at h
  · cases v <;> simp [DataW.trod,hu] at h

theorem cells_get {a : Addr} {n : Nat} {cells : List Value} (h : w.cells? base a n = some cells) : cells.length = n ∧ ∀ j v,cells[j]? = some v → w.cell? (a.add j) = some v := by
  unfold World.cells? at h
  split at h
  · obtain ⟨e1,e2⟩ := mapM_get h
    refine ⟨by simpa using e1,fun j v hv => ?_⟩
    obtain ⟨k,hk,hc⟩ := e2 j v hv
    have hlt := (List.getElem?_eq_some_iff.1 hk).1
    simp at hlt
    rw [List.getElem?_range hlt] at hk
    cases hk
    exact hc
  · cases h
end

structure InOk (W : World) (c : Con) (I : Info) : Prop where
  blk : 0 < c.len → I.blk < W.heap.size
  es : I.es = c.es
  len : I.len = c.len
  cell : ∀ i j v,c.at i j = some v → ∃ v',W.cell? (I.cell i j) = some v' ∧ ∀ ι D,CRel ι D v v'
def SlOk (v : Value) (I : Info) : Prop := (∃ c',v = .slice (some (I.cell 0 0)) I.len c' ∧ I.len ≤ c' ∧ c' ≤ I.room) ∨ (v = .slice none 0 0 ∧ I.len = 0)

theorem SlOk.rel {v : Value} {I : Info} {ι : Nat → Info} {D : Nat → Prop} {k : Nat} (h : SlOk v I) (hk : D k) (hι : ι k = I) : CRel ι D (wsl k) v := by
  subst hι
  exact ⟨hk,h⟩

theorem ct_rel {t : CT} {x : Int} {ι : Nat → Info} {D : Nat → Prop} : CRel ι D (t.mk x) (t.mk x) := by
  cases t
  · exact ⟨_,rfl,rfl⟩
  · rfl
  · rfl

theorem add_none {a : Addr} (h : a.spot = none) (n : Nat) : a.add n = ⟨a.block,a.off + n,none⟩ := by
  obtain ⟨b,o,s⟩ := a
  simp only at h; subst h
  exact Addr.add_lit b o n

theorem cell_lt {W : World} {a : Addr} {v : Value} (h : W.cell? a = some v) : a.block < W.heap.size := by
  unfold World.cell? at h
  apply Nat.lt_of_not_le
  intro hle
  have : W.heap[a.block]? = none := Array.getElem?_eq_none hle
  simp [this] at h

section
variable {H : Type} {enc : TypeId × Value → H} {P : Program} {W : World} {spare : Nat → Bool} {held : Bool}
theorem open_rows {fuel : Nat} {t e : TypeId} {n : Nat} {sch : List CT} {v : Value} {x : DataW H × List MemPlace} (hu : P.underlying t = some (.slice e)) (hs : schOf P n e = some sch) (hc : P.cellsOf e = sch.length) (hpos : 0 < sch.length)
    (h : DataW.trod enc P W 0 spare held fuel t [v] = some x) (hsp : ∀ a l c,v = .slice (some a) l c → a.spot = none) : ∃ rows I,RowsOk sch rows ∧ rows.length ≤ 9223372036854775807 ∧ InOk W (.tab sch rows) I ∧ SlOk v I := by
  cases fuel with
  | zero => cases h
  | succ fuel =>
  rcases trod_slice hu h with h0 | ⟨a,len,cap,h0,h1,h2,h3⟩
  · cases h0
    exact ⟨[],⟨0,0,sch.length,0,0⟩,(fun r hr => by cases hr),by simp,⟨fun h => by simp [Con.len] at h,rfl,rfl,fun i j v hv => by have := (Con.at_lt hv).1; simp [Con.len] at this⟩,.inr ⟨rfl,rfl⟩⟩
  · cases h0
    have hspot := hsp a len cap rfl
    have hrow : ∀ i,i < len → ∃ xs,RowOk sch xs ∧ ∀ j t,sch[j]? = some t → W.cell? (a.add (i * sch.length + j)) = some (t.mk (xs.getD j 0)) := by
      intro i hi
      obtain ⟨cells,y,g1,g2⟩ := h3 i hi
      obtain ⟨xs,g3,g4⟩ := sch_cells g2 hs
      obtain ⟨_,g5⟩ := cells_get g1
      obtain ⟨_,_,g6⟩ := unAll_spec g3
      refine ⟨xs,g4,fun j t ht => ?_⟩
      have := g5 j _ (g6 j t ht)
      rw [hc,add_none hspot,Addr.add_lit] at this
      rw [add_none hspot,← this,Nat.add_assoc]
    let rows : List (List Int) := (List.range len).map fun i => if hi : i < len then (hrow i hi).choose else []
    have hget : ∀ i,(hi : i < len) → rows[i]? = some (hrow i hi).choose := by
      intro i hi
      simp [rows,hi]
    have hlen : rows.length = len := by simp [rows]
    refine ⟨rows,⟨a.block,a.off,sch.length,cap,len⟩,?_,?_,⟨?_,rfl,hlen.symm,?_⟩,.inl ⟨cap,?_,h1,Nat.le_refl _⟩⟩
    · intro r hr
      obtain ⟨i,hi⟩ := List.mem_iff_getElem?.1 hr
      have hlt : i < len := by have := (List.getElem?_eq_some_iff.1 hi).1; omega
      rw [hget i hlt] at hi
      cases hi
      exact (hrow i hlt).choose_spec.1
    · rw [hlen]; unfold maxLen at h2; omega
    · intro h0
      simp only [Con.len,hlen] at h0
      have := (hrow 0 h0).choose_spec.2 0 sch[0] (by simp [hpos])
      have := cell_lt this
      rwa [add_none hspot] at this
    · intro i j v hv
      simp only [Con.at] at hv
      split at hv
      · rename_i hi
        rw [hlen] at hi
        rw [Option.map_eq_some_iff] at hv
        obtain ⟨t,ht,rfl⟩ := hv
        have := (hrow i hi).choose_spec.2 j t ht
        refine ⟨_,?_,fun ι D => ct_rel⟩
        have hgd : rows.getD i [] = (hrow i hi).choose := by rw [List.getD_eq_getElem?_getD,hget i hi,Option.getD_some]
        rw [hgd,← this,add_none hspot]
        simp [Info.cell,Nat.add_assoc]
      · cases hv
    · simp [Info.cell]
      obtain ⟨b,o,s⟩ := a
      simp only at hspot; subst hspot
      rfl
end

theorem cell_spot {P : Program} {W : World} {r : Reach} {base : Nat} {u : TypeId} {a : Addr} {l c : Nat} (h : Cell.okWide P W r base u (.slice (some a) l c)) : a.spot = none := by
  unfold Cell.okWide at h
  split at h <;> try (rename_i e; cases e; done)
  all_goals first | (rename_i e1 e2; cases e2; done) | skip
  unfold Cell.ok at h
  split at h <;> first | (rename_i e1 e2; cases e2; done) | (exact h.elim) | skip
  rename_i e1 e2
  cases e2
  exact h.2.2.2.1
theorem top_spot {P : Program} {W : World} {r : Reach} {base : Nat} {t : TypeId} {v : Value} (ht : tAgg P t = some false) (h : Value.okWide P W r base t v) : ∀ a l c,v = .slice (some a) l c → a.spot = none := by
  intro a l c e
  subst e
  unfold tAgg at ht
  unfold Value.okWide at h
  split at h
  · rename_i e; rw [e] at ht; cases ht
  · rename_i e; rw [e] at ht; cases ht
  · exact cell_spot h
theorem law_heap {P : Program} {f : FuncId} {args : List Value} {args' : Array Value} {s' : St} {L : List (Con × Info)} {n : Nat} (h : CallsOK P f args ⟨L.map (fun p => ⟨false,some p.1⟩),n,[]⟩ (.bool true) s') (W : World) (hL : ∀ p ∈ L,InOk W p.1 p.2)
    (ha : L2 (VRel (fun k => (L.map (·.2)).getD k ⟨0,0,0,0,0⟩) (fun k => k < L.length)) args args'.toList) (hG : GG P W) :
    Calls P f args' W (fun e w' => e = .returned (.bool true) ∧ Below W.heap.size W w') := by
  have hget : ∀ (k : Nat) (b : Blk),(L.map (fun p => (⟨false,some p.1⟩ : Blk)))[k]? = some b → ∃ p,L[k]? = some p ∧ b = ⟨false,some p.1⟩ := by
    intro k b hb
    rw [List.getElem?_map,Option.map_eq_some_iff] at hb
    obtain ⟨p,hp,rfl⟩ := hb
    exact ⟨p,hp,rfl⟩
  have hι : ∀ (k : Nat) (p : Con × Info),L[k]? = some p → (L.map (·.2)).getD k ⟨0,0,0,0,0⟩ = p.2 := by
    intro k p hp
    rw [List.getD_eq_getElem?_getD,List.getElem?_map,hp]; rfl
  have H : WRel (⟨W.heap.size,hG.top⟩ : Bnd P) (fun k => (L.map (·.2)).getD k ⟨0,0,0,0,0⟩) (fun k => k < L.length) (L.map (fun p => ⟨false,some p.1⟩)) W := by
    refine ⟨?_,?_,?_,?_,Nat.le_refl _,?_,hG⟩
    · intro k b c hk hb hc
      obtain ⟨p,hp,rfl⟩ := hget k b hb
      cases hc
      have ok := hL p (List.mem_of_getElem? hp)
      rw [hι k p hp]
      refine ⟨ok.blk,ok.es,fun i j v hv => ?_⟩
      obtain ⟨v',h1,h2⟩ := ok.cell i j v hv
      exact ⟨v',h1,h2 _ _⟩
    · intro k c hk hb
      obtain ⟨p,hp,e⟩ := hget k _ hb
      cases e
    · intro k c hk hb h0
      obtain ⟨p,hp,e⟩ := hget k _ hb
      cases e
      rw [hι k p hp]
      exact (hL p (List.mem_of_getElem? hp)).blk h0
    · intro k k' c c' hk hk' hne hb
      obtain ⟨p,hp,e⟩ := hget k _ hb
      cases e
    · intro k b c hk hb hc
      obtain ⟨p,hp,rfl⟩ := hget k b hb
      cases hc
      rw [hι k p hp]
      exact (hL p (List.mem_of_getElem? hp)).len
  refine (h.2 ⟨W.heap.size,hG.top⟩ _ _ W args' (fun k hk => by simpa using hk) H ha).mono ?_
  rintro e w' ⟨v',rfl,ι',I⟩
  obtain rfl : v' = .bool true := I.val
  refine ⟨rfl,I.frm.none ?_⟩
  rintro b ⟨k,c,h1,h2,_⟩
  obtain ⟨p,hp,e⟩ := hget k _ h2
  cases e
end Go.Ab
