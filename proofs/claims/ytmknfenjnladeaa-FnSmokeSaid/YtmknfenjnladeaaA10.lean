/- Calls: the part of the heap that a callee sees; one operation. -/
import Derived.Test.YtmknfenjnladeaaAp
namespace Go.Ab
open Go.RowKit (Below)

section
variable {ι ι0 : Nat → Info} {D D0 : Nat → Prop} {f : Nat → Option Nat}

def RenOk (ι ι0 : Nat → Info) (D D0 : Nat → Prop) (f : Nat → Option Nat) : Prop := ∀ k i,D k → f k = some i → D0 i ∧ ι0 i = ι k

theorem relocAll_rel (hf : RenOk ι ι0 D D0 f) : ∀ {l l' m : List Value},relocAll f l = some m → L2 (CRel0 ι D) l l' → L2 (CRel0 ι0 D0) m l'
  | [],[],m,h,_ => by cases h; trivial
  | [],_ :: _,_,_,hl => hl.elim
  | _ :: _,[],_,_,hl => hl.elim
  | v :: l,v' :: l',m,h,hl => by
    simp only [relocAll] at h
    split at h
    · rename_i u m' h1 h2
      cases h
      refine ⟨?_,relocAll_rel hf h2 hl.2⟩
      have hv := hl.1
      unfold CRel0 at hv
      split at hv
      · cases h1; exact hv
      · rename_i a
        obtain ⟨a',rfl,hD,j,hj,rfl⟩ := hv
        simp only [reloc0] at h1
        split at h1
        · rename_i b hb
          cases h1
          obtain ⟨g1,g2⟩ := hf _ _ hD hb
          exact ⟨_,rfl,g1,j,hj,by simp only [g2]⟩
        · cases h1
      · exact hv.elim
    · cases h
theorem reloc1_rel (hf : RenOk ι ι0 D D0 f) {v v' : Value} (h : CRel ι D v v') : CRel ι0 D0 (reloc1 f v) v' := by
  unfold reloc1
  split
  · rename_i a
    obtain ⟨a',rfl,hD,j,hj,rfl⟩ := h
    split
    · rename_i b hb
      obtain ⟨h1,h2⟩ := hf _ _ hD hb
      exact ⟨_,rfl,h1,j,hj,by simp only [h2]⟩
    · exact ⟨rfl,fun e => by cases e⟩
  · rename_i a l c
    obtain ⟨a',c',rfl,⟨hD,j,hj,rfl⟩,h0,h1,h2,h3⟩ := h
    split
    · rename_i b hb
      obtain ⟨g1,g2⟩ := hf _ _ hD hb
      exact ⟨_,c',rfl,⟨g1,j,hj,by simp only [g2]⟩,h0,h1,h2,by simp only [g2]; exact h3⟩
    · exact ⟨rfl,fun e => by cases e⟩
  · rename_i q a l c
    obtain ⟨a',rfl,⟨hD,j,hj,rfl⟩,h1⟩ := h
    split
    · rename_i b hb
      obtain ⟨g1,g2⟩ := hf _ _ hD hb
      exact ⟨_,rfl,⟨g1,j,hj,by simp only [g2]⟩,h1⟩
    · exact ⟨rfl,fun e => by cases e⟩
  · rename_i k
    obtain ⟨hD,h1⟩ := h
    split
    · rename_i b hb
      obtain ⟨g1,g2⟩ := hf _ _ hD hb
      refine ⟨g1,?_⟩
      rw [g2]; exact h1
    · refine ⟨?_,fun e => by cases e⟩
      rcases h1 with ⟨c',rfl,_⟩ | ⟨rfl,_⟩ <;> rfl
  · rename_i l a
    split
    · rename_i b hb
      rcases h with h | ⟨a',c',rfl,⟨hD,j,hj,rfl⟩,h1⟩
      · exact .inl h
      · obtain ⟨g1,g2⟩ := hf _ _ hD hb
        exact .inr ⟨_,c',rfl,⟨g1,j,hj,by simp only [g2]⟩,h1⟩
    · refine ⟨?_,fun e => by cases e⟩
      rcases h with ⟨_,o,c',rfl⟩ | ⟨a',c',rfl,_⟩ <;> rfl
  · rename_i g x y
    cases g with
    | func f' =>
      obtain ⟨hx,y',rfl,hl⟩ := h
      split
      · rename_i l hl2
        exact ⟨hx,y',rfl,by simpa using relocAll_rel hf hl2 hl⟩
      · exact ⟨rfl,fun e => by cases e⟩
    | _ => exact h.elim
  · rename_i hp hs hx hy hw hz
    revert h
    cases v with
    | pointer a => cases a with
      | none => exact id
      | some a => exact absurd rfl (hp a)
    | slice a l c => cases a with
      | none => exact id
      | some a => exact absurd rfl (hs a l c)
    | iface q u => cases u with
      | slice a l c => cases a with
        | none => exact id
        | some a => exact absurd rfl (hx q a l c)
      | nilIface => exact absurd rfl (hy q)
      | pointer a => cases a with
        | none => exact id
        | some a => exact absurd rfl (hw q a)
      | _ => exact id
    | func g x y => exact absurd rfl (hz g x y)
    | _ => exact id

theorem relocL_rel (hf : RenOk ι ι0 D D0 f) : ∀ {l l' : List Value},L2 (CRel ι D) l l' → L2 (CRel ι0 D0) (l.map (reloc1 f)) l'
  | [],[],_ => trivial
  | _ :: _,_ :: _,h => ⟨reloc1_rel hf h.1,relocL_rel hf h.2⟩
  | [],_ :: _,h => h.elim
  | _ :: _,[],h => h.elim

theorem reloc2_rel (hf : RenOk ι ι0 D D0 f) {v v' : Value} (h : VRel1 ι D v v') : VRel1 ι0 D0 (reloc2 f v) v' := by
  cases v
  case agg cs =>
    obtain ⟨cs',rfl,hl⟩ := h
    exact ⟨cs',rfl,by simpa using relocL_rel hf hl⟩
  all_goals
    simp only [VRel1] at h
    exact (reloc1_rel hf h).toV1

theorem relocL2_rel (hf : RenOk ι ι0 D D0 f) : ∀ {l l' : List Value},L2 (VRel1 ι D) l l' → L2 (VRel1 ι0 D0) (l.map (reloc2 f)) l'
  | [],[],_ => trivial
  | _ :: _,_ :: _,h => ⟨reloc2_rel hf h.1,relocL2_rel hf h.2⟩
  | [],_ :: _,h => h.elim
  | _ :: _,[],h => h.elim

theorem relocV_rel (hf : RenOk ι ι0 D D0 f) {v v' : Value} (h : VRel ι D v v') : VRel ι0 D0 (relocV f v) v' := by
  cases v
  case tuple cs =>
    obtain ⟨cs',rfl,hl⟩ := h
    exact ⟨cs',rfl,by simpa using relocL2_rel hf hl⟩
  case chan => trivial
  all_goals
    simp only [VRel] at h
    exact (reloc2_rel hf h).toV

theorem relocVs_rel (hf : RenOk ι ι0 D D0 f) : ∀ {l l' : List Value},L2 (VRel ι D) l l' → L2 (VRel ι0 D0) (l.map (relocV f)) l'
  | [],[],_ => trivial
  | _ :: _,_ :: _,h => ⟨relocV_rel hf h.1,relocVs_rel hf h.2⟩
  | [],_ :: _,h => h.elim
  | _ :: _,[],h => h.elim
end

theorem relocC_at (f : Nat → Option Nat) (c : Con) (i j : Nat) : (relocC f c).at i j = (c.at i j).map (reloc1 f) := by
  cases c with
  | cells l => simp only [relocC,Con.at]; split <;> simp
  | vals l => simp only [relocC,Con.at]; split <;> simp
  | strs l =>
    simp only [relocC,Con.at]; split
    · cases l[i]? <;> rfl
    · rfl
  | tab sch rows =>
    simp only [relocC,Con.at]; split
    · cases sch[j]? with
      | none => rfl
      | some t => cases t <;> rfl
    · rfl
theorem relocC_es (f : Nat → Option Nat) (c : Con) : (relocC f c).es = c.es := by cases c <;> simp [relocC,Con.es]
theorem relocC_len (f : Nat → Option Nat) (c : Con) : (relocC f c).len = c.len := by cases c <;> simp [relocC,Con.len]
theorem relocB_own {f : Nat → Option Nat} {b : Blk} {w : Bool} {c : Con} (h : relocB f b = ⟨w,some c⟩) : ∃ c0,b = ⟨w,some c0⟩ ∧ c = relocC f c0 := by
  obtain ⟨bw,bc⟩ := b
  simp only [relocB,Blk.mk.injEq] at h
  obtain ⟨rfl,h2⟩ := h
  rw [Option.map_eq_some_iff] at h2
  obtain ⟨c0,rfl,rfl⟩ := h2
  exact ⟨c0,rfl,rfl⟩
theorem relocB_con {f : Nat → Option Nat} {b : Blk} {c : Con} (h : (relocB f b).con = some c) : ∃ c0,b.con = some c0 ∧ c = relocC f c0 := by
  simp only [relocB] at h
  rw [Option.map_eq_some_iff] at h
  obtain ⟨c0,h1,rfl⟩ := h
  exact ⟨c0,h1,rfl⟩

theorem WRel.ren {P : Program} {B : Bnd P} {ι ι0 : Nat → Info} {D D0 : Nat → Prop} {f : Nat → Option Nat} {h h0 : List Blk} {w : World} (H : WRel B ι D h w) (hf : RenOk ι ι0 D D0 f)
    (src : Nat → Nat) (hsrc : ∀ i b,D0 i → h0[i]? = some b → ∃ b0,D (src i) ∧ h[src i]? = some b0 ∧ b = relocB f b0 ∧ ι0 i = ι (src i))
    (hinj : ∀ i i',D0 i → D0 i' → i ≠ i' → src i ≠ src i') : WRel B ι0 D0 h0 w := by
  refine ⟨?_,?_,?_,?_,H.le,?_,H.gl⟩
  · intro i b c hi hb hc
    obtain ⟨b0,g1,g2,rfl,g3⟩ := hsrc i b hi hb
    obtain ⟨c0,e1,rfl⟩ := relocB_con hc
    obtain ⟨k1,k2,k3⟩ := H.both _ _ _ g1 g2 e1
    rw [g3]
    refine ⟨by rw [relocC_len]; exact k1,by rw [relocC_es]; exact k2,fun i2 j2 v hv => ?_⟩
    rw [relocC_at] at hv
    rw [Option.map_eq_some_iff] at hv
    obtain ⟨v0,hv0,rfl⟩ := hv
    obtain ⟨v',q1,q2⟩ := k3 _ _ _ hv0
    exact ⟨v',q1,reloc1_rel hf q2⟩
  · intro i c hi hb
    obtain ⟨b0,g1,g2,g4,g3⟩ := hsrc i _ hi hb
    obtain ⟨c0,rfl,rfl⟩ := relocB_own g4.symm
    obtain ⟨k1,k2,k3⟩ := H.own _ _ g1 g2
    rw [g3]
    exact ⟨k1,by rw [relocC_len]; exact k2,k3⟩
  · intro i c hi hb
    obtain ⟨b0,g1,g2,g4,g3⟩ := hsrc i _ hi hb
    obtain ⟨c0,rfl,rfl⟩ := relocB_own g4.symm
    rw [g3,relocC_len]
    exact H.ro _ _ g1 g2
  · intro i i' c c' hi hi' hne hb hb'
    obtain ⟨b0,g1,g2,g4,g3⟩ := hsrc i _ hi hb
    obtain ⟨c0,rfl,rfl⟩ := relocB_own g4.symm
    obtain ⟨b0',g1',g2',g4',g3'⟩ := hsrc i' _ hi' hb'
    obtain ⟨c0',rfl,rfl⟩ := relocB_own g4'.symm
    rw [g3,g3']
    exact H.disj _ _ _ _ g1 g1' (hinj i i' hi hi' hne) g2 g2'
  · intro i b c hi hb hc
    obtain ⟨b0,g1,g2,rfl,g3⟩ := hsrc i b hi hb
    obtain ⟨c0,e1,rfl⟩ := relocB_con hc
    rw [g3,relocC_len]; exact H.lens _ _ _ g1 g2 e1

theorem nodupB_spec : ∀ {E : List Nat},nodupB E = true → ∀ (i j k : Nat),E[i]? = some k → E[j]? = some k → i = j
  | [],_,i,j,k,h,_ => by simp at h
  | x :: l,hn,i,j,k,hi,hj => by
    simp only [nodupB,Bool.and_eq_true,Bool.not_eq_true'] at hn
    have hx : ¬ x ∈ l := by simpa using hn.1
    cases i with
    | zero => cases j with
      | zero => rfl
      | succ j =>
        simp at hi hj; subst hi
        exact absurd (List.mem_of_getElem? hj) hx
    | succ i => cases j with
      | zero =>
        simp at hi hj; subst hj
        exact absurd (List.mem_of_getElem? hi) hx
      | succ j =>
        simp at hi hj
        rw [nodupB_spec hn.2 i j k hi hj]

theorem inv_spec {E : List Nat} {k i : Nat} (h : inv E k = some i) : E[i]? = some k := by
  unfold inv List.idxOf? at h
  rw [List.findIdx?_eq_some_iff_getElem] at h
  obtain ⟨hlt,he,_⟩ := h
  rw [List.getElem?_eq_getElem hlt]
  simpa using he

section
variable {P : Program} {B : Bnd P} {ι : Nat → Info} {D : Nat → Prop} {s : St} {w : World} {E : List Nat}

def subι (E : List Nat) (ι : Nat → Info) (i : Nat) : Info := ι (E.getD i 0)
def subD (E : List Nat) (D : Nat → Prop) (i : Nat) : Prop := i < E.length ∧ D (E.getD i 0)

theorem getD_of {E : List Nat} {i k : Nat} (h : E[i]? = some k) : E.getD i 0 = k := by simp [List.getD,h]
theorem sub_ren : RenOk ι (subι E ι) D (subD E D) (inv E) := by
  intro k i hk hi
  have h := inv_spec hi
  have hlt := (List.getElem?_eq_some_iff.1 h).1
  refine ⟨⟨hlt,?_⟩,?_⟩
  · rw [getD_of h]; exact hk
  · unfold subι; rw [getD_of h]

theorem subH_get {h : List Blk} {i : Nat} {b : Blk} (hb : (subH E h)[i]? = some b) (hlt : E.getD i 0 < h.length) : ∃ b0,h[E.getD i 0]? = some b0 ∧ b = relocB (inv E) b0 := by
  unfold subH at hb
  rw [List.getElem?_map,Option.map_eq_some_iff] at hb
  obtain ⟨k,hk,rfl⟩ := hb
  rw [getD_of hk] at hlt ⊢
  exact ⟨h[k],List.getElem?_eq_getElem hlt,by simp [List.getD,List.getElem?_eq_getElem hlt]⟩

theorem sub_rel (H : WRel B ι D s.h w) (hD : ∀ k,D k → k < s.h.length) (hE : nodupB E = true) : WRel B (subι E ι) (subD E D) (subH E s.h) w := by
  refine H.ren sub_ren (fun i => E.getD i 0) ?_ ?_
  · rintro i b ⟨hi,hk⟩ hb
    obtain ⟨b0,h1,h2⟩ := subH_get hb (hD _ hk)
    exact ⟨b0,hk,h1,h2,rfl⟩
  · rintro i i' ⟨hi,_⟩ ⟨hi',_⟩ hne e
    refine hne (nodupB_spec hE i i' (E.getD i 0) ?_ ?_)
    · rw [List.getElem?_eq_getElem hi]; simp [List.getD,hi]
    · rw [e,List.getElem?_eq_getElem hi']; simp [List.getD,hi']
end

def CallsOK (P : Program) (g : FuncId) (args : List Value) (s : St) (r : Value) (s' : St) : Prop :=
  (∃ fn,P.funcs[g]? = some fn ∧ fn.body.isNone = false ∧ (fn.name == "runtime.NumGoroutine") = false) ∧
  ∀ (B : Bnd P) ι D w (args' : Array Value),(∀ k,D k → k < s.h.length) → WRel B ι D s.h w → L2 (VRel ι D) args args'.toList →
    Calls P g args' w (fun e w' => ∃ v',e = .returned v' ∧ Post B ι D s s' w r v' w')

def CfOk (P : Program) (cf : CallF) : Prop := ∀ g args s r s',s.lo = s.h.length → s.wr = [] → firstT (cf g args s) = some (r,s') → CallsOK P g args s r s'

section
variable {P : Program} {ext : FuncId → Option Ext} {cf : CallF} {B : Bnd P} {ι : Nat → Info} {D : Nat → Prop} {s s' : St} {w : World} {E : List Nat}

def backι (ι ι1 : Nat → Info) (n m : Nat) (k : Nat) : Info := if k < n then ι k else ι1 (m + (k - n))

theorem back_ren {ι1 : Nat → Info} {n m len1 : Nat} (hE : E.length = m) (hlt : ∀ k,D k → k < n) (hag : ∀ i,i < m → ι1 i = subι E ι i) (hm : m ≤ len1) :
    RenOk ι1 (backι ι ι1 n m) (DomU (subD E D) m len1) (DomU D n (n + (len1 - m))) (outOf E n) := by
  intro i k hi hk
  unfold outOf at hk
  split at hk
  · rename_i hlt1
    have hk1 := getD_of hk
    rcases hi with ⟨h1,h2⟩ | h1
    · rw [hk1] at h2
      refine ⟨.inl h2,?_⟩
      unfold backι
      rw [if_pos (hlt _ h2),hag i (by omega)]
      unfold subι; rw [hk1]
    · omega
  · rename_i hge
    cases hk
    rcases hi with ⟨h1,h2⟩ | h1
    · omega
    · refine ⟨.inr ⟨by omega,by omega⟩,?_⟩
      unfold backι
      rw [if_neg (by omega)]
      congr 1; omega

theorem backW_old {lo q : Nat} {E m : List Nat} (h : q ∈ m) : ∀ l : List Nat,q ∈ l.foldr (fun i l => addW lo (E.getD i 0) l) m
  | [] => h
  | _ :: l => mem_addW (backW_old h l)
theorem backW_new {lo q : Nat} {E m : List Nat} : ∀ {l : List Nat},q ∈ l → lo ≤ E.getD q 0 ∨ E.getD q 0 ∈ l.foldr (fun i l => addW lo (E.getD i 0) l) m
  | [],h => by cases h
  | x :: l,h => by
    rcases List.mem_cons.1 h with rfl | h
    · exact addW_self _ _ _
    · exact (backW_new (m := m) h).imp id mem_addW
theorem backH_nil (h : List Blk) (E : List Nat) (h1 : List Blk) (f : Nat → Option Nat) : backH h E h1 f [] = h := by
  unfold backH
  apply List.ext_getElem?
  intro k
  rw [List.getElem?_map,List.getElem?_zipIdx]
  cases h[k]? with
  | none => rfl
  | some b =>
    simp only [Option.map_some,Nat.zero_add]
    cases inv E k <;> rfl
theorem back_eq (s : St) (E : List Nat) (s1 : St) : back s E s1 = { h := backH s.h E s1.h (outOf E s.h.length) s1.wr ++ (s1.h.drop E.length).map (relocB (outOf E s.h.length)),lo := s.lo,wr := s1.wr.foldr (fun i l => addW s.lo (E.getD i 0) l) s.wr } := by
  unfold back
  cases hw : s1.wr with
  | nil => rw [backH_nil]; rfl
  | cons x l => rfl

theorem back_run {ι1 : Nat → Info} {s1 : St} {w' : World} (H : WRel B ι D s.h w) (hD : ∀ k,D k → k < s.h.length) (hE : nodupB E = true)
    (I : RunI B (subι E ι) ι1 (subD E D) ⟨subH E s.h,E.length,[]⟩ s1 w w') :
    ∃ ι2,RunI B ι ι2 D s (back s E s1) w w' ∧ RenOk ι1 ι2 (DomU (subD E D) E.length s1.h.length) (DomU D s.h.length (back s E s1).h.length) (outOf E s.h.length) := by
  have hlen0 : (subH E s.h).length = E.length := by simp [subH]
  have hag : ∀ i,i < E.length → ι1 i = subι E ι i := fun i hi => I.agree i (by rw [hlen0]; exact hi)
  have hlen1 : E.length ≤ s1.h.length := by have := I.len; rw [hlen0] at this; exact this
  have hrel := I.rel
  have hfrm := I.frm
  have hprov := I.prov
  simp only [hlen0] at hrel hprov hfrm
  have hren := back_ren (ι := ι) (D := D) (n := s.h.length) (E := E) (ι1 := ι1) (m := E.length) (len1 := s1.h.length) rfl hD hag hlen1
  have hback : ∀ k,k < s.h.length → backι ι ι1 s.h.length E.length k = ι k := fun k hk => if_pos hk
  have hnewlen : ((s1.h.drop E.length).map (relocB (outOf E s.h.length))).length = s1.h.length - E.length := by simp
  have hbl : (backH s.h E s1.h (outOf E s.h.length) s1.wr).length = s.h.length := by simp [backH]
  rw [back_eq]
  -- where a block of the new heap comes from
  have hget : ∀ k b,DomU D s.h.length (s.h.length + (s1.h.length - E.length)) k → (backH s.h E s1.h (outOf E s.h.length) s1.wr ++ (s1.h.drop E.length).map (relocB (outOf E s.h.length)))[k]? = some b →
      (∃ i b0,DomU (subD E D) E.length s1.h.length i ∧ s1.h[i]? = some b0 ∧ b = relocB (outOf E s.h.length) b0 ∧ backι ι ι1 s.h.length E.length k = ι1 i ∧ (E.length ≤ i ∨ i ∈ s1.wr) ∧ ((i < E.length ∧ E[i]? = some k) ∨ (E.length ≤ i ∧ k = s.h.length + (i - E.length)))) ∨
      (k < s.h.length ∧ D k ∧ (∀ i,i ∈ s1.wr → i < E.length → E.getD i 0 ≠ k) ∧ s.h[k]? = some b ∧ backι ι ι1 s.h.length E.length k = ι k) := fun k b hk hb => by
    rcases hk with hk | hk
    · have hlt := hD k hk
      rw [List.getElem?_append_left (by rw [hbl]; exact hlt)] at hb
      unfold backH at hb
      rw [List.getElem?_map,List.getElem?_zipIdx,List.getElem?_eq_getElem hlt] at hb
      simp only [Option.map_some,Nat.zero_add,Option.some.injEq] at hb
      cases hi : inv E k with
      | none =>
        rw [hi] at hb
        simp only at hb
        subst hb
        refine .inr ⟨hlt,hk,fun i _ hlt e => ?_,List.getElem?_eq_getElem hlt,hback k hlt⟩
        have hEi : E[i]? = some k := by rw [← e,List.getElem?_eq_getElem hlt]; simp [List.getD,hlt]
        unfold inv List.idxOf? at hi
        rw [List.findIdx?_eq_none_iff] at hi
        have := hi k (List.mem_of_getElem? hEi)
        simp at this
      | some i =>
        rw [hi] at hb
        simp only at hb
        have hEi := inv_spec hi
        have hilt := (List.getElem?_eq_some_iff.1 hEi).1
        cases hc : s1.wr.contains i with
        | true =>
          rw [hc] at hb
          simp only [cond_true] at hb
          subst hb
          have hi1 : i < s1.h.length := by omega
          refine .inl ⟨i,s1.h[i],.inl ⟨hilt,by rw [getD_of hEi]; exact hk⟩,List.getElem?_eq_getElem hi1,by simp [List.getD,List.getElem?_eq_getElem hi1],?_,.inr (List.contains_iff_mem.1 hc),.inl ⟨hilt,hEi⟩⟩
          rw [hback k hlt,hag i hilt]
          unfold subι; rw [getD_of hEi]
        | false =>
          rw [hc] at hb
          simp only [cond_false] at hb
          subst hb
          refine .inr ⟨hlt,hk,fun i2 h2 hlt2 e => ?_,List.getElem?_eq_getElem hlt,hback k hlt⟩
          have hEi2 : E[i2]? = some k := by rw [← e,List.getElem?_eq_getElem hlt2]; simp [List.getD,hlt2]
          have := nodupB_spec hE _ _ _ hEi hEi2
          subst this
          rw [List.contains_iff_mem.2 h2] at hc
          cases hc
    · rw [List.getElem?_append_right (by rw [hbl]; exact hk.1),hbl,List.getElem?_map,List.getElem?_drop,Option.map_eq_some_iff] at hb
      obtain ⟨b0,q1,rfl⟩ := hb
      exact .inl ⟨_,b0,.inr ⟨by omega,by omega⟩,q1,rfl,if_neg (by omega),.inl (by omega),.inr ⟨by omega,by omega⟩⟩
  -- what the callee may write is some of the caller's that is told as written
  have hsub : ∀ b,OwnT (subι E ι) (subD E D) (subH E s.h) E.length s1.wr b → ∃ i c0,i ∈ s1.wr ∧ i < E.length ∧ D (E.getD i 0) ∧ s.h[E.getD i 0]? = some ⟨true,some c0⟩ ∧ (ι (E.getD i 0)).blk = b := by
    rintro b ⟨i,c,hi,hb,eb,et⟩
    obtain ⟨b0,q1,q2⟩ := subH_get hb (hD _ hi.2)
    obtain ⟨c0,rfl,_⟩ := relocB_own q2.symm
    rcases et with et | et
    · have := hi.1; omega
    · exact ⟨i,c0,et,hi.1,hi.2,q1,eb⟩
  have hother : ∀ k b c,D k → (∀ i,i ∈ s1.wr → i < E.length → E.getD i 0 ≠ k) → s.h[k]? = some b → b.con = some c → (b.w = true ∨ 0 < c.len) → ¬ OwnT (subι E ι) (subD E D) (subH E s.h) E.length s1.wr (ι k).blk := by
    rintro k b c hk hi hb hc h0 ho
    obtain ⟨i,c0,g1,g2,g3,g4,g5⟩ := hsub _ ho
    have hne := hi i g1 g2
    obtain ⟨bw,bc⟩ := b
    simp only at hc; subst hc
    cases bw with
    | true => exact H.disj _ _ _ _ g3 hk hne g4 hb g5
    | false =>
      have r1 := H.ro k c hk hb (h0.resolve_left (by simp))
      have r2 := (H.own _ _ g3 g4).1.1
      omega
  have hsub_own : ∀ (W : List Nat) b,(∀ q,q ∈ s1.wr.foldr (fun i l => addW s.lo (E.getD i 0) l) s.wr → q ∈ W) → OwnT (subι E ι) (subD E D) (subH E s.h) E.length s1.wr b → OwnT ι D s.h s.lo W b := by
    intro W b hW ho
    obtain ⟨i,c0,g1,g2,g3,g4,g5⟩ := hsub _ ho
    exact ⟨_,c0,g3,g4,g5,(backW_new (m := s.wr) g1).imp id (hW _)⟩
  have hkeep : ∀ k b c,D k → (∀ i,i ∈ s1.wr → i < E.length → E.getD i 0 ≠ k) → s.h[k]? = some b → b.con = some c → (b.w = true ∨ 0 < c.len) → w'.heap[(ι k).blk]? = w.heap[(ι k).blk]? := fun k b c hk hi hb hc h0 =>
    hfrm.block _ (by
      rcases h0 with h0 | h0
      · obtain ⟨bw,bc⟩ := b
        simp only at h0 hc; subst h0 hc
        exact (H.own k c hk hb).1.2
      · exact (H.both k b c hk hb hc).1 h0) (hother k b c hk hi hb hc h0)
  have hmono : ∀ k,D k → DomU D s.h.length (s.h.length + (s1.h.length - E.length)) k ∧ backι ι ι1 s.h.length E.length k = ι k := fun k hk => ⟨.inl hk,hback k (hD k hk)⟩
  refine ⟨backι ι ι1 s.h.length E.length,⟨hback,?_,?_,?_,by simp [hbl],rfl,fun q hq => backW_old hq _⟩,by simp only [List.length_append,hnewlen,hbl]; exact hren⟩
  · simp only [List.length_append,hnewlen,hbl]
    refine ⟨?_,?_,?_,?_,Nat.le_trans H.le hfrm.size,?_,hrel.gl⟩
    · intro k b c hk hb hc
      rcases hget k b hk hb with ⟨i,b0,hd,hb0,rfl,hι,_⟩ | ⟨hlt,hDk,hi,hb',hι⟩
      · obtain ⟨c0,e1,rfl⟩ := relocB_con hc
        obtain ⟨g1,g2,g3⟩ := hrel.both _ _ _ hd hb0 e1
        rw [hι]
        refine ⟨by rw [relocC_len]; exact g1,by rw [relocC_es]; exact g2,fun i2 j2 v0 hv0 => ?_⟩
        rw [relocC_at,Option.map_eq_some_iff] at hv0
        obtain ⟨v00,q0,rfl⟩ := hv0
        obtain ⟨v1,q1,q2⟩ := g3 i2 j2 v00 q0
        exact ⟨v1,q1,reloc1_rel hren q2⟩
      · obtain ⟨g1,g2,g3⟩ := H.both k b c hDk hb' hc
        rw [hι]
        refine ⟨fun h0 => Nat.lt_of_lt_of_le (g1 h0) hfrm.size,g2,fun i2 j2 v0 hv0 => ?_⟩
        obtain ⟨v1,q1,q2⟩ := g3 i2 j2 v0 hv0
        refine ⟨v1,?_,q2.mono hmono⟩
        rw [← q1]
        exact World.cell?_of_block (w := w) (hkeep k b c hDk hi hb' hc (.inr (Nat.lt_of_le_of_lt (Nat.zero_le _) (Con.at_lt hv0).1)))
    · intro k c hk hb
      rcases hget k _ hk hb with ⟨i,b0,hd,hb0,e,hι,_⟩ | ⟨hlt,hDk,hi,hb',hι⟩
      · obtain ⟨c0,rfl,rfl⟩ := relocB_own e.symm
        rw [hι]
        obtain ⟨g1,g2,g3⟩ := hrel.own _ _ hd hb0
        exact ⟨g1,by rw [relocC_len]; exact g2,g3⟩
      · rw [hι]
        obtain ⟨g1,g2,g3⟩ := H.own k c hDk hb'
        refine ⟨⟨g1.1,Nat.lt_of_lt_of_le g1.2 hfrm.size⟩,g2,fun i2 j2 h1 h2 => ?_⟩
        have hk' := hkeep k _ c hDk hi hb' rfl (.inl rfl)
        rw [show w'.cell? ((ι k).cell i2 j2) = w.cell? ((ι k).cell i2 j2) from World.cell?_of_block (w := w) hk',show w'.frozen? ((ι k).cell i2 j2) = w.frozen? ((ι k).cell i2 j2) from World.frozen?_of_block (w := w) hk']
        exact g3 i2 j2 h1 h2
    · intro k c hk hb
      rcases hget k _ hk hb with ⟨i,b0,hd,hb0,e,hι,_⟩ | ⟨hlt,hDk,hi,hb',hι⟩
      · obtain ⟨c0,rfl,rfl⟩ := relocB_own e.symm
        rw [hι,relocC_len]; exact hrel.ro _ _ hd hb0
      · rw [hι]; exact H.ro k c hDk hb'
    · have cross : ∀ i c0 k' c',DomU (subD E D) E.length s1.h.length i → s1.h[i]? = some ⟨true,some c0⟩ → (E.length ≤ i ∨ i ∈ s1.wr) → D k' → (∀ i,i ∈ s1.wr → i < E.length → E.getD i 0 ≠ k') → s.h[k']? = some ⟨true,some c'⟩ → (ι1 i).blk ≠ (ι k').blk := by
        intro i c0 k' c' hd hb0 hw hDk' hi' hb' e
        rcases hprov s1.wr (ι1 i).blk (fun _ h => h) ⟨i,c0,hd,hb0,rfl,hw⟩ with h1 | h1
        · have := (H.own k' c' hDk' hb').1.2; omega
        · rw [e] at h1; exact hother k' _ c' hDk' hi' hb' rfl (.inl rfl) h1
      intro k k' c c' hk hk' hne hb hb'
      rcases hget k _ hk hb with ⟨i,b0,hd,hb0,e,hι,hw,hs⟩ | ⟨hlt,hDk,hi,q,hι⟩ <;> rcases hget k' _ hk' hb' with ⟨i',b0',hd',hb0',e',hι',hw',hs'⟩ | ⟨hlt',hDk',hi',q',hι'⟩
      · obtain ⟨c0,rfl,rfl⟩ := relocB_own e.symm
        obtain ⟨c0',rfl,rfl⟩ := relocB_own e'.symm
        rw [hι,hι']
        refine hrel.disj _ _ _ _ hd hd' (fun ei => hne ?_) hb0 hb0'
        subst ei
        rcases hs with ⟨a1,a2⟩ | ⟨a1,a2⟩ <;> rcases hs' with ⟨b1,b2⟩ | ⟨b1,b2⟩
        · rw [a2] at b2; exact Option.some.inj b2
        · omega
        · omega
        · omega
      · obtain ⟨c0,rfl,rfl⟩ := relocB_own e.symm
        rw [hι,hι']
        exact cross i c0 k' c' hd hb0 hw hDk' hi' q'
      · obtain ⟨c0',rfl,rfl⟩ := relocB_own e'.symm
        rw [hι,hι']
        exact Ne.symm (cross i' c0' k c hd' hb0' hw' hDk hi q)
      · rw [hι,hι']; exact H.disj k k' c c' hDk hDk' hne q q'
    · intro k b c hk hb hc
      rcases hget k b hk hb with ⟨i,b0,hd,hb0,rfl,hι,_⟩ | ⟨hlt,hDk,hi,hb',hι⟩
      · obtain ⟨c0,e1,rfl⟩ := relocB_con hc
        rw [hι,relocC_len]; exact hrel.lens _ _ _ hd hb0 e1
      · rw [hι]; exact H.lens k b c hDk hb' hc
  · exact ⟨hfrm.os,hfrm.tape,hfrm.output,hfrm.size,fun b hb hn => hfrm.block b hb (fun hw => hn (hsub_own _ b (fun _ h => h) hw))⟩
  · simp only [List.length_append,hnewlen,hbl]
    rintro W b htt ⟨k,c,hk,hb,eb,et⟩
    rcases hget k _ hk hb with ⟨i,b0,hd,hb0,e,hι,hw,hs⟩ | ⟨hlt,hDk,hi,q,hι⟩
    · obtain ⟨c0,rfl,rfl⟩ := relocB_own e.symm
      rw [hι] at eb
      rcases hprov s1.wr b (fun _ h => h) ⟨i,c0,hd,hb0,eb,hw⟩ with h1 | h1
      · exact .inl h1
      · exact .inr (hsub_own W b htt h1)
    · rw [hι] at eb
      exact .inr ⟨k,c,hDk,q,eb,et⟩

theorem firstT_mapc {α β : Type} {l : List (Bool × α)} {f : α → β} {y : β} (h : firstT (l.map fun (b,x) => (b,f x)) = some y) : ∃ x,firstT l = some x ∧ y = f x := by
  induction l with
  | nil => cases h
  | cons p l ih =>
    obtain ⟨c,x⟩ := p
    cases c with
    | true => cases h; exact ⟨x,rfl,rfl⟩
    | false => exact ih h

theorem call_sound (hcf : CfOk P cf) {g : FuncId} {args : List Value} {args' : Array Value} {v : Value} {kd : Kd} (H : WRel B ι D s.h w) (hD : ∀ k,D k → k < s.h.length) (ha : L2 (VRel ι D) args args'.toList)
    (hext : ext g = none) (h : firstT (evCall ext cf g args s) = some (v,s',kd)) :
    (∃ fn,P.funcs[g]? = some fn ∧ fn.body.isNone = false ∧ (fn.name == "runtime.NumGoroutine") = false) ∧
    Calls P g args' w (fun e w' => ∃ v',e = .returned v' ∧ Post B ι D s s' w v v' w') := by
  unfold evCall at h
  rw [hext] at h
  simp only at h
  generalize hEdef : reach s.h 100 (args.flatMap addrsV) [] = E at h
  cases hE : nodupB E with
  | false => rw [hE] at h; cases h
  | true =>
    rw [hE] at h
    simp only [cond_true] at h
    obtain ⟨⟨r,s1⟩,hcall,e⟩ := firstT_mapc (f := fun p : Value × St => (relocV (outOf E s.h.length) p.1,back s E p.2,cond p.2.wr.isEmpty Kd.rd (Kd.write (p.2.wr.map fun i => E.getD i 0)))) h
    cases e
    have hlen0 : (subH E s.h).length = E.length := by simp [subH]
    obtain ⟨hfn,hcalls⟩ := hcf g _ ⟨subH E s.h,E.length,[]⟩ r s1 hlen0.symm rfl hcall
    refine ⟨hfn,?_⟩
    have hsubD : ∀ k,subD E D k → k < (subH E s.h).length := fun k hk => by rw [hlen0]; exact hk.1
    refine (hcalls B (subι E ι) (subD E D) w args' hsubD (sub_rel H hD hE) (relocVs_rel sub_ren ha)).mono ?_
    rintro e w' ⟨v',rfl,ι1,I⟩
    obtain ⟨ι2,I2,hren⟩ := back_run H hD hE I.toRunI
    have hval := I.val
    simp only [hlen0] at hval
    exact ⟨v',rfl,ι2,I2,relocV_rel hren hval⟩
end
end Go.Ab
