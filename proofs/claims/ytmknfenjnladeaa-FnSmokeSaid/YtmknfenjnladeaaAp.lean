/- Append: a row grows, in its place or anew. -/
import Derived.Test.YtmknfenjnladeaaA9
import Derived.Laws.AppendOwn
import Derived.Laws.BytesString
namespace Go.Ab
open Go.RowKit (Below)

theorem Con.at_full {c : Con} {i j : Nat} (h : ∀ l,c ≠ .cells l) (hi : i < c.len) (hj : j < c.es) : ∃ v,c.at i j = some v := by
  cases c with
  | cells l => exact absurd rfl (h l)
  | vals l =>
    have : j = 0 := by simp [Con.es] at hj; exact hj
    subst this
    simp [Con.len] at hi
    exact ⟨l[i],by simp [Con.at,hi]⟩
  | strs l =>
    have : j = 0 := by simp [Con.es] at hj; exact hj
    subst this
    simp [Con.len] at hi
    exact ⟨.string l[i],by simp [Con.at,hi]⟩
  | tab sch rows =>
    simp [Con.len] at hi
    simp [Con.es] at hj
    exact ⟨_,by simp [Con.at,hi,hj]; rfl⟩

theorem Con.part_spec {c p : Con} {o n : Nat} (h : c.part o n = some p) (hn : o + n ≤ c.len) : p.es = c.es ∧ p.len = n ∧ (∀ l,p ≠ .cells l) ∧ (∀ l,c ≠ .cells l) ∧ ∀ i j,i < n → p.at i j = c.at (o + i) j := by
  cases c with
  | cells l => cases h
  | vals l =>
    cases h
    simp only [Con.len] at hn
    refine ⟨rfl,by simp [Con.len]; omega,fun l h => (by cases h),fun l h => (by cases h),fun i j hi => ?_⟩
    simp only [Con.at]
    split
    · rw [List.getElem?_take,if_pos hi,List.getElem?_drop]
    · rfl
  | strs l =>
    cases h
    simp only [Con.len] at hn
    refine ⟨rfl,by simp [Con.len]; omega,fun l h => (by cases h),fun l h => (by cases h),fun i j hi => ?_⟩
    simp only [Con.at]
    split
    · rw [List.getElem?_take,if_pos hi,List.getElem?_drop]
    · rfl
  | tab sch rows =>
    cases h
    simp only [Con.len] at hn
    refine ⟨rfl,by simp [Con.len]; omega,fun l h => (by cases h),fun l h => (by cases h),fun i j hi => ?_⟩
    simp only [Con.at]
    rw [if_pos (by simp; omega),if_pos (by omega)]
    simp [List.getD,List.getElem?_take,hi,List.getElem?_drop]

theorem Con.app_spec {c p c' : Con} (h : c.app p = some c') : c'.es = c.es ∧ p.es = c.es ∧ c'.len = c.len + p.len ∧ (∀ i j,i < c.len → c'.at i j = c.at i j) ∧ (∀ i j,c'.at (c.len + i) j = p.at i j) := by
  cases c with
  | cells l => cases p <;> cases h
  | vals l =>
    cases p <;> try (cases h; done)
    rename_i l2
    cases h
    refine ⟨rfl,rfl,by simp [Con.len],fun i j hi => ?_,fun i j => ?_⟩
    · simp only [Con.at]; simp only [Con.len] at hi; rw [List.getElem?_append_left hi]
    · simp only [Con.at,Con.len]; rw [List.getElem?_append_right (by omega),Nat.add_sub_cancel_left]
  | strs l =>
    cases p <;> try (cases h; done)
    rename_i l2
    cases h
    refine ⟨rfl,rfl,by simp [Con.len],fun i j hi => ?_,fun i j => ?_⟩
    · simp only [Con.at]; simp only [Con.len] at hi; rw [List.getElem?_append_left hi]
    · simp only [Con.at,Con.len]; rw [List.getElem?_append_right (by omega),Nat.add_sub_cancel_left]
  | tab sch rows =>
    cases p <;> try (cases h; done)
    rename_i sch2 rows2
    simp only [Con.app] at h
    split at h
    · rename_i e
      subst e
      cases h
      refine ⟨rfl,rfl,by simp [Con.len],fun i j hi => ?_,fun i j => ?_⟩
      · simp only [Con.at]; simp only [Con.len] at hi
        rw [if_pos (by simp; omega),if_pos hi]
        simp [List.getD,List.getElem?_append_left hi]
      · show (if rows.length + i < (rows ++ rows2).length then (sch[j]?).map fun t => t.mk (((rows ++ rows2).getD (rows.length + i) []).getD j 0) else none) = (if i < rows2.length then (sch[j]?).map fun t => t.mk ((rows2.getD i []).getD j 0) else none)
        by_cases hi : i < rows2.length
        · rw [if_pos (by rw [List.length_append]; omega),if_pos hi]
          simp [List.getD,List.getElem?_append_right]
        · rw [if_neg (by rw [List.length_append]; omega),if_neg hi]
    · cases h

section
variable {P : Program} {B : Bnd P} {ι : Nat → Info} {D : Nat → Prop} {s : St} {w : World}

theorem kill_rel {h : List Blk} (H : WRel B ι D h w) (k : Nat) : WRel B ι D (h.set k deadB) w := by
  have g : ∀ (q : Nat) (b : Blk) (c : Con),(h.set k deadB)[q]? = some b → b.con = some c → h[q]? = some b := by
    intro q b c hb hc
    by_cases e : k = q
    · subst e
      by_cases hl : k < h.length
      · rw [List.getElem?_set_self hl] at hb; cases hb; cases hc
      · rw [List.getElem?_eq_none (by simp; omega)] at hb; cases hb
    · rwa [List.getElem?_set_ne e] at hb
  exact ⟨fun q b c hq hb hc => H.both q b c hq (g q b c hb hc) hc,fun q c hq hb => H.own q c hq (g q _ c hb rfl),fun q c hq hb => H.ro q c hq (g q _ c hb rfl),
    fun q q' c c' hq hq' hn hb hb' => H.disj q q' c c' hq hq' hn (g q _ c hb rfl) (g q' _ c' hb' rfl),H.le,fun q b c hq hb hc => H.lens q b c hq (g q b c hb hc) hc,H.gl⟩

theorem shown_rel {y y' : Value} {b : Bool} {n : Nat} {p : Con} (H : WRel B ι D s.h w) (hy : VRel ι D y y') (h : shown s.h y = some (b,n,p)) (hb : b = true) (hnc : ∀ l,p ≠ .cells l) (hpos : 0 < p.es) :
    p.len = n ∧ ((∃ a' c',y' = .slice (some a') n c' ∧ ∃ news : List Value,news.length = n * p.es ∧ (∀ j v,news[j]? = some v → w.cell? (a'.add j) = some v) ∧
      (∀ i j v,p.at i j = some v → ∃ v',news[i * p.es + j]? = some v' ∧ CRel ι D v v') ∧ ∀ v ∈ news,v.oneCell' = true) ∨ (y' = .slice none 0 0 ∧ n = 0)) := by
  -- cells of a block,from an element on
  have key : ∀ (k o : Nat) (bl : Blk) (c : Con),D k → s.h[k]? = some bl → bl.con = some c → p.es = c.es → p.len = n → (∀ i j,i < n → p.at i j = c.at (o + i) j) → ∃ news : List Value,news.length = n * p.es ∧ (∀ j v,news[j]? = some v → w.cell? (((ι k).cell o 0).add j) = some v) ∧
      (∀ i j v,p.at i j = some v → ∃ v',news[i * p.es + j]? = some v' ∧ CRel ι D v v') ∧ ∀ v ∈ news,v.oneCell' = true := by
    intro k o bl c hk hbl hc hes hlen hat
    obtain ⟨_,g2,g3⟩ := H.both k bl c hk hbl hc
    have cell : ∀ q,q < n * p.es → ∃ u u',p.at (q / p.es) (q % p.es) = some u ∧ w.cell? (((ι k).cell o 0).add q) = some u' ∧ CRel ι D u u' := by
      intro q hq
      have h1 : q / p.es < n := by rw [Nat.div_lt_iff_lt_mul hpos]; exact hq
      have h2 : q % p.es < p.es := Nat.mod_lt _ hpos
      obtain ⟨u,hu⟩ := Con.at_full hnc (by rw [hlen]; exact h1) h2
      have hu2 := hu
      rw [hat _ _ h1] at hu2
      obtain ⟨u',e1,e2⟩ := g3 _ _ _ hu2
      refine ⟨u,u',hu,?_,e2⟩
      rw [← e1]
      congr 1
      simp only [Info.cell,Addr.add_lit,Addr.mk.injEq,true_and,and_true,g2,← hes]
      have := Nat.div_add_mod q p.es
      rw [Nat.add_mul]
      rw [Nat.mul_comm p.es] at this
      omega
    refine ⟨(List.range (n * p.es)).map fun q => (w.cell? (((ι k).cell o 0).add q)).getD undef,by simp,?_,?_,?_⟩
    · intro j v hv
      rw [List.getElem?_map] at hv
      rw [Option.map_eq_some_iff] at hv
      obtain ⟨q,hq,rfl⟩ := hv
      have hlt := (List.getElem?_eq_some_iff.1 hq).1
      simp at hlt
      rw [List.getElem?_range hlt] at hq
      cases hq
      obtain ⟨u,u',_,e,_⟩ := cell j hlt
      rw [e]; rfl
    · intro i j v hv
      obtain ⟨hi,hj⟩ := Con.at_lt hv
      rw [hlen] at hi
      have hlt : i * p.es + j < n * p.es := by
        have : (i + 1) * p.es ≤ n * p.es := Nat.mul_le_mul_right _ hi
        rw [Nat.succ_mul] at this; omega
      obtain ⟨u,u',e1,e2,e3⟩ := cell _ hlt
      have d1 : (i * p.es + j) / p.es = i := by rw [Nat.add_comm,Nat.add_mul_div_right _ _ hpos,Nat.div_eq_of_lt hj,Nat.zero_add]
      have d2 : (i * p.es + j) % p.es = j := by rw [Nat.add_comm,Nat.add_mul_mod_self_right,Nat.mod_eq_of_lt hj]
      rw [d1,d2,hv] at e1
      cases e1
      refine ⟨u',?_,e3⟩
      rw [List.getElem?_map,List.getElem?_range hlt,Option.map_some,e2]; rfl
    · intro v hv
      rw [List.mem_map] at hv
      obtain ⟨q,hq,rfl⟩ := hv
      rw [List.mem_range] at hq
      obtain ⟨u,u',_,e2,e3⟩ := cell q hq
      rw [e2]
      exact e3.one
  unfold shown at h
  split at h
  · rename_i k
    split at h
    · rename_i c hc
      cases h
      rw [Option.bind_eq_some_iff] at hc
      obtain ⟨bl,hbl,hcon⟩ := hc
      obtain ⟨hk,hy⟩ := hy
      have hl := H.lens k bl p hk hbl hcon
      refine ⟨rfl,?_⟩
      rcases hy with ⟨c',rfl,h1,h2⟩ | ⟨rfl,h1⟩
      · rw [hl]
        exact .inl ⟨_,c',rfl,key k 0 bl p hk hbl hcon rfl rfl (fun i j _ => by rw [Nat.zero_add])⟩
      · exact .inr ⟨rfl,by rw [← hl,h1]⟩
    · cases h
  · rename_i a n0 c0
    split at h
    · rename_i c hc hs
      rw [Option.map_eq_some_iff] at h
      obtain ⟨p0,hp,e⟩ := h
      cases e
      rw [Option.bind_eq_some_iff] at hc
      obtain ⟨bl,hbl,hcon⟩ := hc
      obtain ⟨a',c',rfl,⟨hk,j,hj,rfl⟩,h1,h2,h3,h4⟩ := hy
      rw [hs] at hj
      cases hj
      have hle := Nat.le_of_ble_eq_true hb
      obtain ⟨q1,q2,q3,q4,q5⟩ := Con.part_spec hp hle
      exact ⟨q2,.inl ⟨_,c',rfl,key a.block a.off bl c hk hbl hcon q1 q2 q5⟩⟩
    · cases h
  · cases h


theorem grow_rel {k : Nat} {c c' : Con} {l n room : Nat} {news : List Value} (H : WRel B ι D s.h w) (hD : ∀ k,D k → k < s.h.length) (hk : D k) (hb : s.h[k]? = some ⟨true,some c⟩) (hl : l ≤ c.len)
    (h1 : c'.es = c.es) (h2 : c'.len = l + n) (h3 : ∀ i j,i < l → c'.at i j = c.at i j) (h4 : ∀ i j v,c'.at (l + i) j = some v → ∃ v',news[i * c.es + j]? = some v' ∧ CRel ι D v v')
    (hnl : news.length = n * c.es) (hone : ∀ v ∈ news,v.oneCell' = true) (hroom : room ≤ (ι k).room) (hfit : l + n ≤ room) {v' : Value}
    (hv' : (v' = .slice (some ((ι k).cell 0 0)) (l + n) room) ∨ (v' = .slice none 0 0 ∧ l + n = 0)) :
    Post B ι D s { h := s.h.set k deadB ++ [⟨true,some c'⟩],lo := s.lo,wr := addW s.lo k s.wr } w (wsl s.h.length) v' (w.setCells (ι k).blk ((ι k).base + l * (ι k).es) news) := by
  have H0 := kill_rel H k
  obtain ⟨g1,g2,g3⟩ := H.both _ _ _ hk hb rfl
  obtain ⟨o1,o2,o3⟩ := H.own _ _ hk hb
  have hlen : (s.h.set k deadB).length = s.h.length := by simp
  let ι' : Nat → Info := fun q => if q = s.h.length then { ι k with len := l + n } else ι q
  have e1 : ∀ q,q < s.h.length → ι' q = ι q := fun q hq => if_neg (by omega)
  have e2 : ι' s.h.length = { ι k with len := l + n } := if_pos rfl
  have hmono : ∀ {v v' : Value},CRel ι D v v' → CRel ι' (DomU D s.h.length (s.h.length + 1)) v v' :=
    fun hc => CRel.mono (fun q hq => ⟨Or.inl hq,e1 q (hD q hq)⟩) hc
  have hget : ∀ (q : Nat) (b : Blk),DomU D s.h.length (s.h.length + 1) q → (s.h.set k deadB ++ [⟨true,some c'⟩])[q]? = some b → (q < s.h.length ∧ D q ∧ (s.h.set k deadB)[q]? = some b) ∨ (q = s.h.length ∧ b = ⟨true,some c'⟩) := by
    intro q b hq hb
    rcases hq with hq | hq
    · have := hD q hq
      rw [List.getElem?_append_left (by omega)] at hb
      exact .inl ⟨this,hq,hb⟩
    · have e : q = s.h.length := by omega
      refine .inr ⟨e,?_⟩
      rw [e,List.getElem?_append_right (by omega),hlen] at hb
      simp at hb
      exact hb.symm
  have hkill : ∀ (q : Nat) (b : Blk) (c0 : Con),(s.h.set k deadB)[q]? = some b → b.con = some c0 → q ≠ k ∧ s.h[q]? = some b := by
    intro q b c0 hb hc
    by_cases e : k = q
    · subst e
      rw [List.getElem?_set_self (hD k hk)] at hb; cases hb; cases hc
    · rw [List.getElem?_set_ne e] at hb
      exact ⟨fun h => e h.symm,hb⟩
  have hother : ∀ (q : Nat) (b : Blk) (c0 : Con),D q → (s.h.set k deadB)[q]? = some b → b.con = some c0 → (b.w = true ∨ 0 < c0.len) → (ι q).blk ≠ (ι k).blk := by
    intro q b c0 hq hb' hc h0
    obtain ⟨hne,hb2⟩ := hkill q b c0 hb' hc
    obtain ⟨bw,bc⟩ := b
    simp only at hc; subst hc
    cases bw with
    | true => exact H.disj q k c0 c hq hk hne hb2 hb
    | false =>
      have := H.ro q c0 hq hb2 (h0.resolve_left (by simp))
      have := o1.1
      omega
  have hout : ∀ (x : Addr),x.block ≠ (ι k).blk → (w.setCells (ι k).blk ((ι k).base + l * (ι k).es) news).cell? x = w.cell? x := fun x hx => World.cell?_setCells_out _ _ _ _ _ (fun e => absurd e hx)
  have hcells : ∀ q,q < news.length → (w.cell? ⟨(ι k).blk,(ι k).base + l * (ι k).es + q,none⟩).isSome = true := by
    intro q hq
    have hes : 0 < c.es := by
      apply Nat.pos_of_ne_zero; intro e; rw [e] at hnl; omega
    have h5 : q / c.es < n := by rw [Nat.div_lt_iff_lt_mul hes]; omega
    have := (o3 (l + q / c.es) (q % c.es) (by omega) (by rw [g2]; exact Nat.mod_lt _ hes)).1
    rw [show (ι k).cell (l + q / c.es) (q % c.es) = ⟨(ι k).blk,(ι k).base + l * (ι k).es + q,none⟩ from ?_] at this
    · exact this
    · simp only [Info.cell,Addr.mk.injEq,true_and,and_true,g2]
      have := Nat.div_add_mod q c.es
      rw [Nat.mul_comm] at this
      rw [Nat.add_mul]; omega
  refine ⟨ι',⟨e1,?_,?_,?_,by simp,rfl,fun q hq => mem_addW hq⟩,?_⟩
  · -- the heaps
    simp only [List.length_append,hlen,List.length_singleton]
    refine ⟨?_,?_,?_,?_,by rw [size_setCells]; exact H.le,?_,H.gl.of_below (Nat.le_trans B.ge (Nat.le_refl _)) (Below.setCells (Below.refl _ w) o1.1 _ _)⟩
    · intro q b c0 hq hb' hc
      rcases hget q b hq hb' with ⟨hlt,hDq,hb2⟩ | ⟨rfl,rfl⟩
      · obtain ⟨hne,hb3⟩ := hkill q b c0 hb2 hc
        obtain ⟨f1,f2,f3⟩ := H.both q b c0 hDq hb3 hc
        rw [e1 q hlt]
        refine ⟨by rw [size_setCells]; exact f1,f2,fun i j v hv => ?_⟩
        obtain ⟨u,u1,u2⟩ := f3 i j v hv
        refine ⟨u,?_,hmono u2⟩
        rw [hout _ (by simpa [Info.cell] using hother q b c0 hDq hb2 hc (.inr (Nat.lt_of_le_of_lt (Nat.zero_le _) (Con.at_lt hv).1)))]
        exact u1
      · cases hc
        rw [e2]
        refine ⟨fun _ => by rw [size_setCells]; exact o1.2,by rw [h1]; exact g2,fun i j v hv => ?_⟩
        show ∃ v',(w.setCells (ι k).blk ((ι k).base + l * (ι k).es) news).cell? ((ι k).cell i j) = some v' ∧ _
        by_cases hi : i < l
        · have hv2 := hv
          rw [h3 i j hi] at hv2
          obtain ⟨u,u1,u2⟩ := g3 i j v hv2
          refine ⟨u,?_,hmono u2⟩
          rw [World.cell?_setCells_out _ _ _ _ _ (fun _ _ => .inl ?_)]
          · exact u1
          · have hj := (Con.at_lt hv2).2
            simp only [Info.cell,g2]
            have : (i + 1) * c.es ≤ l * c.es := Nat.mul_le_mul_right _ hi
            rw [Nat.succ_mul] at this; omega
        · obtain ⟨i2,rfl⟩ : ∃ i2,i = l + i2 := ⟨i - l,by omega⟩
          obtain ⟨u,u1,u2⟩ := h4 i2 j v hv
          refine ⟨u,?_,hmono u2⟩
          have hlt := (List.getElem?_eq_some_iff.1 u1).1
          have h6 := World.cell?_setCells_in (ι k).blk news ((ι k).base + l * (ι k).es) w hcells _ hlt
          have h7 := (List.getElem?_eq_some_iff.1 u1).2
          rw [h7] at h6
          rw [← h6]
          congr 1
          simp only [Info.cell,Addr.mk.injEq,true_and,and_true,g2]
          rw [Nat.add_mul]; omega
    · intro q c0 hq hb'
      rcases hget q _ hq hb' with ⟨hlt,hDq,hb2⟩ | ⟨rfl,e⟩
      · obtain ⟨hne,hb3⟩ := hkill q _ c0 hb2 rfl
        obtain ⟨f1,f2,f3⟩ := H.own q c0 hDq hb3
        rw [e1 q hlt]
        refine ⟨by rw [size_setCells]; exact f1,f2,fun i j hi hj => ?_⟩
        rw [World.frozen?_setCells,hout _ (by simpa [Info.cell] using hother q _ c0 hDq hb2 rfl (.inl rfl))]
        exact f3 i j hi hj
      · cases e
        rw [e2]
        refine ⟨by rw [size_setCells]; exact o1,by rw [h2]; show l + n ≤ (ι k).room; omega,fun i j hi hj => ?_⟩
        rw [World.frozen?_setCells]
        refine ⟨?_,(o3 i j hi hj).2⟩
        show ((w.setCells (ι k).blk ((ι k).base + l * (ι k).es) news).cell? ((ι k).cell i j)).isSome = true
        by_cases hin : ∃ q,q < news.length ∧ (ι k).cell i j = ⟨(ι k).blk,(ι k).base + l * (ι k).es + q,none⟩
        · obtain ⟨q,hq,eq⟩ := hin
          rw [eq,World.cell?_setCells_in (ι k).blk news ((ι k).base + l * (ι k).es) w hcells q hq]; rfl
        · rw [World.cell?_setCells_out]
          · exact (o3 i j hi hj).1
          · intro _ _
            apply Classical.byContradiction
            intro hcon
            exact hin ⟨((ι k).cell i j).off - ((ι k).base + l * (ι k).es),by omega,by simp only [Info.cell,Addr.mk.injEq,true_and,and_true] at hcon ⊢; omega⟩
    · intro q c0 hq hb' h0
      rcases hget q _ hq hb' with ⟨hlt,hDq,hb2⟩ | ⟨rfl,e⟩
      · obtain ⟨hne,hb3⟩ := hkill q _ c0 hb2 rfl
        rw [e1 q hlt]
        exact H.ro q c0 hDq hb3 h0
      · cases e
    · intro q q' c0 c1 hq hq' hne hb1 hb2
      rcases hget q _ hq hb1 with ⟨hlt,hDq,hb3⟩ | ⟨rfl,e⟩ <;> rcases hget q' _ hq' hb2 with ⟨hlt',hDq',hb4⟩ | ⟨rfl,e'⟩
      · rw [e1 q hlt,e1 q' hlt']
        exact H.disj q q' c0 c1 hDq hDq' hne (hkill q _ c0 hb3 rfl).2 (hkill q' _ c1 hb4 rfl).2
      · rw [e1 q hlt,e2]
        exact hother q _ c0 hDq hb3 rfl (.inl rfl)
      · rw [e1 q' hlt',e2]
        exact (hother q' _ c1 hDq' hb4 rfl (.inl rfl)).symm
      · exact absurd rfl hne
    · intro q b c0 hq hb' hc
      rcases hget q b hq hb' with ⟨hlt,hDq,hb2⟩ | ⟨rfl,rfl⟩
      · rw [e1 q hlt]
        exact H.lens q b c0 hDq (hkill q b c0 hb2 hc).2 hc
      · cases hc
        rw [e2,h2]
  · -- what is written
    have hb1 := Below.setCells (Below.refl (ι k).blk w) (Nat.le_refl _) news ((ι k).base + l * (ι k).es)
    refine ⟨hb1.os,hb1.tape,hb1.output,hb1.size,fun b hb2 hn => ?_⟩
    exact heap_setCells _ _ _ _ _ (fun e => hn ⟨k,c,hk,hb,e.symm,addW_self _ _ _⟩)
  · simp only [List.length_append,hlen,List.length_singleton]
    rintro t b ht ⟨q,c0,hq,hb',eb,et⟩
    rcases hget q _ hq hb' with ⟨hlt,hDq,hb2⟩ | ⟨rfl,e⟩
    · rw [e1 q hlt] at eb
      exact .inr ⟨q,c0,hDq,(hkill q _ c0 hb2 rfl).2,eb,et⟩
    · rw [e2] at eb
      exact .inr ⟨k,c,hk,hb,eb,(addW_self s.lo k s.wr).imp id (ht k)⟩
  · simp only [List.length_append,hlen,List.length_singleton]
    refine ⟨.inr ⟨Nat.le_refl _,by simp⟩,?_⟩
    rw [e2]
    rcases hv' with rfl | ⟨rfl,h0⟩
    · exact .inl ⟨room,rfl,hfit,hroom⟩
    · exact .inr ⟨rfl,h0⟩

theorem push_postK {k : Nat} (H : WRel B ι D s.h w) (hD : ∀ k,D k → k < s.h.length) (h' : List Blk) (t' : List Nat) (hh : h' = s.h ∧ t' = s.wr ∨ h' = s.h.set k deadB ∧ t' = addW s.lo k s.wr) (c : Con) (cs' : Array Value) (t : TypeId) (room : Nat)
    (h1 : c.len ≤ room) (h2 : room * c.es ≤ cs'.size) (h3 : ∀ i j v,c.at i j = some v → ∃ v',cs'[i * c.es + j]? = some v' ∧ CRel ι D v v') :
    Post B ι D s { h := h' ++ [⟨true,some c⟩],lo := s.lo,wr := t' } w (wsl s.h.length) (.slice (some ⟨w.heap.size,0,none⟩) c.len room) (w.drew.alloc (.cells cs' t)) := by
  have hlen : h'.length = s.h.length := by rcases hh with ⟨rfl,_⟩ | ⟨rfl,_⟩ <;> simp
  have H0 : WRel B ι D h' w.drew := by
    rcases hh with ⟨rfl,_⟩ | ⟨rfl,_⟩
    · exact H.of_below ((Below.refl _ _).drew)
    · exact kill_rel (H.of_below ((Below.refl _ _).drew)) k
  have hback : ∀ (q : Nat) (b : Blk) (c0 : Con),h'[q]? = some b → b.con = some c0 → s.h[q]? = some b := by
    intro q b c0 hb hc
    rcases hh with ⟨rfl,_⟩ | ⟨rfl,_⟩
    · exact hb
    · by_cases e : k = q
      · subst e
        by_cases hl : k < s.h.length
        · rw [List.getElem?_set_self hl] at hb; cases hb; cases hc
        · rw [List.getElem?_eq_none (by simp; omega)] at hb; cases hb
      · rwa [List.getElem?_set_ne e] at hb
  obtain ⟨ι',g1,g2,g3⟩ := push_rel H0 (by rw [hlen]; exact hD) c cs' t room h1 h2 h3
  rw [hlen] at g1 g2 g3
  refine ⟨ι',⟨g1,?_,?_,?_,by simp [hlen],rfl,?_⟩,?_⟩
  · simp only [List.length_append,hlen,List.length_singleton]; exact g3
  · have := Frm.alloc (OwnT ι D s.h s.lo t') w.drew (.cells cs' t)
    exact ⟨this.os,this.tape,this.output,this.size,this.block⟩
  · simp only [List.length_append,hlen,List.length_singleton]
    rintro t b _ ⟨q,c0,hk,e,eb,et⟩
    rcases hk with hk | hk
    · have hlt := hD q hk
      rw [List.getElem?_append_left (by omega)] at e
      rw [g1 q hlt] at eb
      exact .inr ⟨q,c0,hk,hback q _ c0 e rfl,eb,et⟩
    · have : q = s.h.length := by omega
      subst this
      rw [g2] at eb
      exact .inl (Nat.le_of_eq eb)
  · intro q hq
    rcases hh with ⟨_,e⟩ | ⟨_,e⟩
    · simpa [e] using hq
    · simp only [e]; exact mem_addW hq
  · simp only [List.length_append,hlen,List.length_singleton]
    refine ⟨.inr ⟨Nat.le_refl _,by simp⟩,.inl ⟨room,?_,?_,?_⟩⟩
    · show Value.slice (some ⟨w.drew.heap.size,0,none⟩) c.len room = .slice (some ((ι' s.h.length).cell 0 0)) (ι' s.h.length).len room
      rw [g2]; simp [Info.cell]
    · rw [g2]; exact h1
    · rw [g2]; exact Nat.le_refl _

theorem append_sound {t ty : TypeId} {x x' y y' v : Value} {s' : St} (H : WRel B ι D s.h w) (hD : ∀ k,D k → k < s.h.length) (hx : VRel ι D x x') (hy : VRel ι D y y') (h : firstT (evAppend P s t x y) = some (v,s')) :
    ∃ v' w',(Builtin.append_ #[t,t] ty #[x',y']).run P w = .ok v' w' ∧ Post B ι D s s' w v v' w' := by
  unfold evAppend at h
  split at h
  case h_2 => cases h
  rename_i e b n p hu hsh
  split at h
  case h_2 => cases h
  rename_i m z by' hm hz hby
  split at h
  case isFalse => cases h
  rename_i hok
  simp only [Bool.and_eq_true] at hok
  obtain ⟨⟨⟨o1,o2⟩,o3⟩,o4⟩ := hok
  have o1' : z.cells.size = m := beq_true o1
  have o2' : p.es = m := beq_true o2
  have o3' := blt_true o3
  unfold tSize at hm
  unfold tBytes at hby
  cases hi : P.info? e with
  | none => simp [hi] at hm
  | some ie =>
  simp [hi] at hm hby
  have hzz : ie.zero = some z := by simpa [tZero,hi] using hz
  have zsize : ∀ q,(Builtin.zeroCells z.cells q).size = q * m := fun q => by rw [size_zeroCells,o1']
  have hnc : ∀ l,p ≠ .cells l := by
    intro l hl
    subst hl
    cases o4
  -- cells of a row that has grown anew
  have grownCells : ∀ (c c' : Con) (l : Nat) (olds news : List Value) (room : Nat),c'.es = m → c'.len = l + n → (∀ i j v,i < l → c'.at i j = some v → ∃ v',olds[i * m + j]? = some v' ∧ CRel ι D v v') → (∀ i j v,c'.at (l + i) j = some v → ∃ v',news[i * m + j]? = some v' ∧ CRel ι D v v') → olds.length = l * m → news.length = n * m → l + n ≤ room →
      room * c'.es ≤ (olds.toArray ++ news.toArray ++ Builtin.zeroCells z.cells (room - (l + n))).size ∧ ∀ i j v,c'.at i j = some v → ∃ v',(olds.toArray ++ news.toArray ++ Builtin.zeroCells z.cells (room - (l + n)))[i * c'.es + j]? = some v' ∧ CRel ι D v v' := by
    intro c c' l olds news room h1 h2 h3 h4 h5 h6 h7
    refine ⟨?_,?_⟩
    · simp only [Array.size_append,List.size_toArray,zsize,h1,h5,h6]
      rw [← Nat.add_mul,← Nat.add_mul]
      exact Nat.mul_le_mul_right _ (by omega)
    · intro i j v hv
      obtain ⟨hi1,hj1⟩ := Con.at_lt hv
      rw [h2] at hi1
      rw [h1] at hj1 ⊢
      have hlt : i * m + j < (l + n) * m := by
        have : (i + 1) * m ≤ (l + n) * m := Nat.mul_le_mul_right _ hi1
        rw [Nat.succ_mul] at this; omega
      have happ : (olds.toArray ++ news.toArray ++ Builtin.zeroCells z.cells (room - (l + n)))[i * m + j]? = (olds ++ news)[i * m + j]? := by
        rw [Array.getElem?_append_left (by simp only [Array.size_append,List.size_toArray,h5,h6]; rw [← Nat.add_mul]; exact hlt)]
        rw [List.append_toArray,List.getElem?_toArray]
      rw [happ]
      by_cases hil : i < l
      · obtain ⟨u,u1,u2⟩ := h3 i j v hil hv
        refine ⟨u,?_,u2⟩
        rw [List.getElem?_append_left (List.getElem?_eq_some_iff.1 u1).1]
        exact u1
      · obtain ⟨i2,rfl⟩ : ∃ i2,i = l + i2 := ⟨i - l,by omega⟩
        obtain ⟨u,u1,u2⟩ := h4 i2 j v hv
        refine ⟨u,?_,u2⟩
        rw [List.getElem?_append_right (by rw [h5,Nat.add_mul]; omega),h5,Nat.add_mul,show l * m + i2 * m + j - l * m = i2 * m + j by omega]
        exact u1
  split at h
  · -- from nothing
    obtain ⟨hc,e1⟩ := firstT_one h
    cases e1
    simp only [Bool.and_eq_true] at hc
    obtain ⟨⟨hb,hn⟩,hfit⟩ := hc
    have hn' := blt_true hn
    have hfit' := Nat.le_of_ble_eq_true hfit
    obtain ⟨hl,hy'⟩ := shown_rel H hy hsh hb hnc (by omega)
    obtain ⟨rfl,rfl,rfl⟩ : _ ∧ _ ∧ x' = .slice none 0 0 := hx
    rcases hy' with ⟨a',c2,rfl,news,n1,n2,n3,n4⟩ | ⟨_,h0⟩
    · rw [o2'] at n1 n3
      have hbytes : n * by' ≤ 140737488355328 := Nat.le_trans (Nat.mul_le_mul_left _ (Nat.le_succ _)) hfit'
      have hn63 : n ≤ 140737488355328 := Nat.le_trans (Nat.le_mul_of_pos_right n (Nat.succ_pos by')) hfit'
      have hr := run_append_nil (P := P) w t ty e ie z hu hi hzz a' n c2 news (by rw [n1,hm]) n2 hn' (by omega) (by rw [hby]; omega)
      refine ⟨_,_,hr,?_⟩
      obtain ⟨q1,q2⟩ := grownCells p p 0 [] news (grownCap w n 0 e) o2' (by omega) (fun i j v hi => by omega) (fun i j v hv => by rw [Nat.zero_add] at hv; exact n3 i j v hv) (by simp) n1 (by have := grownCap_ge w n 0 e; omega)
      have := push_postK (k := 0) H hD s.h s.wr (.inl ⟨rfl,rfl⟩) p _ e (grownCap w n 0 e) (by rw [hl]; exact grownCap_ge w n 0 e) q1 q2
      simp only [Nat.zero_add,Array.empty_append,hl] at this
      exact this
    · omega
  · split at h
    case h_2 => cases h
    rename_i hns _ k l c b2 hto
    split at h
    case h_2 => cases h
    rename_i c' hc'
    rw [Option.bind_eq_some_iff] at hc'
    obtain ⟨c1,hp1,hp2⟩ := hc'
    split at h
    case isFalse => cases h
    rename_i hes
    obtain ⟨hc,e1⟩ := firstT_one h
    cases e1
    simp only [Bool.and_eq_true] at hc
    obtain ⟨⟨hb,hb2⟩,hfit⟩ := hc
    have hfit' := Nat.le_of_ble_eq_true hfit
    obtain ⟨hl,hy'⟩ := shown_rel H hy hsh hb hnc (by omega)
    have hbytes : (l + n) * by' ≤ 140737488355328 := Nat.le_trans (Nat.mul_le_mul_left _ (Nat.le_succ _)) hfit'
    have hn63 : l + n ≤ 140737488355328 := Nat.le_trans (Nat.le_mul_of_pos_right (l + n) (Nat.succ_pos by')) hfit'
    -- what the row is
    have hrow : D k ∧ s.h[k]? = some ⟨true,some c⟩ ∧ l ≤ c.len ∧ ((∃ cap,x' = .slice (some ((ι k).cell 0 0)) l cap ∧ l ≤ cap ∧ cap ≤ (ι k).room) ∨ (x' = .slice none 0 0 ∧ l = 0)) := by
      unfold appTo at hto
      split at hto
      · rename_i k0
        split at hto
        · rename_i c0 hb0
          cases hto
          obtain ⟨hk,hx⟩ := hx
          have hlen := H.lens k _ c hk hb0 rfl
          refine ⟨hk,hb0,Nat.le_refl _,?_⟩
          rw [hlen] at hx
          rcases hx with ⟨cap,rfl,g1,g2⟩ | ⟨rfl,g1⟩
          · exact .inl ⟨cap,rfl,g1,g2⟩
          · exact .inr ⟨rfl,g1⟩
        · cases hto
      · rename_i a n0 c0
        split at hto
        · rename_i c2 hb0 hs0
          cases hto
          simp only [Bool.and_eq_true] at hb2
          have e0 := beq_true hb2.1
          have e2 := Nat.le_of_ble_eq_true hb2.2
          obtain ⟨a',cap,rfl,⟨hk,j,hj,rfl⟩,g1,g2,g3,g4⟩ := hx
          rw [hs0] at hj
          cases hj
          rw [e0] at g4 ⊢
          exact ⟨hk,hb0,e2,.inl ⟨cap,rfl,by omega,by omega⟩⟩
        · cases hto
      · cases hto
    obtain ⟨hk,hbk,hlc,hx'⟩ := hrow
    obtain ⟨_,g2,g3⟩ := H.both _ _ _ hk hbk rfl
    obtain ⟨ow1,ow2,ow3⟩ := H.own _ _ hk hbk
    obtain ⟨p1,p2,p3,p4,p5⟩ := Con.part_spec hp1 (by omega)
    obtain ⟨a1,a2,a3,a4,a5⟩ := Con.app_spec hp2
    rw [p2] at a3 a4 a5
    have at1 : ∀ i j,i < l → c'.at i j = c.at i j := fun i j hi => by rw [a4 i j hi,p5 i j hi,Nat.zero_add]
    have hes' : c'.es = m := by rw [a1,p1,hes]
    -- the new cells
    have hnews : ∃ news : List Value,news.length = n * m ∧ (∀ i j v,p.at i j = some v → ∃ v',news[i * m + j]? = some v' ∧ CRel ι D v v') ∧ (∀ v ∈ news,v.oneCell' = true) ∧ (Builtin.lenOf y').run P w = .ok n w ∧ (∀ w2 : World,(∀ a,w2.cell? a = w.cell? a) → (Builtin.firstCells m n y').run P w2 = .ok news.toArray w2) := by
      rcases hy' with ⟨a',c2,rfl,news,n1,n2,n3,n4⟩ | ⟨rfl,h0⟩
      · rw [o2'] at n1 n3
        exact ⟨news,n1,n3,n4,by simp [Builtin.lenOf],fun w2 hw => run_firstCells_some w2 m n a' n c2 news n1 (fun j v hv => by rw [hw]; exact n2 j v hv)⟩
      · subst h0
        refine ⟨[],by simp,fun i j v hv => ?_,by simp,by simp [Builtin.lenOf],fun w2 _ => run_firstCells_none w2 m 0 0 0⟩
        have := (Con.at_lt hv).1
        omega
    obtain ⟨news,n1,n3,n4,nl,nf⟩ := hnews
    rcases hx' with ⟨cap,rfl,c1',c2'⟩ | ⟨rfl,l0⟩
    · by_cases hroom : l + n ≤ cap
      · -- in its place
        have hcells : ∀ q,q < news.length → (w.cell? ⟨(ι k).blk,(ι k).base + l * m + 0 + q,none⟩).isSome = true ∧ w.frozen? ⟨(ι k).blk,(ι k).base + l * m + 0 + q,none⟩ = false := by
          intro q hq
          have h5 : q / m < n := by rw [Nat.div_lt_iff_lt_mul o3']; omega
          have := ow3 (l + q / m) (q % m) (by omega) (by rw [g2,hes]; exact Nat.mod_lt _ o3')
          rw [show (ι k).cell (l + q / m) (q % m) = ⟨(ι k).blk,(ι k).base + l * m + 0 + q,none⟩ from ?_] at this
          · exact this
          · simp only [Info.cell,Addr.mk.injEq,true_and,and_true,g2,hes]
            have := Nat.div_add_mod q m
            rw [Nat.mul_comm] at this
            rw [Nat.add_mul]; omega
        have hst := run_storeCells_cells (P := P) (ι k).blk ((ι k).base + l * m) news 0 w (fun q hq => (hcells q hq).1) (fun q hq => (hcells q hq).2) n4
        have hpost := grow_rel (v' := .slice (some ((ι k).cell 0 0)) (l + n) cap) H hD hk hbk hlc (by rw [hes',hes]) (by omega) at1 (fun i j v hv => by rw [hes]; rw [a5] at hv; exact n3 i j v hv) (by rw [n1,hes]) n4 c2' hroom (.inl rfl)
        rw [g2,hes] at hpost
        refine ⟨_,_,?_,hpost⟩
        have hf := nf w (fun _ => rfl)
        simp only [Info.cell,Nat.zero_mul,Nat.add_zero] at hst ⊢
        simp [Builtin.append_,run_underlying hu,sizeOf,typeInfo,hi,hm,nl,hroom,hf,Addr.add_lit,hst]
      · -- anew
        have hcell : ∀ q,q < l * m → ∃ u u',c.at (q / m) (q % m) = some u ∧ w.cell? (((ι k).cell 0 0).add q) = some u' ∧ CRel ι D u u' := by
          intro q hq
          have h1 : q / m < l := by rw [Nat.div_lt_iff_lt_mul o3']; exact hq
          have h2 : q % m < m := Nat.mod_lt _ o3'
          obtain ⟨u,hu⟩ := Con.at_full p4 (show q / m < c.len by omega) (by rw [hes]; exact h2)
          obtain ⟨u',e1,e2⟩ := g3 _ _ _ hu
          refine ⟨u,u',hu,?_,e2⟩
          rw [← e1]
          congr 1
          simp only [Info.cell,Addr.add_lit,Addr.mk.injEq,true_and,and_true,g2,hes]
          have := Nat.div_add_mod q m
          rw [Nat.mul_comm] at this
          omega
        let olds : List Value := (List.range (l * m)).map fun q => (w.cell? (((ι k).cell 0 0).add q)).getD undef
        have ol : olds.length = l * m := by simp [olds]
        have oc : ∀ j v,olds[j]? = some v → w.cell? (((ι k).cell 0 0).add j) = some v := by
          intro j v hv
          have hlt : j < l * m := by have := (List.getElem?_eq_some_iff.1 hv).1; omega
          obtain ⟨u,u',_,e,_⟩ := hcell j hlt
          simp only [olds,List.getElem?_map,List.getElem?_range hlt,Option.map_some,Option.some.injEq] at hv
          rw [e] at hv ⊢
          simpa using hv
        have oat : ∀ i j v,i < l → c'.at i j = some v → ∃ v',olds[i * m + j]? = some v' ∧ CRel ι D v v' := by
          intro i j v hi hv
          rw [at1 i j hi] at hv
          have hj := (Con.at_lt hv).2
          rw [hes] at hj
          have hlt : i * m + j < l * m := by
            have : (i + 1) * m ≤ l * m := Nat.mul_le_mul_right _ hi
            rw [Nat.succ_mul] at this; omega
          obtain ⟨u,u',e1,e2,e3⟩ := hcell _ hlt
          have d1 : (i * m + j) / m = i := by rw [Nat.add_comm,Nat.add_mul_div_right _ _ o3',Nat.div_eq_of_lt hj,Nat.zero_add]
          have d2 : (i * m + j) % m = j := by rw [Nat.add_comm,Nat.add_mul_mod_self_right,Nat.mod_eq_of_lt hj]
          rw [d1,d2,hv] at e1
          cases e1
          refine ⟨u',?_,e3⟩
          simp only [olds,List.getElem?_map,List.getElem?_range hlt,Option.map_some,e2]; rfl
        have hn0 : 0 < n := by omega
        rcases hy' with ⟨a',c2,rfl,news',n1',n2',n3',n4'⟩ | ⟨rfl,h0⟩
        · rw [o2'] at n1' n3'
          have hr := run_append_grow (P := P) w t ty e ie z hu hi hzz ((ι k).cell 0 0) l cap olds (by rw [ol,hm]) oc a' n c2 news' (by rw [n1',hm]) n2' (by omega) (by omega) (growslice_fits (by omega) (by rw [hby]; exact hbytes))
          refine ⟨_,_,hr,?_⟩
          obtain ⟨q1,q2⟩ := grownCells c' c' l olds news' (grownCap w (l + n) cap e) hes' (by omega) oat (fun i j v hv => by rw [a5] at hv; exact n3' i j v hv) ol n1' (grownCap_ge w (l + n) cap e)
          have := push_postK (k := k) H hD (s.h.set k deadB) (addW s.lo k s.wr) (.inr ⟨rfl,rfl⟩) c' _ e (grownCap w (l + n) cap e) (by rw [a3,hl]; exact grownCap_ge w (l + n) cap e) q1 q2
          rw [a3,hl] at this
          exact this
        · omega
    · -- a row that was nil
      subst l0
      by_cases hn : n = 0
      · subst hn
        have hpost := grow_rel (l := 0) (n := 0) (v' := .slice none 0 0) (room := (ι k).room) H hD hk hbk hlc (by rw [hes',hes]) (by omega) at1 (fun i j v hv => by rw [hes]; rw [a5] at hv; exact n3 i j v hv) (by rw [n1,hes]) n4 (Nat.le_refl _) (by omega) (.inr ⟨rfl,rfl⟩)
        have hnil : news = [] := List.eq_nil_of_length_eq_zero (by simpa using n1)
        subst hnil
        refine ⟨_,_,?_,hpost⟩
        have hf := nf w (fun _ => rfl)
        simp [Builtin.append_,run_underlying hu,sizeOf,typeInfo,hi,hm,nl,hf,World.setCells]
      · rcases hy' with ⟨a',c2,rfl,news',n1',n2',n3',n4'⟩ | ⟨rfl,h0⟩
        · rw [o2'] at n1' n3'
          have hr := run_append_nil (P := P) w t ty e ie z hu hi hzz a' n c2 news' (by rw [n1',hm]) n2' (by omega) (by omega) (by rw [hby]; rw [Nat.zero_add] at hbytes; omega)
          refine ⟨_,_,hr,?_⟩
          obtain ⟨q1,q2⟩ := grownCells c' c' 0 [] news' (grownCap w n 0 e) hes' (by omega) (fun i j v hi => by omega) (fun i j v hv => by rw [a5] at hv; exact n3' i j v hv) (by simp) n1' (by have := grownCap_ge w n 0 e; omega)
          have := push_postK (k := k) H hD (s.h.set k deadB) (addW s.lo k s.wr) (.inr ⟨rfl,rfl⟩) c' _ e (grownCap w n 0 e) (by rw [a3,hl,Nat.zero_add]; exact grownCap_ge w n 0 e) q1 q2
          simp only [Nat.zero_add,Array.empty_append,a3,hl] at this
          exact this
        · omega

theorem appNil_sound {t ty : TypeId} {x x' y y' v : Value} (hx : VRel ι D x x') (hy : VRel ι D y y') (hn : isNilS y = true) (h : firstT (evAppNil P t x) = some v) :
    ∃ v',(Builtin.append_ #[t,t] ty #[x',y']).run P w = .ok v' w ∧ VRel ι D v v' := by
  have hy' : y' = .slice none 0 0 := by
    unfold isNilS at hn
    split at hn
    · exact hy.2.2
    · cases hn
  subst hy'
  have key : ∀ (e : TypeId) (a : Option Addr) (l c : Nat),P.underlying t = some (.slice e) → (tSize P e).isSome = true → l ≤ c → x' = .slice a l c →
      (Builtin.append_ #[t,t] ty #[x',.slice none 0 0]).run P w = .ok x' w := by
    intro e a l c hu hs hl hx'
    obtain ⟨m,hm⟩ := Option.isSome_iff_exists.1 hs
    subst hx'
    have hf : (Builtin.firstCells m 0 (.slice none 0 0)).run P w = .ok #[] w := rfl
    cases a <;> simp [Builtin.append_,run_underlying hu,tSize_run hm,Builtin.lenOf,hl,hf,storeCells]
  unfold evAppNil at h
  split at h
  · rename_i e l c hu
    obtain ⟨rfl,rfl,rfl⟩ : _ ∧ _ ∧ x' = .slice none 0 0 := hx
    cases hs : (tSize P e).isSome with
    | false => rw [hs] at h; cases h
    | true =>
      rw [hs] at h
      obtain ⟨_,e1⟩ := firstT_one h
      cases e1
      exact ⟨_,key e none 0 0 hu hs (Nat.le_refl _) rfl,⟨rfl,rfl,rfl⟩⟩
  · rename_i e a l c hu
    cases hs : (tSize P e).isSome with
    | false => rw [hs] at h; cases h
    | true =>
      rw [hs] at h
      obtain ⟨_,e1⟩ := firstT_one h
      cases e1
      have hx0 := hx
      obtain ⟨a',c',rfl,_,_,h1,h2,_⟩ := hx
      exact ⟨_,key e (some a') l c' hu hs (by omega) rfl,hx0⟩
  · rename_i e k hu
    cases hs : (tSize P e).isSome with
    | false => rw [hs] at h; cases h
    | true =>
      rw [hs] at h
      obtain ⟨_,e1⟩ := firstT_one h
      cases e1
      have hx0 := hx
      obtain ⟨hk,hx⟩ := hx
      rcases hx with ⟨c',rfl,h1,_⟩ | ⟨rfl,_⟩
      · exact ⟨_,key e _ _ _ hu hs h1 rfl,hx0⟩
      · exact ⟨_,key e none 0 0 hu hs (Nat.le_refl _) rfl,hx0⟩
  · cases h

theorem bytes_sound {src dst : TypeId} {x x' v : Value} (H : WRel B ι D s.h w) (hx : VRel ι D x x') (h : firstT (evBytes P s.h src dst x) = some v) : ∃ v',(convert src dst x').run P w = .ok v' w ∧ VRel ι D v v' := by
  unfold evBytes at h
  split at h
  case h_2 => cases h
  rename_i e hs hd
  split at h
  case h_2 => cases h
  rename_i b n rows he hsh
  obtain ⟨hb,rfl⟩ := firstT_one h
  obtain ⟨hl,hy⟩ := shown_rel H hx hsh hb (fun l hh => by cases hh) (Nat.one_pos)
  refine ⟨_,?_,rfl⟩
  rcases hy with ⟨a',c',rfl,news,n1,n2,n3,_⟩ | ⟨rfl,h0⟩
  · have hlen : rows.length = n := hl
    have e1 : news = rows.map fun r => Value.int .u8 (r.getD 0 0) := by
      apply List.ext_getElem?
      intro i
      by_cases hi : i < rows.length
      · obtain ⟨v',g1,g2⟩ := n3 i 0 (.int .u8 ((rows.getD i []).getD 0 0)) (by simp [Con.at,hi,CT.mk])
        obtain rfl : v' = _ := g2
        simp only [Con.es,List.length_cons,List.length_nil,Nat.zero_add,Nat.mul_one,Nat.add_zero] at g1
        rw [g1,List.getElem?_map,List.getElem?_eq_getElem hi]
        simp [List.getD,List.getElem?_eq_getElem hi]
      · have e2 : news.length = rows.length := by rw [n1,← hlen]; simp [Con.es]
        rw [List.getElem?_eq_none (by omega),List.getElem?_eq_none (by simp; omega)]
    have hload := run_loadCells_list (P := P) w a' news n2
    have e2 : news.length = n := by rw [n1]; simp [Con.es]
    rw [e2,e1] at hload
    have e3 : (rows.map fun r => Value.int .u8 (r.getD 0 0)) = (rows.map fun r => r.getD 0 0).map (Value.int .u8) := by rw [List.map_map]; rfl
    rw [e3] at hload
    rw [run_convert_bytes_string w src dst e _ n c' hs he hd,run_bytesToString w a' n c' _ hload]
    rfl
  · have hlen : rows.length = n := hl
    have : rows = [] := List.eq_nil_of_length_eq_zero (by omega)
    subst this
    rw [run_convert_bytes_string w src dst e _ 0 0 hs he hd]
    rfl
end
end Go.Ab
