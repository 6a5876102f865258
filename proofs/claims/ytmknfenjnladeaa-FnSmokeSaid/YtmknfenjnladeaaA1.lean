/- An abstract evaluator of the model's code: values, blocks, the relation to the model's world. -/
import Derived.Orders
import Derived.Below
import Derived.LoopN
import Derived.Laws.World
import Derived.Laws.Sem
import Derived.Laws.Entries
import Derived.Lib.LaidTab
import Derived.Lib.ItoaNum
namespace Go.Ab
open Go.RowKit (Below)

def qnan : FloatKind → Nat
  | .f32 => 2143289344
  | .f64 => 9221120237041090560
def isN (k : FloatKind) (b : Nat) : Bool := (k.format.read b).isNaN
def canon (k : FloatKind) (b : Nat) : Nat := if isN k b then qnan k else b

theorem isN_qnan (k : FloatKind) : isN k (qnan k) = true := by cases k <;> decide +kernel
theorem canon_qnan (k : FloatKind) : canon k (qnan k) = qnan k := by simp [canon]
theorem isN_canon (k : FloatKind) (b : Nat) : isN k (canon k b) = isN k b := by
  unfold canon; split
  · rename_i h; rw [isN_qnan,h]
  · rfl
theorem isN_of_canon {k : FloatKind} {a b : Nat} (h : canon k a = canon k b) : isN k a = isN k b := by
  rw [← isN_canon k a,h,isN_canon]
theorem eq_of_canon {k : FloatKind} {a b : Nat} (h : canon k a = canon k b) (hn : isN k a = false) : a = b := by
  have hb : isN k b = false := by rw [← isN_of_canon h]; exact hn
  simpa [canon,hn,hb] using h

inductive CT where
  | fl (k : FloatKind)
  | int (k : IntKind)
  | bool
  deriving DecidableEq

def CT.mk : CT → Int → Value
  | .fl k,n => .float k n.toNat
  | .int k,n => .int k n
  | .bool,n => .bool (n == 1)
def CT.un : CT → Value → Option Int
  | .fl .f32,.float .f32 b => some b
  | .fl .f64,.float .f64 b => some b
  | .int k,.int k' n => if k = k' then some n else none
  | .bool,.bool b => some (if b then 1 else 0)
  | _,_ => none

theorem CT.mk_un {t : CT} {v : Value} {n : Int} (h : t.un v = some n) : t.mk n = v := by
  unfold CT.un at h
  split at h
  · cases h; simp [CT.mk]
  · cases h; simp [CT.mk]
  · split at h
    · rename_i e; subst e; cases h; rfl
    · cases h
  · rename_i b; cases b <;> cases h <;> rfl
  · cases h

inductive Con where
  | cells (l : List Value)
  | vals (l : List Value)
  | strs (l : List ByteArray)
  | tab (sch : List CT) (rows : List (List Int))

def Con.es : Con → Nat
  | .cells l => l.length
  | .vals _ | .strs _ => 1
  | .tab sch _ => sch.length
def Con.len : Con → Nat
  | .cells _ => 1
  | .vals l => l.length
  | .strs l => l.length
  | .tab _ rows => rows.length
def Con.at : Con → Nat → Nat → Option Value
  | .cells l,i,j => if i = 0 then l[j]? else none
  | .vals l,i,j => if j = 0 then l[i]? else none
  | .strs l,i,j => if j = 0 then (l[i]?).map .string else none
  | .tab sch rows,i,j => if i < rows.length then (sch[j]?).map fun t => t.mk ((rows.getD i []).getD j 0) else none

theorem Con.at_lt {c : Con} {i j : Nat} {v : Value} (h : c.at i j = some v) : i < c.len ∧ j < c.es := by
  cases c with
  | cells l =>
    simp only [Con.at] at h
    split at h
    · subst i; exact ⟨Nat.one_pos,(List.getElem?_eq_some_iff.1 h).1⟩
    · cases h
  | vals l =>
    simp only [Con.at] at h
    split at h
    · subst j; exact ⟨(List.getElem?_eq_some_iff.1 h).1,Nat.one_pos⟩
    · cases h
  | strs l =>
    simp only [Con.at] at h
    split at h
    · subst j
      rw [Option.map_eq_some_iff] at h; obtain ⟨s,hs,_⟩ := h
      exact ⟨(List.getElem?_eq_some_iff.1 hs).1,Nat.one_pos⟩
    · cases h
  | tab sch rows =>
    simp only [Con.at] at h
    split at h
    · rw [Option.map_eq_some_iff] at h; obtain ⟨s,hs,_⟩ := h
      exact ⟨by assumption,(List.getElem?_eq_some_iff.1 hs).1⟩
    · cases h

structure Blk where
  w : Bool
  con : Option Con

structure St where
  h : List Blk
  lo : Nat
  wr : List Nat

def deadB : Blk := ⟨true,none⟩

def poison : Value := .complex .f32 0 0
def anyV : Value := .chan none
def wsl (k : Nat) : Value := .iface k .nilIface
def xsl (a : Addr) (l c : Nat) : Value := .iface 0 (.slice (some a) l c)
def rsl (a : Addr) (l : Nat) : Value := .iface l (.pointer (some a))
def nanBits (k : FloatKind) : Value := .complex k 1 0
def nanKind : FloatKind → IntKind
  | .f32 => .u32
  | .f64 => .u64

structure Info where
  blk : Nat
  base : Nat
  es : Nat
  room : Nat
  len : Nat

def L2 {α β : Type} (R : α → β → Prop) : List α → List β → Prop
  | [],[] => True
  | a :: l,b :: l' => R a b ∧ L2 R l l'
  | _,_ => False

def Info.cell (I : Info) (i j : Nat) : Addr := ⟨I.blk,I.base + i * I.es + j,none⟩

def ARel (ι : Nat → Info) (D : Nat → Prop) (a a' : Addr) : Prop :=
  D a.block ∧ ∃ j,a.spot = some j ∧ a' = (ι a.block).cell a.off j

def capV : Value → Bool
  | .int _ _ => true
  | .pointer (some _) => true
  | _ => false
def CRel0 (ι : Nat → Info) (D : Nat → Prop) : Value → Value → Prop
  | .int k n,v' => v' = .int k n
  | .pointer (some a),v' => ∃ a',v' = .pointer (some a') ∧ ARel ι D a a'
  | _,_ => False

def CRel (ι : Nat → Info) (D : Nat → Prop) : Value → Value → Prop
  | .float k b,v' => ∃ b',v' = .float k b' ∧ canon k b' = canon k b
  | .pointer (some a),v' => ∃ a',v' = .pointer (some a') ∧ ARel ι D a a'
  | .slice (some a) l c,v' => ∃ a' c',v' = .slice (some a') l c' ∧ ARel ι D a a' ∧ a.spot = some 0 ∧ l ≤ c ∧ c ≤ c' ∧ a.off + c' ≤ (ι a.block).room
  | .slice none l c,v' => l = 0 ∧ c = 0 ∧ v' = .slice none 0 0
  | .iface k .nilIface,v' => D k ∧ ((∃ c',v' = .slice (some ((ι k).cell 0 0)) (ι k).len c' ∧ (ι k).len ≤ c' ∧ c' ≤ (ι k).room) ∨ (v' = .slice none 0 0 ∧ (ι k).len = 0))
  | .iface _ (.slice (some a) l c),v' => ∃ a',v' = .slice (some a') l c ∧ ARel ι D a a' ∧ l ≤ c
  | .iface _ (.slice none l _),v' => l = 0 ∧ ∃ o c',v' = .slice o 0 c'
  | .iface l (.pointer (some a)),v' => (l = 0 ∧ ∃ o c',v' = .slice o 0 c') ∨ ∃ a' c',v' = .slice (some a') l c' ∧ ARel ι D a a' ∧ l ≤ c'
  | .iface _ (.bool b),v' => (b = true ∧ v' = .nilIface) ∨ (b = false ∧ ∃ t x,v' = .iface t x)
  | .complex k n _,v' => v'.oneCell' = true ∧ (n = 1 → ∃ b' : Nat,v' = .int (nanKind k) b' ∧ isN k b' = true)
  | .bool b,v' => v' = .bool b
  | .int k n,v' => v' = .int k n
  | .string s,v' => v' = .string s
  | .pointer none,v' => v' = .pointer none
  | .nilFunc,v' => v' = .nilFunc
  | .func (.func f) x y,v' => x = #[] ∧ ∃ y' : Array Value,v' = .func (.func f) #[] y' ∧ L2 (CRel0 ι D) y.toList y'.toList
  | _,_ => False


theorem L2.imp {α β : Type} {R S : α → β → Prop} (h : ∀ a b,R a b → S a b) : ∀ {l : List α} {l' : List β},L2 R l l' → L2 S l l'
  | [],[],_ => trivial
  | _ :: _,_ :: _,hl => ⟨h _ _ hl.1,L2.imp h hl.2⟩
  | [],_ :: _,hl => hl.elim
  | _ :: _,[],hl => hl.elim
theorem L2.length {α β : Type} {R : α → β → Prop} : ∀ {l : List α} {l' : List β},L2 R l l' → l.length = l'.length
  | [],[],_ => rfl
  | _ :: _,_ :: _,hl => by simp [L2.length hl.2]
  | [],_ :: _,hl => hl.elim
  | _ :: _,[],hl => hl.elim
theorem L2.get {α β : Type} {R : α → β → Prop} : ∀ {l : List α} {l' : List β},L2 R l l' → ∀ (i : Nat) (a : α),l[i]? = some a → ∃ b,l'[i]? = some b ∧ R a b
  | [],[],_,i,a,h => by simp at h
  | x :: _,y :: _,hl,0,a,h => by simp at h; subst h; exact ⟨y,rfl,hl.1⟩
  | x :: _,y :: _,hl,i + 1,a,h => by simp at h ⊢; exact L2.get hl.2 i a h
  | [],_ :: _,hl,_,_,_ => hl.elim
  | _ :: _,[],hl,_,_,_ => hl.elim
theorem L2.of_get {α β : Type} {R : α → β → Prop} : ∀ {l : List α} {l' : List β},l.length = l'.length → (∀ (i : Nat) (a : α) (b : β),l[i]? = some a → l'[i]? = some b → R a b) → L2 R l l'
  | [],[],_,_ => trivial
  | x :: l,y :: l',hl,h => ⟨h 0 x y rfl rfl,L2.of_get (by simpa using hl) (fun i a b ha hb => h (i + 1) a b (by simpa using ha) (by simpa using hb))⟩
  | [],_ :: _,hl,_ => by simp at hl
  | _ :: _,[],hl,_ => by simp at hl
theorem L2.append {α β : Type} {R : α → β → Prop} : ∀ {l : List α} {l' : List β} {m : List α} {m' : List β},L2 R l l' → L2 R m m' → L2 R (l ++ m) (l' ++ m')
  | [],[],_,_,_,h => h
  | _ :: _,_ :: _,_,_,hl,h => ⟨hl.1,L2.append hl.2 h⟩
  | [],_ :: _,_,_,hl,_ => hl.elim
  | _ :: _,[],_,_,hl,_ => hl.elim
theorem L2.set {α β : Type} {R : α → β → Prop} : ∀ {l : List α} {l' : List β} (i : Nat) {a : α} {b : β},L2 R l l' → R a b → L2 R (l.set i a) (l'.set i b)
  | [],[],_,_,_,_,_ => by simp [L2]
  | _ :: _,_ :: _,0,_,_,hl,h => ⟨h,hl.2⟩
  | _ :: _,_ :: _,i + 1,_,_,hl,h => ⟨hl.1,L2.set i hl.2 h⟩
  | [],_ :: _,_,_,_,hl,_ => hl.elim
  | _ :: _,[],_,_,_,hl,_ => hl.elim
theorem L2.take {α β : Type} {R : α → β → Prop} : ∀ {l : List α} {l' : List β} (i : Nat),L2 R l l' → L2 R (l.take i) (l'.take i)
  | [],[],_,_ => by simp [L2]
  | _ :: _,_ :: _,0,hl => by simp [L2]
  | _ :: _,_ :: _,i + 1,hl => by simp only [List.take_succ_cons]; exact ⟨hl.1,L2.take i hl.2⟩
  | [],_ :: _,_,hl => hl.elim
  | _ :: _,[],_,hl => hl.elim
theorem L2.drop {α β : Type} {R : α → β → Prop} : ∀ {l : List α} {l' : List β} (i : Nat),L2 R l l' → L2 R (l.drop i) (l'.drop i)
  | [],[],_,_ => by simp [L2]
  | _ :: _,_ :: _,0,hl => hl
  | _ :: _,_ :: _,i + 1,hl => by simp only [List.drop_succ_cons]; exact L2.drop i hl.2
  | [],_ :: _,_,hl => hl.elim
  | _ :: _,[],_,hl => hl.elim
theorem L2.replicate {α β : Type} {R : α → β → Prop} {a : α} {b : β} (h : R a b) : ∀ n : Nat,L2 R (List.replicate n a) (List.replicate n b)
  | 0 => trivial
  | n + 1 => ⟨h,L2.replicate h n⟩

def VRel1 (ι : Nat → Info) (D : Nat → Prop) : Value → Value → Prop
  | .agg cs,v' => ∃ cs' : Array Value,v' = .agg cs' ∧ L2 (CRel ι D) cs.toList cs'.toList
  | v,v' => CRel ι D v v'

def VRel (ι : Nat → Info) (D : Nat → Prop) : Value → Value → Prop
  | .tuple vs,v' => ∃ vs' : Array Value,v' = .tuple vs' ∧ L2 (VRel1 ι D) vs.toList vs'.toList
  | .chan _,_ => True
  | v,v' => VRel1 ι D v v'

theorem ARel.mono {ι ι' : Nat → Info} {D D' : Nat → Prop} {a a' : Addr} (h : ARel ι D a a') (hD : ∀ k,D k → D' k ∧ ι' k = ι k) : ARel ι' D' a a' := by
  obtain ⟨h1,j,h2,h3⟩ := h
  exact ⟨(hD _ h1).1,j,h2,by rw [(hD _ h1).2]; exact h3⟩

theorem CRel0.mono {ι ι' : Nat → Info} {D D' : Nat → Prop} (hD : ∀ k,D k → D' k ∧ ι' k = ι k) {v v' : Value} (h : CRel0 ι D v v') : CRel0 ι' D' v v' := by
  unfold CRel0 at h ⊢
  split at h <;> try exact h
  · obtain ⟨a',e,ha⟩ := h
    exact ⟨a',e,ha.mono hD⟩
theorem CRel.mono {ι ι' : Nat → Info} {D D' : Nat → Prop} (hD : ∀ k,D k → D' k ∧ ι' k = ι k) {v v' : Value} (h : CRel ι D v v') : CRel ι' D' v v' := by
  unfold CRel at h ⊢
  split at h <;> try exact h
  · obtain ⟨a',e,ha⟩ := h
    exact ⟨a',e,ha.mono hD⟩
  · obtain ⟨a',c',e,ha,h0,h1,h2,h3⟩ := h
    refine ⟨a',c',e,ha.mono hD,h0,h1,h2,?_⟩
    rw [(hD _ ha.1).2]; exact h3
  · obtain ⟨h1,h2⟩ := h
    rw [(hD _ h1).2]
    exact ⟨(hD _ h1).1,h2⟩
  · obtain ⟨a',e,ha,h1⟩ := h
    exact ⟨a',e,ha.mono hD,h1⟩
  · rcases h with h | ⟨a',c',e,ha,h1⟩
    · exact .inl h
    · exact .inr ⟨a',c',e,ha.mono hD,h1⟩
  · obtain ⟨h1,y',e,h2⟩ := h
    exact ⟨h1,y',e,h2.imp fun _ _ hc => hc.mono hD⟩

theorem VRel1.mono {ι ι' : Nat → Info} {D D' : Nat → Prop} (hD : ∀ k,D k → D' k ∧ ι' k = ι k) {v v' : Value} (h : VRel1 ι D v v') : VRel1 ι' D' v v' := by
  cases v
  case agg cs =>
    obtain ⟨cs',e,hf⟩ := h
    exact ⟨cs',e,hf.imp (fun _ _ hc => CRel.mono hD hc)⟩
  all_goals (simp only [VRel1] at h ⊢; exact CRel.mono hD h)

theorem VRel.mono {ι ι' : Nat → Info} {D D' : Nat → Prop} (hD : ∀ k,D k → D' k ∧ ι' k = ι k) {v v' : Value} (h : VRel ι D v v') : VRel ι' D' v v' := by
  cases v
  case tuple cs =>
    obtain ⟨cs',e,hf⟩ := h
    exact ⟨cs',e,hf.imp (fun _ _ hc => VRel1.mono hD hc)⟩
  case chan => trivial
  all_goals (simp only [VRel] at h ⊢; exact VRel1.mono hD h)

theorem CRel.one {ι : Nat → Info} {D : Nat → Prop} {v v' : Value} (h : CRel ι D v v') : v'.oneCell' = true := by
  unfold CRel at h
  split at h
  · obtain ⟨b',rfl,_⟩ := h; rfl
  · obtain ⟨a',rfl,_⟩ := h; rfl
  · obtain ⟨a',c',rfl,_⟩ := h; rfl
  · obtain ⟨_,_,rfl⟩ := h; rfl
  · rcases h.2 with ⟨c',rfl,_⟩ | ⟨rfl,_⟩ <;> rfl
  · obtain ⟨a',rfl,_⟩ := h; rfl
  · obtain ⟨_,o,c',rfl⟩ := h; rfl
  · rcases h with ⟨_,o,c',rfl⟩ | ⟨a',c',rfl,_⟩ <;> rfl
  · rcases h with ⟨_,rfl⟩ | ⟨_,t,x,rfl⟩ <;> rfl
  · exact h.1
  all_goals first | (subst h; rfl) | (obtain ⟨_,_,rfl⟩ := h; rfl) | (obtain ⟨_,_,rfl,_⟩ := h; rfl) | exact h.elim

def nmPow : String := "internal" ++ (String.singleton (Char.ofNat 47) ++ "strconv.uint64pow10")
def nmSyn : String := "strconv.ErrSyntax"
def nmRan : String := "strconv.ErrRange"
structure GG (P : Program) (w : World) : Prop where
  pow : P.globalNamed nmPow = none ∨ w.var? P nmPow = some (Lib.pow10Tab.map fun z => Value.int .u64 z).toArray
  syn : P.globalNamed nmSyn = none ∨ ∃ te pe,w.var? P nmSyn = some #[.iface te pe]
  ran : P.globalNamed nmRan = none ∨ ∃ te pe,w.var? P nmRan = some #[.iface te pe]
def gAt (P : Program) (nm : String) : Nat := match P.globalNamed nm with
  | some g => g + 1
  | none => 0
def gtop (P : Program) : Nat := max (gAt P nmPow) (max (gAt P nmSyn) (gAt P nmRan))
structure Bnd (P : Program) where
  b : Nat
  ge : gtop P ≤ b
instance {P : Program} : CoeOut (Bnd P) Nat := ⟨Bnd.b⟩
theorem var_below {P : Program} {nm : String} {b : Nat} (hb : gAt P nm ≤ b) {w w' : World} (h : Below b w w') : w'.var? P nm = w.var? P nm := by
  unfold gAt at hb
  unfold World.var?
  cases hg : P.globalNamed nm with
  | none => rfl
  | some g =>
    rw [hg] at hb
    have hlt : g < b := hb
    simp only [Option.bind_some,h.block g hlt]
theorem GG.of_below {P : Program} {b : Nat} (hb : gtop P ≤ b) {w w' : World} (h : Below b w w') (g : GG P w) : GG P w' := by
  obtain ⟨g1,g2,g3⟩ := g
  unfold gtop at hb
  refine ⟨?_,?_,?_⟩
  · rw [var_below (by omega) h]; exact g1
  · rw [var_below (by omega) h]; exact g2
  · rw [var_below (by omega) h]; exact g3
theorem gAt_le {P : Program} {nm : String} {w : World} {v : Array Value} (h : w.var? P nm = some v) : gAt P nm ≤ w.heap.size := by
  unfold gAt
  unfold World.var? at h
  cases hg : P.globalNamed nm with
  | none => exact Nat.zero_le _
  | some g =>
    rw [hg,Option.bind_some] at h
    apply Classical.byContradiction
    intro hn
    have : w.heap[g]? = none := Array.getElem?_eq_none (by show w.heap.size ≤ g; have : ¬ (g + 1 ≤ w.heap.size) := hn; omega)
    rw [this] at h
    cases h
theorem GG.top {P : Program} {w : World} (g : GG P w) : gtop P ≤ w.heap.size := by
  obtain ⟨g1,g2,g3⟩ := g
  have key : ∀ nm,P.globalNamed nm = none → gAt P nm ≤ w.heap.size := fun nm h => by unfold gAt; rw [h]; exact Nat.zero_le _
  have h1 : gAt P nmPow ≤ w.heap.size := g1.elim (key _) gAt_le
  have h2 : gAt P nmSyn ≤ w.heap.size := g2.elim (key _) (fun ⟨_,_,h⟩ => gAt_le h)
  have h3 : gAt P nmRan ≤ w.heap.size := g3.elim (key _) (fun ⟨_,_,h⟩ => gAt_le h)
  unfold gtop
  omega
theorem GG.none {P : Program} {w : World} (h1 : P.globalNamed nmPow = none) (h2 : P.globalNamed nmSyn = none) (h3 : P.globalNamed nmRan = none) : GG P w := ⟨.inl h1,.inl h2,.inl h3⟩
structure WRel {P : Program} (B : Bnd P) (ι : Nat → Info) (D : Nat → Prop) (h : List Blk) (w : World) : Prop where
  both : ∀ k b c,D k → h[k]? = some b → b.con = some c → (0 < c.len → (ι k).blk < w.heap.size) ∧ (ι k).es = c.es ∧
    (∀ i j v,c.at i j = some v → ∃ v',w.cell? ((ι k).cell i j) = some v' ∧ CRel ι D v v')
  own : ∀ k c,D k → h[k]? = some ⟨true,some c⟩ → (B ≤ (ι k).blk ∧ (ι k).blk < w.heap.size) ∧ c.len ≤ (ι k).room ∧
    (∀ i j,i < (ι k).room → j < (ι k).es → (w.cell? ((ι k).cell i j)).isSome = true ∧ w.frozen? ((ι k).cell i j) = false)
  ro : ∀ k c,D k → h[k]? = some ⟨false,some c⟩ → 0 < c.len → (ι k).blk < B
  disj : ∀ k k' c c',D k → D k' → k ≠ k' → h[k]? = some ⟨true,some c⟩ → h[k']? = some ⟨true,some c'⟩ → (ι k).blk ≠ (ι k').blk
  le : B ≤ w.heap.size
  lens : ∀ k b c,D k → h[k]? = some b → b.con = some c → (ι k).len = c.len
  gl : GG P w

theorem WRel.of_below {P : Program} {B : Bnd P} {ι : Nat → Info} {D : Nat → Prop} {h : List Blk} {w w' : World} (H : WRel B ι D h w) (hb : Below w.heap.size w w') : WRel B ι D h w' := by
  have hc : ∀ (I : Info) i j,I.blk < w.heap.size → w'.cell? (I.cell i j) = w.cell? (I.cell i j) := fun I i j hlt => hb.cell (p := I.cell i j) hlt
  have hf : ∀ (I : Info) i j,I.blk < w.heap.size → w'.frozen? (I.cell i j) = w.frozen? (I.cell i j) := fun I i j hlt => hb.frozen (p := I.cell i j) hlt
  refine ⟨?_,?_,H.ro,H.disj,Nat.le_trans H.le hb.size,H.lens,H.gl.of_below (Nat.le_trans B.ge H.le) hb⟩
  · intro k b c hk he hcon
    obtain ⟨h2,h3,h6⟩ := H.both k b c hk he hcon
    refine ⟨fun h0 => Nat.lt_of_lt_of_le (h2 h0) hb.size,h3,?_⟩
    intro i j v hv; rw [hc _ _ _ (h2 (Nat.lt_of_le_of_lt (Nat.zero_le _) (Con.at_lt hv).1))]; exact h6 i j v hv
  · intro k c hk he
    obtain ⟨⟨h1,h2⟩,h4,h5⟩ := H.own k c hk he
    refine ⟨⟨h1,Nat.lt_of_lt_of_le h2 hb.size⟩,h4,?_⟩
    intro i j hi hj; rw [hc _ _ _ h2,hf _ _ _ h2]; exact h5 i j hi hj

end Go.Ab
