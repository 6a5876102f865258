/- Summaries of loops, on the slots that they look at. -/
import Derived.Test.YtmknfenjnladeaaA22
namespace Go.Ab

def kept (keep : List Nat) (fr : List Value) : List Value := keep.map fun i => fr.getD i undef
def frameOf (n : Nat) (keep : List Nat) (vals : List Value) : List Value := (List.range n).map fun i => match keep.idxOf? i with
  | some j => vals.getD j undef
  | none => anyV
abbrev SumK := List Value → St → List (Bool × (Fin' × List Value × St))
def sumK (n : Nat) (kin kout : List Nat) (f : SumK) : Sum1 := fun fr s =>
  cond (Nat.beq fr.length n) ((f (kept kin fr) s).map fun (b,x) => (b,(x.1,frameOf n kout x.2.1,x.2.2))) []

theorem keepFr_eq (keep : List Nat) (fr : List Value) : keepFr keep fr = frameOf fr.length keep (kept keep fr) := by
  apply List.ext_getElem?
  intro i
  unfold keepFr frameOf kept
  rw [List.getElem?_map,List.getElem?_zipIdx,List.getElem?_map]
  cases hf : fr[i]? with
  | none =>
    have : fr.length ≤ i := List.getElem?_eq_none_iff.1 hf
    rw [List.getElem?_eq_none (by simpa using this)]
    rfl
  | some v =>
    have hi : i < fr.length := (List.getElem?_eq_some_iff.1 hf).1
    rw [List.getElem?_range hi]
    simp only [Option.map_some,Nat.zero_add,Option.some.injEq]
    cases hk : keep.idxOf? i with
    | none =>
      have : keep.contains i = false := by
        unfold List.idxOf? at hk
        rw [List.findIdx?_eq_none_iff] at hk
        rw [← Bool.not_eq_true,List.contains_iff_mem]
        intro hm
        have := hk i hm
        simp at this
      rw [this]; rfl
    | some j =>
      have hj := inv_spec (E := keep) (k := i) (i := j) hk
      have : keep.contains i = true := by
        rw [List.contains_iff_mem]; exact List.mem_of_getElem? hj
      rw [this]
      simp only [cond_true]
      rw [List.getD_eq_getElem?_getD,List.getElem?_map,hj]
      simp only [Option.map_some,Option.getD_some]
      rw [List.getD_eq_getElem?_getD,hf]; rfl

def SumKOk (P : Program) (body : Code) (n : Nat) (kin kout : List Nat) (f : SumK) : Prop :=
  ∀ vals s x,s.lo = s.h.length → s.wr = [] → firstT (f vals s) = some x → LoopOK P body (frameOf n kin vals) s (x.1,frameOf n kout x.2.1,x.2.2)
theorem sumK_ok {P : Program} {body : Code} {n : Nat} {kin kout : List Nat} {f : SumK} (h : SumKOk P body n kin kout f) : SumOk P body (sumK n kin kout f) := by
  intro fr s x h1 h2 h3
  unfold sumK at h3
  cases hb : Nat.beq fr.length n with
  | false => rw [hb] at h3; cases h3
  | true =>
    rw [hb] at h3
    simp only [cond_true] at h3
    obtain ⟨y,hy,e⟩ := firstT_mapc (f := fun x : Fin' × List Value × St => (x.1,frameOf n kout x.2.1,x.2.2)) h3
    cases e
    have hn : fr.length = n := Nat.eq_of_beq_eq_true hb
    have H := h _ s y h1 h2 hy
    intro B ι D a w hw hD hF
    have := keepFr_rel kin hF
    rw [keepFr_eq,hn] at this
    exact H B ι D a w hw hD this

theorem sum_step {P : Program} {ext : FuncId → Option Ext} {cf : CallF} (hcf : CfOk P cf) (hext : ExtOk P ext) (hm : P.follows .mixedOrders = true) {lf : LoopT} {K : Nat} {body : Code} (hl : LfOk P lf (loopsOf body)) {n : Nat} {kin nrm kout : List Nat} {wide : List Nat} {f : SumK} (hs : SumKOk P body n kin kout f)
    {vals : List Value} {s : St} {l : List Blk} {m : Nat} {L : List (Bool × (Fin' × List Value × St))} {x : Fin' × List Value × St} (h1 : s.lo = s.h.length) (h2 : s.wr = []) (h : s.h = l)
    (he : evC P ext cf lf K body (loopTail (kin,nrm) kout wide (sumK n kin kout f)) (frameOf n kin vals) ⟨l,m,[]⟩ = firstT (L.map fun (b,x) => (b,(x.1,frameOf n kout x.2.1,x.2.2)))) (hm' : m = l.length) (h3 : firstT L = some x) :
    LoopOK P body (frameOf n kin vals) s (x.1,frameOf n kout x.2.1,x.2.2) := by
  obtain rfl := st_of h1 h2 h
  subst hm'
  have : firstT (L.map fun (b,x) => (b,(x.1,frameOf n kout x.2.1,x.2.2))) = some (x.1,frameOf n kout x.2.1,x.2.2) := firstT_mapf (f := fun x : Fin' × List Value × St => (x.1,frameOf n kout x.2.1,x.2.2)) h3
  rw [this] at he
  exact loop_step hcf hext hm hl (sumK_ok hs) rfl he

def noQ : SumK := fun _ _ => []
theorem noQ_ok {P : Program} {body : Code} {n : Nat} {kin kout : List Nat} : SumKOk P body n kin kout noQ := fun _ _ _ _ _ h => by cases h
theorem fuel_ok {P : Program} {body : Code} {n : Nat} {kin kout : List Nat} {q : Nat → SumK} (h : ∀ m,SumKOk P body n kin kout (q m)) (M : List Value → List Blk → Nat) : SumKOk P body n kin kout (fun vals s => q (M vals s.h) vals s) :=
  fun vals s x h1 h2 h3 => h _ vals s x h1 h2 h3

def codeOf (fn : Func) : Code := fn.body.getD .skip
def loopN (fn : Func) (i : Nat) : Code := (loopsOf (codeOf fn)).getD i .skip
def LfOkF (P : Program) (lf : LoopT) (fn : Func) : Prop := LfOk P lf (loopsOf (codeOf fn))
theorem LfOkF.body {P : Program} {lf : LoopT} {fn : Func} (h : LfOkF P lf fn) : ∀ c,fn.body = some c → LfOk P lf (loopsOf c) := fun c hc => by
  unfold LfOkF codeOf at h
  rw [hc] at h
  exact h
theorem loops_trans {b b' : Code} : ∀ {c : Code},b ∈ loopsOf c → b' ∈ loopsOf b → b' ∈ loopsOf c := by
  intro c
  induction c with
  | seq x y ihx ihy =>
    intro h1 h2
    simp only [loopsOf,List.mem_append] at h1 ⊢
    rcases h1 with h1 | h1
    · exact .inl (ihx h1 h2)
    · exact .inr (ihy h1 h2)
  | cond c t e iht ihe =>
    intro h1 h2
    simp only [loopsOf,List.mem_append] at h1 ⊢
    rcases h1 with h1 | h1
    · exact .inl (iht h1 h2)
    · exact .inr (ihe h1 h2)
  | block id body ih => intro h1 h2; exact ih h1 h2
  | loop body ih =>
    intro h1 h2
    simp only [loopsOf,List.mem_cons] at h1 ⊢
    rcases h1 with rfl | h1
    · exact .inr h2
    · exact .inr (ih h1 h2)
  | _ => intro h1; cases h1
theorem LfOkF.inner {P : Program} {lf : LoopT} {fn : Func} (h : LfOkF P lf fn) {i : Nat} (hi : Nat.blt i (loopsOf (codeOf fn)).length = true) : LfOk P lf (loopsOf (loopN fn i)) := by
  have hi' := blt_true hi
  refine LfOk.mono h fun b hb => loops_trans (b := loopN fn i) ?_ hb
  unfold loopN
  rw [List.getD_eq_getElem?_getD,List.getElem?_eq_getElem hi']
  exact List.getElem_mem hi'
theorem lfOkF_no (P : Program) (fn : Func) : LfOkF P noL fn := lfOk_no _ _
theorem lfOkF_add {P : Program} {lf : LoopT} {fn : Func} (h : LfOkF P lf fn) {i id n : Nat} {kin nrm kout : List Nat} {q : SumK} (hq : SumKOk P (loopN fn i) n kin kout q) (hn : nodupB ((loopsOf (codeOf fn)).map lid) = true)
    (hi : Nat.blt i (loopsOf (codeOf fn)).length = true) (hid : Nat.beq (lid (loopN fn i)) id = true) : LfOkF P (addL lf id (kin,nrm) (sumK n kin kout q)) fn := by
  intro body hb kin' sum hs
  unfold addL at hs
  cases hc : Nat.beq (lid body) id with
  | false => rw [hc] at hs; exact h body hb kin' sum hs
  | true =>
    rw [hc] at hs
    cases hs
    have e1 := beq_true hc
    have e2 := beq_true hid
    obtain ⟨j,hj⟩ := List.mem_iff_getElem?.1 hb
    have hi' := blt_true hi
    have hj1 : ((loopsOf (codeOf fn)).map lid)[j]? = some id := by rw [List.getElem?_map,hj,Option.map_some,e1]
    have hi1 : ((loopsOf (codeOf fn)).map lid)[i]? = some id := by
      rw [List.getElem?_map,List.getElem?_eq_getElem hi',Option.map_some]
      unfold loopN at e2
      rw [List.getD_eq_getElem?_getD,List.getElem?_eq_getElem hi'] at e2
      exact congrArg some e2
    have := nodupB_spec hn _ _ _ hj1 hi1
    subst this
    have : body = loopN fn j := by unfold loopN; rw [List.getD_eq_getElem?_getD,hj]; rfl
    rw [this]
    exact sumK_ok hq

theorem alts_first {α : Type} : ∀ L : List (Bool × α),alts L some = firstT L
  | [] => rfl
  | (c,x) :: l => by
    cases c
    · exact alts_first l
    · rfl
theorem cond_both {α β : Type} (f : α → β) (c : Bool) {x y : β} {a b : α} (hx : c = true → x = f a) (hy : c = false → y = f b) : cond c x y = f (cond c a b) := by
  cases c
  · exact hy rfl
  · exact hx rfl
theorem cond_t {α : Type} {c : Bool} {x x' y : α} (hc : c = true) (h : x = x') : cond c x y = x' := by subst hc; exact h
theorem cond_f {α : Type} {c : Bool} {x y y' : α} (hc : c = false) (h : y = y') : cond c x y = y' := by subst hc; exact h
theorem ev_and2 {a b : Bool} (h : (a && b) = true) : b = true := by cases a <;> simp_all
theorem ev_or {a b : Bool} {p : Prop} (h : (a || b) = true) (h1 : a = true → p) (h2 : b = true → p) : p := by
  cases a
  · exact h2 h
  · exact h1 rfl
theorem ev_nott {a : Bool} (h : (!a) = true) : a = false := by cases a <;> simp_all
theorem ev_notf {a : Bool} (h : (!a) = false) : a = true := by cases a <;> simp_all
theorem ev_not1 {a : Bool} (h : a = false) : (!a) = true := by simp_all
theorem ev_not0 {a : Bool} (h : a = true) : (!a) = false := by simp_all
theorem ev_gt1 {k : FloatKind} {a b : Nat} (h : fgt k a b = true) : isN k a = false := by
  cases hn : isN k a with
  | false => rfl
  | true => rw [fgt_nanl b hn] at h; cases h
theorem ev_eq1 {k : FloatKind} {a b : Nat} (h : feq k a b = true) : isN k a = false := by
  cases hn : isN k a with
  | false => rfl
  | true => rw [feq_nanl b hn] at h; cases h
end Go.Ab
