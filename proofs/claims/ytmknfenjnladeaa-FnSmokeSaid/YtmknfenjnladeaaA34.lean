/- Summaries whose written blocks are told in one way. -/
import Derived.Test.YtmknfenjnladeaaA18
namespace Go.Ab
abbrev vf (b : Nat) : Value := .float .f32 b
abbrev vi (n : Int) : Value := .int .i64 n
abbrev vp (k : Nat) : Value := .pointer (some ⟨k,0,some 0⟩)

section
variable {α β : Type} (f : α → β)
theorem map_cond (c : Bool) (x y : Option α) : (cond c x y).map f = cond c (x.map f) (y.map f) := by cases c <;> rfl
theorem alts_map {γ : Type} (k : γ → Option α) : ∀ l : List (Bool × γ),alts l (fun x => (k x).map f) = (alts l k).map f
  | [] => rfl
  | (c,x) :: l => by
    show cond c ((k x).map f) (alts l _) = (cond c (k x) (alts l k)).map f
    rw [map_cond,alts_map k l]
theorem evOps_map (P : Program) (ext : FuncId → Option Ext) (cf : CallF) (ops : List Oper) : ∀ (l : List Oper) (k : List Value → St → List Ft → Option α) (fr : List Value) (s : St) (ks : List Ft),
    evOps P ext cf ops l (fun fr s ks => (k fr s ks).map f) fr s ks = (evOps P ext cf ops l k fr s ks).map f
  | [],k,fr,s,ks => rfl
  | o :: rest,k,fr,s,ks => by
    unfold evOps
    cases wantedA ops fr o with
    | none => rfl
    | some g =>
      cases g with
      | none =>
        simp only [evOps_map P ext cf ops rest k]
        exact alts_map f _ _
      | some d =>
        obtain ⟨d,b,want⟩ := d
        simp only [evOps_map P ext cf ops rest k]
        rw [map_cond,map_cond,map_cond]
        simp only [alts_map f]
theorem evRegion_map (P : Program) (ext : FuncId → Option Ext) (cf : CallF) (ops : List Oper) (draw : Bool) (k : List Value → St → Option α) (fr : List Value) (s : St) :
    evRegion P ext cf ops draw (fun fr s => (k fr s).map f) fr s = (evRegion P ext cf ops draw k fr s).map f := by
  unfold evRegion
  rw [← evOps_map]
  congr 1
  funext fr' s' ks
  rw [map_cond]; rfl
theorem normAll_map : ∀ (l : List Nat) (fr : List Value) (s : St) (k : List Value → St → Option α),normAll l fr s (fun fr s => (k fr s).map f) = (normAll l fr s k).map f
  | [],_,_,_ => rfl
  | i :: l,fr,s,k => by
    unfold normAll
    obtain ⟨b,fr',s'⟩ := normA fr s i
    show cond b (normAll l fr' s' _) none = (cond b (normAll l fr' s' k) none).map f
    rw [normAll_map l,map_cond]; rfl
theorem loopCall_map (keep : Keep) (sum : Sum1) (k : Kont α) (fr : List Value) (s : St) : loopCall keep sum (fun e fr s => (k e fr s).map f) fr s = (loopCall keep sum k fr s).map f := by
  unfold loopCall
  rw [← normAll_map]
  congr 1
  funext fr0 s0
  rw [map_cond]
  simp only [alts_map f]
  rfl
theorem loopC_map {body : Kont α → List Value → St → Option α} {body' : Kont β → List Value → St → Option β} (hb : ∀ k fr s,body' (fun e fr s => (k e fr s).map f) fr s = (body k fr s).map f) (k : Kont α) : ∀ (n : Nat) (fr : List Value) (s : St),
    loopC body' (fun e fr s => (k e fr s).map f) n fr s = (loopC body k n fr s).map f
  | 0,_,_ => rfl
  | n + 1,fr,s => by
    unfold loopC
    rw [← hb]
    congr 1
    funext e fr s
    cases e with
    | norm => exact loopC_map hb k n fr s
    | ret => rfl
    | exit i => rfl
theorem evC_map (P : Program) (ext : FuncId → Option Ext) (cf : CallF) (lf : LoopT) (K : Nat) : ∀ (c : Code) (k : Kont α) (fr : List Value) (s : St),
    evC P ext cf lf K c (fun e fr s => (k e fr s).map f) fr s = (evC P ext cf lf K c k fr s).map f := by
  intro c
  induction c with
  | skip => intro k fr s; rfl
  | label _ => intro k fr s; rfl
  | region id ops draw => intro k fr s; exact evRegion_map f P ext cf _ draw _ fr s
  | seq a b iha ihb =>
    intro k fr s
    unfold evC
    rw [← iha]
    congr 1
    funext e fr s
    cases e with
    | norm => exact ihb k fr s
    | ret => rfl
    | exit i => rfl
  | cond c t e iht ihe =>
    intro k fr s
    unfold evC
    cases eo fr c <;> first | rfl | skip
    rw [map_cond,iht,ihe]
  | block id body ih =>
    intro k fr s
    unfold evC
    rw [← ih]
    congr 1
    funext e fr s
    cases e with
    | norm => rfl
    | ret => rfl
    | exit i =>
      show (if i = id then _ else _) = Option.map f (if i = id then _ else _)
      split <;> rfl
  | loop body ih =>
    intro k fr s
    unfold evC
    cases lf (lid body) with
    | none => exact loopC_map f ih k K fr s
    | some p => exact loopCall_map f p.1 p.2 k fr s
  | exit id => intro k fr s; rfl
  | ret => intro k fr s; rfl
  | _ => intros; first | rfl | (unfold evC; rfl)
theorem evRes_map (P : Program) (fr : List Value) (s : St) (g : Value × St → Value × St) : ∀ (l : List ResultVar) (k : List Value → Res),evRes P fr s l (fun vs => (k vs).map g) = (evRes P fr s l k).map g
  | [],_ => rfl
  | .tmp t :: l,k => by
    unfold evRes
    exact evRes_map P fr s g l _
  | .cell a t :: l,k => by
    unfold evRes
    rw [← alts_map]
    congr 1
    funext v
    exact evRes_map P fr s g l _
end
def widR (W : List Nat) (x : Value × St) : Value × St := (x.1,{ x.2 with wr := unW W x.2.wr })
def evFnW (P : Program) (ext : FuncId → Option Ext) (cf : CallF) (lf : LoopT) (K : Nat) (W : List Nat) (fn : Func) (args : List Value) (s : St) : Res :=
  match fn.body with
  | some c =>
    if fn.name == "runtime.NumGoroutine" then none else
    evC P ext cf lf K c (fun e fr s' => match e with | .norm | .ret => evRes P fr s' fn.results.toList (fun vs => (tidy (resOf s' vs)).map (widR W)) | _ => none)
      (args ++ List.replicate (fn.ntmps - args.length) undef) s
  | none => none
theorem evFnW_eq (P : Program) (ext : FuncId → Option Ext) (cf : CallF) (lf : LoopT) (K : Nat) (W : List Nat) (fn : Func) (args : List Value) (s : St) : evFnW P ext cf lf K W fn args s = (evFn P ext cf lf K fn args s).map (widR W) := by
  unfold evFnW evFn
  cases fn.body with
  | none => rfl
  | some c =>
    simp only
    split
    · rfl
    · rw [← evC_map]
      congr 1
      funext e fr s'
      cases e with
      | norm => exact evRes_map P fr s' _ _ _
      | ret => exact evRes_map P fr s' _ _ _
      | exit i => rfl
theorem CallsOK.widen {P : Program} {f : FuncId} {args : List Value} {s s' : St} {r : Value} (W : List Nat) (h : CallsOK P f args s r s') : CallsOK P f args s r { s' with wr := unW W s'.wr } := by
  refine ⟨h.1,fun B ι D w args' h1 h2 h3 => (h.2 B ι D w args' h1 h2 h3).mono fun e w' ⟨v',he,ι',hp⟩ => ⟨v',he,ι',⟨hp.toRunI.widen W,hp.val⟩⟩⟩
theorem call_okW {P : Program} {ext : FuncId → Option Ext} (hext : ExtOk P ext) (hm : P.follows .mixedOrders = true) {cf : CallF} (hcf : CfOk P cf) {lf : LoopT} {N : Nat} {f : FuncId} {fn : Func} (hf : P.funcs[f]? = some fn) {W : List Nat} {args : List Value} {s : St} {l : List Blk} {n : Nat} {L : List (Bool × Value × St)} {r' : Value} {s' : St} (h1 : s.lo = s.h.length) (h2 : s.wr = []) (h : s.h = l) (hl : ∀ c,fn.body = some c → LfOk P lf (loopsOf c)) (he : evFnW P ext cf lf N W fn args ⟨l,n,[]⟩ = firstT L) (hn : n = l.length) (h3 : firstT L = some (r',s')) : CallsOK P f args s r' s' := by
  obtain rfl := st_of h1 h2 h
  subst hn
  rw [h3,evFnW_eq] at he
  cases e : evFn P ext cf lf N fn args ⟨l,l.length,[]⟩ with
  | none => rw [e] at he; cases he
  | some x =>
    rw [e] at he
    obtain ⟨r0,s0⟩ := x
    have he' : widR W (r0,s0) = (r',s') := Option.some.inj he
    unfold widR at he'
    simp only at he'
    cases he'
    exact (fn_sound hcf hext hm hf h1 h2 hl e).widen W
end Go.Ab
