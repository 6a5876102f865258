/- How a summary enters the table. -/
import Derived.Test.YtbmagccjcccnaaaGreatDoorA17
namespace Go.Ab
theorem st_of {s : St} {l : List Blk} (h1 : s.lo = s.h.length) (h2 : s.wr = []) (h : s.h = l) : s = ⟨l, l.length, []⟩ := by
  obtain ⟨h', lo, t⟩ := s
  simp only at h h1 h2
  subst h h2 h1
  rfl
theorem call_ok {P : Program} {ext : FuncId → Option Ext} (hext : ExtOk P ext) (hm : P.follows .mixedOrders = true) {cf : CallF} (hcf : CfOk P cf) {lf : LoopT} {N : Nat} {f : FuncId} {fn : Func} (hf : P.funcs[f]? = some fn) {args : List Value} {s : St} {l : List Blk} {n : Nat} {L : List (Bool × Value × St)} {r' : Value} {s' : St} (h1 : s.lo = s.h.length) (h2 : s.wr = []) (h : s.h = l) (hl : ∀ c, fn.body = some c → LfOk P lf (loopsOf c)) (he : evFn P ext cf lf N fn args ⟨l, n, []⟩ = firstT L) (hn : n = l.length) (h3 : firstT L = some (r', s')) : CallsOK P f args s r' s' := by
  obtain rfl := st_of h1 h2 h
  subst hn
  rw [h3] at he
  exact fn_sound hcf hext hm hf h1 h2 hl he
/-- .. with a condition -/
theorem call_okc {P : Program} {ext : FuncId → Option Ext} (hext : ExtOk P ext) (hm : P.follows .mixedOrders = true) {cf : CallF} (hcf : CfOk P cf) {lf : LoopT} {N : Nat} {f : FuncId} {fn : Func} (hf : P.funcs[f]? = some fn) {args : List Value} {s : St} {l : List Blk} {n : Nat} {t : Res} {L : List (Bool × Value × St)} {r' : Value} {s' : St} (h1 : s.lo = s.h.length) (h2 : s.wr = []) (h : s.h = l) (hl : ∀ c, fn.body = some c → LfOk P lf (loopsOf c)) (he : evFn P ext cf lf N fn args ⟨l, n, []⟩ = t) (hn : n = l.length) (ht : ∀ x, firstT L = some x → t = some x) (h3 : firstT L = some (r', s')) : CallsOK P f args s r' s' := by
  obtain rfl := st_of h1 h2 h
  subst hn
  rw [ht _ h3] at he
  exact fn_sound hcf hext hm hf h1 h2 hl he
theorem firstT_append {α : Type} : ∀ (l m : List (Bool × α)), firstT (l ++ m) = match firstT l with | some x => some x | none => firstT m
  | [], m => rfl
  | (true, x) :: l, m => rfl
  | (false, x) :: l, m => firstT_append l m
theorem firstT_and {α : Type} (c : Bool) : ∀ l : List (Bool × α), firstT (l.map fun (b, a) => (c && b, a)) = cond c (firstT l) none
  | [] => by cases c <;> rfl
  | (b, x) :: l => by
    have ih := firstT_and c l
    cases c <;> cases b <;> first | exact ih | rfl
theorem tre_list {α : Type} : ∀ t : Tre α, firstT t.list = t.res
  | .none => rfl
  | .one a => rfl
  | .node c l r => by
    unfold Tre.list Tre.res
    rw [firstT_append, firstT_and, firstT_and, tre_list l, tre_list r]
    cases c
    · rfl
    · simp only [cond_true, Bool.not_true, cond_false]
      cases l.res <;> rfl
end Go.Ab
