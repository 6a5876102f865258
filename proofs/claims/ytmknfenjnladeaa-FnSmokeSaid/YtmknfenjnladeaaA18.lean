/- How a summary enters the table. -/
import Derived.Test.YtmknfenjnladeaaA17
namespace Go.Ab
theorem st_of {s : St} {l : List Blk} (h1 : s.lo = s.h.length) (h2 : s.wr = []) (h : s.h = l) : s = ⟨l,l.length,[]⟩ := by
  obtain ⟨h',lo,t⟩ := s
  simp only at h h1 h2
  subst h h2 h1
  rfl
theorem call_ok {P : Program} {ext : FuncId → Option Ext} (hext : ExtOk P ext) (hm : P.follows .mixedOrders = true) {cf : CallF} (hcf : CfOk P cf) {lf : LoopT} {N : Nat} {f : FuncId} {fn : Func} (hf : P.funcs[f]? = some fn) {args : List Value} {s : St} {l : List Blk} {n : Nat} {L : List (Bool × Value × St)} {r' : Value} {s' : St} (h1 : s.lo = s.h.length) (h2 : s.wr = []) (h : s.h = l) (hl : ∀ c,fn.body = some c → LfOk P lf (loopsOf c)) (he : evFn P ext cf lf N fn args ⟨l,n,[]⟩ = firstT L) (hn : n = l.length) (h3 : firstT L = some (r',s')) : CallsOK P f args s r' s' := by
  obtain rfl := st_of h1 h2 h
  subst hn
  rw [h3] at he
  exact fn_sound hcf hext hm hf h1 h2 hl he
end Go.Ab
