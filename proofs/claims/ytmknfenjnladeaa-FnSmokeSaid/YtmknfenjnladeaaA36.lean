/- A long run of code, cut into parts. -/
import Derived.Test.YtmknfenjnladeaaA34
namespace Go.Ab
def preC : Code → Nat → Code
  | .seq a b,n + 1 => .seq a (preC b n)
  | _,_ => .skip
def postC : Code → Nat → Code
  | .seq _ b,n + 1 => postC b n
  | c,_ => c
def after {α : Type} (P : Program) (ext : FuncId → Option Ext) (cf : CallF) (lf : LoopT) (K : Nat) (R : Code) (k : Kont α) : Kont α := fun e fr s => match e with | .norm => evC P ext cf lf K R k fr s | e => k e fr s
theorem split_at {α : Type} (P : Program) (ext : FuncId → Option Ext) (cf : CallF) (lf : LoopT) (K : Nat) : ∀ (n : Nat) (c : Code) (k : Kont α) (fr : List Value) (s : St),evC P ext cf lf K c k fr s = evC P ext cf lf K (preC c n) (after P ext cf lf K (postC c n) k) fr s := by
  intro n
  induction n with
  | zero => intro c k fr s; cases c <;> rfl
  | succ n ih =>
    intro c k fr s
    cases c with
    | seq a b =>
      show evC P ext cf lf K a (fun e fr s => match e with | .norm => evC P ext cf lf K b k fr s | e => k e fr s) fr s = evC P ext cf lf K a (fun e fr s => match e with | .norm => evC P ext cf lf K (preC b n) (after P ext cf lf K (postC b n) k) fr s | e => after P ext cf lf K (postC b n) k e fr s) fr s
      congr 1
      funext e fr s
      cases e with
      | norm => exact ih b k fr s
      | ret => rfl
      | exit i => rfl
    | _ => rfl
def kFn (P : Program) (fn : Func) : Kont (Value × St) := fun e fr s' => match e with | .norm | .ret => evRes P fr s' fn.results.toList (fun vs => tidy (resOf s' vs)) | _ => none
theorem evFn_eq {P : Program} {ext : FuncId → Option Ext} {cf : CallF} {lf : LoopT} {K : Nat} {fn : Func} {c : Code} {args : List Value} {s : St} {fr : List Value} (hb : fn.body = some c) (hn : (fn.name == "runtime.NumGoroutine") = false) (hf : args ++ List.replicate (fn.ntmps - args.length) undef = fr) :
    evFn P ext cf lf K fn args s = evC P ext cf lf K c (kFn P fn) fr s := by
  unfold evFn
  rw [hb,← hf]
  simp only [hn]
  rfl
end Go.Ab
