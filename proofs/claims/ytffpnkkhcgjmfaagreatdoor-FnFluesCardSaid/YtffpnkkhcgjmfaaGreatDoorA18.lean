/- How a summary enters the table. -/
import Derived.Test.YtffpnkkhcgjmfaaGreatDoorA17
import GoSem.ClaimWide
import Derived.WideShapes
namespace Go.Ab
theorem st_of {s : St} {l : List Blk} (h1 : s.lo = s.h.length) (h2 : s.wr = []) (h : s.h = l) : s = ⟨l, l.length, []⟩ := by
  obtain ⟨h', lo, t⟩ := s
  simp only at h h1 h2
  subst h h2 h1
  rfl
theorem call_ok {P : Program} {ext : FuncId → Option Ext} (hext : ExtOk P ext) (hm : P.follows .mixedOrders = true) {cf : CallF} (hcf : CfOk P cf) {lf : LoopT} {N : Nat} {f : FuncId} {fn : Func} (hf : P.funcs[f]? = some fn) {args : List Value} {s : St} {l : List Blk} {n : Nat} {L : List (Bool × Value × St)} {r' : Value} {s' : St} (h1 : s.lo = s.h.length) (h2 : s.wr = []) (h : s.h = l) (hl : ∀ c, fn.body = some c → LfOk P lf (loopsOf c)) (he : evFn P ext cf lf N fn args ⟨l, n, []⟩ = firstT L) (hn : n = l.length) (h3 : firstT L = some (r', s')) : CallsOK P f args s r' s' := by
  obtain rfl := st_of h1 h2 h
  subst hn
  rw [h3] at he
  exact fn_sound hcf hext hm hf h1 h2 hl he
/-- .. with a condition -/
theorem call_okc {P : Program} {ext : FuncId → Option Ext} (hext : ExtOk P ext) (hm : P.follows .mixedOrders = true) {cf : CallF} (hcf : CfOk P cf) {lf : LoopT} {N : Nat} {f : FuncId} {fn : Func} (hf : P.funcs[f]? = some fn) {args : List Value} {s : St} {l : List Blk} {n : Nat} {t : Res} {L : List (Bool × Value × St)} {r' : Value} {s' : St} (h1 : s.lo = s.h.length) (h2 : s.wr = []) (h : s.h = l) (hl : ∀ c, fn.body = some c → LfOk P lf (loopsOf c)) (he : evFn P ext cf lf N fn args ⟨l, n, []⟩ = t) (hn : n = l.length) (ht : ∀ x, firstT L = some x → t = some x) (h3 : firstT L = some (r', s')) : CallsOK P f args s r' s' := by
  obtain rfl := st_of h1 h2 h
  subst hn
  rw [ht _ h3] at he
  exact fn_sound hcf hext hm hf h1 h2 hl he
theorem firstT_append {α : Type} : ∀ (l m : List (Bool × α)), firstT (l ++ m) = match firstT l with | some x => some x | none => firstT m
  | [], m => rfl
  | (true, x) :: l, m => rfl
  | (false, x) :: l, m => firstT_append l m
theorem firstT_and {α : Type} (c : Bool) : ∀ l : List (Bool × α), firstT (l.map fun (b, a) => (c && b, a)) = cond c (firstT l) none
  | [] => by cases c <;> rfl
  | (b, x) :: l => by
    have ih := firstT_and c l
    cases c <;> cases b <;> first | exact ih | rfl
theorem tre_list {α : Type} : ∀ t : Tre α, firstT t.list = t.res
  | .none => rfl
  | .one a => rfl
  | .node c l r => by
    unfold Tre.list Tre.res
    rw [firstT_append, firstT_and, firstT_and, tre_list l, tre_list r]
    cases c
    · rfl
    · simp only [cond_true, Bool.not_true, cond_false]
      cases l.res <;> rfl
end Go.Ab

namespace Go.Ab

/-! ### floats -/
theorem order_self (k : FloatKind) (a : Nat) : k.format.order a a = if isN k a then none else some .eq := by
  unfold Ieee.Format.order isN
  generalize k.format.read a = d
  cases d with
  | nan s f => rfl
  | infinity s => cases s <;> rfl
  | number s m i =>
    simp only [Ieee.Datum.order, Ieee.Datum.isNaN, Std.ReflCmp.compare_self]
    rfl
theorem feq_self (k : FloatKind) (a : Nat) : feq k a a = !isN k a := by
  unfold feq; rw [order_self]; cases isN k a <;> rfl
theorem flt_self (k : FloatKind) (a : Nat) : flt k a a = false := by
  unfold flt; rw [order_self]; cases isN k a <;> rfl
theorem fgt_self (k : FloatKind) (a : Nat) : fgt k a a = false := by
  unfold fgt; rw [order_self]; cases isN k a <;> rfl
theorem order_swap (d e : Ieee.Datum) : e.order d = (d.order e).map Ordering.swap := by
  cases d <;> cases e <;> simp only [Ieee.Datum.order, Option.map]
  · rename_i s m i t n j
    rw [show min j i = min i j from by omega]
    rw [Std.OrientedCmp.eq_swap (cmp := (compare : Int → Int → Ordering))]
  · rename_i s m i t; cases t <;> rfl
  · rename_i t s m i; cases t <;> rfl
  · rename_i s t; cases s <;> cases t <;> rfl
theorem fgt_eq (k : FloatKind) (a b : Nat) : fgt k a b = flt k b a := by
  unfold fgt flt Ieee.Format.order
  rw [order_swap]
  generalize (k.format.read b).order (k.format.read a) = o
  rcases o with _ | _ | _ | _ <;> rfl
theorem feq_comm (k : FloatKind) (a b : Nat) : feq k a b = feq k b a := by
  unfold feq Ieee.Format.order
  rw [order_swap]
  generalize (k.format.read b).order (k.format.read a) = o
  rcases o with _ | _ | _ | _ <;> rfl

theorem order_nanl {k : FloatKind} {a : Nat} (b : Nat) (h : isN k a = true) : k.format.order a b = none := by
  unfold Ieee.Format.order isN at *
  revert h
  cases k.format.read a <;> simp [Ieee.Datum.isNaN, Ieee.Datum.order]
theorem order_nanr {k : FloatKind} {a : Nat} (b : Nat) (h : isN k a = true) : k.format.order b a = none := by
  unfold Ieee.Format.order isN at *
  revert h
  cases k.format.read a <;> cases k.format.read b <;> simp [Ieee.Datum.isNaN, Ieee.Datum.order]
theorem flt_nanl {k : FloatKind} {a : Nat} (b : Nat) (h : isN k a = true) : flt k a b = false := by unfold flt; rw [order_nanl b h]; rfl
theorem flt_nanr {k : FloatKind} {a : Nat} (b : Nat) (h : isN k a = true) : flt k b a = false := by unfold flt; rw [order_nanr b h]; rfl
theorem fgt_nanl {k : FloatKind} {a : Nat} (b : Nat) (h : isN k a = true) : fgt k a b = false := by unfold fgt; rw [order_nanl b h]; rfl
theorem fgt_nanr {k : FloatKind} {a : Nat} (b : Nat) (h : isN k a = true) : fgt k b a = false := by unfold fgt; rw [order_nanr b h]; rfl
theorem feq_nanl {k : FloatKind} {a : Nat} (b : Nat) (h : isN k a = true) : feq k a b = false := by unfold feq; rw [order_nanl b h]; rfl
theorem feq_nanr {k : FloatKind} {a : Nat} (b : Nat) (h : isN k a = true) : feq k b a = false := by unfold feq; rw [order_nanr b h]; rfl

/-! ### values that came in -/
theorem cell_float {P : Program} {w : World} {r : Reach} {base : Nat} {t : TypeId} {k : FloatKind} {v : Value} (ht : P.underlying t = some (.float k)) (h : Cell.okWide P w r base t v) : ∃ b, v = .float k b ∧ k.has b := by
  unfold Cell.okWide at h
  rw [ht] at h
  cases v <;> simp [Cell.ok, ht] at h
  obtain ⟨rfl, h⟩ := h
  exact ⟨_, rfl, h⟩
theorem open_float1 {P : Program} {w : World} {r : Reach} {base : Nat} {t : TypeId} {k : FloatKind} {v : Value} (ht : P.underlying t = some (.float k)) (h : Value.okWide P w r base t v) : ∃ b, v = .float k b ∧ k.has b := by
  unfold Value.okWide at h
  rw [ht] at h
  exact cell_float ht h
/-- a struct of two floats -/
theorem open_two {P : Program} {w : World} {r : Reach} {base : Nat} {t u : TypeId} {k : FloatKind} {fs : Array Field} {v : Value} (ht : P.underlying t = some (.struct fs)) (hc : P.cellsOf t = 2) (hs : P.cellTypes P.depth t = some [u, u]) (hu : P.underlying u = some (.float k)) (h : Value.okWide P w r base t v) :
    ∃ a b, v = .agg #[.float k a, .float k b] ∧ k.has a ∧ k.has b := by
  unfold Value.okWide at h
  rw [ht] at h
  obtain ⟨cs, rfl, hn, ts, hts, _, hcs⟩ := h
  rw [hs] at hts; cases hts
  rw [hc] at hn
  obtain ⟨l⟩ := cs
  match l, hn with
  | [x, y], _ =>
    obtain ⟨u0, hu0, h0⟩ := hcs 0 x rfl
    obtain ⟨u1, hu1, h1⟩ := hcs 1 y rfl
    cases hu0; cases hu1
    obtain ⟨a, rfl, ha⟩ := cell_float hu h0
    obtain ⟨b, rfl, hb⟩ := cell_float hu h1
    exact ⟨a, b, rfl, ha, hb⟩

theorem vrel_float {ι : Nat → Info} {D : Nat → Prop} (k : FloatKind) (b : Nat) : VRel ι D (.float k b) (.float k b) := ⟨b, rfl, rfl⟩
theorem vrel_two {ι : Nat → Info} {D : Nat → Prop} (k : FloatKind) (a b : Nat) : VRel ι D (.agg #[.float k a, .float k b]) (.agg #[.float k a, .float k b]) :=
  ⟨_, rfl, ⟨a, rfl, rfl⟩, ⟨b, rfl, rfl⟩, trivial⟩
end Go.Ab
