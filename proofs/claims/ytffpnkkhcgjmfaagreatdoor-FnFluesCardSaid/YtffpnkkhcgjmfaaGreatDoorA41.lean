/- What a card's list of variables tells. -/
import Derived.Test.YtffpnkkhcgjmfaaGreatDoorA39
import Derived.MakeChecks
import Derived.Stop.LaidErr
import Derived.Lib.LaidTab
namespace Go.Ab
open Go.ChangeShapes

def varIface (P : Program) (nm : String) : Bool :=
  match (P.globalNamed nm).bind fun g => ((P.globals[g]?).map (·.type)).bind P.underlying with
  | some (.interface _) => true
  | _ => false
def tabTy (P : Program) (t : TypeId) : Bool :=
  match P.underlying t with
  | some (.array n e) => (match P.underlying e with
    | some (.int .u64) => Nat.beq (P.cellsOf e) 1 && Nat.beq (P.cellsOf t) n
    | _ => false)
  | _ => false
def varTab (P : Program) (nm : String) : Bool :=
  match (P.globalNamed nm).bind fun g => (P.globals[g]?).map (·.type) with
  | some t => tabTy P t
  | none => false
theorem laid_at {P : Program} {W : World} : ∀ {laid : List (String × DataW Unit)} {i : Nat} {x : String × DataW Unit}, laidMet P laid W → laid[i]? = some x → ∃ r, laidMet P (x :: r) W
  | [], _, _, _, e => by simp at e
  | y :: l, 0, x, h, e => by
    simp only [List.getElem?_cons_zero, Option.some.injEq] at e
    subst e
    exact ⟨l, h⟩
  | y :: l, i + 1, x, h, e => laid_at (laidMet.tail h) (by simpa using e)
theorem laid_iface {P : Program} {W : World} {laid : List (String × DataW Unit)} {i : Nat} {nm nm' : String} {d : DataW Unit} (h : laidMet P laid W) (hi : laid[i]? = some (nm, .iface nm' d)) (hv : varIface P nm = true) : ∃ te pe, W.var? P nm = some #[.iface te pe] := by
  obtain ⟨r, h⟩ := laid_at h hi
  obtain ⟨ps, ⟨g, t, cs, fuel, p, q, hg, ht, hvar, hd, _, _⟩, _⟩ := h
  unfold varIface at hv
  rw [hg, Option.bind_some, ht, Option.bind_some] at hv
  split at hv
  · rename_i ms hu
    obtain ⟨_, u, v, e, _⟩ := iface_of_trod hu hd
    refine ⟨u, v, ?_⟩
    rw [hvar]
    obtain ⟨l⟩ := cs
    simp only at e
    rw [e]
  · cases hv
theorem laid_tab {P : Program} {W : World} {laid : List (String × DataW Unit)} {i : Nat} {nm : String} {zs : List Int} (h : laidMet P laid W) (hi : laid[i]? = some (nm, Lib.tabData .u64 zs)) (hv : varTab P nm = true) : W.var? P nm = some (zs.map fun z => Value.int .u64 z).toArray := by
  obtain ⟨r, h⟩ := laid_at h hi
  have h0 := h
  obtain ⟨ps, ⟨g, t, cs, fuel, p, q, hg, ht, hvar, hd, _, _⟩, _⟩ := h
  unfold varTab at hv
  rw [hg, Option.bind_some, ht] at hv
  simp only [tabTy] at hv
  split at hv
  · rename_i n e hu
    split at hv
    · rename_i he
      rw [Bool.and_eq_true] at hv
      exact Lib.tabIs_of_head hg ht hu he (Nat.eq_of_beq_eq_true hv.1) (Nat.eq_of_beq_eq_true hv.2) h0
    · cases hv
  · cases hv
theorem gg_of {P : Program} {W : World} {laid : List (String × DataW Unit)} (h : laidMetH P laid W) (hp : (laid.all fun x => x.2.handleName?.isNone) = true) (i j k : Nat)
    (hi : laid[i]? = some (nmPow, Lib.tabData .u64 Lib.pow10Tab)) (hj : ∃ n d, laid[j]? = some (nmSyn, .iface n d)) (hk : ∃ n d, laid[k]? = some (nmRan, .iface n d))
    (v1 : varTab P nmPow = true) (v2 : varIface P nmSyn = true) (v3 : varIface P nmRan = true) : GG P W := by
  rw [MakeChecks.laidMetH_plain _ _ _ hp] at h
  obtain ⟨n1, d1, hj⟩ := hj
  obtain ⟨n2, d2, hk⟩ := hk
  exact ⟨.inr (laid_tab h hi v1), .inr (laid_iface h hj v2), .inr (laid_iface h hk v3)⟩
end Go.Ab
