/- Tables of functions; a law of plain values. -/
import Derived.Test.YtpmpeakamcfdcaaA16
namespace Go.Ab
open Go.RowKit (Below)

theorem cfOk_no (P : Program) : CfOk P noF := fun _ _ _ _ _ _ _ h => by cases h

theorem cfOk_add {P : Program} {cf : CallF} (h : CfOk P cf) {g : FuncId} {spec : List Value → St → Res}
    (hs : ∀ args s r s', s.lo = s.h.length → s.touched = false → spec args s = some (r, s') → CallsOK P g args s r s') : CfOk P (addF cf g spec) := by
  intro g' args s r s' h1 h2 h3
  unfold addF at h3
  cases hb : Nat.beq g' g with
  | true =>
    rw [hb] at h3
    have e := beq_true hb
    subst e
    exact hs args s r s' h1 h2 h3
  | false =>
    rw [hb] at h3
    exact h g' args s r s' h1 h2 h3

/-- the tree of a walk, told as one answer -/
theorem cond_app {α β : Type} (f : α → β) (c : Bool) {x y : β} {a b : α} (hx : x = f a) (hy : y = f b) : cond c x y = f (cond c a b) := by
  subst hx hy
  cases c <;> rfl

def st0 : St := ⟨[], 0, false⟩
theorem st_nil {s : St} (h1 : s.lo = s.h.length) (h2 : s.touched = false) (h : s.h = []) : s = st0 := by
  obtain ⟨h', lo, t⟩ := s
  simp only at h h1 h2
  subst h h2
  simp at h1
  subst h1
  rfl

/-- A LAW THAT TAKES PLAIN VALUES: what the evaluator says of it is what the row asks. -/
theorem law_plain {P : Program} {f : FuncId} {args : List Value} {args' : Array Value} {s' : St} (h : CallsOK P f args st0 (.bool true) s') (ha : L2 (VRel (fun _ => ⟨0, 0, 0, 0⟩) (fun _ => False)) args args'.toList) (W : World) :
    Calls P f args' W (fun e w' => e = .returned (.bool true) ∧ Below W.heap.size W w') := by
  have H : WRel W.heap.size (fun _ => ⟨0, 0, 0, 0⟩) (fun _ => False) st0.h W :=
    ⟨fun _ _ _ h => h.elim, fun _ _ h => h.elim, fun _ _ h => h.elim, fun _ _ _ _ h => h.elim, Nat.le_refl _⟩
  refine (h.2 W.heap.size _ _ W args' (fun _ h => h.elim) H ha).mono ?_
  rintro e w' ⟨v', rfl, ι', I⟩
  obtain rfl : v' = .bool true := I.val
  refine ⟨rfl, I.frm.none ?_⟩
  rintro b ⟨k, c, h1, _⟩
  exact h1.elim
end Go.Ab
