/- FnExactMulSpans returns true for every input, and each argument reads afterwards as it read before. -/
import Derived.Test.YtpeehlgiddbfpaaP13
import Derived.Test.YtpeehlgiddbfpaaRows
import Derived.WalkKit
import Derived.ProofKit
import Derived.OpenShut
import Derived.ShutString
import Derived.ChangeOld
import Derived.Below
namespace Go.Proofs.Ytpeehlgiddbfpaa
open Go.Ab Go.ChangeShapes Go.WideShapes Go.ChangeAt Go.RowKit
set_option linter.unusedVariables false
namespace fnExactMulSpansDone
theorem own : ownKnob Try.prog.godebug = none := by kernel_rfl
theorem laidOut : laidOutB Try.prog = true := by kernel_rfl
set_option maxRecDepth 100000 in
theorem lifted (os : Os) (started : os.Started) (H : Type) (enc : TypeId × Value → H) :
    ReturnsInHanded {} Try.checked os 13 .any (Rows.fnExactMulSpansSpec.pre6 enc Try.prog Try.f13 Rows.fnExactMulSpansRow.domain false) (Rows.fnExactMulSpansSpec.post enc Try.prog Try.f13 false true false false) := by
  refine returnsInHanded_of_change (C := Try.checked) own started (by kernel_rfl) Try.func13
    (ChangeSpec.witness6 (enc := enc) (C := Try.checked) false ⟨#[], #[.agg #[.float .f32 0, .float .f32 0], .agg #[.float .f32 0, .float .f32 0]], []⟩ 8 (by kernel_rfl) (by kernel_rfl) (by kernel_rfl) (by kernel_rfl)) ?_
  intro W base args ds gs before hval0 hW hcnd _
  have hval : ∀ (j : Nat) t v, Try.f13.params[j]? = some t → args[j]? = some v → Value.okWide Try.prog W .any base t v := hval0
  have hW' := hW
  obtain ⟨p, q, hA0, hV, rfl, hfz, hnd⟩ := hW
  have hA : DataW.TrodAll enc Try.prog W 0 (fun _ => true) true Try.f13.params.toList args.toList ds p := hA0
  rw [Try.params13] at hA hval
  obtain ⟨v0, vs0, d0, ds0, p0, q0, hargs, rfl, rfl, h0, r0⟩ := trodAll_cons hA
  obtain ⟨v1, vs1, d1, ds1, p1, q1, rfl, rfl, rfl, h1, r1⟩ := trodAll_cons r0
  obtain ⟨rfl, rfl, rfl⟩ := trodAll_nil r1
  obtain rfl : args = #[v0, v1] := by cases args; simp_all
  obtain ⟨rfl, rfl⟩ := trodVars_none hV
  have k0 := h0
  have lt0 : ∀ x ∈ p0, x.block < W.heap.size := by obtain ⟨m, hm⟩ := k0; exact DataW.trod_lt m _ _ _ hm
  have k1 := h1
  have lt1 : ∀ x ∈ p1, x.block < W.heap.size := by obtain ⟨m, hm⟩ := k1; exact DataW.trod_lt m _ _ _ hm
  obtain ⟨a0, b0, rfl, wa0, wb0⟩ := open_two (P := Try.prog) (t := 24) (u := 22) (k := .f32) Try.underlying24 (by kernel_rfl) (by kernel_rfl) Try.underlying22 (hval 0 24 v0 rfl rfl)
  obtain ⟨a1, b1, rfl, wa1, wb1⟩ := open_two (P := Try.prog) (t := 24) (u := 22) (k := .f32) Try.underlying24 (by kernel_rfl) (by kernel_rfl) Try.underlying22 (hval 1 24 v1 rfl rfl)
  clear hA0 hval0
  have hplain : r13 a0 b0 a1 b1 = true := plain13 a0 b0 a1 b1 wa0 wb0 wa1 wb1
  have hw := ok75 13 [.agg #[.float .f32 a0, .float .f32 b0], .agg #[.float .f32 a1, .float .f32 b1]] st0 (.bool true) st0 rfl rfl (by rw [show T75 13 [.agg #[.float .f32 a0, .float .f32 b0], .agg #[.float .f32 a1, .float .f32 b1]] st0 = some (.bool (r13 a0 b0 a1 b1), st0) from rfl, hplain])
  refine (law_plain (args' := #[_, _]) hw ⟨vrel_two _ _ _, vrel_two _ _ _, trivial⟩ W).mono fun e W' ⟨he, bel⟩ => ?_
  subst he
  exact ⟨_, rfl, _, _, _, [], _, [], hW', trodAll_mk1 (shut_bool Try.underlying4 _), (trodAll_cons_mk (Below.trod laidOut (by kernel_rfl) (of_decide_eq_true (by kernel_rfl)) k0 bel lt0) (trodAll_cons_mk (Below.trod laidOut (by kernel_rfl) (of_decide_eq_true (by kernel_rfl)) k1 bel lt1) trodAll_mk0)), rfl, bel.frame _, fun h => by cases h⟩
theorem over : Rows.fnExactMulSpansRow.holds Try.pinned (OpenSpec.ofChange Rows.fnExactMulSpansSpec) :=
  OpenClaim.holds_of_wide 13 Try.f13 rfl rfl rfl rfl rfl rfl rfl ⟨rfl, rfl, rfl, rfl, rfl⟩ rfl rfl rfl rfl rfl (by kernel_rfl) Try.func13 (by kernel_rfl)
    (of_decide_eq_true (by kernel_rfl)) (by unfold Func.isWrapper; first | (rw [if_pos (by decide +kernel)]; kernel_rfl) | (rw [if_neg (by decide +kernel)]; exact ⟨rfl, rfl⟩))
    (fun os started H enc _ => lifted os started H enc)
end fnExactMulSpansDone
/-- THE STATEMENT -/
theorem fnExactMulSpansProved : Rows.FnExactMulSpansSaid := fnExactMulSpansDone.over
#print axioms fnExactMulSpansProved
end Go.Proofs.Ytpeehlgiddbfpaa
