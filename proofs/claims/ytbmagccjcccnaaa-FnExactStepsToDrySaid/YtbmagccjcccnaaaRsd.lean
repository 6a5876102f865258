/- FnExactStepsToDry returns true for every input, and each argument reads afterwards as it read before. -/
import Derived.Test.YtbmagccjcccnaaaPsd3
import Derived.Test.YtbmagccjcccnaaaRows
import Derived.WalkKit
import Derived.ProofKit
import Derived.OpenShut
import Derived.ShutString
import Derived.ChangeOld
import Derived.Below
namespace Go.Proofs.Ytbmagccjcccnaaa
open Go.Ab Go.ChangeShapes Go.WideShapes Go.ChangeAt Go.RowKit
set_option linter.unusedVariables false
namespace fnExactStepsToDryDone
theorem own : ownKnob Try.prog.godebug = none := by kernel_rfl
theorem laidOut : laidOutB Try.prog = true := by kernel_rfl
set_option maxRecDepth 100000 in
theorem lifted (os : Os) (started : os.Started) (H : Type) (enc : TypeId × Value → H) :
    ReturnsInHanded {} Try.checked os 8 .any (Rows.fnExactStepsToDrySpec.pre6 enc Try.prog Try.f8 Rows.fnExactStepsToDryRow.domain false) (Rows.fnExactStepsToDrySpec.post enc Try.prog Try.f8 false true false false) := by
  refine returnsInHanded_of_change (C := Try.checked) own started (by kernel_rfl) Try.func8
    (ChangeSpec.witness6 (enc := enc) (C := Try.checked) false ⟨#[], #[.agg #[.float .f32 0, .float .f32 0, .float .f32 0, .float .f32 0, .float .f32 0, .float .f32 0, .float .f32 0, .float .f32 0, .float .f32 0, .float .f32 0, .float .f32 0, .float .f32 0, .float .f32 0, .float .f32 0, .float .f32 0, .float .f32 0, .float .f32 0, .float .f32 0], .float .f32 0, .float .f32 0, .int .i64 0], []⟩ 8 (by kernel_rfl) (by kernel_rfl) (by kernel_rfl) (by kernel_rfl)) ?_
  intro W base args ds gs before hval0 hW hcnd _
  have hval : ∀ (j : Nat) t v, Try.f8.params[j]? = some t → args[j]? = some v → Value.okWide Try.prog W .any base t v := hval0
  have hW' := hW
  obtain ⟨p, q, hA0, hV, rfl, hfz, hnd⟩ := hW
  have hA : DataW.TrodAll enc Try.prog W 0 (fun _ => true) true Try.f8.params.toList args.toList ds p := hA0
  rw [Try.params8] at hA hval
  obtain ⟨v0, vs0, d0, ds0, p0, q0, hargs, rfl, rfl, h0, r0⟩ := trodAll_cons hA
  obtain ⟨v1, vs1, d1, ds1, p1, q1, rfl, rfl, rfl, h1, r1⟩ := trodAll_cons r0
  obtain ⟨v2, vs2, d2, ds2, p2, q2, rfl, rfl, rfl, h2, r2⟩ := trodAll_cons r1
  obtain ⟨v3, vs3, d3, ds3, p3, q3, rfl, rfl, rfl, h3, r3⟩ := trodAll_cons r2
  obtain ⟨rfl, rfl, rfl⟩ := trodAll_nil r3
  obtain rfl : args = #[v0, v1, v2, v3] := by cases args; simp_all
  obtain ⟨rfl, rfl⟩ := trodVars_none hV
  have k0 := h0
  have lt0 : ∀ x ∈ p0, x.block < W.heap.size := by obtain ⟨m, hm⟩ := k0; exact DataW.trod_lt m _ _ _ hm
  have k1 := h1
  have lt1 : ∀ x ∈ p1, x.block < W.heap.size := by obtain ⟨m, hm⟩ := k1; exact DataW.trod_lt m _ _ _ hm
  have k2 := h2
  have lt2 : ∀ x ∈ p2, x.block < W.heap.size := by obtain ⟨m, hm⟩ := k2; exact DataW.trod_lt m _ _ _ hm
  have k3 := h3
  have lt3 : ∀ x ∈ p3, x.block < W.heap.size := by obtain ⟨m, hm⟩ := k3; exact DataW.trod_lt m _ _ _ hm
  obtain ⟨l0, hl0, rfl, hb0⟩ := open_floats (P := Try.prog) (t := 25) (u := 22) (k := .f32) (n := 18) (by kernel_rfl) (by kernel_rfl) (by kernel_rfl) Try.underlying22 (hval 0 25 v0 rfl rfl)
  obtain ⟨a0_0, m0_0, rfl, hm0_0⟩ := cons_of hl0
  obtain ⟨a0_1, m0_1, rfl, hm0_1⟩ := cons_of hm0_0
  obtain ⟨a0_2, m0_2, rfl, hm0_2⟩ := cons_of hm0_1
  obtain ⟨a0_3, m0_3, rfl, hm0_3⟩ := cons_of hm0_2
  obtain ⟨a0_4, m0_4, rfl, hm0_4⟩ := cons_of hm0_3
  obtain ⟨a0_5, m0_5, rfl, hm0_5⟩ := cons_of hm0_4
  obtain ⟨a0_6, m0_6, rfl, hm0_6⟩ := cons_of hm0_5
  obtain ⟨a0_7, m0_7, rfl, hm0_7⟩ := cons_of hm0_6
  obtain ⟨a0_8, m0_8, rfl, hm0_8⟩ := cons_of hm0_7
  obtain ⟨a0_9, m0_9, rfl, hm0_9⟩ := cons_of hm0_8
  obtain ⟨a0_10, m0_10, rfl, hm0_10⟩ := cons_of hm0_9
  obtain ⟨a0_11, m0_11, rfl, hm0_11⟩ := cons_of hm0_10
  obtain ⟨a0_12, m0_12, rfl, hm0_12⟩ := cons_of hm0_11
  obtain ⟨a0_13, m0_13, rfl, hm0_13⟩ := cons_of hm0_12
  obtain ⟨a0_14, m0_14, rfl, hm0_14⟩ := cons_of hm0_13
  obtain ⟨a0_15, m0_15, rfl, hm0_15⟩ := cons_of hm0_14
  obtain ⟨a0_16, m0_16, rfl, hm0_16⟩ := cons_of hm0_15
  obtain ⟨a0_17, m0_17, rfl, hm0_17⟩ := cons_of hm0_16
  obtain rfl := nil_of hm0_17
  obtain ⟨a1, rfl, wa1⟩ := open_float1 (P := Try.prog) (t := 22) (k := .f32) Try.underlying22 (hval 1 22 v1 rfl rfl)
  obtain ⟨a2, rfl, wa2⟩ := open_float1 (P := Try.prog) (t := 22) (k := .f32) Try.underlying22 (hval 2 22 v2 rfl rfl)
  obtain ⟨a3, rfl⟩ := okWide_int Try.underlying2 (hval 3 2 v3 rfl rfl)
  obtain ⟨fu3, hf3⟩ := h3
  obtain ⟨_, he3, wa3⟩ := open_int (k := .i64) (v := .int .i64 a3) Try.underlying2 hf3
  cases he3
  clear hA0 hval0
  have hplain : r8 a0_0 a0_1 a0_2 a0_3 a0_4 a0_5 a0_6 a0_7 a0_8 a0_9 a0_10 a0_11 a0_12 a0_13 a0_14 a0_15 a0_16 a0_17 a1 a2 a3 = (0, true) := plain8 a0_0 a0_1 a0_2 a0_3 a0_4 a0_5 a0_6 a0_7 a0_8 a0_9 a0_10 a0_11 a0_12 a0_13 a0_14 a0_15 a0_16 a0_17 a1 a2 a3 (hb0 a0_0 (by simp)) (hb0 a0_1 (by simp)) (hb0 a0_2 (by simp)) (hb0 a0_3 (by simp)) (hb0 a0_4 (by simp)) (hb0 a0_5 (by simp)) (hb0 a0_6 (by simp)) (hb0 a0_7 (by simp)) (hb0 a0_8 (by simp)) (hb0 a0_9 (by simp)) (hb0 a0_10 (by simp)) (hb0 a0_11 (by simp)) (hb0 a0_12 (by simp)) (hb0 a0_13 (by simp)) (hb0 a0_14 (by simp)) (hb0 a0_15 (by simp)) (hb0 a0_16 (by simp)) (hb0 a0_17 (by simp)) wa1 wa2 wa3
  have hw := ok43 8 [.agg #[.float .f32 a0_0, .float .f32 a0_1, .float .f32 a0_2, .float .f32 a0_3, .float .f32 a0_4, .float .f32 a0_5, .float .f32 a0_6, .float .f32 a0_7, .float .f32 a0_8, .float .f32 a0_9, .float .f32 a0_10, .float .f32 a0_11, .float .f32 a0_12, .float .f32 a0_13, .float .f32 a0_14, .float .f32 a0_15, .float .f32 a0_16, .float .f32 a0_17], .float .f32 a1, .float .f32 a2, .int .i64 a3] st0 (.bool true) st0 rfl rfl (by rw [show firstT (T43 8 [.agg #[.float .f32 a0_0, .float .f32 a0_1, .float .f32 a0_2, .float .f32 a0_3, .float .f32 a0_4, .float .f32 a0_5, .float .f32 a0_6, .float .f32 a0_7, .float .f32 a0_8, .float .f32 a0_9, .float .f32 a0_10, .float .f32 a0_11, .float .f32 a0_12, .float .f32 a0_13, .float .f32 a0_14, .float .f32 a0_15, .float .f32 a0_16, .float .f32 a0_17], .float .f32 a1, .float .f32 a2, .int .i64 a3] st0) = firstT [((Nat.beq ((r8 a0_0 a0_1 a0_2 a0_3 a0_4 a0_5 a0_6 a0_7 a0_8 a0_9 a0_10 a0_11 a0_12 a0_13 a0_14 a0_15 a0_16 a0_17 a1 a2 a3).1) 0), .bool ((r8 a0_0 a0_1 a0_2 a0_3 a0_4 a0_5 a0_6 a0_7 a0_8 a0_9 a0_10 a0_11 a0_12 a0_13 a0_14 a0_15 a0_16 a0_17 a1 a2 a3).2), st0)] from rfl, hplain]; rfl)
  refine (law_plain (args' := #[_, _, _, _]) hw (L2.mk (vrel_floats .f32 [a0_0, a0_1, a0_2, a0_3, a0_4, a0_5, a0_6, a0_7, a0_8, a0_9, a0_10, a0_11, a0_12, a0_13, a0_14, a0_15, a0_16, a0_17]) (L2.mk (vrel_c (crel_fl _ _)) (L2.mk (vrel_c (crel_fl _ _)) (L2.mk (vrel_c (crel_int _ _)) L2.nil)))) W).mono fun e W' ⟨he, bel⟩ => ?_
  subst he
  exact ⟨_, rfl, _, _, _, [], _, [], hW', trodAll_mk1 (shut_bool Try.underlying4 _), (trodAll_cons_mk (Below.trod laidOut (by kernel_rfl) (of_decide_eq_true (by kernel_rfl)) k0 bel lt0) (trodAll_cons_mk (Below.trod laidOut (by kernel_rfl) (of_decide_eq_true (by kernel_rfl)) k1 bel lt1) (trodAll_cons_mk (Below.trod laidOut (by kernel_rfl) (of_decide_eq_true (by kernel_rfl)) k2 bel lt2) (trodAll_cons_mk (Below.trod laidOut (by kernel_rfl) (of_decide_eq_true (by kernel_rfl)) k3 bel lt3) trodAll_mk0)))), rfl, bel.frame _, fun h => by cases h⟩
theorem over : Rows.fnExactStepsToDryRow.holds Try.pinned (OpenSpec.ofChange Rows.fnExactStepsToDrySpec) :=
  OpenClaim.holds_of_wide 8 Try.f8 rfl rfl rfl rfl rfl rfl rfl ⟨rfl, rfl, rfl, rfl, rfl⟩ rfl rfl rfl rfl rfl (by kernel_rfl) Try.func8 (by kernel_rfl)
    (of_decide_eq_true (by kernel_rfl)) (by unfold Func.isWrapper; first | (rw [if_pos (by decide +kernel)]; kernel_rfl) | (rw [if_neg (by decide +kernel)]; exact ⟨rfl, rfl⟩))
    (fun os started H enc _ => lifted os started H enc)
end fnExactStepsToDryDone
/-- THE STATEMENT -/
theorem fnExactStepsToDryProved : Rows.FnExactStepsToDrySaid := fnExactStepsToDryDone.over
#print axioms fnExactStepsToDryProved
end Go.Proofs.Ytbmagccjcccnaaa
