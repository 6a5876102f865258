/- FnExactStepsFlat returns true for every input, and each argument reads afterwards as it read before. -/
import Derived.Test.YtfnfapmncibjfaaPsg5
import Derived.Test.YtfnfapmncibjfaaRows
import Derived.WalkKit
import Derived.ProofKit
import Derived.OpenShut
import Derived.ShutString
import Derived.ChangeOld
import Derived.Below
namespace Go.Proofs.Ytfnfapmncibjfaa
open Go.Ab Go.ChangeShapes Go.WideShapes Go.ChangeAt Go.RowKit
set_option linter.unusedVariables false
namespace fnExactStepsFlatDone
theorem own : ownKnob Try.prog.godebug = none := by kernel_rfl
theorem laidOut : laidOutB Try.prog = true := by kernel_rfl
set_option maxRecDepth 100000 in
theorem lifted (os : Os) (started : os.Started) (H : Type) (enc : TypeId × Value → H) :
    ReturnsInHanded {} Try.checked os 10 .any (Rows.fnExactStepsFlatSpec.pre6 enc Try.prog Try.f10 Rows.fnExactStepsFlatRow.domain false) (Rows.fnExactStepsFlatSpec.post enc Try.prog Try.f10 false true false false) := by
  refine returnsInHanded_of_change (C := Try.checked) own started (by kernel_rfl) Try.func10
    (ChangeSpec.witness6 (enc := enc) (C := Try.checked) false ⟨#[], #[.agg #[.slice none 0 0, .slice none 0 0, .slice none 0 0, .slice none 0 0], .float .f32 0, .float .f32 0, .slice none 0 0, .float .f32 0, .int .i64 0], []⟩ 8 (by kernel_rfl) (by kernel_rfl) (by kernel_rfl) (by kernel_rfl)) ?_
  intro W base args ds gs before hval0 hW hcnd _
  have hval : ∀ (j : Nat) t v, Try.f10.params[j]? = some t → args[j]? = some v → Value.okWide Try.prog W .any base t v := hval0
  have hW' := hW
  obtain ⟨p, q, hA0, hV, rfl, hfz, hnd⟩ := hW
  have hA : DataW.TrodAll enc Try.prog W 0 (fun _ => true) true Try.f10.params.toList args.toList ds p := hA0
  rw [Try.params10] at hA hval
  obtain ⟨v0, vs0, d0, ds0, p0, q0, hargs, rfl, rfl, h0, r0⟩ := trodAll_cons hA
  obtain ⟨v1, vs1, d1, ds1, p1, q1, rfl, rfl, rfl, h1, r1⟩ := trodAll_cons r0
  obtain ⟨v2, vs2, d2, ds2, p2, q2, rfl, rfl, rfl, h2, r2⟩ := trodAll_cons r1
  obtain ⟨v3, vs3, d3, ds3, p3, q3, rfl, rfl, rfl, h3, r3⟩ := trodAll_cons r2
  obtain ⟨v4, vs4, d4, ds4, p4, q4, rfl, rfl, rfl, h4, r4⟩ := trodAll_cons r3
  obtain ⟨v5, vs5, d5, ds5, p5, q5, rfl, rfl, rfl, h5, r5⟩ := trodAll_cons r4
  obtain ⟨rfl, rfl, rfl⟩ := trodAll_nil r5
  obtain rfl : args = #[v0, v1, v2, v3, v4, v5] := by cases args; simp_all
  obtain ⟨rfl, rfl⟩ := trodVars_none hV
  have k0 := h0
  have lt0 : ∀ x ∈ p0, x.block < W.heap.size := by obtain ⟨m, hm⟩ := k0; exact DataW.trod_lt m _ _ _ hm
  have k1 := h1
  have lt1 : ∀ x ∈ p1, x.block < W.heap.size := by obtain ⟨m, hm⟩ := k1; exact DataW.trod_lt m _ _ _ hm
  have k2 := h2
  have lt2 : ∀ x ∈ p2, x.block < W.heap.size := by obtain ⟨m, hm⟩ := k2; exact DataW.trod_lt m _ _ _ hm
  have k3 := h3
  have lt3 : ∀ x ∈ p3, x.block < W.heap.size := by obtain ⟨m, hm⟩ := k3; exact DataW.trod_lt m _ _ _ hm
  have k4 := h4
  have lt4 : ∀ x ∈ p4, x.block < W.heap.size := by obtain ⟨m, hm⟩ := k4; exact DataW.trod_lt m _ _ _ hm
  have k5 := h5
  have lt5 : ∀ x ∈ p5, x.block < W.heap.size := by obtain ⟨m, hm⟩ := k5; exact DataW.trod_lt m _ _ _ hm
  have hv0 := hval 0 49 v0 rfl rfl
  obtain ⟨l0, rfl⟩ := agg_of (by kernel_rfl) hv0
  obtain ⟨fu0, hf0⟩ := h0
  obtain ⟨hln0, fv0, hfl0⟩ := trod_struct (cs := l0) Try.underlying49 hf0
  rw [show Try.prog.cellsOf 49 = 4 from by kernel_rfl] at hln0
  obtain ⟨c0_0, m0_0, rfl, hm0_0⟩ := cons_of hln0
  obtain ⟨c0_1, m0_1, rfl, hm0_1⟩ := cons_of hm0_0
  obtain ⟨c0_2, m0_2, rfl, hm0_2⟩ := cons_of hm0_1
  obtain ⟨c0_3, m0_3, rfl, hm0_3⟩ := cons_of hm0_2
  obtain rfl := nil_of hm0_3
  obtain ⟨y0_0, hy0_0⟩ := hfl0 0 _ rfl
  replace hy0_0 : DataW.trod enc Try.prog W 0 (fun _ => true) true fv0 24 [c0_0] = some y0_0 := by rw [show Try.prog.cellsOf 24 = 1 from by kernel_rfl] at hy0_0; exact hy0_0
  obtain ⟨w0_0, I0_0, hk0_0, hl0_0, hi0_0, hs0_0⟩ := open_rows (n := 12) (sch := [.fl .f32]) Try.underlying24 (by kernel_rfl) (by kernel_rfl) (by decide) hy0_0 (agg_spot (i := 0) (by kernel_rfl) hv0 rfl)
  obtain ⟨y0_1, hy0_1⟩ := hfl0 1 _ rfl
  replace hy0_1 : DataW.trod enc Try.prog W 0 (fun _ => true) true fv0 24 [c0_1] = some y0_1 := by rw [show Try.prog.cellsOf 24 = 1 from by kernel_rfl] at hy0_1; exact hy0_1
  obtain ⟨w0_1, I0_1, hk0_1, hl0_1, hi0_1, hs0_1⟩ := open_rows (n := 12) (sch := [.fl .f32]) Try.underlying24 (by kernel_rfl) (by kernel_rfl) (by decide) hy0_1 (agg_spot (i := 1) (by kernel_rfl) hv0 rfl)
  obtain ⟨y0_2, hy0_2⟩ := hfl0 2 _ rfl
  replace hy0_2 : DataW.trod enc Try.prog W 0 (fun _ => true) true fv0 46 [c0_2] = some y0_2 := by rw [show Try.prog.cellsOf 46 = 1 from by kernel_rfl] at hy0_2; exact hy0_2
  obtain ⟨w0_2, I0_2, hk0_2, hl0_2, hi0_2, hs0_2⟩ := open_rows (n := 12) (sch := [.int .i64, .int .i64, .fl .f32, .fl .f32, .fl .f32, .fl .f32, .fl .f32, .fl .f32]) Try.underlying46 (by kernel_rfl) (by kernel_rfl) (by decide) hy0_2 (agg_spot (i := 2) (by kernel_rfl) hv0 rfl)
  obtain ⟨y0_3, hy0_3⟩ := hfl0 3 _ rfl
  replace hy0_3 : DataW.trod enc Try.prog W 0 (fun _ => true) true fv0 47 [c0_3] = some y0_3 := by rw [show Try.prog.cellsOf 47 = 1 from by kernel_rfl] at hy0_3; exact hy0_3
  obtain ⟨w0_3, I0_3, hk0_3, hl0_3, hi0_3, hs0_3⟩ := open_rows (n := 12) (sch := [.int .i64, .int .i64, .fl .f32, .fl .f32]) Try.underlying47 (by kernel_rfl) (by kernel_rfl) (by decide) hy0_3 (agg_spot (i := 3) (by kernel_rfl) hv0 rfl)
  obtain ⟨a1, rfl, wa1⟩ := open_float1 (P := Try.prog) (t := 31) (k := .f32) Try.underlying31 (hval 1 31 v1 rfl rfl)
  obtain ⟨a2, rfl, wa2⟩ := open_float1 (P := Try.prog) (t := 31) (k := .f32) Try.underlying31 (hval 2 31 v2 rfl rfl)
  have hv3 := hval 3 24 v3 rfl rfl
  obtain ⟨sa3, sl3, sc3, rfl⟩ := okWide_slice Try.underlying24 hv3
  obtain ⟨fu3, hf3⟩ := h3
  obtain ⟨w3_0, I3_0, hk3_0, hl3_0, hi3_0, hs3_0⟩ := open_rows (n := 12) (sch := [.fl .f32]) Try.underlying24 (by kernel_rfl) (by kernel_rfl) (by decide) (v := .slice sa3 sl3 sc3) hf3 (top_spot (by kernel_rfl) hv3)
  obtain ⟨a4, rfl, wa4⟩ := open_float1 (P := Try.prog) (t := 31) (k := .f32) Try.underlying31 (hval 4 31 v4 rfl rfl)
  obtain ⟨a5, rfl⟩ := okWide_int Try.underlying2 (hval 5 2 v5 rfl rfl)
  obtain ⟨fu5, hf5⟩ := h5
  obtain ⟨_, he5, wa5⟩ := open_int (k := .i64) (v := .int .i64 a5) Try.underlying2 hf5
  cases he5
  clear hA0 hval0
  have hplain : r10 a1 a2 a4 a5 w0_0 w0_1 w0_2 w0_3 w3_0 = (0, true) := plain10 a1 a2 a4 a5 w0_0 w0_1 w0_2 w0_3 w3_0 wa1 wa2 wa4 wa5 hk0_0 hl0_0 hk0_1 hl0_1 hk0_2 hl0_2 hk0_3 hl0_3 hk3_0 hl3_0
  have hw := ok89 10 [.agg #[wsl 0, wsl 1, wsl 2, wsl 3], .float .f32 a1, .float .f32 a2, wsl 4, .float .f32 a4, .int .i64 a5] ⟨[⟨false, some (.tab [.fl .f32] w0_0)⟩, ⟨false, some (.tab [.fl .f32] w0_1)⟩, ⟨false, some (.tab [.int .i64, .int .i64, .fl .f32, .fl .f32, .fl .f32, .fl .f32, .fl .f32, .fl .f32] w0_2)⟩, ⟨false, some (.tab [.int .i64, .int .i64, .fl .f32, .fl .f32] w0_3)⟩, ⟨false, some (.tab [.fl .f32] w3_0)⟩], 5, []⟩ (.bool true) ⟨[⟨false, some (.tab [.fl .f32] w0_0)⟩, ⟨false, some (.tab [.fl .f32] w0_1)⟩, ⟨false, some (.tab [.int .i64, .int .i64, .fl .f32, .fl .f32, .fl .f32, .fl .f32, .fl .f32, .fl .f32] w0_2)⟩, ⟨false, some (.tab [.int .i64, .int .i64, .fl .f32, .fl .f32] w0_3)⟩, ⟨false, some (.tab [.fl .f32] w3_0)⟩], 5, []⟩ rfl rfl (by rw [show firstT (T89 10 [.agg #[wsl 0, wsl 1, wsl 2, wsl 3], .float .f32 a1, .float .f32 a2, wsl 4, .float .f32 a4, .int .i64 a5] ⟨[⟨false, some (.tab [.fl .f32] w0_0)⟩, ⟨false, some (.tab [.fl .f32] w0_1)⟩, ⟨false, some (.tab [.int .i64, .int .i64, .fl .f32, .fl .f32, .fl .f32, .fl .f32, .fl .f32, .fl .f32] w0_2)⟩, ⟨false, some (.tab [.int .i64, .int .i64, .fl .f32, .fl .f32] w0_3)⟩, ⟨false, some (.tab [.fl .f32] w3_0)⟩], 5, []⟩) = firstT [((Nat.beq ((r10 a1 a2 a4 a5 w0_0 w0_1 w0_2 w0_3 w3_0).1) 0), .bool ((r10 a1 a2 a4 a5 w0_0 w0_1 w0_2 w0_3 w3_0).2), ⟨[⟨false, (some (.tab [.fl .f32] w0_0))⟩, ⟨false, (some (.tab [.fl .f32] w0_1))⟩, ⟨false, (some (.tab sc0 w0_2))⟩, ⟨false, (some (.tab sc1 w0_3))⟩, ⟨false, (some (.tab [.fl .f32] w3_0))⟩], 5, []⟩)] from rfl, hplain]; rfl)
  refine (law_heap (args' := #[_, _, _, _, _, _]) (L := [(.tab [.fl .f32] w0_0, I0_0), (.tab [.fl .f32] w0_1, I0_1), (.tab [.int .i64, .int .i64, .fl .f32, .fl .f32, .fl .f32, .fl .f32, .fl .f32, .fl .f32] w0_2, I0_2), (.tab [.int .i64, .int .i64, .fl .f32, .fl .f32] w0_3, I0_3), (.tab [.fl .f32] w3_0, I3_0)]) hw W ?_ (L2.mk (vrel_agg (L2.mk (hs0_0.rel (by simp) rfl) (L2.mk (hs0_1.rel (by simp) rfl) (L2.mk (hs0_2.rel (by simp) rfl) (L2.mk (hs0_3.rel (by simp) rfl) L2.nil))))) (L2.mk (vrel_c (crel_fl _ _)) (L2.mk (vrel_c (crel_fl _ _)) (L2.mk (vrel_c (hs3_0.rel (by simp) rfl)) (L2.mk (vrel_c (crel_fl _ _)) (L2.mk (vrel_c (crel_int _ _)) L2.nil))))))).mono fun e W' ⟨he, bel⟩ => ?_
  · intro p hp
    simp only [List.mem_cons, List.not_mem_nil, or_false] at hp
    rcases hp with rfl | rfl | rfl | rfl | rfl
    · exact hi0_0
    · exact hi0_1
    · exact hi0_2
    · exact hi0_3
    · exact hi3_0
  subst he
  exact ⟨_, rfl, _, _, _, [], _, [], hW', trodAll_mk1 (shut_bool Try.underlying4 _), (trodAll_cons_mk (Below.trod laidOut (by kernel_rfl) (of_decide_eq_true (by kernel_rfl)) k0 bel lt0) (trodAll_cons_mk (Below.trod laidOut (by kernel_rfl) (of_decide_eq_true (by kernel_rfl)) k1 bel lt1) (trodAll_cons_mk (Below.trod laidOut (by kernel_rfl) (of_decide_eq_true (by kernel_rfl)) k2 bel lt2) (trodAll_cons_mk (Below.trod laidOut (by kernel_rfl) (of_decide_eq_true (by kernel_rfl)) k3 bel lt3) (trodAll_cons_mk (Below.trod laidOut (by kernel_rfl) (of_decide_eq_true (by kernel_rfl)) k4 bel lt4) (trodAll_cons_mk (Below.trod laidOut (by kernel_rfl) (of_decide_eq_true (by kernel_rfl)) k5 bel lt5) trodAll_mk0)))))), rfl, bel.frame _, fun h => by cases h⟩
theorem over : Rows.fnExactStepsFlatRow.holds Try.pinned (OpenSpec.ofChange Rows.fnExactStepsFlatSpec) :=
  OpenClaim.holds_of_wide 10 Try.f10 rfl rfl rfl rfl rfl rfl rfl ⟨rfl, rfl, rfl, rfl, rfl⟩ rfl rfl rfl rfl rfl (by kernel_rfl) Try.func10 (by kernel_rfl)
    (of_decide_eq_true (by kernel_rfl)) (by unfold Func.isWrapper; first | (rw [if_pos (by decide +kernel)]; kernel_rfl) | (rw [if_neg (by decide +kernel)]; exact ⟨rfl, rfl⟩))
    (fun os started H enc _ => lifted os started H enc)
end fnExactStepsFlatDone
/-- THE STATEMENT -/
theorem fnExactStepsFlatProved : Rows.FnExactStepsFlatSaid := fnExactStepsFlatDone.over
#print axioms fnExactStepsFlatProved
end Go.Proofs.Ytfnfapmncibjfaa
