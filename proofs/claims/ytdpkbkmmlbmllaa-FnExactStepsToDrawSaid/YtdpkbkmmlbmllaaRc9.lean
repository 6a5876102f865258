/- FnExactStepsToDraw returns true for every input, and each argument reads afterwards as it read before. -/
import Derived.Test.YtdpkbkmmlbmllaaPcd9
import Derived.Test.YtdpkbkmmlbmllaaRows
import Derived.WalkKit
import Derived.ProofKit
import Derived.OpenShut
import Derived.ShutString
import Derived.ChangeOld
import Derived.Below
namespace Go.Proofs.Ytdpkbkmmlbmllaa
open Go.Ab Go.ChangeShapes Go.WideShapes Go.ChangeAt Go.RowKit
set_option linter.unusedVariables false
namespace fnExactStepsToDrawDone
theorem own : ownKnob Try.prog.godebug = none := by kernel_rfl
theorem laidOut : laidOutB Try.prog = true := by kernel_rfl
set_option maxRecDepth 100000 in
theorem lifted (os : Os) (started : os.Started) (H : Type) (enc : TypeId × Value → H) :
    ReturnsInHanded {} Try.checked os 9 .any (Rows.fnExactStepsToDrawSpec.pre6 enc Try.prog Try.f9 Rows.fnExactStepsToDrawRow.domain false) (Rows.fnExactStepsToDrawSpec.post enc Try.prog Try.f9 false true false false) := by
  refine returnsInHanded_of_change (C := Try.checked) own started (by kernel_rfl) Try.func9
    (ChangeSpec.witness6 (enc := enc) (C := Try.checked) false ⟨#[], #[.slice none 0 0, .slice none 0 0, .float .f32 0, .float .f32 0, .float .f32 0, .int .i64 0], []⟩ 8 (by kernel_rfl) (by kernel_rfl) (by kernel_rfl) (by kernel_rfl)) ?_
  intro W base args ds gs before hval0 hW hcnd _
  have hval : ∀ (j : Nat) t v, Try.f9.params[j]? = some t → args[j]? = some v → Value.okWide Try.prog W .any base t v := hval0
  have hW' := hW
  obtain ⟨p, q, hA0, hV, rfl, hfz, hnd⟩ := hW
  have hA : DataW.TrodAll enc Try.prog W 0 (fun _ => true) true Try.f9.params.toList args.toList ds p := hA0
  rw [Try.params9] at hA hval
  obtain ⟨v0, vs0, d0, ds0, p0, q0, hargs, rfl, rfl, h0, r0⟩ := trodAll_cons hA
  obtain ⟨v1, vs1, d1, ds1, p1, q1, rfl, rfl, rfl, h1, r1⟩ := trodAll_cons r0
  obtain ⟨v2, vs2, d2, ds2, p2, q2, rfl, rfl, rfl, h2, r2⟩ := trodAll_cons r1
  obtain ⟨v3, vs3, d3, ds3, p3, q3, rfl, rfl, rfl, h3, r3⟩ := trodAll_cons r2
  obtain ⟨v4, vs4, d4, ds4, p4, q4, rfl, rfl, rfl, h4, r4⟩ := trodAll_cons r3
  obtain ⟨v5, vs5, d5, ds5, p5, q5, rfl, rfl, rfl, h5, r5⟩ := trodAll_cons r4
  obtain ⟨rfl, rfl, rfl⟩ := trodAll_nil r5
  obtain rfl : args = #[v0, v1, v2, v3, v4, v5] := by cases args; simp_all
  obtain ⟨rfl, rfl⟩ := trodVars_none hV
  have k0 := h0
  have lt0 : ∀ x ∈ p0, x.block < W.heap.size := by obtain ⟨m, hm⟩ := k0; exact DataW.trod_lt m _ _ _ hm
  have k1 := h1
  have lt1 : ∀ x ∈ p1, x.block < W.heap.size := by obtain ⟨m, hm⟩ := k1; exact DataW.trod_lt m _ _ _ hm
  have k2 := h2
  have lt2 : ∀ x ∈ p2, x.block < W.heap.size := by obtain ⟨m, hm⟩ := k2; exact DataW.trod_lt m _ _ _ hm
  have k3 := h3
  have lt3 : ∀ x ∈ p3, x.block < W.heap.size := by obtain ⟨m, hm⟩ := k3; exact DataW.trod_lt m _ _ _ hm
  have k4 := h4
  have lt4 : ∀ x ∈ p4, x.block < W.heap.size := by obtain ⟨m, hm⟩ := k4; exact DataW.trod_lt m _ _ _ hm
  have k5 := h5
  have lt5 : ∀ x ∈ p5, x.block < W.heap.size := by obtain ⟨m, hm⟩ := k5; exact DataW.trod_lt m _ _ _ hm
  have hv0 := hval 0 43 v0 rfl rfl
  obtain ⟨pa0, pl0, pk0, rfl⟩ := okWide_slice Try.underlying43 hv0
  obtain ⟨fu0, hf0⟩ := h0
  obtain ⟨w0_0, I0_0, hk0_0, hl0_0, hi0_0, hs0_0⟩ := open_rows (n := 12) (sch := [.fl .f32, .fl .f32, .fl .f32, .fl .f32, .int .i64]) Try.underlying43 (by kernel_rfl) (by kernel_rfl) (by decide) (v := .slice pa0 pl0 pk0) hf0 (top_spot (by kernel_rfl) hv0)
  have hv1 := hval 1 28 v1 rfl rfl
  obtain ⟨pa1, pl1, pk1, rfl⟩ := okWide_slice Try.underlying28 hv1
  obtain ⟨fu1, hf1⟩ := h1
  obtain ⟨w1_0, I1_0, hk1_0, hl1_0, hi1_0, hs1_0⟩ := open_rows (n := 12) (sch := [.fl .f32]) Try.underlying28 (by kernel_rfl) (by kernel_rfl) (by decide) (v := .slice pa1 pl1 pk1) hf1 (top_spot (by kernel_rfl) hv1)
  obtain ⟨a2, rfl, wa2⟩ := open_float1 (P := Try.prog) (t := 26) (k := .f32) Try.underlying26 (hval 2 26 v2 rfl rfl)
  obtain ⟨a3, rfl, wa3⟩ := open_float1 (P := Try.prog) (t := 26) (k := .f32) Try.underlying26 (hval 3 26 v3 rfl rfl)
  obtain ⟨a4, rfl, wa4⟩ := open_float1 (P := Try.prog) (t := 26) (k := .f32) Try.underlying26 (hval 4 26 v4 rfl rfl)
  obtain ⟨a5, rfl⟩ := okWide_int Try.underlying2 (hval 5 2 v5 rfl rfl)
  obtain ⟨fu5, hf5⟩ := h5
  obtain ⟨_, he5, wa5⟩ := open_int (k := .i64) (v := .int .i64 a5) Try.underlying2 hf5
  cases he5
  clear hA0 hval0
  have hplain : r9 a2 a3 a4 a5 w0_0 w1_0 = (0, true) := plain9 a2 a3 a4 a5 w0_0 w1_0 wa2 wa3 wa4 wa5 hk0_0 hl0_0 hk1_0 hl1_0
  have hw := ok93 9 [wsl 0, wsl 1, .float .f32 a2, .float .f32 a3, .float .f32 a4, .int .i64 a5] ⟨[⟨false, some (.tab [.fl .f32, .fl .f32, .fl .f32, .fl .f32, .int .i64] w0_0)⟩, ⟨false, some (.tab [.fl .f32] w1_0)⟩], 2, []⟩ (.bool true) ⟨[⟨false, some (.tab [.fl .f32, .fl .f32, .fl .f32, .fl .f32, .int .i64] w0_0)⟩, ⟨false, some (.tab [.fl .f32] w1_0)⟩], 2, []⟩ rfl rfl (by rw [show firstT (T93 9 [wsl 0, wsl 1, .float .f32 a2, .float .f32 a3, .float .f32 a4, .int .i64 a5] ⟨[⟨false, some (.tab [.fl .f32, .fl .f32, .fl .f32, .fl .f32, .int .i64] w0_0)⟩, ⟨false, some (.tab [.fl .f32] w1_0)⟩], 2, []⟩) = firstT [((Nat.beq ((r9 a2 a3 a4 a5 w0_0 w1_0).1) 0), .bool ((r9 a2 a3 a4 a5 w0_0 w1_0).2), ⟨[⟨false, (some (.tab sc0 w0_0))⟩, ⟨false, (some (.tab [.fl .f32] w1_0))⟩], 2, []⟩)] from rfl, hplain]; rfl)
  refine (law_heap (args' := #[_, _, _, _, _, _]) (L := [(.tab [.fl .f32, .fl .f32, .fl .f32, .fl .f32, .int .i64] w0_0, I0_0), (.tab [.fl .f32] w1_0, I1_0)]) hw W ?_ (L2.mk (vrel_c (hs0_0.rel (by simp) rfl)) (L2.mk (vrel_c (hs1_0.rel (by simp) rfl)) (L2.mk (vrel_c (crel_fl _ _)) (L2.mk (vrel_c (crel_fl _ _)) (L2.mk (vrel_c (crel_fl _ _)) (L2.mk (vrel_c (crel_int _ _)) L2.nil))))))).mono fun e W' ⟨he, bel⟩ => ?_
  · intro p hp
    simp only [List.mem_cons, List.not_mem_nil, or_false] at hp
    rcases hp with rfl | rfl
    · exact hi0_0
    · exact hi1_0
  subst he
  exact ⟨_, rfl, _, _, _, [], _, [], hW', trodAll_mk1 (shut_bool Try.underlying4 _), (trodAll_cons_mk (Below.trod laidOut (by kernel_rfl) (of_decide_eq_true (by kernel_rfl)) k0 bel lt0) (trodAll_cons_mk (Below.trod laidOut (by kernel_rfl) (of_decide_eq_true (by kernel_rfl)) k1 bel lt1) (trodAll_cons_mk (Below.trod laidOut (by kernel_rfl) (of_decide_eq_true (by kernel_rfl)) k2 bel lt2) (trodAll_cons_mk (Below.trod laidOut (by kernel_rfl) (of_decide_eq_true (by kernel_rfl)) k3 bel lt3) (trodAll_cons_mk (Below.trod laidOut (by kernel_rfl) (of_decide_eq_true (by kernel_rfl)) k4 bel lt4) (trodAll_cons_mk (Below.trod laidOut (by kernel_rfl) (of_decide_eq_true (by kernel_rfl)) k5 bel lt5) trodAll_mk0)))))), rfl, bel.frame _, fun h => by cases h⟩
theorem over : Rows.fnExactStepsToDrawRow.holds Try.pinned (OpenSpec.ofChange Rows.fnExactStepsToDrawSpec) :=
  OpenClaim.holds_of_wide 9 Try.f9 rfl rfl rfl rfl rfl rfl rfl ⟨rfl, rfl, rfl, rfl, rfl⟩ rfl rfl rfl rfl rfl (by kernel_rfl) Try.func9 (by kernel_rfl)
    (of_decide_eq_true (by kernel_rfl)) (by unfold Func.isWrapper; first | (rw [if_pos (by decide +kernel)]; kernel_rfl) | (rw [if_neg (by decide +kernel)]; exact ⟨rfl, rfl⟩))
    (fun os started H enc _ => lifted os started H enc)
end fnExactStepsToDrawDone
/-- THE STATEMENT -/
theorem fnExactStepsToDrawProved : Rows.FnExactStepsToDrawSaid := fnExactStepsToDrawDone.over
#print axioms fnExactStepsToDrawProved
end Go.Proofs.Ytdpkbkmmlbmllaa
