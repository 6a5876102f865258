/- FnExactNarrowInput returns true for every input, and each argument reads afterwards as it read before. -/
import Derived.Test.YtfclciebpnnieaaPni4
import Derived.Test.YtfclciebpnnieaaRows
import Derived.WalkKit
import Derived.ProofKit
import Derived.OpenShut
import Derived.ShutString
import Derived.ChangeOld
import Derived.Below
namespace Go.Proofs.Ytfclciebpnnieaa
open Go.Ab Go.ChangeShapes Go.WideShapes Go.ChangeAt Go.RowKit
set_option linter.unusedVariables false
namespace fnExactNarrowInputDone
theorem own : ownKnob Try.prog.godebug = none := by kernel_rfl
theorem laidOut : laidOutB Try.prog = true := by kernel_rfl
set_option maxRecDepth 100000 in
theorem lifted (os : Os) (started : os.Started) (H : Type) (enc : TypeId × Value → H) :
    ReturnsInHanded {} Try.checked os 9 .any (Rows.fnExactNarrowInputSpec.pre6 enc Try.prog Try.f9 Rows.fnExactNarrowInputRow.domain false) (Rows.fnExactNarrowInputSpec.post enc Try.prog Try.f9 false true false false) := by
  refine returnsInHanded_of_change (C := Try.checked) own started (by kernel_rfl) Try.func9
    (ChangeSpec.witness6 (enc := enc) (C := Try.checked) false ⟨#[], #[.agg #[.slice none 0 0, .slice none 0 0], .agg #[.float .f32 0, .float .f32 0, .float .f32 0, .float .f32 0, .float .f32 0, .float .f32 0, .float .f32 0, .float .f32 0], .int .i64 0, .string (ByteArray.mk #[]), .agg #[.float .f32 0, .float .f32 0], .int .i64 0], []⟩ 8 (by kernel_rfl) (by kernel_rfl) (by kernel_rfl) (by kernel_rfl)) ?_
  intro W base args ds gs before hval0 hW hcnd _
  have hval : ∀ (j : Nat) t v, Try.f9.params[j]? = some t → args[j]? = some v → Value.okWide Try.prog W .any base t v := hval0
  have hW' := hW
  obtain ⟨p, q, hA0, hV, rfl, hfz, hnd⟩ := hW
  have hA : DataW.TrodAll enc Try.prog W 0 (fun _ => true) true Try.f9.params.toList args.toList ds p := hA0
  rw [Try.params9] at hA hval
  obtain ⟨v0, vs0, d0, ds0, p0, q0, hargs, rfl, rfl, h0, r0⟩ := trodAll_cons hA
  obtain ⟨v1, vs1, d1, ds1, p1, q1, rfl, rfl, rfl, h1, r1⟩ := trodAll_cons r0
  obtain ⟨v2, vs2, d2, ds2, p2, q2, rfl, rfl, rfl, h2, r2⟩ := trodAll_cons r1
  obtain ⟨v3, vs3, d3, ds3, p3, q3, rfl, rfl, rfl, h3, r3⟩ := trodAll_cons r2
  obtain ⟨v4, vs4, d4, ds4, p4, q4, rfl, rfl, rfl, h4, r4⟩ := trodAll_cons r3
  obtain ⟨v5, vs5, d5, ds5, p5, q5, rfl, rfl, rfl, h5, r5⟩ := trodAll_cons r4
  obtain ⟨rfl, rfl, rfl⟩ := trodAll_nil r5
  obtain rfl : args = #[v0, v1, v2, v3, v4, v5] := by cases args; simp_all
  obtain ⟨rfl, rfl⟩ := trodVars_none hV
  have k0 := h0
  have lt0 : ∀ x ∈ p0, x.block < W.heap.size := by obtain ⟨m, hm⟩ := k0; exact DataW.trod_lt m _ _ _ hm
  have k1 := h1
  have lt1 : ∀ x ∈ p1, x.block < W.heap.size := by obtain ⟨m, hm⟩ := k1; exact DataW.trod_lt m _ _ _ hm
  have k2 := h2
  have lt2 : ∀ x ∈ p2, x.block < W.heap.size := by obtain ⟨m, hm⟩ := k2; exact DataW.trod_lt m _ _ _ hm
  have k3 := h3
  have lt3 : ∀ x ∈ p3, x.block < W.heap.size := by obtain ⟨m, hm⟩ := k3; exact DataW.trod_lt m _ _ _ hm
  have k4 := h4
  have lt4 : ∀ x ∈ p4, x.block < W.heap.size := by obtain ⟨m, hm⟩ := k4; exact DataW.trod_lt m _ _ _ hm
  have k5 := h5
  have lt5 : ∀ x ∈ p5, x.block < W.heap.size := by obtain ⟨m, hm⟩ := k5; exact DataW.trod_lt m _ _ _ hm
  have hv0 := hval 0 25 v0 rfl rfl
  obtain ⟨l0, rfl⟩ := agg_of (by kernel_rfl) hv0
  obtain ⟨fu0, hf0⟩ := h0
  obtain ⟨hln0, fv0, hfl0⟩ := trod_struct (cs := l0) Try.underlying25 hf0
  rw [show Try.prog.cellsOf 25 = 2 from by kernel_rfl] at hln0
  obtain ⟨c0_0, m0_0, rfl, hm0_0⟩ := cons_of hln0
  obtain ⟨c0_1, m0_1, rfl, hm0_1⟩ := cons_of hm0_0
  obtain rfl := nil_of hm0_1
  obtain ⟨y0_0, hy0_0⟩ := hfl0 0 _ rfl
  replace hy0_0 : DataW.trod enc Try.prog W 0 (fun _ => true) true fv0 22 [c0_0] = some y0_0 := by rw [show Try.prog.cellsOf 22 = 1 from by kernel_rfl] at hy0_0; exact hy0_0
  obtain ⟨w0_0, I0_0, hk0_0, hl0_0, hi0_0, hs0_0⟩ := open_strs Try.underlying22 Try.underlying9 (by kernel_rfl) hy0_0 (agg_spot (i := 0) (by kernel_rfl) hv0 rfl)
  obtain ⟨y0_1, hy0_1⟩ := hfl0 1 _ rfl
  replace hy0_1 : DataW.trod enc Try.prog W 0 (fun _ => true) true fv0 23 [c0_1] = some y0_1 := by rw [show Try.prog.cellsOf 23 = 1 from by kernel_rfl] at hy0_1; exact hy0_1
  obtain ⟨w0_1, I0_1, hk0_1, hl0_1, hi0_1, hs0_1⟩ := open_rows (n := 12) (sch := [.int .i8, .int .i16, .fl .f32]) Try.underlying23 (by kernel_rfl) (by kernel_rfl) (by decide) hy0_1 (agg_spot (i := 1) (by kernel_rfl) hv0 rfl)
  obtain ⟨l1, hl1, rfl, hb1⟩ := open_floats (P := Try.prog) (t := 52) (u := 35) (k := .f32) (n := 8) (by kernel_rfl) (by kernel_rfl) (by kernel_rfl) Try.underlying35 (hval 1 52 v1 rfl rfl)
  obtain ⟨a1_0, m1_0, rfl, hm1_0⟩ := cons_of hl1
  obtain ⟨a1_1, m1_1, rfl, hm1_1⟩ := cons_of hm1_0
  obtain ⟨a1_2, m1_2, rfl, hm1_2⟩ := cons_of hm1_1
  obtain ⟨a1_3, m1_3, rfl, hm1_3⟩ := cons_of hm1_2
  obtain ⟨a1_4, m1_4, rfl, hm1_4⟩ := cons_of hm1_3
  obtain ⟨a1_5, m1_5, rfl, hm1_5⟩ := cons_of hm1_4
  obtain ⟨a1_6, m1_6, rfl, hm1_6⟩ := cons_of hm1_5
  obtain ⟨a1_7, m1_7, rfl, hm1_7⟩ := cons_of hm1_6
  obtain rfl := nil_of hm1_7
  obtain ⟨a2, rfl⟩ := okWide_int Try.underlying2 (hval 2 2 v2 rfl rfl)
  obtain ⟨fu2, hf2⟩ := h2
  obtain ⟨_, he2, wa2⟩ := open_int (k := .i64) (v := .int .i64 a2) Try.underlying2 hf2
  cases he2
  obtain ⟨a3, rfl⟩ := okWide_string Try.underlying9 (hval 3 9 v3 rfl rfl)
  obtain ⟨fu3, hf3⟩ := h3
  obtain ⟨_, he3, wa3⟩ := open_string (v := .string a3) Try.underlying9 hf3
  cases he3
  obtain ⟨l4, hl4, rfl, hb4⟩ := open_floats (P := Try.prog) (t := 51) (u := 35) (k := .f32) (n := 2) (by kernel_rfl) (by kernel_rfl) (by kernel_rfl) Try.underlying35 (hval 4 51 v4 rfl rfl)
  obtain ⟨a4_0, m4_0, rfl, hm4_0⟩ := cons_of hl4
  obtain ⟨a4_1, m4_1, rfl, hm4_1⟩ := cons_of hm4_0
  obtain rfl := nil_of hm4_1
  obtain ⟨a5, rfl⟩ := okWide_int Try.underlying2 (hval 5 2 v5 rfl rfl)
  obtain ⟨fu5, hf5⟩ := h5
  obtain ⟨_, he5, wa5⟩ := open_int (k := .i64) (v := .int .i64 a5) Try.underlying2 hf5
  cases he5
  clear hA0 hval0
  have hplain : r9 a1_0 a1_1 a1_2 a1_3 a1_4 a1_5 a1_6 a1_7 a2 a3 a4_0 a4_1 a5 w0_0 w0_1 = (0, true) := plain9 a1_0 a1_1 a1_2 a1_3 a1_4 a1_5 a1_6 a1_7 a2 a3 a4_0 a4_1 a5 w0_0 w0_1 (hb1 a1_0 (by simp)) (hb1 a1_1 (by simp)) (hb1 a1_2 (by simp)) (hb1 a1_3 (by simp)) (hb1 a1_4 (by simp)) (hb1 a1_5 (by simp)) (hb1 a1_6 (by simp)) (hb1 a1_7 (by simp)) wa2 wa3 (hb4 a4_0 (by simp)) (hb4 a4_1 (by simp)) wa5 hk0_0 hl0_0 hk0_1 hl0_1
  have hw := ok79 9 [.agg #[wsl 0, wsl 1], .agg #[.float .f32 a1_0, .float .f32 a1_1, .float .f32 a1_2, .float .f32 a1_3, .float .f32 a1_4, .float .f32 a1_5, .float .f32 a1_6, .float .f32 a1_7], .int .i64 a2, .string a3, .agg #[.float .f32 a4_0, .float .f32 a4_1], .int .i64 a5] ⟨[⟨false, some (.strs w0_0)⟩, ⟨false, some (.tab [.int .i8, .int .i16, .fl .f32] w0_1)⟩], 2, []⟩ (.bool true) ⟨[⟨false, some (.strs w0_0)⟩, ⟨false, some (.tab [.int .i8, .int .i16, .fl .f32] w0_1)⟩], 2, []⟩ rfl rfl (by rw [show firstT (T79 9 [.agg #[wsl 0, wsl 1], .agg #[.float .f32 a1_0, .float .f32 a1_1, .float .f32 a1_2, .float .f32 a1_3, .float .f32 a1_4, .float .f32 a1_5, .float .f32 a1_6, .float .f32 a1_7], .int .i64 a2, .string a3, .agg #[.float .f32 a4_0, .float .f32 a4_1], .int .i64 a5] ⟨[⟨false, some (.strs w0_0)⟩, ⟨false, some (.tab [.int .i8, .int .i16, .fl .f32] w0_1)⟩], 2, []⟩) = firstT [((Nat.beq ((r9 a1_0 a1_1 a1_2 a1_3 a1_4 a1_5 a1_6 a1_7 a2 a3 a4_0 a4_1 a5 w0_0 w0_1).1) 0), .bool ((r9 a1_0 a1_1 a1_2 a1_3 a1_4 a1_5 a1_6 a1_7 a2 a3 a4_0 a4_1 a5 w0_0 w0_1).2), ⟨[⟨false, (some (.strs w0_0))⟩, ⟨false, (some (.tab [.int .i8, .int .i16, .fl .f32] w0_1))⟩], 2, []⟩)] from rfl, hplain]; rfl)
  refine (law_heap (args' := #[_, _, _, _, _, _]) (L := [(.strs w0_0, I0_0), (.tab [.int .i8, .int .i16, .fl .f32] w0_1, I0_1)]) hw W ?_ (L2.mk (vrel_agg (L2.mk (hs0_0.rel (by simp) rfl) (L2.mk (hs0_1.rel (by simp) rfl) L2.nil))) (L2.mk (vrel_floats .f32 [a1_0, a1_1, a1_2, a1_3, a1_4, a1_5, a1_6, a1_7]) (L2.mk (vrel_c (crel_int _ _)) (L2.mk (vrel_c (crel_str _)) (L2.mk (vrel_floats .f32 [a4_0, a4_1]) (L2.mk (vrel_c (crel_int _ _)) L2.nil))))))).mono fun e W' ⟨he, bel⟩ => ?_
  · intro p hp
    simp only [List.mem_cons, List.not_mem_nil, or_false] at hp
    rcases hp with rfl | rfl
    · exact hi0_0
    · exact hi0_1
  subst he
  exact ⟨_, rfl, _, _, _, [], _, [], hW', trodAll_mk1 (shut_bool Try.underlying4 _), (trodAll_cons_mk (Below.trod laidOut (by kernel_rfl) (of_decide_eq_true (by kernel_rfl)) k0 bel lt0) (trodAll_cons_mk (Below.trod laidOut (by kernel_rfl) (of_decide_eq_true (by kernel_rfl)) k1 bel lt1) (trodAll_cons_mk (Below.trod laidOut (by kernel_rfl) (of_decide_eq_true (by kernel_rfl)) k2 bel lt2) (trodAll_cons_mk (Below.trod laidOut (by kernel_rfl) (of_decide_eq_true (by kernel_rfl)) k3 bel lt3) (trodAll_cons_mk (Below.trod laidOut (by kernel_rfl) (of_decide_eq_true (by kernel_rfl)) k4 bel lt4) (trodAll_cons_mk (Below.trod laidOut (by kernel_rfl) (of_decide_eq_true (by kernel_rfl)) k5 bel lt5) trodAll_mk0)))))), rfl, bel.frame _, fun h => by cases h⟩
theorem over : Rows.fnExactNarrowInputRow.holds Try.pinned (OpenSpec.ofChange Rows.fnExactNarrowInputSpec) :=
  OpenClaim.holds_of_wide 9 Try.f9 rfl rfl rfl rfl rfl rfl rfl ⟨rfl, rfl, rfl, rfl, rfl⟩ rfl rfl rfl rfl rfl (by kernel_rfl) Try.func9 (by kernel_rfl)
    (of_decide_eq_true (by kernel_rfl)) (by unfold Func.isWrapper; first | (rw [if_pos (by decide +kernel)]; kernel_rfl) | (rw [if_neg (by decide +kernel)]; exact ⟨rfl, rfl⟩))
    (fun os started H enc _ => lifted os started H enc)
end fnExactNarrowInputDone
/-- THE STATEMENT -/
theorem fnExactNarrowInputProved : Rows.FnExactNarrowInputSaid := fnExactNarrowInputDone.over
#print axioms fnExactNarrowInputProved
end Go.Proofs.Ytfclciebpnnieaa
