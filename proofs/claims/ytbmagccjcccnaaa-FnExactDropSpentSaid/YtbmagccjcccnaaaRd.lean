/- FnExactDropSpent returns true for every input, and each argument reads afterwards as it read before. -/
import Derived.Test.YtbmagccjcccnaaaPd3
import Derived.Test.YtbmagccjcccnaaaRows
import Derived.WalkKit
import Derived.ProofKit
import Derived.OpenShut
import Derived.ShutString
import Derived.ChangeOld
import Derived.Below
namespace Go.Proofs.Ytbmagccjcccnaaa
open Go.Ab Go.ChangeShapes Go.WideShapes Go.ChangeAt Go.RowKit
set_option linter.unusedVariables false
namespace fnExactDropSpentDone
theorem own : ownKnob Try.prog.godebug = none := by kernel_rfl
theorem laidOut : laidOutB Try.prog = true := by kernel_rfl
set_option maxRecDepth 100000 in
theorem lifted (os : Os) (started : os.Started) (H : Type) (enc : TypeId × Value → H) :
    ReturnsInHanded {} Try.checked os 7 .any (Rows.fnExactDropSpentSpec.pre6 enc Try.prog Try.f7 Rows.fnExactDropSpentRow.domain false) (Rows.fnExactDropSpentSpec.post enc Try.prog Try.f7 false true false false) := by
  refine returnsInHanded_of_change (C := Try.checked) own started (by kernel_rfl) Try.func7
    (ChangeSpec.witness6 (enc := enc) (C := Try.checked) false ⟨#[], #[.agg #[.slice none 0 0, .float .f32 0, .float .f32 0, .int .i8 0, .int .i64 0, .float .f32 0]], []⟩ 8 (by kernel_rfl) (by kernel_rfl) (by kernel_rfl) (by kernel_rfl)) ?_
  intro W base args ds gs before hval0 hW hcnd _
  have hval : ∀ (j : Nat) t v, Try.f7.params[j]? = some t → args[j]? = some v → Value.okWide Try.prog W .any base t v := hval0
  have hW' := hW
  obtain ⟨p, q, hA0, hV, rfl, hfz, hnd⟩ := hW
  have hA : DataW.TrodAll enc Try.prog W 0 (fun _ => true) true Try.f7.params.toList args.toList ds p := hA0
  rw [Try.params7] at hA hval
  obtain ⟨v0, vs0, d0, ds0, p0, q0, hargs, rfl, rfl, h0, r0⟩ := trodAll_cons hA
  obtain ⟨rfl, rfl, rfl⟩ := trodAll_nil r0
  obtain rfl : args = #[v0] := by cases args; simp_all
  obtain ⟨rfl, rfl⟩ := trodVars_none hV
  have k0 := h0
  have lt0 : ∀ x ∈ p0, x.block < W.heap.size := by obtain ⟨m, hm⟩ := k0; exact DataW.trod_lt m _ _ _ hm
  have hv0 := hval 0 36 v0 rfl rfl
  obtain ⟨l0, rfl⟩ := agg_of (by kernel_rfl) hv0
  obtain ⟨fu0, hf0⟩ := h0
  obtain ⟨hln0, fv0, hfl0⟩ := trod_struct (cs := l0) Try.underlying36 hf0
  rw [show Try.prog.cellsOf 36 = 6 from by kernel_rfl] at hln0
  obtain ⟨c0_0, m0_0, rfl, hm0_0⟩ := cons_of hln0
  obtain ⟨c0_1, m0_1, rfl, hm0_1⟩ := cons_of hm0_0
  obtain ⟨c0_2, m0_2, rfl, hm0_2⟩ := cons_of hm0_1
  obtain ⟨c0_3, m0_3, rfl, hm0_3⟩ := cons_of hm0_2
  obtain ⟨c0_4, m0_4, rfl, hm0_4⟩ := cons_of hm0_3
  obtain ⟨c0_5, m0_5, rfl, hm0_5⟩ := cons_of hm0_4
  obtain rfl := nil_of hm0_5
  obtain ⟨y0_0, hy0_0⟩ := hfl0 0 _ rfl
  replace hy0_0 : DataW.trod enc Try.prog W 0 (fun _ => true) true fv0 33 [c0_0] = some y0_0 := by rw [show Try.prog.cellsOf 33 = 1 from by kernel_rfl] at hy0_0; exact hy0_0
  obtain ⟨w0_0, I0_0, hk0_0, hl0_0, hi0_0, hs0_0⟩ := open_rows (n := 12) (sch := [.fl .f32, .fl .f32, .fl .f32, .fl .f32, .fl .f32, .fl .f32, .fl .f32, .fl .f32, .fl .f32, .fl .f32, .fl .f32, .fl .f32, .fl .f32, .fl .f32, .fl .f32, .fl .f32, .fl .f32, .fl .f32]) Try.underlying33 (by kernel_rfl) (by kernel_rfl) (by decide) hy0_0 (agg_spot (i := 0) (by kernel_rfl) hv0 rfl)
  obtain ⟨y0_1, hy0_1⟩ := hfl0 1 _ rfl
  replace hy0_1 : DataW.trod enc Try.prog W 0 (fun _ => true) true fv0 22 [c0_1] = some y0_1 := by rw [show Try.prog.cellsOf 22 = 1 from by kernel_rfl] at hy0_1; exact hy0_1
  obtain ⟨a0_1, rfl, wa0_1⟩ := open_float Try.underlying22 hy0_1
  obtain ⟨y0_2, hy0_2⟩ := hfl0 2 _ rfl
  replace hy0_2 : DataW.trod enc Try.prog W 0 (fun _ => true) true fv0 22 [c0_2] = some y0_2 := by rw [show Try.prog.cellsOf 22 = 1 from by kernel_rfl] at hy0_2; exact hy0_2
  obtain ⟨a0_2, rfl, wa0_2⟩ := open_float Try.underlying22 hy0_2
  obtain ⟨y0_3, hy0_3⟩ := hfl0 3 _ rfl
  replace hy0_3 : DataW.trod enc Try.prog W 0 (fun _ => true) true fv0 34 [c0_3] = some y0_3 := by rw [show Try.prog.cellsOf 34 = 1 from by kernel_rfl] at hy0_3; exact hy0_3
  obtain ⟨a0_3, rfl, wa0_3⟩ := open_int Try.underlying34 hy0_3
  obtain ⟨y0_4, hy0_4⟩ := hfl0 4 _ rfl
  replace hy0_4 : DataW.trod enc Try.prog W 0 (fun _ => true) true fv0 2 [c0_4] = some y0_4 := by rw [show Try.prog.cellsOf 2 = 1 from by kernel_rfl] at hy0_4; exact hy0_4
  obtain ⟨a0_4, rfl, wa0_4⟩ := open_int Try.underlying2 hy0_4
  obtain ⟨y0_5, hy0_5⟩ := hfl0 5 _ rfl
  replace hy0_5 : DataW.trod enc Try.prog W 0 (fun _ => true) true fv0 22 [c0_5] = some y0_5 := by rw [show Try.prog.cellsOf 22 = 1 from by kernel_rfl] at hy0_5; exact hy0_5
  obtain ⟨a0_5, rfl, wa0_5⟩ := open_float Try.underlying22 hy0_5
  clear hA0 hval0
  have hplain : r7 a0_1 a0_2 a0_3 a0_4 a0_5 w0_0 = (0, true) := plain7 a0_1 a0_2 a0_3 a0_4 a0_5 w0_0 wa0_1 wa0_2 wa0_3 wa0_4 wa0_5 hk0_0 hl0_0
  have hw := ok47 7 [.agg #[wsl 0, .float .f32 a0_1, .float .f32 a0_2, .int .i8 a0_3, .int .i64 a0_4, .float .f32 a0_5]] ⟨[⟨false, some (.tab [.fl .f32, .fl .f32, .fl .f32, .fl .f32, .fl .f32, .fl .f32, .fl .f32, .fl .f32, .fl .f32, .fl .f32, .fl .f32, .fl .f32, .fl .f32, .fl .f32, .fl .f32, .fl .f32, .fl .f32, .fl .f32] w0_0)⟩], 1, []⟩ (.bool true) ⟨[⟨false, some (.tab [.fl .f32, .fl .f32, .fl .f32, .fl .f32, .fl .f32, .fl .f32, .fl .f32, .fl .f32, .fl .f32, .fl .f32, .fl .f32, .fl .f32, .fl .f32, .fl .f32, .fl .f32, .fl .f32, .fl .f32, .fl .f32] w0_0)⟩], 1, []⟩ rfl rfl (by rw [show firstT (T47 7 [.agg #[wsl 0, .float .f32 a0_1, .float .f32 a0_2, .int .i8 a0_3, .int .i64 a0_4, .float .f32 a0_5]] ⟨[⟨false, some (.tab [.fl .f32, .fl .f32, .fl .f32, .fl .f32, .fl .f32, .fl .f32, .fl .f32, .fl .f32, .fl .f32, .fl .f32, .fl .f32, .fl .f32, .fl .f32, .fl .f32, .fl .f32, .fl .f32, .fl .f32, .fl .f32] w0_0)⟩], 1, []⟩) = firstT [((Nat.beq ((r7 a0_1 a0_2 a0_3 a0_4 a0_5 w0_0).1) 0), .bool ((r7 a0_1 a0_2 a0_3 a0_4 a0_5 w0_0).2), ⟨[⟨false, (some (.tab sc0 w0_0))⟩], 1, []⟩)] from rfl, hplain]; rfl)
  refine (law_heap (args' := #[_]) (L := [(.tab [.fl .f32, .fl .f32, .fl .f32, .fl .f32, .fl .f32, .fl .f32, .fl .f32, .fl .f32, .fl .f32, .fl .f32, .fl .f32, .fl .f32, .fl .f32, .fl .f32, .fl .f32, .fl .f32, .fl .f32, .fl .f32] w0_0, I0_0)]) hw W ?_ (L2.mk (vrel_agg (L2.mk (hs0_0.rel (by simp) rfl) (L2.mk (crel_fl _ _) (L2.mk (crel_fl _ _) (L2.mk (crel_int _ _) (L2.mk (crel_int _ _) (L2.mk (crel_fl _ _) L2.nil))))))) L2.nil)).mono fun e W' ⟨he, bel⟩ => ?_
  · intro p hp
    simp only [List.mem_cons, List.not_mem_nil, or_false] at hp
    rcases hp with rfl
    · exact hi0_0
  subst he
  exact ⟨_, rfl, _, _, _, [], _, [], hW', trodAll_mk1 (shut_bool Try.underlying4 _), (trodAll_cons_mk (Below.trod laidOut (by kernel_rfl) (of_decide_eq_true (by kernel_rfl)) k0 bel lt0) trodAll_mk0), rfl, bel.frame _, fun h => by cases h⟩
theorem over : Rows.fnExactDropSpentRow.holds Try.pinned (OpenSpec.ofChange Rows.fnExactDropSpentSpec) :=
  OpenClaim.holds_of_wide 7 Try.f7 rfl rfl rfl rfl rfl rfl rfl ⟨rfl, rfl, rfl, rfl, rfl⟩ rfl rfl rfl rfl rfl (by kernel_rfl) Try.func7 (by kernel_rfl)
    (of_decide_eq_true (by kernel_rfl)) (by unfold Func.isWrapper; first | (rw [if_pos (by decide +kernel)]; kernel_rfl) | (rw [if_neg (by decide +kernel)]; exact ⟨rfl, rfl⟩))
    (fun os started H enc _ => lifted os started H enc)
end fnExactDropSpentDone
/-- THE STATEMENT -/
theorem fnExactDropSpentProved : Rows.FnExactDropSpentSaid := fnExactDropSpentDone.over
#print axioms fnExactDropSpentProved
end Go.Proofs.Ytbmagccjcccnaaa
