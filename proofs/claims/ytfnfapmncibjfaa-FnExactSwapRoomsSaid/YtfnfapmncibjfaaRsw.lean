/- FnExactSwapRooms returns true for every input, and each argument reads afterwards as it read before. -/
import Derived.Test.YtfnfapmncibjfaaPsw4
import Derived.Test.YtfnfapmncibjfaaRows
import Derived.WalkKit
import Derived.ProofKit
import Derived.OpenShut
import Derived.ShutString
import Derived.ChangeOld
import Derived.Below
namespace Go.Proofs.Ytfnfapmncibjfaa
open Go.Ab Go.ChangeShapes Go.WideShapes Go.ChangeAt Go.RowKit
set_option linter.unusedVariables false
namespace fnExactSwapRoomsDone
theorem own : ownKnob Try.prog.godebug = none := by kernel_rfl
theorem laidOut : laidOutB Try.prog = true := by kernel_rfl
set_option maxRecDepth 100000 in
theorem lifted (os : Os) (started : os.Started) (H : Type) (enc : TypeId × Value → H) :
    ReturnsInHanded {} Try.checked os 7 .any (Rows.fnExactSwapRoomsSpec.pre6 enc Try.prog Try.f7 Rows.fnExactSwapRoomsRow.domain false) (Rows.fnExactSwapRoomsSpec.post enc Try.prog Try.f7 false true false false) := by
  refine returnsInHanded_of_change (C := Try.checked) own started (by kernel_rfl) Try.func7
    (ChangeSpec.witness6 (enc := enc) (C := Try.checked) false ⟨#[], #[.agg #[.slice none 0 0, .slice none 0 0, .slice none 0 0, .slice none 0 0], .int .i64 0, .int .i64 0], []⟩ 8 (by kernel_rfl) (by kernel_rfl) (by kernel_rfl) (by kernel_rfl)) ?_
  intro W base args ds gs before hval0 hW hcnd _
  have hval : ∀ (j : Nat) t v, Try.f7.params[j]? = some t → args[j]? = some v → Value.okWide Try.prog W .any base t v := hval0
  have hW' := hW
  obtain ⟨p, q, hA0, hV, rfl, hfz, hnd⟩ := hW
  have hA : DataW.TrodAll enc Try.prog W 0 (fun _ => true) true Try.f7.params.toList args.toList ds p := hA0
  rw [Try.params7] at hA hval
  obtain ⟨v0, vs0, d0, ds0, p0, q0, hargs, rfl, rfl, h0, r0⟩ := trodAll_cons hA
  obtain ⟨v1, vs1, d1, ds1, p1, q1, rfl, rfl, rfl, h1, r1⟩ := trodAll_cons r0
  obtain ⟨v2, vs2, d2, ds2, p2, q2, rfl, rfl, rfl, h2, r2⟩ := trodAll_cons r1
  obtain ⟨rfl, rfl, rfl⟩ := trodAll_nil r2
  obtain rfl : args = #[v0, v1, v2] := by cases args; simp_all
  obtain ⟨rfl, rfl⟩ := trodVars_none hV
  have k0 := h0
  have lt0 : ∀ x ∈ p0, x.block < W.heap.size := by obtain ⟨m, hm⟩ := k0; exact DataW.trod_lt m _ _ _ hm
  have k1 := h1
  have lt1 : ∀ x ∈ p1, x.block < W.heap.size := by obtain ⟨m, hm⟩ := k1; exact DataW.trod_lt m _ _ _ hm
  have k2 := h2
  have lt2 : ∀ x ∈ p2, x.block < W.heap.size := by obtain ⟨m, hm⟩ := k2; exact DataW.trod_lt m _ _ _ hm
  have hv0 := hval 0 49 v0 rfl rfl
  obtain ⟨l0, rfl⟩ := agg_of (by kernel_rfl) hv0
  obtain ⟨fu0, hf0⟩ := h0
  obtain ⟨hln0, fv0, hfl0⟩ := trod_struct (cs := l0) Try.underlying49 hf0
  rw [show Try.prog.cellsOf 49 = 4 from by kernel_rfl] at hln0
  obtain ⟨c0_0, m0_0, rfl, hm0_0⟩ := cons_of hln0
  obtain ⟨c0_1, m0_1, rfl, hm0_1⟩ := cons_of hm0_0
  obtain ⟨c0_2, m0_2, rfl, hm0_2⟩ := cons_of hm0_1
  obtain ⟨c0_3, m0_3, rfl, hm0_3⟩ := cons_of hm0_2
  obtain rfl := nil_of hm0_3
  obtain ⟨y0_0, hy0_0⟩ := hfl0 0 _ rfl
  replace hy0_0 : DataW.trod enc Try.prog W 0 (fun _ => true) true fv0 24 [c0_0] = some y0_0 := by rw [show Try.prog.cellsOf 24 = 1 from by kernel_rfl] at hy0_0; exact hy0_0
  obtain ⟨w0_0, I0_0, hk0_0, hl0_0, hi0_0, hs0_0⟩ := open_rows (n := 12) (sch := [.fl .f32]) Try.underlying24 (by kernel_rfl) (by kernel_rfl) (by decide) hy0_0 (agg_spot (i := 0) (by kernel_rfl) hv0 rfl)
  obtain ⟨y0_1, hy0_1⟩ := hfl0 1 _ rfl
  replace hy0_1 : DataW.trod enc Try.prog W 0 (fun _ => true) true fv0 24 [c0_1] = some y0_1 := by rw [show Try.prog.cellsOf 24 = 1 from by kernel_rfl] at hy0_1; exact hy0_1
  obtain ⟨w0_1, I0_1, hk0_1, hl0_1, hi0_1, hs0_1⟩ := open_rows (n := 12) (sch := [.fl .f32]) Try.underlying24 (by kernel_rfl) (by kernel_rfl) (by decide) hy0_1 (agg_spot (i := 1) (by kernel_rfl) hv0 rfl)
  obtain ⟨y0_2, hy0_2⟩ := hfl0 2 _ rfl
  replace hy0_2 : DataW.trod enc Try.prog W 0 (fun _ => true) true fv0 46 [c0_2] = some y0_2 := by rw [show Try.prog.cellsOf 46 = 1 from by kernel_rfl] at hy0_2; exact hy0_2
  obtain ⟨w0_2, I0_2, hk0_2, hl0_2, hi0_2, hs0_2⟩ := open_rows (n := 12) (sch := [.int .i64, .int .i64, .fl .f32, .fl .f32, .fl .f32, .fl .f32, .fl .f32, .fl .f32]) Try.underlying46 (by kernel_rfl) (by kernel_rfl) (by decide) hy0_2 (agg_spot (i := 2) (by kernel_rfl) hv0 rfl)
  obtain ⟨y0_3, hy0_3⟩ := hfl0 3 _ rfl
  replace hy0_3 : DataW.trod enc Try.prog W 0 (fun _ => true) true fv0 47 [c0_3] = some y0_3 := by rw [show Try.prog.cellsOf 47 = 1 from by kernel_rfl] at hy0_3; exact hy0_3
  obtain ⟨w0_3, I0_3, hk0_3, hl0_3, hi0_3, hs0_3⟩ := open_rows (n := 12) (sch := [.int .i64, .int .i64, .fl .f32, .fl .f32]) Try.underlying47 (by kernel_rfl) (by kernel_rfl) (by decide) hy0_3 (agg_spot (i := 3) (by kernel_rfl) hv0 rfl)
  obtain ⟨a1, rfl⟩ := okWide_int Try.underlying2 (hval 1 2 v1 rfl rfl)
  obtain ⟨fu1, hf1⟩ := h1
  obtain ⟨_, he1, wa1⟩ := open_int (k := .i64) (v := .int .i64 a1) Try.underlying2 hf1
  cases he1
  obtain ⟨a2, rfl⟩ := okWide_int Try.underlying2 (hval 2 2 v2 rfl rfl)
  obtain ⟨fu2, hf2⟩ := h2
  obtain ⟨_, he2, wa2⟩ := open_int (k := .i64) (v := .int .i64 a2) Try.underlying2 hf2
  cases he2
  clear hA0 hval0
  have hplain : r7 a1 a2 w0_0 w0_1 w0_2 w0_3 = (0, true) := plain7 a1 a2 w0_0 w0_1 w0_2 w0_3 wa1 wa2 hk0_0 hl0_0 hk0_1 hl0_1 hk0_2 hl0_2 hk0_3 hl0_3
  have hw := ok74 7 [.agg #[wsl 0, wsl 1, wsl 2, wsl 3], .int .i64 a1, .int .i64 a2] ⟨[⟨false, some (.tab [.fl .f32] w0_0)⟩, ⟨false, some (.tab [.fl .f32] w0_1)⟩, ⟨false, some (.tab [.int .i64, .int .i64, .fl .f32, .fl .f32, .fl .f32, .fl .f32, .fl .f32, .fl .f32] w0_2)⟩, ⟨false, some (.tab [.int .i64, .int .i64, .fl .f32, .fl .f32] w0_3)⟩], 4, []⟩ (.bool true) ⟨[⟨false, some (.tab [.fl .f32] w0_0)⟩, ⟨false, some (.tab [.fl .f32] w0_1)⟩, ⟨false, some (.tab [.int .i64, .int .i64, .fl .f32, .fl .f32, .fl .f32, .fl .f32, .fl .f32, .fl .f32] w0_2)⟩, ⟨false, some (.tab [.int .i64, .int .i64, .fl .f32, .fl .f32] w0_3)⟩], 4, []⟩ rfl rfl (by rw [show firstT (T74 7 [.agg #[wsl 0, wsl 1, wsl 2, wsl 3], .int .i64 a1, .int .i64 a2] ⟨[⟨false, some (.tab [.fl .f32] w0_0)⟩, ⟨false, some (.tab [.fl .f32] w0_1)⟩, ⟨false, some (.tab [.int .i64, .int .i64, .fl .f32, .fl .f32, .fl .f32, .fl .f32, .fl .f32, .fl .f32] w0_2)⟩, ⟨false, some (.tab [.int .i64, .int .i64, .fl .f32, .fl .f32] w0_3)⟩], 4, []⟩) = firstT [((Nat.beq ((r7 a1 a2 w0_0 w0_1 w0_2 w0_3).1) 0), .bool ((r7 a1 a2 w0_0 w0_1 w0_2 w0_3).2), ⟨[⟨false, (some (.tab [.fl .f32] w0_0))⟩, ⟨false, (some (.tab [.fl .f32] w0_1))⟩, ⟨false, (some (.tab sc0 w0_2))⟩, ⟨false, (some (.tab sc1 w0_3))⟩], 4, []⟩)] from rfl, hplain]; rfl)
  refine (law_heap (args' := #[_, _, _]) (L := [(.tab [.fl .f32] w0_0, I0_0), (.tab [.fl .f32] w0_1, I0_1), (.tab [.int .i64, .int .i64, .fl .f32, .fl .f32, .fl .f32, .fl .f32, .fl .f32, .fl .f32] w0_2, I0_2), (.tab [.int .i64, .int .i64, .fl .f32, .fl .f32] w0_3, I0_3)]) hw W ?_ (L2.mk (vrel_agg (L2.mk (hs0_0.rel (by simp) rfl) (L2.mk (hs0_1.rel (by simp) rfl) (L2.mk (hs0_2.rel (by simp) rfl) (L2.mk (hs0_3.rel (by simp) rfl) L2.nil))))) (L2.mk (vrel_c (crel_int _ _)) (L2.mk (vrel_c (crel_int _ _)) L2.nil)))).mono fun e W' ⟨he, bel⟩ => ?_
  · intro p hp
    simp only [List.mem_cons, List.not_mem_nil, or_false] at hp
    rcases hp with rfl | rfl | rfl | rfl
    · exact hi0_0
    · exact hi0_1
    · exact hi0_2
    · exact hi0_3
  subst he
  exact ⟨_, rfl, _, _, _, [], _, [], hW', trodAll_mk1 (shut_bool Try.underlying4 _), (trodAll_cons_mk (Below.trod laidOut (by kernel_rfl) (of_decide_eq_true (by kernel_rfl)) k0 bel lt0) (trodAll_cons_mk (Below.trod laidOut (by kernel_rfl) (of_decide_eq_true (by kernel_rfl)) k1 bel lt1) (trodAll_cons_mk (Below.trod laidOut (by kernel_rfl) (of_decide_eq_true (by kernel_rfl)) k2 bel lt2) trodAll_mk0))), rfl, bel.frame _, fun h => by cases h⟩
theorem over : Rows.fnExactSwapRoomsRow.holds Try.pinned (OpenSpec.ofChange Rows.fnExactSwapRoomsSpec) :=
  OpenClaim.holds_of_wide 7 Try.f7 rfl rfl rfl rfl rfl rfl rfl ⟨rfl, rfl, rfl, rfl, rfl⟩ rfl rfl rfl rfl rfl (by kernel_rfl) Try.func7 (by kernel_rfl)
    (of_decide_eq_true (by kernel_rfl)) (by unfold Func.isWrapper; first | (rw [if_pos (by decide +kernel)]; kernel_rfl) | (rw [if_neg (by decide +kernel)]; exact ⟨rfl, rfl⟩))
    (fun os started H enc _ => lifted os started H enc)
end fnExactSwapRoomsDone
/-- THE STATEMENT -/
theorem fnExactSwapRoomsProved : Rows.FnExactSwapRoomsSaid := fnExactSwapRoomsDone.over
#print axioms fnExactSwapRoomsProved
end Go.Proofs.Ytfnfapmncibjfaa
