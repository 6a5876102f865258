/- FnExactProgramText returns true for every input, and each argument reads afterwards as it read before. -/
import Derived.Test.YtffpnkkhcgjmfaaDoorPpt2
import Derived.Test.YtffpnkkhcgjmfaaDoorCards
import Derived.Test.YtffpnkkhcgjmfaaDoorTie
import Derived.LaidMore
import Derived.Lay
import Derived.SevenTiedAt
import Derived.Stop.Joined
import Derived.Test.YtffpnkkhcgjmfaaDoorRows
import Derived.WalkKit
import Derived.ProofKit
import Derived.OpenShut
import Derived.ShutString
import Derived.ChangeOld
import Derived.Below
namespace Go.Proofs.YtffpnkkhcgjmfaaDoor
open Go.Ab Go.ChangeShapes Go.WideShapes Go.ChangeAt Go.RowKit
set_option linter.unusedVariables false
namespace fnExactProgramTextDone
theorem own : ownKnob Tryd.prog.godebug = none := by kernel_rfl
theorem laidOut : laidOutB Tryd.prog = true := by kernel_rfl
set_option maxRecDepth 100000 in
theorem lifted (os : Os) (started : os.Started) (H : Type) (enc : TypeId × Value → H) :
    ReturnsInHanded {} Tryd.checked os 3 .any (fun w args => (Rows.fnExactProgramTextSpec.pre enc Tryd.prog Tryd.f3 Rows.fnExactProgramTextRow.domain false w args ∧ laidMetH Tryd.prog Rows.fnExactProgramTextRow.laid w) ∧ sizedMet enc Tryd.prog Tryd.f3 (OpenSpec.ofChange Rows.fnExactProgramTextSpec) false w args)
      (Rows.fnExactProgramTextSpec.post enc Tryd.prog Tryd.f3 false true false false) := by
  refine returnsInHanded_of_change_and (C := Tryd.checked) (X := fun w _ => laidMetH Tryd.prog Rows.fnExactProgramTextRow.laid w) (fun _ _ _ hh h => h.of_heap hh) own started (by kernel_rfl) Tryd.func3
    (ChangeSpec.witness_shaped (enc := enc) (C := Tryd.checked) (os := os) (X := fun w _ => laidMetH Tryd.prog Rows.fnExactProgramTextRow.laid w) false (World.laidAll Tryd.prog os Rows.fnExactProgramTextRow.laid) #[.agg #[.slice none 0 0, .slice none 0 0]] 8 (World.laidAll_os _ _ _)
      (World.shaped_of_ZipB (by kernel_rfl) (by kernel_rfl)) (by kernel_rfl) (by kernel_rfl) (by kernel_rfl)
      (by rw [MakeChecks.laidMetH_plain _ _ _ (by kernel_rfl)]; exact laidMet_laidAll _ (by kernel_rfl) (by kernel_rfl))) ?_
  intro W base args ds gs before hval0 hW hcnd _ hL _
  have hval : ∀ (j : Nat) t v, Tryd.f3.params[j]? = some t → args[j]? = some v → Value.okWide Tryd.prog W .any base t v := hval0
  have hW' := hW
  obtain ⟨p, q, hA0, hV, rfl, hfz, hnd⟩ := hW
  have hA : DataW.TrodAll enc Tryd.prog W 0 (fun _ => true) true Tryd.f3.params.toList args.toList ds p := hA0
  rw [Tryd.params3] at hA hval
  obtain ⟨v0, vs0, d0, ds0, p0, q0, hargs, rfl, rfl, h0, r0⟩ := trodAll_cons hA
  obtain ⟨rfl, rfl, rfl⟩ := trodAll_nil r0
  obtain rfl : args = #[v0] := by cases args; simp_all
  obtain ⟨rfl, rfl⟩ := trodVars_none hV
  have k0 := h0
  have lt0 : ∀ x ∈ p0, x.block < W.heap.size := by obtain ⟨m, hm⟩ := k0; exact DataW.trod_lt m _ _ _ hm
  have hv0 := hval 0 25 v0 rfl rfl
  obtain ⟨l0, rfl⟩ := agg_of (by kernel_rfl) hv0
  obtain ⟨fu0, hf0⟩ := h0
  obtain ⟨hln0, fv0, hfl0⟩ := trod_struct (cs := l0) Tryd.underlying25 hf0
  rw [show Tryd.prog.cellsOf 25 = 2 from by kernel_rfl] at hln0
  obtain ⟨c0_0, m0_0, rfl, hm0_0⟩ := cons_of hln0
  obtain ⟨c0_1, m0_1, rfl, hm0_1⟩ := cons_of hm0_0
  obtain rfl := nil_of hm0_1
  obtain ⟨y0_0, hy0_0⟩ := hfl0 0 _ rfl
  replace hy0_0 : DataW.trod enc Tryd.prog W 0 (fun _ => true) true fv0 22 [c0_0] = some y0_0 := by rw [show Tryd.prog.cellsOf 22 = 1 from by kernel_rfl] at hy0_0; exact hy0_0
  obtain ⟨w0_0, I0_0, hk0_0, hl0_0, hi0_0, hs0_0⟩ := open_strs Tryd.underlying22 Tryd.underlying9 (by kernel_rfl) hy0_0 (agg_spot (i := 0) (by kernel_rfl) hv0 rfl)
  obtain ⟨y0_1, hy0_1⟩ := hfl0 1 _ rfl
  replace hy0_1 : DataW.trod enc Tryd.prog W 0 (fun _ => true) true fv0 23 [c0_1] = some y0_1 := by rw [show Tryd.prog.cellsOf 23 = 1 from by kernel_rfl] at hy0_1; exact hy0_1
  obtain ⟨w0_1, I0_1, hk0_1, hl0_1, hi0_1, hs0_1⟩ := open_rows (n := 12) (sch := [.int .i8, .int .i16, .fl .f32]) Tryd.underlying23 (by kernel_rfl) (by kernel_rfl) (by decide) hy0_1 (agg_spot (i := 1) (by kernel_rfl) hv0 rfl)
  clear hA0 hval0
  have hplain : r3 w0_0 w0_1 = (0, true) := plain3 w0_0 w0_1 hk0_0 hl0_0 hk0_1 hl0_1
  have hw := ok44 3 [.agg #[wsl 0, wsl 1]] ⟨[⟨false, some (.strs w0_0)⟩, ⟨false, some (.tab [.int .i8, .int .i16, .fl .f32] w0_1)⟩], 2, []⟩ (.bool true) ⟨[⟨false, some (.strs w0_0)⟩, ⟨false, some (.tab [.int .i8, .int .i16, .fl .f32] w0_1)⟩], 2, []⟩ rfl rfl (by rw [show firstT (T44 3 [.agg #[wsl 0, wsl 1]] ⟨[⟨false, some (.strs w0_0)⟩, ⟨false, some (.tab [.int .i8, .int .i16, .fl .f32] w0_1)⟩], 2, []⟩) = firstT [((Nat.beq ((r3 w0_0 w0_1).1) 0), .bool ((r3 w0_0 w0_1).2), ⟨[⟨false, (some (.strs w0_0))⟩, ⟨false, (some (.tab [.int .i8, .int .i16, .fl .f32] w0_1))⟩], 2, []⟩)] from rfl, hplain]; rfl)
  refine (law_heap (args' := #[_]) (L := [(.strs w0_0, I0_0), (.tab [.int .i8, .int .i16, .fl .f32] w0_1, I0_1)]) hw W ?_ (L2.mk (vrel_agg (L2.mk (hs0_0.rel (by simp) rfl) (L2.mk (hs0_1.rel (by simp) rfl) L2.nil))) L2.nil)).mono fun e W' ⟨he, bel⟩ => ?_
  · intro p hp
    simp only [List.mem_cons, List.not_mem_nil, or_false] at hp
    rcases hp with rfl | rfl
    · exact hi0_0
    · exact hi0_1
  subst he
  exact ⟨_, rfl, _, _, _, [], _, [], hW', trodAll_mk1 (shut_bool Tryd.underlying4 _), (trodAll_cons_mk (Below.trod laidOut (by kernel_rfl) (of_decide_eq_true (by kernel_rfl)) k0 bel lt0) trodAll_mk0), rfl, bel.frame _, fun h => by cases h⟩
theorem over : Rows.fnExactProgramTextRow.holds Tryd.pinned (OpenSpec.ofChange Rows.fnExactProgramTextSpec) :=
  OpenClaim.holds_of_wide 3 Tryd.f3 rfl rfl rfl rfl rfl rfl rfl ⟨rfl, rfl, rfl, rfl, rfl⟩ rfl rfl rfl rfl rfl (by kernel_rfl) Tryd.func3 (by kernel_rfl)
    (of_decide_eq_true (by kernel_rfl)) (by unfold Func.isWrapper; first | (rw [if_pos (by decide +kernel)]; kernel_rfl) | (rw [if_neg (by decide +kernel)]; exact ⟨rfl, rfl⟩))
    (fun os started H enc _ => lifted os started H enc)
theorem cardOver : Rows.FnExactProgramTextCardSaid :=
  Claim7.holds_tied_plain_at .later [] [.data, .data, .data] true (true, "c4eb9b9aa1bce00e24b30eb745a20086b0248f2aadecfe5b096d99b5f10c0c48") false over (fun _ h => by cases h) (by kernel_rfl) (fun _ h => by cases h) fnExactProgramText_row_tie rfl ⟨rfl, rfl⟩ (by kernel_rfl) rfl
    (fun f fn hf hfn => by
      obtain rfl : f = 3 := Option.some.inj ((show Tryd.prog.funcNamed Rows.fnExactProgramTextRow.func = some 3 by kernel_rfl).symm.trans hf) |>.symm
      obtain rfl : fn = Tryd.f3 := (Option.some.inj (Tryd.func3.symm.trans hfn)).symm
      exact ⟨by kernel_rfl, fun j t ht => by
        rw [Tryd.params3] at ht
        have hm : t ∈ [25] := by simpa using Array.mem_of_getElem? ht
        have hall : ([25].all fun u => !Tryd.prog.wantsStandIn u) = true := by kernel_rfl
        exact (show Tryd.prog.wantsStandIn t = false by simpa using List.all_eq_true.1 hall t hm)⟩)
    (by kernel_rfl)
end fnExactProgramTextDone
/-- THE STATEMENT -/
theorem fnExactProgramTextProved : Rows.FnExactProgramTextCardSaid := fnExactProgramTextDone.cardOver
#print axioms fnExactProgramTextProved
end Go.Proofs.YtffpnkkhcgjmfaaDoor
