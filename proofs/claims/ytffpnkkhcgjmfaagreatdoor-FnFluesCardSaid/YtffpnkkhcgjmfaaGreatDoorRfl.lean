/- FnFlues returns true for every input, and each argument reads afterwards as it read before. -/
import Derived.Test.YtffpnkkhcgjmfaaGreatDoorA41
import Derived.Test.YtffpnkkhcgjmfaaGreatDoorPfl1
import Derived.Test.YtffpnkkhcgjmfaaGreatDoorCards
import Derived.Test.YtffpnkkhcgjmfaaGreatDoorTie
import Derived.LaidMore
import Derived.Lay
import Derived.SevenTiedAt
import Derived.Stop.Joined
import Derived.Test.YtffpnkkhcgjmfaaGreatDoorRows
import Derived.WalkKit
import Derived.ProofKit
import Derived.OpenShut
import Derived.ShutString
import Derived.ChangeOld
import Derived.Below
namespace Go.Proofs.YtffpnkkhcgjmfaaGreatDoor
open Go.Ab Go.ChangeShapes Go.WideShapes Go.ChangeAt Go.RowKit
set_option linter.unusedVariables false
namespace fnFluesDone
theorem own : ownKnob Tryz.prog.godebug = none := by kernel_rfl
theorem laidOut : laidOutB Tryz.prog = true := by kernel_rfl
theorem gg {W : World} (h : laidMetH Tryz.prog Rows.fnFluesRow.laid W) : GG Tryz.prog W := gg_of h (by kernel_rfl) 2 5 4 (by kernel_rfl) ⟨_, _, rfl⟩ ⟨_, _, rfl⟩ (by kernel_rfl) (by kernel_rfl) (by kernel_rfl)
set_option maxRecDepth 100000 in
theorem lifted (os : Os) (started : os.Started) (H : Type) (enc : TypeId × Value → H) :
    ReturnsInHanded {} Tryz.checked os 4 .any (fun w args => (Rows.fnFluesSpec.pre enc Tryz.prog Tryz.f4 Rows.fnFluesRow.domain false w args ∧ laidMetH Tryz.prog Rows.fnFluesRow.laid w) ∧ sizedMet enc Tryz.prog Tryz.f4 (OpenSpec.ofChange Rows.fnFluesSpec) false w args)
      (Rows.fnFluesSpec.post enc Tryz.prog Tryz.f4 false true false false) := by
  refine returnsInHanded_of_change_and (C := Tryz.checked) (X := fun w _ => laidMetH Tryz.prog Rows.fnFluesRow.laid w) (fun _ _ _ hh h => h.of_heap hh) own started (by kernel_rfl) Tryz.func4
    (ChangeSpec.witness_shaped (enc := enc) (C := Tryz.checked) (os := os) (X := fun w _ => laidMetH Tryz.prog Rows.fnFluesRow.laid w) false (World.laidAll Tryz.prog os Rows.fnFluesRow.laid) #[.slice none 0 0, .slice none 0 0] 8 (World.laidAll_os _ _ _)
      (World.shaped_of_ZipB (by kernel_rfl) (by kernel_rfl)) (by kernel_rfl) (by kernel_rfl) (by kernel_rfl)
      (by rw [MakeChecks.laidMetH_plain _ _ _ (by kernel_rfl)]; exact laidMet_laidAll _ (by kernel_rfl) (by kernel_rfl))) ?_
  intro W base args ds gs before hval0 hW hcnd _ hL _
  have hval : ∀ (j : Nat) t v, Tryz.f4.params[j]? = some t → args[j]? = some v → Value.okWide Tryz.prog W .any base t v := hval0
  have hW' := hW
  obtain ⟨p, q, hA0, hV, rfl, hfz, hnd⟩ := hW
  have hA : DataW.TrodAll enc Tryz.prog W 0 (fun _ => true) true Tryz.f4.params.toList args.toList ds p := hA0
  rw [Tryz.params4] at hA hval
  obtain ⟨v0, vs0, d0, ds0, p0, q0, hargs, rfl, rfl, h0, r0⟩ := trodAll_cons hA
  obtain ⟨v1, vs1, d1, ds1, p1, q1, rfl, rfl, rfl, h1, r1⟩ := trodAll_cons r0
  obtain ⟨rfl, rfl, rfl⟩ := trodAll_nil r1
  obtain rfl : args = #[v0, v1] := by cases args; simp_all
  obtain ⟨rfl, rfl⟩ := trodVars_none hV
  have k0 := h0
  have lt0 : ∀ x ∈ p0, x.block < W.heap.size := by obtain ⟨m, hm⟩ := k0; exact DataW.trod_lt m _ _ _ hm
  have k1 := h1
  have lt1 : ∀ x ∈ p1, x.block < W.heap.size := by obtain ⟨m, hm⟩ := k1; exact DataW.trod_lt m _ _ _ hm
  have hv0 := hval 0 28 v0 rfl rfl
  obtain ⟨pa0, pl0, pk0, rfl⟩ := okWide_slice Tryz.underlying28 hv0
  obtain ⟨fu0, hf0⟩ := h0
  obtain ⟨w0_0, I0_0, hk0_0, hl0_0, hi0_0, hs0_0⟩ := open_rows (n := 12) (sch := [.int .u8]) Tryz.underlying28 (by kernel_rfl) (by kernel_rfl) (by decide) (v := .slice pa0 pl0 pk0) hf0 (top_spot (by kernel_rfl) hv0)
  have hv1 := hval 1 28 v1 rfl rfl
  obtain ⟨pa1, pl1, pk1, rfl⟩ := okWide_slice Tryz.underlying28 hv1
  obtain ⟨fu1, hf1⟩ := h1
  obtain ⟨w1_0, I1_0, hk1_0, hl1_0, hi1_0, hs1_0⟩ := open_rows (n := 12) (sch := [.int .u8]) Tryz.underlying28 (by kernel_rfl) (by kernel_rfl) (by decide) (v := .slice pa1 pl1 pk1) hf1 (top_spot (by kernel_rfl) hv1)
  clear hA0 hval0
  have hplain : r4 w0_0 w1_0 = (0, true) := plain4 w0_0 w1_0 hk0_0 hl0_0 hk1_0 hl1_0
  have hw := ok67 4 [wsl 0, wsl 1] ⟨[⟨false, some (.tab [.int .u8] w0_0)⟩, ⟨false, some (.tab [.int .u8] w1_0)⟩], 2, []⟩ (.bool true) ⟨[⟨false, some (.tab [.int .u8] w0_0)⟩, ⟨false, some (.tab [.int .u8] w1_0)⟩], 2, []⟩ rfl rfl (by rw [show firstT (T67 4 [wsl 0, wsl 1] ⟨[⟨false, some (.tab [.int .u8] w0_0)⟩, ⟨false, some (.tab [.int .u8] w1_0)⟩], 2, []⟩) = firstT [((Nat.beq ((r4 w0_0 w1_0).1) 0), .bool ((r4 w0_0 w1_0).2), ⟨[⟨false, (some (.tab [.int .u8] w0_0))⟩, ⟨false, (some (.tab [.int .u8] w1_0))⟩], 2, []⟩)] from rfl, hplain]; rfl)
  refine (law_heap (args' := #[_, _]) (L := [(.tab [.int .u8] w0_0, I0_0), (.tab [.int .u8] w1_0, I1_0)]) hw W ?_ (L2.mk (vrel_c (hs0_0.rel (by simp) rfl)) (L2.mk (vrel_c (hs1_0.rel (by simp) rfl)) L2.nil)) (gg hL)).mono fun e W' ⟨he, bel⟩ => ?_
  · intro p hp
    simp only [List.mem_cons, List.not_mem_nil, or_false] at hp
    rcases hp with rfl | rfl
    · exact hi0_0
    · exact hi1_0
  subst he
  exact ⟨_, rfl, _, _, _, [], _, [], hW', trodAll_mk1 (shut_bool Tryz.underlying4 _), (trodAll_cons_mk (Below.trod laidOut (by kernel_rfl) (of_decide_eq_true (by kernel_rfl)) k0 bel lt0) (trodAll_cons_mk (Below.trod laidOut (by kernel_rfl) (of_decide_eq_true (by kernel_rfl)) k1 bel lt1) trodAll_mk0)), rfl, bel.frame _, fun h => by cases h⟩
theorem over : Rows.fnFluesRow.holds Tryz.pinned (OpenSpec.ofChange Rows.fnFluesSpec) :=
  OpenClaim.holds_of_wide 4 Tryz.f4 rfl rfl rfl rfl rfl rfl rfl ⟨rfl, rfl, rfl, rfl, rfl⟩ rfl rfl rfl rfl rfl (by kernel_rfl) Tryz.func4 (by kernel_rfl)
    (of_decide_eq_true (by kernel_rfl)) (by unfold Func.isWrapper; first | (rw [if_pos (by decide +kernel)]; kernel_rfl) | (rw [if_neg (by decide +kernel)]; exact ⟨rfl, rfl⟩))
    (fun os started H enc _ => lifted os started H enc)
theorem cardOver : Rows.FnFluesCardSaid :=
  Claim7.holds_tied_plain_at .later [] [.data, .data, .data, .data, .sentinel, .sentinel, .pinned] true (true, "fe51d264a6f4ea1a7b1ab4e27e6f82777a63935095e26e400a3db140209b142b") true over (fun _ h => by cases h) (by kernel_rfl) (fun _ h => by cases h) fnFlues_row_tie rfl ⟨rfl, rfl⟩ (by kernel_rfl) rfl
    (fun f fn hf hfn => by
      obtain rfl : f = 4 := Option.some.inj ((show Tryz.prog.funcNamed Rows.fnFluesRow.func = some 4 by kernel_rfl).symm.trans hf) |>.symm
      obtain rfl : fn = Tryz.f4 := (Option.some.inj (Tryz.func4.symm.trans hfn)).symm
      exact ⟨by kernel_rfl, fun j t ht => by
        rw [Tryz.params4] at ht
        have hm : t ∈ [28, 28] := by simpa using Array.mem_of_getElem? ht
        have hall : ([28, 28].all fun u => !Tryz.prog.wantsStandIn u) = true := by kernel_rfl
        exact (show Tryz.prog.wantsStandIn t = false by simpa using List.all_eq_true.1 hall t hm)⟩)
    (by kernel_rfl)
end fnFluesDone
/-- THE STATEMENT -/
theorem fnFluesProved : Rows.FnFluesCardSaid := fnFluesDone.cardOver
#print axioms fnFluesProved
end Go.Proofs.YtffpnkkhcgjmfaaGreatDoor
