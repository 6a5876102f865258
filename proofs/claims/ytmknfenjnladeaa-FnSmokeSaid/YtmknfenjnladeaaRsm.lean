/- FnSmoke returns true for every input, and each argument reads afterwards as it read before. -/
import Derived.Test.YtmknfenjnladeaaPmf1
import Derived.Test.YtmknfenjnladeaaSm22
import Derived.Test.YtmknfenjnladeaaRows
import Derived.WalkKit
import Derived.ProofKit
import Derived.OpenShut
import Derived.ShutString
import Derived.ChangeOld
import Derived.Below
namespace Go.Proofs.Ytmknfenjnladeaa
open Go.Ab Go.ChangeShapes Go.WideShapes Go.ChangeAt Go.RowKit
set_option linter.unusedVariables false
namespace fnSmokeDone
theorem own : ownKnob Try.prog.godebug = none := by kernel_rfl
theorem gg (W : World) : GG Try.prog W := ⟨.inl (by kernel_rfl),.inl (by kernel_rfl),.inl (by kernel_rfl)⟩
theorem laidOut : laidOutB Try.prog = true := by kernel_rfl
set_option maxRecDepth 100000 in
theorem lifted (os : Os) (started : os.Started) (H : Type) (enc : TypeId × Value → H) :
    ReturnsInHanded {} Try.checked os 6 .any (Rows.fnSmokeSpec.pre6 enc Try.prog Try.f6 Rows.fnSmokeRow.domain false) (Rows.fnSmokeSpec.post enc Try.prog Try.f6 false true false false) := by
  refine returnsInHanded_of_change (C := Try.checked) own started (by kernel_rfl) Try.func6
    (ChangeSpec.witness6 (enc := enc) (C := Try.checked) false ⟨#[],#[.slice none 0 0,.slice none 0 0],[]⟩ 8 (by kernel_rfl) (by kernel_rfl) (by kernel_rfl) (by kernel_rfl)) ?_
  intro W base args ds gs before hval0 hW hcnd _
  have hval : ∀ (j : Nat) t v,Try.f6.params[j]? = some t → args[j]? = some v → Value.okWide Try.prog W .any base t v := hval0
  have hW' := hW
  obtain ⟨p,q,hA0,hV,rfl,hfz,hnd⟩ := hW
  have hA : DataW.TrodAll enc Try.prog W 0 (fun _ => true) true Try.f6.params.toList args.toList ds p := hA0
  rw [Try.params6] at hA hval
  obtain ⟨v0,vs0,d0,ds0,p0,q0,hargs,rfl,rfl,h0,r0⟩ := trodAll_cons hA
  obtain ⟨v1,vs1,d1,ds1,p1,q1,rfl,rfl,rfl,h1,r1⟩ := trodAll_cons r0
  obtain ⟨rfl,rfl,rfl⟩ := trodAll_nil r1
  obtain rfl : args = #[v0,v1] := by cases args; simp_all
  obtain ⟨rfl,rfl⟩ := trodVars_none hV
  have k0 := h0
  have lt0 : ∀ x ∈ p0,x.block < W.heap.size := by obtain ⟨m,hm⟩ := k0; exact DataW.trod_lt m _ _ _ hm
  have k1 := h1
  have lt1 : ∀ x ∈ p1,x.block < W.heap.size := by obtain ⟨m,hm⟩ := k1; exact DataW.trod_lt m _ _ _ hm
  have hv0 := hval 0 22 v0 rfl rfl
  obtain ⟨pa0,pl0,pk0,rfl⟩ := okWide_slice Try.underlying22 hv0
  obtain ⟨fu0,hf0⟩ := h0
  obtain ⟨w0_0,I0_0,hk0_0,hl0_0,hi0_0,hs0_0⟩ := open_rows (n := 12) (sch := [.int .u8]) Try.underlying22 (by kernel_rfl) (by kernel_rfl) (by decide) (v := .slice pa0 pl0 pk0) hf0 (top_spot (by kernel_rfl) hv0)
  have hv1 := hval 1 22 v1 rfl rfl
  obtain ⟨pa1,pl1,pk1,rfl⟩ := okWide_slice Try.underlying22 hv1
  obtain ⟨fu1,hf1⟩ := h1
  obtain ⟨w1_0,I1_0,hk1_0,hl1_0,hi1_0,hs1_0⟩ := open_rows (n := 12) (sch := [.int .u8]) Try.underlying22 (by kernel_rfl) (by kernel_rfl) (by decide) (v := .slice pa1 pl1 pk1) hf1 (top_spot (by kernel_rfl) hv1)
  clear hA0 hval0
  have hplain : r6 w0_0 w1_0 = (0,true) := plain6 w0_0 w1_0 hk0_0 hl0_0 hk1_0 hl1_0
  have hw := ok80 6 [wsl 0,wsl 1] ⟨[⟨false,some (.tab [.int .u8] w0_0)⟩,⟨false,some (.tab [.int .u8] w1_0)⟩],2,[]⟩ (.bool true) ⟨[⟨false,some (.tab [.int .u8] w0_0)⟩,⟨false,some (.tab [.int .u8] w1_0)⟩],2,[]⟩ rfl rfl (by rw [show firstT (T80 6 [wsl 0,wsl 1] ⟨[⟨false,some (.tab [.int .u8] w0_0)⟩,⟨false,some (.tab [.int .u8] w1_0)⟩],2,[]⟩) = firstT [((Nat.beq ((r6 w0_0 w1_0).1) 0),.bool ((r6 w0_0 w1_0).2),⟨[⟨false,(some (.tab [.int .u8] w0_0))⟩,⟨false,(some (.tab [.int .u8] w1_0))⟩],2,[]⟩)] from rfl,hplain]; rfl)
  refine (law_heap (args' := #[_,_]) (L := [(.tab [.int .u8] w0_0,I0_0),(.tab [.int .u8] w1_0,I1_0)]) hw W ?_ (L2.mk (vrel_c (hs0_0.rel (by simp) rfl)) (L2.mk (vrel_c (hs1_0.rel (by simp) rfl)) L2.nil)) (gg W)).mono fun e W' ⟨he,bel⟩ => ?_
  · intro p hp
    simp only [List.mem_cons,List.not_mem_nil,or_false] at hp
    rcases hp with rfl | rfl
    · exact hi0_0
    · exact hi1_0
  subst he
  exact ⟨_,rfl,_,_,_,[],_,[],hW',trodAll_mk1 (shut_bool Try.underlying4 _),(trodAll_cons_mk (Below.trod laidOut (by kernel_rfl) (of_decide_eq_true (by kernel_rfl)) k0 bel lt0) (trodAll_cons_mk (Below.trod laidOut (by kernel_rfl) (of_decide_eq_true (by kernel_rfl)) k1 bel lt1) trodAll_mk0)),rfl,bel.frame _,fun h => by cases h⟩
theorem over : Rows.fnSmokeRow.holds Try.pinned (OpenSpec.ofChange Rows.fnSmokeSpec) :=
  OpenClaim.holds_of_wide 6 Try.f6 rfl rfl rfl rfl rfl rfl rfl ⟨rfl,rfl,rfl,rfl,rfl⟩ rfl rfl rfl rfl rfl (by kernel_rfl) Try.func6 (by kernel_rfl)
    (of_decide_eq_true (by kernel_rfl)) (by unfold Func.isWrapper; first | (rw [if_pos (by decide +kernel)]; kernel_rfl) | (rw [if_neg (by decide +kernel)]; exact ⟨rfl,rfl⟩))
    (fun os started H enc _ => lifted os started H enc)
end fnSmokeDone
theorem fnSmokeProved : Rows.FnSmokeSaid := fnSmokeDone.over
#print axioms fnSmokeProved
end Go.Proofs.Ytmknfenjnladeaa
