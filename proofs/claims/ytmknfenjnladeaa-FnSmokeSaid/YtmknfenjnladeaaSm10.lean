/- What the functions that the statements reach answer, part 10. -/
import Derived.Test.YtmknfenjnladeaaSm4
namespace Go.Proofs.Ytmknfenjnladeaa
open Go.Ab
set_option maxHeartbeats 4000000
set_option maxRecDepth 100000

noncomputable def r101 (x0 x1 x2:Nat) (x3 x4:LL):Nat :=
 cond (Nat.beq (r57 x0 x1 x3) 0) (0) (cond (Nat.beq (r57 x0 x1 x3) 1) (1) (cond (Nat.beq (r57 x0 x1 x3) 2) (cond (Nat.beq ((r95 x3 x4).1) 0) (cond (!((r95 x3 x4).2)) (1) (cond (!(r78 x2)) (1) (2))) (3)) (3)))
noncomputable def a101 (x0 x1 x2:Nat) (x3 x4:LL) (p:Nat):Res := firstT [((Nat.beq p 0),vi 1,⟨[(tb sc0 x3),(tb [.fl .f32] x4)],2,[]⟩),((Nat.beq p 1),vi 2,⟨[(tb sc0 x3),(tb [.fl .f32] x4)],2,[]⟩),((Nat.beq p 2),vi 0,⟨[(tb sc0 x3),(tb [.fl .f32] x4)],2,[]⟩)]
noncomputable def w101 (x0 x1 x2:Nat) (x3 x4:LL):Res :=
 (cond (Nat.beq (r57 x0 x1 x3) 0)
 (a101 x0 x1 x2 x3 x4 (0))
 (cond (Nat.beq (r57 x0 x1 x3) 1) (a101 x0 x1 x2 x3 x4 (1)) (cond (Nat.beq (r57 x0 x1 x3) 2) (cond (Nat.beq ((r95 x3 x4).1) 0) (cond (!((r95 x3 x4).2)) (a101 x0 x1 x2 x3 x4 (1)) (cond (!(r78 x2)) (a101 x0 x1 x2 x3 x4 (1)) (a101 x0 x1 x2 x3 x4 (2)))) none) none)))
theorem e101 (x0 x1 x2:Nat) (x3 x4:LL):evFn Try.prog ext T53 noL 200 Try.f101 [wsl 0,wsl 1,vf x0,vf x1,vf x2] ⟨[(tb sc0 x3),(tb [.fl .f32] x4)],2,[]⟩ = firstT [((Nat.beq (r101 x0 x1 x2 x3 x4) 0),vi 1,⟨[(tb sc0 x3),(tb [.fl .f32] x4)],2,[]⟩),((Nat.beq (r101 x0 x1 x2 x3 x4) 1),vi 2,⟨[(tb sc0 x3),(tb [.fl .f32] x4)],2,[]⟩),((Nat.beq (r101 x0 x1 x2 x3 x4) 2),vi 0,⟨[(tb sc0 x3),(tb [.fl .f32] x4)],2,[]⟩)] :=
 (show _ = w101 x0 x1 x2 x3 x4 from by kernel_rfl).trans
 (show w101 x0 x1 x2 x3 x4 = a101 x0 x1 x2 x3 x4 (r101 x0 x1 x2 x3 x4) from by unfold w101 r101; exact (cond_app (a101 x0 x1 x2 x3 x4) _ rfl (cond_app (a101 x0 x1 x2 x3 x4) _ rfl (cond_app (a101 x0 x1 x2 x3 x4) _ (cond_app (a101 x0 x1 x2 x3 x4) _ (cond_app (a101 x0 x1 x2 x3 x4) _ rfl (cond_app (a101 x0 x1 x2 x3 x4) _ rfl rfl)) rfl) rfl))))
noncomputable def s101 (args:List Value) (s:St):List (Bool×Value×St) :=
 match args,s.h with
 | [.iface f0 .nilIface,.iface f1 .nilIface,.float .f32 x0,.float .f32 x1,.float .f32 x2],[⟨true,some (.tab [.fl .f32,.fl .f32,.fl .f32,.fl .f32,.int .i64] x3)⟩,⟨true,some (.tab [.fl .f32] x4)⟩] => if f0 = 0 ∧ f1 = 1 then [((Nat.beq (r101 x0 x1 x2 x3 x4) 0),vi 1,⟨[(tb sc0 x3),(tb [.fl .f32] x4)],2,[]⟩),((Nat.beq (r101 x0 x1 x2 x3 x4) 1),vi 2,⟨[(tb sc0 x3),(tb [.fl .f32] x4)],2,[]⟩),((Nat.beq (r101 x0 x1 x2 x3 x4) 2),vi 0,⟨[(tb sc0 x3),(tb [.fl .f32] x4)],2,[]⟩)] else T53 101 args s
 | _,_ => T53 101 args s
noncomputable def T54:CallF := addF T53 101 s101
theorem ok54:CfOk Try.prog T54 := by
  refine cfOk_add ok53 fun args s r s' h1 h2 h3 => ?_
  unfold s101 at h3; split at h3
  · rename_i h; split at h3
    · rename_i hc; obtain ⟨rfl,rfl⟩ := hc; exact callOk ok53 Try.func101 h1 h2 h (lfOkF_no _ _).body (e101 _ _ _ _ _) rfl h3
    · exact ok53 _ _ _ _ _ h1 h2 h3
  · exact ok53 _ _ _ _ _ h1 h2 h3

noncomputable def r170 (x0:Nat):Nat :=
 ((fdiv .f32 1135640576 (fadd .f32 x0 1133019136)))
noncomputable def a170 (x0:Nat) (p:Nat):Res := firstT [(true,vf p,st0)]
noncomputable def w170 (x0:Nat):Res :=
 (a170 x0 ((fdiv .f32 1135640576 (fadd .f32 x0 1133019136))))
theorem e170 (x0:Nat):evFn Try.prog ext T54 noL 200 Try.f170 [vf x0] st0 = firstT [(true,vf (r170 x0),st0)] :=
 (show _ = w170 x0 from by kernel_rfl).trans
 (show w170 x0 = a170 x0 (r170 x0) from by unfold w170 r170; exact rfl)
noncomputable def s170 (args:List Value) (s:St):List (Bool×Value×St) :=
 match args,s.h with
 | [.float .f32 x0],[] => [(true,vf (r170 x0),st0)]
 | _,_ => T54 170 args s
noncomputable def T55:CallF := addF T54 170 s170
theorem ok55:CfOk Try.prog T55 := by
  refine cfOk_add ok54 fun args s r s' h1 h2 h3 => ?_
  unfold s170 at h3; split at h3
  · rename_i h; exact callOk ok54 Try.func170 h1 h2 h (lfOkF_no _ _).body (e170 _) rfl h3
  · exact ok54 _ _ _ _ _ h1 h2 h3

noncomputable def r159 (x0 x1 x2 x3:Nat) (x4:Int) (x5:Nat):Nat :=
 ((fmul .f32 (fmul .f32 1092354048 x0) (fsub .f32 (r170 x5) (r170 x2))))
noncomputable def a159 (x0 x1 x2 x3:Nat) (x4:Int) (x5:Nat) (p:Nat):Res := firstT [(true,vf p,st0)]
noncomputable def w159 (x0 x1 x2 x3:Nat) (x4:Int) (x5:Nat):Res :=
 (a159 x0 x1 x2 x3 x4 x5 ((fmul .f32 (fmul .f32 1092354048 x0) (fsub .f32 (r170 x5) (r170 x2)))))
theorem e159 (x0 x1 x2 x3:Nat) (x4:Int) (x5:Nat):evFn Try.prog ext T55 noL 200 Try.f159 [.agg #[vf x0,vf x1,vf x2,vf x3,vi x4],vf x5] st0 = firstT [(true,vf (r159 x0 x1 x2 x3 x4 x5),st0)] :=
 (show _ = w159 x0 x1 x2 x3 x4 x5 from by kernel_rfl).trans
 (show w159 x0 x1 x2 x3 x4 x5 = a159 x0 x1 x2 x3 x4 x5 (r159 x0 x1 x2 x3 x4 x5) from by unfold w159 r159; exact rfl)
noncomputable def s159 (args:List Value) (s:St):List (Bool×Value×St) :=
 match args,s.h with
 | [.agg ⟨[.float .f32 x0,.float .f32 x1,.float .f32 x2,.float .f32 x3,.int .i64 x4]⟩,.float .f32 x5],[] => [(true,vf (r159 x0 x1 x2 x3 x4 x5),st0)]
 | _,_ => T55 159 args s
noncomputable def T56:CallF := addF T55 159 s159
theorem ok56:CfOk Try.prog T56 := by
  refine cfOk_add ok55 fun args s r s' h1 h2 h3 => ?_
  unfold s159 at h3; split at h3
  · rename_i h; exact callOk ok55 Try.func159 h1 h2 h (lfOkF_no _ _).body (e159 _ _ _ _ _ _) rfl h3
  · exact ok55 _ _ _ _ _ h1 h2 h3

noncomputable def r160 (x0 x1 x2 x3:Nat) (x4:Int):Nat :=
 ((fdiv .f32 (fadd .f32 1065353216 (fmul .f32 1048576000 x0)) (fmul .f32 (fmul .f32 x1 x3) (fmul .f32 x1 x3))))
noncomputable def a160 (x0 x1 x2 x3:Nat) (x4:Int) (p:Nat):Res := firstT [(true,vf p,st0)]
noncomputable def w160 (x0 x1 x2 x3:Nat) (x4:Int):Res :=
 (a160 x0 x1 x2 x3 x4 ((fdiv .f32 (fadd .f32 1065353216 (fmul .f32 1048576000 x0)) (fmul .f32 (fmul .f32 x1 x3) (fmul .f32 x1 x3)))))
theorem e160 (x0 x1 x2 x3:Nat) (x4:Int):evFn Try.prog ext T56 noL 200 Try.f160 [.agg #[vf x0,vf x1,vf x2,vf x3,vi x4]] st0 = firstT [(true,vf (r160 x0 x1 x2 x3 x4),st0)] :=
 (show _ = w160 x0 x1 x2 x3 x4 from by kernel_rfl).trans
 (show w160 x0 x1 x2 x3 x4 = a160 x0 x1 x2 x3 x4 (r160 x0 x1 x2 x3 x4) from by unfold w160 r160; exact rfl)
noncomputable def s160 (args:List Value) (s:St):List (Bool×Value×St) :=
 match args,s.h with
 | [.agg ⟨[.float .f32 x0,.float .f32 x1,.float .f32 x2,.float .f32 x3,.int .i64 x4]⟩],[] => [(true,vf (r160 x0 x1 x2 x3 x4),st0)]
 | _,_ => T56 160 args s
noncomputable def T57:CallF := addF T56 160 s160
theorem ok57:CfOk Try.prog T57 := by
  refine cfOk_add ok56 fun args s r s' h1 h2 h3 => ?_
  unfold s160 at h3; split at h3
  · rename_i h; exact callOk ok56 Try.func160 h1 h2 h (lfOkF_no _ _).body (e160 _ _ _ _ _) rfl h3
  · exact ok56 _ _ _ _ _ h1 h2 h3

noncomputable def r161 (x0:Nat):Nat×Nat :=
 cond (narrowOk (r165 (widen x0))) (0,(narrow (r165 (widen x0)))) (1,0)
noncomputable def a161 (x0:Nat) (p:Nat×Nat):Res := firstT [((Nat.beq (p.1) 0),vf (p.2),st0)]
noncomputable def w161 (x0:Nat):Res :=
 (cond (narrowOk (r165 (widen x0)))
 (a161 x0 (0,(narrow (r165 (widen x0)))))
 none)
theorem e161 (x0:Nat):evFn Try.prog ext T57 noL 200 Try.f161 [vf x0] st0 = firstT [((Nat.beq ((r161 x0).1) 0),vf ((r161 x0).2),st0)] :=
 (show _ = w161 x0 from by kernel_rfl).trans
 (show w161 x0 = a161 x0 (r161 x0) from by unfold w161 r161; exact (cond_app (a161 x0) _ rfl rfl))
noncomputable def s161 (args:List Value) (s:St):List (Bool×Value×St) :=
 match args,s.h with
 | [.float .f32 x0],[] => [((Nat.beq ((r161 x0).1) 0),vf ((r161 x0).2),st0)]
 | _,_ => T57 161 args s
noncomputable def T58:CallF := addF T57 161 s161
theorem ok58:CfOk Try.prog T58 := by
  refine cfOk_add ok57 fun args s r s' h1 h2 h3 => ?_
  unfold s161 at h3; split at h3
  · rename_i h; exact callOk ok57 Try.func161 h1 h2 h (lfOkF_no _ _).body (e161 _) rfl h3
  · exact ok57 _ _ _ _ _ h1 h2 h3

noncomputable def r125 (x0 x1 x2 x3:Nat) (x4:Int) (x5 x6:Nat):Nat×Nat :=
 cond (feq .f32 x3 0) (0,0) (cond (flt .f32 (fdiv .f32 (fadd .f32 (r159 x0 x1 x2 x3 x4 x5) x6) (r160 x0 x1 x2 x3 x4)) 0) (cond (Nat.beq ((r161 (fneg .f32 (fdiv .f32 (fadd .f32 (r159 x0 x1 x2 x3 x4 x5) x6) (r160 x0 x1 x2 x3 x4)))).1) 0) (0,(fneg .f32 ((r161 (fneg .f32 (fdiv .f32 (fadd .f32 (r159 x0 x1 x2 x3 x4 x5) x6) (r160 x0 x1 x2 x3 x4)))).2))) (1,0)) (cond (Nat.beq ((r161 (fdiv .f32 (fadd .f32 (r159 x0 x1 x2 x3 x4 x5) x6) (r160 x0 x1 x2 x3 x4))).1) 0) (0,((r161 (fdiv .f32 (fadd .f32 (r159 x0 x1 x2 x3 x4 x5) x6) (r160 x0 x1 x2 x3 x4))).2)) (1,0)))
noncomputable def a125 (x0 x1 x2 x3:Nat) (x4:Int) (x5 x6:Nat) (p:Nat×Nat):Res := firstT [((Nat.beq (p.1) 0),vf (p.2),st0)]
noncomputable def w125 (x0 x1 x2 x3:Nat) (x4:Int) (x5 x6:Nat):Res :=
 (cond (feq .f32 x3 0)
 (a125 x0 x1 x2 x3 x4 x5 x6 (0,0))
 (cond (flt .f32 (fdiv .f32 (fadd .f32 (r159 x0 x1 x2 x3 x4 x5) x6) (r160 x0 x1 x2 x3 x4)) 0) (cond (Nat.beq ((r161 (fneg .f32 (fdiv .f32 (fadd .f32 (r159 x0 x1 x2 x3 x4 x5) x6) (r160 x0 x1 x2 x3 x4)))).1) 0) (a125 x0 x1 x2 x3 x4 x5 x6 (0,(fneg .f32 ((r161 (fneg .f32 (fdiv .f32 (fadd .f32 (r159 x0 x1 x2 x3 x4 x5) x6) (r160 x0 x1 x2 x3 x4)))).2)))) none) (cond (Nat.beq ((r161 (fdiv .f32 (fadd .f32 (r159 x0 x1 x2 x3 x4 x5) x6) (r160 x0 x1 x2 x3 x4))).1) 0) (a125 x0 x1 x2 x3 x4 x5 x6 (0,((r161 (fdiv .f32 (fadd .f32 (r159 x0 x1 x2 x3 x4 x5) x6) (r160 x0 x1 x2 x3 x4))).2))) none)))
theorem e125 (x0 x1 x2 x3:Nat) (x4:Int) (x5 x6:Nat):evFn Try.prog ext T58 noL 200 Try.f125 [.agg #[vf x0,vf x1,vf x2,vf x3,vi x4],vf x5,vf x6] st0 = firstT [((Nat.beq ((r125 x0 x1 x2 x3 x4 x5 x6).1) 0),vf ((r125 x0 x1 x2 x3 x4 x5 x6).2),st0)] :=
 (show _ = w125 x0 x1 x2 x3 x4 x5 x6 from by kernel_rfl).trans
 (show w125 x0 x1 x2 x3 x4 x5 x6 = a125 x0 x1 x2 x3 x4 x5 x6 (r125 x0 x1 x2 x3 x4 x5 x6) from by unfold w125 r125; exact (cond_app (a125 x0 x1 x2 x3 x4 x5 x6) _ rfl (cond_app (a125 x0 x1 x2 x3 x4 x5 x6) _ (cond_app (a125 x0 x1 x2 x3 x4 x5 x6) _ rfl rfl) (cond_app (a125 x0 x1 x2 x3 x4 x5 x6) _ rfl rfl))))
noncomputable def s125 (args:List Value) (s:St):List (Bool×Value×St) :=
 match args,s.h with
 | [.agg ⟨[.float .f32 x0,.float .f32 x1,.float .f32 x2,.float .f32 x3,.int .i64 x4]⟩,.float .f32 x5,.float .f32 x6],[] => [((Nat.beq ((r125 x0 x1 x2 x3 x4 x5 x6).1) 0),vf ((r125 x0 x1 x2 x3 x4 x5 x6).2),st0)]
 | _,_ => T58 125 args s
noncomputable def T59:CallF := addF T58 125 s125
theorem ok59:CfOk Try.prog T59 := by
  refine cfOk_add ok58 fun args s r s' h1 h2 h3 => ?_
  unfold s125 at h3; split at h3
  · rename_i h; exact callOk ok58 Try.func125 h1 h2 h (lfOkF_no _ _).body (e125 _ _ _ _ _ _ _) rfl h3
  · exact ok58 _ _ _ _ _ h1 h2 h3

noncomputable def b132l0 (ih:Nat→Nat→Nat→Int→Int→LL→(Nat×Nat)) (x0 x1 x2:Nat) (x3 x4:Int) (x5:LL):Nat×Nat :=
 cond (decide ((x4:Int) < x3)) (cond ((decide ((0:Int) ≤ x4)) && (Nat.blt (Int.toNat x4) x1)) (cond (Nat.blt (1 + (Int.toNat x4)) x5.length) (ih (fadd .f32 x0 (Int.toNat ((x5.getD (1 + (Int.toNat x4)) []).getD 0 0))) x1 x2 x3 (IntKind.i64.wrap (x4 + 1)) x5) (1,0)) (1,0)) (0,x0)
noncomputable def r132l0:Nat→Nat→Nat→Nat→Int→Int→LL→(Nat×Nat)
 | 0 => fun _ _ _ _ _ _ => (1,0)
 | m + 1 => b132l0 (r132l0 m)
noncomputable def a132l0 (x0 x1 x2:Nat) (x3 x4:Int) (x5:LL) (p:Nat×Nat):Option (Fin'×List Value×St) := firstT ([((Nat.beq (p.1) 0),.exit 0,[vf (p.2)],⟨[(tb [.fl .f32] x5)],1,[]⟩)].map fun (b,x) => (b,(x.1,frameOf 21 [3] x.2.1,x.2.2)))
noncomputable def u132l0 (x0 x1 x2:Nat) (x3 x4:Int) (x5:LL) (p:Nat×Nat):Option (Fin'×List Value×St) := alts ([((Nat.beq (p.1) 0),.exit 0,[vf (p.2)],⟨[(tb [.fl .f32] x5)],1,[]⟩)].map fun (b,x) => (b,(x.1,frameOf 21 [3] x.2.1,x.2.2))) some
theorem v132l0 (x0 x1 x2:Nat) (x3 x4:Int) (x5:LL) (p:Nat×Nat):u132l0 x0 x1 x2 x3 x4 x5 p = a132l0 x0 x1 x2 x3 x4 x5 p := alts_first _
noncomputable def q132l0 (m:Nat):SumK := fun vals s =>
 match vals,s.h with
 | [.float .f32 x0,.slice (some ⟨f0,f1,some f2⟩) x1 x2,.int .i64 x3,.int .i64 x4],[⟨true,some (.tab [.fl .f32] x5)⟩] => if f0 = 0 ∧ f1 = 1 ∧ f2 = 0 then [((Nat.beq ((r132l0 m x0 x1 x2 x3 x4 x5).1) 0),.exit 0,[vf ((r132l0 m x0 x1 x2 x3 x4 x5).2)],⟨[(tb [.fl .f32] x5)],1,[]⟩)] else noQ vals s
 | _,_ => noQ vals s
noncomputable def w132l0 (ih:Nat→Nat→Nat→Int→Int→LL→(Nat×Nat)) (x0 x1 x2:Nat) (x3 x4:Int) (x5:LL):Option (Fin'×List Value×St) :=
 (cond (decide ((x4:Int) < x3))
 (cond ((decide ((0:Int) ≤ x4)) && (Nat.blt (Int.toNat x4) x1)) (cond (Nat.blt (1 + (Int.toNat x4)) x5.length) (u132l0 x0 x1 x2 x3 x4 x5 (ih (fadd .f32 x0 (Int.toNat ((x5.getD (1 + (Int.toNat x4)) []).getD 0 0))) x1 x2 x3 (IntKind.i64.wrap (x4 + 1)) x5)) none) none)
 (a132l0 x0 x1 x2 x3 x4 x5 (0,x0)))
theorem e132l0 (m:Nat) (x0 x1 x2:Nat) (x3 x4:Int) (x5:LL):evC Try.prog ext T59 noL 200 (loopN Try.f132 0) (loopTail ([3,10,11,12],[]) [3] [] (sumK 21 [3,10,11,12] [3] (q132l0 m))) (frameOf 21 [3,10,11,12] [vf x0,.slice (some ⟨0,1,some 0⟩) x1 x2,vi x3,vi x4]) ⟨[(tb [.fl .f32] x5)],1,[]⟩ = firstT ([((Nat.beq ((r132l0 (m + 1) x0 x1 x2 x3 x4 x5).1) 0),.exit 0,[vf ((r132l0 (m + 1) x0 x1 x2 x3 x4 x5).2)],⟨[(tb [.fl .f32] x5)],1,[]⟩)].map fun (b,x) => (b,(x.1,frameOf 21 [3] x.2.1,x.2.2))) :=
 (show _ = w132l0 (r132l0 m) x0 x1 x2 x3 x4 x5 from by kernel_rfl).trans
 (show w132l0 (r132l0 m) x0 x1 x2 x3 x4 x5 = a132l0 x0 x1 x2 x3 x4 x5 (r132l0 (m + 1) x0 x1 x2 x3 x4 x5) from by unfold w132l0; show _ = a132l0 x0 x1 x2 x3 x4 x5 (b132l0 (r132l0 m) x0 x1 x2 x3 x4 x5); unfold b132l0; exact (cond_app (a132l0 x0 x1 x2 x3 x4 x5) _ (cond_app (a132l0 x0 x1 x2 x3 x4 x5) _ (cond_app (a132l0 x0 x1 x2 x3 x4 x5) _ (v132l0 x0 x1 x2 x3 x4 x5 ((r132l0 m) (fadd .f32 x0 (Int.toNat ((x5.getD (1 + (Int.toNat x4)) []).getD 0 0))) x1 x2 x3 (IntKind.i64.wrap (x4 + 1)) x5)) rfl) rfl) rfl))
theorem qm132l0:∀ m,SumKOk Try.prog (loopN Try.f132 0) 21 [3,10,11,12] [3] (q132l0 m) := by
  intro m
  induction m with
  | zero =>
    intro vals s x h1 h2 h3
    unfold q132l0 at h3; split at h3
    · rename_i h; split at h3
      · rename_i hc; obtain ⟨rfl,rfl,rfl⟩ := hc; exact absurd h3 (by simp [r132l0,firstT,Nat.beq])
      · exact noQ_ok _ _ _ h1 h2 h3
    · exact noQ_ok _ _ _ h1 h2 h3
  | succ m ih =>
    intro vals s x h1 h2 h3
    unfold q132l0 at h3; split at h3
    · rename_i h; split at h3
      · rename_i hc; obtain ⟨rfl,rfl,rfl⟩ := hc; exact sum_step ok59 extOk mixed ((lfOkF_no _ _).inner (by kernel_rfl)) ih h1 h2 h (e132l0 m _ _ _ _ _ _) rfl h3
      · exact noQ_ok _ _ _ h1 h2 h3
    · exact noQ_ok _ _ _ h1 h2 h3
noncomputable def Q132l0:SumK := fun vals s => q132l0 (fuelOf vals s.h) vals s
theorem qok132l0:SumKOk Try.prog (loopN Try.f132 0) 21 [3,10,11,12] [3] Q132l0 := fuel_ok qm132l0 fuelOf
noncomputable def L132_1:LoopT := addL noL 4 ([3,10,11,12],[]) (sumK 21 [3,10,11,12] [3] Q132l0)
theorem lok132_1:LfOkF Try.prog L132_1 Try.f132 := lfOkF_add (lfOkF_no _ _) qok132l0 (by kernel_rfl) (by kernel_rfl) (by kernel_rfl)

noncomputable def r132l0b (x0:Nat):Unit :=
 ()
noncomputable def a132l0b (x0:Nat) (p:Unit):Option (Fin'×List Value×St) := firstT ([(true,.exit 0,[vf x0],st0)].map fun (b,x) => (b,(x.1,frameOf 21 [3] x.2.1,x.2.2)))
noncomputable def w132l0b (x0:Nat):Option (Fin'×List Value×St) :=
 (a132l0b x0 ())
theorem e132l0b (x0:Nat):evC Try.prog ext T59 L132_1 200 (loopN Try.f132 0) (loopTail ([3,10,11,12],[]) [3] [] (sumK 21 [3,10,11,12] [3] Q132l0)) (frameOf 21 [3,10,11,12] [vf x0,.iface 0 (.slice none 0 0),vi 0,vi 0]) ⟨[],0,[]⟩ = firstT ([(true,.exit 0,[vf x0],st0)].map fun (b,x) => (b,(x.1,frameOf 21 [3] x.2.1,x.2.2))) :=
 (show _ = w132l0b x0 from by kernel_rfl).trans
 (show w132l0b x0 = a132l0b x0 (r132l0b x0) from by unfold w132l0b r132l0b; exact rfl)
noncomputable def Q132l0b:SumK := fun vals s =>
 match vals,s.h with
 | [.float .f32 x0,.iface f0 (.slice none f1 f2),.int .i64 f3,.int .i64 f4],[] => if f0 = 0 ∧ f1 = 0 ∧ f2 = 0 ∧ f3 = 0 ∧ f4 = 0 then [(true,.exit 0,[vf x0],st0)] else Q132l0 vals s
 | _,_ => Q132l0 vals s
theorem qok132l0b:SumKOk Try.prog (loopN Try.f132 0) 21 [3,10,11,12] [3] Q132l0b := by
  intro vals s x h1 h2 h3
  unfold Q132l0b at h3; split at h3
  · rename_i h; split at h3
    · rename_i hc; obtain ⟨rfl,rfl,rfl,rfl,rfl⟩ := hc; exact sum_step ok59 extOk mixed (lok132_1.inner (by kernel_rfl)) qok132l0 h1 h2 h (e132l0b _) rfl h3
    · exact qok132l0 _ _ _ h1 h2 h3
  · exact qok132l0 _ _ _ h1 h2 h3
noncomputable def L132_2:LoopT := addL L132_1 4 ([3,10,11,12],[]) (sumK 21 [3,10,11,12] [3] Q132l0b)
theorem lok132_2:LfOkF Try.prog L132_2 Try.f132 := lfOkF_add lok132_1 qok132l0b (by kernel_rfl) (by kernel_rfl) (by kernel_rfl)

noncomputable def r132 (x0:LL):Nat×Nat :=
 let c231 := (r132l0 (1000 + x0.length) (Int.toNat ((x0.getD 0 []).getD 0 0)) (x0.length - 1) (x0.length - 1) (((x0.length - 1):Nat):Int) 0 x0)
 cond (Nat.blt 0 x0.length) (cond ((Nat.blt 1 x0.length) && ((Nat.ble 1 x0.length) && (Nat.ble x0.length x0.length))) (cond (Nat.beq (c231.1) 0) (0,(c231.2)) (1,0)) (cond ((Nat.beq 1 x0.length) && ((Nat.ble 1 x0.length) && (Nat.ble x0.length x0.length))) (0,(Int.toNat ((x0.getD 0 []).getD 0 0))) (1,0))) (1,0)
noncomputable def a132 (x0:LL) (p:Nat×Nat):Res := firstT [((Nat.beq (p.1) 0),vf (p.2),⟨[(tb [.fl .f32] x0)],1,[]⟩)]
noncomputable def w132 (x0:LL):Res :=
 let c231 := (r132l0 (1000 + x0.length) (Int.toNat ((x0.getD 0 []).getD 0 0)) (x0.length - 1) (x0.length - 1) (((x0.length - 1):Nat):Int) 0 x0)
 (cond (Nat.blt 0 x0.length)
 (cond (Nat.blt 0 x0.length) (cond ((Nat.blt 1 x0.length) && ((Nat.ble 1 x0.length) && (Nat.ble x0.length x0.length))) (cond (Nat.beq (c231.1) 0) (a132 x0 (0,(c231.2))) none) (cond ((Nat.beq 1 x0.length) && ((Nat.ble 1 x0.length) && (Nat.ble x0.length x0.length))) (a132 x0 (0,(Int.toNat ((x0.getD 0 []).getD 0 0)))) none)) none)
 none)
theorem e132 (x0:LL):evFn Try.prog ext T59 L132_2 200 Try.f132 [wsl 0] ⟨[(tb [.fl .f32] x0)],1,[]⟩ = firstT [((Nat.beq ((r132 x0).1) 0),vf ((r132 x0).2),⟨[(tb [.fl .f32] x0)],1,[]⟩)] :=
 (show _ = w132 x0 from by kernel_rfl).trans
 (show w132 x0 = a132 x0 (r132 x0) from by unfold w132 r132; exact (cond_both (a132 x0) _ (fun h0 => (cond_t h0 (cond_app (a132 x0) _ (cond_app (a132 x0) _ rfl rfl) (cond_app (a132 x0) _ rfl rfl)))) (fun h0 => rfl)))
noncomputable def s132 (args:List Value) (s:St):List (Bool×Value×St) :=
 match args,s.h with
 | [.iface f0 .nilIface],[⟨true,some (.tab [.fl .f32] x0)⟩] => if f0 = 0 then [((Nat.beq ((r132 x0).1) 0),vf ((r132 x0).2),⟨[(tb [.fl .f32] x0)],1,[]⟩)] else T59 132 args s
 | _,_ => T59 132 args s
noncomputable def T60:CallF := addF T59 132 s132
theorem ok60:CfOk Try.prog T60 := by
  refine cfOk_add ok59 fun args s r s' h1 h2 h3 => ?_
  unfold s132 at h3; split at h3
  · rename_i h; split at h3
    · rename_i hc; obtain ⟨rfl⟩ := hc; exact callOk ok59 Try.func132 h1 h2 h lok132_2.body (e132 _) rfl h3
    · exact ok59 _ _ _ _ _ h1 h2 h3
  · exact ok59 _ _ _ _ _ h1 h2 h3

noncomputable def b65l1 (ih:Int→Nat→Nat→Nat→Nat→Nat→Int→Int→Int→LL→LL→LL→(Nat×LL)) (x0:Int) (x1 x2 x3 x4 x5:Nat) (x6 x7 x8:Int) (x9 x10 x11:LL):Nat×LL :=
 let c457 := (r125 (Int.toNat ((x9.getD (Int.toNat ((x10.getD (Int.toNat x8) []).getD 0 0)) []).getD 0 0)) (Int.toNat ((x9.getD (Int.toNat ((x10.getD (Int.toNat x8) []).getD 0 0)) []).getD 1 0)) (Int.toNat ((x9.getD (Int.toNat ((x10.getD (Int.toNat x8) []).getD 0 0)) []).getD 2 0)) (Int.toNat ((x9.getD (Int.toNat ((x10.getD (Int.toNat x8) []).getD 0 0)) []).getD 3 0)) ((x9.getD (Int.toNat ((x10.getD (Int.toNat x8) []).getD 0 0)) []).getD 4 0) x1 (fsub .f32 0 x5))
 cond (decide ((x8:Int) < x7)) (cond ((decide ((0:Int) ≤ x8)) && (Nat.blt (Int.toNat x8) x10.length)) (cond ((decide ((0:Int) ≤ ((x10.getD (Int.toNat x8) []).getD 0 0))) && (Nat.blt (Int.toNat ((x10.getD (Int.toNat x8) []).getD 0 0)) x9.length)) (cond (Nat.beq (c457.1) 0) (cond (Nat.ble ((x11.length + 1) * 5) 140737488355328) (cond (Nat.beq ((ih x0 x1 x2 x3 x4 x5 x6 x7 (IntKind.i64.wrap (x8 + 1)) x9 x10 (((x11.drop 0).take x11.length) ++ ([[(((c457.2):Nat):Int)]]:LL))).1) 0) (0,((ih x0 x1 x2 x3 x4 x5 x6 x7 (IntKind.i64.wrap (x8 + 1)) x9 x10 (((x11.drop 0).take x11.length) ++ ([[(((c457.2):Nat):Int)]]:LL))).2)) (cond (Nat.beq ((ih x0 x1 x2 x3 x4 x5 x6 x7 (IntKind.i64.wrap (x8 + 1)) x9 x10 (((x11.drop 0).take x11.length) ++ ([[(((c457.2):Nat):Int)]]:LL))).1) 1) (0,(((x11.drop 0).take x11.length) ++ ([[(((c457.2):Nat):Int)]]:LL))) (2,[]))) (2,[])) (2,[])) (2,[])) (2,[])) (1,[])
noncomputable def r65l1:Nat→Int→Nat→Nat→Nat→Nat→Nat→Int→Int→Int→LL→LL→LL→(Nat×LL)
 | 0 => fun _ _ _ _ _ _ _ _ _ _ _ _ => (2,[])
 | m + 1 => b65l1 (r65l1 m)
noncomputable def a65l1 (x0:Int) (x1 x2 x3 x4 x5:Nat) (x6 x7 x8:Int) (x9 x10 x11:LL) (p:Nat×LL):Option (Fin'×List Value×St) := firstT ([((Nat.beq (p.1) 0),.exit 2,[wsl 0,vi x0,vf x1,vf x2,wsl 1,vf x3,vf x4,vf x5,wsl 3,vi x6],⟨[(tb sc0 x9),(tb [.int .i64] x10),⟨true,none⟩,(tb [.fl .f32] (p.2))],3,[2]⟩),((Nat.beq (p.1) 1),.exit 2,[wsl 0,vi x0,vf x1,vf x2,wsl 1,vf x3,vf x4,vf x5,wsl 2,vi x6],⟨[(tb sc0 x9),(tb [.int .i64] x10),(tb [.fl .f32] x11)],3,[2]⟩)].map fun (b,x) => (b,(x.1,frameOf 63 [0,1,2,3,9,10,11,12,13,22] x.2.1,x.2.2)))
noncomputable def u65l1 (x0:Int) (x1 x2 x3 x4 x5:Nat) (x6 x7 x8:Int) (x9 x10 x11:LL) (p:Nat×LL):Option (Fin'×List Value×St) := alts ([((Nat.beq (p.1) 0),.exit 2,[wsl 0,vi x0,vf x1,vf x2,wsl 1,vf x3,vf x4,vf x5,wsl 3,vi x6],⟨[(tb sc0 x9),(tb [.int .i64] x10),⟨true,none⟩,(tb [.fl .f32] (p.2))],3,[2]⟩),((Nat.beq (p.1) 1),.exit 2,[wsl 0,vi x0,vf x1,vf x2,wsl 1,vf x3,vf x4,vf x5,wsl 2,vi x6],⟨[(tb sc0 x9),(tb [.int .i64] x10),(tb [.fl .f32] x11)],3,[2]⟩)].map fun (b,x) => (b,(x.1,frameOf 63 [0,1,2,3,9,10,11,12,13,22] x.2.1,x.2.2))) some
theorem v65l1 (x0:Int) (x1 x2 x3 x4 x5:Nat) (x6 x7 x8:Int) (x9 x10 x11:LL) (p:Nat×LL):u65l1 x0 x1 x2 x3 x4 x5 x6 x7 x8 x9 x10 x11 p = a65l1 x0 x1 x2 x3 x4 x5 x6 x7 x8 x9 x10 x11 p := alts_first _
noncomputable def q65l1 (m:Nat):SumK := fun vals s =>
 match vals,s.h with
 | [.iface f0 .nilIface,.int .i64 x0,.float .f32 x1,.float .f32 x2,.iface f1 .nilIface,.float .f32 x3,.float .f32 x4,.float .f32 x5,.iface f2 .nilIface,.int .i64 x6,.iface f3 .nilIface,.int .i64 x7,.int .i64 x8],[⟨true,some (.tab [.fl .f32,.fl .f32,.fl .f32,.fl .f32,.int .i64] x9)⟩,⟨true,some (.tab [.int .i64] x10)⟩,⟨true,some (.tab [.fl .f32] x11)⟩] => if f0 = 0 ∧ f1 = 1 ∧ f2 = 2 ∧ f3 = 1 then [((Nat.beq ((r65l1 m x0 x1 x2 x3 x4 x5 x6 x7 x8 x9 x10 x11).1) 0),.exit 2,[wsl 0,vi x0,vf x1,vf x2,wsl 1,vf x3,vf x4,vf x5,wsl 3,vi x6],⟨[(tb sc0 x9),(tb [.int .i64] x10),⟨true,none⟩,(tb [.fl .f32] ((r65l1 m x0 x1 x2 x3 x4 x5 x6 x7 x8 x9 x10 x11).2))],3,[2]⟩),((Nat.beq ((r65l1 m x0 x1 x2 x3 x4 x5 x6 x7 x8 x9 x10 x11).1) 1),.exit 2,[wsl 0,vi x0,vf x1,vf x2,wsl 1,vf x3,vf x4,vf x5,wsl 2,vi x6],⟨[(tb sc0 x9),(tb [.int .i64] x10),(tb [.fl .f32] x11)],3,[2]⟩)] else noQ vals s
 | _,_ => noQ vals s
noncomputable def w65l1 (ih:Int→Nat→Nat→Nat→Nat→Nat→Int→Int→Int→LL→LL→LL→(Nat×LL)) (x0:Int) (x1 x2 x3 x4 x5:Nat) (x6 x7 x8:Int) (x9 x10 x11:LL):Option (Fin'×List Value×St) :=
 let c457 := (r125 (Int.toNat ((x9.getD (Int.toNat ((x10.getD (Int.toNat x8) []).getD 0 0)) []).getD 0 0)) (Int.toNat ((x9.getD (Int.toNat ((x10.getD (Int.toNat x8) []).getD 0 0)) []).getD 1 0)) (Int.toNat ((x9.getD (Int.toNat ((x10.getD (Int.toNat x8) []).getD 0 0)) []).getD 2 0)) (Int.toNat ((x9.getD (Int.toNat ((x10.getD (Int.toNat x8) []).getD 0 0)) []).getD 3 0)) ((x9.getD (Int.toNat ((x10.getD (Int.toNat x8) []).getD 0 0)) []).getD 4 0) x1 (fsub .f32 0 x5))
 (cond (decide ((x8:Int) < x7))
 (cond ((decide ((0:Int) ≤ x8)) && (Nat.blt (Int.toNat x8) x10.length)) (cond (Nat.blt (Int.toNat x8) x10.length) (cond ((decide ((0:Int) ≤ ((x10.getD (Int.toNat x8) []).getD 0 0))) && (Nat.blt (Int.toNat ((x10.getD (Int.toNat x8) []).getD 0 0)) x9.length)) (cond (Nat.blt (Int.toNat ((x10.getD (Int.toNat x8) []).getD 0 0)) x9.length) (cond (Nat.beq (c457.1) 0) (cond (Nat.ble ((x11.length + 1) * 5) 140737488355328) (cond (Nat.beq ((ih x0 x1 x2 x3 x4 x5 x6 x7 (IntKind.i64.wrap (x8 + 1)) x9 x10 (((x11.drop 0).take x11.length) ++ ([[(((c457.2):Nat):Int)]]:LL))).1) 0) (a65l1 x0 x1 x2 x3 x4 x5 x6 x7 x8 x9 x10 x11 (0,((ih x0 x1 x2 x3 x4 x5 x6 x7 (IntKind.i64.wrap (x8 + 1)) x9 x10 (((x11.drop 0).take x11.length) ++ ([[(((c457.2):Nat):Int)]]:LL))).2))) (cond (Nat.beq ((ih x0 x1 x2 x3 x4 x5 x6 x7 (IntKind.i64.wrap (x8 + 1)) x9 x10 (((x11.drop 0).take x11.length) ++ ([[(((c457.2):Nat):Int)]]:LL))).1) 1) (a65l1 x0 x1 x2 x3 x4 x5 x6 x7 x8 x9 x10 x11 (0,(((x11.drop 0).take x11.length) ++ ([[(((c457.2):Nat):Int)]]:LL)))) none)) none) none) none) none) none) none)
 (a65l1 x0 x1 x2 x3 x4 x5 x6 x7 x8 x9 x10 x11 (1,[])))
theorem e65l1 (m:Nat) (x0:Int) (x1 x2 x3 x4 x5:Nat) (x6 x7 x8:Int) (x9 x10 x11:LL):evC Try.prog ext T60 noL 200 (loopN Try.f65 1) (loopTail ([0,1,2,3,9,10,11,12,13,22,29,30,31],[]) [0,1,2,3,9,10,11,12,13,22] [2] (sumK 63 [0,1,2,3,9,10,11,12,13,22,29,30,31] [0,1,2,3,9,10,11,12,13,22] (q65l1 m))) (frameOf 63 [0,1,2,3,9,10,11,12,13,22,29,30,31] [wsl 0,vi x0,vf x1,vf x2,wsl 1,vf x3,vf x4,vf x5,wsl 2,vi x6,wsl 1,vi x7,vi x8]) ⟨[(tb sc0 x9),(tb [.int .i64] x10),(tb [.fl .f32] x11)],3,[]⟩ = firstT ([((Nat.beq ((r65l1 (m + 1) x0 x1 x2 x3 x4 x5 x6 x7 x8 x9 x10 x11).1) 0),.exit 2,[wsl 0,vi x0,vf x1,vf x2,wsl 1,vf x3,vf x4,vf x5,wsl 3,vi x6],⟨[(tb sc0 x9),(tb [.int .i64] x10),⟨true,none⟩,(tb [.fl .f32] ((r65l1 (m + 1) x0 x1 x2 x3 x4 x5 x6 x7 x8 x9 x10 x11).2))],3,[2]⟩),((Nat.beq ((r65l1 (m + 1) x0 x1 x2 x3 x4 x5 x6 x7 x8 x9 x10 x11).1) 1),.exit 2,[wsl 0,vi x0,vf x1,vf x2,wsl 1,vf x3,vf x4,vf x5,wsl 2,vi x6],⟨[(tb sc0 x9),(tb [.int .i64] x10),(tb [.fl .f32] x11)],3,[2]⟩)].map fun (b,x) => (b,(x.1,frameOf 63 [0,1,2,3,9,10,11,12,13,22] x.2.1,x.2.2))) :=
 (show _ = w65l1 (r65l1 m) x0 x1 x2 x3 x4 x5 x6 x7 x8 x9 x10 x11 from by kernel_rfl).trans
 (show w65l1 (r65l1 m) x0 x1 x2 x3 x4 x5 x6 x7 x8 x9 x10 x11 = a65l1 x0 x1 x2 x3 x4 x5 x6 x7 x8 x9 x10 x11 (r65l1 (m + 1) x0 x1 x2 x3 x4 x5 x6 x7 x8 x9 x10 x11) from by unfold w65l1; show _ = a65l1 x0 x1 x2 x3 x4 x5 x6 x7 x8 x9 x10 x11 (b65l1 (r65l1 m) x0 x1 x2 x3 x4 x5 x6 x7 x8 x9 x10 x11); unfold b65l1; exact (cond_both (a65l1 x0 x1 x2 x3 x4 x5 x6 x7 x8 x9 x10 x11) _ (fun h0 => (cond_both (a65l1 x0 x1 x2 x3 x4 x5 x6 x7 x8 x9 x10 x11) _ (fun h1 => (cond_t (ev_and2 h1) (cond_both (a65l1 x0 x1 x2 x3 x4 x5 x6 x7 x8 x9 x10 x11) _ (fun h2 => (cond_t (ev_and2 h2) (cond_app (a65l1 x0 x1 x2 x3 x4 x5 x6 x7 x8 x9 x10 x11) _ (cond_app (a65l1 x0 x1 x2 x3 x4 x5 x6 x7 x8 x9 x10 x11) _ (cond_app (a65l1 x0 x1 x2 x3 x4 x5 x6 x7 x8 x9 x10 x11) _ rfl (cond_app (a65l1 x0 x1 x2 x3 x4 x5 x6 x7 x8 x9 x10 x11) _ rfl rfl)) rfl) rfl))) (fun h2 => rfl)))) (fun h1 => rfl))) (fun h0 => rfl)))
theorem qm65l1:∀ m,SumKOk Try.prog (loopN Try.f65 1) 63 [0,1,2,3,9,10,11,12,13,22,29,30,31] [0,1,2,3,9,10,11,12,13,22] (q65l1 m) := by
  intro m
  induction m with
  | zero =>
    intro vals s x h1 h2 h3
    unfold q65l1 at h3; split at h3
    · rename_i h; split at h3
      · rename_i hc; obtain ⟨rfl,rfl,rfl,rfl⟩ := hc; exact absurd h3 (by simp [r65l1,firstT,Nat.beq])
      · exact noQ_ok _ _ _ h1 h2 h3
    · exact noQ_ok _ _ _ h1 h2 h3
  | succ m ih =>
    intro vals s x h1 h2 h3
    unfold q65l1 at h3; split at h3
    · rename_i h; split at h3
      · rename_i hc; obtain ⟨rfl,rfl,rfl,rfl⟩ := hc; exact sum_step ok60 extOk mixed ((lfOkF_no _ _).inner (by kernel_rfl)) ih h1 h2 h (e65l1 m _ _ _ _ _ _ _ _ _ _ _ _) rfl h3
      · exact noQ_ok _ _ _ h1 h2 h3
    · exact noQ_ok _ _ _ h1 h2 h3
noncomputable def Q65l1:SumK := fun vals s => q65l1 (fuelOf vals s.h) vals s
theorem qok65l1:SumKOk Try.prog (loopN Try.f65 1) 63 [0,1,2,3,9,10,11,12,13,22,29,30,31] [0,1,2,3,9,10,11,12,13,22] Q65l1 := fuel_ok qm65l1 fuelOf
noncomputable def L65_1:LoopT := addL noL 11 ([0,1,2,3,9,10,11,12,13,22,29,30,31],[]) (sumK 63 [0,1,2,3,9,10,11,12,13,22,29,30,31] [0,1,2,3,9,10,11,12,13,22] Q65l1)
theorem lok65_1:LfOkF Try.prog L65_1 Try.f65 := lfOkF_add (lfOkF_no _ _) qok65l1 (by kernel_rfl) (by kernel_rfl) (by kernel_rfl)

noncomputable def b65l0 (ih:Int→Nat→Nat→Nat→Nat→Int→LL→LL→(Nat×Nat)) (x0:Int) (x1 x2 x3 x4:Nat) (x5:Int) (x6 x7:LL):Nat×Nat :=
 let c473 := (r65l1 (1000 + 0 + x7.length + x6.length) x0 x1 x2 x3 x4 (fmul .f32 1056964608 (fadd .f32 x3 x4)) x5 ((x7.length:Nat):Int) 0 x6 x7 ([]:LL))
 let c474 := (r125 (Int.toNat ((x6.getD (Int.toNat x0) []).getD 0 0)) (Int.toNat ((x6.getD (Int.toNat x0) []).getD 1 0)) (Int.toNat ((x6.getD (Int.toNat x0) []).getD 2 0)) (Int.toNat ((x6.getD (Int.toNat x0) []).getD 3 0)) ((x6.getD (Int.toNat x0) []).getD 4 0) x1 (fsub .f32 (fmul .f32 1056964608 (fadd .f32 x3 x4)) x2))
 cond (decide ((x5:Int) < 40)) (cond (Nat.beq (c473.1) 0) (cond (Nat.beq ((r132 (c473.2)).1) 0) (cond ((decide ((0:Int) ≤ x0)) && (Nat.blt (Int.toNat x0) x6.length)) (cond (Nat.beq (c474.1) 0) (cond (fgt .f32 ((r132 (c473.2)).2) (c474.2)) (ih x0 x1 x2 (fmul .f32 1056964608 (fadd .f32 x3 x4)) x4 (IntKind.i64.wrap (x5 + 1)) x6 x7) (ih x0 x1 x2 x3 (fmul .f32 1056964608 (fadd .f32 x3 x4)) (IntKind.i64.wrap (x5 + 1)) x6 x7)) (1,0)) (1,0)) (1,0)) (cond (Nat.beq (c473.1) 1) (cond (Nat.beq ((r132 ([]:LL)).1) 0) (cond ((decide ((0:Int) ≤ x0)) && (Nat.blt (Int.toNat x0) x6.length)) (cond (Nat.beq (c474.1) 0) (cond (fgt .f32 ((r132 ([]:LL)).2) (c474.2)) (ih x0 x1 x2 (fmul .f32 1056964608 (fadd .f32 x3 x4)) x4 (IntKind.i64.wrap (x5 + 1)) x6 x7) (ih x0 x1 x2 x3 (fmul .f32 1056964608 (fadd .f32 x3 x4)) (IntKind.i64.wrap (x5 + 1)) x6 x7)) (1,0)) (1,0)) (1,0)) (1,0))) (0,x4)
noncomputable def r65l0:Nat→Int→Nat→Nat→Nat→Nat→Int→LL→LL→(Nat×Nat)
 | 0 => fun _ _ _ _ _ _ _ _ => (1,0)
 | m + 1 => b65l0 (r65l0 m)
noncomputable def a65l0 (x0:Int) (x1 x2 x3 x4:Nat) (x5:Int) (x6 x7:LL) (p:Nat×Nat):Option (Fin'×List Value×St) := firstT ([((Nat.beq (p.1) 0),.exit 0,[vf (p.2)],⟨[(tb sc0 x6),(tb [.int .i64] x7)],2,[]⟩)].map fun (b,x) => (b,(x.1,frameOf 63 [11] x.2.1,x.2.2)))
noncomputable def u65l0 (x0:Int) (x1 x2 x3 x4:Nat) (x5:Int) (x6 x7:LL) (p:Nat×Nat):Option (Fin'×List Value×St) := alts ([((Nat.beq (p.1) 0),.exit 0,[vf (p.2)],⟨[(tb sc0 x6),(tb [.int .i64] x7)],2,[]⟩)].map fun (b,x) => (b,(x.1,frameOf 63 [11] x.2.1,x.2.2))) some
theorem v65l0 (x0:Int) (x1 x2 x3 x4:Nat) (x5:Int) (x6 x7:LL) (p:Nat×Nat):u65l0 x0 x1 x2 x3 x4 x5 x6 x7 p = a65l0 x0 x1 x2 x3 x4 x5 x6 x7 p := alts_first _
noncomputable def q65l0 (m:Nat):SumK := fun vals s =>
 match vals,s.h with
 | [.iface f0 .nilIface,.int .i64 x0,.float .f32 x1,.float .f32 x2,.iface f1 .nilIface,.float .f32 x3,.float .f32 x4,.int .i64 x5],[⟨true,some (.tab [.fl .f32,.fl .f32,.fl .f32,.fl .f32,.int .i64] x6)⟩,⟨true,some (.tab [.int .i64] x7)⟩] => if f0 = 0 ∧ f1 = 1 then [((Nat.beq ((r65l0 m x0 x1 x2 x3 x4 x5 x6 x7).1) 0),.exit 0,[vf ((r65l0 m x0 x1 x2 x3 x4 x5 x6 x7).2)],⟨[(tb sc0 x6),(tb [.int .i64] x7)],2,[]⟩)] else noQ vals s
 | _,_ => noQ vals s
noncomputable def w65l0 (ih:Int→Nat→Nat→Nat→Nat→Int→LL→LL→(Nat×Nat)) (x0:Int) (x1 x2 x3 x4:Nat) (x5:Int) (x6 x7:LL):Option (Fin'×List Value×St) :=
 let c473 := (r65l1 (1000 + 0 + x7.length + x6.length) x0 x1 x2 x3 x4 (fmul .f32 1056964608 (fadd .f32 x3 x4)) x5 ((x7.length:Nat):Int) 0 x6 x7 ([]:LL))
 let c474 := (r125 (Int.toNat ((x6.getD (Int.toNat x0) []).getD 0 0)) (Int.toNat ((x6.getD (Int.toNat x0) []).getD 1 0)) (Int.toNat ((x6.getD (Int.toNat x0) []).getD 2 0)) (Int.toNat ((x6.getD (Int.toNat x0) []).getD 3 0)) ((x6.getD (Int.toNat x0) []).getD 4 0) x1 (fsub .f32 (fmul .f32 1056964608 (fadd .f32 x3 x4)) x2))
 (cond (decide ((x5:Int) < 40))
 (cond (Nat.beq (c473.1) 0) (cond (Nat.beq ((r132 (c473.2)).1) 0) (cond ((decide ((0:Int) ≤ x0)) && (Nat.blt (Int.toNat x0) x6.length)) (cond (Nat.blt (Int.toNat x0) x6.length) (cond (Nat.beq (c474.1) 0) (cond (fgt .f32 ((r132 (c473.2)).2) (c474.2)) (u65l0 x0 x1 x2 x3 x4 x5 x6 x7 (ih x0 x1 x2 (fmul .f32 1056964608 (fadd .f32 x3 x4)) x4 (IntKind.i64.wrap (x5 + 1)) x6 x7)) (u65l0 x0 x1 x2 x3 x4 x5 x6 x7 (ih x0 x1 x2 x3 (fmul .f32 1056964608 (fadd .f32 x3 x4)) (IntKind.i64.wrap (x5 + 1)) x6 x7))) none) none) none) none) (cond (Nat.beq (c473.1) 1) (cond (Nat.beq ((r132 ([]:LL)).1) 0) (cond ((decide ((0:Int) ≤ x0)) && (Nat.blt (Int.toNat x0) x6.length)) (cond (Nat.blt (Int.toNat x0) x6.length) (cond (Nat.beq (c474.1) 0) (cond (fgt .f32 ((r132 ([]:LL)).2) (c474.2)) (u65l0 x0 x1 x2 x3 x4 x5 x6 x7 (ih x0 x1 x2 (fmul .f32 1056964608 (fadd .f32 x3 x4)) x4 (IntKind.i64.wrap (x5 + 1)) x6 x7)) (u65l0 x0 x1 x2 x3 x4 x5 x6 x7 (ih x0 x1 x2 x3 (fmul .f32 1056964608 (fadd .f32 x3 x4)) (IntKind.i64.wrap (x5 + 1)) x6 x7))) none) none) none) none) none))
 (a65l0 x0 x1 x2 x3 x4 x5 x6 x7 (0,x4)))
theorem e65l0 (m:Nat) (x0:Int) (x1 x2 x3 x4:Nat) (x5:Int) (x6 x7:LL):evC Try.prog ext T60 L65_1 200 (loopN Try.f65 0) (loopTail ([0,1,2,3,9,10,11,22],[]) [11] [] (sumK 63 [0,1,2,3,9,10,11,22] [11] (q65l0 m))) (frameOf 63 [0,1,2,3,9,10,11,22] [wsl 0,vi x0,vf x1,vf x2,wsl 1,vf x3,vf x4,vi x5]) ⟨[(tb sc0 x6),(tb [.int .i64] x7)],2,[]⟩ = firstT ([((Nat.beq ((r65l0 (m + 1) x0 x1 x2 x3 x4 x5 x6 x7).1) 0),.exit 0,[vf ((r65l0 (m + 1) x0 x1 x2 x3 x4 x5 x6 x7).2)],⟨[(tb sc0 x6),(tb [.int .i64] x7)],2,[]⟩)].map fun (b,x) => (b,(x.1,frameOf 63 [11] x.2.1,x.2.2))) :=
 (show _ = w65l0 (r65l0 m) x0 x1 x2 x3 x4 x5 x6 x7 from by kernel_rfl).trans
 (show w65l0 (r65l0 m) x0 x1 x2 x3 x4 x5 x6 x7 = a65l0 x0 x1 x2 x3 x4 x5 x6 x7 (r65l0 (m + 1) x0 x1 x2 x3 x4 x5 x6 x7) from by unfold w65l0; show _ = a65l0 x0 x1 x2 x3 x4 x5 x6 x7 (b65l0 (r65l0 m) x0 x1 x2 x3 x4 x5 x6 x7); unfold b65l0; exact (cond_both (a65l0 x0 x1 x2 x3 x4 x5 x6 x7) _ (fun h0 => (cond_both (a65l0 x0 x1 x2 x3 x4 x5 x6 x7) _ (fun h1 => (cond_both (a65l0 x0 x1 x2 x3 x4 x5 x6 x7) _ (fun h2 => (cond_both (a65l0 x0 x1 x2 x3 x4 x5 x6 x7) _ (fun h3 => (cond_t (ev_and2 h3) (cond_app (a65l0 x0 x1 x2 x3 x4 x5 x6 x7) _ (cond_app (a65l0 x0 x1 x2 x3 x4 x5 x6 x7) _ (v65l0 x0 x1 x2 x3 x4 x5 x6 x7 ((r65l0 m) x0 x1 x2 (fmul .f32 1056964608 (fadd .f32 x3 x4)) x4 (IntKind.i64.wrap (x5 + 1)) x6 x7)) (v65l0 x0 x1 x2 x3 x4 x5 x6 x7 ((r65l0 m) x0 x1 x2 x3 (fmul .f32 1056964608 (fadd .f32 x3 x4)) (IntKind.i64.wrap (x5 + 1)) x6 x7))) rfl))) (fun h3 => rfl))) (fun h2 => rfl))) (fun h1 => (cond_both (a65l0 x0 x1 x2 x3 x4 x5 x6 x7) _ (fun h2 => (cond_both (a65l0 x0 x1 x2 x3 x4 x5 x6 x7) _ (fun h3 => (cond_both (a65l0 x0 x1 x2 x3 x4 x5 x6 x7) _ (fun h4 => (cond_t (ev_and2 h4) (cond_app (a65l0 x0 x1 x2 x3 x4 x5 x6 x7) _ (cond_app (a65l0 x0 x1 x2 x3 x4 x5 x6 x7) _ (v65l0 x0 x1 x2 x3 x4 x5 x6 x7 ((r65l0 m) x0 x1 x2 (fmul .f32 1056964608 (fadd .f32 x3 x4)) x4 (IntKind.i64.wrap (x5 + 1)) x6 x7)) (v65l0 x0 x1 x2 x3 x4 x5 x6 x7 ((r65l0 m) x0 x1 x2 x3 (fmul .f32 1056964608 (fadd .f32 x3 x4)) (IntKind.i64.wrap (x5 + 1)) x6 x7))) rfl))) (fun h4 => rfl))) (fun h3 => rfl))) (fun h2 => rfl))))) (fun h0 => rfl)))
theorem qm65l0:∀ m,SumKOk Try.prog (loopN Try.f65 0) 63 [0,1,2,3,9,10,11,22] [11] (q65l0 m) := by
  intro m
  induction m with
  | zero =>
    intro vals s x h1 h2 h3
    unfold q65l0 at h3; split at h3
    · rename_i h; split at h3
      · rename_i hc; obtain ⟨rfl,rfl⟩ := hc; exact absurd h3 (by simp [r65l0,firstT,Nat.beq])
      · exact noQ_ok _ _ _ h1 h2 h3
    · exact noQ_ok _ _ _ h1 h2 h3
  | succ m ih =>
    intro vals s x h1 h2 h3
    unfold q65l0 at h3; split at h3
    · rename_i h; split at h3
      · rename_i hc; obtain ⟨rfl,rfl⟩ := hc; exact sum_step ok60 extOk mixed (lok65_1.inner (by kernel_rfl)) ih h1 h2 h (e65l0 m _ _ _ _ _ _ _ _) rfl h3
      · exact noQ_ok _ _ _ h1 h2 h3
    · exact noQ_ok _ _ _ h1 h2 h3
noncomputable def Q65l0:SumK := fun vals s => q65l0 (fuelOf vals s.h) vals s
theorem qok65l0:SumKOk Try.prog (loopN Try.f65 0) 63 [0,1,2,3,9,10,11,22] [11] Q65l0 := fuel_ok qm65l0 fuelOf
noncomputable def L65_2:LoopT := addL L65_1 7 ([0,1,2,3,9,10,11,22],[]) (sumK 63 [0,1,2,3,9,10,11,22] [11] Q65l0)
theorem lok65_2:LfOkF Try.prog L65_2 Try.f65 := lfOkF_add lok65_1 qok65l0 (by kernel_rfl) (by kernel_rfl) (by kernel_rfl)

noncomputable def r65 (x0:Int) (x1 x2:Nat) (x3:LL):Nat×Nat :=
 cond (Nat.beq ((r131 x0 x3).1) 0) (cond ((((((r131 x0 x3).2).length:Nat):Int):Int) == 0) (0,0) (cond (Nat.beq ((r65l0 (1000 + ((r131 x0 x3).2).length + x3.length) x0 x1 x2 3296329728 1148846080 0 x3 ((r131 x0 x3).2)).1) 0) (0,((r65l0 (1000 + ((r131 x0 x3).2).length + x3.length) x0 x1 x2 3296329728 1148846080 0 x3 ((r131 x0 x3).2)).2)) (1,0))) (1,0)
noncomputable def a65 (x0:Int) (x1 x2:Nat) (x3:LL) (p:Nat×Nat):Res := firstT [((Nat.beq (p.1) 0),vf (p.2),⟨[(tb sc0 x3)],1,[]⟩)]
noncomputable def w65 (x0:Int) (x1 x2:Nat) (x3:LL):Res :=
 (cond (Nat.beq ((r131 x0 x3).1) 0)
 (cond ((((((r131 x0 x3).2).length:Nat):Int):Int) == 0) (a65 x0 x1 x2 x3 (0,0)) (cond (Nat.beq ((r65l0 (1000 + ((r131 x0 x3).2).length + x3.length) x0 x1 x2 3296329728 1148846080 0 x3 ((r131 x0 x3).2)).1) 0) (a65 x0 x1 x2 x3 (0,((r65l0 (1000 + ((r131 x0 x3).2).length + x3.length) x0 x1 x2 3296329728 1148846080 0 x3 ((r131 x0 x3).2)).2))) none))
 none)
theorem e65 (x0:Int) (x1 x2:Nat) (x3:LL):evFn Try.prog ext T60 L65_2 200 Try.f65 [wsl 0,vi x0,vf x1,vf x2] ⟨[(tb sc0 x3)],1,[]⟩ = firstT [((Nat.beq ((r65 x0 x1 x2 x3).1) 0),vf ((r65 x0 x1 x2 x3).2),⟨[(tb sc0 x3)],1,[]⟩)] :=
 (show _ = w65 x0 x1 x2 x3 from by kernel_rfl).trans
 (show w65 x0 x1 x2 x3 = a65 x0 x1 x2 x3 (r65 x0 x1 x2 x3) from by unfold w65 r65; exact (cond_app (a65 x0 x1 x2 x3) _ (cond_app (a65 x0 x1 x2 x3) _ rfl (cond_app (a65 x0 x1 x2 x3) _ rfl rfl)) rfl))
noncomputable def s65 (args:List Value) (s:St):List (Bool×Value×St) :=
 match args,s.h with
 | [.iface f0 .nilIface,.int .i64 x0,.float .f32 x1,.float .f32 x2],[⟨true,some (.tab [.fl .f32,.fl .f32,.fl .f32,.fl .f32,.int .i64] x3)⟩] => if f0 = 0 then [((Nat.beq ((r65 x0 x1 x2 x3).1) 0),vf ((r65 x0 x1 x2 x3).2),⟨[(tb sc0 x3)],1,[]⟩)] else T60 65 args s
 | _,_ => T60 65 args s
noncomputable def T61:CallF := addF T60 65 s65
theorem ok61:CfOk Try.prog T61 := by
  refine cfOk_add ok60 fun args s r s' h1 h2 h3 => ?_
  unfold s65 at h3; split at h3
  · rename_i h; split at h3
    · rename_i hc; obtain ⟨rfl⟩ := hc; exact callOk ok60 Try.func65 h1 h2 h lok65_2.body (e65 _ _ _ _) rfl h3
    · exact ok60 _ _ _ _ _ h1 h2 h3
  · exact ok60 _ _ _ _ _ h1 h2 h3

noncomputable def b58l0 (ih:Nat→Nat→Int→Int→LL→LL→(Nat×LL)) (x0 x1:Nat) (x2 x3:Int) (x4 x5:LL):Nat×LL :=
 let c507 := (r125 (Int.toNat ((x4.getD (Int.toNat x3) []).getD 0 0)) (Int.toNat ((x4.getD (Int.toNat x3) []).getD 1 0)) (Int.toNat ((x4.getD (Int.toNat x3) []).getD 2 0)) (Int.toNat ((x4.getD (Int.toNat x3) []).getD 3 0)) ((x4.getD (Int.toNat x3) []).getD 4 0) x0 (fsub .f32 ((r65 x3 x0 x1 x4).2) x1))
 let c508 := (r125 (Int.toNat ((x4.getD (Int.toNat x3) []).getD 0 0)) (Int.toNat ((x4.getD (Int.toNat x3) []).getD 1 0)) (Int.toNat ((x4.getD (Int.toNat x3) []).getD 2 0)) (Int.toNat ((x4.getD (Int.toNat x3) []).getD 3 0)) ((x4.getD (Int.toNat x3) []).getD 4 0) x0 (fsub .f32 0 ((r65 ((x4.getD (Int.toNat x3) []).getD 4 0) x0 x1 x4).2)))
 cond (decide ((x3:Int) < x2)) (cond ((decide ((0:Int) ≤ x3)) && (Nat.blt (Int.toNat x3) x4.length)) (cond ((((x4.getD (Int.toNat x3) []).getD 4 0):Int) == (-1)) (cond (Nat.beq ((r65 x3 x0 x1 x4).1) 0) (cond (Nat.beq (c507.1) 0) (cond (Nat.ble ((x5.length + 1) * 5) 140737488355328) (cond (Nat.beq ((ih x0 x1 x2 (IntKind.i64.wrap (x3 + 1)) x4 (((x5.drop 0).take x5.length) ++ ([[(((c507.2):Nat):Int)]]:LL))).1) 0) (0,((ih x0 x1 x2 (IntKind.i64.wrap (x3 + 1)) x4 (((x5.drop 0).take x5.length) ++ ([[(((c507.2):Nat):Int)]]:LL))).2)) (cond (Nat.beq ((ih x0 x1 x2 (IntKind.i64.wrap (x3 + 1)) x4 (((x5.drop 0).take x5.length) ++ ([[(((c507.2):Nat):Int)]]:LL))).1) 1) (0,(((x5.drop 0).take x5.length) ++ ([[(((c507.2):Nat):Int)]]:LL))) (2,[]))) (2,[])) (2,[])) (2,[])) (cond (Nat.beq ((r65 ((x4.getD (Int.toNat x3) []).getD 4 0) x0 x1 x4).1) 0) (cond (Nat.beq (c508.1) 0) (cond (Nat.ble ((x5.length + 1) * 5) 140737488355328) (cond (Nat.beq ((ih x0 x1 x2 (IntKind.i64.wrap (x3 + 1)) x4 (((x5.drop 0).take x5.length) ++ ([[(((c508.2):Nat):Int)]]:LL))).1) 0) (0,((ih x0 x1 x2 (IntKind.i64.wrap (x3 + 1)) x4 (((x5.drop 0).take x5.length) ++ ([[(((c508.2):Nat):Int)]]:LL))).2)) (cond (Nat.beq ((ih x0 x1 x2 (IntKind.i64.wrap (x3 + 1)) x4 (((x5.drop 0).take x5.length) ++ ([[(((c508.2):Nat):Int)]]:LL))).1) 1) (0,(((x5.drop 0).take x5.length) ++ ([[(((c508.2):Nat):Int)]]:LL))) (2,[]))) (2,[])) (2,[])) (2,[]))) (2,[])) (1,[])
noncomputable def r58l0:Nat→Nat→Nat→Int→Int→LL→LL→(Nat×LL)
 | 0 => fun _ _ _ _ _ _ => (2,[])
 | m + 1 => b58l0 (r58l0 m)
noncomputable def a58l0 (x0 x1:Nat) (x2 x3:Int) (x4 x5:LL) (p:Nat×LL):Option (Fin'×List Value×St) := firstT ([((Nat.beq (p.1) 0),.exit 0,[wsl 2],⟨[(tb sc0 x4),⟨true,none⟩,(tb [.fl .f32] (p.2))],2,[1]⟩),((Nat.beq (p.1) 1),.exit 0,[wsl 1],⟨[(tb sc0 x4),(tb [.fl .f32] x5)],2,[1]⟩)].map fun (b,x) => (b,(x.1,frameOf 49 [7] x.2.1,x.2.2)))
noncomputable def u58l0 (x0 x1:Nat) (x2 x3:Int) (x4 x5:LL) (p:Nat×LL):Option (Fin'×List Value×St) := alts ([((Nat.beq (p.1) 0),.exit 0,[wsl 2],⟨[(tb sc0 x4),⟨true,none⟩,(tb [.fl .f32] (p.2))],2,[1]⟩),((Nat.beq (p.1) 1),.exit 0,[wsl 1],⟨[(tb sc0 x4),(tb [.fl .f32] x5)],2,[1]⟩)].map fun (b,x) => (b,(x.1,frameOf 49 [7] x.2.1,x.2.2))) some
theorem v58l0 (x0 x1:Nat) (x2 x3:Int) (x4 x5:LL) (p:Nat×LL):u58l0 x0 x1 x2 x3 x4 x5 p = a58l0 x0 x1 x2 x3 x4 x5 p := alts_first _
noncomputable def q58l0 (m:Nat):SumK := fun vals s =>
 match vals,s.h with
 | [.iface f0 .nilIface,.float .f32 x0,.float .f32 x1,.iface f1 .nilIface,.iface f2 .nilIface,.int .i64 x2,.int .i64 x3],[⟨true,some (.tab [.fl .f32,.fl .f32,.fl .f32,.fl .f32,.int .i64] x4)⟩,⟨true,some (.tab [.fl .f32] x5)⟩] => if f0 = 0 ∧ f1 = 1 ∧ f2 = 0 then [((Nat.beq ((r58l0 m x0 x1 x2 x3 x4 x5).1) 0),.exit 0,[wsl 2],⟨[(tb sc0 x4),⟨true,none⟩,(tb [.fl .f32] ((r58l0 m x0 x1 x2 x3 x4 x5).2))],2,[1]⟩),((Nat.beq ((r58l0 m x0 x1 x2 x3 x4 x5).1) 1),.exit 0,[wsl 1],⟨[(tb sc0 x4),(tb [.fl .f32] x5)],2,[1]⟩)] else noQ vals s
 | _,_ => noQ vals s
noncomputable def w58l0 (ih:Nat→Nat→Int→Int→LL→LL→(Nat×LL)) (x0 x1:Nat) (x2 x3:Int) (x4 x5:LL):Option (Fin'×List Value×St) :=
 let c507 := (r125 (Int.toNat ((x4.getD (Int.toNat x3) []).getD 0 0)) (Int.toNat ((x4.getD (Int.toNat x3) []).getD 1 0)) (Int.toNat ((x4.getD (Int.toNat x3) []).getD 2 0)) (Int.toNat ((x4.getD (Int.toNat x3) []).getD 3 0)) ((x4.getD (Int.toNat x3) []).getD 4 0) x0 (fsub .f32 ((r65 x3 x0 x1 x4).2) x1))
 let c508 := (r125 (Int.toNat ((x4.getD (Int.toNat x3) []).getD 0 0)) (Int.toNat ((x4.getD (Int.toNat x3) []).getD 1 0)) (Int.toNat ((x4.getD (Int.toNat x3) []).getD 2 0)) (Int.toNat ((x4.getD (Int.toNat x3) []).getD 3 0)) ((x4.getD (Int.toNat x3) []).getD 4 0) x0 (fsub .f32 0 ((r65 ((x4.getD (Int.toNat x3) []).getD 4 0) x0 x1 x4).2)))
 (cond (decide ((x3:Int) < x2))
 (cond ((decide ((0:Int) ≤ x3)) && (Nat.blt (Int.toNat x3) x4.length)) (cond (Nat.blt (Int.toNat x3) x4.length) (cond ((((x4.getD (Int.toNat x3) []).getD 4 0):Int) == (-1)) (cond (Nat.beq ((r65 x3 x0 x1 x4).1) 0) (cond (Nat.beq (c507.1) 0) (cond (Nat.ble ((x5.length + 1) * 5) 140737488355328) (cond (Nat.beq ((ih x0 x1 x2 (IntKind.i64.wrap (x3 + 1)) x4 (((x5.drop 0).take x5.length) ++ ([[(((c507.2):Nat):Int)]]:LL))).1) 0) (a58l0 x0 x1 x2 x3 x4 x5 (0,((ih x0 x1 x2 (IntKind.i64.wrap (x3 + 1)) x4 (((x5.drop 0).take x5.length) ++ ([[(((c507.2):Nat):Int)]]:LL))).2))) (cond (Nat.beq ((ih x0 x1 x2 (IntKind.i64.wrap (x3 + 1)) x4 (((x5.drop 0).take x5.length) ++ ([[(((c507.2):Nat):Int)]]:LL))).1) 1) (a58l0 x0 x1 x2 x3 x4 x5 (0,(((x5.drop 0).take x5.length) ++ ([[(((c507.2):Nat):Int)]]:LL)))) none)) none) none) none) (cond (Nat.beq ((r65 ((x4.getD (Int.toNat x3) []).getD 4 0) x0 x1 x4).1) 0) (cond (Nat.beq (c508.1) 0) (cond (Nat.ble ((x5.length + 1) * 5) 140737488355328) (cond (Nat.beq ((ih x0 x1 x2 (IntKind.i64.wrap (x3 + 1)) x4 (((x5.drop 0).take x5.length) ++ ([[(((c508.2):Nat):Int)]]:LL))).1) 0) (a58l0 x0 x1 x2 x3 x4 x5 (0,((ih x0 x1 x2 (IntKind.i64.wrap (x3 + 1)) x4 (((x5.drop 0).take x5.length) ++ ([[(((c508.2):Nat):Int)]]:LL))).2))) (cond (Nat.beq ((ih x0 x1 x2 (IntKind.i64.wrap (x3 + 1)) x4 (((x5.drop 0).take x5.length) ++ ([[(((c508.2):Nat):Int)]]:LL))).1) 1) (a58l0 x0 x1 x2 x3 x4 x5 (0,(((x5.drop 0).take x5.length) ++ ([[(((c508.2):Nat):Int)]]:LL)))) none)) none) none) none)) none) none)
 (a58l0 x0 x1 x2 x3 x4 x5 (1,[])))
theorem e58l0 (m:Nat) (x0 x1:Nat) (x2 x3:Int) (x4 x5:LL):evC Try.prog ext T61 noL 200 (loopN Try.f58 0) (loopTail ([0,1,2,7,11,12,13],[]) [7] [1] (sumK 49 [0,1,2,7,11,12,13] [7] (q58l0 m))) (frameOf 49 [0,1,2,7,11,12,13] [wsl 0,vf x0,vf x1,wsl 1,wsl 0,vi x2,vi x3]) ⟨[(tb sc0 x4),(tb [.fl .f32] x5)],2,[]⟩ = firstT ([((Nat.beq ((r58l0 (m + 1) x0 x1 x2 x3 x4 x5).1) 0),.exit 0,[wsl 2],⟨[(tb sc0 x4),⟨true,none⟩,(tb [.fl .f32] ((r58l0 (m + 1) x0 x1 x2 x3 x4 x5).2))],2,[1]⟩),((Nat.beq ((r58l0 (m + 1) x0 x1 x2 x3 x4 x5).1) 1),.exit 0,[wsl 1],⟨[(tb sc0 x4),(tb [.fl .f32] x5)],2,[1]⟩)].map fun (b,x) => (b,(x.1,frameOf 49 [7] x.2.1,x.2.2))) :=
 (show _ = w58l0 (r58l0 m) x0 x1 x2 x3 x4 x5 from by kernel_rfl).trans
 (show w58l0 (r58l0 m) x0 x1 x2 x3 x4 x5 = a58l0 x0 x1 x2 x3 x4 x5 (r58l0 (m + 1) x0 x1 x2 x3 x4 x5) from by unfold w58l0; show _ = a58l0 x0 x1 x2 x3 x4 x5 (b58l0 (r58l0 m) x0 x1 x2 x3 x4 x5); unfold b58l0; exact (cond_both (a58l0 x0 x1 x2 x3 x4 x5) _ (fun h0 => (cond_both (a58l0 x0 x1 x2 x3 x4 x5) _ (fun h1 => (cond_t (ev_and2 h1) (cond_app (a58l0 x0 x1 x2 x3 x4 x5) _ (cond_app (a58l0 x0 x1 x2 x3 x4 x5) _ (cond_app (a58l0 x0 x1 x2 x3 x4 x5) _ (cond_app (a58l0 x0 x1 x2 x3 x4 x5) _ (cond_app (a58l0 x0 x1 x2 x3 x4 x5) _ rfl (cond_app (a58l0 x0 x1 x2 x3 x4 x5) _ rfl rfl)) rfl) rfl) rfl) (cond_app (a58l0 x0 x1 x2 x3 x4 x5) _ (cond_app (a58l0 x0 x1 x2 x3 x4 x5) _ (cond_app (a58l0 x0 x1 x2 x3 x4 x5) _ (cond_app (a58l0 x0 x1 x2 x3 x4 x5) _ rfl (cond_app (a58l0 x0 x1 x2 x3 x4 x5) _ rfl rfl)) rfl) rfl) rfl)))) (fun h1 => rfl))) (fun h0 => rfl)))
theorem qm58l0:∀ m,SumKOk Try.prog (loopN Try.f58 0) 49 [0,1,2,7,11,12,13] [7] (q58l0 m) := by
  intro m
  induction m with
  | zero =>
    intro vals s x h1 h2 h3
    unfold q58l0 at h3; split at h3
    · rename_i h; split at h3
      · rename_i hc; obtain ⟨rfl,rfl,rfl⟩ := hc; exact absurd h3 (by simp [r58l0,firstT,Nat.beq])
      · exact noQ_ok _ _ _ h1 h2 h3
    · exact noQ_ok _ _ _ h1 h2 h3
  | succ m ih =>
    intro vals s x h1 h2 h3
    unfold q58l0 at h3; split at h3
    · rename_i h; split at h3
      · rename_i hc; obtain ⟨rfl,rfl,rfl⟩ := hc; exact sum_step ok61 extOk mixed ((lfOkF_no _ _).inner (by kernel_rfl)) ih h1 h2 h (e58l0 m _ _ _ _ _ _) rfl h3
      · exact noQ_ok _ _ _ h1 h2 h3
    · exact noQ_ok _ _ _ h1 h2 h3
noncomputable def Q58l0:SumK := fun vals s => q58l0 (fuelOf vals s.h) vals s
theorem qok58l0:SumKOk Try.prog (loopN Try.f58 0) 49 [0,1,2,7,11,12,13] [7] Q58l0 := fuel_ok qm58l0 fuelOf
noncomputable def L58_1:LoopT := addL noL 4 ([0,1,2,7,11,12,13],[]) (sumK 49 [0,1,2,7,11,12,13] [7] Q58l0)
theorem lok58_1:LfOkF Try.prog L58_1 Try.f58 := lfOkF_add (lfOkF_no _ _) qok58l0 (by kernel_rfl) (by kernel_rfl) (by kernel_rfl)

noncomputable def r58 (x0 x1:Nat) (x2:LL):Nat×LL :=
 cond (Nat.beq ((r58l0 (1000 + 0 + x2.length) x0 x1 ((x2.length:Nat):Int) 0 x2 ([]:LL)).1) 0) (0,((r58l0 (1000 + 0 + x2.length) x0 x1 ((x2.length:Nat):Int) 0 x2 ([]:LL)).2)) (cond (Nat.beq ((r58l0 (1000 + 0 + x2.length) x0 x1 ((x2.length:Nat):Int) 0 x2 ([]:LL)).1) 1) (0,([]:LL)) (1,[]))
noncomputable def a58 (x0 x1:Nat) (x2:LL) (p:Nat×LL):Res := firstT [((Nat.beq (p.1) 0),wsl 1,⟨[(tb sc0 x2),(tb [.fl .f32] (p.2))],1,[]⟩)]
noncomputable def w58 (x0 x1:Nat) (x2:LL):Res :=
 (cond (Nat.beq ((r58l0 (1000 + 0 + x2.length) x0 x1 ((x2.length:Nat):Int) 0 x2 ([]:LL)).1) 0)
 (a58 x0 x1 x2 (0,((r58l0 (1000 + 0 + x2.length) x0 x1 ((x2.length:Nat):Int) 0 x2 ([]:LL)).2)))
 (cond (Nat.beq ((r58l0 (1000 + 0 + x2.length) x0 x1 ((x2.length:Nat):Int) 0 x2 ([]:LL)).1) 1) (a58 x0 x1 x2 (0,([]:LL))) none))
theorem e58 (x0 x1:Nat) (x2:LL):evFn Try.prog ext T61 L58_1 200 Try.f58 [wsl 0,vf x0,vf x1] ⟨[(tb sc0 x2)],1,[]⟩ = firstT [((Nat.beq ((r58 x0 x1 x2).1) 0),wsl 1,⟨[(tb sc0 x2),(tb [.fl .f32] ((r58 x0 x1 x2).2))],1,[]⟩)] :=
 (show _ = w58 x0 x1 x2 from by kernel_rfl).trans
 (show w58 x0 x1 x2 = a58 x0 x1 x2 (r58 x0 x1 x2) from by unfold w58 r58; exact (cond_app (a58 x0 x1 x2) _ rfl (cond_app (a58 x0 x1 x2) _ rfl rfl)))
noncomputable def s58 (args:List Value) (s:St):List (Bool×Value×St) :=
 match args,s.h with
 | [.iface f0 .nilIface,.float .f32 x0,.float .f32 x1],[⟨true,some (.tab [.fl .f32,.fl .f32,.fl .f32,.fl .f32,.int .i64] x2)⟩] => if f0 = 0 then [((Nat.beq ((r58 x0 x1 x2).1) 0),wsl 1,⟨[(tb sc0 x2),(tb [.fl .f32] ((r58 x0 x1 x2).2))],1,[]⟩)] else T61 58 args s
 | _,_ => T61 58 args s
noncomputable def T62:CallF := addF T61 58 s58
theorem ok62:CfOk Try.prog T62 := by
  refine cfOk_add ok61 fun args s r s' h1 h2 h3 => ?_
  unfold s58 at h3; split at h3
  · rename_i h; split at h3
    · rename_i hc; obtain ⟨rfl⟩ := hc; exact callOk ok61 Try.func58 h1 h2 h lok58_1.body (e58 _ _ _) rfl h3
    · exact ok61 _ _ _ _ _ h1 h2 h3
  · exact ok61 _ _ _ _ _ h1 h2 h3

noncomputable def r151 (x0:LL):Nat×LL :=
 cond (Nat.ble ((0 + x0.length) * 25) 140737488355328) (0,(([]:LL) ++ x0)) (1,[])
noncomputable def a151 (x0:LL) (p:Nat×LL):Res := firstT [((Nat.beq (p.1) 0),wsl 1,⟨[(tb sc0 x0),(tb sc0 (p.2))],1,[]⟩)]
noncomputable def w151 (x0:LL):Res :=
 (cond (Nat.ble ((0 + x0.length) * 25) 140737488355328)
 (a151 x0 (0,(([]:LL) ++ x0)))
 none)
theorem e151 (x0:LL):evFn Try.prog ext T62 noL 200 Try.f151 [wsl 0] ⟨[(tb sc0 x0)],1,[]⟩ = firstT [((Nat.beq ((r151 x0).1) 0),wsl 1,⟨[(tb sc0 x0),(tb sc0 ((r151 x0).2))],1,[]⟩)] :=
 (show _ = w151 x0 from by kernel_rfl).trans
 (show w151 x0 = a151 x0 (r151 x0) from by unfold w151 r151; exact (cond_app (a151 x0) _ rfl rfl))
noncomputable def s151 (args:List Value) (s:St):List (Bool×Value×St) :=
 match args,s.h with
 | [.iface f0 .nilIface],[⟨true,some (.tab [.fl .f32,.fl .f32,.fl .f32,.fl .f32,.int .i64] x0)⟩] => if f0 = 0 then [((Nat.beq ((r151 x0).1) 0),wsl 1,⟨[(tb sc0 x0),(tb sc0 ((r151 x0).2))],1,[]⟩)] else T62 151 args s
 | _,_ => T62 151 args s
noncomputable def T63:CallF := addF T62 151 s151
theorem ok63:CfOk Try.prog T63 := by
  refine cfOk_add ok62 fun args s r s' h1 h2 h3 => ?_
  unfold s151 at h3; split at h3
  · rename_i h; split at h3
    · rename_i hc; obtain ⟨rfl⟩ := hc; exact callOk ok62 Try.func151 h1 h2 h (lfOkF_no _ _).body (e151 _) rfl h3
    · exact ok62 _ _ _ _ _ h1 h2 h3
  · exact ok62 _ _ _ _ _ h1 h2 h3

noncomputable def r152 (x0 x1 x2:Nat):Nat :=
 cond (flt .f32 x0 x1) (x1) (cond (fgt .f32 x0 x2) (x2) (x0))
noncomputable def a152 (x0 x1 x2:Nat) (p:Nat):Res := firstT [(true,vf p,st0)]
noncomputable def w152 (x0 x1 x2:Nat):Res :=
 (cond (flt .f32 x0 x1)
 (a152 x0 x1 x2 (x1))
 (cond (fgt .f32 x0 x2) (a152 x0 x1 x2 (x2)) (a152 x0 x1 x2 (x0))))
theorem e152 (x0 x1 x2:Nat):evFn Try.prog ext T63 noL 200 Try.f152 [vf x0,vf x1,vf x2] st0 = firstT [(true,vf (r152 x0 x1 x2),st0)] :=
 (show _ = w152 x0 x1 x2 from by kernel_rfl).trans
 (show w152 x0 x1 x2 = a152 x0 x1 x2 (r152 x0 x1 x2) from by unfold w152 r152; exact (cond_app (a152 x0 x1 x2) _ rfl (cond_app (a152 x0 x1 x2) _ rfl rfl)))
noncomputable def s152 (args:List Value) (s:St):List (Bool×Value×St) :=
 match args,s.h with
 | [.float .f32 x0,.float .f32 x1,.float .f32 x2],[] => [(true,vf (r152 x0 x1 x2),st0)]
 | _,_ => T63 152 args s
noncomputable def T64:CallF := addF T63 152 s152
theorem ok64:CfOk Try.prog T64 := by
  refine cfOk_add ok63 fun args s r s' h1 h2 h3 => ?_
  unfold s152 at h3; split at h3
  · rename_i h; exact callOk ok63 Try.func152 h1 h2 h (lfOkF_no _ _).body (e152 _ _ _) rfl h3
  · exact ok63 _ _ _ _ _ h1 h2 h3

noncomputable def b102l0 (ih:Nat→Nat→Int→Int→LL→LL→LL→LL→(Nat×LL)) (x0 x1:Nat) (x2 x3:Int) (x4 x5 x6 x7:LL):Nat×LL :=
 let c541 := (r152 (fadd .f32 (fadd .f32 (Int.toNat ((x4.getD (Int.toNat x3) []).getD 2 0)) (fmul .f32 (fmul .f32 (fmul .f32 1056964608 (fneg .f32 (Int.toNat ((x5.getD (Int.toNat x3) []).getD 0 0)))) (fsub .f32 (Int.toNat ((x6.getD (Int.toNat x3) []).getD 0 0)) (Int.toNat ((x4.getD (Int.toNat x3) []).getD 2 0)))) x1)) (fmul .f32 (fmul .f32 1031798784 (fsub .f32 x0 (Int.toNat ((x4.getD (Int.toNat x3) []).getD 2 0)))) x1)) 3262119936 1153138688)
 let c542 := (r152 (fadd .f32 (fadd .f32 (Int.toNat ((x4.getD (Int.toNat x3) []).getD 2 0)) (fmul .f32 (fmul .f32 (fmul .f32 1056964608 (Int.toNat ((x5.getD (Int.toNat x3) []).getD 0 0))) (fsub .f32 (Int.toNat ((x6.getD (Int.toNat x3) []).getD 0 0)) (Int.toNat ((x4.getD (Int.toNat x3) []).getD 2 0)))) x1)) (fmul .f32 (fmul .f32 1031798784 (fsub .f32 x0 (Int.toNat ((x4.getD (Int.toNat x3) []).getD 2 0)))) x1)) 3262119936 1153138688)
 cond (decide ((x3:Int) < x2)) (cond ((decide ((0:Int) ≤ x3)) && (Nat.blt (Int.toNat x3) x5.length)) (cond (flt .f32 (Int.toNat ((x5.getD (Int.toNat x3) []).getD 0 0)) 0) (cond ((decide ((0:Int) ≤ x3)) && (Nat.blt (Int.toNat x3) x4.length)) (cond ((decide ((0:Int) ≤ x3)) && (Nat.blt (Int.toNat x3) x6.length)) (cond ((decide ((0:Int) ≤ x3)) && (Nat.blt (Int.toNat x3) x7.length)) (ih x0 x1 x2 (IntKind.i64.wrap (x3 + 1)) x4 x5 x6 (x7.modify (Int.toNat x3) (fun r => spl 5 r 2 [((c541:Nat):Int)]))) (1,[])) (1,[])) (1,[])) (cond ((decide ((0:Int) ≤ x3)) && (Nat.blt (Int.toNat x3) x4.length)) (cond ((decide ((0:Int) ≤ x3)) && (Nat.blt (Int.toNat x3) x6.length)) (cond ((decide ((0:Int) ≤ x3)) && (Nat.blt (Int.toNat x3) x7.length)) (ih x0 x1 x2 (IntKind.i64.wrap (x3 + 1)) x4 x5 x6 (x7.modify (Int.toNat x3) (fun r => spl 5 r 2 [((c542:Nat):Int)]))) (1,[])) (1,[])) (1,[]))) (1,[])) (0,x7)
noncomputable def r102l0:Nat→Nat→Nat→Int→Int→LL→LL→LL→LL→(Nat×LL)
 | 0 => fun _ _ _ _ _ _ _ _ => (1,[])
 | m + 1 => b102l0 (r102l0 m)
noncomputable def a102l0 (x0 x1:Nat) (x2 x3:Int) (x4 x5 x6 x7:LL) (p:Nat×LL):Option (Fin'×List Value×St) := firstT ([((Nat.beq (p.1) 0),.exit 0,[wsl 1,wsl 3],⟨[(tb sc0 x4),(tb [.fl .f32] x5),(tb [.fl .f32] x6),(tb sc0 (p.2))],4,[3]⟩)].map fun (b,x) => (b,(x.1,frameOf 88 [13,15] x.2.1,x.2.2)))
noncomputable def u102l0 (x0 x1:Nat) (x2 x3:Int) (x4 x5 x6 x7:LL) (p:Nat×LL):Option (Fin'×List Value×St) := alts ([((Nat.beq (p.1) 0),.exit 0,[wsl 1,wsl 3],⟨[(tb sc0 x4),(tb [.fl .f32] x5),(tb [.fl .f32] x6),(tb sc0 (p.2))],4,[3]⟩)].map fun (b,x) => (b,(x.1,frameOf 88 [13,15] x.2.1,x.2.2))) some
theorem v102l0 (x0 x1:Nat) (x2 x3:Int) (x4 x5 x6 x7:LL) (p:Nat×LL):u102l0 x0 x1 x2 x3 x4 x5 x6 x7 p = a102l0 x0 x1 x2 x3 x4 x5 x6 x7 p := alts_first _
noncomputable def q102l0 (m:Nat):SumK := fun vals s =>
 match vals,s.h with
 | [.iface f0 .nilIface,.float .f32 x0,.float .f32 x1,.iface f1 .nilIface,.iface f2 .nilIface,.iface f3 .nilIface,.int .i64 x2,.int .i64 x3],[⟨true,some (.tab [.fl .f32,.fl .f32,.fl .f32,.fl .f32,.int .i64] x4)⟩,⟨true,some (.tab [.fl .f32] x5)⟩,⟨true,some (.tab [.fl .f32] x6)⟩,⟨true,some (.tab [.fl .f32,.fl .f32,.fl .f32,.fl .f32,.int .i64] x7)⟩] => if f0 = 0 ∧ f1 = 1 ∧ f2 = 2 ∧ f3 = 3 then [((Nat.beq ((r102l0 m x0 x1 x2 x3 x4 x5 x6 x7).1) 0),.exit 0,[wsl 1,wsl 3],⟨[(tb sc0 x4),(tb [.fl .f32] x5),(tb [.fl .f32] x6),(tb sc0 ((r102l0 m x0 x1 x2 x3 x4 x5 x6 x7).2))],4,[3]⟩)] else noQ vals s
 | _,_ => noQ vals s
noncomputable def w102l0 (ih:Nat→Nat→Int→Int→LL→LL→LL→LL→(Nat×LL)) (x0 x1:Nat) (x2 x3:Int) (x4 x5 x6 x7:LL):Option (Fin'×List Value×St) :=
 let c541 := (r152 (fadd .f32 (fadd .f32 (Int.toNat ((x4.getD (Int.toNat x3) []).getD 2 0)) (fmul .f32 (fmul .f32 (fmul .f32 1056964608 (fneg .f32 (Int.toNat ((x5.getD (Int.toNat x3) []).getD 0 0)))) (fsub .f32 (Int.toNat ((x6.getD (Int.toNat x3) []).getD 0 0)) (Int.toNat ((x4.getD (Int.toNat x3) []).getD 2 0)))) x1)) (fmul .f32 (fmul .f32 1031798784 (fsub .f32 x0 (Int.toNat ((x4.getD (Int.toNat x3) []).getD 2 0)))) x1)) 3262119936 1153138688)
 let c542 := (r152 (fadd .f32 (fadd .f32 (Int.toNat ((x4.getD (Int.toNat x3) []).getD 2 0)) (fmul .f32 (fmul .f32 (fmul .f32 1056964608 (Int.toNat ((x5.getD (Int.toNat x3) []).getD 0 0))) (fsub .f32 (Int.toNat ((x6.getD (Int.toNat x3) []).getD 0 0)) (Int.toNat ((x4.getD (Int.toNat x3) []).getD 2 0)))) x1)) (fmul .f32 (fmul .f32 1031798784 (fsub .f32 x0 (Int.toNat ((x4.getD (Int.toNat x3) []).getD 2 0)))) x1)) 3262119936 1153138688)
 (cond (decide ((x3:Int) < x2))
 (cond ((decide ((0:Int) ≤ x3)) && (Nat.blt (Int.toNat x3) x5.length)) (cond (Nat.blt (Int.toNat x3) x5.length) (cond (flt .f32 (Int.toNat ((x5.getD (Int.toNat x3) []).getD 0 0)) 0) (cond ((decide ((0:Int) ≤ x3)) && (Nat.blt (Int.toNat x3) x4.length)) (cond (Nat.blt (Int.toNat x3) x4.length) (cond ((decide ((0:Int) ≤ x3)) && (Nat.blt (Int.toNat x3) x6.length)) (cond (Nat.blt (Int.toNat x3) x6.length) (cond ((decide ((0:Int) ≤ x3)) && (Nat.blt (Int.toNat x3) x7.length)) (cond (Nat.blt (Int.toNat x3) x7.length) (u102l0 x0 x1 x2 x3 x4 x5 x6 x7 (ih x0 x1 x2 (IntKind.i64.wrap (x3 + 1)) x4 x5 x6 (x7.modify (Int.toNat x3) (fun r => spl 5 r 2 [((c541:Nat):Int)])))) none) none) none) none) none) none) (cond ((decide ((0:Int) ≤ x3)) && (Nat.blt (Int.toNat x3) x4.length)) (cond (Nat.blt (Int.toNat x3) x4.length) (cond ((decide ((0:Int) ≤ x3)) && (Nat.blt (Int.toNat x3) x6.length)) (cond (Nat.blt (Int.toNat x3) x6.length) (cond ((decide ((0:Int) ≤ x3)) && (Nat.blt (Int.toNat x3) x7.length)) (cond (Nat.blt (Int.toNat x3) x7.length) (u102l0 x0 x1 x2 x3 x4 x5 x6 x7 (ih x0 x1 x2 (IntKind.i64.wrap (x3 + 1)) x4 x5 x6 (x7.modify (Int.toNat x3) (fun r => spl 5 r 2 [((c542:Nat):Int)])))) none) none) none) none) none) none)) none) none)
 (a102l0 x0 x1 x2 x3 x4 x5 x6 x7 (0,x7)))
theorem e102l0 (m:Nat) (x0 x1:Nat) (x2 x3:Int) (x4 x5 x6 x7:LL):evC Try.prog ext T64 noL 200 (loopN Try.f102 0) (loopTail ([0,2,4,13,14,15,39,40],[]) [13,15] [3] (sumK 88 [0,2,4,13,14,15,39,40] [13,15] (q102l0 m))) (frameOf 88 [0,2,4,13,14,15,39,40] [wsl 0,vf x0,vf x1,wsl 1,wsl 2,wsl 3,vi x2,vi x3]) ⟨[(tb sc0 x4),(tb [.fl .f32] x5),(tb [.fl .f32] x6),(tb sc0 x7)],4,[]⟩ = firstT ([((Nat.beq ((r102l0 (m + 1) x0 x1 x2 x3 x4 x5 x6 x7).1) 0),.exit 0,[wsl 1,wsl 3],⟨[(tb sc0 x4),(tb [.fl .f32] x5),(tb [.fl .f32] x6),(tb sc0 ((r102l0 (m + 1) x0 x1 x2 x3 x4 x5 x6 x7).2))],4,[3]⟩)].map fun (b,x) => (b,(x.1,frameOf 88 [13,15] x.2.1,x.2.2))) :=
 (show _ = w102l0 (r102l0 m) x0 x1 x2 x3 x4 x5 x6 x7 from by kernel_rfl).trans
 (show w102l0 (r102l0 m) x0 x1 x2 x3 x4 x5 x6 x7 = a102l0 x0 x1 x2 x3 x4 x5 x6 x7 (r102l0 (m + 1) x0 x1 x2 x3 x4 x5 x6 x7) from by unfold w102l0; show _ = a102l0 x0 x1 x2 x3 x4 x5 x6 x7 (b102l0 (r102l0 m) x0 x1 x2 x3 x4 x5 x6 x7); unfold b102l0; exact (cond_both (a102l0 x0 x1 x2 x3 x4 x5 x6 x7) _ (fun h0 => (cond_both (a102l0 x0 x1 x2 x3 x4 x5 x6 x7) _ (fun h1 => (cond_t (ev_and2 h1) (cond_both (a102l0 x0 x1 x2 x3 x4 x5 x6 x7) _ (fun h2 => (cond_both (a102l0 x0 x1 x2 x3 x4 x5 x6 x7) _ (fun h3 => (cond_t (ev_and2 h3) (cond_both (a102l0 x0 x1 x2 x3 x4 x5 x6 x7) _ (fun h4 => (cond_t (ev_and2 h4) (cond_both (a102l0 x0 x1 x2 x3 x4 x5 x6 x7) _ (fun h5 => (cond_t (ev_and2 h5) (v102l0 x0 x1 x2 x3 x4 x5 x6 x7 ((r102l0 m) x0 x1 x2 (IntKind.i64.wrap (x3 + 1)) x4 x5 x6 (x7.modify (Int.toNat x3) (fun r => spl 5 r 2 [(((r152 (fadd .f32 (fadd .f32 (Int.toNat ((x4.getD (Int.toNat x3) []).getD 2 0)) (fmul .f32 (fmul .f32 (fmul .f32 1056964608 (fneg .f32 (Int.toNat ((x5.getD (Int.toNat x3) []).getD 0 0)))) (fsub .f32 (Int.toNat ((x6.getD (Int.toNat x3) []).getD 0 0)) (Int.toNat ((x4.getD (Int.toNat x3) []).getD 2 0)))) x1)) (fmul .f32 (fmul .f32 1031798784 (fsub .f32 x0 (Int.toNat ((x4.getD (Int.toNat x3) []).getD 2 0)))) x1)) 3262119936 1153138688):Nat):Int)])))))) (fun h5 => rfl)))) (fun h4 => rfl)))) (fun h3 => rfl))) (fun h2 => (cond_both (a102l0 x0 x1 x2 x3 x4 x5 x6 x7) _ (fun h3 => (cond_t (ev_and2 h3) (cond_both (a102l0 x0 x1 x2 x3 x4 x5 x6 x7) _ (fun h4 => (cond_t (ev_and2 h4) (cond_both (a102l0 x0 x1 x2 x3 x4 x5 x6 x7) _ (fun h5 => (cond_t (ev_and2 h5) (v102l0 x0 x1 x2 x3 x4 x5 x6 x7 ((r102l0 m) x0 x1 x2 (IntKind.i64.wrap (x3 + 1)) x4 x5 x6 (x7.modify (Int.toNat x3) (fun r => spl 5 r 2 [(((r152 (fadd .f32 (fadd .f32 (Int.toNat ((x4.getD (Int.toNat x3) []).getD 2 0)) (fmul .f32 (fmul .f32 (fmul .f32 1056964608 (Int.toNat ((x5.getD (Int.toNat x3) []).getD 0 0))) (fsub .f32 (Int.toNat ((x6.getD (Int.toNat x3) []).getD 0 0)) (Int.toNat ((x4.getD (Int.toNat x3) []).getD 2 0)))) x1)) (fmul .f32 (fmul .f32 1031798784 (fsub .f32 x0 (Int.toNat ((x4.getD (Int.toNat x3) []).getD 2 0)))) x1)) 3262119936 1153138688):Nat):Int)])))))) (fun h5 => rfl)))) (fun h4 => rfl)))) (fun h3 => rfl)))))) (fun h1 => rfl))) (fun h0 => rfl)))
theorem qm102l0:∀ m,SumKOk Try.prog (loopN Try.f102 0) 88 [0,2,4,13,14,15,39,40] [13,15] (q102l0 m) := by
  intro m
  induction m with
  | zero =>
    intro vals s x h1 h2 h3
    unfold q102l0 at h3; split at h3
    · rename_i h; split at h3
      · rename_i hc; obtain ⟨rfl,rfl,rfl,rfl⟩ := hc; exact absurd h3 (by simp [r102l0,firstT,Nat.beq])
      · exact noQ_ok _ _ _ h1 h2 h3
    · exact noQ_ok _ _ _ h1 h2 h3
  | succ m ih =>
    intro vals s x h1 h2 h3
    unfold q102l0 at h3; split at h3
    · rename_i h; split at h3
      · rename_i hc; obtain ⟨rfl,rfl,rfl,rfl⟩ := hc; exact sum_step ok64 extOk mixed ((lfOkF_no _ _).inner (by kernel_rfl)) ih h1 h2 h (e102l0 m _ _ _ _ _ _ _ _) rfl h3
      · exact noQ_ok _ _ _ h1 h2 h3
    · exact noQ_ok _ _ _ h1 h2 h3
noncomputable def Q102l0:SumK := fun vals s => q102l0 (fuelOf vals s.h) vals s
theorem qok102l0:SumKOk Try.prog (loopN Try.f102 0) 88 [0,2,4,13,14,15,39,40] [13,15] Q102l0 := fuel_ok qm102l0 fuelOf
noncomputable def L102_1:LoopT := addL noL 10 ([0,2,4,13,14,15,39,40],[]) (sumK 88 [0,2,4,13,14,15,39,40] [13,15] Q102l0)
theorem lok102_1:LfOkF Try.prog L102_1 Try.f102 := lfOkF_add (lfOkF_no _ _) qok102l0 (by kernel_rfl) (by kernel_rfl) (by kernel_rfl)

noncomputable def r102 (x0 x1 x2:Nat) (x3 x4:LL):Nat×Bool×LL×LL :=
 let c543 := (r102l0 (1000 + ((r151 x3).2).length + ((r96 x0 x3 x4 ((r58 x0 x1 x3).2)).2).length + ((r58 x0 x1 x3).2).length + x3.length) x0 x2 ((((r151 x3).2).length:Nat):Int) 0 x3 ((r58 x0 x1 x3).2) ((r96 x0 x3 x4 ((r58 x0 x1 x3).2)).2) ((r151 x3).2))
 cond (Nat.beq ((r58 x0 x1 x3).1) 0) (cond (Nat.beq ((r59b ((r58 x0 x1 x3).2)).1) 0) (cond (!((r59b ((r58 x0 x1 x3).2)).2)) (0,false,[],[]) (cond (Nat.beq ((r96 x0 x3 x4 ((r58 x0 x1 x3).2)).1) 0) (cond (Nat.beq ((r59b ((r96 x0 x3 x4 ((r58 x0 x1 x3).2)).2)).1) 0) (cond (!((r59b ((r96 x0 x3 x4 ((r58 x0 x1 x3).2)).2)).2)) (0,false,[],[]) (cond (Nat.beq ((r151 x3).1) 0) (cond (Nat.beq (c543.1) 0) (cond (Nat.beq ((r45 (c543.2)).1) 0) (1,((r45 (c543.2)).2),(c543.2),((r58 x0 x1 x3).2)) (2,false,[],[])) (2,false,[],[])) (2,false,[],[]))) (2,false,[],[])) (2,false,[],[]))) (2,false,[],[])) (2,false,[],[])
noncomputable def a102 (x0 x1 x2:Nat) (x3 x4:LL) (p:Nat×Bool×LL×LL):Res := firstT [((Nat.beq (p.1) 0),.tuple #[.slice none 0 0,.slice none 0 0,.bool false],⟨[(tb sc0 x3),(tb [.fl .f32] x4)],2,[]⟩),((Nat.beq (p.1) 1),.tuple #[wsl 2,wsl 3,.bool (p.2.1)],⟨[(tb sc0 x3),(tb [.fl .f32] x4),(tb sc0 (p.2.2.1)),(tb [.fl .f32] (p.2.2.2))],2,[]⟩)]
noncomputable def w102 (x0 x1 x2:Nat) (x3 x4:LL):Res :=
 let c543 := (r102l0 (1000 + ((r151 x3).2).length + ((r96 x0 x3 x4 ((r58 x0 x1 x3).2)).2).length + ((r58 x0 x1 x3).2).length + x3.length) x0 x2 ((((r151 x3).2).length:Nat):Int) 0 x3 ((r58 x0 x1 x3).2) ((r96 x0 x3 x4 ((r58 x0 x1 x3).2)).2) ((r151 x3).2))
 (cond (Nat.beq ((r58 x0 x1 x3).1) 0)
 (cond (Nat.beq ((r59b ((r58 x0 x1 x3).2)).1) 0) (cond (!((r59b ((r58 x0 x1 x3).2)).2)) (a102 x0 x1 x2 x3 x4 (0,false,[],[])) (cond (Nat.beq ((r96 x0 x3 x4 ((r58 x0 x1 x3).2)).1) 0) (cond (Nat.beq ((r59b ((r96 x0 x3 x4 ((r58 x0 x1 x3).2)).2)).1) 0) (cond (!((r59b ((r96 x0 x3 x4 ((r58 x0 x1 x3).2)).2)).2)) (a102 x0 x1 x2 x3 x4 (0,false,[],[])) (cond (Nat.beq ((r151 x3).1) 0) (cond (Nat.beq (c543.1) 0) (cond (Nat.beq ((r45 (c543.2)).1) 0) (a102 x0 x1 x2 x3 x4 (1,((r45 (c543.2)).2),(c543.2),((r58 x0 x1 x3).2))) none) none) none)) none) none)) none)
 none)
theorem e102 (x0 x1 x2:Nat) (x3 x4:LL):evFn Try.prog ext T64 L102_1 200 Try.f102 [wsl 0,wsl 1,vf x0,vf x1,vf x2] ⟨[(tb sc0 x3),(tb [.fl .f32] x4)],2,[]⟩ = firstT [((Nat.beq ((r102 x0 x1 x2 x3 x4).1) 0),.tuple #[.slice none 0 0,.slice none 0 0,.bool false],⟨[(tb sc0 x3),(tb [.fl .f32] x4)],2,[]⟩),((Nat.beq ((r102 x0 x1 x2 x3 x4).1) 1),.tuple #[wsl 2,wsl 3,.bool ((r102 x0 x1 x2 x3 x4).2.1)],⟨[(tb sc0 x3),(tb [.fl .f32] x4),(tb sc0 ((r102 x0 x1 x2 x3 x4).2.2.1)),(tb [.fl .f32] ((r102 x0 x1 x2 x3 x4).2.2.2))],2,[]⟩)] :=
 (show _ = w102 x0 x1 x2 x3 x4 from by kernel_rfl).trans
 (show w102 x0 x1 x2 x3 x4 = a102 x0 x1 x2 x3 x4 (r102 x0 x1 x2 x3 x4) from by unfold w102 r102; exact (cond_app (a102 x0 x1 x2 x3 x4) _ (cond_app (a102 x0 x1 x2 x3 x4) _ (cond_app (a102 x0 x1 x2 x3 x4) _ rfl (cond_app (a102 x0 x1 x2 x3 x4) _ (cond_app (a102 x0 x1 x2 x3 x4) _ (cond_app (a102 x0 x1 x2 x3 x4) _ rfl (cond_app (a102 x0 x1 x2 x3 x4) _ (cond_app (a102 x0 x1 x2 x3 x4) _ (cond_app (a102 x0 x1 x2 x3 x4) _ rfl rfl) rfl) rfl)) rfl) rfl)) rfl) rfl))
noncomputable def s102 (args:List Value) (s:St):List (Bool×Value×St) :=
 match args,s.h with
 | [.iface f0 .nilIface,.iface f1 .nilIface,.float .f32 x0,.float .f32 x1,.float .f32 x2],[⟨true,some (.tab [.fl .f32,.fl .f32,.fl .f32,.fl .f32,.int .i64] x3)⟩,⟨true,some (.tab [.fl .f32] x4)⟩] => if f0 = 0 ∧ f1 = 1 then [((Nat.beq ((r102 x0 x1 x2 x3 x4).1) 0),.tuple #[.slice none 0 0,.slice none 0 0,.bool false],⟨[(tb sc0 x3),(tb [.fl .f32] x4)],2,[]⟩),((Nat.beq ((r102 x0 x1 x2 x3 x4).1) 1),.tuple #[wsl 2,wsl 3,.bool ((r102 x0 x1 x2 x3 x4).2.1)],⟨[(tb sc0 x3),(tb [.fl .f32] x4),(tb sc0 ((r102 x0 x1 x2 x3 x4).2.2.1)),(tb [.fl .f32] ((r102 x0 x1 x2 x3 x4).2.2.2))],2,[]⟩)] else T64 102 args s
 | _,_ => T64 102 args s
noncomputable def T65:CallF := addF T64 102 s102
theorem ok65:CfOk Try.prog T65 := by
  refine cfOk_add ok64 fun args s r s' h1 h2 h3 => ?_
  unfold s102 at h3; split at h3
  · rename_i h; split at h3
    · rename_i hc; obtain ⟨rfl,rfl⟩ := hc; exact callOk ok64 Try.func102 h1 h2 h lok102_1.body (e102 _ _ _ _ _) rfl h3
    · exact ok64 _ _ _ _ _ h1 h2 h3
  · exact ok64 _ _ _ _ _ h1 h2 h3

noncomputable def r40 (x0 x1 x2:Nat) (x3 x4:LL):Nat×LL×LL :=
 cond (Nat.beq (r101 x0 x1 x2 x3 x4) 0) (0,[],[]) (cond (Nat.beq (r101 x0 x1 x2 x3 x4) 1) (1,[],[]) (cond (Nat.beq (r101 x0 x1 x2 x3 x4) 2) (cond (Nat.beq ((r102 x0 x1 x2 x3 x4).1) 0) (2,[],[]) (cond (Nat.beq ((r102 x0 x1 x2 x3 x4).1) 1) (cond (!((r102 x0 x1 x2 x3 x4).2.1)) (2,[],[]) (3,((r102 x0 x1 x2 x3 x4).2.2.1),((r102 x0 x1 x2 x3 x4).2.2.2))) (4,[],[]))) (4,[],[])))
noncomputable def a40 (x0 x1 x2:Nat) (x3 x4:LL) (p:Nat×LL×LL):Res := firstT [((Nat.beq (p.1) 0),.tuple #[.slice none 0 0,.slice none 0 0,vi 1],⟨[(tb sc0 x3),(tb [.fl .f32] x4)],2,[]⟩),((Nat.beq (p.1) 1),.tuple #[.slice none 0 0,.slice none 0 0,vi 2],⟨[(tb sc0 x3),(tb [.fl .f32] x4)],2,[]⟩),((Nat.beq (p.1) 2),.tuple #[.slice none 0 0,.slice none 0 0,vi 4],⟨[(tb sc0 x3),(tb [.fl .f32] x4)],2,[]⟩),((Nat.beq (p.1) 3),.tuple #[wsl 2,wsl 3,vi 0],⟨[(tb sc0 x3),(tb [.fl .f32] x4),(tb sc0 (p.2.1)),(tb [.fl .f32] (p.2.2))],2,[]⟩)]
noncomputable def w40 (x0 x1 x2:Nat) (x3 x4:LL):Res :=
 (cond (Nat.beq (r101 x0 x1 x2 x3 x4) 0)
 (a40 x0 x1 x2 x3 x4 (0,[],[]))
 (cond (Nat.beq (r101 x0 x1 x2 x3 x4) 1) (a40 x0 x1 x2 x3 x4 (1,[],[])) (cond (Nat.beq (r101 x0 x1 x2 x3 x4) 2) (cond (Nat.beq ((r102 x0 x1 x2 x3 x4).1) 0) (a40 x0 x1 x2 x3 x4 (2,[],[])) (cond (Nat.beq ((r102 x0 x1 x2 x3 x4).1) 1) (cond (!((r102 x0 x1 x2 x3 x4).2.1)) (a40 x0 x1 x2 x3 x4 (2,[],[])) (a40 x0 x1 x2 x3 x4 (3,((r102 x0 x1 x2 x3 x4).2.2.1),((r102 x0 x1 x2 x3 x4).2.2.2)))) none)) none)))
theorem e40 (x0 x1 x2:Nat) (x3 x4:LL):evFn Try.prog ext T65 noL 200 Try.f40 [wsl 0,wsl 1,vf x0,vf x1,vf x2] ⟨[(tb sc0 x3),(tb [.fl .f32] x4)],2,[]⟩ = firstT [((Nat.beq ((r40 x0 x1 x2 x3 x4).1) 0),.tuple #[.slice none 0 0,.slice none 0 0,vi 1],⟨[(tb sc0 x3),(tb [.fl .f32] x4)],2,[]⟩),((Nat.beq ((r40 x0 x1 x2 x3 x4).1) 1),.tuple #[.slice none 0 0,.slice none 0 0,vi 2],⟨[(tb sc0 x3),(tb [.fl .f32] x4)],2,[]⟩),((Nat.beq ((r40 x0 x1 x2 x3 x4).1) 2),.tuple #[.slice none 0 0,.slice none 0 0,vi 4],⟨[(tb sc0 x3),(tb [.fl .f32] x4)],2,[]⟩),((Nat.beq ((r40 x0 x1 x2 x3 x4).1) 3),.tuple #[wsl 2,wsl 3,vi 0],⟨[(tb sc0 x3),(tb [.fl .f32] x4),(tb sc0 ((r40 x0 x1 x2 x3 x4).2.1)),(tb [.fl .f32] ((r40 x0 x1 x2 x3 x4).2.2))],2,[]⟩)] :=
 (show _ = w40 x0 x1 x2 x3 x4 from by kernel_rfl).trans
 (show w40 x0 x1 x2 x3 x4 = a40 x0 x1 x2 x3 x4 (r40 x0 x1 x2 x3 x4) from by unfold w40 r40; exact (cond_app (a40 x0 x1 x2 x3 x4) _ rfl (cond_app (a40 x0 x1 x2 x3 x4) _ rfl (cond_app (a40 x0 x1 x2 x3 x4) _ (cond_app (a40 x0 x1 x2 x3 x4) _ rfl (cond_app (a40 x0 x1 x2 x3 x4) _ (cond_app (a40 x0 x1 x2 x3 x4) _ rfl rfl) rfl)) rfl))))
noncomputable def s40 (args:List Value) (s:St):List (Bool×Value×St) :=
 match args,s.h with
 | [.iface f0 .nilIface,.iface f1 .nilIface,.float .f32 x0,.float .f32 x1,.float .f32 x2],[⟨true,some (.tab [.fl .f32,.fl .f32,.fl .f32,.fl .f32,.int .i64] x3)⟩,⟨true,some (.tab [.fl .f32] x4)⟩] => if f0 = 0 ∧ f1 = 1 then [((Nat.beq ((r40 x0 x1 x2 x3 x4).1) 0),.tuple #[.slice none 0 0,.slice none 0 0,vi 1],⟨[(tb sc0 x3),(tb [.fl .f32] x4)],2,[]⟩),((Nat.beq ((r40 x0 x1 x2 x3 x4).1) 1),.tuple #[.slice none 0 0,.slice none 0 0,vi 2],⟨[(tb sc0 x3),(tb [.fl .f32] x4)],2,[]⟩),((Nat.beq ((r40 x0 x1 x2 x3 x4).1) 2),.tuple #[.slice none 0 0,.slice none 0 0,vi 4],⟨[(tb sc0 x3),(tb [.fl .f32] x4)],2,[]⟩),((Nat.beq ((r40 x0 x1 x2 x3 x4).1) 3),.tuple #[wsl 2,wsl 3,vi 0],⟨[(tb sc0 x3),(tb [.fl .f32] x4),(tb sc0 ((r40 x0 x1 x2 x3 x4).2.1)),(tb [.fl .f32] ((r40 x0 x1 x2 x3 x4).2.2))],2,[]⟩)] else T65 40 args s
 | _,_ => T65 40 args s
noncomputable def T66:CallF := addF T65 40 s40
theorem ok66:CfOk Try.prog T66 := by
  refine cfOk_add ok65 fun args s r s' h1 h2 h3 => ?_
  unfold s40 at h3; split at h3
  · rename_i h; split at h3
    · rename_i hc; obtain ⟨rfl,rfl⟩ := hc; exact callOk ok65 Try.func40 h1 h2 h (lfOkF_no _ _).body (e40 _ _ _ _ _) rfl h3
    · exact ok65 _ _ _ _ _ h1 h2 h3
  · exact ok65 _ _ _ _ _ h1 h2 h3

noncomputable def r153 (x0:Nat):Bool :=
 cond (r148 x0) ((flt .f32 x0 1065353216 || feq .f32 x0 1065353216)) (false)
noncomputable def a153 (x0:Nat) (p:Bool):Res := firstT [(true,.bool p,st0)]
noncomputable def w153 (x0:Nat):Res :=
 (cond (r148 x0)
 (a153 x0 ((flt .f32 x0 1065353216 || feq .f32 x0 1065353216)))
 (a153 x0 (false)))
theorem e153 (x0:Nat):evFn Try.prog ext T66 noL 200 Try.f153 [vf x0] st0 = firstT [(true,.bool (r153 x0),st0)] :=
 (show _ = w153 x0 from by kernel_rfl).trans
 (show w153 x0 = a153 x0 (r153 x0) from by unfold w153 r153; exact (cond_app (a153 x0) _ rfl rfl))
noncomputable def s153 (args:List Value) (s:St):List (Bool×Value×St) :=
 match args,s.h with
 | [.float .f32 x0],[] => [(true,.bool (r153 x0),st0)]
 | _,_ => T66 153 args s
noncomputable def T67:CallF := addF T66 153 s153
theorem ok67:CfOk Try.prog T67 := by
  refine cfOk_add ok66 fun args s r s' h1 h2 h3 => ?_
  unfold s153 at h3; split at h3
  · rename_i h; exact callOk ok66 Try.func153 h1 h2 h (lfOkF_no _ _).body (e153 _) rfl h3
  · exact ok66 _ _ _ _ _ h1 h2 h3

noncomputable def r103 (x0 x1 x2:Nat) (x3 x4:LL):Nat :=
 cond (Nat.beq (r60 x0 x1 x3) 0) (0) (cond (Nat.beq (r60 x0 x1 x3) 1) (1) (cond (Nat.beq (r60 x0 x1 x3) 2) (cond (Nat.beq ((r99 x3 x4).1) 0) (cond (!((r99 x3 x4).2)) (1) (cond (!(r153 x2)) (1) (2))) (3)) (3)))
noncomputable def a103 (x0 x1 x2:Nat) (x3 x4:LL) (p:Nat):Res := firstT [((Nat.beq p 0),vi 1,⟨[(tb sc0 x3),(tb [.fl .f32] x4)],2,[]⟩),((Nat.beq p 1),vi 2,⟨[(tb sc0 x3),(tb [.fl .f32] x4)],2,[]⟩),((Nat.beq p 2),vi 0,⟨[(tb sc0 x3),(tb [.fl .f32] x4)],2,[]⟩)]
noncomputable def w103 (x0 x1 x2:Nat) (x3 x4:LL):Res :=
 (cond (Nat.beq (r60 x0 x1 x3) 0)
 (a103 x0 x1 x2 x3 x4 (0))
 (cond (Nat.beq (r60 x0 x1 x3) 1) (a103 x0 x1 x2 x3 x4 (1)) (cond (Nat.beq (r60 x0 x1 x3) 2) (cond (Nat.beq ((r99 x3 x4).1) 0) (cond (!((r99 x3 x4).2)) (a103 x0 x1 x2 x3 x4 (1)) (cond (!(r153 x2)) (a103 x0 x1 x2 x3 x4 (1)) (a103 x0 x1 x2 x3 x4 (2)))) none) none)))
theorem e103 (x0 x1 x2:Nat) (x3 x4:LL):evFn Try.prog ext T67 noL 200 Try.f103 [wsl 0,wsl 1,vf x0,vf x1,vf x2] ⟨[(tb sc0 x3),(tb [.fl .f32] x4)],2,[]⟩ = firstT [((Nat.beq (r103 x0 x1 x2 x3 x4) 0),vi 1,⟨[(tb sc0 x3),(tb [.fl .f32] x4)],2,[]⟩),((Nat.beq (r103 x0 x1 x2 x3 x4) 1),vi 2,⟨[(tb sc0 x3),(tb [.fl .f32] x4)],2,[]⟩),((Nat.beq (r103 x0 x1 x2 x3 x4) 2),vi 0,⟨[(tb sc0 x3),(tb [.fl .f32] x4)],2,[]⟩)] :=
 (show _ = w103 x0 x1 x2 x3 x4 from by kernel_rfl).trans
 (show w103 x0 x1 x2 x3 x4 = a103 x0 x1 x2 x3 x4 (r103 x0 x1 x2 x3 x4) from by unfold w103 r103; exact (cond_app (a103 x0 x1 x2 x3 x4) _ rfl (cond_app (a103 x0 x1 x2 x3 x4) _ rfl (cond_app (a103 x0 x1 x2 x3 x4) _ (cond_app (a103 x0 x1 x2 x3 x4) _ (cond_app (a103 x0 x1 x2 x3 x4) _ rfl (cond_app (a103 x0 x1 x2 x3 x4) _ rfl rfl)) rfl) rfl))))
noncomputable def s103 (args:List Value) (s:St):List (Bool×Value×St) :=
 match args,s.h with
 | [.iface f0 .nilIface,.iface f1 .nilIface,.float .f32 x0,.float .f32 x1,.float .f32 x2],[⟨true,some (.tab [.fl .f32,.fl .f32,.fl .f32,.fl .f32,.int .i64] x3)⟩,⟨true,some (.tab [.fl .f32] x4)⟩] => if f0 = 0 ∧ f1 = 1 then [((Nat.beq (r103 x0 x1 x2 x3 x4) 0),vi 1,⟨[(tb sc0 x3),(tb [.fl .f32] x4)],2,[]⟩),((Nat.beq (r103 x0 x1 x2 x3 x4) 1),vi 2,⟨[(tb sc0 x3),(tb [.fl .f32] x4)],2,[]⟩),((Nat.beq (r103 x0 x1 x2 x3 x4) 2),vi 0,⟨[(tb sc0 x3),(tb [.fl .f32] x4)],2,[]⟩)] else T67 103 args s
 | _,_ => T67 103 args s
noncomputable def T68:CallF := addF T67 103 s103
theorem ok68:CfOk Try.prog T68 := by
  refine cfOk_add ok67 fun args s r s' h1 h2 h3 => ?_
  unfold s103 at h3; split at h3
  · rename_i h; split at h3
    · rename_i hc; obtain ⟨rfl,rfl⟩ := hc; exact callOk ok67 Try.func103 h1 h2 h (lfOkF_no _ _).body (e103 _ _ _ _ _) rfl h3
    · exact ok67 _ _ _ _ _ h1 h2 h3
  · exact ok67 _ _ _ _ _ h1 h2 h3

noncomputable def r68 (x0:Nat):Nat :=
 cond (flt .f32 x0 0 || feq .f32 x0 0) ((fsub .f32 0 x0)) (x0)
noncomputable def a68 (x0:Nat) (p:Nat):Res := firstT [(true,vf p,st0)]
noncomputable def w68 (x0:Nat):Res :=
 (cond (flt .f32 x0 0 || feq .f32 x0 0)
 (a68 x0 ((fsub .f32 0 x0)))
 (a68 x0 (x0)))
theorem e68 (x0:Nat):evFn Try.prog ext T68 noL 200 Try.f68 [vf x0] st0 = firstT [(true,vf (r68 x0),st0)] :=
 (show _ = w68 x0 from by kernel_rfl).trans
 (show w68 x0 = a68 x0 (r68 x0) from by unfold w68 r68; exact (cond_app (a68 x0) _ rfl rfl))
noncomputable def s68 (args:List Value) (s:St):List (Bool×Value×St) :=
 match args,s.h with
 | [.float .f32 x0],[] => [(true,vf (r68 x0),st0)]
 | _,_ => T68 68 args s
noncomputable def T69:CallF := addF T68 68 s68
theorem ok69:CfOk Try.prog T69 := by
  refine cfOk_add ok68 fun args s r s' h1 h2 h3 => ?_
  unfold s68 at h3; split at h3
  · rename_i h; exact callOk ok68 Try.func68 h1 h2 h (lfOkF_no _ _).body (e68 _) rfl h3
  · exact ok68 _ _ _ _ _ h1 h2 h3

noncomputable def r154 (x0 x1 x2:Nat):Nat :=
 cond (flt .f32 x0 x1) (x1) (cond (fgt .f32 x0 x2) (x2) (x0))
noncomputable def a154 (x0 x1 x2:Nat) (p:Nat):Res := firstT [(true,vf p,st0)]
noncomputable def w154 (x0 x1 x2:Nat):Res :=
 (cond (flt .f32 x0 x1)
 (a154 x0 x1 x2 (x1))
 (cond (fgt .f32 x0 x2) (a154 x0 x1 x2 (x2)) (a154 x0 x1 x2 (x0))))
theorem e154 (x0 x1 x2:Nat):evFn Try.prog ext T69 noL 200 Try.f154 [vf x0,vf x1,vf x2] st0 = firstT [(true,vf (r154 x0 x1 x2),st0)] :=
 (show _ = w154 x0 x1 x2 from by kernel_rfl).trans
 (show w154 x0 x1 x2 = a154 x0 x1 x2 (r154 x0 x1 x2) from by unfold w154 r154; exact (cond_app (a154 x0 x1 x2) _ rfl (cond_app (a154 x0 x1 x2) _ rfl rfl)))
noncomputable def s154 (args:List Value) (s:St):List (Bool×Value×St) :=
 match args,s.h with
 | [.float .f32 x0,.float .f32 x1,.float .f32 x2],[] => [(true,vf (r154 x0 x1 x2),st0)]
 | _,_ => T69 154 args s
noncomputable def T70:CallF := addF T69 154 s154
theorem ok70:CfOk Try.prog T70 := by
  refine cfOk_add ok69 fun args s r s' h1 h2 h3 => ?_
  unfold s154 at h3; split at h3
  · rename_i h; exact callOk ok69 Try.func154 h1 h2 h (lfOkF_no _ _).body (e154 _ _ _) rfl h3
  · exact ok69 _ _ _ _ _ h1 h2 h3

noncomputable def b104l0 (ih:Nat→Nat→Int→LL→LL→LL→LL→(Nat×LL×LL)) (x0 x1:Nat) (x2:Int) (x3 x4 x5 x6:LL):Nat×LL×LL :=
 let c560 := (r154 (fadd .f32 (fadd .f32 (Int.toNat ((x3.getD (Int.toNat x2) []).getD 2 0)) (fmul .f32 (fmul .f32 (fmul .f32 1056964608 (r68 (Int.toNat ((x4.getD (Int.toNat x2) []).getD 0 0)))) (fsub .f32 (Int.toNat ((x5.getD (Int.toNat x2) []).getD 0 0)) (Int.toNat ((x3.getD (Int.toNat x2) []).getD 2 0)))) x1)) (fmul .f32 (fmul .f32 1031798784 (fsub .f32 x0 (Int.toNat ((x3.getD (Int.toNat x2) []).getD 2 0)))) x1)) 3262119936 1153138688)
 cond (decide ((x2:Int) < ((x6.length:Nat):Int))) (cond ((decide ((0:Int) ≤ x2)) && (Nat.blt (Int.toNat x2) x3.length)) (cond ((decide ((0:Int) ≤ x2)) && (Nat.blt (Int.toNat x2) x4.length)) (cond ((decide ((0:Int) ≤ x2)) && (Nat.blt (Int.toNat x2) x5.length)) (cond ((decide ((0:Int) ≤ x2)) && (Nat.blt (Int.toNat x2) x6.length)) (cond ((decide ((0:Int) ≤ x2)) && (Nat.blt (Int.toNat x2) ((x6.modify (Int.toNat x2) (fun r => spl 5 r 2 [((c560:Nat):Int)])).length))) (cond (!feq .f32 (Int.toNat (((x6.modify (Int.toNat x2) (fun r => spl 5 r 2 [((c560:Nat):Int)])).getD (Int.toNat x2) []).getD 2 0)) (Int.toNat (((x6.modify (Int.toNat x2) (fun r => spl 5 r 2 [((c560:Nat):Int)])).getD (Int.toNat x2) []).getD 2 0))) (0,(x6.modify (Int.toNat x2) (fun r => spl 5 r 2 [((c560:Nat):Int)])),[]) (ih x0 x1 (IntKind.i64.wrap (x2 + 1)) x3 x4 x5 (x6.modify (Int.toNat x2) (fun r => spl 5 r 2 [((c560:Nat):Int)])))) (2,[],[])) (2,[],[])) (2,[],[])) (2,[],[])) (2,[],[])) (1,[],x6)
noncomputable def r104l0:Nat→Nat→Nat→Int→LL→LL→LL→LL→(Nat×LL×LL)
 | 0 => fun _ _ _ _ _ _ _ => (2,[],[])
 | m + 1 => b104l0 (r104l0 m)
noncomputable def a104l0 (x0 x1:Nat) (x2:Int) (x3 x4 x5 x6:LL) (p:Nat×LL×LL):Option (Fin'×List Value×St) := firstT ([((Nat.beq (p.1) 0),.ret,[wsl 4,wsl 5,vi 4,wsl 1,wsl 3],⟨[(tb sc0 x3),(tb [.fl .f32] x4),(tb [.fl .f32] x5),(tb sc0 (p.2.1)),(tb sc0 ([]:LL)),(tb [.fl .f32] ([]:LL))],4,[3]⟩),((Nat.beq (p.1) 1),.exit 0,[Y,Y,Y,wsl 1,wsl 3],⟨[(tb sc0 x3),(tb [.fl .f32] x4),(tb [.fl .f32] x5),(tb sc0 (p.2.2))],4,[3]⟩)].map fun (b,x) => (b,(x.1,frameOf 103 [10,11,12,13,16] x.2.1,x.2.2)))
noncomputable def u104l0 (x0 x1:Nat) (x2:Int) (x3 x4 x5 x6:LL) (p:Nat×LL×LL):Option (Fin'×List Value×St) := alts ([((Nat.beq (p.1) 0),.ret,[wsl 4,wsl 5,vi 4,wsl 1,wsl 3],⟨[(tb sc0 x3),(tb [.fl .f32] x4),(tb [.fl .f32] x5),(tb sc0 (p.2.1)),(tb sc0 ([]:LL)),(tb [.fl .f32] ([]:LL))],4,[3]⟩),((Nat.beq (p.1) 1),.exit 0,[Y,Y,Y,wsl 1,wsl 3],⟨[(tb sc0 x3),(tb [.fl .f32] x4),(tb [.fl .f32] x5),(tb sc0 (p.2.2))],4,[3]⟩)].map fun (b,x) => (b,(x.1,frameOf 103 [10,11,12,13,16] x.2.1,x.2.2))) some
theorem v104l0 (x0 x1:Nat) (x2:Int) (x3 x4 x5 x6:LL) (p:Nat×LL×LL):u104l0 x0 x1 x2 x3 x4 x5 x6 p = a104l0 x0 x1 x2 x3 x4 x5 x6 p := alts_first _
noncomputable def q104l0 (m:Nat):SumK := fun vals s =>
 match vals,s.h with
 | [.iface f0 .nilIface,.float .f32 x0,.float .f32 x1,.iface f1 .nilIface,.iface f2 .nilIface,.iface f3 .nilIface,.int .i64 x2],[⟨true,some (.tab [.fl .f32,.fl .f32,.fl .f32,.fl .f32,.int .i64] x3)⟩,⟨true,some (.tab [.fl .f32] x4)⟩,⟨true,some (.tab [.fl .f32] x5)⟩,⟨true,some (.tab [.fl .f32,.fl .f32,.fl .f32,.fl .f32,.int .i64] x6)⟩] => if f0 = 0 ∧ f1 = 1 ∧ f2 = 2 ∧ f3 = 3 then [((Nat.beq ((r104l0 m x0 x1 x2 x3 x4 x5 x6).1) 0),.ret,[wsl 4,wsl 5,vi 4,wsl 1,wsl 3],⟨[(tb sc0 x3),(tb [.fl .f32] x4),(tb [.fl .f32] x5),(tb sc0 ((r104l0 m x0 x1 x2 x3 x4 x5 x6).2.1)),(tb sc0 ([]:LL)),(tb [.fl .f32] ([]:LL))],4,[3]⟩),((Nat.beq ((r104l0 m x0 x1 x2 x3 x4 x5 x6).1) 1),.exit 0,[Y,Y,Y,wsl 1,wsl 3],⟨[(tb sc0 x3),(tb [.fl .f32] x4),(tb [.fl .f32] x5),(tb sc0 ((r104l0 m x0 x1 x2 x3 x4 x5 x6).2.2))],4,[3]⟩)] else noQ vals s
 | _,_ => noQ vals s
noncomputable def w104l0 (ih:Nat→Nat→Int→LL→LL→LL→LL→(Nat×LL×LL)) (x0 x1:Nat) (x2:Int) (x3 x4 x5 x6:LL):Option (Fin'×List Value×St) :=
 let c560 := (r154 (fadd .f32 (fadd .f32 (Int.toNat ((x3.getD (Int.toNat x2) []).getD 2 0)) (fmul .f32 (fmul .f32 (fmul .f32 1056964608 (r68 (Int.toNat ((x4.getD (Int.toNat x2) []).getD 0 0)))) (fsub .f32 (Int.toNat ((x5.getD (Int.toNat x2) []).getD 0 0)) (Int.toNat ((x3.getD (Int.toNat x2) []).getD 2 0)))) x1)) (fmul .f32 (fmul .f32 1031798784 (fsub .f32 x0 (Int.toNat ((x3.getD (Int.toNat x2) []).getD 2 0)))) x1)) 3262119936 1153138688)
 (cond (decide ((x2:Int) < ((x6.length:Nat):Int)))
 (cond ((decide ((0:Int) ≤ x2)) && (Nat.blt (Int.toNat x2) x3.length)) (cond (Nat.blt (Int.toNat x2) x3.length) (cond ((decide ((0:Int) ≤ x2)) && (Nat.blt (Int.toNat x2) x4.length)) (cond (Nat.blt (Int.toNat x2) x4.length) (cond ((decide ((0:Int) ≤ x2)) && (Nat.blt (Int.toNat x2) x5.length)) (cond (Nat.blt (Int.toNat x2) x5.length) (cond ((decide ((0:Int) ≤ x2)) && (Nat.blt (Int.toNat x2) x6.length)) (cond (Nat.blt (Int.toNat x2) x6.length) (cond ((decide ((0:Int) ≤ x2)) && (Nat.blt (Int.toNat x2) ((x6.modify (Int.toNat x2) (fun r => spl 5 r 2 [((c560:Nat):Int)])).length))) (cond (Nat.blt (Int.toNat x2) ((x6.modify (Int.toNat x2) (fun r => spl 5 r 2 [((c560:Nat):Int)])).length)) (cond ((decide ((0:Int) ≤ x2)) && (Nat.blt (Int.toNat x2) ((x6.modify (Int.toNat x2) (fun r => spl 5 r 2 [((c560:Nat):Int)])).length))) (cond (Nat.blt (Int.toNat x2) ((x6.modify (Int.toNat x2) (fun r => spl 5 r 2 [((c560:Nat):Int)])).length)) (cond (!feq .f32 (Int.toNat (((x6.modify (Int.toNat x2) (fun r => spl 5 r 2 [((c560:Nat):Int)])).getD (Int.toNat x2) []).getD 2 0)) (Int.toNat (((x6.modify (Int.toNat x2) (fun r => spl 5 r 2 [((c560:Nat):Int)])).getD (Int.toNat x2) []).getD 2 0))) (a104l0 x0 x1 x2 x3 x4 x5 x6 (0,(x6.modify (Int.toNat x2) (fun r => spl 5 r 2 [((c560:Nat):Int)])),[])) (u104l0 x0 x1 x2 x3 x4 x5 x6 (ih x0 x1 (IntKind.i64.wrap (x2 + 1)) x3 x4 x5 (x6.modify (Int.toNat x2) (fun r => spl 5 r 2 [((c560:Nat):Int)]))))) none) none) none) none) none) none) none) none) none) none) none) none)
 (a104l0 x0 x1 x2 x3 x4 x5 x6 (1,[],x6)))
theorem e104l0 (m:Nat) (x0 x1:Nat) (x2:Int) (x3 x4 x5 x6:LL):evC Try.prog ext T70 noL 200 (loopN Try.f104 0) (loopTail ([0,2,4,13,15,16,17],[]) [10,11,12,13,16] [3] (sumK 103 [0,2,4,13,15,16,17] [10,11,12,13,16] (q104l0 m))) (frameOf 103 [0,2,4,13,15,16,17] [wsl 0,vf x0,vf x1,wsl 1,wsl 2,wsl 3,vi x2]) ⟨[(tb sc0 x3),(tb [.fl .f32] x4),(tb [.fl .f32] x5),(tb sc0 x6)],4,[]⟩ = firstT ([((Nat.beq ((r104l0 (m + 1) x0 x1 x2 x3 x4 x5 x6).1) 0),.ret,[wsl 4,wsl 5,vi 4,wsl 1,wsl 3],⟨[(tb sc0 x3),(tb [.fl .f32] x4),(tb [.fl .f32] x5),(tb sc0 ((r104l0 (m + 1) x0 x1 x2 x3 x4 x5 x6).2.1)),(tb sc0 ([]:LL)),(tb [.fl .f32] ([]:LL))],4,[3]⟩),((Nat.beq ((r104l0 (m + 1) x0 x1 x2 x3 x4 x5 x6).1) 1),.exit 0,[Y,Y,Y,wsl 1,wsl 3],⟨[(tb sc0 x3),(tb [.fl .f32] x4),(tb [.fl .f32] x5),(tb sc0 ((r104l0 (m + 1) x0 x1 x2 x3 x4 x5 x6).2.2))],4,[3]⟩)].map fun (b,x) => (b,(x.1,frameOf 103 [10,11,12,13,16] x.2.1,x.2.2))) :=
 (show _ = w104l0 (r104l0 m) x0 x1 x2 x3 x4 x5 x6 from by kernel_rfl).trans
 (show w104l0 (r104l0 m) x0 x1 x2 x3 x4 x5 x6 = a104l0 x0 x1 x2 x3 x4 x5 x6 (r104l0 (m + 1) x0 x1 x2 x3 x4 x5 x6) from by unfold w104l0; show _ = a104l0 x0 x1 x2 x3 x4 x5 x6 (b104l0 (r104l0 m) x0 x1 x2 x3 x4 x5 x6); unfold b104l0; exact (cond_both (a104l0 x0 x1 x2 x3 x4 x5 x6) _ (fun h0 => (cond_both (a104l0 x0 x1 x2 x3 x4 x5 x6) _ (fun h1 => (cond_t (ev_and2 h1) (cond_both (a104l0 x0 x1 x2 x3 x4 x5 x6) _ (fun h2 => (cond_t (ev_and2 h2) (cond_both (a104l0 x0 x1 x2 x3 x4 x5 x6) _ (fun h3 => (cond_t (ev_and2 h3) (cond_both (a104l0 x0 x1 x2 x3 x4 x5 x6) _ (fun h4 => (cond_t (ev_and2 h4) (cond_both (a104l0 x0 x1 x2 x3 x4 x5 x6) _ (fun h5 => (cond_t (ev_and2 h5) (cond_t h5 (cond_t (ev_and2 h5) (cond_app (a104l0 x0 x1 x2 x3 x4 x5 x6) _ rfl (v104l0 x0 x1 x2 x3 x4 x5 x6 ((r104l0 m) x0 x1 (IntKind.i64.wrap (x2 + 1)) x3 x4 x5 (x6.modify (Int.toNat x2) (fun r => spl 5 r 2 [(((r154 (fadd .f32 (fadd .f32 (Int.toNat ((x3.getD (Int.toNat x2) []).getD 2 0)) (fmul .f32 (fmul .f32 (fmul .f32 1056964608 (r68 (Int.toNat ((x4.getD (Int.toNat x2) []).getD 0 0)))) (fsub .f32 (Int.toNat ((x5.getD (Int.toNat x2) []).getD 0 0)) (Int.toNat ((x3.getD (Int.toNat x2) []).getD 2 0)))) x1)) (fmul .f32 (fmul .f32 1031798784 (fsub .f32 x0 (Int.toNat ((x3.getD (Int.toNat x2) []).getD 2 0)))) x1)) 3262119936 1153138688):Nat):Int)]))))))))) (fun h5 => rfl)))) (fun h4 => rfl)))) (fun h3 => rfl)))) (fun h2 => rfl)))) (fun h1 => rfl))) (fun h0 => rfl)))
theorem qm104l0:∀ m,SumKOk Try.prog (loopN Try.f104 0) 103 [0,2,4,13,15,16,17] [10,11,12,13,16] (q104l0 m) := by
  intro m
  induction m with
  | zero =>
    intro vals s x h1 h2 h3
    unfold q104l0 at h3; split at h3
    · rename_i h; split at h3
      · rename_i hc; obtain ⟨rfl,rfl,rfl,rfl⟩ := hc; exact absurd h3 (by simp [r104l0,firstT,Nat.beq])
      · exact noQ_ok _ _ _ h1 h2 h3
    · exact noQ_ok _ _ _ h1 h2 h3
  | succ m ih =>
    intro vals s x h1 h2 h3
    unfold q104l0 at h3; split at h3
    · rename_i h; split at h3
      · rename_i hc; obtain ⟨rfl,rfl,rfl,rfl⟩ := hc; exact sum_step ok70 extOk mixed ((lfOkF_no _ _).inner (by kernel_rfl)) ih h1 h2 h (e104l0 m _ _ _ _ _ _ _) rfl h3
      · exact noQ_ok _ _ _ h1 h2 h3
    · exact noQ_ok _ _ _ h1 h2 h3
noncomputable def Q104l0:SumK := fun vals s => q104l0 (fuelOf vals s.h) vals s
theorem qok104l0:SumKOk Try.prog (loopN Try.f104 0) 103 [0,2,4,13,15,16,17] [10,11,12,13,16] Q104l0 := fuel_ok qm104l0 fuelOf
noncomputable def L104_1:LoopT := addL noL 10 ([0,2,4,13,15,16,17],[]) (sumK 103 [0,2,4,13,15,16,17] [10,11,12,13,16] Q104l0)
theorem lok104_1:LfOkF Try.prog L104_1 Try.f104 := lfOkF_add (lfOkF_no _ _) qok104l0 (by kernel_rfl) (by kernel_rfl) (by kernel_rfl)

noncomputable def r104 (x0 x1 x2:Nat) (x3 x4:LL):Nat×LL×LL :=
 let c561 := (r104l0 (1000 + (([]:LL) ++ x3).length + ((r100 x0 x3 x4 ((r61 x0 x1 x3).2)).2).length + ((r61 x0 x1 x3).2).length + x3.length) x0 x2 0 x3 ((r61 x0 x1 x3).2) ((r100 x0 x3 x4 ((r61 x0 x1 x3).2)).2) (([]:LL) ++ x3))
 cond (Nat.beq ((r61 x0 x1 x3).1) 0) (0,[],[]) (cond (Nat.beq ((r61 x0 x1 x3).1) 1) (cond (Nat.beq ((r100 x0 x3 x4 ((r61 x0 x1 x3).2)).1) 0) (cond (Nat.beq ((r88 ((r100 x0 x3 x4 ((r61 x0 x1 x3).2)).2)).1) 0) (cond (!((r88 ((r100 x0 x3 x4 ((r61 x0 x1 x3).2)).2)).2)) (0,[],[]) (cond (Nat.ble ((0 + x3.length) * 25) 140737488355328) (cond (Nat.beq (c561.1) 0) (0,[],[]) (cond (Nat.beq (c561.1) 1) (1,(c561.2.2),((r61 x0 x1 x3).2)) (2,[],[]))) (2,[],[]))) (2,[],[])) (2,[],[])) (2,[],[]))
noncomputable def a104 (x0 x1 x2:Nat) (x3 x4:LL) (p:Nat×LL×LL):Res := firstT [((Nat.beq (p.1) 0),.tuple #[wsl 2,wsl 3,vi 4],⟨[(tb sc0 x3),(tb [.fl .f32] x4),(tb sc0 ([]:LL)),(tb [.fl .f32] ([]:LL))],2,[]⟩),((Nat.beq (p.1) 1),.tuple #[wsl 2,wsl 3,vi 0],⟨[(tb sc0 x3),(tb [.fl .f32] x4),(tb sc0 (p.2.1)),(tb [.fl .f32] (p.2.2))],2,[]⟩)]
noncomputable def w104 (x0 x1 x2:Nat) (x3 x4:LL):Res :=
 let c561 := (r104l0 (1000 + (([]:LL) ++ x3).length + ((r100 x0 x3 x4 ((r61 x0 x1 x3).2)).2).length + ((r61 x0 x1 x3).2).length + x3.length) x0 x2 0 x3 ((r61 x0 x1 x3).2) ((r100 x0 x3 x4 ((r61 x0 x1 x3).2)).2) (([]:LL) ++ x3))
 (cond (Nat.beq ((r61 x0 x1 x3).1) 0)
 (a104 x0 x1 x2 x3 x4 (0,[],[]))
 (cond (Nat.beq ((r61 x0 x1 x3).1) 1) (cond (Nat.beq ((r100 x0 x3 x4 ((r61 x0 x1 x3).2)).1) 0) (cond (Nat.beq ((r88 ((r100 x0 x3 x4 ((r61 x0 x1 x3).2)).2)).1) 0) (cond (!((r88 ((r100 x0 x3 x4 ((r61 x0 x1 x3).2)).2)).2)) (a104 x0 x1 x2 x3 x4 (0,[],[])) (cond (Nat.ble ((0 + x3.length) * 25) 140737488355328) (cond (Nat.beq (c561.1) 0) (a104 x0 x1 x2 x3 x4 (0,[],[])) (cond (Nat.beq (c561.1) 1) (a104 x0 x1 x2 x3 x4 (1,(c561.2.2),((r61 x0 x1 x3).2))) none)) none)) none) none) none))
theorem e104 (x0 x1 x2:Nat) (x3 x4:LL):evFn Try.prog ext T70 L104_1 200 Try.f104 [wsl 0,wsl 1,vf x0,vf x1,vf x2] ⟨[(tb sc0 x3),(tb [.fl .f32] x4)],2,[]⟩ = firstT [((Nat.beq ((r104 x0 x1 x2 x3 x4).1) 0),.tuple #[wsl 2,wsl 3,vi 4],⟨[(tb sc0 x3),(tb [.fl .f32] x4),(tb sc0 ([]:LL)),(tb [.fl .f32] ([]:LL))],2,[]⟩),((Nat.beq ((r104 x0 x1 x2 x3 x4).1) 1),.tuple #[wsl 2,wsl 3,vi 0],⟨[(tb sc0 x3),(tb [.fl .f32] x4),(tb sc0 ((r104 x0 x1 x2 x3 x4).2.1)),(tb [.fl .f32] ((r104 x0 x1 x2 x3 x4).2.2))],2,[]⟩)] :=
 (show _ = w104 x0 x1 x2 x3 x4 from by kernel_rfl).trans
 (show w104 x0 x1 x2 x3 x4 = a104 x0 x1 x2 x3 x4 (r104 x0 x1 x2 x3 x4) from by unfold w104 r104; exact (cond_app (a104 x0 x1 x2 x3 x4) _ rfl (cond_app (a104 x0 x1 x2 x3 x4) _ (cond_app (a104 x0 x1 x2 x3 x4) _ (cond_app (a104 x0 x1 x2 x3 x4) _ (cond_app (a104 x0 x1 x2 x3 x4) _ rfl (cond_app (a104 x0 x1 x2 x3 x4) _ (cond_app (a104 x0 x1 x2 x3 x4) _ rfl (cond_app (a104 x0 x1 x2 x3 x4) _ rfl rfl)) rfl)) rfl) rfl) rfl)))
noncomputable def s104 (args:List Value) (s:St):List (Bool×Value×St) :=
 match args,s.h with
 | [.iface f0 .nilIface,.iface f1 .nilIface,.float .f32 x0,.float .f32 x1,.float .f32 x2],[⟨true,some (.tab [.fl .f32,.fl .f32,.fl .f32,.fl .f32,.int .i64] x3)⟩,⟨true,some (.tab [.fl .f32] x4)⟩] => if f0 = 0 ∧ f1 = 1 then [((Nat.beq ((r104 x0 x1 x2 x3 x4).1) 0),.tuple #[wsl 2,wsl 3,vi 4],⟨[(tb sc0 x3),(tb [.fl .f32] x4),(tb sc0 ([]:LL)),(tb [.fl .f32] ([]:LL))],2,[]⟩),((Nat.beq ((r104 x0 x1 x2 x3 x4).1) 1),.tuple #[wsl 2,wsl 3,vi 0],⟨[(tb sc0 x3),(tb [.fl .f32] x4),(tb sc0 ((r104 x0 x1 x2 x3 x4).2.1)),(tb [.fl .f32] ((r104 x0 x1 x2 x3 x4).2.2))],2,[]⟩)] else T70 104 args s
 | _,_ => T70 104 args s
noncomputable def T71:CallF := addF T70 104 s104
theorem ok71:CfOk Try.prog T71 := by
  refine cfOk_add ok70 fun args s r s' h1 h2 h3 => ?_
  unfold s104 at h3; split at h3
  · rename_i h; split at h3
    · rename_i hc; obtain ⟨rfl,rfl⟩ := hc; exact callOk ok70 Try.func104 h1 h2 h lok104_1.body (e104 _ _ _ _ _) rfl h3
    · exact ok70 _ _ _ _ _ h1 h2 h3
  · exact ok70 _ _ _ _ _ h1 h2 h3

noncomputable def r41 (x0 x1 x2:Nat) (x3 x4:LL):Nat×LL×LL :=
 cond (Nat.beq (r103 x0 x1 x2 x3 x4) 0) (0,[],[]) (cond (Nat.beq (r103 x0 x1 x2 x3 x4) 1) (1,[],[]) (cond (Nat.beq (r103 x0 x1 x2 x3 x4) 2) (cond (Nat.beq ((r104 x0 x1 x2 x3 x4).1) 0) (2,[],[]) (cond (Nat.beq ((r104 x0 x1 x2 x3 x4).1) 1) (3,((r104 x0 x1 x2 x3 x4).2.1),((r104 x0 x1 x2 x3 x4).2.2)) (4,[],[]))) (4,[],[])))
noncomputable def a41 (x0 x1 x2:Nat) (x3 x4:LL) (p:Nat×LL×LL):Res := firstT [((Nat.beq (p.1) 0),.tuple #[wsl 2,wsl 3,vi 1],⟨[(tb sc0 x3),(tb [.fl .f32] x4),(tb sc0 ([]:LL)),(tb [.fl .f32] ([]:LL))],2,[]⟩),((Nat.beq (p.1) 1),.tuple #[wsl 2,wsl 3,vi 2],⟨[(tb sc0 x3),(tb [.fl .f32] x4),(tb sc0 ([]:LL)),(tb [.fl .f32] ([]:LL))],2,[]⟩),((Nat.beq (p.1) 2),.tuple #[wsl 2,wsl 3,vi 4],⟨[(tb sc0 x3),(tb [.fl .f32] x4),(tb sc0 ([]:LL)),(tb [.fl .f32] ([]:LL))],2,[]⟩),((Nat.beq (p.1) 3),.tuple #[wsl 2,wsl 3,vi 0],⟨[(tb sc0 x3),(tb [.fl .f32] x4),(tb sc0 (p.2.1)),(tb [.fl .f32] (p.2.2))],2,[]⟩)]
noncomputable def w41 (x0 x1 x2:Nat) (x3 x4:LL):Res :=
 (cond (Nat.beq (r103 x0 x1 x2 x3 x4) 0)
 (a41 x0 x1 x2 x3 x4 (0,[],[]))
 (cond (Nat.beq (r103 x0 x1 x2 x3 x4) 1) (a41 x0 x1 x2 x3 x4 (1,[],[])) (cond (Nat.beq (r103 x0 x1 x2 x3 x4) 2) (cond (Nat.beq ((r104 x0 x1 x2 x3 x4).1) 0) (a41 x0 x1 x2 x3 x4 (2,[],[])) (cond (Nat.beq ((r104 x0 x1 x2 x3 x4).1) 1) (a41 x0 x1 x2 x3 x4 (3,((r104 x0 x1 x2 x3 x4).2.1),((r104 x0 x1 x2 x3 x4).2.2))) none)) none)))
theorem e41 (x0 x1 x2:Nat) (x3 x4:LL):evFn Try.prog ext T71 noL 200 Try.f41 [wsl 0,wsl 1,vf x0,vf x1,vf x2] ⟨[(tb sc0 x3),(tb [.fl .f32] x4)],2,[]⟩ = firstT [((Nat.beq ((r41 x0 x1 x2 x3 x4).1) 0),.tuple #[wsl 2,wsl 3,vi 1],⟨[(tb sc0 x3),(tb [.fl .f32] x4),(tb sc0 ([]:LL)),(tb [.fl .f32] ([]:LL))],2,[]⟩),((Nat.beq ((r41 x0 x1 x2 x3 x4).1) 1),.tuple #[wsl 2,wsl 3,vi 2],⟨[(tb sc0 x3),(tb [.fl .f32] x4),(tb sc0 ([]:LL)),(tb [.fl .f32] ([]:LL))],2,[]⟩),((Nat.beq ((r41 x0 x1 x2 x3 x4).1) 2),.tuple #[wsl 2,wsl 3,vi 4],⟨[(tb sc0 x3),(tb [.fl .f32] x4),(tb sc0 ([]:LL)),(tb [.fl .f32] ([]:LL))],2,[]⟩),((Nat.beq ((r41 x0 x1 x2 x3 x4).1) 3),.tuple #[wsl 2,wsl 3,vi 0],⟨[(tb sc0 x3),(tb [.fl .f32] x4),(tb sc0 ((r41 x0 x1 x2 x3 x4).2.1)),(tb [.fl .f32] ((r41 x0 x1 x2 x3 x4).2.2))],2,[]⟩)] :=
 (show _ = w41 x0 x1 x2 x3 x4 from by kernel_rfl).trans
 (show w41 x0 x1 x2 x3 x4 = a41 x0 x1 x2 x3 x4 (r41 x0 x1 x2 x3 x4) from by unfold w41 r41; exact (cond_app (a41 x0 x1 x2 x3 x4) _ rfl (cond_app (a41 x0 x1 x2 x3 x4) _ rfl (cond_app (a41 x0 x1 x2 x3 x4) _ (cond_app (a41 x0 x1 x2 x3 x4) _ rfl (cond_app (a41 x0 x1 x2 x3 x4) _ rfl rfl)) rfl))))
noncomputable def s41 (args:List Value) (s:St):List (Bool×Value×St) :=
 match args,s.h with
 | [.iface f0 .nilIface,.iface f1 .nilIface,.float .f32 x0,.float .f32 x1,.float .f32 x2],[⟨true,some (.tab [.fl .f32,.fl .f32,.fl .f32,.fl .f32,.int .i64] x3)⟩,⟨true,some (.tab [.fl .f32] x4)⟩] => if f0 = 0 ∧ f1 = 1 then [((Nat.beq ((r41 x0 x1 x2 x3 x4).1) 0),.tuple #[wsl 2,wsl 3,vi 1],⟨[(tb sc0 x3),(tb [.fl .f32] x4),(tb sc0 ([]:LL)),(tb [.fl .f32] ([]:LL))],2,[]⟩),((Nat.beq ((r41 x0 x1 x2 x3 x4).1) 1),.tuple #[wsl 2,wsl 3,vi 2],⟨[(tb sc0 x3),(tb [.fl .f32] x4),(tb sc0 ([]:LL)),(tb [.fl .f32] ([]:LL))],2,[]⟩),((Nat.beq ((r41 x0 x1 x2 x3 x4).1) 2),.tuple #[wsl 2,wsl 3,vi 4],⟨[(tb sc0 x3),(tb [.fl .f32] x4),(tb sc0 ([]:LL)),(tb [.fl .f32] ([]:LL))],2,[]⟩),((Nat.beq ((r41 x0 x1 x2 x3 x4).1) 3),.tuple #[wsl 2,wsl 3,vi 0],⟨[(tb sc0 x3),(tb [.fl .f32] x4),(tb sc0 ((r41 x0 x1 x2 x3 x4).2.1)),(tb [.fl .f32] ((r41 x0 x1 x2 x3 x4).2.2))],2,[]⟩)] else T71 41 args s
 | _,_ => T71 41 args s
noncomputable def T72:CallF := addF T71 41 s41
theorem ok72:CfOk Try.prog T72 := by
  refine cfOk_add ok71 fun args s r s' h1 h2 h3 => ?_
  unfold s41 at h3; split at h3
  · rename_i h; split at h3
    · rename_i hc; obtain ⟨rfl,rfl⟩ := hc; exact callOk ok71 Try.func41 h1 h2 h (lfOkF_no _ _).body (e41 _ _ _ _ _) rfl h3
    · exact ok71 _ _ _ _ _ h1 h2 h3
  · exact ok71 _ _ _ _ _ h1 h2 h3
end Go.Proofs.Ytmknfenjnladeaa
