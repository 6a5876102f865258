/- What the functions that the statements reach answer, part 2. -/
import Derived.Test.YtmknfenjnladeaaSm1
namespace Go.Proofs.Ytmknfenjnladeaa
open Go.Ab
set_option maxHeartbeats 4000000
set_option maxRecDepth 100000

noncomputable def b67l0 (ih:Int→Nat→Nat→Nat→Nat→Int→LL→LL→(Nat×Nat)) (x0:Int) (x1 x2 x3 x4:Nat) (x5:Int) (x6 x7:LL):Nat×Nat :=
 let c147 := (r67l1 (1000 + x7.length + x6.length) x0 x1 x2 x3 x4 x5 (fmul .f32 1056964608 (fadd .f32 x3 x4)) ((r129 (Int.toNat ((x7.getD 0 []).getD 0 0)) x1 (fsub .f32 0 (fmul .f32 1056964608 (fadd .f32 x3 x4))) x6).2) 1 x6 x7)
 cond (decide ((x5:Int) < 40)) (cond (Nat.blt 0 x7.length) (cond ((decide ((0:Int) ≤ ((x7.getD 0 []).getD 0 0))) && (Nat.blt (Int.toNat ((x7.getD 0 []).getD 0 0)) x6.length)) (cond (Nat.beq ((r129 (Int.toNat ((x7.getD 0 []).getD 0 0)) x1 (fsub .f32 0 (fmul .f32 1056964608 (fadd .f32 x3 x4))) x6).1) 0) (cond (Nat.beq (c147.1) 0) (cond ((decide ((0:Int) ≤ x0)) && (Nat.blt (Int.toNat x0) x6.length)) (cond (Nat.beq ((r129 (Int.toNat x0) x1 (fsub .f32 (fmul .f32 1056964608 (fadd .f32 x3 x4)) x2) x6).1) 0) (cond (fgt .f32 (c147.2) ((r129 (Int.toNat x0) x1 (fsub .f32 (fmul .f32 1056964608 (fadd .f32 x3 x4)) x2) x6).2)) (ih x0 x1 x2 (fmul .f32 1056964608 (fadd .f32 x3 x4)) x4 (IntKind.i64.wrap (x5 + 1)) x6 x7) (ih x0 x1 x2 x3 (fmul .f32 1056964608 (fadd .f32 x3 x4)) (IntKind.i64.wrap (x5 + 1)) x6 x7)) (1,0)) (1,0)) (1,0)) (1,0)) (1,0)) (1,0)) (0,x4)
noncomputable def r67l0:Nat→Int→Nat→Nat→Nat→Nat→Int→LL→LL→(Nat×Nat)
 | 0 => fun _ _ _ _ _ _ _ _ => (1,0)
 | m + 1 => b67l0 (r67l0 m)
noncomputable def a67l0 (x0:Int) (x1 x2 x3 x4:Nat) (x5:Int) (x6 x7:LL) (p:Nat×Nat):Option (Fin'×List Value×St) := firstT ([((Nat.beq (p.1) 0),.exit 0,[vf (p.2)],⟨[(tb sc0 x6),(tb [.int .i64] x7)],2,[]⟩)].map fun (b,x) => (b,(x.1,frameOf 70 [11] x.2.1,x.2.2)))
noncomputable def u67l0 (x0:Int) (x1 x2 x3 x4:Nat) (x5:Int) (x6 x7:LL) (p:Nat×Nat):Option (Fin'×List Value×St) := alts ([((Nat.beq (p.1) 0),.exit 0,[vf (p.2)],⟨[(tb sc0 x6),(tb [.int .i64] x7)],2,[]⟩)].map fun (b,x) => (b,(x.1,frameOf 70 [11] x.2.1,x.2.2))) some
theorem v67l0 (x0:Int) (x1 x2 x3 x4:Nat) (x5:Int) (x6 x7:LL) (p:Nat×Nat):u67l0 x0 x1 x2 x3 x4 x5 x6 x7 p = a67l0 x0 x1 x2 x3 x4 x5 x6 x7 p := alts_first _
noncomputable def q67l0 (m:Nat):SumK := fun vals s =>
 match vals,s.h with
 | [.iface f0 .nilIface,.int .i64 x0,.float .f32 x1,.float .f32 x2,.iface f1 .nilIface,.float .f32 x3,.float .f32 x4,.int .i64 x5],[⟨true,some (.tab [.fl .f32,.fl .f32,.fl .f32,.fl .f32,.int .i64] x6)⟩,⟨true,some (.tab [.int .i64] x7)⟩] => if f0 = 0 ∧ f1 = 1 then [((Nat.beq ((r67l0 m x0 x1 x2 x3 x4 x5 x6 x7).1) 0),.exit 0,[vf ((r67l0 m x0 x1 x2 x3 x4 x5 x6 x7).2)],⟨[(tb sc0 x6),(tb [.int .i64] x7)],2,[]⟩)] else noQ vals s
 | _,_ => noQ vals s
noncomputable def w67l0 (ih:Int→Nat→Nat→Nat→Nat→Int→LL→LL→(Nat×Nat)) (x0:Int) (x1 x2 x3 x4:Nat) (x5:Int) (x6 x7:LL):Option (Fin'×List Value×St) :=
 let c147 := (r67l1 (1000 + x7.length + x6.length) x0 x1 x2 x3 x4 x5 (fmul .f32 1056964608 (fadd .f32 x3 x4)) ((r129 (Int.toNat ((x7.getD 0 []).getD 0 0)) x1 (fsub .f32 0 (fmul .f32 1056964608 (fadd .f32 x3 x4))) x6).2) 1 x6 x7)
 (cond (decide ((x5:Int) < 40))
 (cond (Nat.blt 0 x7.length) (cond (Nat.blt 0 x7.length) (cond ((decide ((0:Int) ≤ ((x7.getD 0 []).getD 0 0))) && (Nat.blt (Int.toNat ((x7.getD 0 []).getD 0 0)) x6.length)) (cond (Nat.beq ((r129 (Int.toNat ((x7.getD 0 []).getD 0 0)) x1 (fsub .f32 0 (fmul .f32 1056964608 (fadd .f32 x3 x4))) x6).1) 0) (cond (Nat.beq (c147.1) 0) (cond ((decide ((0:Int) ≤ x0)) && (Nat.blt (Int.toNat x0) x6.length)) (cond (Nat.beq ((r129 (Int.toNat x0) x1 (fsub .f32 (fmul .f32 1056964608 (fadd .f32 x3 x4)) x2) x6).1) 0) (cond (fgt .f32 (c147.2) ((r129 (Int.toNat x0) x1 (fsub .f32 (fmul .f32 1056964608 (fadd .f32 x3 x4)) x2) x6).2)) (u67l0 x0 x1 x2 x3 x4 x5 x6 x7 (ih x0 x1 x2 (fmul .f32 1056964608 (fadd .f32 x3 x4)) x4 (IntKind.i64.wrap (x5 + 1)) x6 x7)) (u67l0 x0 x1 x2 x3 x4 x5 x6 x7 (ih x0 x1 x2 x3 (fmul .f32 1056964608 (fadd .f32 x3 x4)) (IntKind.i64.wrap (x5 + 1)) x6 x7))) none) none) none) none) none) none) none)
 (a67l0 x0 x1 x2 x3 x4 x5 x6 x7 (0,x4)))
theorem e67l0 (m:Nat) (x0:Int) (x1 x2 x3 x4:Nat) (x5:Int) (x6 x7:LL):evC Try.prog ext T26 L67_1 200 (loopN Try.f67 0) (loopTail ([0,1,2,3,9,10,11,12],[]) [11] [] (sumK 70 [0,1,2,3,9,10,11,12] [11] (q67l0 m))) (frameOf 70 [0,1,2,3,9,10,11,12] [wsl 0,vi x0,vf x1,vf x2,wsl 1,vf x3,vf x4,vi x5]) ⟨[(tb sc0 x6),(tb [.int .i64] x7)],2,[]⟩ = firstT ([((Nat.beq ((r67l0 (m + 1) x0 x1 x2 x3 x4 x5 x6 x7).1) 0),.exit 0,[vf ((r67l0 (m + 1) x0 x1 x2 x3 x4 x5 x6 x7).2)],⟨[(tb sc0 x6),(tb [.int .i64] x7)],2,[]⟩)].map fun (b,x) => (b,(x.1,frameOf 70 [11] x.2.1,x.2.2))) :=
 (show _ = w67l0 (r67l0 m) x0 x1 x2 x3 x4 x5 x6 x7 from by kernel_rfl).trans
 (show w67l0 (r67l0 m) x0 x1 x2 x3 x4 x5 x6 x7 = a67l0 x0 x1 x2 x3 x4 x5 x6 x7 (r67l0 (m + 1) x0 x1 x2 x3 x4 x5 x6 x7) from by unfold w67l0; show _ = a67l0 x0 x1 x2 x3 x4 x5 x6 x7 (b67l0 (r67l0 m) x0 x1 x2 x3 x4 x5 x6 x7); unfold b67l0; exact (cond_both (a67l0 x0 x1 x2 x3 x4 x5 x6 x7) _ (fun h0 => (cond_both (a67l0 x0 x1 x2 x3 x4 x5 x6 x7) _ (fun h1 => (cond_t h1 (cond_app (a67l0 x0 x1 x2 x3 x4 x5 x6 x7) _ (cond_app (a67l0 x0 x1 x2 x3 x4 x5 x6 x7) _ (cond_app (a67l0 x0 x1 x2 x3 x4 x5 x6 x7) _ (cond_app (a67l0 x0 x1 x2 x3 x4 x5 x6 x7) _ (cond_app (a67l0 x0 x1 x2 x3 x4 x5 x6 x7) _ (cond_app (a67l0 x0 x1 x2 x3 x4 x5 x6 x7) _ (v67l0 x0 x1 x2 x3 x4 x5 x6 x7 ((r67l0 m) x0 x1 x2 (fmul .f32 1056964608 (fadd .f32 x3 x4)) x4 (IntKind.i64.wrap (x5 + 1)) x6 x7)) (v67l0 x0 x1 x2 x3 x4 x5 x6 x7 ((r67l0 m) x0 x1 x2 x3 (fmul .f32 1056964608 (fadd .f32 x3 x4)) (IntKind.i64.wrap (x5 + 1)) x6 x7))) rfl) rfl) rfl) rfl) rfl))) (fun h1 => rfl))) (fun h0 => rfl)))
theorem qm67l0:∀ m,SumKOk Try.prog (loopN Try.f67 0) 70 [0,1,2,3,9,10,11,12] [11] (q67l0 m) := by
  intro m
  induction m with
  | zero =>
    intro vals s x h1 h2 h3
    unfold q67l0 at h3; split at h3
    · rename_i h; split at h3
      · rename_i hc; obtain ⟨rfl,rfl⟩ := hc; exact absurd h3 (by simp [r67l0,firstT,Nat.beq])
      · exact noQ_ok _ _ _ h1 h2 h3
    · exact noQ_ok _ _ _ h1 h2 h3
  | succ m ih =>
    intro vals s x h1 h2 h3
    unfold q67l0 at h3; split at h3
    · rename_i h; split at h3
      · rename_i hc; obtain ⟨rfl,rfl⟩ := hc; exact sum_step ok26 extOk mixed (lok67_1.inner (by kernel_rfl)) ih h1 h2 h (e67l0 m _ _ _ _ _ _ _ _) rfl h3
      · exact noQ_ok _ _ _ h1 h2 h3
    · exact noQ_ok _ _ _ h1 h2 h3
noncomputable def Q67l0:SumK := fun vals s => q67l0 (fuelOf vals s.h) vals s
theorem qok67l0:SumKOk Try.prog (loopN Try.f67 0) 70 [0,1,2,3,9,10,11,12] [11] Q67l0 := fuel_ok qm67l0 fuelOf
noncomputable def L67_2:LoopT := addL L67_1 8 ([0,1,2,3,9,10,11,12],[]) (sumK 70 [0,1,2,3,9,10,11,12] [11] Q67l0)
theorem lok67_2:LfOkF Try.prog L67_2 Try.f67 := lfOkF_add lok67_1 qok67l0 (by kernel_rfl) (by kernel_rfl) (by kernel_rfl)

noncomputable def r67 (x0:Int) (x1 x2:Nat) (x3:LL):Nat×Nat :=
 cond (Nat.beq ((r133 x0 x3).1) 0) (cond ((((((r133 x0 x3).2).length:Nat):Int):Int) == 0) (0,0) (cond (Nat.beq ((r67l0 (1000 + ((r133 x0 x3).2).length + x3.length) x0 x1 x2 3296329728 1148846080 0 x3 ((r133 x0 x3).2)).1) 0) (0,((r67l0 (1000 + ((r133 x0 x3).2).length + x3.length) x0 x1 x2 3296329728 1148846080 0 x3 ((r133 x0 x3).2)).2)) (1,0))) (1,0)
noncomputable def a67 (x0:Int) (x1 x2:Nat) (x3:LL) (p:Nat×Nat):Res := firstT [((Nat.beq (p.1) 0),vf (p.2),⟨[(tb sc0 x3)],1,[]⟩)]
noncomputable def w67 (x0:Int) (x1 x2:Nat) (x3:LL):Res :=
 (cond (Nat.beq ((r133 x0 x3).1) 0)
 (cond ((((((r133 x0 x3).2).length:Nat):Int):Int) == 0) (a67 x0 x1 x2 x3 (0,0)) (cond (Nat.beq ((r67l0 (1000 + ((r133 x0 x3).2).length + x3.length) x0 x1 x2 3296329728 1148846080 0 x3 ((r133 x0 x3).2)).1) 0) (a67 x0 x1 x2 x3 (0,((r67l0 (1000 + ((r133 x0 x3).2).length + x3.length) x0 x1 x2 3296329728 1148846080 0 x3 ((r133 x0 x3).2)).2))) none))
 none)
theorem e67 (x0:Int) (x1 x2:Nat) (x3:LL):evFn Try.prog ext T26 L67_2 200 Try.f67 [wsl 0,vi x0,vf x1,vf x2] ⟨[(tb sc0 x3)],1,[]⟩ = firstT [((Nat.beq ((r67 x0 x1 x2 x3).1) 0),vf ((r67 x0 x1 x2 x3).2),⟨[(tb sc0 x3)],1,[]⟩)] :=
 (show _ = w67 x0 x1 x2 x3 from by kernel_rfl).trans
 (show w67 x0 x1 x2 x3 = a67 x0 x1 x2 x3 (r67 x0 x1 x2 x3) from by unfold w67 r67; exact (cond_app (a67 x0 x1 x2 x3) _ (cond_app (a67 x0 x1 x2 x3) _ rfl (cond_app (a67 x0 x1 x2 x3) _ rfl rfl)) rfl))
noncomputable def s67 (args:List Value) (s:St):List (Bool×Value×St) :=
 match args,s.h with
 | [.iface f0 .nilIface,.int .i64 x0,.float .f32 x1,.float .f32 x2],[⟨true,some (.tab [.fl .f32,.fl .f32,.fl .f32,.fl .f32,.int .i64] x3)⟩] => if f0 = 0 then [((Nat.beq ((r67 x0 x1 x2 x3).1) 0),vf ((r67 x0 x1 x2 x3).2),⟨[(tb sc0 x3)],1,[]⟩)] else T26 67 args s
 | _,_ => T26 67 args s
noncomputable def T27:CallF := addF T26 67 s67
theorem ok27:CfOk Try.prog T27 := by
  refine cfOk_add ok26 fun args s r s' h1 h2 h3 => ?_
  unfold s67 at h3; split at h3
  · rename_i h; split at h3
    · rename_i hc; obtain ⟨rfl⟩ := hc; exact callOk ok26 Try.func67 h1 h2 h lok67_2.body (e67 _ _ _ _) rfl h3
    · exact ok26 _ _ _ _ _ h1 h2 h3
  · exact ok26 _ _ _ _ _ h1 h2 h3

noncomputable def r94 (x0:Nat):Nat :=
 cond (!(r147 x0)) (0) (1)
noncomputable def a94 (x0:Nat) (p:Nat):Res := firstT [((Nat.beq p 0),.tuple #[vf 0,vi 4],st0),(true,.tuple #[vf x0,vi 0],st0)]
noncomputable def w94 (x0:Nat):Res :=
 (cond (!(r147 x0))
 (a94 x0 (0))
 (a94 x0 (1)))
theorem e94 (x0:Nat):evFn Try.prog ext T27 noL 200 Try.f94 [vf x0] st0 = firstT [((Nat.beq (r94 x0) 0),.tuple #[vf 0,vi 4],st0),(true,.tuple #[vf x0,vi 0],st0)] :=
 (show _ = w94 x0 from by kernel_rfl).trans
 (show w94 x0 = a94 x0 (r94 x0) from by unfold w94 r94; exact (cond_app (a94 x0) _ rfl rfl))
noncomputable def s94 (args:List Value) (s:St):List (Bool×Value×St) :=
 match args,s.h with
 | [.float .f32 x0],[] => [((Nat.beq (r94 x0) 0),.tuple #[vf 0,vi 4],st0),(true,.tuple #[vf x0,vi 0],st0)]
 | _,_ => T27 94 args s
noncomputable def T28:CallF := addF T27 94 s94
theorem ok28:CfOk Try.prog T28 := by
  refine cfOk_add ok27 fun args s r s' h1 h2 h3 => ?_
  unfold s94 at h3; split at h3
  · rename_i h; exact callOk ok27 Try.func94 h1 h2 h (lfOkF_no _ _).body (e94 _) rfl h3
  · exact ok27 _ _ _ _ _ h1 h2 h3

noncomputable def b61l0 (ih:Nat→Nat→Int→LL→LL→(Nat×LL×LL)) (x0 x1:Nat) (x2:Int) (x3 x4:LL):Nat×LL×LL :=
 cond (decide ((x2:Int) < ((x3.length:Nat):Int))) (cond ((decide ((0:Int) ≤ x2)) && (Nat.blt (Int.toNat x2) x3.length)) (cond ((((x3.getD (Int.toNat x2) []).getD 4 0):Int) == (-1)) (cond (Nat.beq ((r67 x2 x0 x1 x3).1) 0) (cond (Nat.beq ((r129 (Int.toNat x2) x0 (fsub .f32 ((r67 x2 x0 x1 x3).2) x1) x3).1) 0) (cond (Nat.beq (r94 ((r129 (Int.toNat x2) x0 (fsub .f32 ((r67 x2 x0 x1 x3).2) x1) x3).2)) 0) (0,[],[]) (cond (Nat.ble ((x4.length + 1) * 5) 140737488355328) (cond (Nat.beq ((ih x0 x1 (IntKind.i64.wrap (x2 + 1)) x3 (((x4.drop 0).take x4.length) ++ ([[((((r129 (Int.toNat x2) x0 (fsub .f32 ((r67 x2 x0 x1 x3).2) x1) x3).2):Nat):Int)]]:LL))).1) 0) (1,(((x4.drop 0).take x4.length) ++ ([[((((r129 (Int.toNat x2) x0 (fsub .f32 ((r67 x2 x0 x1 x3).2) x1) x3).2):Nat):Int)]]:LL)),[]) (cond (Nat.beq ((ih x0 x1 (IntKind.i64.wrap (x2 + 1)) x3 (((x4.drop 0).take x4.length) ++ ([[((((r129 (Int.toNat x2) x0 (fsub .f32 ((r67 x2 x0 x1 x3).2) x1) x3).2):Nat):Int)]]:LL))).1) 1) (1,((ih x0 x1 (IntKind.i64.wrap (x2 + 1)) x3 (((x4.drop 0).take x4.length) ++ ([[((((r129 (Int.toNat x2) x0 (fsub .f32 ((r67 x2 x0 x1 x3).2) x1) x3).2):Nat):Int)]]:LL))).2.1),[]) (cond (Nat.beq ((ih x0 x1 (IntKind.i64.wrap (x2 + 1)) x3 (((x4.drop 0).take x4.length) ++ ([[((((r129 (Int.toNat x2) x0 (fsub .f32 ((r67 x2 x0 x1 x3).2) x1) x3).2):Nat):Int)]]:LL))).1) 2) (2,[],((ih x0 x1 (IntKind.i64.wrap (x2 + 1)) x3 (((x4.drop 0).take x4.length) ++ ([[((((r129 (Int.toNat x2) x0 (fsub .f32 ((r67 x2 x0 x1 x3).2) x1) x3).2):Nat):Int)]]:LL))).2.2)) (cond (Nat.beq ((ih x0 x1 (IntKind.i64.wrap (x2 + 1)) x3 (((x4.drop 0).take x4.length) ++ ([[((((r129 (Int.toNat x2) x0 (fsub .f32 ((r67 x2 x0 x1 x3).2) x1) x3).2):Nat):Int)]]:LL))).1) 3) (2,[],(((x4.drop 0).take x4.length) ++ ([[((((r129 (Int.toNat x2) x0 (fsub .f32 ((r67 x2 x0 x1 x3).2) x1) x3).2):Nat):Int)]]:LL))) (4,[],[]))))) (4,[],[]))) (4,[],[])) (4,[],[])) (cond (Nat.beq ((r67 ((x3.getD (Int.toNat x2) []).getD 4 0) x0 x1 x3).1) 0) (cond (Nat.beq ((r129 (Int.toNat x2) x0 (fsub .f32 0 ((r67 ((x3.getD (Int.toNat x2) []).getD 4 0) x0 x1 x3).2)) x3).1) 0) (cond (Nat.beq (r94 ((r129 (Int.toNat x2) x0 (fsub .f32 0 ((r67 ((x3.getD (Int.toNat x2) []).getD 4 0) x0 x1 x3).2)) x3).2)) 0) (0,[],[]) (cond (Nat.ble ((x4.length + 1) * 5) 140737488355328) (cond (Nat.beq ((ih x0 x1 (IntKind.i64.wrap (x2 + 1)) x3 (((x4.drop 0).take x4.length) ++ ([[((((r129 (Int.toNat x2) x0 (fsub .f32 0 ((r67 ((x3.getD (Int.toNat x2) []).getD 4 0) x0 x1 x3).2)) x3).2):Nat):Int)]]:LL))).1) 0) (1,(((x4.drop 0).take x4.length) ++ ([[((((r129 (Int.toNat x2) x0 (fsub .f32 0 ((r67 ((x3.getD (Int.toNat x2) []).getD 4 0) x0 x1 x3).2)) x3).2):Nat):Int)]]:LL)),[]) (cond (Nat.beq ((ih x0 x1 (IntKind.i64.wrap (x2 + 1)) x3 (((x4.drop 0).take x4.length) ++ ([[((((r129 (Int.toNat x2) x0 (fsub .f32 0 ((r67 ((x3.getD (Int.toNat x2) []).getD 4 0) x0 x1 x3).2)) x3).2):Nat):Int)]]:LL))).1) 1) (1,((ih x0 x1 (IntKind.i64.wrap (x2 + 1)) x3 (((x4.drop 0).take x4.length) ++ ([[((((r129 (Int.toNat x2) x0 (fsub .f32 0 ((r67 ((x3.getD (Int.toNat x2) []).getD 4 0) x0 x1 x3).2)) x3).2):Nat):Int)]]:LL))).2.1),[]) (cond (Nat.beq ((ih x0 x1 (IntKind.i64.wrap (x2 + 1)) x3 (((x4.drop 0).take x4.length) ++ ([[((((r129 (Int.toNat x2) x0 (fsub .f32 0 ((r67 ((x3.getD (Int.toNat x2) []).getD 4 0) x0 x1 x3).2)) x3).2):Nat):Int)]]:LL))).1) 2) (2,[],((ih x0 x1 (IntKind.i64.wrap (x2 + 1)) x3 (((x4.drop 0).take x4.length) ++ ([[((((r129 (Int.toNat x2) x0 (fsub .f32 0 ((r67 ((x3.getD (Int.toNat x2) []).getD 4 0) x0 x1 x3).2)) x3).2):Nat):Int)]]:LL))).2.2)) (cond (Nat.beq ((ih x0 x1 (IntKind.i64.wrap (x2 + 1)) x3 (((x4.drop 0).take x4.length) ++ ([[((((r129 (Int.toNat x2) x0 (fsub .f32 0 ((r67 ((x3.getD (Int.toNat x2) []).getD 4 0) x0 x1 x3).2)) x3).2):Nat):Int)]]:LL))).1) 3) (2,[],(((x4.drop 0).take x4.length) ++ ([[((((r129 (Int.toNat x2) x0 (fsub .f32 0 ((r67 ((x3.getD (Int.toNat x2) []).getD 4 0) x0 x1 x3).2)) x3).2):Nat):Int)]]:LL))) (4,[],[]))))) (4,[],[]))) (4,[],[])) (4,[],[]))) (4,[],[])) (3,[],[])
noncomputable def r61l0:Nat→Nat→Nat→Int→LL→LL→(Nat×LL×LL)
 | 0 => fun _ _ _ _ _ => (4,[],[])
 | m + 1 => b61l0 (r61l0 m)
noncomputable def a61l0 (x0 x1:Nat) (x2:Int) (x3 x4:LL) (p:Nat×LL×LL):Option (Fin'×List Value×St) := firstT ([((Nat.beq (p.1) 0),.ret,[wsl 2,vi 4,wsl 1],⟨[(tb sc0 x3),(tb [.fl .f32] x4),(tb [.fl .f32] ([]:LL))],2,[1]⟩),((Nat.beq (p.1) 1),.ret,[wsl 2,vi 4,wsl 3],⟨[(tb sc0 x3),⟨true,none⟩,(tb [.fl .f32] ([]:LL)),(tb [.fl .f32] (p.2.1))],2,[1]⟩),((Nat.beq (p.1) 2),.exit 0,[Y,Y,wsl 2],⟨[(tb sc0 x3),⟨true,none⟩,(tb [.fl .f32] (p.2.2))],2,[1]⟩),((Nat.beq (p.1) 3),.exit 0,[Y,Y,wsl 1],⟨[(tb sc0 x3),(tb [.fl .f32] x4)],2,[1]⟩)].map fun (b,x) => (b,(x.1,frameOf 62 [6,7,8] x.2.1,x.2.2)))
noncomputable def u61l0 (x0 x1:Nat) (x2:Int) (x3 x4:LL) (p:Nat×LL×LL):Option (Fin'×List Value×St) := alts ([((Nat.beq (p.1) 0),.ret,[wsl 2,vi 4,wsl 1],⟨[(tb sc0 x3),(tb [.fl .f32] x4),(tb [.fl .f32] ([]:LL))],2,[1]⟩),((Nat.beq (p.1) 1),.ret,[wsl 2,vi 4,wsl 3],⟨[(tb sc0 x3),⟨true,none⟩,(tb [.fl .f32] ([]:LL)),(tb [.fl .f32] (p.2.1))],2,[1]⟩),((Nat.beq (p.1) 2),.exit 0,[Y,Y,wsl 2],⟨[(tb sc0 x3),⟨true,none⟩,(tb [.fl .f32] (p.2.2))],2,[1]⟩),((Nat.beq (p.1) 3),.exit 0,[Y,Y,wsl 1],⟨[(tb sc0 x3),(tb [.fl .f32] x4)],2,[1]⟩)].map fun (b,x) => (b,(x.1,frameOf 62 [6,7,8] x.2.1,x.2.2))) some
theorem v61l0 (x0 x1:Nat) (x2:Int) (x3 x4:LL) (p:Nat×LL×LL):u61l0 x0 x1 x2 x3 x4 p = a61l0 x0 x1 x2 x3 x4 p := alts_first _
noncomputable def q61l0 (m:Nat):SumK := fun vals s =>
 match vals,s.h with
 | [.iface f0 .nilIface,.float .f32 x0,.float .f32 x1,.iface f1 .nilIface,.int .i64 x2],[⟨true,some (.tab [.fl .f32,.fl .f32,.fl .f32,.fl .f32,.int .i64] x3)⟩,⟨true,some (.tab [.fl .f32] x4)⟩] => if f0 = 0 ∧ f1 = 1 then [((Nat.beq ((r61l0 m x0 x1 x2 x3 x4).1) 0),.ret,[wsl 2,vi 4,wsl 1],⟨[(tb sc0 x3),(tb [.fl .f32] x4),(tb [.fl .f32] ([]:LL))],2,[1]⟩),((Nat.beq ((r61l0 m x0 x1 x2 x3 x4).1) 1),.ret,[wsl 2,vi 4,wsl 3],⟨[(tb sc0 x3),⟨true,none⟩,(tb [.fl .f32] ([]:LL)),(tb [.fl .f32] ((r61l0 m x0 x1 x2 x3 x4).2.1))],2,[1]⟩),((Nat.beq ((r61l0 m x0 x1 x2 x3 x4).1) 2),.exit 0,[Y,Y,wsl 2],⟨[(tb sc0 x3),⟨true,none⟩,(tb [.fl .f32] ((r61l0 m x0 x1 x2 x3 x4).2.2))],2,[1]⟩),((Nat.beq ((r61l0 m x0 x1 x2 x3 x4).1) 3),.exit 0,[Y,Y,wsl 1],⟨[(tb sc0 x3),(tb [.fl .f32] x4)],2,[1]⟩)] else noQ vals s
 | _,_ => noQ vals s
noncomputable def w61l0 (ih:Nat→Nat→Int→LL→LL→(Nat×LL×LL)) (x0 x1:Nat) (x2:Int) (x3 x4:LL):Option (Fin'×List Value×St) :=
 (cond (decide ((x2:Int) < ((x3.length:Nat):Int)))
 (cond ((decide ((0:Int) ≤ x2)) && (Nat.blt (Int.toNat x2) x3.length)) (cond (Nat.blt (Int.toNat x2) x3.length) (cond ((((x3.getD (Int.toNat x2) []).getD 4 0):Int) == (-1)) (cond (Nat.beq ((r67 x2 x0 x1 x3).1) 0) (cond ((decide ((0:Int) ≤ x2)) && (Nat.blt (Int.toNat x2) x3.length)) (cond (Nat.beq ((r129 (Int.toNat x2) x0 (fsub .f32 ((r67 x2 x0 x1 x3).2) x1) x3).1) 0) (cond (Nat.beq (r94 ((r129 (Int.toNat x2) x0 (fsub .f32 ((r67 x2 x0 x1 x3).2) x1) x3).2)) 0) (a61l0 x0 x1 x2 x3 x4 (0,[],[])) (cond (Nat.ble ((x4.length + 1) * 5) 140737488355328) (cond (Nat.beq ((ih x0 x1 (IntKind.i64.wrap (x2 + 1)) x3 (((x4.drop 0).take x4.length) ++ ([[((((r129 (Int.toNat x2) x0 (fsub .f32 ((r67 x2 x0 x1 x3).2) x1) x3).2):Nat):Int)]]:LL))).1) 0) (a61l0 x0 x1 x2 x3 x4 (1,(((x4.drop 0).take x4.length) ++ ([[((((r129 (Int.toNat x2) x0 (fsub .f32 ((r67 x2 x0 x1 x3).2) x1) x3).2):Nat):Int)]]:LL)),[])) (cond (Nat.beq ((ih x0 x1 (IntKind.i64.wrap (x2 + 1)) x3 (((x4.drop 0).take x4.length) ++ ([[((((r129 (Int.toNat x2) x0 (fsub .f32 ((r67 x2 x0 x1 x3).2) x1) x3).2):Nat):Int)]]:LL))).1) 1) (a61l0 x0 x1 x2 x3 x4 (1,((ih x0 x1 (IntKind.i64.wrap (x2 + 1)) x3 (((x4.drop 0).take x4.length) ++ ([[((((r129 (Int.toNat x2) x0 (fsub .f32 ((r67 x2 x0 x1 x3).2) x1) x3).2):Nat):Int)]]:LL))).2.1),[])) (cond (Nat.beq ((ih x0 x1 (IntKind.i64.wrap (x2 + 1)) x3 (((x4.drop 0).take x4.length) ++ ([[((((r129 (Int.toNat x2) x0 (fsub .f32 ((r67 x2 x0 x1 x3).2) x1) x3).2):Nat):Int)]]:LL))).1) 2) (a61l0 x0 x1 x2 x3 x4 (2,[],((ih x0 x1 (IntKind.i64.wrap (x2 + 1)) x3 (((x4.drop 0).take x4.length) ++ ([[((((r129 (Int.toNat x2) x0 (fsub .f32 ((r67 x2 x0 x1 x3).2) x1) x3).2):Nat):Int)]]:LL))).2.2))) (cond (Nat.beq ((ih x0 x1 (IntKind.i64.wrap (x2 + 1)) x3 (((x4.drop 0).take x4.length) ++ ([[((((r129 (Int.toNat x2) x0 (fsub .f32 ((r67 x2 x0 x1 x3).2) x1) x3).2):Nat):Int)]]:LL))).1) 3) (a61l0 x0 x1 x2 x3 x4 (2,[],(((x4.drop 0).take x4.length) ++ ([[((((r129 (Int.toNat x2) x0 (fsub .f32 ((r67 x2 x0 x1 x3).2) x1) x3).2):Nat):Int)]]:LL)))) none)))) none)) none) none) none) (cond ((decide ((0:Int) ≤ x2)) && (Nat.blt (Int.toNat x2) x3.length)) (cond (Nat.blt (Int.toNat x2) x3.length) (cond (Nat.beq ((r67 ((x3.getD (Int.toNat x2) []).getD 4 0) x0 x1 x3).1) 0) (cond ((decide ((0:Int) ≤ x2)) && (Nat.blt (Int.toNat x2) x3.length)) (cond (Nat.beq ((r129 (Int.toNat x2) x0 (fsub .f32 0 ((r67 ((x3.getD (Int.toNat x2) []).getD 4 0) x0 x1 x3).2)) x3).1) 0) (cond (Nat.beq (r94 ((r129 (Int.toNat x2) x0 (fsub .f32 0 ((r67 ((x3.getD (Int.toNat x2) []).getD 4 0) x0 x1 x3).2)) x3).2)) 0) (a61l0 x0 x1 x2 x3 x4 (0,[],[])) (cond (Nat.ble ((x4.length + 1) * 5) 140737488355328) (cond (Nat.beq ((ih x0 x1 (IntKind.i64.wrap (x2 + 1)) x3 (((x4.drop 0).take x4.length) ++ ([[((((r129 (Int.toNat x2) x0 (fsub .f32 0 ((r67 ((x3.getD (Int.toNat x2) []).getD 4 0) x0 x1 x3).2)) x3).2):Nat):Int)]]:LL))).1) 0) (a61l0 x0 x1 x2 x3 x4 (1,(((x4.drop 0).take x4.length) ++ ([[((((r129 (Int.toNat x2) x0 (fsub .f32 0 ((r67 ((x3.getD (Int.toNat x2) []).getD 4 0) x0 x1 x3).2)) x3).2):Nat):Int)]]:LL)),[])) (cond (Nat.beq ((ih x0 x1 (IntKind.i64.wrap (x2 + 1)) x3 (((x4.drop 0).take x4.length) ++ ([[((((r129 (Int.toNat x2) x0 (fsub .f32 0 ((r67 ((x3.getD (Int.toNat x2) []).getD 4 0) x0 x1 x3).2)) x3).2):Nat):Int)]]:LL))).1) 1) (a61l0 x0 x1 x2 x3 x4 (1,((ih x0 x1 (IntKind.i64.wrap (x2 + 1)) x3 (((x4.drop 0).take x4.length) ++ ([[((((r129 (Int.toNat x2) x0 (fsub .f32 0 ((r67 ((x3.getD (Int.toNat x2) []).getD 4 0) x0 x1 x3).2)) x3).2):Nat):Int)]]:LL))).2.1),[])) (cond (Nat.beq ((ih x0 x1 (IntKind.i64.wrap (x2 + 1)) x3 (((x4.drop 0).take x4.length) ++ ([[((((r129 (Int.toNat x2) x0 (fsub .f32 0 ((r67 ((x3.getD (Int.toNat x2) []).getD 4 0) x0 x1 x3).2)) x3).2):Nat):Int)]]:LL))).1) 2) (a61l0 x0 x1 x2 x3 x4 (2,[],((ih x0 x1 (IntKind.i64.wrap (x2 + 1)) x3 (((x4.drop 0).take x4.length) ++ ([[((((r129 (Int.toNat x2) x0 (fsub .f32 0 ((r67 ((x3.getD (Int.toNat x2) []).getD 4 0) x0 x1 x3).2)) x3).2):Nat):Int)]]:LL))).2.2))) (cond (Nat.beq ((ih x0 x1 (IntKind.i64.wrap (x2 + 1)) x3 (((x4.drop 0).take x4.length) ++ ([[((((r129 (Int.toNat x2) x0 (fsub .f32 0 ((r67 ((x3.getD (Int.toNat x2) []).getD 4 0) x0 x1 x3).2)) x3).2):Nat):Int)]]:LL))).1) 3) (a61l0 x0 x1 x2 x3 x4 (2,[],(((x4.drop 0).take x4.length) ++ ([[((((r129 (Int.toNat x2) x0 (fsub .f32 0 ((r67 ((x3.getD (Int.toNat x2) []).getD 4 0) x0 x1 x3).2)) x3).2):Nat):Int)]]:LL)))) none)))) none)) none) none) none) none) none)) none) none)
 (a61l0 x0 x1 x2 x3 x4 (3,[],[])))
theorem e61l0 (m:Nat) (x0 x1:Nat) (x2:Int) (x3 x4:LL):evC Try.prog ext T28 noL 200 (loopN Try.f61 0) (loopTail ([0,1,2,8,9],[]) [6,7,8] [1] (sumK 62 [0,1,2,8,9] [6,7,8] (q61l0 m))) (frameOf 62 [0,1,2,8,9] [wsl 0,vf x0,vf x1,wsl 1,vi x2]) ⟨[(tb sc0 x3),(tb [.fl .f32] x4)],2,[]⟩ = firstT ([((Nat.beq ((r61l0 (m + 1) x0 x1 x2 x3 x4).1) 0),.ret,[wsl 2,vi 4,wsl 1],⟨[(tb sc0 x3),(tb [.fl .f32] x4),(tb [.fl .f32] ([]:LL))],2,[1]⟩),((Nat.beq ((r61l0 (m + 1) x0 x1 x2 x3 x4).1) 1),.ret,[wsl 2,vi 4,wsl 3],⟨[(tb sc0 x3),⟨true,none⟩,(tb [.fl .f32] ([]:LL)),(tb [.fl .f32] ((r61l0 (m + 1) x0 x1 x2 x3 x4).2.1))],2,[1]⟩),((Nat.beq ((r61l0 (m + 1) x0 x1 x2 x3 x4).1) 2),.exit 0,[Y,Y,wsl 2],⟨[(tb sc0 x3),⟨true,none⟩,(tb [.fl .f32] ((r61l0 (m + 1) x0 x1 x2 x3 x4).2.2))],2,[1]⟩),((Nat.beq ((r61l0 (m + 1) x0 x1 x2 x3 x4).1) 3),.exit 0,[Y,Y,wsl 1],⟨[(tb sc0 x3),(tb [.fl .f32] x4)],2,[1]⟩)].map fun (b,x) => (b,(x.1,frameOf 62 [6,7,8] x.2.1,x.2.2))) :=
 (show _ = w61l0 (r61l0 m) x0 x1 x2 x3 x4 from by kernel_rfl).trans
 (show w61l0 (r61l0 m) x0 x1 x2 x3 x4 = a61l0 x0 x1 x2 x3 x4 (r61l0 (m + 1) x0 x1 x2 x3 x4) from by unfold w61l0; show _ = a61l0 x0 x1 x2 x3 x4 (b61l0 (r61l0 m) x0 x1 x2 x3 x4); unfold b61l0; exact (cond_both (a61l0 x0 x1 x2 x3 x4) _ (fun h0 => (cond_both (a61l0 x0 x1 x2 x3 x4) _ (fun h1 => (cond_t (ev_and2 h1) (cond_both (a61l0 x0 x1 x2 x3 x4) _ (fun h2 => (cond_both (a61l0 x0 x1 x2 x3 x4) _ (fun h3 => (cond_t h1 (cond_app (a61l0 x0 x1 x2 x3 x4) _ (cond_app (a61l0 x0 x1 x2 x3 x4) _ rfl (cond_app (a61l0 x0 x1 x2 x3 x4) _ (cond_app (a61l0 x0 x1 x2 x3 x4) _ rfl (cond_app (a61l0 x0 x1 x2 x3 x4) _ rfl (cond_app (a61l0 x0 x1 x2 x3 x4) _ rfl (cond_app (a61l0 x0 x1 x2 x3 x4) _ rfl rfl)))) rfl)) rfl))) (fun h3 => rfl))) (fun h2 => (cond_t h1 (cond_t (ev_and2 h1) (cond_both (a61l0 x0 x1 x2 x3 x4) _ (fun h3 => (cond_t h1 (cond_app (a61l0 x0 x1 x2 x3 x4) _ (cond_app (a61l0 x0 x1 x2 x3 x4) _ rfl (cond_app (a61l0 x0 x1 x2 x3 x4) _ (cond_app (a61l0 x0 x1 x2 x3 x4) _ rfl (cond_app (a61l0 x0 x1 x2 x3 x4) _ rfl (cond_app (a61l0 x0 x1 x2 x3 x4) _ rfl (cond_app (a61l0 x0 x1 x2 x3 x4) _ rfl rfl)))) rfl)) rfl))) (fun h3 => rfl)))))))) (fun h1 => rfl))) (fun h0 => rfl)))
theorem qm61l0:∀ m,SumKOk Try.prog (loopN Try.f61 0) 62 [0,1,2,8,9] [6,7,8] (q61l0 m) := by
  intro m
  induction m with
  | zero =>
    intro vals s x h1 h2 h3
    unfold q61l0 at h3; split at h3
    · rename_i h; split at h3
      · rename_i hc; obtain ⟨rfl,rfl⟩ := hc; exact absurd h3 (by simp [r61l0,firstT,Nat.beq])
      · exact noQ_ok _ _ _ h1 h2 h3
    · exact noQ_ok _ _ _ h1 h2 h3
  | succ m ih =>
    intro vals s x h1 h2 h3
    unfold q61l0 at h3; split at h3
    · rename_i h; split at h3
      · rename_i hc; obtain ⟨rfl,rfl⟩ := hc; exact sum_step ok28 extOk mixed ((lfOkF_no _ _).inner (by kernel_rfl)) ih h1 h2 h (e61l0 m _ _ _ _ _) rfl h3
      · exact noQ_ok _ _ _ h1 h2 h3
    · exact noQ_ok _ _ _ h1 h2 h3
noncomputable def Q61l0:SumK := fun vals s => q61l0 (fuelOf vals s.h) vals s
theorem qok61l0:SumKOk Try.prog (loopN Try.f61 0) 62 [0,1,2,8,9] [6,7,8] Q61l0 := fuel_ok qm61l0 fuelOf
noncomputable def L61_1:LoopT := addL noL 4 ([0,1,2,8,9],[]) (sumK 62 [0,1,2,8,9] [6,7,8] Q61l0)
theorem lok61_1:LfOkF Try.prog L61_1 Try.f61 := lfOkF_add (lfOkF_no _ _) qok61l0 (by kernel_rfl) (by kernel_rfl) (by kernel_rfl)

noncomputable def r61 (x0 x1:Nat) (x2:LL):Nat×LL :=
 cond (Nat.beq ((r61l0 (1000 + 0 + x2.length) x0 x1 0 x2 ([]:LL)).1) 0) (0,[]) (cond (Nat.beq ((r61l0 (1000 + 0 + x2.length) x0 x1 0 x2 ([]:LL)).1) 1) (0,[]) (cond (Nat.beq ((r61l0 (1000 + 0 + x2.length) x0 x1 0 x2 ([]:LL)).1) 2) (1,((r61l0 (1000 + 0 + x2.length) x0 x1 0 x2 ([]:LL)).2.2)) (cond (Nat.beq ((r61l0 (1000 + 0 + x2.length) x0 x1 0 x2 ([]:LL)).1) 3) (1,([]:LL)) (2,[]))))
noncomputable def a61 (x0 x1:Nat) (x2:LL) (p:Nat×LL):Res := firstT [((Nat.beq (p.1) 0),.tuple #[wsl 1,vi 4],⟨[(tb sc0 x2),(tb [.fl .f32] ([]:LL))],1,[]⟩),((Nat.beq (p.1) 1),.tuple #[wsl 1,vi 0],⟨[(tb sc0 x2),(tb [.fl .f32] (p.2))],1,[]⟩)]
noncomputable def w61 (x0 x1:Nat) (x2:LL):Res :=
 (cond (Nat.beq ((r61l0 (1000 + 0 + x2.length) x0 x1 0 x2 ([]:LL)).1) 0)
 (a61 x0 x1 x2 (0,[]))
 (cond (Nat.beq ((r61l0 (1000 + 0 + x2.length) x0 x1 0 x2 ([]:LL)).1) 1) (a61 x0 x1 x2 (0,[])) (cond (Nat.beq ((r61l0 (1000 + 0 + x2.length) x0 x1 0 x2 ([]:LL)).1) 2) (a61 x0 x1 x2 (1,((r61l0 (1000 + 0 + x2.length) x0 x1 0 x2 ([]:LL)).2.2))) (cond (Nat.beq ((r61l0 (1000 + 0 + x2.length) x0 x1 0 x2 ([]:LL)).1) 3) (a61 x0 x1 x2 (1,([]:LL))) none))))
theorem e61 (x0 x1:Nat) (x2:LL):evFn Try.prog ext T28 L61_1 200 Try.f61 [wsl 0,vf x0,vf x1] ⟨[(tb sc0 x2)],1,[]⟩ = firstT [((Nat.beq ((r61 x0 x1 x2).1) 0),.tuple #[wsl 1,vi 4],⟨[(tb sc0 x2),(tb [.fl .f32] ([]:LL))],1,[]⟩),((Nat.beq ((r61 x0 x1 x2).1) 1),.tuple #[wsl 1,vi 0],⟨[(tb sc0 x2),(tb [.fl .f32] ((r61 x0 x1 x2).2))],1,[]⟩)] :=
 (show _ = w61 x0 x1 x2 from by kernel_rfl).trans
 (show w61 x0 x1 x2 = a61 x0 x1 x2 (r61 x0 x1 x2) from by unfold w61 r61; exact (cond_app (a61 x0 x1 x2) _ rfl (cond_app (a61 x0 x1 x2) _ rfl (cond_app (a61 x0 x1 x2) _ rfl (cond_app (a61 x0 x1 x2) _ rfl rfl)))))
noncomputable def s61 (args:List Value) (s:St):List (Bool×Value×St) :=
 match args,s.h with
 | [.iface f0 .nilIface,.float .f32 x0,.float .f32 x1],[⟨true,some (.tab [.fl .f32,.fl .f32,.fl .f32,.fl .f32,.int .i64] x2)⟩] => if f0 = 0 then [((Nat.beq ((r61 x0 x1 x2).1) 0),.tuple #[wsl 1,vi 4],⟨[(tb sc0 x2),(tb [.fl .f32] ([]:LL))],1,[]⟩),((Nat.beq ((r61 x0 x1 x2).1) 1),.tuple #[wsl 1,vi 0],⟨[(tb sc0 x2),(tb [.fl .f32] ((r61 x0 x1 x2).2))],1,[]⟩)] else T28 61 args s
 | _,_ => T28 61 args s
noncomputable def T29:CallF := addF T28 61 s61
theorem ok29:CfOk Try.prog T29 := by
  refine cfOk_add ok28 fun args s r s' h1 h2 h3 => ?_
  unfold s61 at h3; split at h3
  · rename_i h; split at h3
    · rename_i hc; obtain ⟨rfl⟩ := hc; exact callOk ok28 Try.func61 h1 h2 h lok61_1.body (e61 _ _ _) rfl h3
    · exact ok28 _ _ _ _ _ h1 h2 h3
  · exact ok28 _ _ _ _ _ h1 h2 h3

noncomputable def r12 (x0 x1:Nat) (x2:LL):Nat×LL :=
 cond (Nat.beq (r60 x0 x1 x2) 0) (0,[]) (cond (Nat.beq (r60 x0 x1 x2) 1) (1,[]) (cond (Nat.beq (r60 x0 x1 x2) 2) (cond (Nat.beq ((r61 x0 x1 x2).1) 0) (2,[]) (cond (Nat.beq ((r61 x0 x1 x2).1) 1) (3,((r61 x0 x1 x2).2)) (4,[]))) (4,[])))
noncomputable def a12 (x0 x1:Nat) (x2:LL) (p:Nat×LL):Res := firstT [((Nat.beq (p.1) 0),.tuple #[wsl 1,vi 1],⟨[(tb sc0 x2),(tb [.fl .f32] ([]:LL))],1,[]⟩),((Nat.beq (p.1) 1),.tuple #[wsl 1,vi 2],⟨[(tb sc0 x2),(tb [.fl .f32] ([]:LL))],1,[]⟩),((Nat.beq (p.1) 2),.tuple #[wsl 1,vi 4],⟨[(tb sc0 x2),(tb [.fl .f32] ([]:LL))],1,[]⟩),((Nat.beq (p.1) 3),.tuple #[wsl 1,vi 0],⟨[(tb sc0 x2),(tb [.fl .f32] (p.2))],1,[]⟩)]
noncomputable def w12 (x0 x1:Nat) (x2:LL):Res :=
 (cond (Nat.beq (r60 x0 x1 x2) 0)
 (a12 x0 x1 x2 (0,[]))
 (cond (Nat.beq (r60 x0 x1 x2) 1) (a12 x0 x1 x2 (1,[])) (cond (Nat.beq (r60 x0 x1 x2) 2) (cond (Nat.beq ((r61 x0 x1 x2).1) 0) (a12 x0 x1 x2 (2,[])) (cond (Nat.beq ((r61 x0 x1 x2).1) 1) (a12 x0 x1 x2 (3,((r61 x0 x1 x2).2))) none)) none)))
theorem e12 (x0 x1:Nat) (x2:LL):evFn Try.prog ext T29 noL 200 Try.f12 [wsl 0,vf x0,vf x1] ⟨[(tb sc0 x2)],1,[]⟩ = firstT [((Nat.beq ((r12 x0 x1 x2).1) 0),.tuple #[wsl 1,vi 1],⟨[(tb sc0 x2),(tb [.fl .f32] ([]:LL))],1,[]⟩),((Nat.beq ((r12 x0 x1 x2).1) 1),.tuple #[wsl 1,vi 2],⟨[(tb sc0 x2),(tb [.fl .f32] ([]:LL))],1,[]⟩),((Nat.beq ((r12 x0 x1 x2).1) 2),.tuple #[wsl 1,vi 4],⟨[(tb sc0 x2),(tb [.fl .f32] ([]:LL))],1,[]⟩),((Nat.beq ((r12 x0 x1 x2).1) 3),.tuple #[wsl 1,vi 0],⟨[(tb sc0 x2),(tb [.fl .f32] ((r12 x0 x1 x2).2))],1,[]⟩)] :=
 (show _ = w12 x0 x1 x2 from by kernel_rfl).trans
 (show w12 x0 x1 x2 = a12 x0 x1 x2 (r12 x0 x1 x2) from by unfold w12 r12; exact (cond_app (a12 x0 x1 x2) _ rfl (cond_app (a12 x0 x1 x2) _ rfl (cond_app (a12 x0 x1 x2) _ (cond_app (a12 x0 x1 x2) _ rfl (cond_app (a12 x0 x1 x2) _ rfl rfl)) rfl))))
noncomputable def s12 (args:List Value) (s:St):List (Bool×Value×St) :=
 match args,s.h with
 | [.iface f0 .nilIface,.float .f32 x0,.float .f32 x1],[⟨true,some (.tab [.fl .f32,.fl .f32,.fl .f32,.fl .f32,.int .i64] x2)⟩] => if f0 = 0 then [((Nat.beq ((r12 x0 x1 x2).1) 0),.tuple #[wsl 1,vi 1],⟨[(tb sc0 x2),(tb [.fl .f32] ([]:LL))],1,[]⟩),((Nat.beq ((r12 x0 x1 x2).1) 1),.tuple #[wsl 1,vi 2],⟨[(tb sc0 x2),(tb [.fl .f32] ([]:LL))],1,[]⟩),((Nat.beq ((r12 x0 x1 x2).1) 2),.tuple #[wsl 1,vi 4],⟨[(tb sc0 x2),(tb [.fl .f32] ([]:LL))],1,[]⟩),((Nat.beq ((r12 x0 x1 x2).1) 3),.tuple #[wsl 1,vi 0],⟨[(tb sc0 x2),(tb [.fl .f32] ((r12 x0 x1 x2).2))],1,[]⟩)] else T29 12 args s
 | _,_ => T29 12 args s
noncomputable def T30:CallF := addF T29 12 s12
theorem ok30:CfOk Try.prog T30 := by
  refine cfOk_add ok29 fun args s r s' h1 h2 h3 => ?_
  unfold s12 at h3; split at h3
  · rename_i h; split at h3
    · rename_i hc; obtain ⟨rfl⟩ := hc; exact callOk ok29 Try.func12 h1 h2 h (lfOkF_no _ _).body (e12 _ _ _) rfl h3
    · exact ok29 _ _ _ _ _ h1 h2 h3
  · exact ok29 _ _ _ _ _ h1 h2 h3

noncomputable def r126 (x0:Nat):Bool :=
 ((!feq .f64 x0 x0))
noncomputable def a126 (x0:Nat) (p:Bool):Res := firstT [(true,.bool p,st0)]
noncomputable def w126 (x0:Nat):Res :=
 (a126 x0 ((!feq .f64 x0 x0)))
theorem e126 (x0:Nat):evFn Try.prog ext T30 noL 200 Try.f126 [.float .f64 x0] st0 = firstT [(true,.bool (r126 x0),st0)] :=
 (show _ = w126 x0 from by kernel_rfl).trans
 (show w126 x0 = a126 x0 (r126 x0) from by unfold w126 r126; exact rfl)
noncomputable def s126 (args:List Value) (s:St):List (Bool×Value×St) :=
 match args,s.h with
 | [.float .f64 x0],[] => [(true,.bool (r126 x0),st0)]
 | _,_ => T30 126 args s
noncomputable def T31:CallF := addF T30 126 s126
theorem ok31:CfOk Try.prog T31 := by
  refine cfOk_add ok30 fun args s r s' h1 h2 h3 => ?_
  unfold s126 at h3; split at h3
  · rename_i h; exact callOk ok30 Try.func126 h1 h2 h (lfOkF_no _ _).body (e126 _) rfl h3
  · exact ok30 _ _ _ _ _ h1 h2 h3

noncomputable def r162 (x0:Nat):Nat :=
 cond (!isN .f64 x0) ((Int.toNat (bits .andNot .u64 ((x0:Nat):Int) 9223372036854775808))) (9221120237041090560)
noncomputable def a162 (x0:Nat) (p:Nat):Res := firstT [(true,.float .f64 p,st0)]
noncomputable def w162 (x0:Nat):Res :=
 (cond (!isN .f64 x0)
 (a162 x0 ((Int.toNat (bits .andNot .u64 ((x0:Nat):Int) 9223372036854775808))))
 (a162 x0 (9221120237041090560)))
theorem e162 (x0:Nat):evFn Try.prog ext T31 noL 200 Try.f162 [.float .f64 x0] st0 = firstT [(true,.float .f64 (r162 x0),st0)] :=
 (show _ = w162 x0 from by kernel_rfl).trans
 (show w162 x0 = a162 x0 (r162 x0) from by unfold w162 r162; exact (cond_app (a162 x0) _ rfl rfl))
noncomputable def s162 (args:List Value) (s:St):List (Bool×Value×St) :=
 match args,s.h with
 | [.float .f64 x0],[] => [(true,.float .f64 (r162 x0),st0)]
 | _,_ => T31 162 args s
noncomputable def T32:CallF := addF T31 162 s162
theorem ok32:CfOk Try.prog T32 := by
  refine cfOk_add ok31 fun args s r s' h1 h2 h3 => ?_
  unfold s162 at h3; split at h3
  · rename_i h; exact callOk ok31 Try.func162 h1 h2 h (lfOkF_no _ _).body (e162 _) rfl h3
  · exact ok31 _ _ _ _ _ h1 h2 h3

noncomputable def r127 (x0:Nat) (x1:Int):Bool :=
 cond ((x1:Int) == 0) ((fgt .f64 (r162 x0) 9218868437227405311)) (cond (decide ((x1:Int) < 0)) ((fgt .f64 (fneg .f64 x0) 9218868437227405311)) ((fgt .f64 x0 9218868437227405311)))
noncomputable def a127 (x0:Nat) (x1:Int) (p:Bool):Res := firstT [(true,.bool p,st0)]
noncomputable def w127 (x0:Nat) (x1:Int):Res :=
 (cond ((x1:Int) == 0)
 (a127 x0 x1 ((fgt .f64 (r162 x0) 9218868437227405311)))
 (cond (decide ((x1:Int) < 0)) (a127 x0 x1 ((fgt .f64 (fneg .f64 x0) 9218868437227405311))) (a127 x0 x1 ((fgt .f64 x0 9218868437227405311)))))
theorem e127 (x0:Nat) (x1:Int):evFn Try.prog ext T32 noL 200 Try.f127 [.float .f64 x0,vi x1] st0 = firstT [(true,.bool (r127 x0 x1),st0)] :=
 (show _ = w127 x0 x1 from by kernel_rfl).trans
 (show w127 x0 x1 = a127 x0 x1 (r127 x0 x1) from by unfold w127 r127; exact (cond_app (a127 x0 x1) _ rfl (cond_app (a127 x0 x1) _ rfl rfl)))
noncomputable def s127 (args:List Value) (s:St):List (Bool×Value×St) :=
 match args,s.h with
 | [.float .f64 x0,.int .i64 x1],[] => [(true,.bool (r127 x0 x1),st0)]
 | _,_ => T32 127 args s
noncomputable def T33:CallF := addF T32 127 s127
theorem ok33:CfOk Try.prog T33 := by
  refine cfOk_add ok32 fun args s r s' h1 h2 h3 => ?_
  unfold s127 at h3; split at h3
  · rename_i h; exact callOk ok32 Try.func127 h1 h2 h (lfOkF_no _ _).body (e127 _ _) rfl h3
  · exact ok32 _ _ _ _ _ h1 h2 h3

noncomputable def r59l0 (x0:Nat):Unit :=
 ()
noncomputable def a59l0 (x0:Nat) (p:Unit):Option (Fin'×List Value×St) := firstT ([(true,.exit 0,[Y],⟨[(tb [.fl .f32] ([[((x0:Nat):Int)]]:LL))],1,[]⟩)].map fun (b,x) => (b,(x.1,frameOf 20 [2] x.2.1,x.2.2)))
noncomputable def w59l0 (x0:Nat):Option (Fin'×List Value×St) :=
 (a59l0 x0 ())
theorem e59l0 (x0:Nat):evC Try.prog ext T33 noL 200 (loopN Try.f59 0) (loopTail ([5,6,7],[]) [2] [] (sumK 20 [5,6,7] [2] noQ)) (frameOf 20 [5,6,7] [.slice (some ⟨0,0,some 0⟩) 1 1,vi 1,vi 1]) ⟨[(tb [.fl .f32] ([[((x0:Nat):Int)]]:LL))],1,[]⟩ = firstT ([(true,.exit 0,[Y],⟨[(tb [.fl .f32] ([[((x0:Nat):Int)]]:LL))],1,[]⟩)].map fun (b,x) => (b,(x.1,frameOf 20 [2] x.2.1,x.2.2))) :=
 (show _ = w59l0 x0 from by kernel_rfl).trans
 (show w59l0 x0 = a59l0 x0 (r59l0 x0) from by unfold w59l0 r59l0; exact rfl)
noncomputable def Q59l0:SumK := fun vals s =>
 match vals,s.h with
 | [.slice (some ⟨f0,f1,some f2⟩) f3 f4,.int .i64 f5,.int .i64 f6],[⟨true,some (.tab [.fl .f32] [[.ofNat x0]])⟩] => if f0 = 0 ∧ f1 = 0 ∧ f2 = 0 ∧ f3 = 1 ∧ f4 = 1 ∧ f5 = 1 ∧ f6 = 1 then [(true,.exit 0,[Y],⟨[(tb [.fl .f32] ([[((x0:Nat):Int)]]:LL))],1,[]⟩)] else noQ vals s
 | _,_ => noQ vals s
theorem qok59l0:SumKOk Try.prog (loopN Try.f59 0) 20 [5,6,7] [2] Q59l0 := by
  intro vals s x h1 h2 h3
  unfold Q59l0 at h3; split at h3
  · rename_i h; split at h3
    · rename_i hc; obtain ⟨rfl,rfl,rfl,rfl,rfl,rfl,rfl⟩ := hc; exact sum_step ok33 extOk mixed ((lfOkF_no _ _).inner (by kernel_rfl)) noQ_ok h1 h2 h (e59l0 _) rfl h3
    · exact noQ_ok _ _ _ h1 h2 h3
  · exact noQ_ok _ _ _ h1 h2 h3
noncomputable def L59_1:LoopT := addL noL 3 ([5,6,7],[]) (sumK 20 [5,6,7] [2] Q59l0)
theorem lok59_1:LfOkF Try.prog L59_1 Try.f59 := lfOkF_add (lfOkF_no _ _) qok59l0 (by kernel_rfl) (by kernel_rfl) (by kernel_rfl)

noncomputable def r59l0b (x0:Nat):Nat :=
 cond (r126 (widen x0)) (0) (cond (r127 (widen x0) 0) (0) (1))
noncomputable def a59l0b (x0:Nat) (p:Nat):Option (Fin'×List Value×St) := firstT ([((Nat.beq p 0),.ret,[.bool false],⟨[(tb [.fl .f32] ([[((x0:Nat):Int)]]:LL))],1,[]⟩),(true,.exit 0,[Y],⟨[(tb [.fl .f32] ([[((x0:Nat):Int)]]:LL))],1,[]⟩)].map fun (b,x) => (b,(x.1,frameOf 20 [2] x.2.1,x.2.2)))
noncomputable def w59l0b (x0:Nat):Option (Fin'×List Value×St) :=
 (cond (r126 (widen x0))
 (a59l0b x0 (0))
 (cond (r127 (widen x0) 0) (a59l0b x0 (0)) (a59l0b x0 (1))))
theorem e59l0b (x0:Nat):evC Try.prog ext T33 L59_1 200 (loopN Try.f59 0) (loopTail ([5,6,7],[]) [2] [] (sumK 20 [5,6,7] [2] Q59l0)) (frameOf 20 [5,6,7] [.slice (some ⟨0,0,some 0⟩) 1 1,vi 1,vi 0]) ⟨[(tb [.fl .f32] ([[((x0:Nat):Int)]]:LL))],1,[]⟩ = firstT ([((Nat.beq (r59l0b x0) 0),.ret,[.bool false],⟨[(tb [.fl .f32] ([[((x0:Nat):Int)]]:LL))],1,[]⟩),(true,.exit 0,[Y],⟨[(tb [.fl .f32] ([[((x0:Nat):Int)]]:LL))],1,[]⟩)].map fun (b,x) => (b,(x.1,frameOf 20 [2] x.2.1,x.2.2))) :=
 (show _ = w59l0b x0 from by kernel_rfl).trans
 (show w59l0b x0 = a59l0b x0 (r59l0b x0) from by unfold w59l0b r59l0b; exact (cond_app (a59l0b x0) _ rfl (cond_app (a59l0b x0) _ rfl rfl)))
noncomputable def Q59l0b:SumK := fun vals s =>
 match vals,s.h with
 | [.slice (some ⟨f0,f1,some f2⟩) f3 f4,.int .i64 f5,.int .i64 f6],[⟨true,some (.tab [.fl .f32] [[.ofNat x0]])⟩] => if f0 = 0 ∧ f1 = 0 ∧ f2 = 0 ∧ f3 = 1 ∧ f4 = 1 ∧ f5 = 1 ∧ f6 = 0 then [((Nat.beq (r59l0b x0) 0),.ret,[.bool false],⟨[(tb [.fl .f32] ([[((x0:Nat):Int)]]:LL))],1,[]⟩),(true,.exit 0,[Y],⟨[(tb [.fl .f32] ([[((x0:Nat):Int)]]:LL))],1,[]⟩)] else Q59l0 vals s
 | _,_ => Q59l0 vals s
theorem qok59l0b:SumKOk Try.prog (loopN Try.f59 0) 20 [5,6,7] [2] Q59l0b := by
  intro vals s x h1 h2 h3
  unfold Q59l0b at h3; split at h3
  · rename_i h; split at h3
    · rename_i hc; obtain ⟨rfl,rfl,rfl,rfl,rfl,rfl,rfl⟩ := hc; exact sum_step ok33 extOk mixed (lok59_1.inner (by kernel_rfl)) qok59l0 h1 h2 h (e59l0b _) rfl h3
    · exact qok59l0 _ _ _ h1 h2 h3
  · exact qok59l0 _ _ _ h1 h2 h3
noncomputable def L59_2:LoopT := addL L59_1 3 ([5,6,7],[]) (sumK 20 [5,6,7] [2] Q59l0b)
theorem lok59_2:LfOkF Try.prog L59_2 Try.f59 := lfOkF_add lok59_1 qok59l0b (by kernel_rfl) (by kernel_rfl) (by kernel_rfl)

noncomputable def r59 (x0:Nat):Bool :=
 cond (Nat.beq (r59l0b x0) 0) (false) (true)
noncomputable def a59 (x0:Nat) (p:Bool):Res := firstT [(true,.bool p,⟨[(tb [.fl .f32] ([[((x0:Nat):Int)]]:LL))],1,[]⟩)]
noncomputable def w59 (x0:Nat):Res :=
 (cond (Nat.beq (r59l0b x0) 0)
 (a59 x0 (false))
 (a59 x0 (true)))
theorem e59 (x0:Nat):evFn Try.prog ext T33 L59_2 200 Try.f59 [.slice (some ⟨0,0,some 0⟩) 1 1] ⟨[(tb [.fl .f32] ([[((x0:Nat):Int)]]:LL))],1,[]⟩ = firstT [(true,.bool (r59 x0),⟨[(tb [.fl .f32] ([[((x0:Nat):Int)]]:LL))],1,[]⟩)] :=
 (show _ = w59 x0 from by kernel_rfl).trans
 (show w59 x0 = a59 x0 (r59 x0) from by unfold w59 r59; exact (cond_app (a59 x0) _ rfl rfl))
noncomputable def s59 (args:List Value) (s:St):List (Bool×Value×St) :=
 match args,s.h with
 | [.slice (some ⟨f0,f1,some f2⟩) f3 f4],[⟨true,some (.tab [.fl .f32] [[.ofNat x0]])⟩] => if f0 = 0 ∧ f1 = 0 ∧ f2 = 0 ∧ f3 = 1 ∧ f4 = 1 then [(true,.bool (r59 x0),⟨[(tb [.fl .f32] ([[((x0:Nat):Int)]]:LL))],1,[]⟩)] else T33 59 args s
 | _,_ => T33 59 args s
noncomputable def T34:CallF := addF T33 59 s59
theorem ok34:CfOk Try.prog T34 := by
  refine cfOk_add ok33 fun args s r s' h1 h2 h3 => ?_
  unfold s59 at h3; split at h3
  · rename_i h; split at h3
    · rename_i hc; obtain ⟨rfl,rfl,rfl,rfl,rfl⟩ := hc; exact callOk ok33 Try.func59 h1 h2 h lok59_2.body (e59 _) rfl h3
    · exact ok33 _ _ _ _ _ h1 h2 h3
  · exact ok33 _ _ _ _ _ h1 h2 h3

noncomputable def r142 (x0:Nat):Bool :=
 cond (r59 x0) (cond (fgt .f32 x0 0 || feq .f32 x0 0) ((((Int.fdiv ((x0:Nat):Int) (2 ^ (min (31:Int).toNat (IntKind.bits .u32)))):Int) == 0)) (false)) (false)
noncomputable def a142 (x0:Nat) (p:Bool):Res := firstT [(true,.bool p,st0)]
noncomputable def w142 (x0:Nat):Res :=
 (cond (r59 x0)
 (cond (fgt .f32 x0 0 || feq .f32 x0 0) (cond (!isN .f32 x0) (a142 x0 ((((Int.fdiv ((x0:Nat):Int) (2 ^ (min (31:Int).toNat (IntKind.bits .u32)))):Int) == 0))) none) (a142 x0 (false)))
 (a142 x0 (false)))
theorem e142 (x0:Nat):evFn Try.prog ext T34 noL 200 Try.f142 [vf x0] st0 = firstT [(true,.bool (r142 x0),st0)] :=
 (show _ = w142 x0 from by kernel_rfl).trans
 (show w142 x0 = a142 x0 (r142 x0) from by unfold w142 r142; exact (cond_both (a142 x0) _ (fun h0 => (cond_both (a142 x0) _ (fun h1 => (cond_t (ev_not1 (ev_or h1 (fun hq0 => (ev_gt1 hq0)) (fun hq0 => (ev_eq1 hq0)))) rfl)) (fun h1 => rfl))) (fun h0 => rfl)))
noncomputable def s142 (args:List Value) (s:St):List (Bool×Value×St) :=
 match args,s.h with
 | [.float .f32 x0],[] => [(true,.bool (r142 x0),st0)]
 | _,_ => T34 142 args s
noncomputable def T35:CallF := addF T34 142 s142
theorem ok35:CfOk Try.prog T35 := by
  refine cfOk_add ok34 fun args s r s' h1 h2 h3 => ?_
  unfold s142 at h3; split at h3
  · rename_i h; exact callOk ok34 Try.func142 h1 h2 h (lfOkF_no _ _).body (e142 _) rfl h3
  · exact ok34 _ _ _ _ _ h1 h2 h3

noncomputable def r146 (x0 x1 x2:Nat):Bool :=
 cond (fgt .f32 x0 x1 || feq .f32 x0 x1) ((flt .f32 x0 x2 || feq .f32 x0 x2)) (false)
noncomputable def a146 (x0 x1 x2:Nat) (p:Bool):Res := firstT [(true,.bool p,st0)]
noncomputable def w146 (x0 x1 x2:Nat):Res :=
 (cond (fgt .f32 x0 x1 || feq .f32 x0 x1)
 (a146 x0 x1 x2 ((flt .f32 x0 x2 || feq .f32 x0 x2)))
 (a146 x0 x1 x2 (false)))
theorem e146 (x0 x1 x2:Nat):evFn Try.prog ext T35 noL 200 Try.f146 [vf x0,vf x1,vf x2] st0 = firstT [(true,.bool (r146 x0 x1 x2),st0)] :=
 (show _ = w146 x0 x1 x2 from by kernel_rfl).trans
 (show w146 x0 x1 x2 = a146 x0 x1 x2 (r146 x0 x1 x2) from by unfold w146 r146; exact (cond_app (a146 x0 x1 x2) _ rfl rfl))
noncomputable def s146 (args:List Value) (s:St):List (Bool×Value×St) :=
 match args,s.h with
 | [.float .f32 x0,.float .f32 x1,.float .f32 x2],[] => [(true,.bool (r146 x0 x1 x2),st0)]
 | _,_ => T35 146 args s
noncomputable def T36:CallF := addF T35 146 s146
theorem ok36:CfOk Try.prog T36 := by
  refine cfOk_add ok35 fun args s r s' h1 h2 h3 => ?_
  unfold s146 at h3; split at h3
  · rename_i h; exact callOk ok35 Try.func146 h1 h2 h (lfOkF_no _ _).body (e146 _ _ _) rfl h3
  · exact ok35 _ _ _ _ _ h1 h2 h3

noncomputable def r78 (x0:Nat):Bool :=
 cond (r142 x0) ((flt .f32 x0 1065353216 || feq .f32 x0 1065353216)) (false)
noncomputable def a78 (x0:Nat) (p:Bool):Res := firstT [(true,.bool p,st0)]
noncomputable def w78 (x0:Nat):Res :=
 (cond (r142 x0)
 (a78 x0 ((flt .f32 x0 1065353216 || feq .f32 x0 1065353216)))
 (a78 x0 (false)))
theorem e78 (x0:Nat):evFn Try.prog ext T36 noL 200 Try.f78 [vf x0] st0 = firstT [(true,.bool (r78 x0),st0)] :=
 (show _ = w78 x0 from by kernel_rfl).trans
 (show w78 x0 = a78 x0 (r78 x0) from by unfold w78 r78; exact (cond_app (a78 x0) _ rfl rfl))
noncomputable def s78 (args:List Value) (s:St):List (Bool×Value×St) :=
 match args,s.h with
 | [.float .f32 x0],[] => [(true,.bool (r78 x0),st0)]
 | _,_ => T36 78 args s
noncomputable def T37:CallF := addF T36 78 s78
theorem ok37:CfOk Try.prog T37 := by
  refine cfOk_add ok36 fun args s r s' h1 h2 h3 => ?_
  unfold s78 at h3; split at h3
  · rename_i h; exact callOk ok36 Try.func78 h1 h2 h (lfOkF_no _ _).body (e78 _) rfl h3
  · exact ok36 _ _ _ _ _ h1 h2 h3

noncomputable def r107 (x0 x1 x2 x3:Nat) (x4:Int):Bool :=
 cond (r142 x0) (cond (r146 x0 1031798784 1106247680) (cond (r142 x1) (cond (r146 x1 1015021568 1082130432) (cond (r146 x2 3262119936 1153138688) ((r78 x3)) (false)) (false)) (false)) (false)) (false)
noncomputable def a107 (x0 x1 x2 x3:Nat) (x4:Int) (p:Bool):Res := firstT [(true,.bool p,st0)]
noncomputable def w107 (x0 x1 x2 x3:Nat) (x4:Int):Res :=
 (cond (r142 x0)
 (cond (r146 x0 1031798784 1106247680) (cond (r142 x1) (cond (r146 x1 1015021568 1082130432) (cond (r146 x2 3262119936 1153138688) (a107 x0 x1 x2 x3 x4 ((r78 x3))) (a107 x0 x1 x2 x3 x4 (false))) (a107 x0 x1 x2 x3 x4 (false))) (a107 x0 x1 x2 x3 x4 (false))) (a107 x0 x1 x2 x3 x4 (false)))
 (a107 x0 x1 x2 x3 x4 (false)))
theorem e107 (x0 x1 x2 x3:Nat) (x4:Int):evFn Try.prog ext T37 noL 200 Try.f107 [.agg #[vf x0,vf x1,vf x2,vf x3,vi x4]] st0 = firstT [(true,.bool (r107 x0 x1 x2 x3 x4),st0)] :=
 (show _ = w107 x0 x1 x2 x3 x4 from by kernel_rfl).trans
 (show w107 x0 x1 x2 x3 x4 = a107 x0 x1 x2 x3 x4 (r107 x0 x1 x2 x3 x4) from by unfold w107 r107; exact (cond_app (a107 x0 x1 x2 x3 x4) _ (cond_app (a107 x0 x1 x2 x3 x4) _ (cond_app (a107 x0 x1 x2 x3 x4) _ (cond_app (a107 x0 x1 x2 x3 x4) _ (cond_app (a107 x0 x1 x2 x3 x4) _ rfl rfl) rfl) rfl) rfl) rfl))
noncomputable def s107 (args:List Value) (s:St):List (Bool×Value×St) :=
 match args,s.h with
 | [.agg ⟨[.float .f32 x0,.float .f32 x1,.float .f32 x2,.float .f32 x3,.int .i64 x4]⟩],[] => [(true,.bool (r107 x0 x1 x2 x3 x4),st0)]
 | _,_ => T37 107 args s
noncomputable def T38:CallF := addF T37 107 s107
theorem ok38:CfOk Try.prog T38 := by
  refine cfOk_add ok37 fun args s r s' h1 h2 h3 => ?_
  unfold s107 at h3; split at h3
  · rename_i h; exact callOk ok37 Try.func107 h1 h2 h (lfOkF_no _ _).body (e107 _ _ _ _ _) rfl h3
  · exact ok37 _ _ _ _ _ h1 h2 h3

noncomputable def b45l0 (ih:Int→Int→LL→Nat) (x0 x1:Int) (x2:LL):Nat :=
 let c164 := (r107 (Int.toNat ((x2.getD (Int.toNat x1) []).getD 0 0)) (Int.toNat ((x2.getD (Int.toNat x1) []).getD 1 0)) (Int.toNat ((x2.getD (Int.toNat x1) []).getD 2 0)) (Int.toNat ((x2.getD (Int.toNat x1) []).getD 3 0)) ((x2.getD (Int.toNat x1) []).getD 4 0))
 cond (decide ((x1:Int) < x0)) (cond ((decide ((0:Int) ≤ x1)) && (Nat.blt (Int.toNat x1) x2.length)) (cond (!c164) (0) (cond ((((x2.getD (Int.toNat x1) []).getD 4 0):Int) == (-1)) (ih x0 (IntKind.i64.wrap (x1 + 1)) x2) (cond (decide ((((x2.getD (Int.toNat x1) []).getD 4 0):Int) < 0)) (0) (cond (decide ((((x2.getD (Int.toNat x1) []).getD 4 0):Int) ≥ ((x2.length:Nat):Int))) (0) (cond ((((x2.getD (Int.toNat x1) []).getD 4 0):Int) == x1) (0) (cond ((decide ((0:Int) ≤ ((x2.getD (Int.toNat x1) []).getD 4 0))) && (Nat.blt (Int.toNat ((x2.getD (Int.toNat x1) []).getD 4 0)) x2.length)) (cond ((((x2.getD (Int.toNat ((x2.getD (Int.toNat x1) []).getD 4 0)) []).getD 4 0):Int) != (-1)) (0) (ih x0 (IntKind.i64.wrap (x1 + 1)) x2)) (2))))))) (2)) (1)
noncomputable def r45l0:Nat→Int→Int→LL→Nat
 | 0 => fun _ _ _ => (2)
 | m + 1 => b45l0 (r45l0 m)
noncomputable def a45l0 (x0 x1:Int) (x2:LL) (p:Nat):Option (Fin'×List Value×St) := firstT ([((Nat.beq p 0),.ret,[.bool false],⟨[(tb sc0 x2)],1,[]⟩),((Nat.beq p 1),.exit 0,[Y],⟨[(tb sc0 x2)],1,[]⟩)].map fun (b,x) => (b,(x.1,frameOf 52 [2] x.2.1,x.2.2)))
noncomputable def u45l0 (x0 x1:Int) (x2:LL) (p:Nat):Option (Fin'×List Value×St) := alts ([((Nat.beq p 0),.ret,[.bool false],⟨[(tb sc0 x2)],1,[]⟩),((Nat.beq p 1),.exit 0,[Y],⟨[(tb sc0 x2)],1,[]⟩)].map fun (b,x) => (b,(x.1,frameOf 52 [2] x.2.1,x.2.2))) some
theorem v45l0 (x0 x1:Int) (x2:LL) (p:Nat):u45l0 x0 x1 x2 p = a45l0 x0 x1 x2 p := alts_first _
noncomputable def q45l0 (m:Nat):SumK := fun vals s =>
 match vals,s.h with
 | [.iface f0 .nilIface,.iface f1 .nilIface,.int .i64 x0,.int .i64 x1],[⟨true,some (.tab [.fl .f32,.fl .f32,.fl .f32,.fl .f32,.int .i64] x2)⟩] => if f0 = 0 ∧ f1 = 0 then [((Nat.beq (r45l0 m x0 x1 x2) 0),.ret,[.bool false],⟨[(tb sc0 x2)],1,[]⟩),((Nat.beq (r45l0 m x0 x1 x2) 1),.exit 0,[Y],⟨[(tb sc0 x2)],1,[]⟩)] else noQ vals s
 | _,_ => noQ vals s
noncomputable def w45l0 (ih:Int→Int→LL→Nat) (x0 x1:Int) (x2:LL):Option (Fin'×List Value×St) :=
 let c164 := (r107 (Int.toNat ((x2.getD (Int.toNat x1) []).getD 0 0)) (Int.toNat ((x2.getD (Int.toNat x1) []).getD 1 0)) (Int.toNat ((x2.getD (Int.toNat x1) []).getD 2 0)) (Int.toNat ((x2.getD (Int.toNat x1) []).getD 3 0)) ((x2.getD (Int.toNat x1) []).getD 4 0))
 (cond (decide ((x1:Int) < x0))
 (cond ((decide ((0:Int) ≤ x1)) && (Nat.blt (Int.toNat x1) x2.length)) (cond (Nat.blt (Int.toNat x1) x2.length) (cond (!c164) (a45l0 x0 x1 x2 (0)) (cond ((((x2.getD (Int.toNat x1) []).getD 4 0):Int) == (-1)) (u45l0 x0 x1 x2 (ih x0 (IntKind.i64.wrap (x1 + 1)) x2)) (cond (decide ((((x2.getD (Int.toNat x1) []).getD 4 0):Int) < 0)) (a45l0 x0 x1 x2 (0)) (cond (decide ((((x2.getD (Int.toNat x1) []).getD 4 0):Int) ≥ ((x2.length:Nat):Int))) (a45l0 x0 x1 x2 (0)) (cond ((((x2.getD (Int.toNat x1) []).getD 4 0):Int) == x1) (a45l0 x0 x1 x2 (0)) (cond ((decide ((0:Int) ≤ ((x2.getD (Int.toNat x1) []).getD 4 0))) && (Nat.blt (Int.toNat ((x2.getD (Int.toNat x1) []).getD 4 0)) x2.length)) (cond (Nat.blt (Int.toNat ((x2.getD (Int.toNat x1) []).getD 4 0)) x2.length) (cond ((((x2.getD (Int.toNat ((x2.getD (Int.toNat x1) []).getD 4 0)) []).getD 4 0):Int) != (-1)) (a45l0 x0 x1 x2 (0)) (u45l0 x0 x1 x2 (ih x0 (IntKind.i64.wrap (x1 + 1)) x2))) none) none)))))) none) none)
 (a45l0 x0 x1 x2 (1)))
theorem e45l0 (m:Nat) (x0 x1:Int) (x2:LL):evC Try.prog ext T38 noL 200 (loopN Try.f45 0) (loopTail ([0,13,14,15],[]) [2] [] (sumK 52 [0,13,14,15] [2] (q45l0 m))) (frameOf 52 [0,13,14,15] [wsl 0,wsl 0,vi x0,vi x1]) ⟨[(tb sc0 x2)],1,[]⟩ = firstT ([((Nat.beq (r45l0 (m + 1) x0 x1 x2) 0),.ret,[.bool false],⟨[(tb sc0 x2)],1,[]⟩),((Nat.beq (r45l0 (m + 1) x0 x1 x2) 1),.exit 0,[Y],⟨[(tb sc0 x2)],1,[]⟩)].map fun (b,x) => (b,(x.1,frameOf 52 [2] x.2.1,x.2.2))) :=
 (show _ = w45l0 (r45l0 m) x0 x1 x2 from by kernel_rfl).trans
 (show w45l0 (r45l0 m) x0 x1 x2 = a45l0 x0 x1 x2 (r45l0 (m + 1) x0 x1 x2) from by unfold w45l0; show _ = a45l0 x0 x1 x2 (b45l0 (r45l0 m) x0 x1 x2); unfold b45l0; exact (cond_both (a45l0 x0 x1 x2) _ (fun h0 => (cond_both (a45l0 x0 x1 x2) _ (fun h1 => (cond_t (ev_and2 h1) (cond_both (a45l0 x0 x1 x2) _ (fun h2 => rfl) (fun h2 => (cond_both (a45l0 x0 x1 x2) _ (fun h3 => (v45l0 x0 x1 x2 ((r45l0 m) x0 (IntKind.i64.wrap (x1 + 1)) x2))) (fun h3 => (cond_both (a45l0 x0 x1 x2) _ (fun h4 => rfl) (fun h4 => (cond_both (a45l0 x0 x1 x2) _ (fun h5 => rfl) (fun h5 => (cond_both (a45l0 x0 x1 x2) _ (fun h6 => rfl) (fun h6 => (cond_both (a45l0 x0 x1 x2) _ (fun h7 => (cond_t (ev_and2 h7) (cond_app (a45l0 x0 x1 x2) _ rfl (v45l0 x0 x1 x2 ((r45l0 m) x0 (IntKind.i64.wrap (x1 + 1)) x2))))) (fun h7 => rfl)))))))))))))) (fun h1 => rfl))) (fun h0 => rfl)))
theorem qm45l0:∀ m,SumKOk Try.prog (loopN Try.f45 0) 52 [0,13,14,15] [2] (q45l0 m) := by
  intro m
  induction m with
  | zero =>
    intro vals s x h1 h2 h3
    unfold q45l0 at h3; split at h3
    · rename_i h; split at h3
      · rename_i hc; obtain ⟨rfl,rfl⟩ := hc; exact absurd h3 (by simp [r45l0,firstT,Nat.beq])
      · exact noQ_ok _ _ _ h1 h2 h3
    · exact noQ_ok _ _ _ h1 h2 h3
  | succ m ih =>
    intro vals s x h1 h2 h3
    unfold q45l0 at h3; split at h3
    · rename_i h; split at h3
      · rename_i hc; obtain ⟨rfl,rfl⟩ := hc; exact sum_step ok38 extOk mixed ((lfOkF_no _ _).inner (by kernel_rfl)) ih h1 h2 h (e45l0 m _ _ _) rfl h3
      · exact noQ_ok _ _ _ h1 h2 h3
    · exact noQ_ok _ _ _ h1 h2 h3
noncomputable def Q45l0:SumK := fun vals s => q45l0 (fuelOf vals s.h) vals s
theorem qok45l0:SumKOk Try.prog (loopN Try.f45 0) 52 [0,13,14,15] [2] Q45l0 := fuel_ok qm45l0 fuelOf
noncomputable def L45_1:LoopT := addL noL 5 ([0,13,14,15],[]) (sumK 52 [0,13,14,15] [2] Q45l0)
theorem lok45_1:LfOkF Try.prog L45_1 Try.f45 := lfOkF_add (lfOkF_no _ _) qok45l0 (by kernel_rfl) (by kernel_rfl) (by kernel_rfl)

noncomputable def r45 (x0:LL):Nat×Bool :=
 cond (decide ((((x0.length:Nat):Int):Int) < 1)) (0,false) (cond (decide ((((x0.length:Nat):Int):Int) > 6)) (0,false) (cond (Nat.beq (r45l0 (1000 + x0.length) ((x0.length:Nat):Int) 0 x0) 0) (0,false) (cond (Nat.beq (r45l0 (1000 + x0.length) ((x0.length:Nat):Int) 0 x0) 1) (0,true) (1,false))))
noncomputable def a45 (x0:LL) (p:Nat×Bool):Res := firstT [((Nat.beq (p.1) 0),.bool (p.2),⟨[(tb sc0 x0)],1,[]⟩)]
noncomputable def w45 (x0:LL):Res :=
 (cond (decide ((((x0.length:Nat):Int):Int) < 1))
 (a45 x0 (0,false))
 (cond (decide ((((x0.length:Nat):Int):Int) > 6)) (a45 x0 (0,false)) (cond (Nat.beq (r45l0 (1000 + x0.length) ((x0.length:Nat):Int) 0 x0) 0) (a45 x0 (0,false)) (cond (Nat.beq (r45l0 (1000 + x0.length) ((x0.length:Nat):Int) 0 x0) 1) (a45 x0 (0,true)) none))))
theorem e45 (x0:LL):evFn Try.prog ext T38 L45_1 200 Try.f45 [wsl 0] ⟨[(tb sc0 x0)],1,[]⟩ = firstT [((Nat.beq ((r45 x0).1) 0),.bool ((r45 x0).2),⟨[(tb sc0 x0)],1,[]⟩)] :=
 (show _ = w45 x0 from by kernel_rfl).trans
 (show w45 x0 = a45 x0 (r45 x0) from by unfold w45 r45; exact (cond_app (a45 x0) _ rfl (cond_app (a45 x0) _ rfl (cond_app (a45 x0) _ rfl (cond_app (a45 x0) _ rfl rfl)))))
noncomputable def s45 (args:List Value) (s:St):List (Bool×Value×St) :=
 match args,s.h with
 | [.iface f0 .nilIface],[⟨true,some (.tab [.fl .f32,.fl .f32,.fl .f32,.fl .f32,.int .i64] x0)⟩] => if f0 = 0 then [((Nat.beq ((r45 x0).1) 0),.bool ((r45 x0).2),⟨[(tb sc0 x0)],1,[]⟩)] else T38 45 args s
 | _,_ => T38 45 args s
noncomputable def T39:CallF := addF T38 45 s45
theorem ok39:CfOk Try.prog T39 := by
  refine cfOk_add ok38 fun args s r s' h1 h2 h3 => ?_
  unfold s45 at h3; split at h3
  · rename_i h; split at h3
    · rename_i hc; obtain ⟨rfl⟩ := hc; exact callOk ok38 Try.func45 h1 h2 h lok45_1.body (e45 _) rfl h3
    · exact ok38 _ _ _ _ _ h1 h2 h3
  · exact ok38 _ _ _ _ _ h1 h2 h3

noncomputable def r81 (x0:Nat):Bool :=
 ((r146 x0 3262119936 1114636288))
noncomputable def a81 (x0:Nat) (p:Bool):Res := firstT [(true,.bool p,st0)]
noncomputable def w81 (x0:Nat):Res :=
 (a81 x0 ((r146 x0 3262119936 1114636288)))
theorem e81 (x0:Nat):evFn Try.prog ext T39 noL 200 Try.f81 [vf x0] st0 = firstT [(true,.bool (r81 x0),st0)] :=
 (show _ = w81 x0 from by kernel_rfl).trans
 (show w81 x0 = a81 x0 (r81 x0) from by unfold w81 r81; exact rfl)
noncomputable def s81 (args:List Value) (s:St):List (Bool×Value×St) :=
 match args,s.h with
 | [.float .f32 x0],[] => [(true,.bool (r81 x0),st0)]
 | _,_ => T39 81 args s
noncomputable def T40:CallF := addF T39 81 s81
theorem ok40:CfOk Try.prog T40 := by
  refine cfOk_add ok39 fun args s r s' h1 h2 h3 => ?_
  unfold s81 at h3; split at h3
  · rename_i h; exact callOk ok39 Try.func81 h1 h2 h (lfOkF_no _ _).body (e81 _) rfl h3
  · exact ok39 _ _ _ _ _ h1 h2 h3

noncomputable def r124 (x0:Nat):Bool :=
 ((r146 x0 3296329728 1148846080))
noncomputable def a124 (x0:Nat) (p:Bool):Res := firstT [(true,.bool p,st0)]
noncomputable def w124 (x0:Nat):Res :=
 (a124 x0 ((r146 x0 3296329728 1148846080)))
theorem e124 (x0:Nat):evFn Try.prog ext T40 noL 200 Try.f124 [vf x0] st0 = firstT [(true,.bool (r124 x0),st0)] :=
 (show _ = w124 x0 from by kernel_rfl).trans
 (show w124 x0 = a124 x0 (r124 x0) from by unfold w124 r124; exact rfl)
noncomputable def s124 (args:List Value) (s:St):List (Bool×Value×St) :=
 match args,s.h with
 | [.float .f32 x0],[] => [(true,.bool (r124 x0),st0)]
 | _,_ => T40 124 args s
noncomputable def T41:CallF := addF T40 124 s124
theorem ok41:CfOk Try.prog T41 := by
  refine cfOk_add ok40 fun args s r s' h1 h2 h3 => ?_
  unfold s124 at h3; split at h3
  · rename_i h; exact callOk ok40 Try.func124 h1 h2 h (lfOkF_no _ _).body (e124 _) rfl h3
  · exact ok40 _ _ _ _ _ h1 h2 h3

noncomputable def r57 (x0 x1:Nat) (x2:LL):Nat :=
 cond (Nat.beq ((r45 x2).1) 0) (cond (!((r45 x2).2)) (0) (cond (!(r81 x0)) (1) (cond (!(r124 x1)) (1) (2)))) (3)
noncomputable def a57 (x0 x1:Nat) (x2:LL) (p:Nat):Res := firstT [((Nat.beq p 0),vi 1,⟨[(tb sc0 x2)],1,[]⟩),((Nat.beq p 1),vi 2,⟨[(tb sc0 x2)],1,[]⟩),((Nat.beq p 2),vi 0,⟨[(tb sc0 x2)],1,[]⟩)]
noncomputable def w57 (x0 x1:Nat) (x2:LL):Res :=
 (cond (Nat.beq ((r45 x2).1) 0)
 (cond (!((r45 x2).2)) (a57 x0 x1 x2 (0)) (cond (!(r81 x0)) (a57 x0 x1 x2 (1)) (cond (!(r124 x1)) (a57 x0 x1 x2 (1)) (a57 x0 x1 x2 (2)))))
 none)
theorem e57 (x0 x1:Nat) (x2:LL):evFn Try.prog ext T41 noL 200 Try.f57 [wsl 0,vf x0,vf x1] ⟨[(tb sc0 x2)],1,[]⟩ = firstT [((Nat.beq (r57 x0 x1 x2) 0),vi 1,⟨[(tb sc0 x2)],1,[]⟩),((Nat.beq (r57 x0 x1 x2) 1),vi 2,⟨[(tb sc0 x2)],1,[]⟩),((Nat.beq (r57 x0 x1 x2) 2),vi 0,⟨[(tb sc0 x2)],1,[]⟩)] :=
 (show _ = w57 x0 x1 x2 from by kernel_rfl).trans
 (show w57 x0 x1 x2 = a57 x0 x1 x2 (r57 x0 x1 x2) from by unfold w57 r57; exact (cond_app (a57 x0 x1 x2) _ (cond_app (a57 x0 x1 x2) _ rfl (cond_app (a57 x0 x1 x2) _ rfl (cond_app (a57 x0 x1 x2) _ rfl rfl))) rfl))
noncomputable def s57 (args:List Value) (s:St):List (Bool×Value×St) :=
 match args,s.h with
 | [.iface f0 .nilIface,.float .f32 x0,.float .f32 x1],[⟨true,some (.tab [.fl .f32,.fl .f32,.fl .f32,.fl .f32,.int .i64] x2)⟩] => if f0 = 0 then [((Nat.beq (r57 x0 x1 x2) 0),vi 1,⟨[(tb sc0 x2)],1,[]⟩),((Nat.beq (r57 x0 x1 x2) 1),vi 2,⟨[(tb sc0 x2)],1,[]⟩),((Nat.beq (r57 x0 x1 x2) 2),vi 0,⟨[(tb sc0 x2)],1,[]⟩)] else T41 57 args s
 | _,_ => T41 57 args s
noncomputable def T42:CallF := addF T41 57 s57
theorem ok42:CfOk Try.prog T42 := by
  refine cfOk_add ok41 fun args s r s' h1 h2 h3 => ?_
  unfold s57 at h3; split at h3
  · rename_i h; split at h3
    · rename_i hc; obtain ⟨rfl⟩ := hc; exact callOk ok41 Try.func57 h1 h2 h (lfOkF_no _ _).body (e57 _ _ _) rfl h3
    · exact ok41 _ _ _ _ _ h1 h2 h3
  · exact ok41 _ _ _ _ _ h1 h2 h3

noncomputable def b95l0 (ih:Int→Int→LL→Nat) (x0 x1:Int) (x2:LL):Nat :=
 cond (decide ((x1:Int) < x0)) (cond ((decide ((0:Int) ≤ x1)) && (Nat.blt (Int.toNat x1) x2.length)) (cond (!(r146 (Int.toNat ((x2.getD (Int.toNat x1) []).getD 0 0)) 3262119936 1153138688)) (0) (ih x0 (IntKind.i64.wrap (x1 + 1)) x2)) (2)) (1)
noncomputable def r95l0:Nat→Int→Int→LL→Nat
 | 0 => fun _ _ _ => (2)
 | m + 1 => b95l0 (r95l0 m)
noncomputable def a95l0 (x0 x1:Int) (x2:LL) (p:Nat):Option (Fin'×List Value×St) := firstT ([((Nat.beq p 0),.ret,[.bool false],⟨[(tb [.fl .f32] x2)],1,[]⟩),((Nat.beq p 1),.exit 0,[Y],⟨[(tb [.fl .f32] x2)],1,[]⟩)].map fun (b,x) => (b,(x.1,frameOf 22 [4] x.2.1,x.2.2)))
noncomputable def u95l0 (x0 x1:Int) (x2:LL) (p:Nat):Option (Fin'×List Value×St) := alts ([((Nat.beq p 0),.ret,[.bool false],⟨[(tb [.fl .f32] x2)],1,[]⟩),((Nat.beq p 1),.exit 0,[Y],⟨[(tb [.fl .f32] x2)],1,[]⟩)].map fun (b,x) => (b,(x.1,frameOf 22 [4] x.2.1,x.2.2))) some
theorem v95l0 (x0 x1:Int) (x2:LL) (p:Nat):u95l0 x0 x1 x2 p = a95l0 x0 x1 x2 p := alts_first _
noncomputable def q95l0 (m:Nat):SumK := fun vals s =>
 match vals,s.h with
 | [.iface f0 .nilIface,.int .i64 x0,.int .i64 x1],[⟨true,some (.tab [.fl .f32] x2)⟩] => if f0 = 0 then [((Nat.beq (r95l0 m x0 x1 x2) 0),.ret,[.bool false],⟨[(tb [.fl .f32] x2)],1,[]⟩),((Nat.beq (r95l0 m x0 x1 x2) 1),.exit 0,[Y],⟨[(tb [.fl .f32] x2)],1,[]⟩)] else noQ vals s
 | _,_ => noQ vals s
noncomputable def w95l0 (ih:Int→Int→LL→Nat) (x0 x1:Int) (x2:LL):Option (Fin'×List Value×St) :=
 (cond (decide ((x1:Int) < x0))
 (cond ((decide ((0:Int) ≤ x1)) && (Nat.blt (Int.toNat x1) x2.length)) (cond (Nat.blt (Int.toNat x1) x2.length) (cond (!(r146 (Int.toNat ((x2.getD (Int.toNat x1) []).getD 0 0)) 3262119936 1153138688)) (a95l0 x0 x1 x2 (0)) (u95l0 x0 x1 x2 (ih x0 (IntKind.i64.wrap (x1 + 1)) x2))) none) none)
 (a95l0 x0 x1 x2 (1)))
theorem e95l0 (m:Nat) (x0 x1:Int) (x2:LL):evC Try.prog ext T42 noL 200 (loopN Try.f95 0) (loopTail ([12,13,14],[]) [4] [] (sumK 22 [12,13,14] [4] (q95l0 m))) (frameOf 22 [12,13,14] [wsl 0,vi x0,vi x1]) ⟨[(tb [.fl .f32] x2)],1,[]⟩ = firstT ([((Nat.beq (r95l0 (m + 1) x0 x1 x2) 0),.ret,[.bool false],⟨[(tb [.fl .f32] x2)],1,[]⟩),((Nat.beq (r95l0 (m + 1) x0 x1 x2) 1),.exit 0,[Y],⟨[(tb [.fl .f32] x2)],1,[]⟩)].map fun (b,x) => (b,(x.1,frameOf 22 [4] x.2.1,x.2.2))) :=
 (show _ = w95l0 (r95l0 m) x0 x1 x2 from by kernel_rfl).trans
 (show w95l0 (r95l0 m) x0 x1 x2 = a95l0 x0 x1 x2 (r95l0 (m + 1) x0 x1 x2) from by unfold w95l0; show _ = a95l0 x0 x1 x2 (b95l0 (r95l0 m) x0 x1 x2); unfold b95l0; exact (cond_both (a95l0 x0 x1 x2) _ (fun h0 => (cond_both (a95l0 x0 x1 x2) _ (fun h1 => (cond_t (ev_and2 h1) (cond_app (a95l0 x0 x1 x2) _ rfl (v95l0 x0 x1 x2 ((r95l0 m) x0 (IntKind.i64.wrap (x1 + 1)) x2))))) (fun h1 => rfl))) (fun h0 => rfl)))
theorem qm95l0:∀ m,SumKOk Try.prog (loopN Try.f95 0) 22 [12,13,14] [4] (q95l0 m) := by
  intro m
  induction m with
  | zero =>
    intro vals s x h1 h2 h3
    unfold q95l0 at h3; split at h3
    · rename_i h; split at h3
      · rename_i hc; obtain ⟨rfl⟩ := hc; exact absurd h3 (by simp [r95l0,firstT,Nat.beq])
      · exact noQ_ok _ _ _ h1 h2 h3
    · exact noQ_ok _ _ _ h1 h2 h3
  | succ m ih =>
    intro vals s x h1 h2 h3
    unfold q95l0 at h3; split at h3
    · rename_i h; split at h3
      · rename_i hc; obtain ⟨rfl⟩ := hc; exact sum_step ok42 extOk mixed ((lfOkF_no _ _).inner (by kernel_rfl)) ih h1 h2 h (e95l0 m _ _ _) rfl h3
      · exact noQ_ok _ _ _ h1 h2 h3
    · exact noQ_ok _ _ _ h1 h2 h3
noncomputable def Q95l0:SumK := fun vals s => q95l0 (fuelOf vals s.h) vals s
theorem qok95l0:SumKOk Try.prog (loopN Try.f95 0) 22 [12,13,14] [4] Q95l0 := fuel_ok qm95l0 fuelOf
noncomputable def L95_1:LoopT := addL noL 5 ([12,13,14],[]) (sumK 22 [12,13,14] [4] Q95l0)
theorem lok95_1:LfOkF Try.prog L95_1 Try.f95 := lfOkF_add (lfOkF_no _ _) qok95l0 (by kernel_rfl) (by kernel_rfl) (by kernel_rfl)

noncomputable def r95 (x0 x1:LL):Nat×Bool :=
 cond ((((x1.length:Nat):Int):Int) != ((x0.length:Nat):Int)) (0,false) (cond (Nat.beq (r95l0 (1000 + x1.length) ((x1.length:Nat):Int) 0 x1) 0) (0,false) (cond (Nat.beq (r95l0 (1000 + x1.length) ((x1.length:Nat):Int) 0 x1) 1) (0,true) (1,false)))
noncomputable def a95 (x0 x1:LL) (p:Nat×Bool):Res := firstT [((Nat.beq (p.1) 0),.bool (p.2),⟨[(tb sc0 x0),(tb [.fl .f32] x1)],2,[]⟩)]
noncomputable def w95 (x0 x1:LL):Res :=
 (cond ((((x1.length:Nat):Int):Int) != ((x0.length:Nat):Int))
 (a95 x0 x1 (0,false))
 (cond (Nat.beq (r95l0 (1000 + x1.length) ((x1.length:Nat):Int) 0 x1) 0) (a95 x0 x1 (0,false)) (cond (Nat.beq (r95l0 (1000 + x1.length) ((x1.length:Nat):Int) 0 x1) 1) (a95 x0 x1 (0,true)) none)))
theorem e95 (x0 x1:LL):evFn Try.prog ext T42 L95_1 200 Try.f95 [wsl 0,wsl 1] ⟨[(tb sc0 x0),(tb [.fl .f32] x1)],2,[]⟩ = firstT [((Nat.beq ((r95 x0 x1).1) 0),.bool ((r95 x0 x1).2),⟨[(tb sc0 x0),(tb [.fl .f32] x1)],2,[]⟩)] :=
 (show _ = w95 x0 x1 from by kernel_rfl).trans
 (show w95 x0 x1 = a95 x0 x1 (r95 x0 x1) from by unfold w95 r95; exact (cond_app (a95 x0 x1) _ rfl (cond_app (a95 x0 x1) _ rfl (cond_app (a95 x0 x1) _ rfl rfl))))
noncomputable def s95 (args:List Value) (s:St):List (Bool×Value×St) :=
 match args,s.h with
 | [.iface f0 .nilIface,.iface f1 .nilIface],[⟨true,some (.tab [.fl .f32,.fl .f32,.fl .f32,.fl .f32,.int .i64] x0)⟩,⟨true,some (.tab [.fl .f32] x1)⟩] => if f0 = 0 ∧ f1 = 1 then [((Nat.beq ((r95 x0 x1).1) 0),.bool ((r95 x0 x1).2),⟨[(tb sc0 x0),(tb [.fl .f32] x1)],2,[]⟩)] else T42 95 args s
 | _,_ => T42 95 args s
noncomputable def T43:CallF := addF T42 95 s95
theorem ok43:CfOk Try.prog T43 := by
  refine cfOk_add ok42 fun args s r s' h1 h2 h3 => ?_
  unfold s95 at h3; split at h3
  · rename_i h; split at h3
    · rename_i hc; obtain ⟨rfl,rfl⟩ := hc; exact callOk ok42 Try.func95 h1 h2 h lok95_1.body (e95 _ _) rfl h3
    · exact ok42 _ _ _ _ _ h1 h2 h3
  · exact ok42 _ _ _ _ _ h1 h2 h3

noncomputable def b59l0c (ih:Int→Int→LL→Nat) (x0 x1:Int) (x2:LL):Nat :=
 cond (decide ((x1:Int) < x0)) (cond ((decide ((0:Int) ≤ x1)) && (Nat.blt (Int.toNat x1) x2.length)) (cond (r126 (widen (Int.toNat ((x2.getD (Int.toNat x1) []).getD 0 0)))) (0) (cond (r127 (widen (Int.toNat ((x2.getD (Int.toNat x1) []).getD 0 0))) 0) (0) (ih x0 (IntKind.i64.wrap (x1 + 1)) x2))) (2)) (1)
noncomputable def r59l0c:Nat→Int→Int→LL→Nat
 | 0 => fun _ _ _ => (2)
 | m + 1 => b59l0c (r59l0c m)
noncomputable def a59l0c (x0 x1:Int) (x2:LL) (p:Nat):Option (Fin'×List Value×St) := firstT ([((Nat.beq p 0),.ret,[.bool false],⟨[(tb [.fl .f32] x2)],1,[]⟩),((Nat.beq p 1),.exit 0,[Y],⟨[(tb [.fl .f32] x2)],1,[]⟩)].map fun (b,x) => (b,(x.1,frameOf 20 [2] x.2.1,x.2.2)))
noncomputable def u59l0c (x0 x1:Int) (x2:LL) (p:Nat):Option (Fin'×List Value×St) := alts ([((Nat.beq p 0),.ret,[.bool false],⟨[(tb [.fl .f32] x2)],1,[]⟩),((Nat.beq p 1),.exit 0,[Y],⟨[(tb [.fl .f32] x2)],1,[]⟩)].map fun (b,x) => (b,(x.1,frameOf 20 [2] x.2.1,x.2.2))) some
theorem v59l0c (x0 x1:Int) (x2:LL) (p:Nat):u59l0c x0 x1 x2 p = a59l0c x0 x1 x2 p := alts_first _
noncomputable def q59l0c (m:Nat):SumK := fun vals s =>
 match vals,s.h with
 | [.iface f0 .nilIface,.int .i64 x0,.int .i64 x1],[⟨true,some (.tab [.fl .f32] x2)⟩] => if f0 = 0 then [((Nat.beq (r59l0c m x0 x1 x2) 0),.ret,[.bool false],⟨[(tb [.fl .f32] x2)],1,[]⟩),((Nat.beq (r59l0c m x0 x1 x2) 1),.exit 0,[Y],⟨[(tb [.fl .f32] x2)],1,[]⟩)] else Q59l0b vals s
 | _,_ => Q59l0b vals s
noncomputable def w59l0c (ih:Int→Int→LL→Nat) (x0 x1:Int) (x2:LL):Option (Fin'×List Value×St) :=
 (cond (decide ((x1:Int) < x0))
 (cond ((decide ((0:Int) ≤ x1)) && (Nat.blt (Int.toNat x1) x2.length)) (cond (Nat.blt (Int.toNat x1) x2.length) (cond (r126 (widen (Int.toNat ((x2.getD (Int.toNat x1) []).getD 0 0)))) (a59l0c x0 x1 x2 (0)) (cond (r127 (widen (Int.toNat ((x2.getD (Int.toNat x1) []).getD 0 0))) 0) (a59l0c x0 x1 x2 (0)) (u59l0c x0 x1 x2 (ih x0 (IntKind.i64.wrap (x1 + 1)) x2)))) none) none)
 (a59l0c x0 x1 x2 (1)))
theorem e59l0c (m:Nat) (x0 x1:Int) (x2:LL):evC Try.prog ext T43 L59_2 200 (loopN Try.f59 0) (loopTail ([5,6,7],[]) [2] [] (sumK 20 [5,6,7] [2] (q59l0c m))) (frameOf 20 [5,6,7] [wsl 0,vi x0,vi x1]) ⟨[(tb [.fl .f32] x2)],1,[]⟩ = firstT ([((Nat.beq (r59l0c (m + 1) x0 x1 x2) 0),.ret,[.bool false],⟨[(tb [.fl .f32] x2)],1,[]⟩),((Nat.beq (r59l0c (m + 1) x0 x1 x2) 1),.exit 0,[Y],⟨[(tb [.fl .f32] x2)],1,[]⟩)].map fun (b,x) => (b,(x.1,frameOf 20 [2] x.2.1,x.2.2))) :=
 (show _ = w59l0c (r59l0c m) x0 x1 x2 from by kernel_rfl).trans
 (show w59l0c (r59l0c m) x0 x1 x2 = a59l0c x0 x1 x2 (r59l0c (m + 1) x0 x1 x2) from by unfold w59l0c; show _ = a59l0c x0 x1 x2 (b59l0c (r59l0c m) x0 x1 x2); unfold b59l0c; exact (cond_both (a59l0c x0 x1 x2) _ (fun h0 => (cond_both (a59l0c x0 x1 x2) _ (fun h1 => (cond_t (ev_and2 h1) (cond_app (a59l0c x0 x1 x2) _ rfl (cond_app (a59l0c x0 x1 x2) _ rfl (v59l0c x0 x1 x2 ((r59l0c m) x0 (IntKind.i64.wrap (x1 + 1)) x2)))))) (fun h1 => rfl))) (fun h0 => rfl)))
theorem qm59l0c:∀ m,SumKOk Try.prog (loopN Try.f59 0) 20 [5,6,7] [2] (q59l0c m) := by
  intro m
  induction m with
  | zero =>
    intro vals s x h1 h2 h3
    unfold q59l0c at h3; split at h3
    · rename_i h; split at h3
      · rename_i hc; obtain ⟨rfl⟩ := hc; exact absurd h3 (by simp [r59l0c,firstT,Nat.beq])
      · exact qok59l0b _ _ _ h1 h2 h3
    · exact qok59l0b _ _ _ h1 h2 h3
  | succ m ih =>
    intro vals s x h1 h2 h3
    unfold q59l0c at h3; split at h3
    · rename_i h; split at h3
      · rename_i hc; obtain ⟨rfl⟩ := hc; exact sum_step ok43 extOk mixed (lok59_2.inner (by kernel_rfl)) ih h1 h2 h (e59l0c m _ _ _) rfl h3
      · exact qok59l0b _ _ _ h1 h2 h3
    · exact qok59l0b _ _ _ h1 h2 h3
noncomputable def Q59l0c:SumK := fun vals s => q59l0c (fuelOf vals s.h) vals s
theorem qok59l0c:SumKOk Try.prog (loopN Try.f59 0) 20 [5,6,7] [2] Q59l0c := fuel_ok qm59l0c fuelOf
noncomputable def L59_3:LoopT := addL L59_2 3 ([5,6,7],[]) (sumK 20 [5,6,7] [2] Q59l0c)
theorem lok59_3:LfOkF Try.prog L59_3 Try.f59 := lfOkF_add lok59_2 qok59l0c (by kernel_rfl) (by kernel_rfl) (by kernel_rfl)

noncomputable def r59b (x0:LL):Nat×Bool :=
 cond (Nat.beq (r59l0c (1000 + x0.length) ((x0.length:Nat):Int) 0 x0) 0) (0,false) (cond (Nat.beq (r59l0c (1000 + x0.length) ((x0.length:Nat):Int) 0 x0) 1) (0,true) (1,false))
noncomputable def a59b (x0:LL) (p:Nat×Bool):Res := firstT [((Nat.beq (p.1) 0),.bool (p.2),⟨[(tb [.fl .f32] x0)],1,[]⟩)]
noncomputable def w59b (x0:LL):Res :=
 (cond (Nat.beq (r59l0c (1000 + x0.length) ((x0.length:Nat):Int) 0 x0) 0)
 (a59b x0 (0,false))
 (cond (Nat.beq (r59l0c (1000 + x0.length) ((x0.length:Nat):Int) 0 x0) 1) (a59b x0 (0,true)) none))
theorem e59b (x0:LL):evFn Try.prog ext T43 L59_3 200 Try.f59 [wsl 0] ⟨[(tb [.fl .f32] x0)],1,[]⟩ = firstT [((Nat.beq ((r59b x0).1) 0),.bool ((r59b x0).2),⟨[(tb [.fl .f32] x0)],1,[]⟩)] :=
 (show _ = w59b x0 from by kernel_rfl).trans
 (show w59b x0 = a59b x0 (r59b x0) from by unfold w59b r59b; exact (cond_app (a59b x0) _ rfl (cond_app (a59b x0) _ rfl rfl)))
noncomputable def s59b (args:List Value) (s:St):List (Bool×Value×St) :=
 match args,s.h with
 | [.iface f0 .nilIface],[⟨true,some (.tab [.fl .f32] x0)⟩] => if f0 = 0 then [((Nat.beq ((r59b x0).1) 0),.bool ((r59b x0).2),⟨[(tb [.fl .f32] x0)],1,[]⟩)] else T43 59 args s
 | _,_ => T43 59 args s
noncomputable def T44:CallF := addF T43 59 s59b
theorem ok44:CfOk Try.prog T44 := by
  refine cfOk_add ok43 fun args s r s' h1 h2 h3 => ?_
  unfold s59b at h3; split at h3
  · rename_i h; split at h3
    · rename_i hc; obtain ⟨rfl⟩ := hc; exact callOk ok43 Try.func59 h1 h2 h lok59_3.body (e59b _) rfl h3
    · exact ok43 _ _ _ _ _ h1 h2 h3
  · exact ok43 _ _ _ _ _ h1 h2 h3

noncomputable def b131l0 (ih:Int→Int→Int→LL→LL→(Nat×LL)) (x0 x1 x2:Int) (x3 x4:LL):Nat×LL :=
 cond (decide ((x2:Int) < x1)) (cond ((decide ((0:Int) ≤ x2)) && (Nat.blt (Int.toNat x2) x4.length)) (cond ((((x4.getD (Int.toNat x2) []).getD 4 0):Int) == x0) (cond (Nat.ble ((x3.length + 1) * 9) 140737488355328) (cond (Nat.beq ((ih x0 x1 (IntKind.i64.wrap (x2 + 1)) (((x3.drop 0).take x3.length) ++ ([[x2]]:LL)) x4).1) 0) (0,((ih x0 x1 (IntKind.i64.wrap (x2 + 1)) (((x3.drop 0).take x3.length) ++ ([[x2]]:LL)) x4).2)) (cond (Nat.beq ((ih x0 x1 (IntKind.i64.wrap (x2 + 1)) (((x3.drop 0).take x3.length) ++ ([[x2]]:LL)) x4).1) 1) (0,(((x3.drop 0).take x3.length) ++ ([[x2]]:LL))) (2,[]))) (2,[])) (ih x0 x1 (IntKind.i64.wrap (x2 + 1)) x3 x4)) (2,[])) (1,[])
noncomputable def r131l0:Nat→Int→Int→Int→LL→LL→(Nat×LL)
 | 0 => fun _ _ _ _ _ => (2,[])
 | m + 1 => b131l0 (r131l0 m)
noncomputable def a131l0 (x0 x1 x2:Int) (x3 x4:LL) (p:Nat×LL):Option (Fin'×List Value×St) := firstT ([((Nat.beq (p.1) 0),.exit 0,[wsl 2],⟨[⟨true,none⟩,(tb sc0 x4),(tb [.int .i64] (p.2))],2,[0]⟩),((Nat.beq (p.1) 1),.exit 0,[wsl 0],⟨[(tb [.int .i64] x3),(tb sc0 x4)],2,[0]⟩)].map fun (b,x) => (b,(x.1,frameOf 26 [5] x.2.1,x.2.2)))
noncomputable def u131l0 (x0 x1 x2:Int) (x3 x4:LL) (p:Nat×LL):Option (Fin'×List Value×St) := alts ([((Nat.beq (p.1) 0),.exit 0,[wsl 2],⟨[⟨true,none⟩,(tb sc0 x4),(tb [.int .i64] (p.2))],2,[0]⟩),((Nat.beq (p.1) 1),.exit 0,[wsl 0],⟨[(tb [.int .i64] x3),(tb sc0 x4)],2,[0]⟩)].map fun (b,x) => (b,(x.1,frameOf 26 [5] x.2.1,x.2.2))) some
theorem v131l0 (x0 x1 x2:Int) (x3 x4:LL) (p:Nat×LL):u131l0 x0 x1 x2 x3 x4 p = a131l0 x0 x1 x2 x3 x4 p := alts_first _
noncomputable def q131l0 (m:Nat):SumK := fun vals s =>
 match vals,s.h with
 | [.int .i64 x0,.iface f0 .nilIface,.iface f1 .nilIface,.int .i64 x1,.int .i64 x2],[⟨true,some (.tab [.int .i64] x3)⟩,⟨true,some (.tab [.fl .f32,.fl .f32,.fl .f32,.fl .f32,.int .i64] x4)⟩] => if f0 = 0 ∧ f1 = 1 then [((Nat.beq ((r131l0 m x0 x1 x2 x3 x4).1) 0),.exit 0,[wsl 2],⟨[⟨true,none⟩,(tb sc0 x4),(tb [.int .i64] ((r131l0 m x0 x1 x2 x3 x4).2))],2,[0]⟩),((Nat.beq ((r131l0 m x0 x1 x2 x3 x4).1) 1),.exit 0,[wsl 0],⟨[(tb [.int .i64] x3),(tb sc0 x4)],2,[0]⟩)] else noQ vals s
 | _,_ => noQ vals s
noncomputable def w131l0 (ih:Int→Int→Int→LL→LL→(Nat×LL)) (x0 x1 x2:Int) (x3 x4:LL):Option (Fin'×List Value×St) :=
 (cond (decide ((x2:Int) < x1))
 (cond ((decide ((0:Int) ≤ x2)) && (Nat.blt (Int.toNat x2) x4.length)) (cond (Nat.blt (Int.toNat x2) x4.length) (cond ((((x4.getD (Int.toNat x2) []).getD 4 0):Int) == x0) (cond (Nat.ble ((x3.length + 1) * 9) 140737488355328) (cond (Nat.beq ((ih x0 x1 (IntKind.i64.wrap (x2 + 1)) (((x3.drop 0).take x3.length) ++ ([[x2]]:LL)) x4).1) 0) (a131l0 x0 x1 x2 x3 x4 (0,((ih x0 x1 (IntKind.i64.wrap (x2 + 1)) (((x3.drop 0).take x3.length) ++ ([[x2]]:LL)) x4).2))) (cond (Nat.beq ((ih x0 x1 (IntKind.i64.wrap (x2 + 1)) (((x3.drop 0).take x3.length) ++ ([[x2]]:LL)) x4).1) 1) (a131l0 x0 x1 x2 x3 x4 (0,(((x3.drop 0).take x3.length) ++ ([[x2]]:LL)))) none)) none) (u131l0 x0 x1 x2 x3 x4 (ih x0 x1 (IntKind.i64.wrap (x2 + 1)) x3 x4))) none) none)
 (a131l0 x0 x1 x2 x3 x4 (1,[])))
theorem e131l0 (m:Nat) (x0 x1 x2:Int) (x3 x4:LL):evC Try.prog ext T44 noL 200 (loopN Try.f131 0) (loopTail ([1,5,9,10,11],[]) [5] [0] (sumK 26 [1,5,9,10,11] [5] (q131l0 m))) (frameOf 26 [1,5,9,10,11] [vi x0,wsl 0,wsl 1,vi x1,vi x2]) ⟨[(tb [.int .i64] x3),(tb sc0 x4)],2,[]⟩ = firstT ([((Nat.beq ((r131l0 (m + 1) x0 x1 x2 x3 x4).1) 0),.exit 0,[wsl 2],⟨[⟨true,none⟩,(tb sc0 x4),(tb [.int .i64] ((r131l0 (m + 1) x0 x1 x2 x3 x4).2))],2,[0]⟩),((Nat.beq ((r131l0 (m + 1) x0 x1 x2 x3 x4).1) 1),.exit 0,[wsl 0],⟨[(tb [.int .i64] x3),(tb sc0 x4)],2,[0]⟩)].map fun (b,x) => (b,(x.1,frameOf 26 [5] x.2.1,x.2.2))) :=
 (show _ = w131l0 (r131l0 m) x0 x1 x2 x3 x4 from by kernel_rfl).trans
 (show w131l0 (r131l0 m) x0 x1 x2 x3 x4 = a131l0 x0 x1 x2 x3 x4 (r131l0 (m + 1) x0 x1 x2 x3 x4) from by unfold w131l0; show _ = a131l0 x0 x1 x2 x3 x4 (b131l0 (r131l0 m) x0 x1 x2 x3 x4); unfold b131l0; exact (cond_both (a131l0 x0 x1 x2 x3 x4) _ (fun h0 => (cond_both (a131l0 x0 x1 x2 x3 x4) _ (fun h1 => (cond_t (ev_and2 h1) (cond_app (a131l0 x0 x1 x2 x3 x4) _ (cond_app (a131l0 x0 x1 x2 x3 x4) _ (cond_app (a131l0 x0 x1 x2 x3 x4) _ rfl (cond_app (a131l0 x0 x1 x2 x3 x4) _ rfl rfl)) rfl) (v131l0 x0 x1 x2 x3 x4 ((r131l0 m) x0 x1 (IntKind.i64.wrap (x2 + 1)) x3 x4))))) (fun h1 => rfl))) (fun h0 => rfl)))
theorem qm131l0:∀ m,SumKOk Try.prog (loopN Try.f131 0) 26 [1,5,9,10,11] [5] (q131l0 m) := by
  intro m
  induction m with
  | zero =>
    intro vals s x h1 h2 h3
    unfold q131l0 at h3; split at h3
    · rename_i h; split at h3
      · rename_i hc; obtain ⟨rfl,rfl⟩ := hc; exact absurd h3 (by simp [r131l0,firstT,Nat.beq])
      · exact noQ_ok _ _ _ h1 h2 h3
    · exact noQ_ok _ _ _ h1 h2 h3
  | succ m ih =>
    intro vals s x h1 h2 h3
    unfold q131l0 at h3; split at h3
    · rename_i h; split at h3
      · rename_i hc; obtain ⟨rfl,rfl⟩ := hc; exact sum_step ok44 extOk mixed ((lfOkF_no _ _).inner (by kernel_rfl)) ih h1 h2 h (e131l0 m _ _ _ _ _) rfl h3
      · exact noQ_ok _ _ _ h1 h2 h3
    · exact noQ_ok _ _ _ h1 h2 h3
noncomputable def Q131l0:SumK := fun vals s => q131l0 (fuelOf vals s.h) vals s
theorem qok131l0:SumKOk Try.prog (loopN Try.f131 0) 26 [1,5,9,10,11] [5] Q131l0 := fuel_ok qm131l0 fuelOf
noncomputable def L131_1:LoopT := addL noL 4 ([1,5,9,10,11],[]) (sumK 26 [1,5,9,10,11] [5] Q131l0)
theorem lok131_1:LfOkF Try.prog L131_1 Try.f131 := lfOkF_add (lfOkF_no _ _) qok131l0 (by kernel_rfl) (by kernel_rfl) (by kernel_rfl)

noncomputable def r131 (x0:Int) (x1:LL):Nat×LL :=
 cond (Nat.beq ((r131l0 (1000 + x1.length + 0) x0 ((x1.length:Nat):Int) 0 ([]:LL) x1).1) 0) (0,((r131l0 (1000 + x1.length + 0) x0 ((x1.length:Nat):Int) 0 ([]:LL) x1).2)) (cond (Nat.beq ((r131l0 (1000 + x1.length + 0) x0 ((x1.length:Nat):Int) 0 ([]:LL) x1).1) 1) (0,([]:LL)) (1,[]))
noncomputable def a131 (x0:Int) (x1:LL) (p:Nat×LL):Res := firstT [((Nat.beq (p.1) 0),wsl 1,⟨[(tb sc0 x1),(tb [.int .i64] (p.2))],1,[]⟩)]
noncomputable def w131 (x0:Int) (x1:LL):Res :=
 (cond (Nat.beq ((r131l0 (1000 + x1.length + 0) x0 ((x1.length:Nat):Int) 0 ([]:LL) x1).1) 0)
 (a131 x0 x1 (0,((r131l0 (1000 + x1.length + 0) x0 ((x1.length:Nat):Int) 0 ([]:LL) x1).2)))
 (cond (Nat.beq ((r131l0 (1000 + x1.length + 0) x0 ((x1.length:Nat):Int) 0 ([]:LL) x1).1) 1) (a131 x0 x1 (0,([]:LL))) none))
theorem e131 (x0:Int) (x1:LL):evFn Try.prog ext T44 L131_1 200 Try.f131 [wsl 0,vi x0] ⟨[(tb sc0 x1)],1,[]⟩ = firstT [((Nat.beq ((r131 x0 x1).1) 0),wsl 1,⟨[(tb sc0 x1),(tb [.int .i64] ((r131 x0 x1).2))],1,[]⟩)] :=
 (show _ = w131 x0 x1 from by kernel_rfl).trans
 (show w131 x0 x1 = a131 x0 x1 (r131 x0 x1) from by unfold w131 r131; exact (cond_app (a131 x0 x1) _ rfl (cond_app (a131 x0 x1) _ rfl rfl)))
noncomputable def s131 (args:List Value) (s:St):List (Bool×Value×St) :=
 match args,s.h with
 | [.iface f0 .nilIface,.int .i64 x0],[⟨true,some (.tab [.fl .f32,.fl .f32,.fl .f32,.fl .f32,.int .i64] x1)⟩] => if f0 = 0 then [((Nat.beq ((r131 x0 x1).1) 0),wsl 1,⟨[(tb sc0 x1),(tb [.int .i64] ((r131 x0 x1).2))],1,[]⟩)] else T44 131 args s
 | _,_ => T44 131 args s
noncomputable def T45:CallF := addF T44 131 s131
theorem ok45:CfOk Try.prog T45 := by
  refine cfOk_add ok44 fun args s r s' h1 h2 h3 => ?_
  unfold s131 at h3; split at h3
  · rename_i h; split at h3
    · rename_i hc; obtain ⟨rfl⟩ := hc; exact callOk ok44 Try.func131 h1 h2 h lok131_1.body (e131 _ _) rfl h3
    · exact ok44 _ _ _ _ _ h1 h2 h3
  · exact ok44 _ _ _ _ _ h1 h2 h3

noncomputable def b96l1 (ih:Nat→Nat→Nat→Int→Int→Int→Int→LL→LL→LL→LL→Nat→Nat→Nat→Nat→Int→LL→(Nat×Nat×Nat)) (x0 x1 x2:Nat) (x3 x4 x5 x6:Int) (x7 x8 x9 x10:LL) (x11 x12 x13 x14:Nat) (x15:Int) (x16:LL):Nat×Nat×Nat :=
 cond (decide ((x6:Int) < x5)) (cond ((decide ((0:Int) ≤ x6)) && (Nat.blt (Int.toNat x6) x16.length)) (cond ((decide ((0:Int) ≤ ((x16.getD (Int.toNat x6) []).getD 0 0))) && (Nat.blt (Int.toNat ((x16.getD (Int.toNat x6) []).getD 0 0)) x9.length)) (cond (fgt .f32 (Int.toNat ((x9.getD (Int.toNat ((x16.getD (Int.toNat x6) []).getD 0 0)) []).getD 0 0)) 0) (cond ((decide ((0:Int) ≤ ((x16.getD (Int.toNat x6) []).getD 0 0))) && (Nat.blt (Int.toNat ((x16.getD (Int.toNat x6) []).getD 0 0)) x7.length)) (ih x0 (fadd .f32 x1 (fmul .f32 (Int.toNat ((x9.getD (Int.toNat ((x16.getD (Int.toNat x6) []).getD 0 0)) []).getD 0 0)) (Int.toNat ((x7.getD (Int.toNat ((x16.getD (Int.toNat x6) []).getD 0 0)) []).getD 2 0)))) (fadd .f32 x2 (Int.toNat ((x9.getD (Int.toNat ((x16.getD (Int.toNat x6) []).getD 0 0)) []).getD 0 0))) x3 x4 x5 (IntKind.i64.wrap (x6 + 1)) x7 x8 x9 x10 x11 x12 x13 x14 x15 x16) (1,0,0)) (ih x0 x1 x2 x3 x4 x5 (IntKind.i64.wrap (x6 + 1)) x7 x8 x9 x10 x11 x12 x13 x14 x15 x16)) (1,0,0)) (1,0,0)) (0,x1,x2)
noncomputable def r96l1:Nat→Nat→Nat→Nat→Int→Int→Int→Int→LL→LL→LL→LL→Nat→Nat→Nat→Nat→Int→LL→(Nat×Nat×Nat)
 | 0 => fun _ _ _ _ _ _ _ _ _ _ _ _ _ _ _ _ _ => (1,0,0)
 | m + 1 => b96l1 (r96l1 m)
noncomputable def a96l1 (x0 x1 x2:Nat) (x3 x4 x5 x6:Int) (x7 x8 x9 x10:LL) (x11 x12 x13 x14:Nat) (x15:Int) (x16:LL) (p:Nat×Nat×Nat):Option (Fin'×List Value×St) := firstT ([((Nat.beq (p.1) 0),.exit 3,[wsl 0,wsl 1,wsl 2,vf x0,wsl 3,vp 4,vf (p.2.1),vf (p.2.2),wsl 0,vi x3,vi x4],⟨[(tb sc0 x7),(tb [.fl .f32] x8),(tb [.fl .f32] x9),(tb [.fl .f32] x10),⟨true,(some (.cells [vf x11,vf x12,vf x13,vf x14,vi x15]))⟩,(tb [.int .i64] x16)],6,[]⟩)].map fun (b,x) => (b,(x.1,frameOf 94 [0,1,2,3,9,11,13,14,18,19,20] x.2.1,x.2.2)))
noncomputable def u96l1 (x0 x1 x2:Nat) (x3 x4 x5 x6:Int) (x7 x8 x9 x10:LL) (x11 x12 x13 x14:Nat) (x15:Int) (x16:LL) (p:Nat×Nat×Nat):Option (Fin'×List Value×St) := alts ([((Nat.beq (p.1) 0),.exit 3,[wsl 0,wsl 1,wsl 2,vf x0,wsl 3,vp 4,vf (p.2.1),vf (p.2.2),wsl 0,vi x3,vi x4],⟨[(tb sc0 x7),(tb [.fl .f32] x8),(tb [.fl .f32] x9),(tb [.fl .f32] x10),⟨true,(some (.cells [vf x11,vf x12,vf x13,vf x14,vi x15]))⟩,(tb [.int .i64] x16)],6,[]⟩)].map fun (b,x) => (b,(x.1,frameOf 94 [0,1,2,3,9,11,13,14,18,19,20] x.2.1,x.2.2))) some
theorem v96l1 (x0 x1 x2:Nat) (x3 x4 x5 x6:Int) (x7 x8 x9 x10:LL) (x11 x12 x13 x14:Nat) (x15:Int) (x16:LL) (p:Nat×Nat×Nat):u96l1 x0 x1 x2 x3 x4 x5 x6 x7 x8 x9 x10 x11 x12 x13 x14 x15 x16 p = a96l1 x0 x1 x2 x3 x4 x5 x6 x7 x8 x9 x10 x11 x12 x13 x14 x15 x16 p := alts_first _
noncomputable def q96l1 (m:Nat):SumK := fun vals s =>
 match vals,s.h with
 | [.iface f0 .nilIface,.iface f1 .nilIface,.iface f2 .nilIface,.float .f32 x0,.iface f3 .nilIface,.pointer (some ⟨f4,f5,some f6⟩),.float .f32 x1,.float .f32 x2,.iface f7 .nilIface,.int .i64 x3,.int .i64 x4,.iface f8 .nilIface,.int .i64 x5,.int .i64 x6],[⟨true,some (.tab [.fl .f32,.fl .f32,.fl .f32,.fl .f32,.int .i64] x7)⟩,⟨true,some (.tab [.fl .f32] x8)⟩,⟨true,some (.tab [.fl .f32] x9)⟩,⟨true,some (.tab [.fl .f32] x10)⟩,⟨true,some (.cells [.float .f32 x11,.float .f32 x12,.float .f32 x13,.float .f32 x14,.int .i64 x15])⟩,⟨true,some (.tab [.int .i64] x16)⟩] => if f0 = 0 ∧ f1 = 1 ∧ f2 = 2 ∧ f3 = 3 ∧ f4 = 4 ∧ f5 = 0 ∧ f6 = 0 ∧ f7 = 0 ∧ f8 = 5 then [((Nat.beq ((r96l1 m x0 x1 x2 x3 x4 x5 x6 x7 x8 x9 x10 x11 x12 x13 x14 x15 x16).1) 0),.exit 3,[wsl 0,wsl 1,wsl 2,vf x0,wsl 3,vp 4,vf ((r96l1 m x0 x1 x2 x3 x4 x5 x6 x7 x8 x9 x10 x11 x12 x13 x14 x15 x16).2.1),vf ((r96l1 m x0 x1 x2 x3 x4 x5 x6 x7 x8 x9 x10 x11 x12 x13 x14 x15 x16).2.2),wsl 0,vi x3,vi x4],⟨[(tb sc0 x7),(tb [.fl .f32] x8),(tb [.fl .f32] x9),(tb [.fl .f32] x10),⟨true,(some (.cells [vf x11,vf x12,vf x13,vf x14,vi x15]))⟩,(tb [.int .i64] x16)],6,[]⟩)] else noQ vals s
 | _,_ => noQ vals s
noncomputable def w96l1 (ih:Nat→Nat→Nat→Int→Int→Int→Int→LL→LL→LL→LL→Nat→Nat→Nat→Nat→Int→LL→(Nat×Nat×Nat)) (x0 x1 x2:Nat) (x3 x4 x5 x6:Int) (x7 x8 x9 x10:LL) (x11 x12 x13 x14:Nat) (x15:Int) (x16:LL):Option (Fin'×List Value×St) :=
 (cond (decide ((x6:Int) < x5))
 (cond ((decide ((0:Int) ≤ x6)) && (Nat.blt (Int.toNat x6) x16.length)) (cond (Nat.blt (Int.toNat x6) x16.length) (cond ((decide ((0:Int) ≤ ((x16.getD (Int.toNat x6) []).getD 0 0))) && (Nat.blt (Int.toNat ((x16.getD (Int.toNat x6) []).getD 0 0)) x9.length)) (cond (Nat.blt (Int.toNat ((x16.getD (Int.toNat x6) []).getD 0 0)) x9.length) (cond (fgt .f32 (Int.toNat ((x9.getD (Int.toNat ((x16.getD (Int.toNat x6) []).getD 0 0)) []).getD 0 0)) 0) (cond ((decide ((0:Int) ≤ ((x16.getD (Int.toNat x6) []).getD 0 0))) && (Nat.blt (Int.toNat ((x16.getD (Int.toNat x6) []).getD 0 0)) x9.length)) (cond (Nat.blt (Int.toNat ((x16.getD (Int.toNat x6) []).getD 0 0)) x9.length) (cond ((decide ((0:Int) ≤ ((x16.getD (Int.toNat x6) []).getD 0 0))) && (Nat.blt (Int.toNat ((x16.getD (Int.toNat x6) []).getD 0 0)) x7.length)) (cond (Nat.blt (Int.toNat ((x16.getD (Int.toNat x6) []).getD 0 0)) x7.length) (cond ((decide ((0:Int) ≤ ((x16.getD (Int.toNat x6) []).getD 0 0))) && (Nat.blt (Int.toNat ((x16.getD (Int.toNat x6) []).getD 0 0)) x9.length)) (cond (Nat.blt (Int.toNat ((x16.getD (Int.toNat x6) []).getD 0 0)) x9.length) (u96l1 x0 x1 x2 x3 x4 x5 x6 x7 x8 x9 x10 x11 x12 x13 x14 x15 x16 (ih x0 (fadd .f32 x1 (fmul .f32 (Int.toNat ((x9.getD (Int.toNat ((x16.getD (Int.toNat x6) []).getD 0 0)) []).getD 0 0)) (Int.toNat ((x7.getD (Int.toNat ((x16.getD (Int.toNat x6) []).getD 0 0)) []).getD 2 0)))) (fadd .f32 x2 (Int.toNat ((x9.getD (Int.toNat ((x16.getD (Int.toNat x6) []).getD 0 0)) []).getD 0 0))) x3 x4 x5 (IntKind.i64.wrap (x6 + 1)) x7 x8 x9 x10 x11 x12 x13 x14 x15 x16)) none) none) none) none) none) none) (u96l1 x0 x1 x2 x3 x4 x5 x6 x7 x8 x9 x10 x11 x12 x13 x14 x15 x16 (ih x0 x1 x2 x3 x4 x5 (IntKind.i64.wrap (x6 + 1)) x7 x8 x9 x10 x11 x12 x13 x14 x15 x16))) none) none) none) none)
 (a96l1 x0 x1 x2 x3 x4 x5 x6 x7 x8 x9 x10 x11 x12 x13 x14 x15 x16 (0,x1,x2)))
theorem e96l1 (m:Nat) (x0 x1 x2:Nat) (x3 x4 x5 x6:Int) (x7 x8 x9 x10:LL) (x11 x12 x13 x14:Nat) (x15:Int) (x16:LL):evC Try.prog ext T45 noL 200 (loopN Try.f96 1) (loopTail ([0,1,2,3,9,11,13,14,18,19,20,28,29,30],[]) [0,1,2,3,9,11,13,14,18,19,20] [] (sumK 94 [0,1,2,3,9,11,13,14,18,19,20,28,29,30] [0,1,2,3,9,11,13,14,18,19,20] (q96l1 m))) (frameOf 94 [0,1,2,3,9,11,13,14,18,19,20,28,29,30] [wsl 0,wsl 1,wsl 2,vf x0,wsl 3,vp 4,vf x1,vf x2,wsl 0,vi x3,vi x4,wsl 5,vi x5,vi x6]) ⟨[(tb sc0 x7),(tb [.fl .f32] x8),(tb [.fl .f32] x9),(tb [.fl .f32] x10),⟨true,(some (.cells [vf x11,vf x12,vf x13,vf x14,vi x15]))⟩,(tb [.int .i64] x16)],6,[]⟩ = firstT ([((Nat.beq ((r96l1 (m + 1) x0 x1 x2 x3 x4 x5 x6 x7 x8 x9 x10 x11 x12 x13 x14 x15 x16).1) 0),.exit 3,[wsl 0,wsl 1,wsl 2,vf x0,wsl 3,vp 4,vf ((r96l1 (m + 1) x0 x1 x2 x3 x4 x5 x6 x7 x8 x9 x10 x11 x12 x13 x14 x15 x16).2.1),vf ((r96l1 (m + 1) x0 x1 x2 x3 x4 x5 x6 x7 x8 x9 x10 x11 x12 x13 x14 x15 x16).2.2),wsl 0,vi x3,vi x4],⟨[(tb sc0 x7),(tb [.fl .f32] x8),(tb [.fl .f32] x9),(tb [.fl .f32] x10),⟨true,(some (.cells [vf x11,vf x12,vf x13,vf x14,vi x15]))⟩,(tb [.int .i64] x16)],6,[]⟩)].map fun (b,x) => (b,(x.1,frameOf 94 [0,1,2,3,9,11,13,14,18,19,20] x.2.1,x.2.2))) :=
 (show _ = w96l1 (r96l1 m) x0 x1 x2 x3 x4 x5 x6 x7 x8 x9 x10 x11 x12 x13 x14 x15 x16 from by kernel_rfl).trans
 (show w96l1 (r96l1 m) x0 x1 x2 x3 x4 x5 x6 x7 x8 x9 x10 x11 x12 x13 x14 x15 x16 = a96l1 x0 x1 x2 x3 x4 x5 x6 x7 x8 x9 x10 x11 x12 x13 x14 x15 x16 (r96l1 (m + 1) x0 x1 x2 x3 x4 x5 x6 x7 x8 x9 x10 x11 x12 x13 x14 x15 x16) from by unfold w96l1; show _ = a96l1 x0 x1 x2 x3 x4 x5 x6 x7 x8 x9 x10 x11 x12 x13 x14 x15 x16 (b96l1 (r96l1 m) x0 x1 x2 x3 x4 x5 x6 x7 x8 x9 x10 x11 x12 x13 x14 x15 x16); unfold b96l1; exact (cond_both (a96l1 x0 x1 x2 x3 x4 x5 x6 x7 x8 x9 x10 x11 x12 x13 x14 x15 x16) _ (fun h0 => (cond_both (a96l1 x0 x1 x2 x3 x4 x5 x6 x7 x8 x9 x10 x11 x12 x13 x14 x15 x16) _ (fun h1 => (cond_t (ev_and2 h1) (cond_both (a96l1 x0 x1 x2 x3 x4 x5 x6 x7 x8 x9 x10 x11 x12 x13 x14 x15 x16) _ (fun h2 => (cond_t (ev_and2 h2) (cond_both (a96l1 x0 x1 x2 x3 x4 x5 x6 x7 x8 x9 x10 x11 x12 x13 x14 x15 x16) _ (fun h3 => (cond_t h2 (cond_t (ev_and2 h2) (cond_both (a96l1 x0 x1 x2 x3 x4 x5 x6 x7 x8 x9 x10 x11 x12 x13 x14 x15 x16) _ (fun h4 => (cond_t (ev_and2 h4) (cond_t h2 (cond_t (ev_and2 h2) (v96l1 x0 x1 x2 x3 x4 x5 x6 x7 x8 x9 x10 x11 x12 x13 x14 x15 x16 ((r96l1 m) x0 (fadd .f32 x1 (fmul .f32 (Int.toNat ((x9.getD (Int.toNat ((x16.getD (Int.toNat x6) []).getD 0 0)) []).getD 0 0)) (Int.toNat ((x7.getD (Int.toNat ((x16.getD (Int.toNat x6) []).getD 0 0)) []).getD 2 0)))) (fadd .f32 x2 (Int.toNat ((x9.getD (Int.toNat ((x16.getD (Int.toNat x6) []).getD 0 0)) []).getD 0 0))) x3 x4 x5 (IntKind.i64.wrap (x6 + 1)) x7 x8 x9 x10 x11 x12 x13 x14 x15 x16)))))) (fun h4 => rfl))))) (fun h3 => (v96l1 x0 x1 x2 x3 x4 x5 x6 x7 x8 x9 x10 x11 x12 x13 x14 x15 x16 ((r96l1 m) x0 x1 x2 x3 x4 x5 (IntKind.i64.wrap (x6 + 1)) x7 x8 x9 x10 x11 x12 x13 x14 x15 x16)))))) (fun h2 => rfl)))) (fun h1 => rfl))) (fun h0 => rfl)))
theorem qm96l1:∀ m,SumKOk Try.prog (loopN Try.f96 1) 94 [0,1,2,3,9,11,13,14,18,19,20,28,29,30] [0,1,2,3,9,11,13,14,18,19,20] (q96l1 m) := by
  intro m
  induction m with
  | zero =>
    intro vals s x h1 h2 h3
    unfold q96l1 at h3; split at h3
    · rename_i h; split at h3
      · rename_i hc; obtain ⟨rfl,rfl,rfl,rfl,rfl,rfl,rfl,rfl,rfl⟩ := hc; exact absurd h3 (by simp [r96l1,firstT,Nat.beq])
      · exact noQ_ok _ _ _ h1 h2 h3
    · exact noQ_ok _ _ _ h1 h2 h3
  | succ m ih =>
    intro vals s x h1 h2 h3
    unfold q96l1 at h3; split at h3
    · rename_i h; split at h3
      · rename_i hc; obtain ⟨rfl,rfl,rfl,rfl,rfl,rfl,rfl,rfl,rfl⟩ := hc; exact sum_step ok45 extOk mixed ((lfOkF_no _ _).inner (by kernel_rfl)) ih h1 h2 h (e96l1 m _ _ _ _ _ _ _ _ _ _ _ _ _ _ _ _ _) rfl h3
      · exact noQ_ok _ _ _ h1 h2 h3
    · exact noQ_ok _ _ _ h1 h2 h3
noncomputable def Q96l1:SumK := fun vals s => q96l1 (fuelOf vals s.h) vals s
theorem qok96l1:SumKOk Try.prog (loopN Try.f96 1) 94 [0,1,2,3,9,11,13,14,18,19,20,28,29,30] [0,1,2,3,9,11,13,14,18,19,20] Q96l1 := fuel_ok qm96l1 fuelOf
noncomputable def L96_1:LoopT := addL noL 9 ([0,1,2,3,9,11,13,14,18,19,20,28,29,30],[]) (sumK 94 [0,1,2,3,9,11,13,14,18,19,20,28,29,30] [0,1,2,3,9,11,13,14,18,19,20] Q96l1)
theorem lok96_1:LfOkF Try.prog L96_1 Try.f96 := lfOkF_add (lfOkF_no _ _) qok96l1 (by kernel_rfl) (by kernel_rfl) (by kernel_rfl)
end Go.Proofs.Ytmknfenjnladeaa
