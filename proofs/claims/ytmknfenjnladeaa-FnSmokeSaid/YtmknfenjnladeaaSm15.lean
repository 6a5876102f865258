/- What the functions that the statements reach answer, part 15. -/
import Derived.Test.YtmknfenjnladeaaSm11
namespace Go.Proofs.Ytmknfenjnladeaa
open Go.Ab
set_option maxHeartbeats 4000000
set_option maxRecDepth 100000

noncomputable def b62l0 (ih:Int→Int→LL→LL→(Nat×LL)) (x0 x1:Int) (x2 x3:LL):Nat×LL :=
 cond (decide ((x1:Int) < x0)) (cond ((decide ((0:Int) ≤ x1)) && (Nat.blt (Int.toNat x1) x3.length)) (cond (flt .f32 (Int.toNat ((x3.getD (Int.toNat x1) []).getD 0 0)) 0) (cond (Nat.ble ((x2.length + 1) * 9) 140737488355328) (cond (Nat.beq ((ih x0 (IntKind.i64.wrap (x1 + 1)) (((x2.drop 0).take x2.length) ++ ([[x1]]:LL)) x3).1) 0) (0,((ih x0 (IntKind.i64.wrap (x1 + 1)) (((x2.drop 0).take x2.length) ++ ([[x1]]:LL)) x3).2)) (cond (Nat.beq ((ih x0 (IntKind.i64.wrap (x1 + 1)) (((x2.drop 0).take x2.length) ++ ([[x1]]:LL)) x3).1) 1) (0,(((x2.drop 0).take x2.length) ++ ([[x1]]:LL))) (2,[]))) (2,[])) (ih x0 (IntKind.i64.wrap (x1 + 1)) x2 x3)) (2,[])) (1,[])
noncomputable def r62l0:Nat→Int→Int→LL→LL→(Nat×LL)
 | 0 => fun _ _ _ _ => (2,[])
 | m + 1 => b62l0 (r62l0 m)
noncomputable def a62l0 (x0 x1:Int) (x2 x3:LL) (p:Nat×LL):Option (Fin'×List Value×St) := firstT ([((Nat.beq (p.1) 0),.exit 0,[wsl 2],⟨[⟨true,none⟩,(tb [.fl .f32] x3),(tb [.int .i64] (p.2))],2,[0]⟩),((Nat.beq (p.1) 1),.exit 0,[wsl 0],⟨[(tb [.int .i64] x2),(tb [.fl .f32] x3)],2,[0]⟩)].map fun (b,x) => (b,(x.1,frameOf 22 [3] x.2.1,x.2.2)))
noncomputable def u62l0 (x0 x1:Int) (x2 x3:LL) (p:Nat×LL):Option (Fin'×List Value×St) := alts ([((Nat.beq (p.1) 0),.exit 0,[wsl 2],⟨[⟨true,none⟩,(tb [.fl .f32] x3),(tb [.int .i64] (p.2))],2,[0]⟩),((Nat.beq (p.1) 1),.exit 0,[wsl 0],⟨[(tb [.int .i64] x2),(tb [.fl .f32] x3)],2,[0]⟩)].map fun (b,x) => (b,(x.1,frameOf 22 [3] x.2.1,x.2.2))) some
theorem v62l0 (x0 x1:Int) (x2 x3:LL) (p:Nat×LL):u62l0 x0 x1 x2 x3 p = a62l0 x0 x1 x2 x3 p := alts_first _
noncomputable def q62l0 (m:Nat):SumK := fun vals s =>
 match vals,s.h with
 | [.iface f0 .nilIface,.iface f1 .nilIface,.int .i64 x0,.int .i64 x1],[⟨true,some (.tab [.int .i64] x2)⟩,⟨true,some (.tab [.fl .f32] x3)⟩] => if f0 = 0 ∧ f1 = 1 then [((Nat.beq ((r62l0 m x0 x1 x2 x3).1) 0),.exit 0,[wsl 2],⟨[⟨true,none⟩,(tb [.fl .f32] x3),(tb [.int .i64] ((r62l0 m x0 x1 x2 x3).2))],2,[0]⟩),((Nat.beq ((r62l0 m x0 x1 x2 x3).1) 1),.exit 0,[wsl 0],⟨[(tb [.int .i64] x2),(tb [.fl .f32] x3)],2,[0]⟩)] else noQ vals s
 | _,_ => noQ vals s
noncomputable def w62l0 (ih:Int→Int→LL→LL→(Nat×LL)) (x0 x1:Int) (x2 x3:LL):Option (Fin'×List Value×St) :=
 (cond (decide ((x1:Int) < x0))
 (cond ((decide ((0:Int) ≤ x1)) && (Nat.blt (Int.toNat x1) x3.length)) (cond (Nat.blt (Int.toNat x1) x3.length) (cond (flt .f32 (Int.toNat ((x3.getD (Int.toNat x1) []).getD 0 0)) 0) (cond (Nat.ble ((x2.length + 1) * 9) 140737488355328) (cond (Nat.beq ((ih x0 (IntKind.i64.wrap (x1 + 1)) (((x2.drop 0).take x2.length) ++ ([[x1]]:LL)) x3).1) 0) (a62l0 x0 x1 x2 x3 (0,((ih x0 (IntKind.i64.wrap (x1 + 1)) (((x2.drop 0).take x2.length) ++ ([[x1]]:LL)) x3).2))) (cond (Nat.beq ((ih x0 (IntKind.i64.wrap (x1 + 1)) (((x2.drop 0).take x2.length) ++ ([[x1]]:LL)) x3).1) 1) (a62l0 x0 x1 x2 x3 (0,(((x2.drop 0).take x2.length) ++ ([[x1]]:LL)))) none)) none) (u62l0 x0 x1 x2 x3 (ih x0 (IntKind.i64.wrap (x1 + 1)) x2 x3))) none) none)
 (a62l0 x0 x1 x2 x3 (1,[])))
theorem e62l0 (m:Nat) (x0 x1:Int) (x2 x3:LL):evC Try.prog ext T74 noL 200 (loopN Try.f62 0) (loopTail ([3,7,8,9],[]) [3] [0] (sumK 22 [3,7,8,9] [3] (q62l0 m))) (frameOf 22 [3,7,8,9] [wsl 0,wsl 1,vi x0,vi x1]) ⟨[(tb [.int .i64] x2),(tb [.fl .f32] x3)],2,[]⟩ = firstT ([((Nat.beq ((r62l0 (m + 1) x0 x1 x2 x3).1) 0),.exit 0,[wsl 2],⟨[⟨true,none⟩,(tb [.fl .f32] x3),(tb [.int .i64] ((r62l0 (m + 1) x0 x1 x2 x3).2))],2,[0]⟩),((Nat.beq ((r62l0 (m + 1) x0 x1 x2 x3).1) 1),.exit 0,[wsl 0],⟨[(tb [.int .i64] x2),(tb [.fl .f32] x3)],2,[0]⟩)].map fun (b,x) => (b,(x.1,frameOf 22 [3] x.2.1,x.2.2))) :=
 (show _ = w62l0 (r62l0 m) x0 x1 x2 x3 from by kernel_rfl).trans
 (show w62l0 (r62l0 m) x0 x1 x2 x3 = a62l0 x0 x1 x2 x3 (r62l0 (m + 1) x0 x1 x2 x3) from by unfold w62l0; show _ = a62l0 x0 x1 x2 x3 (b62l0 (r62l0 m) x0 x1 x2 x3); unfold b62l0; exact (cond_both (a62l0 x0 x1 x2 x3) _ (fun h0 => (cond_both (a62l0 x0 x1 x2 x3) _ (fun h1 => (cond_t (ev_and2 h1) (cond_app (a62l0 x0 x1 x2 x3) _ (cond_app (a62l0 x0 x1 x2 x3) _ (cond_app (a62l0 x0 x1 x2 x3) _ rfl (cond_app (a62l0 x0 x1 x2 x3) _ rfl rfl)) rfl) (v62l0 x0 x1 x2 x3 ((r62l0 m) x0 (IntKind.i64.wrap (x1 + 1)) x2 x3))))) (fun h1 => rfl))) (fun h0 => rfl)))
theorem qm62l0:∀ m,SumKOk Try.prog (loopN Try.f62 0) 22 [3,7,8,9] [3] (q62l0 m) := by
  intro m
  induction m with
  | zero =>
    intro vals s x h1 h2 h3
    unfold q62l0 at h3; split at h3
    · rename_i h; split at h3
      · rename_i hc; obtain ⟨rfl,rfl⟩ := hc; exact absurd h3 (by simp [r62l0,firstT,Nat.beq])
      · exact noQ_ok _ _ _ h1 h2 h3
    · exact noQ_ok _ _ _ h1 h2 h3
  | succ m ih =>
    intro vals s x h1 h2 h3
    unfold q62l0 at h3; split at h3
    · rename_i h; split at h3
      · rename_i hc; obtain ⟨rfl,rfl⟩ := hc; exact sum_step ok74 extOk mixed ((lfOkF_no _ _).inner (by kernel_rfl)) ih h1 h2 h (e62l0 m _ _ _ _) rfl h3
      · exact noQ_ok _ _ _ h1 h2 h3
    · exact noQ_ok _ _ _ h1 h2 h3
noncomputable def Q62l0:SumK := fun vals s => q62l0 (fuelOf vals s.h) vals s
theorem qok62l0:SumKOk Try.prog (loopN Try.f62 0) 22 [3,7,8,9] [3] Q62l0 := fuel_ok qm62l0 fuelOf
noncomputable def L62_1:LoopT := addL noL 4 ([3,7,8,9],[]) (sumK 22 [3,7,8,9] [3] Q62l0)
theorem lok62_1:LfOkF Try.prog L62_1 Try.f62 := lfOkF_add (lfOkF_no _ _) qok62l0 (by kernel_rfl) (by kernel_rfl) (by kernel_rfl)

noncomputable def r62 (x0:LL):Nat×LL :=
 cond (Nat.beq ((r62l0 (1000 + x0.length + 0) ((x0.length:Nat):Int) 0 ([]:LL) x0).1) 0) (0,((r62l0 (1000 + x0.length + 0) ((x0.length:Nat):Int) 0 ([]:LL) x0).2)) (cond (Nat.beq ((r62l0 (1000 + x0.length + 0) ((x0.length:Nat):Int) 0 ([]:LL) x0).1) 1) (0,([]:LL)) (1,[]))
noncomputable def a62 (x0:LL) (p:Nat×LL):Res := firstT [((Nat.beq (p.1) 0),wsl 1,⟨[(tb [.fl .f32] x0),(tb [.int .i64] (p.2))],1,[]⟩)]
noncomputable def w62 (x0:LL):Res :=
 (cond (Nat.beq ((r62l0 (1000 + x0.length + 0) ((x0.length:Nat):Int) 0 ([]:LL) x0).1) 0)
 (a62 x0 (0,((r62l0 (1000 + x0.length + 0) ((x0.length:Nat):Int) 0 ([]:LL) x0).2)))
 (cond (Nat.beq ((r62l0 (1000 + x0.length + 0) ((x0.length:Nat):Int) 0 ([]:LL) x0).1) 1) (a62 x0 (0,([]:LL))) none))
theorem e62 (x0:LL):evFn Try.prog ext T74 L62_1 200 Try.f62 [wsl 0] ⟨[(tb [.fl .f32] x0)],1,[]⟩ = firstT [((Nat.beq ((r62 x0).1) 0),wsl 1,⟨[(tb [.fl .f32] x0),(tb [.int .i64] ((r62 x0).2))],1,[]⟩)] :=
 (show _ = w62 x0 from by kernel_rfl).trans
 (show w62 x0 = a62 x0 (r62 x0) from by unfold w62 r62; exact (cond_app (a62 x0) _ rfl (cond_app (a62 x0) _ rfl rfl)))
noncomputable def s62 (args:List Value) (s:St):List (Bool×Value×St) :=
 match args,s.h with
 | [.iface f0 .nilIface],[⟨true,some (.tab [.fl .f32] x0)⟩] => if f0 = 0 then [((Nat.beq ((r62 x0).1) 0),wsl 1,⟨[(tb [.fl .f32] x0),(tb [.int .i64] ((r62 x0).2))],1,[]⟩)] else T74 62 args s
 | _,_ => T74 62 args s
noncomputable def T75:CallF := addF T74 62 s62
theorem ok75:CfOk Try.prog T75 := by
  refine cfOk_add ok74 fun args s r s' h1 h2 h3 => ?_
  unfold s62 at h3; split at h3
  · rename_i h; split at h3
    · rename_i hc; obtain ⟨rfl⟩ := hc; exact callOk ok74 Try.func62 h1 h2 h lok62_1.body (e62 _) rfl h3
    · exact ok74 _ _ _ _ _ h1 h2 h3
  · exact ok74 _ _ _ _ _ h1 h2 h3

noncomputable def b43l0 (ih:Nat→Nat→Nat→Int→Int→LL→LL→(Nat×Int)) (x0 x1 x2:Nat) (x3 x4:Int) (x5 x6:LL):Nat×Int :=
 cond (Nat.beq ((r58 x0 x1 x5).1) 0) (cond (Nat.beq ((r62 ((r58 x0 x1 x5).2)).1) 0) (cond ((((((r62 ((r58 x0 x1 x5).2)).2).length:Nat):Int):Int) == 0) (0,x4) (cond ((x4:Int) == x3) (1,0) (cond (Nat.beq ((r102 x0 x1 x2 x5 x6).1) 0) (2,0) (cond (Nat.beq ((r102 x0 x1 x2 x5 x6).1) 1) (cond (!((r102 x0 x1 x2 x5 x6).2.1)) (2,0) (ih x0 x1 x2 x3 (IntKind.i64.wrap (x4 + 1)) ((r102 x0 x1 x2 x5 x6).2.2.1) x6)) (3,0))))) (3,0)) (3,0)
noncomputable def r43l0:Nat→Nat→Nat→Nat→Int→Int→LL→LL→(Nat×Int)
 | 0 => fun _ _ _ _ _ _ _ => (3,0)
 | m + 1 => b43l0 (r43l0 m)
noncomputable def a43l0 (x0 x1 x2:Nat) (x3 x4:Int) (x5 x6:LL) (p:Nat×Int):Option (Fin'×List Value×St) := firstT ([((Nat.beq (p.1) 0),.ret,[vi (p.2),vi 0],⟨[(tb sc0 x5),(tb [.fl .f32] x6)],2,[]⟩),((Nat.beq (p.1) 1),.ret,[vi 0,vi 7],⟨[(tb sc0 x5),(tb [.fl .f32] x6)],2,[]⟩),((Nat.beq (p.1) 2),.ret,[vi 0,vi 4],⟨[(tb sc0 x5),(tb [.fl .f32] x6)],2,[]⟩)].map fun (b,x) => (b,(x.1,frameOf 60 [12,13] x.2.1,x.2.2)))
noncomputable def u43l0 (x0 x1 x2:Nat) (x3 x4:Int) (x5 x6:LL) (p:Nat×Int):Option (Fin'×List Value×St) := alts ([((Nat.beq (p.1) 0),.ret,[vi (p.2),vi 0],⟨[(tb sc0 x5),(tb [.fl .f32] x6)],2,[]⟩),((Nat.beq (p.1) 1),.ret,[vi 0,vi 7],⟨[(tb sc0 x5),(tb [.fl .f32] x6)],2,[]⟩),((Nat.beq (p.1) 2),.ret,[vi 0,vi 4],⟨[(tb sc0 x5),(tb [.fl .f32] x6)],2,[]⟩)].map fun (b,x) => (b,(x.1,frameOf 60 [12,13] x.2.1,x.2.2))) some
theorem v43l0 (x0 x1 x2:Nat) (x3 x4:Int) (x5 x6:LL) (p:Nat×Int):u43l0 x0 x1 x2 x3 x4 x5 x6 p = a43l0 x0 x1 x2 x3 x4 x5 x6 p := alts_first _
noncomputable def q43l0 (m:Nat):SumK := fun vals s =>
 match vals,s.h with
 | [.iface f0 .nilIface,.iface f1 .nilIface,.float .f32 x0,.float .f32 x1,.float .f32 x2,.int .i64 x3,.int .i64 x4],[⟨true,some (.tab [.fl .f32,.fl .f32,.fl .f32,.fl .f32,.int .i64] x5)⟩,⟨true,some (.tab [.fl .f32] x6)⟩] => if f0 = 0 ∧ f1 = 1 then [((Nat.beq ((r43l0 m x0 x1 x2 x3 x4 x5 x6).1) 0),.ret,[vi ((r43l0 m x0 x1 x2 x3 x4 x5 x6).2),vi 0],⟨[(tb sc0 x5),(tb [.fl .f32] x6)],2,[]⟩),((Nat.beq ((r43l0 m x0 x1 x2 x3 x4 x5 x6).1) 1),.ret,[vi 0,vi 7],⟨[(tb sc0 x5),(tb [.fl .f32] x6)],2,[]⟩),((Nat.beq ((r43l0 m x0 x1 x2 x3 x4 x5 x6).1) 2),.ret,[vi 0,vi 4],⟨[(tb sc0 x5),(tb [.fl .f32] x6)],2,[]⟩)] else noQ vals s
 | _,_ => noQ vals s
noncomputable def w43l0 (ih:Nat→Nat→Nat→Int→Int→LL→LL→(Nat×Int)) (x0 x1 x2:Nat) (x3 x4:Int) (x5 x6:LL):Option (Fin'×List Value×St) :=
 (cond (Nat.beq ((r58 x0 x1 x5).1) 0)
 (cond (Nat.beq ((r62 ((r58 x0 x1 x5).2)).1) 0) (cond ((((((r62 ((r58 x0 x1 x5).2)).2).length:Nat):Int):Int) == 0) (a43l0 x0 x1 x2 x3 x4 x5 x6 (0,x4)) (cond ((x4:Int) == x3) (a43l0 x0 x1 x2 x3 x4 x5 x6 (1,0)) (cond (Nat.beq ((r102 x0 x1 x2 x5 x6).1) 0) (a43l0 x0 x1 x2 x3 x4 x5 x6 (2,0)) (cond (Nat.beq ((r102 x0 x1 x2 x5 x6).1) 1) (cond (!((r102 x0 x1 x2 x5 x6).2.1)) (a43l0 x0 x1 x2 x3 x4 x5 x6 (2,0)) (u43l0 x0 x1 x2 x3 x4 x5 x6 (ih x0 x1 x2 x3 (IntKind.i64.wrap (x4 + 1)) ((r102 x0 x1 x2 x5 x6).2.2.1) x6))) none)))) none)
 none)
theorem e43l0 (m:Nat) (x0 x1 x2:Nat) (x3 x4:Int) (x5 x6:LL):evC Try.prog ext T75 noL 200 (loopN Try.f43 0) (loopTail ([0,1,2,3,4,5,15],[]) [12,13] [] (sumK 60 [0,1,2,3,4,5,15] [12,13] (q43l0 m))) (frameOf 60 [0,1,2,3,4,5,15] [wsl 0,wsl 1,vf x0,vf x1,vf x2,vi x3,vi x4]) ⟨[(tb sc0 x5),(tb [.fl .f32] x6)],2,[]⟩ = firstT ([((Nat.beq ((r43l0 (m + 1) x0 x1 x2 x3 x4 x5 x6).1) 0),.ret,[vi ((r43l0 (m + 1) x0 x1 x2 x3 x4 x5 x6).2),vi 0],⟨[(tb sc0 x5),(tb [.fl .f32] x6)],2,[]⟩),((Nat.beq ((r43l0 (m + 1) x0 x1 x2 x3 x4 x5 x6).1) 1),.ret,[vi 0,vi 7],⟨[(tb sc0 x5),(tb [.fl .f32] x6)],2,[]⟩),((Nat.beq ((r43l0 (m + 1) x0 x1 x2 x3 x4 x5 x6).1) 2),.ret,[vi 0,vi 4],⟨[(tb sc0 x5),(tb [.fl .f32] x6)],2,[]⟩)].map fun (b,x) => (b,(x.1,frameOf 60 [12,13] x.2.1,x.2.2))) :=
 (show _ = w43l0 (r43l0 m) x0 x1 x2 x3 x4 x5 x6 from by kernel_rfl).trans
 (show w43l0 (r43l0 m) x0 x1 x2 x3 x4 x5 x6 = a43l0 x0 x1 x2 x3 x4 x5 x6 (r43l0 (m + 1) x0 x1 x2 x3 x4 x5 x6) from by unfold w43l0; show _ = a43l0 x0 x1 x2 x3 x4 x5 x6 (b43l0 (r43l0 m) x0 x1 x2 x3 x4 x5 x6); unfold b43l0; exact (cond_app (a43l0 x0 x1 x2 x3 x4 x5 x6) _ (cond_app (a43l0 x0 x1 x2 x3 x4 x5 x6) _ (cond_app (a43l0 x0 x1 x2 x3 x4 x5 x6) _ rfl (cond_app (a43l0 x0 x1 x2 x3 x4 x5 x6) _ rfl (cond_app (a43l0 x0 x1 x2 x3 x4 x5 x6) _ rfl (cond_app (a43l0 x0 x1 x2 x3 x4 x5 x6) _ (cond_app (a43l0 x0 x1 x2 x3 x4 x5 x6) _ rfl (v43l0 x0 x1 x2 x3 x4 x5 x6 ((r43l0 m) x0 x1 x2 x3 (IntKind.i64.wrap (x4 + 1)) ((r102 x0 x1 x2 x5 x6).2.2.1) x6))) rfl)))) rfl) rfl))
theorem qm43l0:∀ m,SumKOk Try.prog (loopN Try.f43 0) 60 [0,1,2,3,4,5,15] [12,13] (q43l0 m) := by
  intro m
  induction m with
  | zero =>
    intro vals s x h1 h2 h3
    unfold q43l0 at h3; split at h3
    · rename_i h; split at h3
      · rename_i hc; obtain ⟨rfl,rfl⟩ := hc; exact absurd h3 (by simp [r43l0,firstT,Nat.beq])
      · exact noQ_ok _ _ _ h1 h2 h3
    · exact noQ_ok _ _ _ h1 h2 h3
  | succ m ih =>
    intro vals s x h1 h2 h3
    unfold q43l0 at h3; split at h3
    · rename_i h; split at h3
      · rename_i hc; obtain ⟨rfl,rfl⟩ := hc; exact sum_step ok75 extOk mixed ((lfOkF_no _ _).inner (by kernel_rfl)) ih h1 h2 h (e43l0 m _ _ _ _ _ _ _) rfl h3
      · exact noQ_ok _ _ _ h1 h2 h3
    · exact noQ_ok _ _ _ h1 h2 h3
noncomputable def Q43l0:SumK := fun vals s => q43l0 (fuelOf vals s.h) vals s
theorem qok43l0:SumKOk Try.prog (loopN Try.f43 0) 60 [0,1,2,3,4,5,15] [12,13] Q43l0 := fuel_ok qm43l0 fuelOf
noncomputable def L43_1:LoopT := addL noL 9 ([0,1,2,3,4,5,15],[]) (sumK 60 [0,1,2,3,4,5,15] [12,13] Q43l0)
theorem lok43_1:LfOkF Try.prog L43_1 Try.f43 := lfOkF_add (lfOkF_no _ _) qok43l0 (by kernel_rfl) (by kernel_rfl) (by kernel_rfl)

noncomputable def r43 (x0 x1 x2:Nat) (x3:Int) (x4 x5:LL):Nat×Int :=
 cond (Nat.beq (r101 x0 x1 x2 x4 x5) 0) (0,0) (cond (Nat.beq (r101 x0 x1 x2 x4 x5) 1) (1,0) (cond (Nat.beq (r101 x0 x1 x2 x4 x5) 2) (cond (decide ((x3:Int) < 0)) (1,0) (cond (decide ((x3:Int) > 200)) (1,0) (cond (Nat.beq ((r43l0 (1000 + x5.length + x4.length) x0 x1 x2 x3 0 x4 x5).1) 0) (2,((r43l0 (1000 + x5.length + x4.length) x0 x1 x2 x3 0 x4 x5).2)) (cond (Nat.beq ((r43l0 (1000 + x5.length + x4.length) x0 x1 x2 x3 0 x4 x5).1) 1) (3,0) (cond (Nat.beq ((r43l0 (1000 + x5.length + x4.length) x0 x1 x2 x3 0 x4 x5).1) 2) (4,0) (5,0)))))) (5,0)))
noncomputable def a43 (x0 x1 x2:Nat) (x3:Int) (x4 x5:LL) (p:Nat×Int):Res := firstT [((Nat.beq (p.1) 0),.tuple #[vi 0,vi 1],⟨[(tb sc0 x4),(tb [.fl .f32] x5)],2,[]⟩),((Nat.beq (p.1) 1),.tuple #[vi 0,vi 2],⟨[(tb sc0 x4),(tb [.fl .f32] x5)],2,[]⟩),((Nat.beq (p.1) 2),.tuple #[vi (p.2),vi 0],⟨[(tb sc0 x4),(tb [.fl .f32] x5)],2,[]⟩),((Nat.beq (p.1) 3),.tuple #[vi 0,vi 7],⟨[(tb sc0 x4),(tb [.fl .f32] x5)],2,[]⟩),((Nat.beq (p.1) 4),.tuple #[vi 0,vi 4],⟨[(tb sc0 x4),(tb [.fl .f32] x5)],2,[]⟩)]
noncomputable def w43 (x0 x1 x2:Nat) (x3:Int) (x4 x5:LL):Res :=
 (cond (Nat.beq (r101 x0 x1 x2 x4 x5) 0)
 (a43 x0 x1 x2 x3 x4 x5 (0,0))
 (cond (Nat.beq (r101 x0 x1 x2 x4 x5) 1) (a43 x0 x1 x2 x3 x4 x5 (1,0)) (cond (Nat.beq (r101 x0 x1 x2 x4 x5) 2) (cond (decide ((x3:Int) < 0)) (a43 x0 x1 x2 x3 x4 x5 (1,0)) (cond (decide ((x3:Int) > 200)) (a43 x0 x1 x2 x3 x4 x5 (1,0)) (cond (Nat.beq ((r43l0 (1000 + x5.length + x4.length) x0 x1 x2 x3 0 x4 x5).1) 0) (a43 x0 x1 x2 x3 x4 x5 (2,((r43l0 (1000 + x5.length + x4.length) x0 x1 x2 x3 0 x4 x5).2))) (cond (Nat.beq ((r43l0 (1000 + x5.length + x4.length) x0 x1 x2 x3 0 x4 x5).1) 1) (a43 x0 x1 x2 x3 x4 x5 (3,0)) (cond (Nat.beq ((r43l0 (1000 + x5.length + x4.length) x0 x1 x2 x3 0 x4 x5).1) 2) (a43 x0 x1 x2 x3 x4 x5 (4,0)) none))))) none)))
theorem e43 (x0 x1 x2:Nat) (x3:Int) (x4 x5:LL):evFn Try.prog ext T75 L43_1 200 Try.f43 [wsl 0,wsl 1,vf x0,vf x1,vf x2,vi x3] ⟨[(tb sc0 x4),(tb [.fl .f32] x5)],2,[]⟩ = firstT [((Nat.beq ((r43 x0 x1 x2 x3 x4 x5).1) 0),.tuple #[vi 0,vi 1],⟨[(tb sc0 x4),(tb [.fl .f32] x5)],2,[]⟩),((Nat.beq ((r43 x0 x1 x2 x3 x4 x5).1) 1),.tuple #[vi 0,vi 2],⟨[(tb sc0 x4),(tb [.fl .f32] x5)],2,[]⟩),((Nat.beq ((r43 x0 x1 x2 x3 x4 x5).1) 2),.tuple #[vi ((r43 x0 x1 x2 x3 x4 x5).2),vi 0],⟨[(tb sc0 x4),(tb [.fl .f32] x5)],2,[]⟩),((Nat.beq ((r43 x0 x1 x2 x3 x4 x5).1) 3),.tuple #[vi 0,vi 7],⟨[(tb sc0 x4),(tb [.fl .f32] x5)],2,[]⟩),((Nat.beq ((r43 x0 x1 x2 x3 x4 x5).1) 4),.tuple #[vi 0,vi 4],⟨[(tb sc0 x4),(tb [.fl .f32] x5)],2,[]⟩)] :=
 (show _ = w43 x0 x1 x2 x3 x4 x5 from by kernel_rfl).trans
 (show w43 x0 x1 x2 x3 x4 x5 = a43 x0 x1 x2 x3 x4 x5 (r43 x0 x1 x2 x3 x4 x5) from by unfold w43 r43; exact (cond_app (a43 x0 x1 x2 x3 x4 x5) _ rfl (cond_app (a43 x0 x1 x2 x3 x4 x5) _ rfl (cond_app (a43 x0 x1 x2 x3 x4 x5) _ (cond_app (a43 x0 x1 x2 x3 x4 x5) _ rfl (cond_app (a43 x0 x1 x2 x3 x4 x5) _ rfl (cond_app (a43 x0 x1 x2 x3 x4 x5) _ rfl (cond_app (a43 x0 x1 x2 x3 x4 x5) _ rfl (cond_app (a43 x0 x1 x2 x3 x4 x5) _ rfl rfl))))) rfl))))
noncomputable def s43 (args:List Value) (s:St):List (Bool×Value×St) :=
 match args,s.h with
 | [.iface f0 .nilIface,.iface f1 .nilIface,.float .f32 x0,.float .f32 x1,.float .f32 x2,.int .i64 x3],[⟨true,some (.tab [.fl .f32,.fl .f32,.fl .f32,.fl .f32,.int .i64] x4)⟩,⟨true,some (.tab [.fl .f32] x5)⟩] => if f0 = 0 ∧ f1 = 1 then [((Nat.beq ((r43 x0 x1 x2 x3 x4 x5).1) 0),.tuple #[vi 0,vi 1],⟨[(tb sc0 x4),(tb [.fl .f32] x5)],2,[]⟩),((Nat.beq ((r43 x0 x1 x2 x3 x4 x5).1) 1),.tuple #[vi 0,vi 2],⟨[(tb sc0 x4),(tb [.fl .f32] x5)],2,[]⟩),((Nat.beq ((r43 x0 x1 x2 x3 x4 x5).1) 2),.tuple #[vi ((r43 x0 x1 x2 x3 x4 x5).2),vi 0],⟨[(tb sc0 x4),(tb [.fl .f32] x5)],2,[]⟩),((Nat.beq ((r43 x0 x1 x2 x3 x4 x5).1) 3),.tuple #[vi 0,vi 7],⟨[(tb sc0 x4),(tb [.fl .f32] x5)],2,[]⟩),((Nat.beq ((r43 x0 x1 x2 x3 x4 x5).1) 4),.tuple #[vi 0,vi 4],⟨[(tb sc0 x4),(tb [.fl .f32] x5)],2,[]⟩)] else T75 43 args s
 | _,_ => T75 43 args s
noncomputable def T76:CallF := addF T75 43 s43
theorem ok76:CfOk Try.prog T76 := by
  refine cfOk_add ok75 fun args s r s' h1 h2 h3 => ?_
  unfold s43 at h3; split at h3
  · rename_i h; split at h3
    · rename_i hc; obtain ⟨rfl,rfl⟩ := hc; exact callOk ok75 Try.func43 h1 h2 h lok43_1.body (e43 _ _ _ _ _ _) rfl h3
    · exact ok75 _ _ _ _ _ h1 h2 h3
  · exact ok75 _ _ _ _ _ h1 h2 h3

noncomputable def b106l0 (ih:Int→LL→LL→(Nat×LL)) (x0:Int) (x1 x2:LL):Nat×LL :=
 cond (decide ((x0:Int) < ((x1.length:Nat):Int))) (cond ((decide ((0:Int) ≤ x0)) && (Nat.blt (Int.toNat x0) x1.length)) (cond (flt .f32 (Int.toNat ((x1.getD (Int.toNat x0) []).getD 0 0)) 0) (cond (Nat.ble ((x2.length + 1) * 9) 140737488355328) (cond (Nat.beq ((ih (IntKind.i64.wrap (x0 + 1)) x1 (((x2.drop 0).take x2.length) ++ ([[x0]]:LL))).1) 0) (0,((ih (IntKind.i64.wrap (x0 + 1)) x1 (((x2.drop 0).take x2.length) ++ ([[x0]]:LL))).2)) (cond (Nat.beq ((ih (IntKind.i64.wrap (x0 + 1)) x1 (((x2.drop 0).take x2.length) ++ ([[x0]]:LL))).1) 1) (0,(((x2.drop 0).take x2.length) ++ ([[x0]]:LL))) (2,[]))) (2,[])) (ih (IntKind.i64.wrap (x0 + 1)) x1 x2)) (2,[])) (1,[])
noncomputable def r106l0:Nat→Int→LL→LL→(Nat×LL)
 | 0 => fun _ _ _ => (2,[])
 | m + 1 => b106l0 (r106l0 m)
noncomputable def a106l0 (x0:Int) (x1 x2:LL) (p:Nat×LL):Option (Fin'×List Value×St) := firstT ([((Nat.beq (p.1) 0),.exit 0,[wsl 2],⟨[(tb [.fl .f32] x1),⟨true,none⟩,(tb [.int .i64] (p.2))],2,[1]⟩),((Nat.beq (p.1) 1),.exit 0,[wsl 1],⟨[(tb [.fl .f32] x1),(tb [.int .i64] x2)],2,[1]⟩)].map fun (b,x) => (b,(x.1,frameOf 22 [3] x.2.1,x.2.2)))
noncomputable def u106l0 (x0:Int) (x1 x2:LL) (p:Nat×LL):Option (Fin'×List Value×St) := alts ([((Nat.beq (p.1) 0),.exit 0,[wsl 2],⟨[(tb [.fl .f32] x1),⟨true,none⟩,(tb [.int .i64] (p.2))],2,[1]⟩),((Nat.beq (p.1) 1),.exit 0,[wsl 1],⟨[(tb [.fl .f32] x1),(tb [.int .i64] x2)],2,[1]⟩)].map fun (b,x) => (b,(x.1,frameOf 22 [3] x.2.1,x.2.2))) some
theorem v106l0 (x0:Int) (x1 x2:LL) (p:Nat×LL):u106l0 x0 x1 x2 p = a106l0 x0 x1 x2 p := alts_first _
noncomputable def q106l0 (m:Nat):SumK := fun vals s =>
 match vals,s.h with
 | [.iface f0 .nilIface,.iface f1 .nilIface,.int .i64 x0],[⟨true,some (.tab [.fl .f32] x1)⟩,⟨true,some (.tab [.int .i64] x2)⟩] => if f0 = 0 ∧ f1 = 1 then [((Nat.beq ((r106l0 m x0 x1 x2).1) 0),.exit 0,[wsl 2],⟨[(tb [.fl .f32] x1),⟨true,none⟩,(tb [.int .i64] ((r106l0 m x0 x1 x2).2))],2,[1]⟩),((Nat.beq ((r106l0 m x0 x1 x2).1) 1),.exit 0,[wsl 1],⟨[(tb [.fl .f32] x1),(tb [.int .i64] x2)],2,[1]⟩)] else noQ vals s
 | _,_ => noQ vals s
noncomputable def w106l0 (ih:Int→LL→LL→(Nat×LL)) (x0:Int) (x1 x2:LL):Option (Fin'×List Value×St) :=
 (cond (decide ((x0:Int) < ((x1.length:Nat):Int)))
 (cond ((decide ((0:Int) ≤ x0)) && (Nat.blt (Int.toNat x0) x1.length)) (cond (Nat.blt (Int.toNat x0) x1.length) (cond (flt .f32 (Int.toNat ((x1.getD (Int.toNat x0) []).getD 0 0)) 0) (cond (Nat.ble ((x2.length + 1) * 9) 140737488355328) (cond (Nat.beq ((ih (IntKind.i64.wrap (x0 + 1)) x1 (((x2.drop 0).take x2.length) ++ ([[x0]]:LL))).1) 0) (a106l0 x0 x1 x2 (0,((ih (IntKind.i64.wrap (x0 + 1)) x1 (((x2.drop 0).take x2.length) ++ ([[x0]]:LL))).2))) (cond (Nat.beq ((ih (IntKind.i64.wrap (x0 + 1)) x1 (((x2.drop 0).take x2.length) ++ ([[x0]]:LL))).1) 1) (a106l0 x0 x1 x2 (0,(((x2.drop 0).take x2.length) ++ ([[x0]]:LL)))) none)) none) (u106l0 x0 x1 x2 (ih (IntKind.i64.wrap (x0 + 1)) x1 x2))) none) none)
 (a106l0 x0 x1 x2 (1,[])))
theorem e106l0 (m:Nat) (x0:Int) (x1 x2:LL):evC Try.prog ext T76 noL 200 (loopN Try.f106 0) (loopTail ([0,3,4],[]) [3] [1] (sumK 22 [0,3,4] [3] (q106l0 m))) (frameOf 22 [0,3,4] [wsl 0,wsl 1,vi x0]) ⟨[(tb [.fl .f32] x1),(tb [.int .i64] x2)],2,[]⟩ = firstT ([((Nat.beq ((r106l0 (m + 1) x0 x1 x2).1) 0),.exit 0,[wsl 2],⟨[(tb [.fl .f32] x1),⟨true,none⟩,(tb [.int .i64] ((r106l0 (m + 1) x0 x1 x2).2))],2,[1]⟩),((Nat.beq ((r106l0 (m + 1) x0 x1 x2).1) 1),.exit 0,[wsl 1],⟨[(tb [.fl .f32] x1),(tb [.int .i64] x2)],2,[1]⟩)].map fun (b,x) => (b,(x.1,frameOf 22 [3] x.2.1,x.2.2))) :=
 (show _ = w106l0 (r106l0 m) x0 x1 x2 from by kernel_rfl).trans
 (show w106l0 (r106l0 m) x0 x1 x2 = a106l0 x0 x1 x2 (r106l0 (m + 1) x0 x1 x2) from by unfold w106l0; show _ = a106l0 x0 x1 x2 (b106l0 (r106l0 m) x0 x1 x2); unfold b106l0; exact (cond_both (a106l0 x0 x1 x2) _ (fun h0 => (cond_both (a106l0 x0 x1 x2) _ (fun h1 => (cond_t (ev_and2 h1) (cond_app (a106l0 x0 x1 x2) _ (cond_app (a106l0 x0 x1 x2) _ (cond_app (a106l0 x0 x1 x2) _ rfl (cond_app (a106l0 x0 x1 x2) _ rfl rfl)) rfl) (v106l0 x0 x1 x2 ((r106l0 m) (IntKind.i64.wrap (x0 + 1)) x1 x2))))) (fun h1 => rfl))) (fun h0 => rfl)))
theorem qm106l0:∀ m,SumKOk Try.prog (loopN Try.f106 0) 22 [0,3,4] [3] (q106l0 m) := by
  intro m
  induction m with
  | zero =>
    intro vals s x h1 h2 h3
    unfold q106l0 at h3; split at h3
    · rename_i h; split at h3
      · rename_i hc; obtain ⟨rfl,rfl⟩ := hc; exact absurd h3 (by simp [r106l0,firstT,Nat.beq])
      · exact noQ_ok _ _ _ h1 h2 h3
    · exact noQ_ok _ _ _ h1 h2 h3
  | succ m ih =>
    intro vals s x h1 h2 h3
    unfold q106l0 at h3; split at h3
    · rename_i h; split at h3
      · rename_i hc; obtain ⟨rfl,rfl⟩ := hc; exact sum_step ok76 extOk mixed ((lfOkF_no _ _).inner (by kernel_rfl)) ih h1 h2 h (e106l0 m _ _ _) rfl h3
      · exact noQ_ok _ _ _ h1 h2 h3
    · exact noQ_ok _ _ _ h1 h2 h3
noncomputable def Q106l0:SumK := fun vals s => q106l0 (fuelOf vals s.h) vals s
theorem qok106l0:SumKOk Try.prog (loopN Try.f106 0) 22 [0,3,4] [3] Q106l0 := fuel_ok qm106l0 fuelOf
noncomputable def L106_1:LoopT := addL noL 4 ([0,3,4],[]) (sumK 22 [0,3,4] [3] Q106l0)
theorem lok106_1:LfOkF Try.prog L106_1 Try.f106 := lfOkF_add (lfOkF_no _ _) qok106l0 (by kernel_rfl) (by kernel_rfl) (by kernel_rfl)

noncomputable def r106 (x0:LL):Nat×LL :=
 cond (Nat.beq ((r106l0 (1000 + 0 + x0.length) 0 x0 ([]:LL)).1) 0) (0,((r106l0 (1000 + 0 + x0.length) 0 x0 ([]:LL)).2)) (cond (Nat.beq ((r106l0 (1000 + 0 + x0.length) 0 x0 ([]:LL)).1) 1) (0,([]:LL)) (1,[]))
noncomputable def a106 (x0:LL) (p:Nat×LL):Res := firstT [((Nat.beq (p.1) 0),wsl 1,⟨[(tb [.fl .f32] x0),(tb [.int .i64] (p.2))],1,[]⟩)]
noncomputable def w106 (x0:LL):Res :=
 (cond (Nat.beq ((r106l0 (1000 + 0 + x0.length) 0 x0 ([]:LL)).1) 0)
 (a106 x0 (0,((r106l0 (1000 + 0 + x0.length) 0 x0 ([]:LL)).2)))
 (cond (Nat.beq ((r106l0 (1000 + 0 + x0.length) 0 x0 ([]:LL)).1) 1) (a106 x0 (0,([]:LL))) none))
theorem e106 (x0:LL):evFn Try.prog ext T76 L106_1 200 Try.f106 [wsl 0] ⟨[(tb [.fl .f32] x0)],1,[]⟩ = firstT [((Nat.beq ((r106 x0).1) 0),wsl 1,⟨[(tb [.fl .f32] x0),(tb [.int .i64] ((r106 x0).2))],1,[]⟩)] :=
 (show _ = w106 x0 from by kernel_rfl).trans
 (show w106 x0 = a106 x0 (r106 x0) from by unfold w106 r106; exact (cond_app (a106 x0) _ rfl (cond_app (a106 x0) _ rfl rfl)))
noncomputable def s106 (args:List Value) (s:St):List (Bool×Value×St) :=
 match args,s.h with
 | [.iface f0 .nilIface],[⟨true,some (.tab [.fl .f32] x0)⟩] => if f0 = 0 then [((Nat.beq ((r106 x0).1) 0),wsl 1,⟨[(tb [.fl .f32] x0),(tb [.int .i64] ((r106 x0).2))],1,[]⟩)] else T76 106 args s
 | _,_ => T76 106 args s
noncomputable def T77:CallF := addF T76 106 s106
theorem ok77:CfOk Try.prog T77 := by
  refine cfOk_add ok76 fun args s r s' h1 h2 h3 => ?_
  unfold s106 at h3; split at h3
  · rename_i h; split at h3
    · rename_i hc; obtain ⟨rfl⟩ := hc; exact callOk ok76 Try.func106 h1 h2 h lok106_1.body (e106 _) rfl h3
    · exact ok76 _ _ _ _ _ h1 h2 h3
  · exact ok76 _ _ _ _ _ h1 h2 h3

noncomputable def b44l0 (ih:Nat→Nat→Nat→Int→Int→LL→LL→(Nat×Int)) (x0 x1 x2:Nat) (x3 x4:Int) (x5 x6:LL):Nat×Int :=
 cond (Nat.beq ((r61 x0 x1 x5).1) 0) (0,0) (cond (Nat.beq ((r61 x0 x1 x5).1) 1) (cond (Nat.beq ((r106 ((r61 x0 x1 x5).2)).1) 0) (cond ((((((r106 ((r61 x0 x1 x5).2)).2).length:Nat):Int):Int) == 0) (1,x4) (cond ((x4:Int) == x3) (2,0) (cond (Nat.beq ((r104 x0 x1 x2 x5 x6).1) 0) (0,0) (cond (Nat.beq ((r104 x0 x1 x2 x5 x6).1) 1) (ih x0 x1 x2 x3 (IntKind.i64.wrap (x4 + 1)) ((r104 x0 x1 x2 x5 x6).2.1) x6) (3,0))))) (3,0)) (3,0))
noncomputable def r44l0:Nat→Nat→Nat→Nat→Int→Int→LL→LL→(Nat×Int)
 | 0 => fun _ _ _ _ _ _ _ => (3,0)
 | m + 1 => b44l0 (r44l0 m)
noncomputable def a44l0 (x0 x1 x2:Nat) (x3 x4:Int) (x5 x6:LL) (p:Nat×Int):Option (Fin'×List Value×St) := firstT ([((Nat.beq (p.1) 0),.ret,[vi 0,vi 4],⟨[(tb sc0 x5),(tb [.fl .f32] x6)],2,[]⟩),((Nat.beq (p.1) 1),.ret,[vi (p.2),vi 0],⟨[(tb sc0 x5),(tb [.fl .f32] x6)],2,[]⟩),((Nat.beq (p.1) 2),.ret,[vi 0,vi 7],⟨[(tb sc0 x5),(tb [.fl .f32] x6)],2,[]⟩)].map fun (b,x) => (b,(x.1,frameOf 67 [12,13] x.2.1,x.2.2)))
noncomputable def u44l0 (x0 x1 x2:Nat) (x3 x4:Int) (x5 x6:LL) (p:Nat×Int):Option (Fin'×List Value×St) := alts ([((Nat.beq (p.1) 0),.ret,[vi 0,vi 4],⟨[(tb sc0 x5),(tb [.fl .f32] x6)],2,[]⟩),((Nat.beq (p.1) 1),.ret,[vi (p.2),vi 0],⟨[(tb sc0 x5),(tb [.fl .f32] x6)],2,[]⟩),((Nat.beq (p.1) 2),.ret,[vi 0,vi 7],⟨[(tb sc0 x5),(tb [.fl .f32] x6)],2,[]⟩)].map fun (b,x) => (b,(x.1,frameOf 67 [12,13] x.2.1,x.2.2))) some
theorem v44l0 (x0 x1 x2:Nat) (x3 x4:Int) (x5 x6:LL) (p:Nat×Int):u44l0 x0 x1 x2 x3 x4 x5 x6 p = a44l0 x0 x1 x2 x3 x4 x5 x6 p := alts_first _
noncomputable def q44l0 (m:Nat):SumK := fun vals s =>
 match vals,s.h with
 | [.iface f0 .nilIface,.iface f1 .nilIface,.float .f32 x0,.float .f32 x1,.float .f32 x2,.int .i64 x3,.int .i64 x4],[⟨true,some (.tab [.fl .f32,.fl .f32,.fl .f32,.fl .f32,.int .i64] x5)⟩,⟨true,some (.tab [.fl .f32] x6)⟩] => if f0 = 0 ∧ f1 = 1 then [((Nat.beq ((r44l0 m x0 x1 x2 x3 x4 x5 x6).1) 0),.ret,[vi 0,vi 4],⟨[(tb sc0 x5),(tb [.fl .f32] x6)],2,[]⟩),((Nat.beq ((r44l0 m x0 x1 x2 x3 x4 x5 x6).1) 1),.ret,[vi ((r44l0 m x0 x1 x2 x3 x4 x5 x6).2),vi 0],⟨[(tb sc0 x5),(tb [.fl .f32] x6)],2,[]⟩),((Nat.beq ((r44l0 m x0 x1 x2 x3 x4 x5 x6).1) 2),.ret,[vi 0,vi 7],⟨[(tb sc0 x5),(tb [.fl .f32] x6)],2,[]⟩)] else noQ vals s
 | _,_ => noQ vals s
noncomputable def w44l0 (ih:Nat→Nat→Nat→Int→Int→LL→LL→(Nat×Int)) (x0 x1 x2:Nat) (x3 x4:Int) (x5 x6:LL):Option (Fin'×List Value×St) :=
 (cond (Nat.beq ((r61 x0 x1 x5).1) 0)
 (a44l0 x0 x1 x2 x3 x4 x5 x6 (0,0))
 (cond (Nat.beq ((r61 x0 x1 x5).1) 1) (cond (Nat.beq ((r106 ((r61 x0 x1 x5).2)).1) 0) (cond ((((((r106 ((r61 x0 x1 x5).2)).2).length:Nat):Int):Int) == 0) (a44l0 x0 x1 x2 x3 x4 x5 x6 (1,x4)) (cond ((x4:Int) == x3) (a44l0 x0 x1 x2 x3 x4 x5 x6 (2,0)) (cond (Nat.beq ((r104 x0 x1 x2 x5 x6).1) 0) (a44l0 x0 x1 x2 x3 x4 x5 x6 (0,0)) (cond (Nat.beq ((r104 x0 x1 x2 x5 x6).1) 1) (u44l0 x0 x1 x2 x3 x4 x5 x6 (ih x0 x1 x2 x3 (IntKind.i64.wrap (x4 + 1)) ((r104 x0 x1 x2 x5 x6).2.1) x6)) none)))) none) none))
theorem e44l0 (m:Nat) (x0 x1 x2:Nat) (x3 x4:Int) (x5 x6:LL):evC Try.prog ext T77 noL 200 (loopN Try.f44 0) (loopTail ([0,1,2,3,4,5,15],[]) [12,13] [] (sumK 67 [0,1,2,3,4,5,15] [12,13] (q44l0 m))) (frameOf 67 [0,1,2,3,4,5,15] [wsl 0,wsl 1,vf x0,vf x1,vf x2,vi x3,vi x4]) ⟨[(tb sc0 x5),(tb [.fl .f32] x6)],2,[]⟩ = firstT ([((Nat.beq ((r44l0 (m + 1) x0 x1 x2 x3 x4 x5 x6).1) 0),.ret,[vi 0,vi 4],⟨[(tb sc0 x5),(tb [.fl .f32] x6)],2,[]⟩),((Nat.beq ((r44l0 (m + 1) x0 x1 x2 x3 x4 x5 x6).1) 1),.ret,[vi ((r44l0 (m + 1) x0 x1 x2 x3 x4 x5 x6).2),vi 0],⟨[(tb sc0 x5),(tb [.fl .f32] x6)],2,[]⟩),((Nat.beq ((r44l0 (m + 1) x0 x1 x2 x3 x4 x5 x6).1) 2),.ret,[vi 0,vi 7],⟨[(tb sc0 x5),(tb [.fl .f32] x6)],2,[]⟩)].map fun (b,x) => (b,(x.1,frameOf 67 [12,13] x.2.1,x.2.2))) :=
 (show _ = w44l0 (r44l0 m) x0 x1 x2 x3 x4 x5 x6 from by kernel_rfl).trans
 (show w44l0 (r44l0 m) x0 x1 x2 x3 x4 x5 x6 = a44l0 x0 x1 x2 x3 x4 x5 x6 (r44l0 (m + 1) x0 x1 x2 x3 x4 x5 x6) from by unfold w44l0; show _ = a44l0 x0 x1 x2 x3 x4 x5 x6 (b44l0 (r44l0 m) x0 x1 x2 x3 x4 x5 x6); unfold b44l0; exact (cond_app (a44l0 x0 x1 x2 x3 x4 x5 x6) _ rfl (cond_app (a44l0 x0 x1 x2 x3 x4 x5 x6) _ (cond_app (a44l0 x0 x1 x2 x3 x4 x5 x6) _ (cond_app (a44l0 x0 x1 x2 x3 x4 x5 x6) _ rfl (cond_app (a44l0 x0 x1 x2 x3 x4 x5 x6) _ rfl (cond_app (a44l0 x0 x1 x2 x3 x4 x5 x6) _ rfl (cond_app (a44l0 x0 x1 x2 x3 x4 x5 x6) _ (v44l0 x0 x1 x2 x3 x4 x5 x6 ((r44l0 m) x0 x1 x2 x3 (IntKind.i64.wrap (x4 + 1)) ((r104 x0 x1 x2 x5 x6).2.1) x6)) rfl)))) rfl) rfl)))
theorem qm44l0:∀ m,SumKOk Try.prog (loopN Try.f44 0) 67 [0,1,2,3,4,5,15] [12,13] (q44l0 m) := by
  intro m
  induction m with
  | zero =>
    intro vals s x h1 h2 h3
    unfold q44l0 at h3; split at h3
    · rename_i h; split at h3
      · rename_i hc; obtain ⟨rfl,rfl⟩ := hc; exact absurd h3 (by simp [r44l0,firstT,Nat.beq])
      · exact noQ_ok _ _ _ h1 h2 h3
    · exact noQ_ok _ _ _ h1 h2 h3
  | succ m ih =>
    intro vals s x h1 h2 h3
    unfold q44l0 at h3; split at h3
    · rename_i h; split at h3
      · rename_i hc; obtain ⟨rfl,rfl⟩ := hc; exact sum_step ok77 extOk mixed ((lfOkF_no _ _).inner (by kernel_rfl)) ih h1 h2 h (e44l0 m _ _ _ _ _ _ _) rfl h3
      · exact noQ_ok _ _ _ h1 h2 h3
    · exact noQ_ok _ _ _ h1 h2 h3
noncomputable def Q44l0:SumK := fun vals s => q44l0 (fuelOf vals s.h) vals s
theorem qok44l0:SumKOk Try.prog (loopN Try.f44 0) 67 [0,1,2,3,4,5,15] [12,13] Q44l0 := fuel_ok qm44l0 fuelOf
noncomputable def L44_1:LoopT := addL noL 9 ([0,1,2,3,4,5,15],[]) (sumK 67 [0,1,2,3,4,5,15] [12,13] Q44l0)
theorem lok44_1:LfOkF Try.prog L44_1 Try.f44 := lfOkF_add (lfOkF_no _ _) qok44l0 (by kernel_rfl) (by kernel_rfl) (by kernel_rfl)

noncomputable def r44 (x0 x1 x2:Nat) (x3:Int) (x4 x5:LL):Nat×Int :=
 cond (Nat.beq (r103 x0 x1 x2 x4 x5) 0) (0,0) (cond (Nat.beq (r103 x0 x1 x2 x4 x5) 1) (1,0) (cond (Nat.beq (r103 x0 x1 x2 x4 x5) 2) (cond (!(r66 x3 0 200)) (1,0) (cond (Nat.beq ((r44l0 (1000 + x5.length + x4.length) x0 x1 x2 x3 0 x4 x5).1) 0) (2,0) (cond (Nat.beq ((r44l0 (1000 + x5.length + x4.length) x0 x1 x2 x3 0 x4 x5).1) 1) (3,((r44l0 (1000 + x5.length + x4.length) x0 x1 x2 x3 0 x4 x5).2)) (cond (Nat.beq ((r44l0 (1000 + x5.length + x4.length) x0 x1 x2 x3 0 x4 x5).1) 2) (4,0) (5,0))))) (5,0)))
noncomputable def a44 (x0 x1 x2:Nat) (x3:Int) (x4 x5:LL) (p:Nat×Int):Res := firstT [((Nat.beq (p.1) 0),.tuple #[vi 0,vi 1],⟨[(tb sc0 x4),(tb [.fl .f32] x5)],2,[]⟩),((Nat.beq (p.1) 1),.tuple #[vi 0,vi 2],⟨[(tb sc0 x4),(tb [.fl .f32] x5)],2,[]⟩),((Nat.beq (p.1) 2),.tuple #[vi 0,vi 4],⟨[(tb sc0 x4),(tb [.fl .f32] x5)],2,[]⟩),((Nat.beq (p.1) 3),.tuple #[vi (p.2),vi 0],⟨[(tb sc0 x4),(tb [.fl .f32] x5)],2,[]⟩),((Nat.beq (p.1) 4),.tuple #[vi 0,vi 7],⟨[(tb sc0 x4),(tb [.fl .f32] x5)],2,[]⟩)]
noncomputable def w44 (x0 x1 x2:Nat) (x3:Int) (x4 x5:LL):Res :=
 (cond (Nat.beq (r103 x0 x1 x2 x4 x5) 0)
 (a44 x0 x1 x2 x3 x4 x5 (0,0))
 (cond (Nat.beq (r103 x0 x1 x2 x4 x5) 1) (a44 x0 x1 x2 x3 x4 x5 (1,0)) (cond (Nat.beq (r103 x0 x1 x2 x4 x5) 2) (cond (!(r66 x3 0 200)) (a44 x0 x1 x2 x3 x4 x5 (1,0)) (cond (Nat.beq ((r44l0 (1000 + x5.length + x4.length) x0 x1 x2 x3 0 x4 x5).1) 0) (a44 x0 x1 x2 x3 x4 x5 (2,0)) (cond (Nat.beq ((r44l0 (1000 + x5.length + x4.length) x0 x1 x2 x3 0 x4 x5).1) 1) (a44 x0 x1 x2 x3 x4 x5 (3,((r44l0 (1000 + x5.length + x4.length) x0 x1 x2 x3 0 x4 x5).2))) (cond (Nat.beq ((r44l0 (1000 + x5.length + x4.length) x0 x1 x2 x3 0 x4 x5).1) 2) (a44 x0 x1 x2 x3 x4 x5 (4,0)) none)))) none)))
theorem e44 (x0 x1 x2:Nat) (x3:Int) (x4 x5:LL):evFn Try.prog ext T77 L44_1 200 Try.f44 [wsl 0,wsl 1,vf x0,vf x1,vf x2,vi x3] ⟨[(tb sc0 x4),(tb [.fl .f32] x5)],2,[]⟩ = firstT [((Nat.beq ((r44 x0 x1 x2 x3 x4 x5).1) 0),.tuple #[vi 0,vi 1],⟨[(tb sc0 x4),(tb [.fl .f32] x5)],2,[]⟩),((Nat.beq ((r44 x0 x1 x2 x3 x4 x5).1) 1),.tuple #[vi 0,vi 2],⟨[(tb sc0 x4),(tb [.fl .f32] x5)],2,[]⟩),((Nat.beq ((r44 x0 x1 x2 x3 x4 x5).1) 2),.tuple #[vi 0,vi 4],⟨[(tb sc0 x4),(tb [.fl .f32] x5)],2,[]⟩),((Nat.beq ((r44 x0 x1 x2 x3 x4 x5).1) 3),.tuple #[vi ((r44 x0 x1 x2 x3 x4 x5).2),vi 0],⟨[(tb sc0 x4),(tb [.fl .f32] x5)],2,[]⟩),((Nat.beq ((r44 x0 x1 x2 x3 x4 x5).1) 4),.tuple #[vi 0,vi 7],⟨[(tb sc0 x4),(tb [.fl .f32] x5)],2,[]⟩)] :=
 (show _ = w44 x0 x1 x2 x3 x4 x5 from by kernel_rfl).trans
 (show w44 x0 x1 x2 x3 x4 x5 = a44 x0 x1 x2 x3 x4 x5 (r44 x0 x1 x2 x3 x4 x5) from by unfold w44 r44; exact (cond_app (a44 x0 x1 x2 x3 x4 x5) _ rfl (cond_app (a44 x0 x1 x2 x3 x4 x5) _ rfl (cond_app (a44 x0 x1 x2 x3 x4 x5) _ (cond_app (a44 x0 x1 x2 x3 x4 x5) _ rfl (cond_app (a44 x0 x1 x2 x3 x4 x5) _ rfl (cond_app (a44 x0 x1 x2 x3 x4 x5) _ rfl (cond_app (a44 x0 x1 x2 x3 x4 x5) _ rfl rfl)))) rfl))))
noncomputable def s44 (args:List Value) (s:St):List (Bool×Value×St) :=
 match args,s.h with
 | [.iface f0 .nilIface,.iface f1 .nilIface,.float .f32 x0,.float .f32 x1,.float .f32 x2,.int .i64 x3],[⟨true,some (.tab [.fl .f32,.fl .f32,.fl .f32,.fl .f32,.int .i64] x4)⟩,⟨true,some (.tab [.fl .f32] x5)⟩] => if f0 = 0 ∧ f1 = 1 then [((Nat.beq ((r44 x0 x1 x2 x3 x4 x5).1) 0),.tuple #[vi 0,vi 1],⟨[(tb sc0 x4),(tb [.fl .f32] x5)],2,[]⟩),((Nat.beq ((r44 x0 x1 x2 x3 x4 x5).1) 1),.tuple #[vi 0,vi 2],⟨[(tb sc0 x4),(tb [.fl .f32] x5)],2,[]⟩),((Nat.beq ((r44 x0 x1 x2 x3 x4 x5).1) 2),.tuple #[vi 0,vi 4],⟨[(tb sc0 x4),(tb [.fl .f32] x5)],2,[]⟩),((Nat.beq ((r44 x0 x1 x2 x3 x4 x5).1) 3),.tuple #[vi ((r44 x0 x1 x2 x3 x4 x5).2),vi 0],⟨[(tb sc0 x4),(tb [.fl .f32] x5)],2,[]⟩),((Nat.beq ((r44 x0 x1 x2 x3 x4 x5).1) 4),.tuple #[vi 0,vi 7],⟨[(tb sc0 x4),(tb [.fl .f32] x5)],2,[]⟩)] else T77 44 args s
 | _,_ => T77 44 args s
noncomputable def T78:CallF := addF T77 44 s44
theorem ok78:CfOk Try.prog T78 := by
  refine cfOk_add ok77 fun args s r s' h1 h2 h3 => ?_
  unfold s44 at h3; split at h3
  · rename_i h; split at h3
    · rename_i hc; obtain ⟨rfl,rfl⟩ := hc; exact callOk ok77 Try.func44 h1 h2 h lok44_1.body (e44 _ _ _ _ _ _) rfl h3
    · exact ok77 _ _ _ _ _ h1 h2 h3
  · exact ok77 _ _ _ _ _ h1 h2 h3

noncomputable def r13 (x0 x1:Nat) (x2:LL):Nat×LL :=
 cond (Nat.beq (r57 x0 x1 x2) 0) (0,[]) (cond (Nat.beq (r57 x0 x1 x2) 1) (1,[]) (cond (Nat.beq (r57 x0 x1 x2) 2) (cond (Nat.beq ((r58 x0 x1 x2).1) 0) (cond (Nat.beq ((r62 ((r58 x0 x1 x2).2)).1) 0) (2,((r62 ((r58 x0 x1 x2).2)).2)) (3,[])) (3,[])) (3,[])))
noncomputable def a13 (x0 x1:Nat) (x2:LL) (p:Nat×LL):Res := firstT [((Nat.beq (p.1) 0),.tuple #[.slice none 0 0,vi 1],⟨[(tb sc0 x2)],1,[]⟩),((Nat.beq (p.1) 1),.tuple #[.slice none 0 0,vi 2],⟨[(tb sc0 x2)],1,[]⟩),((Nat.beq (p.1) 2),.tuple #[wsl 1,vi 0],⟨[(tb sc0 x2),(tb [.int .i64] (p.2))],1,[]⟩)]
noncomputable def w13 (x0 x1:Nat) (x2:LL):Res :=
 (cond (Nat.beq (r57 x0 x1 x2) 0)
 (a13 x0 x1 x2 (0,[]))
 (cond (Nat.beq (r57 x0 x1 x2) 1) (a13 x0 x1 x2 (1,[])) (cond (Nat.beq (r57 x0 x1 x2) 2) (cond (Nat.beq ((r58 x0 x1 x2).1) 0) (cond (Nat.beq ((r62 ((r58 x0 x1 x2).2)).1) 0) (a13 x0 x1 x2 (2,((r62 ((r58 x0 x1 x2).2)).2))) none) none) none)))
theorem e13 (x0 x1:Nat) (x2:LL):evFn Try.prog ext T78 noL 200 Try.f13 [wsl 0,vf x0,vf x1] ⟨[(tb sc0 x2)],1,[]⟩ = firstT [((Nat.beq ((r13 x0 x1 x2).1) 0),.tuple #[.slice none 0 0,vi 1],⟨[(tb sc0 x2)],1,[]⟩),((Nat.beq ((r13 x0 x1 x2).1) 1),.tuple #[.slice none 0 0,vi 2],⟨[(tb sc0 x2)],1,[]⟩),((Nat.beq ((r13 x0 x1 x2).1) 2),.tuple #[wsl 1,vi 0],⟨[(tb sc0 x2),(tb [.int .i64] ((r13 x0 x1 x2).2))],1,[]⟩)] :=
 (show _ = w13 x0 x1 x2 from by kernel_rfl).trans
 (show w13 x0 x1 x2 = a13 x0 x1 x2 (r13 x0 x1 x2) from by unfold w13 r13; exact (cond_app (a13 x0 x1 x2) _ rfl (cond_app (a13 x0 x1 x2) _ rfl (cond_app (a13 x0 x1 x2) _ (cond_app (a13 x0 x1 x2) _ (cond_app (a13 x0 x1 x2) _ rfl rfl) rfl) rfl))))
noncomputable def s13 (args:List Value) (s:St):List (Bool×Value×St) :=
 match args,s.h with
 | [.iface f0 .nilIface,.float .f32 x0,.float .f32 x1],[⟨true,some (.tab [.fl .f32,.fl .f32,.fl .f32,.fl .f32,.int .i64] x2)⟩] => if f0 = 0 then [((Nat.beq ((r13 x0 x1 x2).1) 0),.tuple #[.slice none 0 0,vi 1],⟨[(tb sc0 x2)],1,[]⟩),((Nat.beq ((r13 x0 x1 x2).1) 1),.tuple #[.slice none 0 0,vi 2],⟨[(tb sc0 x2)],1,[]⟩),((Nat.beq ((r13 x0 x1 x2).1) 2),.tuple #[wsl 1,vi 0],⟨[(tb sc0 x2),(tb [.int .i64] ((r13 x0 x1 x2).2))],1,[]⟩)] else T78 13 args s
 | _,_ => T78 13 args s
noncomputable def T79:CallF := addF T78 13 s13
theorem ok79:CfOk Try.prog T79 := by
  refine cfOk_add ok78 fun args s r s' h1 h2 h3 => ?_
  unfold s13 at h3; split at h3
  · rename_i h; split at h3
    · rename_i hc; obtain ⟨rfl⟩ := hc; exact callOk ok78 Try.func13 h1 h2 h (lfOkF_no _ _).body (e13 _ _ _) rfl h3
    · exact ok78 _ _ _ _ _ h1 h2 h3
  · exact ok78 _ _ _ _ _ h1 h2 h3
end Go.Proofs.Ytmknfenjnladeaa
