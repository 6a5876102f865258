/- What the functions that the statements reach answer, part 11. -/
import Derived.Test.YtmknfenjnladeaaSm10
import Derived.Test.YtmknfenjnladeaaA45
namespace Go.Proofs.Ytmknfenjnladeaa
open Go.Ab
set_option maxHeartbeats 4000000
set_option maxRecDepth 100000

noncomputable def b105l0 (ih:Int→LL→LL→Nat) (x0:Int) (x1 x2:LL):Nat :=
 cond (decide ((x0:Int) < ((x1.length:Nat):Int))) (cond ((decide ((0:Int) ≤ x0)) && (Nat.blt (Int.toNat x0) x1.length)) (cond ((decide ((0:Int) ≤ x0)) && (Nat.blt (Int.toNat x0) x2.length)) (cond (!(r63 (Int.toNat ((x1.getD (Int.toNat x0) []).getD 0 0)) (Int.toNat ((x2.getD (Int.toNat x0) []).getD 0 0)))) (0) (cond (!(r63 (Int.toNat ((x1.getD (Int.toNat x0) []).getD 1 0)) (Int.toNat ((x2.getD (Int.toNat x0) []).getD 1 0)))) (0) (cond (!(r63 (Int.toNat ((x1.getD (Int.toNat x0) []).getD 2 0)) (Int.toNat ((x2.getD (Int.toNat x0) []).getD 2 0)))) (0) (cond (!(r63 (Int.toNat ((x1.getD (Int.toNat x0) []).getD 3 0)) (Int.toNat ((x2.getD (Int.toNat x0) []).getD 3 0)))) (0) (cond ((((x1.getD (Int.toNat x0) []).getD 4 0):Int) != ((x2.getD (Int.toNat x0) []).getD 4 0)) (0) (ih (IntKind.i64.wrap (x0 + 1)) x1 x2)))))) (2)) (2)) (1)
noncomputable def r105l0:Nat→Int→LL→LL→Nat
 | 0 => fun _ _ _ => (2)
 | m + 1 => b105l0 (r105l0 m)
noncomputable def a105l0 (x0:Int) (x1 x2:LL) (p:Nat):Option (Fin'×List Value×St) := firstT ([((Nat.beq p 0),.ret,[.bool false],⟨[(tb sc0 x1),(tb sc0 x2)],2,[]⟩),((Nat.beq p 1),.exit 0,[Y],⟨[(tb sc0 x1),(tb sc0 x2)],2,[]⟩)].map fun (b,x) => (b,(x.1,frameOf 84 [4] x.2.1,x.2.2)))
noncomputable def u105l0 (x0:Int) (x1 x2:LL) (p:Nat):Option (Fin'×List Value×St) := alts ([((Nat.beq p 0),.ret,[.bool false],⟨[(tb sc0 x1),(tb sc0 x2)],2,[]⟩),((Nat.beq p 1),.exit 0,[Y],⟨[(tb sc0 x1),(tb sc0 x2)],2,[]⟩)].map fun (b,x) => (b,(x.1,frameOf 84 [4] x.2.1,x.2.2))) some
theorem v105l0 (x0:Int) (x1 x2:LL) (p:Nat):u105l0 x0 x1 x2 p = a105l0 x0 x1 x2 p := alts_first _
noncomputable def q105l0 (m:Nat):SumK := fun vals s =>
 match vals,s.h with
 | [.iface f0 .nilIface,.iface f1 .nilIface,.int .i64 x0],[⟨true,some (.tab [.fl .f32,.fl .f32,.fl .f32,.fl .f32,.int .i64] x1)⟩,⟨true,some (.tab [.fl .f32,.fl .f32,.fl .f32,.fl .f32,.int .i64] x2)⟩] => if f0 = 0 ∧ f1 = 1 then [((Nat.beq (r105l0 m x0 x1 x2) 0),.ret,[.bool false],⟨[(tb sc0 x1),(tb sc0 x2)],2,[]⟩),((Nat.beq (r105l0 m x0 x1 x2) 1),.exit 0,[Y],⟨[(tb sc0 x1),(tb sc0 x2)],2,[]⟩)] else noQ vals s
 | _,_ => noQ vals s
noncomputable def w105l0 (ih:Int→LL→LL→Nat) (x0:Int) (x1 x2:LL):Option (Fin'×List Value×St) :=
 (cond (decide ((x0:Int) < ((x1.length:Nat):Int)))
 (cond ((decide ((0:Int) ≤ x0)) && (Nat.blt (Int.toNat x0) x1.length)) (cond (Nat.blt (Int.toNat x0) x1.length) (cond ((decide ((0:Int) ≤ x0)) && (Nat.blt (Int.toNat x0) x2.length)) (cond (Nat.blt (Int.toNat x0) x2.length) (cond (!(r63 (Int.toNat ((x1.getD (Int.toNat x0) []).getD 0 0)) (Int.toNat ((x2.getD (Int.toNat x0) []).getD 0 0)))) (a105l0 x0 x1 x2 (0)) (cond ((decide ((0:Int) ≤ x0)) && (Nat.blt (Int.toNat x0) x1.length)) (cond (Nat.blt (Int.toNat x0) x1.length) (cond ((decide ((0:Int) ≤ x0)) && (Nat.blt (Int.toNat x0) x2.length)) (cond (Nat.blt (Int.toNat x0) x2.length) (cond (!(r63 (Int.toNat ((x1.getD (Int.toNat x0) []).getD 1 0)) (Int.toNat ((x2.getD (Int.toNat x0) []).getD 1 0)))) (a105l0 x0 x1 x2 (0)) (cond ((decide ((0:Int) ≤ x0)) && (Nat.blt (Int.toNat x0) x1.length)) (cond (Nat.blt (Int.toNat x0) x1.length) (cond ((decide ((0:Int) ≤ x0)) && (Nat.blt (Int.toNat x0) x2.length)) (cond (Nat.blt (Int.toNat x0) x2.length) (cond (!(r63 (Int.toNat ((x1.getD (Int.toNat x0) []).getD 2 0)) (Int.toNat ((x2.getD (Int.toNat x0) []).getD 2 0)))) (a105l0 x0 x1 x2 (0)) (cond ((decide ((0:Int) ≤ x0)) && (Nat.blt (Int.toNat x0) x1.length)) (cond (Nat.blt (Int.toNat x0) x1.length) (cond ((decide ((0:Int) ≤ x0)) && (Nat.blt (Int.toNat x0) x2.length)) (cond (Nat.blt (Int.toNat x0) x2.length) (cond (!(r63 (Int.toNat ((x1.getD (Int.toNat x0) []).getD 3 0)) (Int.toNat ((x2.getD (Int.toNat x0) []).getD 3 0)))) (a105l0 x0 x1 x2 (0)) (cond ((decide ((0:Int) ≤ x0)) && (Nat.blt (Int.toNat x0) x1.length)) (cond (Nat.blt (Int.toNat x0) x1.length) (cond ((decide ((0:Int) ≤ x0)) && (Nat.blt (Int.toNat x0) x2.length)) (cond (Nat.blt (Int.toNat x0) x2.length) (cond ((((x1.getD (Int.toNat x0) []).getD 4 0):Int) != ((x2.getD (Int.toNat x0) []).getD 4 0)) (a105l0 x0 x1 x2 (0)) (u105l0 x0 x1 x2 (ih (IntKind.i64.wrap (x0 + 1)) x1 x2))) none) none) none) none)) none) none) none) none)) none) none) none) none)) none) none) none) none)) none) none) none) none)
 (a105l0 x0 x1 x2 (1)))
theorem e105l0 (m:Nat) (x0:Int) (x1 x2:LL):evC Try.prog ext T72 noL 200 (loopN Try.f105 0) (loopTail ([0,1,5],[]) [4] [] (sumK 84 [0,1,5] [4] (q105l0 m))) (frameOf 84 [0,1,5] [wsl 0,wsl 1,vi x0]) ⟨[(tb sc0 x1),(tb sc0 x2)],2,[]⟩ = firstT ([((Nat.beq (r105l0 (m + 1) x0 x1 x2) 0),.ret,[.bool false],⟨[(tb sc0 x1),(tb sc0 x2)],2,[]⟩),((Nat.beq (r105l0 (m + 1) x0 x1 x2) 1),.exit 0,[Y],⟨[(tb sc0 x1),(tb sc0 x2)],2,[]⟩)].map fun (b,x) => (b,(x.1,frameOf 84 [4] x.2.1,x.2.2))) :=
 (show _ = w105l0 (r105l0 m) x0 x1 x2 from by kernel_rfl).trans
 (show w105l0 (r105l0 m) x0 x1 x2 = a105l0 x0 x1 x2 (r105l0 (m + 1) x0 x1 x2) from by unfold w105l0; show _ = a105l0 x0 x1 x2 (b105l0 (r105l0 m) x0 x1 x2); unfold b105l0; exact (cond_both (a105l0 x0 x1 x2) _ (fun h0 => (cond_both (a105l0 x0 x1 x2) _ (fun h1 => (cond_t (ev_and2 h1) (cond_both (a105l0 x0 x1 x2) _ (fun h2 => (cond_t (ev_and2 h2) (cond_both (a105l0 x0 x1 x2) _ (fun h3 => rfl) (fun h3 => (cond_t h1 (cond_t (ev_and2 h1) (cond_t h2 (cond_t (ev_and2 h2) (cond_both (a105l0 x0 x1 x2) _ (fun h4 => rfl) (fun h4 => (cond_t h1 (cond_t (ev_and2 h1) (cond_t h2 (cond_t (ev_and2 h2) (cond_both (a105l0 x0 x1 x2) _ (fun h5 => rfl) (fun h5 => (cond_t h1 (cond_t (ev_and2 h1) (cond_t h2 (cond_t (ev_and2 h2) (cond_both (a105l0 x0 x1 x2) _ (fun h6 => rfl) (fun h6 => (cond_t h1 (cond_t (ev_and2 h1) (cond_t h2 (cond_t (ev_and2 h2) (cond_app (a105l0 x0 x1 x2) _ rfl (v105l0 x0 x1 x2 ((r105l0 m) (IntKind.i64.wrap (x0 + 1)) x1 x2))))))))))))))))))))))))))))) (fun h2 => rfl)))) (fun h1 => rfl))) (fun h0 => rfl)))
theorem qm105l0:∀ m,SumKOk Try.prog (loopN Try.f105 0) 84 [0,1,5] [4] (q105l0 m) := by
  intro m
  induction m with
  | zero =>
    intro vals s x h1 h2 h3
    unfold q105l0 at h3; split at h3
    · rename_i h; split at h3
      · rename_i hc; obtain ⟨rfl,rfl⟩ := hc; exact absurd h3 (by simp [r105l0,firstT,Nat.beq])
      · exact noQ_ok _ _ _ h1 h2 h3
    · exact noQ_ok _ _ _ h1 h2 h3
  | succ m ih =>
    intro vals s x h1 h2 h3
    unfold q105l0 at h3; split at h3
    · rename_i h; split at h3
      · rename_i hc; obtain ⟨rfl,rfl⟩ := hc; exact sum_step ok72 extOk mixed ((lfOkF_no _ _).inner (by kernel_rfl)) ih h1 h2 h (e105l0 m _ _ _) rfl h3
      · exact noQ_ok _ _ _ h1 h2 h3
    · exact noQ_ok _ _ _ h1 h2 h3
noncomputable def Q105l0:SumK := fun vals s => q105l0 (fuelOf vals s.h) vals s
theorem qok105l0:SumKOk Try.prog (loopN Try.f105 0) 84 [0,1,5] [4] Q105l0 := fuel_ok qm105l0 fuelOf
noncomputable def L105_1:LoopT := addL noL 5 ([0,1,5],[]) (sumK 84 [0,1,5] [4] Q105l0)
theorem lok105_1:LfOkF Try.prog L105_1 Try.f105 := lfOkF_add (lfOkF_no _ _) qok105l0 (by kernel_rfl) (by kernel_rfl) (by kernel_rfl)

noncomputable def r105 (x0 x1:LL):Nat×Bool :=
 cond ((((x0.length:Nat):Int):Int) != ((x1.length:Nat):Int)) (0,false) (cond (Nat.beq (r105l0 (1000 + x1.length + x0.length) 0 x0 x1) 0) (0,false) (cond (Nat.beq (r105l0 (1000 + x1.length + x0.length) 0 x0 x1) 1) (0,true) (1,false)))
noncomputable def a105 (x0 x1:LL) (p:Nat×Bool):Res := firstT [((Nat.beq (p.1) 0),.bool (p.2),⟨[(tb sc0 x0),(tb sc0 x1)],2,[]⟩)]
noncomputable def w105 (x0 x1:LL):Res :=
 (cond ((((x0.length:Nat):Int):Int) != ((x1.length:Nat):Int))
 (a105 x0 x1 (0,false))
 (cond (Nat.beq (r105l0 (1000 + x1.length + x0.length) 0 x0 x1) 0) (a105 x0 x1 (0,false)) (cond (Nat.beq (r105l0 (1000 + x1.length + x0.length) 0 x0 x1) 1) (a105 x0 x1 (0,true)) none)))
theorem e105 (x0 x1:LL):evFn Try.prog ext T72 L105_1 200 Try.f105 [wsl 0,wsl 1] ⟨[(tb sc0 x0),(tb sc0 x1)],2,[]⟩ = firstT [((Nat.beq ((r105 x0 x1).1) 0),.bool ((r105 x0 x1).2),⟨[(tb sc0 x0),(tb sc0 x1)],2,[]⟩)] :=
 (show _ = w105 x0 x1 from by kernel_rfl).trans
 (show w105 x0 x1 = a105 x0 x1 (r105 x0 x1) from by unfold w105 r105; exact (cond_app (a105 x0 x1) _ rfl (cond_app (a105 x0 x1) _ rfl (cond_app (a105 x0 x1) _ rfl rfl))))
noncomputable def s105 (args:List Value) (s:St):List (Bool×Value×St) :=
 match args,s.h with
 | [.iface f0 .nilIface,.iface f1 .nilIface],[⟨true,some (.tab [.fl .f32,.fl .f32,.fl .f32,.fl .f32,.int .i64] x0)⟩,⟨true,some (.tab [.fl .f32,.fl .f32,.fl .f32,.fl .f32,.int .i64] x1)⟩] => if f0 = 0 ∧ f1 = 1 then [((Nat.beq ((r105 x0 x1).1) 0),.bool ((r105 x0 x1).2),⟨[(tb sc0 x0),(tb sc0 x1)],2,[]⟩)] else T72 105 args s
 | _,_ => T72 105 args s
noncomputable def T73:CallF := addF T72 105 s105
theorem ok73:CfOk Try.prog T73 := by
  refine cfOk_add ok72 fun args s r s' h1 h2 h3 => ?_
  unfold s105 at h3; split at h3
  · rename_i h; split at h3
    · rename_i hc; obtain ⟨rfl,rfl⟩ := hc; exact callOk ok72 Try.func105 h1 h2 h lok105_1.body (e105 _ _) rfl h3
    · exact ok72 _ _ _ _ _ h1 h2 h3
  · exact ok72 _ _ _ _ _ h1 h2 h3

noncomputable def r42 (x0 x1:LL):Nat×Bool :=
 cond (Nat.beq ((r105 x0 x1).1) 0) (0,((r105 x0 x1).2)) (1,false)
noncomputable def a42 (x0 x1:LL) (p:Nat×Bool):Res := firstT [((Nat.beq (p.1) 0),.bool (p.2),⟨[(tb sc0 x0),(tb sc0 x1)],2,[]⟩)]
noncomputable def w42 (x0 x1:LL):Res :=
 (cond (Nat.beq ((r105 x0 x1).1) 0)
 (a42 x0 x1 (0,((r105 x0 x1).2)))
 none)
theorem e42 (x0 x1:LL):evFn Try.prog ext T73 noL 200 Try.f42 [wsl 0,wsl 1] ⟨[(tb sc0 x0),(tb sc0 x1)],2,[]⟩ = firstT [((Nat.beq ((r42 x0 x1).1) 0),.bool ((r42 x0 x1).2),⟨[(tb sc0 x0),(tb sc0 x1)],2,[]⟩)] :=
 (show _ = w42 x0 x1 from by kernel_rfl).trans
 (show w42 x0 x1 = a42 x0 x1 (r42 x0 x1) from by unfold w42 r42; exact (cond_app (a42 x0 x1) _ rfl rfl))
noncomputable def s42 (args:List Value) (s:St):List (Bool×Value×St) :=
 match args,s.h with
 | [.iface f0 .nilIface,.iface f1 .nilIface],[⟨true,some (.tab [.fl .f32,.fl .f32,.fl .f32,.fl .f32,.int .i64] x0)⟩,⟨true,some (.tab [.fl .f32,.fl .f32,.fl .f32,.fl .f32,.int .i64] x1)⟩] => if f0 = 0 ∧ f1 = 1 then [((Nat.beq ((r42 x0 x1).1) 0),.bool ((r42 x0 x1).2),⟨[(tb sc0 x0),(tb sc0 x1)],2,[]⟩)] else T73 42 args s
 | _,_ => T73 42 args s
noncomputable def T74:CallF := addF T73 42 s42
theorem ok74:CfOk Try.prog T74 := by
  refine cfOk_add ok73 fun args s r s' h1 h2 h3 => ?_
  unfold s42 at h3; split at h3
  · rename_i h; split at h3
    · rename_i hc; obtain ⟨rfl,rfl⟩ := hc; exact callOk ok73 Try.func42 h1 h2 h (lfOkF_no _ _).body (e42 _ _) rfl h3
    · exact ok73 _ _ _ _ _ h1 h2 h3
  · exact ok73 _ _ _ _ _ h1 h2 h3
end Go.Proofs.Ytmknfenjnladeaa

namespace Go.Proofs.Ytmknfenjnladeaa
open Go.Ab
set_option maxHeartbeats 4000000
set_option maxRecDepth 100000

noncomputable def st6l2s2 (ih:Nat→Int→LL→LL→LL→LL→Nat) (x0:Nat) (x1:Int) (x2 x3 x4 x5:LL):Nat :=
 (ih x0 (IntKind.i64.wrap (x1 + 1)) x2 x3 x4 x5)
noncomputable def st6l2s1 (ih:Nat→Int→LL→LL→LL→LL→Nat) (x0:Nat) (x1:Int) (x2 x3 x4 x5:LL):Nat :=
 (cond ((decide ((0:Int) ≤ x1)) && (Nat.blt (Int.toNat x1) x5.length))
 (cond (Nat.blt (Int.toNat x1) x5.length)
 (cond ((decide ((0:Int) ≤ x1)) && (Nat.blt (Int.toNat x1) x2.length))
 (cond (Nat.blt (Int.toNat x1) x2.length)
 (cond (!feq .f32 (Int.toNat ((x5.getD (Int.toNat x1) []).getD 2 0)) (Int.toNat ((x2.getD (Int.toNat x1) []).getD 2 0)))
 (1)
 (cond ((decide ((0:Int) ≤ x1)) && (Nat.blt (Int.toNat x1) x4.length))
 (cond (Nat.blt (Int.toNat x1) x4.length)
 (cond ((decide ((0:Int) ≤ x1)) && (Nat.blt (Int.toNat x1) x2.length))
 (cond (Nat.blt (Int.toNat x1) x2.length)
 (cond (!feq .f32 (Int.toNat ((x4.getD (Int.toNat x1) []).getD 3 0)) (Int.toNat ((x2.getD (Int.toNat x1) []).getD 3 0)))
 (1)
 (cond ((decide ((0:Int) ≤ x1)) && (Nat.blt (Int.toNat x1) x4.length))
 (cond (Nat.blt (Int.toNat x1) x4.length)
 (cond ((decide ((0:Int) ≤ x1)) && (Nat.blt (Int.toNat x1) x2.length))
 (cond (Nat.blt (Int.toNat x1) x2.length)
 (cond ((((x4.getD (Int.toNat x1) []).getD 4 0):Int) != ((x2.getD (Int.toNat x1) []).getD 4 0))
 (1)
 (st6l2s2 ih x0 x1 x2 x3 x4 x5))
 (2))
 (2))
 (2))
 (2)))
 (2))
 (2))
 (2))
 (2)))
 (2))
 (2))
 (2))
 (2))
noncomputable def st6l2s0 (ih:Nat→Int→LL→LL→LL→LL→Nat) (x0:Nat) (x1:Int) (x2 x3 x4 x5:LL):Nat :=
 (cond (decide ((x1:Int) < ((x2.length:Nat):Int)))
 (st6l2s1 ih x0 x1 x2 x3 x4 x5)
 (0))
noncomputable def b6l2 (ih:Nat→Int→LL→LL→LL→LL→Nat) (x0:Nat) (x1:Int) (x2 x3 x4 x5:LL):Nat := st6l2s0 ih x0 x1 x2 x3 x4 x5
noncomputable def r6l2:Nat→Nat→Int→LL→LL→LL→LL→Nat
 | 0 => fun _ _ _ _ _ _ => (2)
 | m + 1 => b6l2 (r6l2 m)
noncomputable def a6l2 (x0:Nat) (x1:Int) (x2 x3 x4 x5:LL) (p:Nat):Option (Fin'×List Value×St) := firstT ([((Nat.beq p 0),.exit 4,[Y,wsl 0,wsl 1,vf x0],⟨[(tb sc0 x2),(tb [.fl .f32] x3),(tb sc0 x4),(tb sc0 x5)],4,[]⟩),((Nat.beq p 1),.ret,[.bool false,wsl 0,wsl 1,vf x0],⟨[(tb sc0 x2),(tb [.fl .f32] x3),(tb sc0 x4),(tb sc0 x5)],4,[]⟩)].map fun (b,x) => (b,(x.1,frameOf 344 [4,5,6,7] x.2.1,x.2.2)))
noncomputable def u6l2 (x0:Nat) (x1:Int) (x2 x3 x4 x5:LL) (p:Nat):Option (Fin'×List Value×St) := alts ([((Nat.beq p 0),.exit 4,[Y,wsl 0,wsl 1,vf x0],⟨[(tb sc0 x2),(tb [.fl .f32] x3),(tb sc0 x4),(tb sc0 x5)],4,[]⟩),((Nat.beq p 1),.ret,[.bool false,wsl 0,wsl 1,vf x0],⟨[(tb sc0 x2),(tb [.fl .f32] x3),(tb sc0 x4),(tb sc0 x5)],4,[]⟩)].map fun (b,x) => (b,(x.1,frameOf 344 [4,5,6,7] x.2.1,x.2.2))) some
theorem v6l2 (x0:Nat) (x1:Int) (x2 x3 x4 x5:LL) (p:Nat):u6l2 x0 x1 x2 x3 x4 x5 p = a6l2 x0 x1 x2 x3 x4 x5 p := alts_first _
noncomputable def q6l2 (m:Nat):SumK := fun vals s =>
 match vals,s.h with
 | [.iface f0 .nilIface,.iface f1 .nilIface,.float .f32 x0,.iface f2 .nilIface,.iface f3 .nilIface,.int .i64 x1],[⟨true,some (.tab [.fl .f32,.fl .f32,.fl .f32,.fl .f32,.int .i64] x2)⟩,⟨true,some (.tab [.fl .f32] x3)⟩,⟨true,some (.tab [.fl .f32,.fl .f32,.fl .f32,.fl .f32,.int .i64] x4)⟩,⟨true,some (.tab [.fl .f32,.fl .f32,.fl .f32,.fl .f32,.int .i64] x5)⟩] => if f0 = 0 ∧ f1 = 1 ∧ f2 = 2 ∧ f3 = 3 then [((Nat.beq (r6l2 m x0 x1 x2 x3 x4 x5) 0),.exit 4,[Y,wsl 0,wsl 1,vf x0],⟨[(tb sc0 x2),(tb [.fl .f32] x3),(tb sc0 x4),(tb sc0 x5)],4,[]⟩),((Nat.beq (r6l2 m x0 x1 x2 x3 x4 x5) 1),.ret,[.bool false,wsl 0,wsl 1,vf x0],⟨[(tb sc0 x2),(tb [.fl .f32] x3),(tb sc0 x4),(tb sc0 x5)],4,[]⟩)] else noQ vals s
 | _,_ => noQ vals s
end Go.Proofs.Ytmknfenjnladeaa

namespace Go.Proofs.Ytmknfenjnladeaa
open Go.Ab
set_option maxHeartbeats 4000000
set_option maxRecDepth 100000

variable {D0 D1 D2 D3 D4 D5 D6 D7 D8 D9 DA DC DD DE DF DG DH DI DJ DK DL DM DN DO DP DQ DR DS DT DU DV DW DX DY DZ Da Db Dc Dd De Di Dj Dk Dl Dm Dn Do Dp Dq Dr Ds Dt Du Dw Dx Dz G0 G1 G2 G3 G4 G5 G6 G7 G8 G9 GA GB GC GD GE GF GG GH GI GJ GK GL GM GN GO GP GQ GR GS GT GU GV GW GX GY GZ Ga Gb Gc Gd Ge Gf Gg Gh Gi Gj Gk Gl Gm Gn Go Gp Gq Gr Gs Gt Gu Gv Gw Gx Gy Gz H0 H1 H2 H3 H4 H5 H6 H7 H8 H9 HA HB HC HD HE HF HG HH HI HJ HK HL HM HN HO HP HQ HR HS HT HU HV HW HX HY HZ Ha Hb Hc Hd He Hf Hg Hh Hi Hj Hk Hl Hm Hn Ho Hp Hq Hr Hs Ht Hu Hv Hw Hx Hy Hz J0 J1 J2 J3 J4 J5 J6 J7 J8 J9 JA JB JC JD JE JF JG JH JI JJ JK JL JM JN JO JP JQ JR JS JT JU JV JW JX JY JZ Ja Jb Jc Jd Je Jf Jg Jh Ji Jj Jk Jl Jm Jn Jo Jp Jq Jr Js Jt Ju Jv Jw Jx Jy Jz K0 K1 K2 K3 K4 K5 K6 K7 K8 K9 KA KB KC KD KE KF KG KH KI KJ KK KL KM KN KO KP KQ KR KS KT KU KV KW KX KY KZ Ka Kb Kc Kd Ke Kf Kg Kh Ki Kj Kk Kl Km Kn Ko Kp Kq Kr Ks Kt Ku Kv Kw Kx Ky Kz MA MB MC MD ME MF MG MH Ma Mb Mc Md Me Mf Mg Mh Mi Mj Mk Ml Mm Mn Mo Mp Mq Mr Ms Mt Mu Mv Mw Mx My Mz:Value}
theorem i6l2s0 (m:Nat) (x0:Nat) (x1:Int) (x2 x3 x4 x5:LL) (k:List Value→St→Option (Fin'×List Value×St)):evC Try.prog ext T74 L6_2 200 (preC (postC (loopN Try.f6 2) 0) 1) (endK (loopTail ([5,6,7,21,24,27],[]) [4,5,6,7] [] (sumK 344 [5,6,7,21,24,27] [4,5,6,7] (q6l2 m))) k) [Y,Y,Y,Y,Y,wsl 0,wsl 1,vf x0,Y,Y,Y,Y,Y,Y,Y,Y,Y,Y,Y,Y,Y,wsl 2,Y,Y,wsl 3,Y,Y,vi x1,Y,Y,Y,Y,Y,Y,Y,Y,Y,Y,Y,Y,Y,Y,Y,Y,Y,Y,Y,Y,Y,Y,Y,Y,Y,Y,Y,Y,Y,Y,Y,Y,Y,Y,Y,Y,Y,Y,Y,Y,Y,Y,Y,Y,Y,Y,Y,Y,Y,Y,Y,Y,Y,Y,Y,Y,Y,Y,Y,Y,Y,Y,Y,Y,Y,Y,Y,Y,Y,Y,Y,Y,Y,Y,Y,Y,Y,Y,Y,Y,Y,Y,Y,Y,Y,Y,Y,Y,Y,Y,Y,Y,Y,Y,Y,Y,Y,Y,Y,Y,Y,Y,Y,Y,Y,Y,Y,Y,Y,Y,Y,Y,Y,Y,Y,Y,Y,Y,Y,Y,Y,Y,Y,Y,Y,Y,Y,Y,Y,Y,Y,Y,Y,Y,Y,Y,Y,Y,Y,Y,Y,Y,Y,Y,Y,Y,Y,Y,Y,Y,Y,Y,Y,Y,Y,Y,Y,Y,Y,Y,Y,Y,Y,Y,Y,Y,Y,Y,Y,Y,Y,Y,Y,Y,Y,Y,Y,Y,Y,Y,Y,Y,Y,Y,Y,Y,Y,Y,Y,Y,Y,Y,Y,Y,Y,Y,Y,Y,Y,Y,Y,Y,Y,Y,Y,Y,Y,Y,Y,Y,Y,Y,Y,Y,Y,Y,Y,Y,Y,Y,Y,Y,Y,Y,Y,Y,Y,Y,Y,Y,Y,Y,Y,Y,Y,Y,Y,Y,Y,Y,Y,Y,Y,Y,Y,Y,Y,Y,Y,Y,Y,Y,Y,Y,Y,Y,Y,Y,Y,Y,Y,Y,Y,Y,Y,Y,Y,Y,Y,Y,Y,Y,Y,Y,Y,Y,Y,Y,Y,Y,Y,Y,Y,Y,Y,Y,Y,Y,Y,Y,Y,Y,Y,Y,Y,Y,Y,Y,Y,Y,Y,Y,Y,Y,Y,Y,Y,Y,Y,Y,Y,Y,Y,Y,Y,Y] ⟨[(tb sc0 x2),(tb [.fl .f32] x3),(tb sc0 x4),(tb sc0 x5)],4,[]⟩ =
 (cond (decide ((x1:Int) < ((x2.length:Nat):Int)))
 (k [Y,Y,Y,Y,Y,wsl 0,wsl 1,vf x0,Y,Y,Y,Y,Y,Y,Y,Y,Y,Y,Y,Y,Y,wsl 2,Y,Y,wsl 3,Y,Y,vi x1,Y,Y,Y,Y,Y,Y,Y,Y,Y,Y,Y,Y,Y,Y,Y,Y,Y,Y,Y,Y,Y,Y,Y,Y,Y,Y,Y,Y,Y,Y,Y,Y,Y,Y,Y,Y,Y,Y,Y,Y,Y,Y,Y,Y,Y,Y,Y,Y,Y,Y,Y,Y,Y,Y,Y,Y,Y,Y,Y,Y,Y,Y,Y,Y,Y,Y,Y,Y,Y,Y,Y,Y,Y,Y,Y,Y,Y,Y,Y,Y,Y,Y,Y,Y,Y,Y,Y,Y,Y,Y,Y,Y,Y,Y,Y,Y,Y,Y,Y,Y,Y,Y,Y,Y,Y,Y,Y,Y,Y,Y,Y,Y,Y,Y,Y,Y,Y,Y,Y,Y,Y,Y,Y,Y,Y,Y,Y,Y,Y,Y,Y,Y,Y,Y,Y,Y,Y,Y,Y,Y,Y,Y,Y,Y,Y,Y,Y,Y,Y,Y,Y,Y,Y,Y,Y,Y,Y,Y,Y,Y,Y,Y,Y,Y,Y,Y,Y,Y,Y,Y,Y,Y,Y,Y,Y,Y,Y,Y,Y,Y,Y,Y,Y,Y,Y,Y,Y,Y,Y,Y,Y,Y,Y,Y,Y,Y,Y,vi x1,wsl 0,vi ((x2.length:Nat):Int),.bool (decide ((x1:Int) < ((x2.length:Nat):Int))),Y,Y,Y,Y,Y,Y,Y,Y,Y,Y,Y,Y,Y,Y,Y,Y,Y,Y,Y,Y,Y,Y,Y,Y,Y,Y,Y,Y,Y,Y,Y,Y,Y,Y,Y,Y,Y,Y,Y,Y,Y,Y,Y,Y,Y,Y,Y,Y,Y,Y,Y,Y,Y,Y,Y,Y,Y,Y,Y,Y,Y,Y,Y,Y,Y,Y,Y,Y,Y,Y,Y,Y,Y,Y,Y,Y,Y,Y,Y,Y,Y,Y,Y,Y,Y,Y,Y,Y,Y,Y,Y,Y,Y,Y,Y,Y,Y,Y,Y,Y,Y,Y,Y,Y,Y,Y,Y,Y,Y,Y,Y,Y,Y,Y,Y] ⟨[(tb sc0 x2),(tb [.fl .f32] x3),(tb sc0 x4),(tb sc0 x5)],4,[]⟩)
 ((a6l2 x0 x1 x2 x3 x4 x5) (0))) := by kernel_rfl

theorem i6l2s1 (m:Nat) (x0:Nat) (x1:Int) (x2 x3 x4 x5:LL) (k:List Value→St→Option (Fin'×List Value×St)):evC Try.prog ext T74 L6_2 200 (preC (postC (loopN Try.f6 2) 1) 1) (endK (loopTail ([5,6,7,21,24,27],[]) [4,5,6,7] [] (sumK 344 [5,6,7,21,24,27] [4,5,6,7] (q6l2 m))) k) [Da,Db,Dc,Dd,De,wsl 0,wsl 1,vf x0,Di,Dj,Dk,Dl,Dm,Dn,Do,Dp,Dq,Dr,Ds,Dt,Du,wsl 2,Dw,Dx,wsl 3,Dz,DA,vi x1,DC,DD,DE,DF,DG,DH,DI,DJ,DK,DL,DM,DN,DO,DP,DQ,DR,DS,DT,DU,DV,DW,DX,DY,DZ,D0,D1,D2,D3,D4,D5,D6,D7,D8,D9,Ga,Gb,Gc,Gd,Ge,Gf,Gg,Gh,Gi,Gj,Gk,Gl,Gm,Gn,Go,Gp,Gq,Gr,Gs,Gt,Gu,Gv,Gw,Gx,Gy,Gz,GA,GB,GC,GD,GE,GF,GG,GH,GI,GJ,GK,GL,GM,GN,GO,GP,GQ,GR,GS,GT,GU,GV,GW,GX,GY,GZ,G0,G1,G2,G3,G4,G5,G6,G7,G8,G9,Ha,Hb,Hc,Hd,He,Hf,Hg,Hh,Hi,Hj,Hk,Hl,Hm,Hn,Ho,Hp,Hq,Hr,Hs,Ht,Hu,Hv,Hw,Hx,Hy,Hz,HA,HB,HC,HD,HE,HF,HG,HH,HI,HJ,HK,HL,HM,HN,HO,HP,HQ,HR,HS,HT,HU,HV,HW,HX,HY,HZ,H0,H1,H2,H3,H4,H5,H6,H7,H8,H9,Ja,Jb,Jc,Jd,Je,Jf,Jg,Jh,Ji,Jj,Jk,Jl,Jm,Jn,Jo,Jp,Jq,Jr,Js,Jt,Ju,Jv,Jw,Jx,Jy,Jz,JA,JB,JC,JD,JE,JF,JG,JH,JI,JJ,JK,JL,JM,JN,JO,JP,JQ,JR,JS,JT,JU,JV,JW,JX,JY,JZ,J0,J1,J2,J3,J4,J5,J6,J7,J8,J9,Ka,Kb,Kc,Kd,Ke,Kf,Kg,Kh,Ki,Kj,Kk,Kl,Km,Kn,Ko,Kp,Kq,Kr,Ks,Kt,Ku,Kv,Kw,Kx,Ky,Kz,KA,KB,KC,KD,KE,KF,KG,KH,KI,KJ,KK,KL,KM,KN,KO,KP,KQ,KR,KS,KT,KU,KV,KW,KX,KY,KZ,K0,K1,K2,K3,K4,K5,K6,K7,K8,K9,Ma,Mb,Mc,Md,Me,Mf,Mg,Mh,Mi,Mj,Mk,Ml,Mm,Mn,Mo,Mp,Mq,Mr,Ms,Mt,Mu,Mv,Mw,Mx,My,Mz,MA,MB,MC,MD,ME,MF,MG,MH] ⟨[(tb sc0 x2),(tb [.fl .f32] x3),(tb sc0 x4),(tb sc0 x5)],4,[]⟩ =
 (cond ((decide ((0:Int) ≤ x1)) && (Nat.blt (Int.toNat x1) x5.length))
 (cond (Nat.blt (Int.toNat x1) x5.length)
 (cond ((decide ((0:Int) ≤ x1)) && (Nat.blt (Int.toNat x1) x2.length))
 (cond (Nat.blt (Int.toNat x1) x2.length)
 (cond (!feq .f32 (Int.toNat ((x5.getD (Int.toNat x1) []).getD 2 0)) (Int.toNat ((x2.getD (Int.toNat x1) []).getD 2 0)))
 ((a6l2 x0 x1 x2 x3 x4 x5) (1))
 (cond ((decide ((0:Int) ≤ x1)) && (Nat.blt (Int.toNat x1) x4.length))
 (cond (Nat.blt (Int.toNat x1) x4.length)
 (cond ((decide ((0:Int) ≤ x1)) && (Nat.blt (Int.toNat x1) x2.length))
 (cond (Nat.blt (Int.toNat x1) x2.length)
 (cond (!feq .f32 (Int.toNat ((x4.getD (Int.toNat x1) []).getD 3 0)) (Int.toNat ((x2.getD (Int.toNat x1) []).getD 3 0)))
 ((a6l2 x0 x1 x2 x3 x4 x5) (1))
 (cond ((decide ((0:Int) ≤ x1)) && (Nat.blt (Int.toNat x1) x4.length))
 (cond (Nat.blt (Int.toNat x1) x4.length)
 (cond ((decide ((0:Int) ≤ x1)) && (Nat.blt (Int.toNat x1) x2.length))
 (cond (Nat.blt (Int.toNat x1) x2.length)
 (cond ((((x4.getD (Int.toNat x1) []).getD 4 0):Int) != ((x2.getD (Int.toNat x1) []).getD 4 0))
 ((a6l2 x0 x1 x2 x3 x4 x5) (1))
 (k [Da,Db,Dc,Dd,De,wsl 0,wsl 1,vf x0,Di,Dj,Dk,Dl,Dm,Dn,Do,Dp,Dq,Dr,Ds,Dt,Du,wsl 2,Dw,Dx,wsl 3,Dz,DA,vi x1,DC,DD,DE,DF,DG,DH,DI,DJ,DK,DL,DM,DN,DO,DP,DQ,DR,DS,DT,DU,DV,DW,DX,DY,DZ,D0,D1,D2,D3,D4,D5,D6,D7,D8,D9,Ga,Gb,Gc,Gd,Ge,Gf,Gg,Gh,Gi,Gj,Gk,Gl,Gm,Gn,Go,Gp,Gq,Gr,Gs,Gt,Gu,Gv,Gw,Gx,Gy,Gz,GA,GB,GC,GD,GE,GF,GG,GH,GI,GJ,GK,GL,GM,GN,GO,GP,GQ,GR,GS,GT,GU,GV,GW,GX,GY,GZ,G0,G1,G2,G3,G4,G5,G6,G7,G8,G9,Ha,Hb,Hc,Hd,He,Hf,Hg,Hh,Hi,Hj,Hk,Hl,Hm,Hn,Ho,Hp,Hq,Hr,Hs,Ht,Hu,Hv,Hw,Hx,Hy,Hz,HA,HB,HC,HD,HE,HF,HG,HH,HI,HJ,HK,HL,HM,HN,HO,HP,HQ,HR,HS,HT,HU,HV,HW,HX,HY,HZ,H0,H1,H2,H3,H4,H5,H6,H7,H8,H9,Ja,Jb,Jc,Jd,Je,Jf,Jg,Jh,Ji,Jj,Jk,Jl,Jm,Jn,Jo,Jp,Jq,Jr,Js,Jt,Ju,Jv,Jw,Jx,Jy,Jz,JA,JB,JC,JD,JE,JF,JG,JH,JI,JJ,JK,JL,JM,JN,JO,JP,JQ,JR,JS,wsl 3,vi x1,.pointer (some ⟨3,(Int.toNat x1),some 0⟩),.pointer (some ⟨3,(Int.toNat x1),some 2⟩),vf (Int.toNat ((x5.getD (Int.toNat x1) []).getD 2 0)),wsl 0,vi x1,.pointer (some ⟨0,(Int.toNat x1),some 0⟩),.pointer (some ⟨0,(Int.toNat x1),some 2⟩),vf (Int.toNat ((x2.getD (Int.toNat x1) []).getD 2 0)),.bool (!feq .f32 (Int.toNat ((x5.getD (Int.toNat x1) []).getD 2 0)) (Int.toNat ((x2.getD (Int.toNat x1) []).getD 2 0))),.bool false,wsl 2,vi x1,.pointer (some ⟨2,(Int.toNat x1),some 0⟩),.pointer (some ⟨2,(Int.toNat x1),some 3⟩),vf (Int.toNat ((x4.getD (Int.toNat x1) []).getD 3 0)),wsl 0,vi x1,.pointer (some ⟨0,(Int.toNat x1),some 0⟩),.pointer (some ⟨0,(Int.toNat x1),some 3⟩),vf (Int.toNat ((x2.getD (Int.toNat x1) []).getD 3 0)),.bool (!feq .f32 (Int.toNat ((x4.getD (Int.toNat x1) []).getD 3 0)) (Int.toNat ((x2.getD (Int.toNat x1) []).getD 3 0))),.bool (!feq .f32 (Int.toNat ((x4.getD (Int.toNat x1) []).getD 3 0)) (Int.toNat ((x2.getD (Int.toNat x1) []).getD 3 0))),.bool false,wsl 2,vi x1,.pointer (some ⟨2,(Int.toNat x1),some 0⟩),.pointer (some ⟨2,(Int.toNat x1),some 4⟩),vi ((x4.getD (Int.toNat x1) []).getD 4 0),wsl 0,vi x1,.pointer (some ⟨0,(Int.toNat x1),some 0⟩),.pointer (some ⟨0,(Int.toNat x1),some 4⟩),vi ((x2.getD (Int.toNat x1) []).getD 4 0),.bool ((((x4.getD (Int.toNat x1) []).getD 4 0):Int) != ((x2.getD (Int.toNat x1) []).getD 4 0)),.bool ((((x4.getD (Int.toNat x1) []).getD 4 0):Int) != ((x2.getD (Int.toNat x1) []).getD 4 0)),Ku,Kv,Kw,Kx,Ky,Kz,KA,KB,KC,KD,KE,KF,KG,KH,KI,KJ,KK,KL,KM,KN,KO,KP,KQ,KR,KS,KT,KU,KV,KW,KX,KY,KZ,K0,K1,K2,K3,K4,K5,K6,K7,K8,K9,Ma,Mb,Mc,Md,Me,Mf,Mg,Mh,Mi,Mj,Mk,Ml,Mm,Mn,Mo,Mp,Mq,Mr,Ms,Mt,Mu,Mv,Mw,Mx,My,Mz,MA,MB,MC,MD,ME,MF,MG,MH] ⟨[(tb sc0 x2),(tb [.fl .f32] x3),(tb sc0 x4),(tb sc0 x5)],4,[]⟩))
 none)
 none)
 none)
 none))
 none)
 none)
 none)
 none))
 none)
 none)
 none)
 none) := by kernel_rfl

theorem i6l2s2 (m:Nat) (x0:Nat) (x1:Int) (x2 x3 x4 x5:LL):evC Try.prog ext T74 L6_2 200 (postC (loopN Try.f6 2) 2) (loopTail ([5,6,7,21,24,27],[]) [4,5,6,7] [] (sumK 344 [5,6,7,21,24,27] [4,5,6,7] (q6l2 m))) [Da,Db,Dc,Dd,De,wsl 0,wsl 1,vf x0,Di,Dj,Dk,Dl,Dm,Dn,Do,Dp,Dq,Dr,Ds,Dt,Du,wsl 2,Dw,Dx,wsl 3,Dz,DA,vi x1,DC,DD,DE,DF,DG,DH,DI,DJ,DK,DL,DM,DN,DO,DP,DQ,DR,DS,DT,DU,DV,DW,DX,DY,DZ,D0,D1,D2,D3,D4,D5,D6,D7,D8,D9,Ga,Gb,Gc,Gd,Ge,Gf,Gg,Gh,Gi,Gj,Gk,Gl,Gm,Gn,Go,Gp,Gq,Gr,Gs,Gt,Gu,Gv,Gw,Gx,Gy,Gz,GA,GB,GC,GD,GE,GF,GG,GH,GI,GJ,GK,GL,GM,GN,GO,GP,GQ,GR,GS,GT,GU,GV,GW,GX,GY,GZ,G0,G1,G2,G3,G4,G5,G6,G7,G8,G9,Ha,Hb,Hc,Hd,He,Hf,Hg,Hh,Hi,Hj,Hk,Hl,Hm,Hn,Ho,Hp,Hq,Hr,Hs,Ht,Hu,Hv,Hw,Hx,Hy,Hz,HA,HB,HC,HD,HE,HF,HG,HH,HI,HJ,HK,HL,HM,HN,HO,HP,HQ,HR,HS,HT,HU,HV,HW,HX,HY,HZ,H0,H1,H2,H3,H4,H5,H6,H7,H8,H9,Ja,Jb,Jc,Jd,Je,Jf,Jg,Jh,Ji,Jj,Jk,Jl,Jm,Jn,Jo,Jp,Jq,Jr,Js,Jt,Ju,Jv,Jw,Jx,Jy,Jz,JA,JB,JC,JD,JE,JF,JG,JH,JI,JJ,JK,JL,JM,JN,JO,JP,JQ,JR,JS,JT,JU,JV,JW,JX,JY,JZ,J0,J1,J2,J3,J4,J5,J6,J7,J8,J9,Ka,Kb,Kc,Kd,Ke,Kf,Kg,Kh,Ki,Kj,Kk,Kl,Km,Kn,Ko,Kp,Kq,Kr,Ks,Kt,Ku,Kv,Kw,Kx,Ky,Kz,KA,KB,KC,KD,KE,KF,KG,KH,KI,KJ,KK,KL,KM,KN,KO,KP,KQ,KR,KS,KT,KU,KV,KW,KX,KY,KZ,K0,K1,K2,K3,K4,K5,K6,K7,K8,K9,Ma,Mb,Mc,Md,Me,Mf,Mg,Mh,Mi,Mj,Mk,Ml,Mm,Mn,Mo,Mp,Mq,Mr,Ms,Mt,Mu,Mv,Mw,Mx,My,Mz,MA,MB,MC,MD,ME,MF,MG,MH] ⟨[(tb sc0 x2),(tb [.fl .f32] x3),(tb sc0 x4),(tb sc0 x5)],4,[]⟩ =
 (u6l2 x0 x1 x2 x3 x4 x5 ((r6l2 m) x0 (IntKind.i64.wrap (x1 + 1)) x2 x3 x4 x5)) := by kernel_rfl
end Go.Proofs.Ytmknfenjnladeaa

namespace Go.Proofs.Ytmknfenjnladeaa
open Go.Ab
set_option maxHeartbeats 4000000
set_option maxRecDepth 100000

variable {D0 D1 D2 D3 D4 D5 D6 D7 D8 D9 DA DC DD DE DF DG DH DI DJ DK DL DM DN DO DP DQ DR DS DT DU DV DW DX DY DZ Da Db Dc Dd De Di Dj Dk Dl Dm Dn Do Dp Dq Dr Ds Dt Du Dw Dx Dz G0 G1 G2 G3 G4 G5 G6 G7 G8 G9 GA GB GC GD GE GF GG GH GI GJ GK GL GM GN GO GP GQ GR GS GT GU GV GW GX GY GZ Ga Gb Gc Gd Ge Gf Gg Gh Gi Gj Gk Gl Gm Gn Go Gp Gq Gr Gs Gt Gu Gv Gw Gx Gy Gz H0 H1 H2 H3 H4 H5 H6 H7 H8 H9 HA HB HC HD HE HF HG HH HI HJ HK HL HM HN HO HP HQ HR HS HT HU HV HW HX HY HZ Ha Hb Hc Hd He Hf Hg Hh Hi Hj Hk Hl Hm Hn Ho Hp Hq Hr Hs Ht Hu Hv Hw Hx Hy Hz J0 J1 J2 J3 J4 J5 J6 J7 J8 J9 JA JB JC JD JE JF JG JH JI JJ JK JL JM JN JO JP JQ JR JS JT JU JV JW JX JY JZ Ja Jb Jc Jd Je Jf Jg Jh Ji Jj Jk Jl Jm Jn Jo Jp Jq Jr Js Jt Ju Jv Jw Jx Jy Jz K0 K1 K2 K3 K4 K5 K6 K7 K8 K9 KA KB KC KD KE KF KG KH KI KJ KK KL KM KN KO KP KQ KR KS KT KU KV KW KX KY KZ Ka Kb Kc Kd Ke Kf Kg Kh Ki Kj Kk Kl Km Kn Ko Kp Kq Kr Ks Kt Ku Kv Kw Kx Ky Kz MA MB MC MD ME MF MG MH Ma Mb Mc Md Me Mf Mg Mh Mi Mj Mk Ml Mm Mn Mo Mp Mq Mr Ms Mt Mu Mv Mw Mx My Mz:Value}

theorem j6l2s2 (m:Nat) (x0:Nat) (x1:Int) (x2 x3 x4 x5:LL):evC Try.prog ext T74 L6_2 200 (postC (loopN Try.f6 2) 2) (loopTail ([5,6,7,21,24,27],[]) [4,5,6,7] [] (sumK 344 [5,6,7,21,24,27] [4,5,6,7] (q6l2 m))) [Da,Db,Dc,Dd,De,wsl 0,wsl 1,vf x0,Di,Dj,Dk,Dl,Dm,Dn,Do,Dp,Dq,Dr,Ds,Dt,Du,wsl 2,Dw,Dx,wsl 3,Dz,DA,vi x1,DC,DD,DE,DF,DG,DH,DI,DJ,DK,DL,DM,DN,DO,DP,DQ,DR,DS,DT,DU,DV,DW,DX,DY,DZ,D0,D1,D2,D3,D4,D5,D6,D7,D8,D9,Ga,Gb,Gc,Gd,Ge,Gf,Gg,Gh,Gi,Gj,Gk,Gl,Gm,Gn,Go,Gp,Gq,Gr,Gs,Gt,Gu,Gv,Gw,Gx,Gy,Gz,GA,GB,GC,GD,GE,GF,GG,GH,GI,GJ,GK,GL,GM,GN,GO,GP,GQ,GR,GS,GT,GU,GV,GW,GX,GY,GZ,G0,G1,G2,G3,G4,G5,G6,G7,G8,G9,Ha,Hb,Hc,Hd,He,Hf,Hg,Hh,Hi,Hj,Hk,Hl,Hm,Hn,Ho,Hp,Hq,Hr,Hs,Ht,Hu,Hv,Hw,Hx,Hy,Hz,HA,HB,HC,HD,HE,HF,HG,HH,HI,HJ,HK,HL,HM,HN,HO,HP,HQ,HR,HS,HT,HU,HV,HW,HX,HY,HZ,H0,H1,H2,H3,H4,H5,H6,H7,H8,H9,Ja,Jb,Jc,Jd,Je,Jf,Jg,Jh,Ji,Jj,Jk,Jl,Jm,Jn,Jo,Jp,Jq,Jr,Js,Jt,Ju,Jv,Jw,Jx,Jy,Jz,JA,JB,JC,JD,JE,JF,JG,JH,JI,JJ,JK,JL,JM,JN,JO,JP,JQ,JR,JS,JT,JU,JV,JW,JX,JY,JZ,J0,J1,J2,J3,J4,J5,J6,J7,J8,J9,Ka,Kb,Kc,Kd,Ke,Kf,Kg,Kh,Ki,Kj,Kk,Kl,Km,Kn,Ko,Kp,Kq,Kr,Ks,Kt,Ku,Kv,Kw,Kx,Ky,Kz,KA,KB,KC,KD,KE,KF,KG,KH,KI,KJ,KK,KL,KM,KN,KO,KP,KQ,KR,KS,KT,KU,KV,KW,KX,KY,KZ,K0,K1,K2,K3,K4,K5,K6,K7,K8,K9,Ma,Mb,Mc,Md,Me,Mf,Mg,Mh,Mi,Mj,Mk,Ml,Mm,Mn,Mo,Mp,Mq,Mr,Ms,Mt,Mu,Mv,Mw,Mx,My,Mz,MA,MB,MC,MD,ME,MF,MG,MH] ⟨[(tb sc0 x2),(tb [.fl .f32] x3),(tb sc0 x4),(tb sc0 x5)],4,[]⟩ = (a6l2 x0 x1 x2 x3 x4 x5) (st6l2s2 (r6l2 m) x0 x1 x2 x3 x4 x5) :=
 ((i6l2s2 m x0 x1 x2 x3 x4 x5).trans (by unfold st6l2s2; exact (v6l2 x0 x1 x2 x3 x4 x5 ((r6l2 m) x0 (IntKind.i64.wrap (x1 + 1)) x2 x3 x4 x5))))
theorem j6l2s1 (m:Nat) (x0:Nat) (x1:Int) (x2 x3 x4 x5:LL):evC Try.prog ext T74 L6_2 200 (postC (loopN Try.f6 2) 1) (loopTail ([5,6,7,21,24,27],[]) [4,5,6,7] [] (sumK 344 [5,6,7,21,24,27] [4,5,6,7] (q6l2 m))) [Da,Db,Dc,Dd,De,wsl 0,wsl 1,vf x0,Di,Dj,Dk,Dl,Dm,Dn,Do,Dp,Dq,Dr,Ds,Dt,Du,wsl 2,Dw,Dx,wsl 3,Dz,DA,vi x1,DC,DD,DE,DF,DG,DH,DI,DJ,DK,DL,DM,DN,DO,DP,DQ,DR,DS,DT,DU,DV,DW,DX,DY,DZ,D0,D1,D2,D3,D4,D5,D6,D7,D8,D9,Ga,Gb,Gc,Gd,Ge,Gf,Gg,Gh,Gi,Gj,Gk,Gl,Gm,Gn,Go,Gp,Gq,Gr,Gs,Gt,Gu,Gv,Gw,Gx,Gy,Gz,GA,GB,GC,GD,GE,GF,GG,GH,GI,GJ,GK,GL,GM,GN,GO,GP,GQ,GR,GS,GT,GU,GV,GW,GX,GY,GZ,G0,G1,G2,G3,G4,G5,G6,G7,G8,G9,Ha,Hb,Hc,Hd,He,Hf,Hg,Hh,Hi,Hj,Hk,Hl,Hm,Hn,Ho,Hp,Hq,Hr,Hs,Ht,Hu,Hv,Hw,Hx,Hy,Hz,HA,HB,HC,HD,HE,HF,HG,HH,HI,HJ,HK,HL,HM,HN,HO,HP,HQ,HR,HS,HT,HU,HV,HW,HX,HY,HZ,H0,H1,H2,H3,H4,H5,H6,H7,H8,H9,Ja,Jb,Jc,Jd,Je,Jf,Jg,Jh,Ji,Jj,Jk,Jl,Jm,Jn,Jo,Jp,Jq,Jr,Js,Jt,Ju,Jv,Jw,Jx,Jy,Jz,JA,JB,JC,JD,JE,JF,JG,JH,JI,JJ,JK,JL,JM,JN,JO,JP,JQ,JR,JS,JT,JU,JV,JW,JX,JY,JZ,J0,J1,J2,J3,J4,J5,J6,J7,J8,J9,Ka,Kb,Kc,Kd,Ke,Kf,Kg,Kh,Ki,Kj,Kk,Kl,Km,Kn,Ko,Kp,Kq,Kr,Ks,Kt,Ku,Kv,Kw,Kx,Ky,Kz,KA,KB,KC,KD,KE,KF,KG,KH,KI,KJ,KK,KL,KM,KN,KO,KP,KQ,KR,KS,KT,KU,KV,KW,KX,KY,KZ,K0,K1,K2,K3,K4,K5,K6,K7,K8,K9,Ma,Mb,Mc,Md,Me,Mf,Mg,Mh,Mi,Mj,Mk,Ml,Mm,Mn,Mo,Mp,Mq,Mr,Ms,Mt,Mu,Mv,Mw,Mx,My,Mz,MA,MB,MC,MD,ME,MF,MG,MH] ⟨[(tb sc0 x2),(tb [.fl .f32] x3),(tb sc0 x4),(tb sc0 x5)],4,[]⟩ = (a6l2 x0 x1 x2 x3 x4 x5) (st6l2s1 (r6l2 m) x0 x1 x2 x3 x4 x5) :=
 ((split_k _ _ _ _ _ 1 _ _ _ _).trans ((i6l2s1 m x0 x1 x2 x3 x4 x5 (evC Try.prog ext T74 L6_2 200 (postC (postC (loopN Try.f6 2) 1) 1) (loopTail ([5,6,7,21,24,27],[]) [4,5,6,7] [] (sumK 344 [5,6,7,21,24,27] [4,5,6,7] (q6l2 m))))).trans (by unfold st6l2s1; exact (cond_app (a6l2 x0 x1 x2 x3 x4 x5) _ (cond_app (a6l2 x0 x1 x2 x3 x4 x5) _ (cond_app (a6l2 x0 x1 x2 x3 x4 x5) _ (cond_app (a6l2 x0 x1 x2 x3 x4 x5) _ (cond_app (a6l2 x0 x1 x2 x3 x4 x5) _ rfl (cond_app (a6l2 x0 x1 x2 x3 x4 x5) _ (cond_app (a6l2 x0 x1 x2 x3 x4 x5) _ (cond_app (a6l2 x0 x1 x2 x3 x4 x5) _ (cond_app (a6l2 x0 x1 x2 x3 x4 x5) _ (cond_app (a6l2 x0 x1 x2 x3 x4 x5) _ rfl (cond_app (a6l2 x0 x1 x2 x3 x4 x5) _ (cond_app (a6l2 x0 x1 x2 x3 x4 x5) _ (cond_app (a6l2 x0 x1 x2 x3 x4 x5) _ (cond_app (a6l2 x0 x1 x2 x3 x4 x5) _ (cond_app (a6l2 x0 x1 x2 x3 x4 x5) _ rfl (j6l2s2 m x0 x1 x2 x3 x4 x5)) rfl) rfl) rfl) rfl)) rfl) rfl) rfl) rfl)) rfl) rfl) rfl) rfl))))
theorem j6l2s0 (m:Nat) (x0:Nat) (x1:Int) (x2 x3 x4 x5:LL):evC Try.prog ext T74 L6_2 200 (postC (loopN Try.f6 2) 0) (loopTail ([5,6,7,21,24,27],[]) [4,5,6,7] [] (sumK 344 [5,6,7,21,24,27] [4,5,6,7] (q6l2 m))) [Y,Y,Y,Y,Y,wsl 0,wsl 1,vf x0,Y,Y,Y,Y,Y,Y,Y,Y,Y,Y,Y,Y,Y,wsl 2,Y,Y,wsl 3,Y,Y,vi x1,Y,Y,Y,Y,Y,Y,Y,Y,Y,Y,Y,Y,Y,Y,Y,Y,Y,Y,Y,Y,Y,Y,Y,Y,Y,Y,Y,Y,Y,Y,Y,Y,Y,Y,Y,Y,Y,Y,Y,Y,Y,Y,Y,Y,Y,Y,Y,Y,Y,Y,Y,Y,Y,Y,Y,Y,Y,Y,Y,Y,Y,Y,Y,Y,Y,Y,Y,Y,Y,Y,Y,Y,Y,Y,Y,Y,Y,Y,Y,Y,Y,Y,Y,Y,Y,Y,Y,Y,Y,Y,Y,Y,Y,Y,Y,Y,Y,Y,Y,Y,Y,Y,Y,Y,Y,Y,Y,Y,Y,Y,Y,Y,Y,Y,Y,Y,Y,Y,Y,Y,Y,Y,Y,Y,Y,Y,Y,Y,Y,Y,Y,Y,Y,Y,Y,Y,Y,Y,Y,Y,Y,Y,Y,Y,Y,Y,Y,Y,Y,Y,Y,Y,Y,Y,Y,Y,Y,Y,Y,Y,Y,Y,Y,Y,Y,Y,Y,Y,Y,Y,Y,Y,Y,Y,Y,Y,Y,Y,Y,Y,Y,Y,Y,Y,Y,Y,Y,Y,Y,Y,Y,Y,Y,Y,Y,Y,Y,Y,Y,Y,Y,Y,Y,Y,Y,Y,Y,Y,Y,Y,Y,Y,Y,Y,Y,Y,Y,Y,Y,Y,Y,Y,Y,Y,Y,Y,Y,Y,Y,Y,Y,Y,Y,Y,Y,Y,Y,Y,Y,Y,Y,Y,Y,Y,Y,Y,Y,Y,Y,Y,Y,Y,Y,Y,Y,Y,Y,Y,Y,Y,Y,Y,Y,Y,Y,Y,Y,Y,Y,Y,Y,Y,Y,Y,Y,Y,Y,Y,Y,Y,Y,Y,Y,Y,Y,Y,Y,Y,Y,Y,Y,Y,Y,Y,Y,Y,Y,Y,Y,Y,Y,Y,Y,Y,Y,Y,Y,Y,Y,Y,Y,Y,Y,Y,Y,Y] ⟨[(tb sc0 x2),(tb [.fl .f32] x3),(tb sc0 x4),(tb sc0 x5)],4,[]⟩ = (a6l2 x0 x1 x2 x3 x4 x5) (st6l2s0 (r6l2 m) x0 x1 x2 x3 x4 x5) :=
 ((split_k _ _ _ _ _ 1 _ _ _ _).trans ((i6l2s0 m x0 x1 x2 x3 x4 x5 (evC Try.prog ext T74 L6_2 200 (postC (postC (loopN Try.f6 2) 0) 1) (loopTail ([5,6,7,21,24,27],[]) [4,5,6,7] [] (sumK 344 [5,6,7,21,24,27] [4,5,6,7] (q6l2 m))))).trans (by unfold st6l2s0; exact (cond_app (a6l2 x0 x1 x2 x3 x4 x5) _ (j6l2s1 m x0 x1 x2 x3 x4 x5) rfl))))
theorem hb6l2:(loopN Try.f6 2) = postC (loopN Try.f6 2) 0 := by kernel_rfl
theorem hf6l2 (x0:Nat) (x1:Int) (x2 x3 x4 x5:LL):(frameOf 344 [5,6,7,21,24,27] [wsl 0,wsl 1,vf x0,wsl 2,wsl 3,vi x1]) = [Y,Y,Y,Y,Y,wsl 0,wsl 1,vf x0,Y,Y,Y,Y,Y,Y,Y,Y,Y,Y,Y,Y,Y,wsl 2,Y,Y,wsl 3,Y,Y,vi x1,Y,Y,Y,Y,Y,Y,Y,Y,Y,Y,Y,Y,Y,Y,Y,Y,Y,Y,Y,Y,Y,Y,Y,Y,Y,Y,Y,Y,Y,Y,Y,Y,Y,Y,Y,Y,Y,Y,Y,Y,Y,Y,Y,Y,Y,Y,Y,Y,Y,Y,Y,Y,Y,Y,Y,Y,Y,Y,Y,Y,Y,Y,Y,Y,Y,Y,Y,Y,Y,Y,Y,Y,Y,Y,Y,Y,Y,Y,Y,Y,Y,Y,Y,Y,Y,Y,Y,Y,Y,Y,Y,Y,Y,Y,Y,Y,Y,Y,Y,Y,Y,Y,Y,Y,Y,Y,Y,Y,Y,Y,Y,Y,Y,Y,Y,Y,Y,Y,Y,Y,Y,Y,Y,Y,Y,Y,Y,Y,Y,Y,Y,Y,Y,Y,Y,Y,Y,Y,Y,Y,Y,Y,Y,Y,Y,Y,Y,Y,Y,Y,Y,Y,Y,Y,Y,Y,Y,Y,Y,Y,Y,Y,Y,Y,Y,Y,Y,Y,Y,Y,Y,Y,Y,Y,Y,Y,Y,Y,Y,Y,Y,Y,Y,Y,Y,Y,Y,Y,Y,Y,Y,Y,Y,Y,Y,Y,Y,Y,Y,Y,Y,Y,Y,Y,Y,Y,Y,Y,Y,Y,Y,Y,Y,Y,Y,Y,Y,Y,Y,Y,Y,Y,Y,Y,Y,Y,Y,Y,Y,Y,Y,Y,Y,Y,Y,Y,Y,Y,Y,Y,Y,Y,Y,Y,Y,Y,Y,Y,Y,Y,Y,Y,Y,Y,Y,Y,Y,Y,Y,Y,Y,Y,Y,Y,Y,Y,Y,Y,Y,Y,Y,Y,Y,Y,Y,Y,Y,Y,Y,Y,Y,Y,Y,Y,Y,Y,Y,Y,Y,Y,Y,Y,Y,Y,Y,Y,Y,Y,Y,Y,Y,Y,Y,Y,Y,Y,Y,Y,Y,Y,Y,Y,Y,Y,Y,Y] := by kernel_rfl
theorem ea6l2 (m:Nat) (x0:Nat) (x1:Int) (x2 x3 x4 x5:LL):evC Try.prog ext T74 L6_2 200 (loopN Try.f6 2) (loopTail ([5,6,7,21,24,27],[]) [4,5,6,7] [] (sumK 344 [5,6,7,21,24,27] [4,5,6,7] (q6l2 m))) (frameOf 344 [5,6,7,21,24,27] [wsl 0,wsl 1,vf x0,wsl 2,wsl 3,vi x1]) ⟨[(tb sc0 x2),(tb [.fl .f32] x3),(tb sc0 x4),(tb sc0 x5)],4,[]⟩ = evC Try.prog ext T74 L6_2 200 (postC (loopN Try.f6 2) 0) (loopTail ([5,6,7,21,24,27],[]) [4,5,6,7] [] (sumK 344 [5,6,7,21,24,27] [4,5,6,7] (q6l2 m))) [Y,Y,Y,Y,Y,wsl 0,wsl 1,vf x0,Y,Y,Y,Y,Y,Y,Y,Y,Y,Y,Y,Y,Y,wsl 2,Y,Y,wsl 3,Y,Y,vi x1,Y,Y,Y,Y,Y,Y,Y,Y,Y,Y,Y,Y,Y,Y,Y,Y,Y,Y,Y,Y,Y,Y,Y,Y,Y,Y,Y,Y,Y,Y,Y,Y,Y,Y,Y,Y,Y,Y,Y,Y,Y,Y,Y,Y,Y,Y,Y,Y,Y,Y,Y,Y,Y,Y,Y,Y,Y,Y,Y,Y,Y,Y,Y,Y,Y,Y,Y,Y,Y,Y,Y,Y,Y,Y,Y,Y,Y,Y,Y,Y,Y,Y,Y,Y,Y,Y,Y,Y,Y,Y,Y,Y,Y,Y,Y,Y,Y,Y,Y,Y,Y,Y,Y,Y,Y,Y,Y,Y,Y,Y,Y,Y,Y,Y,Y,Y,Y,Y,Y,Y,Y,Y,Y,Y,Y,Y,Y,Y,Y,Y,Y,Y,Y,Y,Y,Y,Y,Y,Y,Y,Y,Y,Y,Y,Y,Y,Y,Y,Y,Y,Y,Y,Y,Y,Y,Y,Y,Y,Y,Y,Y,Y,Y,Y,Y,Y,Y,Y,Y,Y,Y,Y,Y,Y,Y,Y,Y,Y,Y,Y,Y,Y,Y,Y,Y,Y,Y,Y,Y,Y,Y,Y,Y,Y,Y,Y,Y,Y,Y,Y,Y,Y,Y,Y,Y,Y,Y,Y,Y,Y,Y,Y,Y,Y,Y,Y,Y,Y,Y,Y,Y,Y,Y,Y,Y,Y,Y,Y,Y,Y,Y,Y,Y,Y,Y,Y,Y,Y,Y,Y,Y,Y,Y,Y,Y,Y,Y,Y,Y,Y,Y,Y,Y,Y,Y,Y,Y,Y,Y,Y,Y,Y,Y,Y,Y,Y,Y,Y,Y,Y,Y,Y,Y,Y,Y,Y,Y,Y,Y,Y,Y,Y,Y,Y,Y,Y,Y,Y,Y,Y,Y,Y,Y,Y,Y,Y,Y,Y,Y,Y,Y,Y,Y,Y,Y,Y,Y,Y,Y,Y,Y,Y,Y,Y,Y,Y] ⟨[(tb sc0 x2),(tb [.fl .f32] x3),(tb sc0 x4),(tb sc0 x5)],4,[]⟩ := by rw [hf6l2 x0 x1 x2 x3 x4 x5,← hb6l2]
theorem eb6l2 (m:Nat) (x0:Nat) (x1:Int) (x2 x3 x4 x5:LL):evC Try.prog ext T74 L6_2 200 (postC (loopN Try.f6 2) 0) (loopTail ([5,6,7,21,24,27],[]) [4,5,6,7] [] (sumK 344 [5,6,7,21,24,27] [4,5,6,7] (q6l2 m))) [Y,Y,Y,Y,Y,wsl 0,wsl 1,vf x0,Y,Y,Y,Y,Y,Y,Y,Y,Y,Y,Y,Y,Y,wsl 2,Y,Y,wsl 3,Y,Y,vi x1,Y,Y,Y,Y,Y,Y,Y,Y,Y,Y,Y,Y,Y,Y,Y,Y,Y,Y,Y,Y,Y,Y,Y,Y,Y,Y,Y,Y,Y,Y,Y,Y,Y,Y,Y,Y,Y,Y,Y,Y,Y,Y,Y,Y,Y,Y,Y,Y,Y,Y,Y,Y,Y,Y,Y,Y,Y,Y,Y,Y,Y,Y,Y,Y,Y,Y,Y,Y,Y,Y,Y,Y,Y,Y,Y,Y,Y,Y,Y,Y,Y,Y,Y,Y,Y,Y,Y,Y,Y,Y,Y,Y,Y,Y,Y,Y,Y,Y,Y,Y,Y,Y,Y,Y,Y,Y,Y,Y,Y,Y,Y,Y,Y,Y,Y,Y,Y,Y,Y,Y,Y,Y,Y,Y,Y,Y,Y,Y,Y,Y,Y,Y,Y,Y,Y,Y,Y,Y,Y,Y,Y,Y,Y,Y,Y,Y,Y,Y,Y,Y,Y,Y,Y,Y,Y,Y,Y,Y,Y,Y,Y,Y,Y,Y,Y,Y,Y,Y,Y,Y,Y,Y,Y,Y,Y,Y,Y,Y,Y,Y,Y,Y,Y,Y,Y,Y,Y,Y,Y,Y,Y,Y,Y,Y,Y,Y,Y,Y,Y,Y,Y,Y,Y,Y,Y,Y,Y,Y,Y,Y,Y,Y,Y,Y,Y,Y,Y,Y,Y,Y,Y,Y,Y,Y,Y,Y,Y,Y,Y,Y,Y,Y,Y,Y,Y,Y,Y,Y,Y,Y,Y,Y,Y,Y,Y,Y,Y,Y,Y,Y,Y,Y,Y,Y,Y,Y,Y,Y,Y,Y,Y,Y,Y,Y,Y,Y,Y,Y,Y,Y,Y,Y,Y,Y,Y,Y,Y,Y,Y,Y,Y,Y,Y,Y,Y,Y,Y,Y,Y,Y,Y,Y,Y,Y,Y,Y,Y,Y,Y,Y,Y,Y,Y,Y,Y,Y,Y,Y,Y,Y,Y,Y,Y,Y,Y,Y] ⟨[(tb sc0 x2),(tb [.fl .f32] x3),(tb sc0 x4),(tb sc0 x5)],4,[]⟩ = (a6l2 x0 x1 x2 x3 x4 x5) (b6l2 (r6l2 m) x0 x1 x2 x3 x4 x5) := j6l2s0 m x0 x1 x2 x3 x4 x5
theorem z6l2 (x0:Nat) (x1:Int) (x2 x3 x4 x5:LL) (p:Nat):(a6l2 x0 x1 x2 x3 x4 x5) p = firstT ([((Nat.beq p 0),.exit 4,[Y,wsl 0,wsl 1,vf x0],⟨[(tb sc0 x2),(tb [.fl .f32] x3),(tb sc0 x4),(tb sc0 x5)],4,[]⟩),((Nat.beq p 1),.ret,[.bool false,wsl 0,wsl 1,vf x0],⟨[(tb sc0 x2),(tb [.fl .f32] x3),(tb sc0 x4),(tb sc0 x5)],4,[]⟩)].map fun (b,x) => (b,(x.1,frameOf 344 [4,5,6,7] x.2.1,x.2.2))) := rfl
theorem e6l2 (m:Nat) (x0:Nat) (x1:Int) (x2 x3 x4 x5:LL):evC Try.prog ext T74 L6_2 200 (loopN Try.f6 2) (loopTail ([5,6,7,21,24,27],[]) [4,5,6,7] [] (sumK 344 [5,6,7,21,24,27] [4,5,6,7] (q6l2 m))) (frameOf 344 [5,6,7,21,24,27] [wsl 0,wsl 1,vf x0,wsl 2,wsl 3,vi x1]) ⟨[(tb sc0 x2),(tb [.fl .f32] x3),(tb sc0 x4),(tb sc0 x5)],4,[]⟩ = firstT ([((Nat.beq (r6l2 (m + 1) x0 x1 x2 x3 x4 x5) 0),.exit 4,[Y,wsl 0,wsl 1,vf x0],⟨[(tb sc0 x2),(tb [.fl .f32] x3),(tb sc0 x4),(tb sc0 x5)],4,[]⟩),((Nat.beq (r6l2 (m + 1) x0 x1 x2 x3 x4 x5) 1),.ret,[.bool false,wsl 0,wsl 1,vf x0],⟨[(tb sc0 x2),(tb [.fl .f32] x3),(tb sc0 x4),(tb sc0 x5)],4,[]⟩)].map fun (b,x) => (b,(x.1,frameOf 344 [4,5,6,7] x.2.1,x.2.2))) :=
 (ea6l2 m x0 x1 x2 x3 x4 x5).trans ((eb6l2 m x0 x1 x2 x3 x4 x5).trans (z6l2 x0 x1 x2 x3 x4 x5 (r6l2 (m + 1) x0 x1 x2 x3 x4 x5)))
theorem qm6l2:∀ m,SumKOk Try.prog (loopN Try.f6 2) 344 [5,6,7,21,24,27] [4,5,6,7] (q6l2 m) := by
  intro m
  induction m with
  | zero =>
    intro vals s x h1 h2 h3
    unfold q6l2 at h3; split at h3
    · rename_i h; split at h3
      · rename_i hc; obtain ⟨rfl,rfl,rfl,rfl⟩ := hc; exact absurd h3 (by simp [r6l2,firstT,Nat.beq])
      · exact noQ_ok _ _ _ h1 h2 h3
    · exact noQ_ok _ _ _ h1 h2 h3
  | succ m ih =>
    intro vals s x h1 h2 h3
    unfold q6l2 at h3; split at h3
    · rename_i h; split at h3
      · rename_i hc; obtain ⟨rfl,rfl,rfl,rfl⟩ := hc; exact sum_step ok74 extOk mixed (lok6_2.inner (by kernel_rfl)) ih h1 h2 h (e6l2 m _ _ _ _ _ _) rfl h3
      · exact noQ_ok _ _ _ h1 h2 h3
    · exact noQ_ok _ _ _ h1 h2 h3
noncomputable def Q6l2:SumK := fun vals s => q6l2 (fuelOf vals s.h) vals s
theorem qok6l2:SumKOk Try.prog (loopN Try.f6 2) 344 [5,6,7,21,24,27] [4,5,6,7] Q6l2 := fuel_ok qm6l2 fuelOf
noncomputable def L6_3:LoopT := addL L6_2 34 ([5,6,7,21,24,27],[]) (sumK 344 [5,6,7,21,24,27] [4,5,6,7] Q6l2)
theorem lok6_3:LfOkF Try.prog L6_3 Try.f6 := lfOkF_add lok6_2 qok6l2 (by kernel_rfl) (by kernel_rfl) (by kernel_rfl)
end Go.Proofs.Ytmknfenjnladeaa
