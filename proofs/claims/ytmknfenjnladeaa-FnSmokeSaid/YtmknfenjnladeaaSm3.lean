/- What the functions that the statements reach answer, part 3. -/
import Derived.Test.YtmknfenjnladeaaSm2
namespace Go.Proofs.Ytmknfenjnladeaa
open Go.Ab
set_option maxHeartbeats 4000000
set_option maxRecDepth 100000

noncomputable def b96l0 (ih:Nat→Int→Int→LL→LL→LL→LL→(Nat×LL)) (x0:Nat) (x1 x2:Int) (x3 x4 x5 x6:LL):Nat×LL :=
 let c181 := (r96l1 (1000 + ((r131 x2 x3).2).length + x6.length + x5.length + x4.length + x3.length) x0 0 0 x1 x2 ((((r131 x2 x3).2).length:Nat):Int) 0 x3 x4 x5 x6 (Int.toNat ((x3.getD (Int.toNat x2) []).getD 0 0)) (Int.toNat ((x3.getD (Int.toNat x2) []).getD 1 0)) (Int.toNat ((x3.getD (Int.toNat x2) []).getD 2 0)) (Int.toNat ((x3.getD (Int.toNat x2) []).getD 3 0)) ((x3.getD (Int.toNat x2) []).getD 4 0) ((r131 x2 x3).2))
 cond (decide ((x2:Int) < x1)) (cond ((decide ((0:Int) ≤ x2)) && (Nat.blt (Int.toNat x2) x3.length)) (cond (Nat.beq ((r131 x2 x3).1) 0) (cond ((decide ((0:Int) ≤ x2)) && (Nat.blt (Int.toNat x2) x5.length)) (cond (flt .f32 (Int.toNat ((x5.getD (Int.toNat x2) []).getD 0 0)) 0) (cond (Nat.ble ((x6.length + 1) * 5) 140737488355328) (cond (Nat.beq ((ih x0 x1 (IntKind.i64.wrap (x2 + 1)) x3 x4 x5 (((x6.drop 0).take x6.length) ++ ([[((x0:Nat):Int)]]:LL))).1) 0) (0,((ih x0 x1 (IntKind.i64.wrap (x2 + 1)) x3 x4 x5 (((x6.drop 0).take x6.length) ++ ([[((x0:Nat):Int)]]:LL))).2)) (cond (Nat.beq ((ih x0 x1 (IntKind.i64.wrap (x2 + 1)) x3 x4 x5 (((x6.drop 0).take x6.length) ++ ([[((x0:Nat):Int)]]:LL))).1) 1) (0,(((x6.drop 0).take x6.length) ++ ([[((x0:Nat):Int)]]:LL))) (2,[]))) (2,[])) (cond ((((((r131 x2 x3).2).length:Nat):Int):Int) == 0) (cond ((decide ((0:Int) ≤ x2)) && (Nat.blt (Int.toNat x2) x4.length)) (cond (Nat.ble ((x6.length + 1) * 5) 140737488355328) (cond (Nat.beq ((ih x0 x1 (IntKind.i64.wrap (x2 + 1)) x3 x4 x5 (((x6.drop 0).take x6.length) ++ ([[(((Int.toNat ((x4.getD (Int.toNat x2) []).getD 0 0)):Nat):Int)]]:LL))).1) 0) (0,((ih x0 x1 (IntKind.i64.wrap (x2 + 1)) x3 x4 x5 (((x6.drop 0).take x6.length) ++ ([[(((Int.toNat ((x4.getD (Int.toNat x2) []).getD 0 0)):Nat):Int)]]:LL))).2)) (cond (Nat.beq ((ih x0 x1 (IntKind.i64.wrap (x2 + 1)) x3 x4 x5 (((x6.drop 0).take x6.length) ++ ([[(((Int.toNat ((x4.getD (Int.toNat x2) []).getD 0 0)):Nat):Int)]]:LL))).1) 1) (0,(((x6.drop 0).take x6.length) ++ ([[(((Int.toNat ((x4.getD (Int.toNat x2) []).getD 0 0)):Nat):Int)]]:LL))) (2,[]))) (2,[])) (2,[])) (cond (Nat.beq (c181.1) 0) (cond (fgt .f32 (c181.2.2) 0) (cond (Nat.ble ((x6.length + 1) * 5) 140737488355328) (cond (Nat.beq ((ih x0 x1 (IntKind.i64.wrap (x2 + 1)) x3 x4 x5 (((x6.drop 0).take x6.length) ++ ([[(((fdiv .f32 (c181.2.1) (c181.2.2)):Nat):Int)]]:LL))).1) 0) (0,((ih x0 x1 (IntKind.i64.wrap (x2 + 1)) x3 x4 x5 (((x6.drop 0).take x6.length) ++ ([[(((fdiv .f32 (c181.2.1) (c181.2.2)):Nat):Int)]]:LL))).2)) (cond (Nat.beq ((ih x0 x1 (IntKind.i64.wrap (x2 + 1)) x3 x4 x5 (((x6.drop 0).take x6.length) ++ ([[(((fdiv .f32 (c181.2.1) (c181.2.2)):Nat):Int)]]:LL))).1) 1) (0,(((x6.drop 0).take x6.length) ++ ([[(((fdiv .f32 (c181.2.1) (c181.2.2)):Nat):Int)]]:LL))) (2,[]))) (2,[])) (cond (Nat.ble ((x6.length + 1) * 5) 140737488355328) (cond (Nat.beq ((ih x0 x1 (IntKind.i64.wrap (x2 + 1)) x3 x4 x5 (((x6.drop 0).take x6.length) ++ ([[(((Int.toNat ((x3.getD (Int.toNat x2) []).getD 2 0)):Nat):Int)]]:LL))).1) 0) (0,((ih x0 x1 (IntKind.i64.wrap (x2 + 1)) x3 x4 x5 (((x6.drop 0).take x6.length) ++ ([[(((Int.toNat ((x3.getD (Int.toNat x2) []).getD 2 0)):Nat):Int)]]:LL))).2)) (cond (Nat.beq ((ih x0 x1 (IntKind.i64.wrap (x2 + 1)) x3 x4 x5 (((x6.drop 0).take x6.length) ++ ([[(((Int.toNat ((x3.getD (Int.toNat x2) []).getD 2 0)):Nat):Int)]]:LL))).1) 1) (0,(((x6.drop 0).take x6.length) ++ ([[(((Int.toNat ((x3.getD (Int.toNat x2) []).getD 2 0)):Nat):Int)]]:LL))) (2,[]))) (2,[]))) (2,[])))) (2,[])) (2,[])) (2,[])) (1,[])
noncomputable def r96l0:Nat→Nat→Int→Int→LL→LL→LL→LL→(Nat×LL)
 | 0 => fun _ _ _ _ _ _ _ => (2,[])
 | m + 1 => b96l0 (r96l0 m)
noncomputable def a96l0 (x0:Nat) (x1 x2:Int) (x3 x4 x5 x6:LL) (p:Nat×LL):Option (Fin'×List Value×St) := firstT ([((Nat.beq (p.1) 0),.exit 0,[wsl 4],⟨[(tb sc0 x3),(tb [.fl .f32] x4),(tb [.fl .f32] x5),⟨true,none⟩,(tb [.fl .f32] (p.2))],4,[3]⟩),((Nat.beq (p.1) 1),.exit 0,[wsl 3],⟨[(tb sc0 x3),(tb [.fl .f32] x4),(tb [.fl .f32] x5),(tb [.fl .f32] x6)],4,[3]⟩)].map fun (b,x) => (b,(x.1,frameOf 94 [9] x.2.1,x.2.2)))
noncomputable def u96l0 (x0:Nat) (x1 x2:Int) (x3 x4 x5 x6:LL) (p:Nat×LL):Option (Fin'×List Value×St) := alts ([((Nat.beq (p.1) 0),.exit 0,[wsl 4],⟨[(tb sc0 x3),(tb [.fl .f32] x4),(tb [.fl .f32] x5),⟨true,none⟩,(tb [.fl .f32] (p.2))],4,[3]⟩),((Nat.beq (p.1) 1),.exit 0,[wsl 3],⟨[(tb sc0 x3),(tb [.fl .f32] x4),(tb [.fl .f32] x5),(tb [.fl .f32] x6)],4,[3]⟩)].map fun (b,x) => (b,(x.1,frameOf 94 [9] x.2.1,x.2.2))) some
theorem v96l0 (x0:Nat) (x1 x2:Int) (x3 x4 x5 x6:LL) (p:Nat×LL):u96l0 x0 x1 x2 x3 x4 x5 x6 p = a96l0 x0 x1 x2 x3 x4 x5 x6 p := alts_first _
noncomputable def q96l0 (m:Nat):SumK := fun vals s =>
 match vals,s.h with
 | [.iface f0 .nilIface,.iface f1 .nilIface,.iface f2 .nilIface,.float .f32 x0,.iface f3 .nilIface,.iface f4 .nilIface,.int .i64 x1,.int .i64 x2],[⟨true,some (.tab [.fl .f32,.fl .f32,.fl .f32,.fl .f32,.int .i64] x3)⟩,⟨true,some (.tab [.fl .f32] x4)⟩,⟨true,some (.tab [.fl .f32] x5)⟩,⟨true,some (.tab [.fl .f32] x6)⟩] => if f0 = 0 ∧ f1 = 1 ∧ f2 = 2 ∧ f3 = 3 ∧ f4 = 0 then [((Nat.beq ((r96l0 m x0 x1 x2 x3 x4 x5 x6).1) 0),.exit 0,[wsl 4],⟨[(tb sc0 x3),(tb [.fl .f32] x4),(tb [.fl .f32] x5),⟨true,none⟩,(tb [.fl .f32] ((r96l0 m x0 x1 x2 x3 x4 x5 x6).2))],4,[3]⟩),((Nat.beq ((r96l0 m x0 x1 x2 x3 x4 x5 x6).1) 1),.exit 0,[wsl 3],⟨[(tb sc0 x3),(tb [.fl .f32] x4),(tb [.fl .f32] x5),(tb [.fl .f32] x6)],4,[3]⟩)] else noQ vals s
 | _,_ => noQ vals s
noncomputable def w96l0 (ih:Nat→Int→Int→LL→LL→LL→LL→(Nat×LL)) (x0:Nat) (x1 x2:Int) (x3 x4 x5 x6:LL):Option (Fin'×List Value×St) :=
 let c181 := (r96l1 (1000 + ((r131 x2 x3).2).length + x6.length + x5.length + x4.length + x3.length) x0 0 0 x1 x2 ((((r131 x2 x3).2).length:Nat):Int) 0 x3 x4 x5 x6 (Int.toNat ((x3.getD (Int.toNat x2) []).getD 0 0)) (Int.toNat ((x3.getD (Int.toNat x2) []).getD 1 0)) (Int.toNat ((x3.getD (Int.toNat x2) []).getD 2 0)) (Int.toNat ((x3.getD (Int.toNat x2) []).getD 3 0)) ((x3.getD (Int.toNat x2) []).getD 4 0) ((r131 x2 x3).2))
 (cond (decide ((x2:Int) < x1))
 (cond ((decide ((0:Int) ≤ x2)) && (Nat.blt (Int.toNat x2) x3.length)) (cond (Nat.blt (Int.toNat x2) x3.length) (cond (Nat.beq ((r131 x2 x3).1) 0) (cond ((decide ((0:Int) ≤ x2)) && (Nat.blt (Int.toNat x2) x5.length)) (cond (Nat.blt (Int.toNat x2) x5.length) (cond (flt .f32 (Int.toNat ((x5.getD (Int.toNat x2) []).getD 0 0)) 0) (cond (Nat.ble ((x6.length + 1) * 5) 140737488355328) (cond (Nat.beq ((ih x0 x1 (IntKind.i64.wrap (x2 + 1)) x3 x4 x5 (((x6.drop 0).take x6.length) ++ ([[((x0:Nat):Int)]]:LL))).1) 0) (a96l0 x0 x1 x2 x3 x4 x5 x6 (0,((ih x0 x1 (IntKind.i64.wrap (x2 + 1)) x3 x4 x5 (((x6.drop 0).take x6.length) ++ ([[((x0:Nat):Int)]]:LL))).2))) (cond (Nat.beq ((ih x0 x1 (IntKind.i64.wrap (x2 + 1)) x3 x4 x5 (((x6.drop 0).take x6.length) ++ ([[((x0:Nat):Int)]]:LL))).1) 1) (a96l0 x0 x1 x2 x3 x4 x5 x6 (0,(((x6.drop 0).take x6.length) ++ ([[((x0:Nat):Int)]]:LL)))) none)) none) (cond ((((((r131 x2 x3).2).length:Nat):Int):Int) == 0) (cond ((decide ((0:Int) ≤ x2)) && (Nat.blt (Int.toNat x2) x4.length)) (cond (Nat.blt (Int.toNat x2) x4.length) (cond (Nat.ble ((x6.length + 1) * 5) 140737488355328) (cond (Nat.beq ((ih x0 x1 (IntKind.i64.wrap (x2 + 1)) x3 x4 x5 (((x6.drop 0).take x6.length) ++ ([[(((Int.toNat ((x4.getD (Int.toNat x2) []).getD 0 0)):Nat):Int)]]:LL))).1) 0) (a96l0 x0 x1 x2 x3 x4 x5 x6 (0,((ih x0 x1 (IntKind.i64.wrap (x2 + 1)) x3 x4 x5 (((x6.drop 0).take x6.length) ++ ([[(((Int.toNat ((x4.getD (Int.toNat x2) []).getD 0 0)):Nat):Int)]]:LL))).2))) (cond (Nat.beq ((ih x0 x1 (IntKind.i64.wrap (x2 + 1)) x3 x4 x5 (((x6.drop 0).take x6.length) ++ ([[(((Int.toNat ((x4.getD (Int.toNat x2) []).getD 0 0)):Nat):Int)]]:LL))).1) 1) (a96l0 x0 x1 x2 x3 x4 x5 x6 (0,(((x6.drop 0).take x6.length) ++ ([[(((Int.toNat ((x4.getD (Int.toNat x2) []).getD 0 0)):Nat):Int)]]:LL)))) none)) none) none) none) (cond (Nat.beq (c181.1) 0) (cond (fgt .f32 (c181.2.2) 0) (cond (Nat.ble ((x6.length + 1) * 5) 140737488355328) (cond (Nat.beq ((ih x0 x1 (IntKind.i64.wrap (x2 + 1)) x3 x4 x5 (((x6.drop 0).take x6.length) ++ ([[(((fdiv .f32 (c181.2.1) (c181.2.2)):Nat):Int)]]:LL))).1) 0) (a96l0 x0 x1 x2 x3 x4 x5 x6 (0,((ih x0 x1 (IntKind.i64.wrap (x2 + 1)) x3 x4 x5 (((x6.drop 0).take x6.length) ++ ([[(((fdiv .f32 (c181.2.1) (c181.2.2)):Nat):Int)]]:LL))).2))) (cond (Nat.beq ((ih x0 x1 (IntKind.i64.wrap (x2 + 1)) x3 x4 x5 (((x6.drop 0).take x6.length) ++ ([[(((fdiv .f32 (c181.2.1) (c181.2.2)):Nat):Int)]]:LL))).1) 1) (a96l0 x0 x1 x2 x3 x4 x5 x6 (0,(((x6.drop 0).take x6.length) ++ ([[(((fdiv .f32 (c181.2.1) (c181.2.2)):Nat):Int)]]:LL)))) none)) none) (cond (Nat.ble ((x6.length + 1) * 5) 140737488355328) (cond (Nat.beq ((ih x0 x1 (IntKind.i64.wrap (x2 + 1)) x3 x4 x5 (((x6.drop 0).take x6.length) ++ ([[(((Int.toNat ((x3.getD (Int.toNat x2) []).getD 2 0)):Nat):Int)]]:LL))).1) 0) (a96l0 x0 x1 x2 x3 x4 x5 x6 (0,((ih x0 x1 (IntKind.i64.wrap (x2 + 1)) x3 x4 x5 (((x6.drop 0).take x6.length) ++ ([[(((Int.toNat ((x3.getD (Int.toNat x2) []).getD 2 0)):Nat):Int)]]:LL))).2))) (cond (Nat.beq ((ih x0 x1 (IntKind.i64.wrap (x2 + 1)) x3 x4 x5 (((x6.drop 0).take x6.length) ++ ([[(((Int.toNat ((x3.getD (Int.toNat x2) []).getD 2 0)):Nat):Int)]]:LL))).1) 1) (a96l0 x0 x1 x2 x3 x4 x5 x6 (0,(((x6.drop 0).take x6.length) ++ ([[(((Int.toNat ((x3.getD (Int.toNat x2) []).getD 2 0)):Nat):Int)]]:LL)))) none)) none)) none))) none) none) none) none) none)
 (a96l0 x0 x1 x2 x3 x4 x5 x6 (1,[])))
theorem e96l0 (m:Nat) (x0:Nat) (x1 x2:Int) (x3 x4 x5 x6:LL):evC Try.prog ext T45 L96_1 200 (loopN Try.f96 0) (loopTail ([0,1,2,3,9,18,19,20],[]) [9] [3] (sumK 94 [0,1,2,3,9,18,19,20] [9] (q96l0 m))) (frameOf 94 [0,1,2,3,9,18,19,20] [wsl 0,wsl 1,wsl 2,vf x0,wsl 3,wsl 0,vi x1,vi x2]) ⟨[(tb sc0 x3),(tb [.fl .f32] x4),(tb [.fl .f32] x5),(tb [.fl .f32] x6)],4,[]⟩ = firstT ([((Nat.beq ((r96l0 (m + 1) x0 x1 x2 x3 x4 x5 x6).1) 0),.exit 0,[wsl 4],⟨[(tb sc0 x3),(tb [.fl .f32] x4),(tb [.fl .f32] x5),⟨true,none⟩,(tb [.fl .f32] ((r96l0 (m + 1) x0 x1 x2 x3 x4 x5 x6).2))],4,[3]⟩),((Nat.beq ((r96l0 (m + 1) x0 x1 x2 x3 x4 x5 x6).1) 1),.exit 0,[wsl 3],⟨[(tb sc0 x3),(tb [.fl .f32] x4),(tb [.fl .f32] x5),(tb [.fl .f32] x6)],4,[3]⟩)].map fun (b,x) => (b,(x.1,frameOf 94 [9] x.2.1,x.2.2))) :=
 (show _ = w96l0 (r96l0 m) x0 x1 x2 x3 x4 x5 x6 from by kernel_rfl).trans
 (show w96l0 (r96l0 m) x0 x1 x2 x3 x4 x5 x6 = a96l0 x0 x1 x2 x3 x4 x5 x6 (r96l0 (m + 1) x0 x1 x2 x3 x4 x5 x6) from by unfold w96l0; show _ = a96l0 x0 x1 x2 x3 x4 x5 x6 (b96l0 (r96l0 m) x0 x1 x2 x3 x4 x5 x6); unfold b96l0; exact (cond_both (a96l0 x0 x1 x2 x3 x4 x5 x6) _ (fun h0 => (cond_both (a96l0 x0 x1 x2 x3 x4 x5 x6) _ (fun h1 => (cond_t (ev_and2 h1) (cond_both (a96l0 x0 x1 x2 x3 x4 x5 x6) _ (fun h2 => (cond_both (a96l0 x0 x1 x2 x3 x4 x5 x6) _ (fun h3 => (cond_t (ev_and2 h3) (cond_both (a96l0 x0 x1 x2 x3 x4 x5 x6) _ (fun h4 => (cond_app (a96l0 x0 x1 x2 x3 x4 x5 x6) _ (cond_app (a96l0 x0 x1 x2 x3 x4 x5 x6) _ rfl (cond_app (a96l0 x0 x1 x2 x3 x4 x5 x6) _ rfl rfl)) rfl)) (fun h4 => (cond_both (a96l0 x0 x1 x2 x3 x4 x5 x6) _ (fun h5 => (cond_both (a96l0 x0 x1 x2 x3 x4 x5 x6) _ (fun h6 => (cond_t (ev_and2 h6) (cond_app (a96l0 x0 x1 x2 x3 x4 x5 x6) _ (cond_app (a96l0 x0 x1 x2 x3 x4 x5 x6) _ rfl (cond_app (a96l0 x0 x1 x2 x3 x4 x5 x6) _ rfl rfl)) rfl))) (fun h6 => rfl))) (fun h5 => (cond_app (a96l0 x0 x1 x2 x3 x4 x5 x6) _ (cond_app (a96l0 x0 x1 x2 x3 x4 x5 x6) _ (cond_app (a96l0 x0 x1 x2 x3 x4 x5 x6) _ (cond_app (a96l0 x0 x1 x2 x3 x4 x5 x6) _ rfl (cond_app (a96l0 x0 x1 x2 x3 x4 x5 x6) _ rfl rfl)) rfl) (cond_app (a96l0 x0 x1 x2 x3 x4 x5 x6) _ (cond_app (a96l0 x0 x1 x2 x3 x4 x5 x6) _ rfl (cond_app (a96l0 x0 x1 x2 x3 x4 x5 x6) _ rfl rfl)) rfl)) rfl))))))) (fun h3 => rfl))) (fun h2 => rfl)))) (fun h1 => rfl))) (fun h0 => rfl)))
theorem qm96l0:∀ m,SumKOk Try.prog (loopN Try.f96 0) 94 [0,1,2,3,9,18,19,20] [9] (q96l0 m) := by
  intro m
  induction m with
  | zero =>
    intro vals s x h1 h2 h3
    unfold q96l0 at h3; split at h3
    · rename_i h; split at h3
      · rename_i hc; obtain ⟨rfl,rfl,rfl,rfl,rfl⟩ := hc; exact absurd h3 (by simp [r96l0,firstT,Nat.beq])
      · exact noQ_ok _ _ _ h1 h2 h3
    · exact noQ_ok _ _ _ h1 h2 h3
  | succ m ih =>
    intro vals s x h1 h2 h3
    unfold q96l0 at h3; split at h3
    · rename_i h; split at h3
      · rename_i hc; obtain ⟨rfl,rfl,rfl,rfl,rfl⟩ := hc; exact sum_step ok45 extOk mixed (lok96_1.inner (by kernel_rfl)) ih h1 h2 h (e96l0 m _ _ _ _ _ _ _) rfl h3
      · exact noQ_ok _ _ _ h1 h2 h3
    · exact noQ_ok _ _ _ h1 h2 h3
noncomputable def Q96l0:SumK := fun vals s => q96l0 (fuelOf vals s.h) vals s
theorem qok96l0:SumKOk Try.prog (loopN Try.f96 0) 94 [0,1,2,3,9,18,19,20] [9] Q96l0 := fuel_ok qm96l0 fuelOf
noncomputable def L96_2:LoopT := addL L96_1 4 ([0,1,2,3,9,18,19,20],[]) (sumK 94 [0,1,2,3,9,18,19,20] [9] Q96l0)
theorem lok96_2:LfOkF Try.prog L96_2 Try.f96 := lfOkF_add lok96_1 qok96l0 (by kernel_rfl) (by kernel_rfl) (by kernel_rfl)

noncomputable def r96 (x0:Nat) (x1 x2 x3:LL):Nat×LL :=
 cond (Nat.beq ((r96l0 (1000 + 0 + x3.length + x2.length + x1.length) x0 ((x1.length:Nat):Int) 0 x1 x2 x3 ([]:LL)).1) 0) (0,((r96l0 (1000 + 0 + x3.length + x2.length + x1.length) x0 ((x1.length:Nat):Int) 0 x1 x2 x3 ([]:LL)).2)) (cond (Nat.beq ((r96l0 (1000 + 0 + x3.length + x2.length + x1.length) x0 ((x1.length:Nat):Int) 0 x1 x2 x3 ([]:LL)).1) 1) (0,([]:LL)) (1,[]))
noncomputable def a96 (x0:Nat) (x1 x2 x3:LL) (p:Nat×LL):Res := firstT [((Nat.beq (p.1) 0),wsl 3,⟨[(tb sc0 x1),(tb [.fl .f32] x2),(tb [.fl .f32] x3),(tb [.fl .f32] (p.2))],3,[]⟩)]
noncomputable def w96 (x0:Nat) (x1 x2 x3:LL):Res :=
 (cond (Nat.beq ((r96l0 (1000 + 0 + x3.length + x2.length + x1.length) x0 ((x1.length:Nat):Int) 0 x1 x2 x3 ([]:LL)).1) 0)
 (a96 x0 x1 x2 x3 (0,((r96l0 (1000 + 0 + x3.length + x2.length + x1.length) x0 ((x1.length:Nat):Int) 0 x1 x2 x3 ([]:LL)).2)))
 (cond (Nat.beq ((r96l0 (1000 + 0 + x3.length + x2.length + x1.length) x0 ((x1.length:Nat):Int) 0 x1 x2 x3 ([]:LL)).1) 1) (a96 x0 x1 x2 x3 (0,([]:LL))) none))
theorem e96 (x0:Nat) (x1 x2 x3:LL):evFn Try.prog ext T45 L96_2 200 Try.f96 [wsl 0,wsl 1,wsl 2,vf x0] ⟨[(tb sc0 x1),(tb [.fl .f32] x2),(tb [.fl .f32] x3)],3,[]⟩ = firstT [((Nat.beq ((r96 x0 x1 x2 x3).1) 0),wsl 3,⟨[(tb sc0 x1),(tb [.fl .f32] x2),(tb [.fl .f32] x3),(tb [.fl .f32] ((r96 x0 x1 x2 x3).2))],3,[]⟩)] :=
 (show _ = w96 x0 x1 x2 x3 from by kernel_rfl).trans
 (show w96 x0 x1 x2 x3 = a96 x0 x1 x2 x3 (r96 x0 x1 x2 x3) from by unfold w96 r96; exact (cond_app (a96 x0 x1 x2 x3) _ rfl (cond_app (a96 x0 x1 x2 x3) _ rfl rfl)))
noncomputable def s96 (args:List Value) (s:St):List (Bool×Value×St) :=
 match args,s.h with
 | [.iface f0 .nilIface,.iface f1 .nilIface,.iface f2 .nilIface,.float .f32 x0],[⟨true,some (.tab [.fl .f32,.fl .f32,.fl .f32,.fl .f32,.int .i64] x1)⟩,⟨true,some (.tab [.fl .f32] x2)⟩,⟨true,some (.tab [.fl .f32] x3)⟩] => if f0 = 0 ∧ f1 = 1 ∧ f2 = 2 then [((Nat.beq ((r96 x0 x1 x2 x3).1) 0),wsl 3,⟨[(tb sc0 x1),(tb [.fl .f32] x2),(tb [.fl .f32] x3),(tb [.fl .f32] ((r96 x0 x1 x2 x3).2))],3,[]⟩)] else T45 96 args s
 | _,_ => T45 96 args s
noncomputable def T46:CallF := addF T45 96 s96
theorem ok46:CfOk Try.prog T46 := by
  refine cfOk_add ok45 fun args s r s' h1 h2 h3 => ?_
  unfold s96 at h3; split at h3
  · rename_i h; split at h3
    · rename_i hc; obtain ⟨rfl,rfl,rfl⟩ := hc; exact callOk ok45 Try.func96 h1 h2 h lok96_2.body (e96 _ _ _ _) rfl h3
    · exact ok45 _ _ _ _ _ h1 h2 h3
  · exact ok45 _ _ _ _ _ h1 h2 h3

noncomputable def r38 (x0:Nat) (x1 x2 x3:LL):Nat×LL :=
 cond (Nat.beq (r57 x0 0 x1) 0) (0,[]) (cond (Nat.beq (r57 x0 0 x1) 1) (1,[]) (cond (Nat.beq (r57 x0 0 x1) 2) (cond (Nat.beq ((r95 x1 x2).1) 0) (cond (!((r95 x1 x2).2)) (1,[]) (cond ((((x3.length:Nat):Int):Int) != ((x1.length:Nat):Int)) (1,[]) (cond (Nat.beq ((r59b x3).1) 0) (cond (!((r59b x3).2)) (1,[]) (cond (Nat.beq ((r96 x0 x1 x2 x3).1) 0) (cond (Nat.beq ((r59b ((r96 x0 x1 x2 x3).2)).1) 0) (cond (!((r59b ((r96 x0 x1 x2 x3).2)).2)) (2,[]) (3,((r96 x0 x1 x2 x3).2))) (4,[])) (4,[]))) (4,[])))) (4,[])) (4,[])))
noncomputable def a38 (x0:Nat) (x1 x2 x3:LL) (p:Nat×LL):Res := firstT [((Nat.beq (p.1) 0),.tuple #[.slice none 0 0,vi 1],⟨[(tb sc0 x1),(tb [.fl .f32] x2),(tb [.fl .f32] x3)],3,[]⟩),((Nat.beq (p.1) 1),.tuple #[.slice none 0 0,vi 2],⟨[(tb sc0 x1),(tb [.fl .f32] x2),(tb [.fl .f32] x3)],3,[]⟩),((Nat.beq (p.1) 2),.tuple #[.slice none 0 0,vi 4],⟨[(tb sc0 x1),(tb [.fl .f32] x2),(tb [.fl .f32] x3)],3,[]⟩),((Nat.beq (p.1) 3),.tuple #[wsl 3,vi 0],⟨[(tb sc0 x1),(tb [.fl .f32] x2),(tb [.fl .f32] x3),(tb [.fl .f32] (p.2))],3,[]⟩)]
noncomputable def w38 (x0:Nat) (x1 x2 x3:LL):Res :=
 (cond (Nat.beq (r57 x0 0 x1) 0)
 (a38 x0 x1 x2 x3 (0,[]))
 (cond (Nat.beq (r57 x0 0 x1) 1) (a38 x0 x1 x2 x3 (1,[])) (cond (Nat.beq (r57 x0 0 x1) 2) (cond (Nat.beq ((r95 x1 x2).1) 0) (cond (!((r95 x1 x2).2)) (a38 x0 x1 x2 x3 (1,[])) (cond ((((x3.length:Nat):Int):Int) != ((x1.length:Nat):Int)) (a38 x0 x1 x2 x3 (1,[])) (cond (Nat.beq ((r59b x3).1) 0) (cond (!((r59b x3).2)) (a38 x0 x1 x2 x3 (1,[])) (cond (Nat.beq ((r96 x0 x1 x2 x3).1) 0) (cond (Nat.beq ((r59b ((r96 x0 x1 x2 x3).2)).1) 0) (cond (!((r59b ((r96 x0 x1 x2 x3).2)).2)) (a38 x0 x1 x2 x3 (2,[])) (a38 x0 x1 x2 x3 (3,((r96 x0 x1 x2 x3).2)))) none) none)) none))) none) none)))
theorem e38 (x0:Nat) (x1 x2 x3:LL):evFn Try.prog ext T46 noL 200 Try.f38 [wsl 0,wsl 1,wsl 2,vf x0] ⟨[(tb sc0 x1),(tb [.fl .f32] x2),(tb [.fl .f32] x3)],3,[]⟩ = firstT [((Nat.beq ((r38 x0 x1 x2 x3).1) 0),.tuple #[.slice none 0 0,vi 1],⟨[(tb sc0 x1),(tb [.fl .f32] x2),(tb [.fl .f32] x3)],3,[]⟩),((Nat.beq ((r38 x0 x1 x2 x3).1) 1),.tuple #[.slice none 0 0,vi 2],⟨[(tb sc0 x1),(tb [.fl .f32] x2),(tb [.fl .f32] x3)],3,[]⟩),((Nat.beq ((r38 x0 x1 x2 x3).1) 2),.tuple #[.slice none 0 0,vi 4],⟨[(tb sc0 x1),(tb [.fl .f32] x2),(tb [.fl .f32] x3)],3,[]⟩),((Nat.beq ((r38 x0 x1 x2 x3).1) 3),.tuple #[wsl 3,vi 0],⟨[(tb sc0 x1),(tb [.fl .f32] x2),(tb [.fl .f32] x3),(tb [.fl .f32] ((r38 x0 x1 x2 x3).2))],3,[]⟩)] :=
 (show _ = w38 x0 x1 x2 x3 from by kernel_rfl).trans
 (show w38 x0 x1 x2 x3 = a38 x0 x1 x2 x3 (r38 x0 x1 x2 x3) from by unfold w38 r38; exact (cond_app (a38 x0 x1 x2 x3) _ rfl (cond_app (a38 x0 x1 x2 x3) _ rfl (cond_app (a38 x0 x1 x2 x3) _ (cond_app (a38 x0 x1 x2 x3) _ (cond_app (a38 x0 x1 x2 x3) _ rfl (cond_app (a38 x0 x1 x2 x3) _ rfl (cond_app (a38 x0 x1 x2 x3) _ (cond_app (a38 x0 x1 x2 x3) _ rfl (cond_app (a38 x0 x1 x2 x3) _ (cond_app (a38 x0 x1 x2 x3) _ (cond_app (a38 x0 x1 x2 x3) _ rfl rfl) rfl) rfl)) rfl))) rfl) rfl))))
noncomputable def s38 (args:List Value) (s:St):List (Bool×Value×St) :=
 match args,s.h with
 | [.iface f0 .nilIface,.iface f1 .nilIface,.iface f2 .nilIface,.float .f32 x0],[⟨true,some (.tab [.fl .f32,.fl .f32,.fl .f32,.fl .f32,.int .i64] x1)⟩,⟨true,some (.tab [.fl .f32] x2)⟩,⟨true,some (.tab [.fl .f32] x3)⟩] => if f0 = 0 ∧ f1 = 1 ∧ f2 = 2 then [((Nat.beq ((r38 x0 x1 x2 x3).1) 0),.tuple #[.slice none 0 0,vi 1],⟨[(tb sc0 x1),(tb [.fl .f32] x2),(tb [.fl .f32] x3)],3,[]⟩),((Nat.beq ((r38 x0 x1 x2 x3).1) 1),.tuple #[.slice none 0 0,vi 2],⟨[(tb sc0 x1),(tb [.fl .f32] x2),(tb [.fl .f32] x3)],3,[]⟩),((Nat.beq ((r38 x0 x1 x2 x3).1) 2),.tuple #[.slice none 0 0,vi 4],⟨[(tb sc0 x1),(tb [.fl .f32] x2),(tb [.fl .f32] x3)],3,[]⟩),((Nat.beq ((r38 x0 x1 x2 x3).1) 3),.tuple #[wsl 3,vi 0],⟨[(tb sc0 x1),(tb [.fl .f32] x2),(tb [.fl .f32] x3),(tb [.fl .f32] ((r38 x0 x1 x2 x3).2))],3,[]⟩)] else T46 38 args s
 | _,_ => T46 38 args s
noncomputable def T47:CallF := addF T46 38 s38
theorem ok47:CfOk Try.prog T47 := by
  refine cfOk_add ok46 fun args s r s' h1 h2 h3 => ?_
  unfold s38 at h3; split at h3
  · rename_i h; split at h3
    · rename_i hc; obtain ⟨rfl,rfl,rfl⟩ := hc; exact callOk ok46 Try.func38 h1 h2 h (lfOkF_no _ _).body (e38 _ _ _ _) rfl h3
    · exact ok46 _ _ _ _ _ h1 h2 h3
  · exact ok46 _ _ _ _ _ h1 h2 h3

noncomputable def b99l0 (ih:Int→LL→LL→Nat) (x0:Int) (x1 x2:LL):Nat :=
 cond (decide ((x0:Int) < ((x2.length:Nat):Int))) (cond ((decide ((0:Int) ≤ x0)) && (Nat.blt (Int.toNat x0) x2.length)) (cond (!(r150 (Int.toNat ((x2.getD (Int.toNat x0) []).getD 0 0)))) (0) (ih (IntKind.i64.wrap (x0 + 1)) x1 x2)) (2)) (1)
noncomputable def r99l0:Nat→Int→LL→LL→Nat
 | 0 => fun _ _ _ => (2)
 | m + 1 => b99l0 (r99l0 m)
noncomputable def a99l0 (x0:Int) (x1 x2:LL) (p:Nat):Option (Fin'×List Value×St) := firstT ([((Nat.beq p 0),.ret,[wsl 0,wsl 1,.bool false],⟨[(tb sc0 x1),(tb [.fl .f32] x2)],2,[]⟩),((Nat.beq p 1),.exit 0,[wsl 0,wsl 1,Y],⟨[(tb sc0 x1),(tb [.fl .f32] x2)],2,[]⟩)].map fun (b,x) => (b,(x.1,frameOf 23 [0,1,4] x.2.1,x.2.2)))
noncomputable def u99l0 (x0:Int) (x1 x2:LL) (p:Nat):Option (Fin'×List Value×St) := alts ([((Nat.beq p 0),.ret,[wsl 0,wsl 1,.bool false],⟨[(tb sc0 x1),(tb [.fl .f32] x2)],2,[]⟩),((Nat.beq p 1),.exit 0,[wsl 0,wsl 1,Y],⟨[(tb sc0 x1),(tb [.fl .f32] x2)],2,[]⟩)].map fun (b,x) => (b,(x.1,frameOf 23 [0,1,4] x.2.1,x.2.2))) some
theorem v99l0 (x0:Int) (x1 x2:LL) (p:Nat):u99l0 x0 x1 x2 p = a99l0 x0 x1 x2 p := alts_first _
noncomputable def q99l0 (m:Nat):SumK := fun vals s =>
 match vals,s.h with
 | [.iface f0 .nilIface,.iface f1 .nilIface,.int .i64 x0],[⟨true,some (.tab [.fl .f32,.fl .f32,.fl .f32,.fl .f32,.int .i64] x1)⟩,⟨true,some (.tab [.fl .f32] x2)⟩] => if f0 = 0 ∧ f1 = 1 then [((Nat.beq (r99l0 m x0 x1 x2) 0),.ret,[wsl 0,wsl 1,.bool false],⟨[(tb sc0 x1),(tb [.fl .f32] x2)],2,[]⟩),((Nat.beq (r99l0 m x0 x1 x2) 1),.exit 0,[wsl 0,wsl 1,Y],⟨[(tb sc0 x1),(tb [.fl .f32] x2)],2,[]⟩)] else noQ vals s
 | _,_ => noQ vals s
noncomputable def w99l0 (ih:Int→LL→LL→Nat) (x0:Int) (x1 x2:LL):Option (Fin'×List Value×St) :=
 (cond (decide ((x0:Int) < ((x2.length:Nat):Int)))
 (cond ((decide ((0:Int) ≤ x0)) && (Nat.blt (Int.toNat x0) x2.length)) (cond (Nat.blt (Int.toNat x0) x2.length) (cond (!(r150 (Int.toNat ((x2.getD (Int.toNat x0) []).getD 0 0)))) (a99l0 x0 x1 x2 (0)) (u99l0 x0 x1 x2 (ih (IntKind.i64.wrap (x0 + 1)) x1 x2))) none) none)
 (a99l0 x0 x1 x2 (1)))
theorem e99l0 (m:Nat) (x0:Int) (x1 x2:LL):evC Try.prog ext T47 noL 200 (loopN Try.f99 0) (loopTail ([0,1,5],[]) [0,1,4] [] (sumK 23 [0,1,5] [0,1,4] (q99l0 m))) (frameOf 23 [0,1,5] [wsl 0,wsl 1,vi x0]) ⟨[(tb sc0 x1),(tb [.fl .f32] x2)],2,[]⟩ = firstT ([((Nat.beq (r99l0 (m + 1) x0 x1 x2) 0),.ret,[wsl 0,wsl 1,.bool false],⟨[(tb sc0 x1),(tb [.fl .f32] x2)],2,[]⟩),((Nat.beq (r99l0 (m + 1) x0 x1 x2) 1),.exit 0,[wsl 0,wsl 1,Y],⟨[(tb sc0 x1),(tb [.fl .f32] x2)],2,[]⟩)].map fun (b,x) => (b,(x.1,frameOf 23 [0,1,4] x.2.1,x.2.2))) :=
 (show _ = w99l0 (r99l0 m) x0 x1 x2 from by kernel_rfl).trans
 (show w99l0 (r99l0 m) x0 x1 x2 = a99l0 x0 x1 x2 (r99l0 (m + 1) x0 x1 x2) from by unfold w99l0; show _ = a99l0 x0 x1 x2 (b99l0 (r99l0 m) x0 x1 x2); unfold b99l0; exact (cond_both (a99l0 x0 x1 x2) _ (fun h0 => (cond_both (a99l0 x0 x1 x2) _ (fun h1 => (cond_t (ev_and2 h1) (cond_app (a99l0 x0 x1 x2) _ rfl (v99l0 x0 x1 x2 ((r99l0 m) (IntKind.i64.wrap (x0 + 1)) x1 x2))))) (fun h1 => rfl))) (fun h0 => rfl)))
theorem qm99l0:∀ m,SumKOk Try.prog (loopN Try.f99 0) 23 [0,1,5] [0,1,4] (q99l0 m) := by
  intro m
  induction m with
  | zero =>
    intro vals s x h1 h2 h3
    unfold q99l0 at h3; split at h3
    · rename_i h; split at h3
      · rename_i hc; obtain ⟨rfl,rfl⟩ := hc; exact absurd h3 (by simp [r99l0,firstT,Nat.beq])
      · exact noQ_ok _ _ _ h1 h2 h3
    · exact noQ_ok _ _ _ h1 h2 h3
  | succ m ih =>
    intro vals s x h1 h2 h3
    unfold q99l0 at h3; split at h3
    · rename_i h; split at h3
      · rename_i hc; obtain ⟨rfl,rfl⟩ := hc; exact sum_step ok47 extOk mixed ((lfOkF_no _ _).inner (by kernel_rfl)) ih h1 h2 h (e99l0 m _ _ _) rfl h3
      · exact noQ_ok _ _ _ h1 h2 h3
    · exact noQ_ok _ _ _ h1 h2 h3
noncomputable def Q99l0:SumK := fun vals s => q99l0 (fuelOf vals s.h) vals s
theorem qok99l0:SumKOk Try.prog (loopN Try.f99 0) 23 [0,1,5] [0,1,4] Q99l0 := fuel_ok qm99l0 fuelOf
noncomputable def L99_1:LoopT := addL noL 3 ([0,1,5],[]) (sumK 23 [0,1,5] [0,1,4] Q99l0)
theorem lok99_1:LfOkF Try.prog L99_1 Try.f99 := lfOkF_add (lfOkF_no _ _) qok99l0 (by kernel_rfl) (by kernel_rfl) (by kernel_rfl)

noncomputable def r99 (x0 x1:LL):Nat×Bool :=
 cond (Nat.beq (r99l0 (1000 + x1.length + x0.length) 0 x0 x1) 0) (0,false) (cond (Nat.beq (r99l0 (1000 + x1.length + x0.length) 0 x0 x1) 1) (0,((((x1.length:Nat):Int):Int) == ((x0.length:Nat):Int))) (1,false))
noncomputable def a99 (x0 x1:LL) (p:Nat×Bool):Res := firstT [((Nat.beq (p.1) 0),.bool (p.2),⟨[(tb sc0 x0),(tb [.fl .f32] x1)],2,[]⟩)]
noncomputable def w99 (x0 x1:LL):Res :=
 (cond (Nat.beq (r99l0 (1000 + x1.length + x0.length) 0 x0 x1) 0)
 (a99 x0 x1 (0,false))
 (cond (Nat.beq (r99l0 (1000 + x1.length + x0.length) 0 x0 x1) 1) (a99 x0 x1 (0,((((x1.length:Nat):Int):Int) == ((x0.length:Nat):Int)))) none))
theorem e99 (x0 x1:LL):evFn Try.prog ext T47 L99_1 200 Try.f99 [wsl 0,wsl 1] ⟨[(tb sc0 x0),(tb [.fl .f32] x1)],2,[]⟩ = firstT [((Nat.beq ((r99 x0 x1).1) 0),.bool ((r99 x0 x1).2),⟨[(tb sc0 x0),(tb [.fl .f32] x1)],2,[]⟩)] :=
 (show _ = w99 x0 x1 from by kernel_rfl).trans
 (show w99 x0 x1 = a99 x0 x1 (r99 x0 x1) from by unfold w99 r99; exact (cond_app (a99 x0 x1) _ rfl (cond_app (a99 x0 x1) _ rfl rfl)))
noncomputable def s99 (args:List Value) (s:St):List (Bool×Value×St) :=
 match args,s.h with
 | [.iface f0 .nilIface,.iface f1 .nilIface],[⟨true,some (.tab [.fl .f32,.fl .f32,.fl .f32,.fl .f32,.int .i64] x0)⟩,⟨true,some (.tab [.fl .f32] x1)⟩] => if f0 = 0 ∧ f1 = 1 then [((Nat.beq ((r99 x0 x1).1) 0),.bool ((r99 x0 x1).2),⟨[(tb sc0 x0),(tb [.fl .f32] x1)],2,[]⟩)] else T47 99 args s
 | _,_ => T47 99 args s
noncomputable def T48:CallF := addF T47 99 s99
theorem ok48:CfOk Try.prog T48 := by
  refine cfOk_add ok47 fun args s r s' h1 h2 h3 => ?_
  unfold s99 at h3; split at h3
  · rename_i h; split at h3
    · rename_i hc; obtain ⟨rfl,rfl⟩ := hc; exact callOk ok47 Try.func99 h1 h2 h lok99_1.body (e99 _ _) rfl h3
    · exact ok47 _ _ _ _ _ h1 h2 h3
  · exact ok47 _ _ _ _ _ h1 h2 h3

noncomputable def b88l0 (ih:Int→LL→Nat) (x0:Int) (x1:LL):Nat :=
 cond (decide ((x0:Int) < ((x1.length:Nat):Int))) (cond ((decide ((0:Int) ≤ x0)) && (Nat.blt (Int.toNat x0) x1.length)) (cond (!(r147 (Int.toNat ((x1.getD (Int.toNat x0) []).getD 0 0)))) (0) (ih (IntKind.i64.wrap (x0 + 1)) x1)) (2)) (1)
noncomputable def r88l0:Nat→Int→LL→Nat
 | 0 => fun _ _ => (2)
 | m + 1 => b88l0 (r88l0 m)
noncomputable def a88l0 (x0:Int) (x1:LL) (p:Nat):Option (Fin'×List Value×St) := firstT ([((Nat.beq p 0),.ret,[.bool false],⟨[(tb [.fl .f32] x1)],1,[]⟩),((Nat.beq p 1),.exit 0,[Y],⟨[(tb [.fl .f32] x1)],1,[]⟩)].map fun (b,x) => (b,(x.1,frameOf 16 [2] x.2.1,x.2.2)))
noncomputable def u88l0 (x0:Int) (x1:LL) (p:Nat):Option (Fin'×List Value×St) := alts ([((Nat.beq p 0),.ret,[.bool false],⟨[(tb [.fl .f32] x1)],1,[]⟩),((Nat.beq p 1),.exit 0,[Y],⟨[(tb [.fl .f32] x1)],1,[]⟩)].map fun (b,x) => (b,(x.1,frameOf 16 [2] x.2.1,x.2.2))) some
theorem v88l0 (x0:Int) (x1:LL) (p:Nat):u88l0 x0 x1 p = a88l0 x0 x1 p := alts_first _
noncomputable def q88l0 (m:Nat):SumK := fun vals s =>
 match vals,s.h with
 | [.iface f0 .nilIface,.int .i64 x0],[⟨true,some (.tab [.fl .f32] x1)⟩] => if f0 = 0 then [((Nat.beq (r88l0 m x0 x1) 0),.ret,[.bool false],⟨[(tb [.fl .f32] x1)],1,[]⟩),((Nat.beq (r88l0 m x0 x1) 1),.exit 0,[Y],⟨[(tb [.fl .f32] x1)],1,[]⟩)] else noQ vals s
 | _,_ => noQ vals s
noncomputable def w88l0 (ih:Int→LL→Nat) (x0:Int) (x1:LL):Option (Fin'×List Value×St) :=
 (cond (decide ((x0:Int) < ((x1.length:Nat):Int)))
 (cond ((decide ((0:Int) ≤ x0)) && (Nat.blt (Int.toNat x0) x1.length)) (cond (Nat.blt (Int.toNat x0) x1.length) (cond (!(r147 (Int.toNat ((x1.getD (Int.toNat x0) []).getD 0 0)))) (a88l0 x0 x1 (0)) (u88l0 x0 x1 (ih (IntKind.i64.wrap (x0 + 1)) x1))) none) none)
 (a88l0 x0 x1 (1)))
theorem e88l0 (m:Nat) (x0:Int) (x1:LL):evC Try.prog ext T48 noL 200 (loopN Try.f88 0) (loopTail ([0,3],[]) [2] [] (sumK 16 [0,3] [2] (q88l0 m))) (frameOf 16 [0,3] [wsl 0,vi x0]) ⟨[(tb [.fl .f32] x1)],1,[]⟩ = firstT ([((Nat.beq (r88l0 (m + 1) x0 x1) 0),.ret,[.bool false],⟨[(tb [.fl .f32] x1)],1,[]⟩),((Nat.beq (r88l0 (m + 1) x0 x1) 1),.exit 0,[Y],⟨[(tb [.fl .f32] x1)],1,[]⟩)].map fun (b,x) => (b,(x.1,frameOf 16 [2] x.2.1,x.2.2))) :=
 (show _ = w88l0 (r88l0 m) x0 x1 from by kernel_rfl).trans
 (show w88l0 (r88l0 m) x0 x1 = a88l0 x0 x1 (r88l0 (m + 1) x0 x1) from by unfold w88l0; show _ = a88l0 x0 x1 (b88l0 (r88l0 m) x0 x1); unfold b88l0; exact (cond_both (a88l0 x0 x1) _ (fun h0 => (cond_both (a88l0 x0 x1) _ (fun h1 => (cond_t (ev_and2 h1) (cond_app (a88l0 x0 x1) _ rfl (v88l0 x0 x1 ((r88l0 m) (IntKind.i64.wrap (x0 + 1)) x1))))) (fun h1 => rfl))) (fun h0 => rfl)))
theorem qm88l0:∀ m,SumKOk Try.prog (loopN Try.f88 0) 16 [0,3] [2] (q88l0 m) := by
  intro m
  induction m with
  | zero =>
    intro vals s x h1 h2 h3
    unfold q88l0 at h3; split at h3
    · rename_i h; split at h3
      · rename_i hc; obtain ⟨rfl⟩ := hc; exact absurd h3 (by simp [r88l0,firstT,Nat.beq])
      · exact noQ_ok _ _ _ h1 h2 h3
    · exact noQ_ok _ _ _ h1 h2 h3
  | succ m ih =>
    intro vals s x h1 h2 h3
    unfold q88l0 at h3; split at h3
    · rename_i h; split at h3
      · rename_i hc; obtain ⟨rfl⟩ := hc; exact sum_step ok48 extOk mixed ((lfOkF_no _ _).inner (by kernel_rfl)) ih h1 h2 h (e88l0 m _ _) rfl h3
      · exact noQ_ok _ _ _ h1 h2 h3
    · exact noQ_ok _ _ _ h1 h2 h3
noncomputable def Q88l0:SumK := fun vals s => q88l0 (fuelOf vals s.h) vals s
theorem qok88l0:SumKOk Try.prog (loopN Try.f88 0) 16 [0,3] [2] Q88l0 := fuel_ok qm88l0 fuelOf
noncomputable def L88_1:LoopT := addL noL 3 ([0,3],[]) (sumK 16 [0,3] [2] Q88l0)
theorem lok88_1:LfOkF Try.prog L88_1 Try.f88 := lfOkF_add (lfOkF_no _ _) qok88l0 (by kernel_rfl) (by kernel_rfl) (by kernel_rfl)

noncomputable def r88 (x0:LL):Nat×Bool :=
 cond (Nat.beq (r88l0 (1000 + x0.length) 0 x0) 0) (0,false) (cond (Nat.beq (r88l0 (1000 + x0.length) 0 x0) 1) (0,true) (1,false))
noncomputable def a88 (x0:LL) (p:Nat×Bool):Res := firstT [((Nat.beq (p.1) 0),.bool (p.2),⟨[(tb [.fl .f32] x0)],1,[]⟩)]
noncomputable def w88 (x0:LL):Res :=
 (cond (Nat.beq (r88l0 (1000 + x0.length) 0 x0) 0)
 (a88 x0 (0,false))
 (cond (Nat.beq (r88l0 (1000 + x0.length) 0 x0) 1) (a88 x0 (0,true)) none))
theorem e88 (x0:LL):evFn Try.prog ext T48 L88_1 200 Try.f88 [wsl 0] ⟨[(tb [.fl .f32] x0)],1,[]⟩ = firstT [((Nat.beq ((r88 x0).1) 0),.bool ((r88 x0).2),⟨[(tb [.fl .f32] x0)],1,[]⟩)] :=
 (show _ = w88 x0 from by kernel_rfl).trans
 (show w88 x0 = a88 x0 (r88 x0) from by unfold w88 r88; exact (cond_app (a88 x0) _ rfl (cond_app (a88 x0) _ rfl rfl)))
noncomputable def s88 (args:List Value) (s:St):List (Bool×Value×St) :=
 match args,s.h with
 | [.iface f0 .nilIface],[⟨true,some (.tab [.fl .f32] x0)⟩] => if f0 = 0 then [((Nat.beq ((r88 x0).1) 0),.bool ((r88 x0).2),⟨[(tb [.fl .f32] x0)],1,[]⟩)] else T48 88 args s
 | _,_ => T48 88 args s
noncomputable def T49:CallF := addF T48 88 s88
theorem ok49:CfOk Try.prog T49 := by
  refine cfOk_add ok48 fun args s r s' h1 h2 h3 => ?_
  unfold s88 at h3; split at h3
  · rename_i h; split at h3
    · rename_i hc; obtain ⟨rfl⟩ := hc; exact callOk ok48 Try.func88 h1 h2 h lok88_1.body (e88 _) rfl h3
    · exact ok48 _ _ _ _ _ h1 h2 h3
  · exact ok48 _ _ _ _ _ h1 h2 h3

noncomputable def b100l1 (ih:Nat→Int→Nat→Nat→Int→LL→LL→LL→LL→LL→(Nat×Nat×Nat)) (x0:Nat) (x1:Int) (x2 x3:Nat) (x4:Int) (x5 x6 x7 x8 x9:LL):Nat×Nat×Nat :=
 cond (decide ((x4:Int) < ((x9.length:Nat):Int))) (cond ((decide ((0:Int) ≤ x4)) && (Nat.blt (Int.toNat x4) x9.length)) (cond ((decide ((0:Int) ≤ ((x9.getD (Int.toNat x4) []).getD 0 0))) && (Nat.blt (Int.toNat ((x9.getD (Int.toNat x4) []).getD 0 0)) x7.length)) (cond (fgt .f32 (Int.toNat ((x7.getD (Int.toNat ((x9.getD (Int.toNat x4) []).getD 0 0)) []).getD 0 0)) 0) (cond ((decide ((0:Int) ≤ ((x9.getD (Int.toNat x4) []).getD 0 0))) && (Nat.blt (Int.toNat ((x9.getD (Int.toNat x4) []).getD 0 0)) x5.length)) (ih x0 x1 (fadd .f32 x2 (fmul .f32 (Int.toNat ((x7.getD (Int.toNat ((x9.getD (Int.toNat x4) []).getD 0 0)) []).getD 0 0)) (Int.toNat ((x5.getD (Int.toNat ((x9.getD (Int.toNat x4) []).getD 0 0)) []).getD 2 0)))) (fadd .f32 x3 (Int.toNat ((x7.getD (Int.toNat ((x9.getD (Int.toNat x4) []).getD 0 0)) []).getD 0 0))) (IntKind.i64.wrap (x4 + 1)) x5 x6 x7 x8 x9) (1,0,0)) (ih x0 x1 x2 x3 (IntKind.i64.wrap (x4 + 1)) x5 x6 x7 x8 x9)) (1,0,0)) (1,0,0)) (0,x2,x3)
noncomputable def r100l1:Nat→Nat→Int→Nat→Nat→Int→LL→LL→LL→LL→LL→(Nat×Nat×Nat)
 | 0 => fun _ _ _ _ _ _ _ _ _ _ => (1,0,0)
 | m + 1 => b100l1 (r100l1 m)
noncomputable def a100l1 (x0:Nat) (x1:Int) (x2 x3:Nat) (x4:Int) (x5 x6 x7 x8 x9:LL) (p:Nat×Nat×Nat):Option (Fin'×List Value×St) := firstT ([((Nat.beq (p.1) 0),.exit 3,[wsl 0,wsl 1,wsl 2,vf x0,wsl 3,vi x1,vf (p.2.1),vf (p.2.2)],⟨[(tb sc0 x5),(tb [.fl .f32] x6),(tb [.fl .f32] x7),(tb [.fl .f32] x8),(tb [.int .i64] x9)],5,[]⟩)].map fun (b,x) => (b,(x.1,frameOf 101 [0,1,2,3,9,10,12,13] x.2.1,x.2.2)))
noncomputable def u100l1 (x0:Nat) (x1:Int) (x2 x3:Nat) (x4:Int) (x5 x6 x7 x8 x9:LL) (p:Nat×Nat×Nat):Option (Fin'×List Value×St) := alts ([((Nat.beq (p.1) 0),.exit 3,[wsl 0,wsl 1,wsl 2,vf x0,wsl 3,vi x1,vf (p.2.1),vf (p.2.2)],⟨[(tb sc0 x5),(tb [.fl .f32] x6),(tb [.fl .f32] x7),(tb [.fl .f32] x8),(tb [.int .i64] x9)],5,[]⟩)].map fun (b,x) => (b,(x.1,frameOf 101 [0,1,2,3,9,10,12,13] x.2.1,x.2.2))) some
theorem v100l1 (x0:Nat) (x1:Int) (x2 x3:Nat) (x4:Int) (x5 x6 x7 x8 x9:LL) (p:Nat×Nat×Nat):u100l1 x0 x1 x2 x3 x4 x5 x6 x7 x8 x9 p = a100l1 x0 x1 x2 x3 x4 x5 x6 x7 x8 x9 p := alts_first _
noncomputable def q100l1 (m:Nat):SumK := fun vals s =>
 match vals,s.h with
 | [.iface f0 .nilIface,.iface f1 .nilIface,.iface f2 .nilIface,.float .f32 x0,.iface f3 .nilIface,.int .i64 x1,.iface f4 .nilIface,.float .f32 x2,.float .f32 x3,.int .i64 x4],[⟨true,some (.tab [.fl .f32,.fl .f32,.fl .f32,.fl .f32,.int .i64] x5)⟩,⟨true,some (.tab [.fl .f32] x6)⟩,⟨true,some (.tab [.fl .f32] x7)⟩,⟨true,some (.tab [.fl .f32] x8)⟩,⟨true,some (.tab [.int .i64] x9)⟩] => if f0 = 0 ∧ f1 = 1 ∧ f2 = 2 ∧ f3 = 3 ∧ f4 = 4 then [((Nat.beq ((r100l1 m x0 x1 x2 x3 x4 x5 x6 x7 x8 x9).1) 0),.exit 3,[wsl 0,wsl 1,wsl 2,vf x0,wsl 3,vi x1,vf ((r100l1 m x0 x1 x2 x3 x4 x5 x6 x7 x8 x9).2.1),vf ((r100l1 m x0 x1 x2 x3 x4 x5 x6 x7 x8 x9).2.2)],⟨[(tb sc0 x5),(tb [.fl .f32] x6),(tb [.fl .f32] x7),(tb [.fl .f32] x8),(tb [.int .i64] x9)],5,[]⟩)] else noQ vals s
 | _,_ => noQ vals s
noncomputable def w100l1 (ih:Nat→Int→Nat→Nat→Int→LL→LL→LL→LL→LL→(Nat×Nat×Nat)) (x0:Nat) (x1:Int) (x2 x3:Nat) (x4:Int) (x5 x6 x7 x8 x9:LL):Option (Fin'×List Value×St) :=
 (cond (decide ((x4:Int) < ((x9.length:Nat):Int)))
 (cond ((decide ((0:Int) ≤ x4)) && (Nat.blt (Int.toNat x4) x9.length)) (cond (Nat.blt (Int.toNat x4) x9.length) (cond ((decide ((0:Int) ≤ ((x9.getD (Int.toNat x4) []).getD 0 0))) && (Nat.blt (Int.toNat ((x9.getD (Int.toNat x4) []).getD 0 0)) x7.length)) (cond (Nat.blt (Int.toNat ((x9.getD (Int.toNat x4) []).getD 0 0)) x7.length) (cond (fgt .f32 (Int.toNat ((x7.getD (Int.toNat ((x9.getD (Int.toNat x4) []).getD 0 0)) []).getD 0 0)) 0) (cond ((decide ((0:Int) ≤ x4)) && (Nat.blt (Int.toNat x4) x9.length)) (cond (Nat.blt (Int.toNat x4) x9.length) (cond ((decide ((0:Int) ≤ ((x9.getD (Int.toNat x4) []).getD 0 0))) && (Nat.blt (Int.toNat ((x9.getD (Int.toNat x4) []).getD 0 0)) x5.length)) (cond (Nat.blt (Int.toNat ((x9.getD (Int.toNat x4) []).getD 0 0)) x5.length) (u100l1 x0 x1 x2 x3 x4 x5 x6 x7 x8 x9 (ih x0 x1 (fadd .f32 x2 (fmul .f32 (Int.toNat ((x7.getD (Int.toNat ((x9.getD (Int.toNat x4) []).getD 0 0)) []).getD 0 0)) (Int.toNat ((x5.getD (Int.toNat ((x9.getD (Int.toNat x4) []).getD 0 0)) []).getD 2 0)))) (fadd .f32 x3 (Int.toNat ((x7.getD (Int.toNat ((x9.getD (Int.toNat x4) []).getD 0 0)) []).getD 0 0))) (IntKind.i64.wrap (x4 + 1)) x5 x6 x7 x8 x9)) none) none) none) none) (u100l1 x0 x1 x2 x3 x4 x5 x6 x7 x8 x9 (ih x0 x1 x2 x3 (IntKind.i64.wrap (x4 + 1)) x5 x6 x7 x8 x9))) none) none) none) none)
 (a100l1 x0 x1 x2 x3 x4 x5 x6 x7 x8 x9 (0,x2,x3)))
theorem e100l1 (m:Nat) (x0:Nat) (x1:Int) (x2 x3:Nat) (x4:Int) (x5 x6 x7 x8 x9:LL):evC Try.prog ext T49 noL 200 (loopN Try.f100 1) (loopTail ([0,1,2,3,9,10,11,12,13,14],[]) [0,1,2,3,9,10,12,13] [] (sumK 101 [0,1,2,3,9,10,11,12,13,14] [0,1,2,3,9,10,12,13] (q100l1 m))) (frameOf 101 [0,1,2,3,9,10,11,12,13,14] [wsl 0,wsl 1,wsl 2,vf x0,wsl 3,vi x1,wsl 4,vf x2,vf x3,vi x4]) ⟨[(tb sc0 x5),(tb [.fl .f32] x6),(tb [.fl .f32] x7),(tb [.fl .f32] x8),(tb [.int .i64] x9)],5,[]⟩ = firstT ([((Nat.beq ((r100l1 (m + 1) x0 x1 x2 x3 x4 x5 x6 x7 x8 x9).1) 0),.exit 3,[wsl 0,wsl 1,wsl 2,vf x0,wsl 3,vi x1,vf ((r100l1 (m + 1) x0 x1 x2 x3 x4 x5 x6 x7 x8 x9).2.1),vf ((r100l1 (m + 1) x0 x1 x2 x3 x4 x5 x6 x7 x8 x9).2.2)],⟨[(tb sc0 x5),(tb [.fl .f32] x6),(tb [.fl .f32] x7),(tb [.fl .f32] x8),(tb [.int .i64] x9)],5,[]⟩)].map fun (b,x) => (b,(x.1,frameOf 101 [0,1,2,3,9,10,12,13] x.2.1,x.2.2))) :=
 (show _ = w100l1 (r100l1 m) x0 x1 x2 x3 x4 x5 x6 x7 x8 x9 from by kernel_rfl).trans
 (show w100l1 (r100l1 m) x0 x1 x2 x3 x4 x5 x6 x7 x8 x9 = a100l1 x0 x1 x2 x3 x4 x5 x6 x7 x8 x9 (r100l1 (m + 1) x0 x1 x2 x3 x4 x5 x6 x7 x8 x9) from by unfold w100l1; show _ = a100l1 x0 x1 x2 x3 x4 x5 x6 x7 x8 x9 (b100l1 (r100l1 m) x0 x1 x2 x3 x4 x5 x6 x7 x8 x9); unfold b100l1; exact (cond_both (a100l1 x0 x1 x2 x3 x4 x5 x6 x7 x8 x9) _ (fun h0 => (cond_both (a100l1 x0 x1 x2 x3 x4 x5 x6 x7 x8 x9) _ (fun h1 => (cond_t (ev_and2 h1) (cond_both (a100l1 x0 x1 x2 x3 x4 x5 x6 x7 x8 x9) _ (fun h2 => (cond_t (ev_and2 h2) (cond_both (a100l1 x0 x1 x2 x3 x4 x5 x6 x7 x8 x9) _ (fun h3 => (cond_t h1 (cond_t (ev_and2 h1) (cond_both (a100l1 x0 x1 x2 x3 x4 x5 x6 x7 x8 x9) _ (fun h4 => (cond_t (ev_and2 h4) (v100l1 x0 x1 x2 x3 x4 x5 x6 x7 x8 x9 ((r100l1 m) x0 x1 (fadd .f32 x2 (fmul .f32 (Int.toNat ((x7.getD (Int.toNat ((x9.getD (Int.toNat x4) []).getD 0 0)) []).getD 0 0)) (Int.toNat ((x5.getD (Int.toNat ((x9.getD (Int.toNat x4) []).getD 0 0)) []).getD 2 0)))) (fadd .f32 x3 (Int.toNat ((x7.getD (Int.toNat ((x9.getD (Int.toNat x4) []).getD 0 0)) []).getD 0 0))) (IntKind.i64.wrap (x4 + 1)) x5 x6 x7 x8 x9)))) (fun h4 => rfl))))) (fun h3 => (v100l1 x0 x1 x2 x3 x4 x5 x6 x7 x8 x9 ((r100l1 m) x0 x1 x2 x3 (IntKind.i64.wrap (x4 + 1)) x5 x6 x7 x8 x9)))))) (fun h2 => rfl)))) (fun h1 => rfl))) (fun h0 => rfl)))
theorem qm100l1:∀ m,SumKOk Try.prog (loopN Try.f100 1) 101 [0,1,2,3,9,10,11,12,13,14] [0,1,2,3,9,10,12,13] (q100l1 m) := by
  intro m
  induction m with
  | zero =>
    intro vals s x h1 h2 h3
    unfold q100l1 at h3; split at h3
    · rename_i h; split at h3
      · rename_i hc; obtain ⟨rfl,rfl,rfl,rfl,rfl⟩ := hc; exact absurd h3 (by simp [r100l1,firstT,Nat.beq])
      · exact noQ_ok _ _ _ h1 h2 h3
    · exact noQ_ok _ _ _ h1 h2 h3
  | succ m ih =>
    intro vals s x h1 h2 h3
    unfold q100l1 at h3; split at h3
    · rename_i h; split at h3
      · rename_i hc; obtain ⟨rfl,rfl,rfl,rfl,rfl⟩ := hc; exact sum_step ok49 extOk mixed ((lfOkF_no _ _).inner (by kernel_rfl)) ih h1 h2 h (e100l1 m _ _ _ _ _ _ _ _ _ _) rfl h3
      · exact noQ_ok _ _ _ h1 h2 h3
    · exact noQ_ok _ _ _ h1 h2 h3
noncomputable def Q100l1:SumK := fun vals s => q100l1 (fuelOf vals s.h) vals s
theorem qok100l1:SumKOk Try.prog (loopN Try.f100 1) 101 [0,1,2,3,9,10,11,12,13,14] [0,1,2,3,9,10,12,13] Q100l1 := fuel_ok qm100l1 fuelOf
noncomputable def L100_1:LoopT := addL noL 12 ([0,1,2,3,9,10,11,12,13,14],[]) (sumK 101 [0,1,2,3,9,10,11,12,13,14] [0,1,2,3,9,10,12,13] Q100l1)
theorem lok100_1:LfOkF Try.prog L100_1 Try.f100 := lfOkF_add (lfOkF_no _ _) qok100l1 (by kernel_rfl) (by kernel_rfl) (by kernel_rfl)

noncomputable def b100l0 (ih:Nat→Int→LL→LL→LL→LL→(Nat×LL)) (x0:Nat) (x1:Int) (x2 x3 x4 x5:LL):Nat×LL :=
 let c195 := (r100l1 (1000 + ((r133 x1 x2).2).length + x5.length + x4.length + x3.length + x2.length) x0 x1 0 0 0 x2 x3 x4 x5 ((r133 x1 x2).2))
 cond (decide ((x1:Int) < ((x2.length:Nat):Int))) (cond ((decide ((0:Int) ≤ x1)) && (Nat.blt (Int.toNat x1) x2.length)) (cond ((((x2.getD (Int.toNat x1) []).getD 4 0):Int) == (-1)) (cond (Nat.beq ((r133 x1 x2).1) 0) (cond ((decide ((0:Int) ≤ x1)) && (Nat.blt (Int.toNat x1) x4.length)) (cond (flt .f32 (Int.toNat ((x4.getD (Int.toNat x1) []).getD 0 0)) 0) (cond (Nat.ble ((x5.length + 1) * 5) 140737488355328) (cond (Nat.beq ((ih x0 (IntKind.i64.wrap (x1 + 1)) x2 x3 x4 (((x5.drop 0).take x5.length) ++ ([[((x0:Nat):Int)]]:LL))).1) 0) (0,((ih x0 (IntKind.i64.wrap (x1 + 1)) x2 x3 x4 (((x5.drop 0).take x5.length) ++ ([[((x0:Nat):Int)]]:LL))).2)) (cond (Nat.beq ((ih x0 (IntKind.i64.wrap (x1 + 1)) x2 x3 x4 (((x5.drop 0).take x5.length) ++ ([[((x0:Nat):Int)]]:LL))).1) 1) (0,(((x5.drop 0).take x5.length) ++ ([[((x0:Nat):Int)]]:LL))) (2,[]))) (2,[])) (cond ((((((r133 x1 x2).2).length:Nat):Int):Int) == 0) (cond ((decide ((0:Int) ≤ x1)) && (Nat.blt (Int.toNat x1) x3.length)) (cond (Nat.ble ((x5.length + 1) * 5) 140737488355328) (cond (Nat.beq ((ih x0 (IntKind.i64.wrap (x1 + 1)) x2 x3 x4 (((x5.drop 0).take x5.length) ++ ([[(((Int.toNat ((x3.getD (Int.toNat x1) []).getD 0 0)):Nat):Int)]]:LL))).1) 0) (0,((ih x0 (IntKind.i64.wrap (x1 + 1)) x2 x3 x4 (((x5.drop 0).take x5.length) ++ ([[(((Int.toNat ((x3.getD (Int.toNat x1) []).getD 0 0)):Nat):Int)]]:LL))).2)) (cond (Nat.beq ((ih x0 (IntKind.i64.wrap (x1 + 1)) x2 x3 x4 (((x5.drop 0).take x5.length) ++ ([[(((Int.toNat ((x3.getD (Int.toNat x1) []).getD 0 0)):Nat):Int)]]:LL))).1) 1) (0,(((x5.drop 0).take x5.length) ++ ([[(((Int.toNat ((x3.getD (Int.toNat x1) []).getD 0 0)):Nat):Int)]]:LL))) (2,[]))) (2,[])) (2,[])) (cond (Nat.beq (c195.1) 0) (cond (fgt .f32 (c195.2.2) 0) (cond (Nat.ble ((x5.length + 1) * 5) 140737488355328) (cond (Nat.beq ((ih x0 (IntKind.i64.wrap (x1 + 1)) x2 x3 x4 (((x5.drop 0).take x5.length) ++ ([[(((fdiv .f32 (c195.2.1) (c195.2.2)):Nat):Int)]]:LL))).1) 0) (0,((ih x0 (IntKind.i64.wrap (x1 + 1)) x2 x3 x4 (((x5.drop 0).take x5.length) ++ ([[(((fdiv .f32 (c195.2.1) (c195.2.2)):Nat):Int)]]:LL))).2)) (cond (Nat.beq ((ih x0 (IntKind.i64.wrap (x1 + 1)) x2 x3 x4 (((x5.drop 0).take x5.length) ++ ([[(((fdiv .f32 (c195.2.1) (c195.2.2)):Nat):Int)]]:LL))).1) 1) (0,(((x5.drop 0).take x5.length) ++ ([[(((fdiv .f32 (c195.2.1) (c195.2.2)):Nat):Int)]]:LL))) (2,[]))) (2,[])) (cond (Nat.ble ((x5.length + 1) * 5) 140737488355328) (cond (Nat.beq ((ih x0 (IntKind.i64.wrap (x1 + 1)) x2 x3 x4 (((x5.drop 0).take x5.length) ++ ([[(((Int.toNat ((x2.getD (Int.toNat x1) []).getD 2 0)):Nat):Int)]]:LL))).1) 0) (0,((ih x0 (IntKind.i64.wrap (x1 + 1)) x2 x3 x4 (((x5.drop 0).take x5.length) ++ ([[(((Int.toNat ((x2.getD (Int.toNat x1) []).getD 2 0)):Nat):Int)]]:LL))).2)) (cond (Nat.beq ((ih x0 (IntKind.i64.wrap (x1 + 1)) x2 x3 x4 (((x5.drop 0).take x5.length) ++ ([[(((Int.toNat ((x2.getD (Int.toNat x1) []).getD 2 0)):Nat):Int)]]:LL))).1) 1) (0,(((x5.drop 0).take x5.length) ++ ([[(((Int.toNat ((x2.getD (Int.toNat x1) []).getD 2 0)):Nat):Int)]]:LL))) (2,[]))) (2,[]))) (2,[])))) (2,[])) (2,[])) (cond ((decide ((0:Int) ≤ x1)) && (Nat.blt (Int.toNat x1) x4.length)) (cond (flt .f32 (Int.toNat ((x4.getD (Int.toNat x1) []).getD 0 0)) 0) (cond (Nat.ble ((x5.length + 1) * 5) 140737488355328) (cond (Nat.beq ((ih x0 (IntKind.i64.wrap (x1 + 1)) x2 x3 x4 (((x5.drop 0).take x5.length) ++ ([[((x0:Nat):Int)]]:LL))).1) 0) (0,((ih x0 (IntKind.i64.wrap (x1 + 1)) x2 x3 x4 (((x5.drop 0).take x5.length) ++ ([[((x0:Nat):Int)]]:LL))).2)) (cond (Nat.beq ((ih x0 (IntKind.i64.wrap (x1 + 1)) x2 x3 x4 (((x5.drop 0).take x5.length) ++ ([[((x0:Nat):Int)]]:LL))).1) 1) (0,(((x5.drop 0).take x5.length) ++ ([[((x0:Nat):Int)]]:LL))) (2,[]))) (2,[])) (cond ((decide ((0:Int) ≤ x1)) && (Nat.blt (Int.toNat x1) x3.length)) (cond (Nat.ble ((x5.length + 1) * 5) 140737488355328) (cond (Nat.beq ((ih x0 (IntKind.i64.wrap (x1 + 1)) x2 x3 x4 (((x5.drop 0).take x5.length) ++ ([[(((Int.toNat ((x3.getD (Int.toNat x1) []).getD 0 0)):Nat):Int)]]:LL))).1) 0) (0,((ih x0 (IntKind.i64.wrap (x1 + 1)) x2 x3 x4 (((x5.drop 0).take x5.length) ++ ([[(((Int.toNat ((x3.getD (Int.toNat x1) []).getD 0 0)):Nat):Int)]]:LL))).2)) (cond (Nat.beq ((ih x0 (IntKind.i64.wrap (x1 + 1)) x2 x3 x4 (((x5.drop 0).take x5.length) ++ ([[(((Int.toNat ((x3.getD (Int.toNat x1) []).getD 0 0)):Nat):Int)]]:LL))).1) 1) (0,(((x5.drop 0).take x5.length) ++ ([[(((Int.toNat ((x3.getD (Int.toNat x1) []).getD 0 0)):Nat):Int)]]:LL))) (2,[]))) (2,[])) (2,[]))) (2,[]))) (2,[])) (1,[])
noncomputable def r100l0:Nat→Nat→Int→LL→LL→LL→LL→(Nat×LL)
 | 0 => fun _ _ _ _ _ _ => (2,[])
 | m + 1 => b100l0 (r100l0 m)
noncomputable def a100l0 (x0:Nat) (x1:Int) (x2 x3 x4 x5:LL) (p:Nat×LL):Option (Fin'×List Value×St) := firstT ([((Nat.beq (p.1) 0),.exit 0,[wsl 4],⟨[(tb sc0 x2),(tb [.fl .f32] x3),(tb [.fl .f32] x4),⟨true,none⟩,(tb [.fl .f32] (p.2))],4,[3]⟩),((Nat.beq (p.1) 1),.exit 0,[wsl 3],⟨[(tb sc0 x2),(tb [.fl .f32] x3),(tb [.fl .f32] x4),(tb [.fl .f32] x5)],4,[3]⟩)].map fun (b,x) => (b,(x.1,frameOf 101 [9] x.2.1,x.2.2)))
noncomputable def u100l0 (x0:Nat) (x1:Int) (x2 x3 x4 x5:LL) (p:Nat×LL):Option (Fin'×List Value×St) := alts ([((Nat.beq (p.1) 0),.exit 0,[wsl 4],⟨[(tb sc0 x2),(tb [.fl .f32] x3),(tb [.fl .f32] x4),⟨true,none⟩,(tb [.fl .f32] (p.2))],4,[3]⟩),((Nat.beq (p.1) 1),.exit 0,[wsl 3],⟨[(tb sc0 x2),(tb [.fl .f32] x3),(tb [.fl .f32] x4),(tb [.fl .f32] x5)],4,[3]⟩)].map fun (b,x) => (b,(x.1,frameOf 101 [9] x.2.1,x.2.2))) some
theorem v100l0 (x0:Nat) (x1:Int) (x2 x3 x4 x5:LL) (p:Nat×LL):u100l0 x0 x1 x2 x3 x4 x5 p = a100l0 x0 x1 x2 x3 x4 x5 p := alts_first _
noncomputable def q100l0 (m:Nat):SumK := fun vals s =>
 match vals,s.h with
 | [.iface f0 .nilIface,.iface f1 .nilIface,.iface f2 .nilIface,.float .f32 x0,.iface f3 .nilIface,.int .i64 x1],[⟨true,some (.tab [.fl .f32,.fl .f32,.fl .f32,.fl .f32,.int .i64] x2)⟩,⟨true,some (.tab [.fl .f32] x3)⟩,⟨true,some (.tab [.fl .f32] x4)⟩,⟨true,some (.tab [.fl .f32] x5)⟩] => if f0 = 0 ∧ f1 = 1 ∧ f2 = 2 ∧ f3 = 3 then [((Nat.beq ((r100l0 m x0 x1 x2 x3 x4 x5).1) 0),.exit 0,[wsl 4],⟨[(tb sc0 x2),(tb [.fl .f32] x3),(tb [.fl .f32] x4),⟨true,none⟩,(tb [.fl .f32] ((r100l0 m x0 x1 x2 x3 x4 x5).2))],4,[3]⟩),((Nat.beq ((r100l0 m x0 x1 x2 x3 x4 x5).1) 1),.exit 0,[wsl 3],⟨[(tb sc0 x2),(tb [.fl .f32] x3),(tb [.fl .f32] x4),(tb [.fl .f32] x5)],4,[3]⟩)] else noQ vals s
 | _,_ => noQ vals s
noncomputable def w100l0 (ih:Nat→Int→LL→LL→LL→LL→(Nat×LL)) (x0:Nat) (x1:Int) (x2 x3 x4 x5:LL):Option (Fin'×List Value×St) :=
 let c195 := (r100l1 (1000 + ((r133 x1 x2).2).length + x5.length + x4.length + x3.length + x2.length) x0 x1 0 0 0 x2 x3 x4 x5 ((r133 x1 x2).2))
 (cond (decide ((x1:Int) < ((x2.length:Nat):Int)))
 (cond ((decide ((0:Int) ≤ x1)) && (Nat.blt (Int.toNat x1) x2.length)) (cond (Nat.blt (Int.toNat x1) x2.length) (cond ((((x2.getD (Int.toNat x1) []).getD 4 0):Int) == (-1)) (cond (Nat.beq ((r133 x1 x2).1) 0) (cond ((decide ((0:Int) ≤ x1)) && (Nat.blt (Int.toNat x1) x4.length)) (cond (Nat.blt (Int.toNat x1) x4.length) (cond (flt .f32 (Int.toNat ((x4.getD (Int.toNat x1) []).getD 0 0)) 0) (cond (Nat.ble ((x5.length + 1) * 5) 140737488355328) (cond (Nat.beq ((ih x0 (IntKind.i64.wrap (x1 + 1)) x2 x3 x4 (((x5.drop 0).take x5.length) ++ ([[((x0:Nat):Int)]]:LL))).1) 0) (a100l0 x0 x1 x2 x3 x4 x5 (0,((ih x0 (IntKind.i64.wrap (x1 + 1)) x2 x3 x4 (((x5.drop 0).take x5.length) ++ ([[((x0:Nat):Int)]]:LL))).2))) (cond (Nat.beq ((ih x0 (IntKind.i64.wrap (x1 + 1)) x2 x3 x4 (((x5.drop 0).take x5.length) ++ ([[((x0:Nat):Int)]]:LL))).1) 1) (a100l0 x0 x1 x2 x3 x4 x5 (0,(((x5.drop 0).take x5.length) ++ ([[((x0:Nat):Int)]]:LL)))) none)) none) (cond ((((((r133 x1 x2).2).length:Nat):Int):Int) == 0) (cond ((decide ((0:Int) ≤ x1)) && (Nat.blt (Int.toNat x1) x3.length)) (cond (Nat.blt (Int.toNat x1) x3.length) (cond (Nat.ble ((x5.length + 1) * 5) 140737488355328) (cond (Nat.beq ((ih x0 (IntKind.i64.wrap (x1 + 1)) x2 x3 x4 (((x5.drop 0).take x5.length) ++ ([[(((Int.toNat ((x3.getD (Int.toNat x1) []).getD 0 0)):Nat):Int)]]:LL))).1) 0) (a100l0 x0 x1 x2 x3 x4 x5 (0,((ih x0 (IntKind.i64.wrap (x1 + 1)) x2 x3 x4 (((x5.drop 0).take x5.length) ++ ([[(((Int.toNat ((x3.getD (Int.toNat x1) []).getD 0 0)):Nat):Int)]]:LL))).2))) (cond (Nat.beq ((ih x0 (IntKind.i64.wrap (x1 + 1)) x2 x3 x4 (((x5.drop 0).take x5.length) ++ ([[(((Int.toNat ((x3.getD (Int.toNat x1) []).getD 0 0)):Nat):Int)]]:LL))).1) 1) (a100l0 x0 x1 x2 x3 x4 x5 (0,(((x5.drop 0).take x5.length) ++ ([[(((Int.toNat ((x3.getD (Int.toNat x1) []).getD 0 0)):Nat):Int)]]:LL)))) none)) none) none) none) (cond (Nat.beq (c195.1) 0) (cond (fgt .f32 (c195.2.2) 0) (cond (Nat.ble ((x5.length + 1) * 5) 140737488355328) (cond (Nat.beq ((ih x0 (IntKind.i64.wrap (x1 + 1)) x2 x3 x4 (((x5.drop 0).take x5.length) ++ ([[(((fdiv .f32 (c195.2.1) (c195.2.2)):Nat):Int)]]:LL))).1) 0) (a100l0 x0 x1 x2 x3 x4 x5 (0,((ih x0 (IntKind.i64.wrap (x1 + 1)) x2 x3 x4 (((x5.drop 0).take x5.length) ++ ([[(((fdiv .f32 (c195.2.1) (c195.2.2)):Nat):Int)]]:LL))).2))) (cond (Nat.beq ((ih x0 (IntKind.i64.wrap (x1 + 1)) x2 x3 x4 (((x5.drop 0).take x5.length) ++ ([[(((fdiv .f32 (c195.2.1) (c195.2.2)):Nat):Int)]]:LL))).1) 1) (a100l0 x0 x1 x2 x3 x4 x5 (0,(((x5.drop 0).take x5.length) ++ ([[(((fdiv .f32 (c195.2.1) (c195.2.2)):Nat):Int)]]:LL)))) none)) none) (cond ((decide ((0:Int) ≤ x1)) && (Nat.blt (Int.toNat x1) x2.length)) (cond (Nat.blt (Int.toNat x1) x2.length) (cond (Nat.ble ((x5.length + 1) * 5) 140737488355328) (cond (Nat.beq ((ih x0 (IntKind.i64.wrap (x1 + 1)) x2 x3 x4 (((x5.drop 0).take x5.length) ++ ([[(((Int.toNat ((x2.getD (Int.toNat x1) []).getD 2 0)):Nat):Int)]]:LL))).1) 0) (a100l0 x0 x1 x2 x3 x4 x5 (0,((ih x0 (IntKind.i64.wrap (x1 + 1)) x2 x3 x4 (((x5.drop 0).take x5.length) ++ ([[(((Int.toNat ((x2.getD (Int.toNat x1) []).getD 2 0)):Nat):Int)]]:LL))).2))) (cond (Nat.beq ((ih x0 (IntKind.i64.wrap (x1 + 1)) x2 x3 x4 (((x5.drop 0).take x5.length) ++ ([[(((Int.toNat ((x2.getD (Int.toNat x1) []).getD 2 0)):Nat):Int)]]:LL))).1) 1) (a100l0 x0 x1 x2 x3 x4 x5 (0,(((x5.drop 0).take x5.length) ++ ([[(((Int.toNat ((x2.getD (Int.toNat x1) []).getD 2 0)):Nat):Int)]]:LL)))) none)) none) none) none)) none))) none) none) none) (cond ((decide ((0:Int) ≤ x1)) && (Nat.blt (Int.toNat x1) x4.length)) (cond (Nat.blt (Int.toNat x1) x4.length) (cond (flt .f32 (Int.toNat ((x4.getD (Int.toNat x1) []).getD 0 0)) 0) (cond (Nat.ble ((x5.length + 1) * 5) 140737488355328) (cond (Nat.beq ((ih x0 (IntKind.i64.wrap (x1 + 1)) x2 x3 x4 (((x5.drop 0).take x5.length) ++ ([[((x0:Nat):Int)]]:LL))).1) 0) (a100l0 x0 x1 x2 x3 x4 x5 (0,((ih x0 (IntKind.i64.wrap (x1 + 1)) x2 x3 x4 (((x5.drop 0).take x5.length) ++ ([[((x0:Nat):Int)]]:LL))).2))) (cond (Nat.beq ((ih x0 (IntKind.i64.wrap (x1 + 1)) x2 x3 x4 (((x5.drop 0).take x5.length) ++ ([[((x0:Nat):Int)]]:LL))).1) 1) (a100l0 x0 x1 x2 x3 x4 x5 (0,(((x5.drop 0).take x5.length) ++ ([[((x0:Nat):Int)]]:LL)))) none)) none) (cond ((decide ((0:Int) ≤ x1)) && (Nat.blt (Int.toNat x1) x3.length)) (cond (Nat.blt (Int.toNat x1) x3.length) (cond (Nat.ble ((x5.length + 1) * 5) 140737488355328) (cond (Nat.beq ((ih x0 (IntKind.i64.wrap (x1 + 1)) x2 x3 x4 (((x5.drop 0).take x5.length) ++ ([[(((Int.toNat ((x3.getD (Int.toNat x1) []).getD 0 0)):Nat):Int)]]:LL))).1) 0) (a100l0 x0 x1 x2 x3 x4 x5 (0,((ih x0 (IntKind.i64.wrap (x1 + 1)) x2 x3 x4 (((x5.drop 0).take x5.length) ++ ([[(((Int.toNat ((x3.getD (Int.toNat x1) []).getD 0 0)):Nat):Int)]]:LL))).2))) (cond (Nat.beq ((ih x0 (IntKind.i64.wrap (x1 + 1)) x2 x3 x4 (((x5.drop 0).take x5.length) ++ ([[(((Int.toNat ((x3.getD (Int.toNat x1) []).getD 0 0)):Nat):Int)]]:LL))).1) 1) (a100l0 x0 x1 x2 x3 x4 x5 (0,(((x5.drop 0).take x5.length) ++ ([[(((Int.toNat ((x3.getD (Int.toNat x1) []).getD 0 0)):Nat):Int)]]:LL)))) none)) none) none) none)) none) none)) none) none)
 (a100l0 x0 x1 x2 x3 x4 x5 (1,[])))
theorem e100l0 (m:Nat) (x0:Nat) (x1:Int) (x2 x3 x4 x5:LL):evC Try.prog ext T49 L100_1 200 (loopN Try.f100 0) (loopTail ([0,1,2,3,9,10],[]) [9] [3] (sumK 101 [0,1,2,3,9,10] [9] (q100l0 m))) (frameOf 101 [0,1,2,3,9,10] [wsl 0,wsl 1,wsl 2,vf x0,wsl 3,vi x1]) ⟨[(tb sc0 x2),(tb [.fl .f32] x3),(tb [.fl .f32] x4),(tb [.fl .f32] x5)],4,[]⟩ = firstT ([((Nat.beq ((r100l0 (m + 1) x0 x1 x2 x3 x4 x5).1) 0),.exit 0,[wsl 4],⟨[(tb sc0 x2),(tb [.fl .f32] x3),(tb [.fl .f32] x4),⟨true,none⟩,(tb [.fl .f32] ((r100l0 (m + 1) x0 x1 x2 x3 x4 x5).2))],4,[3]⟩),((Nat.beq ((r100l0 (m + 1) x0 x1 x2 x3 x4 x5).1) 1),.exit 0,[wsl 3],⟨[(tb sc0 x2),(tb [.fl .f32] x3),(tb [.fl .f32] x4),(tb [.fl .f32] x5)],4,[3]⟩)].map fun (b,x) => (b,(x.1,frameOf 101 [9] x.2.1,x.2.2))) :=
 (show _ = w100l0 (r100l0 m) x0 x1 x2 x3 x4 x5 from by kernel_rfl).trans
 (show w100l0 (r100l0 m) x0 x1 x2 x3 x4 x5 = a100l0 x0 x1 x2 x3 x4 x5 (r100l0 (m + 1) x0 x1 x2 x3 x4 x5) from by unfold w100l0; show _ = a100l0 x0 x1 x2 x3 x4 x5 (b100l0 (r100l0 m) x0 x1 x2 x3 x4 x5); unfold b100l0; exact (cond_both (a100l0 x0 x1 x2 x3 x4 x5) _ (fun h0 => (cond_both (a100l0 x0 x1 x2 x3 x4 x5) _ (fun h1 => (cond_t (ev_and2 h1) (cond_both (a100l0 x0 x1 x2 x3 x4 x5) _ (fun h2 => (cond_both (a100l0 x0 x1 x2 x3 x4 x5) _ (fun h3 => (cond_both (a100l0 x0 x1 x2 x3 x4 x5) _ (fun h4 => (cond_t (ev_and2 h4) (cond_both (a100l0 x0 x1 x2 x3 x4 x5) _ (fun h5 => (cond_app (a100l0 x0 x1 x2 x3 x4 x5) _ (cond_app (a100l0 x0 x1 x2 x3 x4 x5) _ rfl (cond_app (a100l0 x0 x1 x2 x3 x4 x5) _ rfl rfl)) rfl)) (fun h5 => (cond_both (a100l0 x0 x1 x2 x3 x4 x5) _ (fun h6 => (cond_both (a100l0 x0 x1 x2 x3 x4 x5) _ (fun h7 => (cond_t (ev_and2 h7) (cond_app (a100l0 x0 x1 x2 x3 x4 x5) _ (cond_app (a100l0 x0 x1 x2 x3 x4 x5) _ rfl (cond_app (a100l0 x0 x1 x2 x3 x4 x5) _ rfl rfl)) rfl))) (fun h7 => rfl))) (fun h6 => (cond_both (a100l0 x0 x1 x2 x3 x4 x5) _ (fun h7 => (cond_both (a100l0 x0 x1 x2 x3 x4 x5) _ (fun h8 => (cond_app (a100l0 x0 x1 x2 x3 x4 x5) _ (cond_app (a100l0 x0 x1 x2 x3 x4 x5) _ rfl (cond_app (a100l0 x0 x1 x2 x3 x4 x5) _ rfl rfl)) rfl)) (fun h8 => (cond_t h1 (cond_t (ev_and2 h1) (cond_app (a100l0 x0 x1 x2 x3 x4 x5) _ (cond_app (a100l0 x0 x1 x2 x3 x4 x5) _ rfl (cond_app (a100l0 x0 x1 x2 x3 x4 x5) _ rfl rfl)) rfl)))))) (fun h7 => rfl)))))))) (fun h4 => rfl))) (fun h3 => rfl))) (fun h2 => (cond_both (a100l0 x0 x1 x2 x3 x4 x5) _ (fun h3 => (cond_t (ev_and2 h3) (cond_both (a100l0 x0 x1 x2 x3 x4 x5) _ (fun h4 => (cond_app (a100l0 x0 x1 x2 x3 x4 x5) _ (cond_app (a100l0 x0 x1 x2 x3 x4 x5) _ rfl (cond_app (a100l0 x0 x1 x2 x3 x4 x5) _ rfl rfl)) rfl)) (fun h4 => (cond_both (a100l0 x0 x1 x2 x3 x4 x5) _ (fun h5 => (cond_t (ev_and2 h5) (cond_app (a100l0 x0 x1 x2 x3 x4 x5) _ (cond_app (a100l0 x0 x1 x2 x3 x4 x5) _ rfl (cond_app (a100l0 x0 x1 x2 x3 x4 x5) _ rfl rfl)) rfl))) (fun h5 => rfl)))))) (fun h3 => rfl)))))) (fun h1 => rfl))) (fun h0 => rfl)))
theorem qm100l0:∀ m,SumKOk Try.prog (loopN Try.f100 0) 101 [0,1,2,3,9,10] [9] (q100l0 m) := by
  intro m
  induction m with
  | zero =>
    intro vals s x h1 h2 h3
    unfold q100l0 at h3; split at h3
    · rename_i h; split at h3
      · rename_i hc; obtain ⟨rfl,rfl,rfl,rfl⟩ := hc; exact absurd h3 (by simp [r100l0,firstT,Nat.beq])
      · exact noQ_ok _ _ _ h1 h2 h3
    · exact noQ_ok _ _ _ h1 h2 h3
  | succ m ih =>
    intro vals s x h1 h2 h3
    unfold q100l0 at h3; split at h3
    · rename_i h; split at h3
      · rename_i hc; obtain ⟨rfl,rfl,rfl,rfl⟩ := hc; exact sum_step ok49 extOk mixed (lok100_1.inner (by kernel_rfl)) ih h1 h2 h (e100l0 m _ _ _ _ _ _) rfl h3
      · exact noQ_ok _ _ _ h1 h2 h3
    · exact noQ_ok _ _ _ h1 h2 h3
noncomputable def Q100l0:SumK := fun vals s => q100l0 (fuelOf vals s.h) vals s
theorem qok100l0:SumKOk Try.prog (loopN Try.f100 0) 101 [0,1,2,3,9,10] [9] Q100l0 := fuel_ok qm100l0 fuelOf
noncomputable def L100_2:LoopT := addL L100_1 4 ([0,1,2,3,9,10],[]) (sumK 101 [0,1,2,3,9,10] [9] Q100l0)
theorem lok100_2:LfOkF Try.prog L100_2 Try.f100 := lfOkF_add lok100_1 qok100l0 (by kernel_rfl) (by kernel_rfl) (by kernel_rfl)

noncomputable def r100 (x0:Nat) (x1 x2 x3:LL):Nat×LL :=
 cond (Nat.beq ((r100l0 (1000 + 0 + x3.length + x2.length + x1.length) x0 0 x1 x2 x3 ([]:LL)).1) 0) (0,((r100l0 (1000 + 0 + x3.length + x2.length + x1.length) x0 0 x1 x2 x3 ([]:LL)).2)) (cond (Nat.beq ((r100l0 (1000 + 0 + x3.length + x2.length + x1.length) x0 0 x1 x2 x3 ([]:LL)).1) 1) (0,([]:LL)) (1,[]))
noncomputable def a100 (x0:Nat) (x1 x2 x3:LL) (p:Nat×LL):Res := firstT [((Nat.beq (p.1) 0),wsl 3,⟨[(tb sc0 x1),(tb [.fl .f32] x2),(tb [.fl .f32] x3),(tb [.fl .f32] (p.2))],3,[]⟩)]
noncomputable def w100 (x0:Nat) (x1 x2 x3:LL):Res :=
 (cond (Nat.beq ((r100l0 (1000 + 0 + x3.length + x2.length + x1.length) x0 0 x1 x2 x3 ([]:LL)).1) 0)
 (a100 x0 x1 x2 x3 (0,((r100l0 (1000 + 0 + x3.length + x2.length + x1.length) x0 0 x1 x2 x3 ([]:LL)).2)))
 (cond (Nat.beq ((r100l0 (1000 + 0 + x3.length + x2.length + x1.length) x0 0 x1 x2 x3 ([]:LL)).1) 1) (a100 x0 x1 x2 x3 (0,([]:LL))) none))
theorem e100 (x0:Nat) (x1 x2 x3:LL):evFn Try.prog ext T49 L100_2 200 Try.f100 [wsl 0,wsl 1,wsl 2,vf x0] ⟨[(tb sc0 x1),(tb [.fl .f32] x2),(tb [.fl .f32] x3)],3,[]⟩ = firstT [((Nat.beq ((r100 x0 x1 x2 x3).1) 0),wsl 3,⟨[(tb sc0 x1),(tb [.fl .f32] x2),(tb [.fl .f32] x3),(tb [.fl .f32] ((r100 x0 x1 x2 x3).2))],3,[]⟩)] :=
 (show _ = w100 x0 x1 x2 x3 from by kernel_rfl).trans
 (show w100 x0 x1 x2 x3 = a100 x0 x1 x2 x3 (r100 x0 x1 x2 x3) from by unfold w100 r100; exact (cond_app (a100 x0 x1 x2 x3) _ rfl (cond_app (a100 x0 x1 x2 x3) _ rfl rfl)))
noncomputable def s100 (args:List Value) (s:St):List (Bool×Value×St) :=
 match args,s.h with
 | [.iface f0 .nilIface,.iface f1 .nilIface,.iface f2 .nilIface,.float .f32 x0],[⟨true,some (.tab [.fl .f32,.fl .f32,.fl .f32,.fl .f32,.int .i64] x1)⟩,⟨true,some (.tab [.fl .f32] x2)⟩,⟨true,some (.tab [.fl .f32] x3)⟩] => if f0 = 0 ∧ f1 = 1 ∧ f2 = 2 then [((Nat.beq ((r100 x0 x1 x2 x3).1) 0),wsl 3,⟨[(tb sc0 x1),(tb [.fl .f32] x2),(tb [.fl .f32] x3),(tb [.fl .f32] ((r100 x0 x1 x2 x3).2))],3,[]⟩)] else T49 100 args s
 | _,_ => T49 100 args s
noncomputable def T50:CallF := addF T49 100 s100
theorem ok50:CfOk Try.prog T50 := by
  refine cfOk_add ok49 fun args s r s' h1 h2 h3 => ?_
  unfold s100 at h3; split at h3
  · rename_i h; split at h3
    · rename_i hc; obtain ⟨rfl,rfl,rfl⟩ := hc; exact callOk ok49 Try.func100 h1 h2 h lok100_2.body (e100 _ _ _ _) rfl h3
    · exact ok49 _ _ _ _ _ h1 h2 h3
  · exact ok49 _ _ _ _ _ h1 h2 h3

noncomputable def r39 (x0:Nat) (x1 x2 x3:LL):Nat×LL :=
 cond (Nat.beq ((r97 x1).1) 0) (cond (!((r97 x1).2)) (0,[]) (cond (!(r98 x0)) (1,[]) (cond (Nat.beq ((r99 x1 x2).1) 0) (cond (!((r99 x1 x2).2)) (1,[]) (cond ((((x3.length:Nat):Int):Int) != ((x1.length:Nat):Int)) (1,[]) (cond (Nat.beq ((r88 x3).1) 0) (cond (!((r88 x3).2)) (1,[]) (cond (Nat.beq ((r100 x0 x1 x2 x3).1) 0) (cond (Nat.beq ((r88 ((r100 x0 x1 x2 x3).2)).1) 0) (cond (!((r88 ((r100 x0 x1 x2 x3).2)).2)) (2,[]) (3,((r100 x0 x1 x2 x3).2))) (4,[])) (4,[]))) (4,[])))) (4,[])))) (4,[])
noncomputable def a39 (x0:Nat) (x1 x2 x3:LL) (p:Nat×LL):Res := firstT [((Nat.beq (p.1) 0),.tuple #[wsl 3,vi 1],⟨[(tb sc0 x1),(tb [.fl .f32] x2),(tb [.fl .f32] x3),(tb [.fl .f32] ([]:LL))],3,[]⟩),((Nat.beq (p.1) 1),.tuple #[wsl 3,vi 2],⟨[(tb sc0 x1),(tb [.fl .f32] x2),(tb [.fl .f32] x3),(tb [.fl .f32] ([]:LL))],3,[]⟩),((Nat.beq (p.1) 2),.tuple #[wsl 3,vi 4],⟨[(tb sc0 x1),(tb [.fl .f32] x2),(tb [.fl .f32] x3),(tb [.fl .f32] ([]:LL))],3,[]⟩),((Nat.beq (p.1) 3),.tuple #[wsl 3,vi 0],⟨[(tb sc0 x1),(tb [.fl .f32] x2),(tb [.fl .f32] x3),(tb [.fl .f32] (p.2))],3,[]⟩)]
noncomputable def w39 (x0:Nat) (x1 x2 x3:LL):Res :=
 (cond (Nat.beq ((r97 x1).1) 0)
 (cond (!((r97 x1).2)) (a39 x0 x1 x2 x3 (0,[])) (cond (!(r98 x0)) (a39 x0 x1 x2 x3 (1,[])) (cond (Nat.beq ((r99 x1 x2).1) 0) (cond (!((r99 x1 x2).2)) (a39 x0 x1 x2 x3 (1,[])) (cond ((((x3.length:Nat):Int):Int) != ((x1.length:Nat):Int)) (a39 x0 x1 x2 x3 (1,[])) (cond (Nat.beq ((r88 x3).1) 0) (cond (!((r88 x3).2)) (a39 x0 x1 x2 x3 (1,[])) (cond (Nat.beq ((r100 x0 x1 x2 x3).1) 0) (cond (Nat.beq ((r88 ((r100 x0 x1 x2 x3).2)).1) 0) (cond (!((r88 ((r100 x0 x1 x2 x3).2)).2)) (a39 x0 x1 x2 x3 (2,[])) (a39 x0 x1 x2 x3 (3,((r100 x0 x1 x2 x3).2)))) none) none)) none))) none)))
 none)
theorem e39 (x0:Nat) (x1 x2 x3:LL):evFn Try.prog ext T50 noL 200 Try.f39 [wsl 0,wsl 1,wsl 2,vf x0] ⟨[(tb sc0 x1),(tb [.fl .f32] x2),(tb [.fl .f32] x3)],3,[]⟩ = firstT [((Nat.beq ((r39 x0 x1 x2 x3).1) 0),.tuple #[wsl 3,vi 1],⟨[(tb sc0 x1),(tb [.fl .f32] x2),(tb [.fl .f32] x3),(tb [.fl .f32] ([]:LL))],3,[]⟩),((Nat.beq ((r39 x0 x1 x2 x3).1) 1),.tuple #[wsl 3,vi 2],⟨[(tb sc0 x1),(tb [.fl .f32] x2),(tb [.fl .f32] x3),(tb [.fl .f32] ([]:LL))],3,[]⟩),((Nat.beq ((r39 x0 x1 x2 x3).1) 2),.tuple #[wsl 3,vi 4],⟨[(tb sc0 x1),(tb [.fl .f32] x2),(tb [.fl .f32] x3),(tb [.fl .f32] ([]:LL))],3,[]⟩),((Nat.beq ((r39 x0 x1 x2 x3).1) 3),.tuple #[wsl 3,vi 0],⟨[(tb sc0 x1),(tb [.fl .f32] x2),(tb [.fl .f32] x3),(tb [.fl .f32] ((r39 x0 x1 x2 x3).2))],3,[]⟩)] :=
 (show _ = w39 x0 x1 x2 x3 from by kernel_rfl).trans
 (show w39 x0 x1 x2 x3 = a39 x0 x1 x2 x3 (r39 x0 x1 x2 x3) from by unfold w39 r39; exact (cond_app (a39 x0 x1 x2 x3) _ (cond_app (a39 x0 x1 x2 x3) _ rfl (cond_app (a39 x0 x1 x2 x3) _ rfl (cond_app (a39 x0 x1 x2 x3) _ (cond_app (a39 x0 x1 x2 x3) _ rfl (cond_app (a39 x0 x1 x2 x3) _ rfl (cond_app (a39 x0 x1 x2 x3) _ (cond_app (a39 x0 x1 x2 x3) _ rfl (cond_app (a39 x0 x1 x2 x3) _ (cond_app (a39 x0 x1 x2 x3) _ (cond_app (a39 x0 x1 x2 x3) _ rfl rfl) rfl) rfl)) rfl))) rfl))) rfl))
noncomputable def s39 (args:List Value) (s:St):List (Bool×Value×St) :=
 match args,s.h with
 | [.iface f0 .nilIface,.iface f1 .nilIface,.iface f2 .nilIface,.float .f32 x0],[⟨true,some (.tab [.fl .f32,.fl .f32,.fl .f32,.fl .f32,.int .i64] x1)⟩,⟨true,some (.tab [.fl .f32] x2)⟩,⟨true,some (.tab [.fl .f32] x3)⟩] => if f0 = 0 ∧ f1 = 1 ∧ f2 = 2 then [((Nat.beq ((r39 x0 x1 x2 x3).1) 0),.tuple #[wsl 3,vi 1],⟨[(tb sc0 x1),(tb [.fl .f32] x2),(tb [.fl .f32] x3),(tb [.fl .f32] ([]:LL))],3,[]⟩),((Nat.beq ((r39 x0 x1 x2 x3).1) 1),.tuple #[wsl 3,vi 2],⟨[(tb sc0 x1),(tb [.fl .f32] x2),(tb [.fl .f32] x3),(tb [.fl .f32] ([]:LL))],3,[]⟩),((Nat.beq ((r39 x0 x1 x2 x3).1) 2),.tuple #[wsl 3,vi 4],⟨[(tb sc0 x1),(tb [.fl .f32] x2),(tb [.fl .f32] x3),(tb [.fl .f32] ([]:LL))],3,[]⟩),((Nat.beq ((r39 x0 x1 x2 x3).1) 3),.tuple #[wsl 3,vi 0],⟨[(tb sc0 x1),(tb [.fl .f32] x2),(tb [.fl .f32] x3),(tb [.fl .f32] ((r39 x0 x1 x2 x3).2))],3,[]⟩)] else T50 39 args s
 | _,_ => T50 39 args s
noncomputable def T51:CallF := addF T50 39 s39
theorem ok51:CfOk Try.prog T51 := by
  refine cfOk_add ok50 fun args s r s' h1 h2 h3 => ?_
  unfold s39 at h3; split at h3
  · rename_i h; split at h3
    · rename_i hc; obtain ⟨rfl,rfl,rfl⟩ := hc; exact callOk ok50 Try.func39 h1 h2 h (lfOkF_no _ _).body (e39 _ _ _ _) rfl h3
    · exact ok50 _ _ _ _ _ h1 h2 h3
  · exact ok50 _ _ _ _ _ h1 h2 h3

noncomputable def r63 (x0 x1:Nat):Bool :=
 cond (!feq .f32 x0 x0) ((!feq .f32 x1 x1)) (cond (!feq .f32 x1 x1) (false) (((((x0:Nat):Int):Int) == ((x1:Nat):Int))))
noncomputable def a63 (x0 x1:Nat) (p:Bool):Res := firstT [(true,.bool p,st0)]
noncomputable def w63 (x0 x1:Nat):Res :=
 (cond (!feq .f32 x0 x0)
 (cond (!feq .f32 x0 x0) (a63 x0 x1 ((!feq .f32 x1 x1))) (some (.bool false,st0)))
 (cond (!feq .f32 x1 x1) (cond (!feq .f32 x0 x0) (some (.bool (!feq .f32 x1 x1),st0)) (a63 x0 x1 (false))) (cond (!isN .f32 x0) (cond (!isN .f32 x1) (a63 x0 x1 (((((x0:Nat):Int):Int) == ((x1:Nat):Int)))) none) (cond (!isN .f32 x1) (cond (decide ((0:Int) ≤ ((x1:Nat):Int)) && (!isN .f32 x1)) (some (.bool false,st0)) none) none))))
theorem e63 (x0 x1:Nat):evFn Try.prog ext T51 noL 200 Try.f63 [vf x0,vf x1] st0 = firstT [(true,.bool (r63 x0 x1),st0)] :=
 (show _ = w63 x0 x1 from by kernel_rfl).trans
 (show w63 x0 x1 = a63 x0 x1 (r63 x0 x1) from by unfold w63 r63; exact (cond_both (a63 x0 x1) _ (fun h0 => (cond_t (ev_not1 (ev_nott h0)) rfl)) (fun h0 => (cond_both (a63 x0 x1) _ (fun h1 => (cond_f (ev_not0 (ev_notf h0)) rfl)) (fun h1 => (cond_t (ev_not1 (ev_eq1 (ev_notf h0))) (cond_t (ev_not1 (ev_eq1 (ev_notf h1))) rfl)))))))
noncomputable def s63 (args:List Value) (s:St):List (Bool×Value×St) :=
 match args,s.h with
 | [.float .f32 x0,.float .f32 x1],[] => [(true,.bool (r63 x0 x1),st0)]
 | _,_ => T51 63 args s
noncomputable def T52:CallF := addF T51 63 s63
theorem ok52:CfOk Try.prog T52 := by
  refine cfOk_add ok51 fun args s r s' h1 h2 h3 => ?_
  unfold s63 at h3; split at h3
  · rename_i h; exact callOk ok51 Try.func63 h1 h2 h (lfOkF_no _ _).body (e63 _ _) rfl h3
  · exact ok51 _ _ _ _ _ h1 h2 h3

noncomputable def b14l0 (ih:Int→LL→LL→Nat) (x0:Int) (x1 x2:LL):Nat :=
 cond (decide ((x0:Int) < ((x1.length:Nat):Int))) (cond ((decide ((0:Int) ≤ x0)) && (Nat.blt (Int.toNat x0) x1.length)) (cond ((decide ((0:Int) ≤ x0)) && (Nat.blt (Int.toNat x0) x2.length)) (cond (!(r63 (Int.toNat ((x1.getD (Int.toNat x0) []).getD 0 0)) (Int.toNat ((x2.getD (Int.toNat x0) []).getD 0 0)))) (0) (ih (IntKind.i64.wrap (x0 + 1)) x1 x2)) (2)) (2)) (1)
noncomputable def r14l0:Nat→Int→LL→LL→Nat
 | 0 => fun _ _ _ => (2)
 | m + 1 => b14l0 (r14l0 m)
noncomputable def a14l0 (x0:Int) (x1 x2:LL) (p:Nat):Option (Fin'×List Value×St) := firstT ([((Nat.beq p 0),.ret,[.bool false],⟨[(tb [.fl .f32] x1),(tb [.fl .f32] x2)],2,[]⟩),((Nat.beq p 1),.exit 0,[Y],⟨[(tb [.fl .f32] x1),(tb [.fl .f32] x2)],2,[]⟩)].map fun (b,x) => (b,(x.1,frameOf 27 [4] x.2.1,x.2.2)))
noncomputable def u14l0 (x0:Int) (x1 x2:LL) (p:Nat):Option (Fin'×List Value×St) := alts ([((Nat.beq p 0),.ret,[.bool false],⟨[(tb [.fl .f32] x1),(tb [.fl .f32] x2)],2,[]⟩),((Nat.beq p 1),.exit 0,[Y],⟨[(tb [.fl .f32] x1),(tb [.fl .f32] x2)],2,[]⟩)].map fun (b,x) => (b,(x.1,frameOf 27 [4] x.2.1,x.2.2))) some
theorem v14l0 (x0:Int) (x1 x2:LL) (p:Nat):u14l0 x0 x1 x2 p = a14l0 x0 x1 x2 p := alts_first _
noncomputable def q14l0 (m:Nat):SumK := fun vals s =>
 match vals,s.h with
 | [.iface f0 .nilIface,.iface f1 .nilIface,.int .i64 x0],[⟨true,some (.tab [.fl .f32] x1)⟩,⟨true,some (.tab [.fl .f32] x2)⟩] => if f0 = 0 ∧ f1 = 1 then [((Nat.beq (r14l0 m x0 x1 x2) 0),.ret,[.bool false],⟨[(tb [.fl .f32] x1),(tb [.fl .f32] x2)],2,[]⟩),((Nat.beq (r14l0 m x0 x1 x2) 1),.exit 0,[Y],⟨[(tb [.fl .f32] x1),(tb [.fl .f32] x2)],2,[]⟩)] else noQ vals s
 | _,_ => noQ vals s
noncomputable def w14l0 (ih:Int→LL→LL→Nat) (x0:Int) (x1 x2:LL):Option (Fin'×List Value×St) :=
 (cond (decide ((x0:Int) < ((x1.length:Nat):Int)))
 (cond ((decide ((0:Int) ≤ x0)) && (Nat.blt (Int.toNat x0) x1.length)) (cond (Nat.blt (Int.toNat x0) x1.length) (cond ((decide ((0:Int) ≤ x0)) && (Nat.blt (Int.toNat x0) x2.length)) (cond (Nat.blt (Int.toNat x0) x2.length) (cond (!(r63 (Int.toNat ((x1.getD (Int.toNat x0) []).getD 0 0)) (Int.toNat ((x2.getD (Int.toNat x0) []).getD 0 0)))) (a14l0 x0 x1 x2 (0)) (u14l0 x0 x1 x2 (ih (IntKind.i64.wrap (x0 + 1)) x1 x2))) none) none) none) none)
 (a14l0 x0 x1 x2 (1)))
theorem e14l0 (m:Nat) (x0:Int) (x1 x2:LL):evC Try.prog ext T52 noL 200 (loopN Try.f14 0) (loopTail ([0,1,5],[]) [4] [] (sumK 27 [0,1,5] [4] (q14l0 m))) (frameOf 27 [0,1,5] [wsl 0,wsl 1,vi x0]) ⟨[(tb [.fl .f32] x1),(tb [.fl .f32] x2)],2,[]⟩ = firstT ([((Nat.beq (r14l0 (m + 1) x0 x1 x2) 0),.ret,[.bool false],⟨[(tb [.fl .f32] x1),(tb [.fl .f32] x2)],2,[]⟩),((Nat.beq (r14l0 (m + 1) x0 x1 x2) 1),.exit 0,[Y],⟨[(tb [.fl .f32] x1),(tb [.fl .f32] x2)],2,[]⟩)].map fun (b,x) => (b,(x.1,frameOf 27 [4] x.2.1,x.2.2))) :=
 (show _ = w14l0 (r14l0 m) x0 x1 x2 from by kernel_rfl).trans
 (show w14l0 (r14l0 m) x0 x1 x2 = a14l0 x0 x1 x2 (r14l0 (m + 1) x0 x1 x2) from by unfold w14l0; show _ = a14l0 x0 x1 x2 (b14l0 (r14l0 m) x0 x1 x2); unfold b14l0; exact (cond_both (a14l0 x0 x1 x2) _ (fun h0 => (cond_both (a14l0 x0 x1 x2) _ (fun h1 => (cond_t (ev_and2 h1) (cond_both (a14l0 x0 x1 x2) _ (fun h2 => (cond_t (ev_and2 h2) (cond_app (a14l0 x0 x1 x2) _ rfl (v14l0 x0 x1 x2 ((r14l0 m) (IntKind.i64.wrap (x0 + 1)) x1 x2))))) (fun h2 => rfl)))) (fun h1 => rfl))) (fun h0 => rfl)))
theorem qm14l0:∀ m,SumKOk Try.prog (loopN Try.f14 0) 27 [0,1,5] [4] (q14l0 m) := by
  intro m
  induction m with
  | zero =>
    intro vals s x h1 h2 h3
    unfold q14l0 at h3; split at h3
    · rename_i h; split at h3
      · rename_i hc; obtain ⟨rfl,rfl⟩ := hc; exact absurd h3 (by simp [r14l0,firstT,Nat.beq])
      · exact noQ_ok _ _ _ h1 h2 h3
    · exact noQ_ok _ _ _ h1 h2 h3
  | succ m ih =>
    intro vals s x h1 h2 h3
    unfold q14l0 at h3; split at h3
    · rename_i h; split at h3
      · rename_i hc; obtain ⟨rfl,rfl⟩ := hc; exact sum_step ok52 extOk mixed ((lfOkF_no _ _).inner (by kernel_rfl)) ih h1 h2 h (e14l0 m _ _ _) rfl h3
      · exact noQ_ok _ _ _ h1 h2 h3
    · exact noQ_ok _ _ _ h1 h2 h3
noncomputable def Q14l0:SumK := fun vals s => q14l0 (fuelOf vals s.h) vals s
theorem qok14l0:SumKOk Try.prog (loopN Try.f14 0) 27 [0,1,5] [4] Q14l0 := fuel_ok qm14l0 fuelOf
noncomputable def L14_1:LoopT := addL noL 5 ([0,1,5],[]) (sumK 27 [0,1,5] [4] Q14l0)
theorem lok14_1:LfOkF Try.prog L14_1 Try.f14 := lfOkF_add (lfOkF_no _ _) qok14l0 (by kernel_rfl) (by kernel_rfl) (by kernel_rfl)

noncomputable def r14 (x0 x1:LL):Nat×Bool :=
 cond ((((x0.length:Nat):Int):Int) != ((x1.length:Nat):Int)) (0,false) (cond (Nat.beq (r14l0 (1000 + x1.length + x0.length) 0 x0 x1) 0) (0,false) (cond (Nat.beq (r14l0 (1000 + x1.length + x0.length) 0 x0 x1) 1) (0,true) (1,false)))
noncomputable def a14 (x0 x1:LL) (p:Nat×Bool):Res := firstT [((Nat.beq (p.1) 0),.bool (p.2),⟨[(tb [.fl .f32] x0),(tb [.fl .f32] x1)],2,[]⟩)]
noncomputable def w14 (x0 x1:LL):Res :=
 (cond ((((x0.length:Nat):Int):Int) != ((x1.length:Nat):Int))
 (a14 x0 x1 (0,false))
 (cond (Nat.beq (r14l0 (1000 + x1.length + x0.length) 0 x0 x1) 0) (a14 x0 x1 (0,false)) (cond (Nat.beq (r14l0 (1000 + x1.length + x0.length) 0 x0 x1) 1) (a14 x0 x1 (0,true)) none)))
theorem e14 (x0 x1:LL):evFn Try.prog ext T52 L14_1 200 Try.f14 [wsl 0,wsl 1] ⟨[(tb [.fl .f32] x0),(tb [.fl .f32] x1)],2,[]⟩ = firstT [((Nat.beq ((r14 x0 x1).1) 0),.bool ((r14 x0 x1).2),⟨[(tb [.fl .f32] x0),(tb [.fl .f32] x1)],2,[]⟩)] :=
 (show _ = w14 x0 x1 from by kernel_rfl).trans
 (show w14 x0 x1 = a14 x0 x1 (r14 x0 x1) from by unfold w14 r14; exact (cond_app (a14 x0 x1) _ rfl (cond_app (a14 x0 x1) _ rfl (cond_app (a14 x0 x1) _ rfl rfl))))
noncomputable def s14 (args:List Value) (s:St):List (Bool×Value×St) :=
 match args,s.h with
 | [.iface f0 .nilIface,.iface f1 .nilIface],[⟨true,some (.tab [.fl .f32] x0)⟩,⟨true,some (.tab [.fl .f32] x1)⟩] => if f0 = 0 ∧ f1 = 1 then [((Nat.beq ((r14 x0 x1).1) 0),.bool ((r14 x0 x1).2),⟨[(tb [.fl .f32] x0),(tb [.fl .f32] x1)],2,[]⟩)] else T52 14 args s
 | _,_ => T52 14 args s
noncomputable def T53:CallF := addF T52 14 s14
theorem ok53:CfOk Try.prog T53 := by
  refine cfOk_add ok52 fun args s r s' h1 h2 h3 => ?_
  unfold s14 at h3; split at h3
  · rename_i h; split at h3
    · rename_i hc; obtain ⟨rfl,rfl⟩ := hc; exact callOk ok52 Try.func14 h1 h2 h lok14_1.body (e14 _ _) rfl h3
    · exact ok52 _ _ _ _ _ h1 h2 h3
  · exact ok52 _ _ _ _ _ h1 h2 h3
end Go.Proofs.Ytmknfenjnladeaa
