/- What the functions that the statements reach answer, part 4. -/
import Derived.Test.YtmknfenjnladeaaSm3
import Derived.Test.YtmknfenjnladeaaA45
namespace Go.Proofs.Ytmknfenjnladeaa
open Go.Ab
set_option maxHeartbeats 4000000
set_option maxRecDepth 100000

noncomputable def st6l1v14s2 (ih:Nat→Int→Nat→Nat→Int→LL→LL→LL→LL→(Nat×Nat×Nat)) (x0:Nat) (x1:Int) (x2 x3:Nat) (x4:Int) (x5 x6 x7 x8:LL) (y0 y1:Nat):Nat×Nat×Nat :=
 (ih x0 x1 y0 y1 (IntKind.i64.wrap (x4 + 1)) x5 x6 x7 x8)
noncomputable def st6l1v14s1 (ih:Nat→Int→Nat→Nat→Int→LL→LL→LL→LL→(Nat×Nat×Nat)) (x0:Nat) (x1:Int) (x2 x3:Nat) (x4:Int) (x5 x6 x7 x8:LL):Nat×Nat×Nat :=
 (cond ((decide ((0:Int) ≤ x4)) && (Nat.blt (Int.toNat x4) x5.length))
 (cond (Nat.blt (Int.toNat x4) x5.length)
 (cond ((((x5.getD (Int.toNat x4) []).getD 4 0):Int) == x1)
 (cond ((decide ((0:Int) ≤ x4)) && (Nat.blt (Int.toNat x4) x5.length))
 (cond (Nat.blt (Int.toNat x4) x5.length)
 (cond (Option.isSome ((FloatKind.format .f32).order x2 (Int.toNat ((x5.getD (Int.toNat x4) []).getD 2 0))))
 (cond ((decide ((0:Int) ≤ x4)) && (Nat.blt (Int.toNat x4) x5.length))
 (cond (Nat.blt (Int.toNat x4) x5.length)
 (cond (Option.isSome ((FloatKind.format .f32).order x3 (Int.toNat ((x5.getD (Int.toNat x4) []).getD 2 0))))
 (st6l1v14s2 ih x0 x1 x2 x3 x4 x5 x6 x7 x8 (fmin .f32 x2 (Int.toNat ((x5.getD (Int.toNat x4) []).getD 2 0))) (fmax .f32 x3 (Int.toNat ((x5.getD (Int.toNat x4) []).getD 2 0))))
 (1,0,0))
 (1,0,0))
 (1,0,0))
 (1,0,0))
 (1,0,0))
 (1,0,0))
 (st6l1v14s2 ih x0 x1 x2 x3 x4 x5 x6 x7 x8 x2 x3))
 (1,0,0))
 (1,0,0))
noncomputable def st6l1v14s0 (ih:Nat→Int→Nat→Nat→Int→LL→LL→LL→LL→(Nat×Nat×Nat)) (x0:Nat) (x1:Int) (x2 x3:Nat) (x4:Int) (x5 x6 x7 x8:LL):Nat×Nat×Nat :=
 (cond (decide ((x4:Int) < ((x5.length:Nat):Int)))
 (st6l1v14s1 ih x0 x1 x2 x3 x4 x5 x6 x7 x8)
 (0,x2,x3))
noncomputable def b6l1 (ih:Nat→Int→Nat→Nat→Int→LL→LL→LL→LL→(Nat×Nat×Nat)) (x0:Nat) (x1:Int) (x2 x3:Nat) (x4:Int) (x5 x6 x7 x8:LL):Nat×Nat×Nat := st6l1v14s0 ih x0 x1 x2 x3 x4 x5 x6 x7 x8
noncomputable def r6l1:Nat→Nat→Int→Nat→Nat→Int→LL→LL→LL→LL→(Nat×Nat×Nat)
 | 0 => fun _ _ _ _ _ _ _ _ _ => (1,0,0)
 | m + 1 => b6l1 (r6l1 m)
noncomputable def a6l1 (x0:Nat) (x1:Int) (x2 x3:Nat) (x4:Int) (x5 x6 x7 x8:LL) (p:Nat×Nat×Nat):Option (Fin'×List Value×St) := firstT ([((Nat.beq (p.1) 0),.exit 2,[wsl 0,wsl 1,vf x0,wsl 2,wsl 3,vi x1,vf (p.2.1),vf (p.2.2)],⟨[(tb sc0 x5),(tb [.fl .f32] x6),(tb [.fl .f32] x7),(tb [.fl .f32] x8)],4,[]⟩)].map fun (b,x) => (b,(x.1,frameOf 344 [5,6,7,8,12,14,15,16] x.2.1,x.2.2)))
noncomputable def u6l1 (x0:Nat) (x1:Int) (x2 x3:Nat) (x4:Int) (x5 x6 x7 x8:LL) (p:Nat×Nat×Nat):Option (Fin'×List Value×St) := alts ([((Nat.beq (p.1) 0),.exit 2,[wsl 0,wsl 1,vf x0,wsl 2,wsl 3,vi x1,vf (p.2.1),vf (p.2.2)],⟨[(tb sc0 x5),(tb [.fl .f32] x6),(tb [.fl .f32] x7),(tb [.fl .f32] x8)],4,[]⟩)].map fun (b,x) => (b,(x.1,frameOf 344 [5,6,7,8,12,14,15,16] x.2.1,x.2.2))) some
theorem v6l1 (x0:Nat) (x1:Int) (x2 x3:Nat) (x4:Int) (x5 x6 x7 x8:LL) (p:Nat×Nat×Nat):u6l1 x0 x1 x2 x3 x4 x5 x6 x7 x8 p = a6l1 x0 x1 x2 x3 x4 x5 x6 x7 x8 p := alts_first _
noncomputable def q6l1 (m:Nat):SumK := fun vals s =>
 match vals,s.h with
 | [.iface f0 .nilIface,.iface f1 .nilIface,.float .f32 x0,.iface f2 .nilIface,.iface f3 .nilIface,.int .i64 x1,.float .f32 x2,.float .f32 x3,.int .i64 x4],[⟨true,some (.tab [.fl .f32,.fl .f32,.fl .f32,.fl .f32,.int .i64] x5)⟩,⟨true,some (.tab [.fl .f32] x6)⟩,⟨true,some (.tab [.fl .f32] x7)⟩,⟨true,some (.tab [.fl .f32] x8)⟩] => if f0 = 0 ∧ f1 = 1 ∧ f2 = 2 ∧ f3 = 3 then [((Nat.beq ((r6l1 m x0 x1 x2 x3 x4 x5 x6 x7 x8).1) 0),.exit 2,[wsl 0,wsl 1,vf x0,wsl 2,wsl 3,vi x1,vf ((r6l1 m x0 x1 x2 x3 x4 x5 x6 x7 x8).2.1),vf ((r6l1 m x0 x1 x2 x3 x4 x5 x6 x7 x8).2.2)],⟨[(tb sc0 x5),(tb [.fl .f32] x6),(tb [.fl .f32] x7),(tb [.fl .f32] x8)],4,[]⟩)] else noQ vals s
 | _,_ => noQ vals s
end Go.Proofs.Ytmknfenjnladeaa

namespace Go.Proofs.Ytmknfenjnladeaa
open Go.Ab
set_option maxHeartbeats 4000000
set_option maxRecDepth 100000

variable {D0 D1 D2 D3 D4 D5 D6 D7 D8 D9 DA DB DC DD DE DF DG DH DI DJ DK DL DM DN DO DP DQ DR DS DT DU DV DW DX DY DZ Da Db Dc Dd De Dj Dk Dl Dn Ds Dt Du Dv Dw Dx Dy Dz G0 G1 G2 G3 G4 G5 G6 G7 G8 G9 GA GB GC GD GE GF GG GH GI GJ GK GL GM GN GO GP GQ GR GS GT GU GV GW GX GY GZ Ga Gb Gc Gd Ge Gf Gg Gh Gi Gj Gk Gl Gm Gn Go Gp Gq Gr Gs Gt Gu Gv Gw Gx Gy Gz H0 H1 H2 H3 H4 H5 H6 H7 H8 H9 HA HB HC HD HE HF HG HH HI HJ HK HL HM HN HO HP HQ HR HS HT HU HV HW HX HY HZ Ha Hb Hc Hd He Hf Hg Hh Hi Hj Hk Hl Hm Hn Ho Hp Hq Hr Hs Ht Hu Hv Hw Hx Hy Hz J0 J1 J2 J3 J4 J5 J6 J7 J8 J9 JA JB JC JD JE JF JG JH JI JJ JK JL JM JN JO JP JQ JR JS JT JU JV JW JX JY JZ Ja Jb Jc Jd Je Jf Jg Jh Ji Jj Jk Jl Jm Jn Jo Jp Jq Jr Js Jt Ju Jv Jw Jx Jy Jz K0 K1 K2 K3 K4 K5 K6 K7 K8 K9 KA KB KC KD KE KF KG KH KI KJ KK KL KM KN KO KP KQ KR KS KT KU KV KW KX KY KZ Ka Kb Kc Kd Ke Kf Kg Kh Ki Kj Kk Kl Km Kn Ko Kp Kq Kr Ks Kt Ku Kv Kw Kx Ky Kz MA MB MC MD ME MF MG MH Ma Mb Mc Md Me Mf Mg Mh Mi Mj Mk Ml Mm Mn Mo Mp Mq Mr Ms Mt Mu Mv Mw Mx My Mz:Value}
theorem i6l1v14s0 (m:Nat) (x0:Nat) (x1:Int) (x2 x3:Nat) (x4:Int) (x5 x6 x7 x8:LL) (k:List Value→St→Option (Fin'×List Value×St)):evC Try.prog ext T53 noL 200 (preC (postC (loopN Try.f6 1) 0) 1) (endK (loopTail ([5,6,7,8,12,14,15,16,17],[]) [5,6,7,8,12,14,15,16] [] (sumK 344 [5,6,7,8,12,14,15,16,17] [5,6,7,8,12,14,15,16] (q6l1 m))) k) [Y,Y,Y,Y,Y,wsl 0,wsl 1,vf x0,wsl 2,Y,Y,Y,wsl 3,Y,vi x1,vf x2,vf x3,vi x4,Y,Y,Y,Y,Y,Y,Y,Y,Y,Y,Y,Y,Y,Y,Y,Y,Y,Y,Y,Y,Y,Y,Y,Y,Y,Y,Y,Y,Y,Y,Y,Y,Y,Y,Y,Y,Y,Y,Y,Y,Y,Y,Y,Y,Y,Y,Y,Y,Y,Y,Y,Y,Y,Y,Y,Y,Y,Y,Y,Y,Y,Y,Y,Y,Y,Y,Y,Y,Y,Y,Y,Y,Y,Y,Y,Y,Y,Y,Y,Y,Y,Y,Y,Y,Y,Y,Y,Y,Y,Y,Y,Y,Y,Y,Y,Y,Y,Y,Y,Y,Y,Y,Y,Y,Y,Y,Y,Y,Y,Y,Y,Y,Y,Y,Y,Y,Y,Y,Y,Y,Y,Y,Y,Y,Y,Y,Y,Y,Y,Y,Y,Y,Y,Y,Y,Y,Y,Y,Y,Y,Y,Y,Y,Y,Y,Y,Y,Y,Y,Y,Y,Y,Y,Y,Y,Y,Y,Y,Y,Y,Y,Y,Y,Y,Y,Y,Y,Y,Y,Y,Y,Y,Y,Y,Y,Y,Y,Y,Y,Y,Y,Y,Y,Y,Y,Y,Y,Y,Y,Y,Y,Y,Y,Y,Y,Y,Y,Y,Y,Y,Y,Y,Y,Y,Y,Y,Y,Y,Y,Y,Y,Y,Y,Y,Y,Y,Y,Y,Y,Y,Y,Y,Y,Y,Y,Y,Y,Y,Y,Y,Y,Y,Y,Y,Y,Y,Y,Y,Y,Y,Y,Y,Y,Y,Y,Y,Y,Y,Y,Y,Y,Y,Y,Y,Y,Y,Y,Y,Y,Y,Y,Y,Y,Y,Y,Y,Y,Y,Y,Y,Y,Y,Y,Y,Y,Y,Y,Y,Y,Y,Y,Y,Y,Y,Y,Y,Y,Y,Y,Y,Y,Y,Y,Y,Y,Y,Y,Y,Y,Y,Y,Y,Y,Y,Y,Y,Y,Y,Y,Y,Y,Y,Y,Y,Y,Y,Y,Y,Y,Y,Y,Y,Y,Y,Y,Y] ⟨[(tb sc0 x5),(tb [.fl .f32] x6),(tb [.fl .f32] x7),(tb [.fl .f32] x8)],4,[]⟩ =
 (cond (decide ((x4:Int) < ((x5.length:Nat):Int)))
 (k [Y,Y,Y,Y,Y,wsl 0,wsl 1,vf x0,wsl 2,Y,Y,Y,wsl 3,Y,vi x1,vf x2,vf x3,vi x4,Y,Y,Y,Y,Y,Y,Y,Y,Y,Y,Y,Y,Y,Y,Y,Y,Y,Y,Y,Y,Y,Y,Y,Y,Y,Y,Y,Y,Y,Y,Y,Y,Y,Y,Y,Y,Y,Y,Y,Y,Y,Y,Y,Y,Y,Y,Y,Y,Y,Y,Y,Y,Y,Y,Y,Y,Y,Y,Y,Y,Y,Y,Y,Y,Y,Y,Y,Y,Y,Y,Y,Y,Y,Y,Y,Y,Y,Y,Y,Y,Y,Y,Y,Y,Y,Y,Y,Y,Y,Y,Y,Y,Y,Y,Y,Y,Y,Y,Y,Y,Y,Y,Y,Y,Y,Y,Y,Y,Y,Y,vi x4,wsl 0,vi ((x5.length:Nat):Int),.bool (decide ((x4:Int) < ((x5.length:Nat):Int))),Y,Y,Y,Y,Y,Y,Y,Y,Y,Y,Y,Y,Y,Y,Y,Y,Y,Y,Y,Y,Y,Y,Y,Y,Y,Y,Y,Y,Y,Y,Y,Y,Y,Y,Y,Y,Y,Y,Y,Y,Y,Y,Y,Y,Y,Y,Y,Y,Y,Y,Y,Y,Y,Y,Y,Y,Y,Y,Y,Y,Y,Y,Y,Y,Y,Y,Y,Y,Y,Y,Y,Y,Y,Y,Y,Y,Y,Y,Y,Y,Y,Y,Y,Y,Y,Y,Y,Y,Y,Y,Y,Y,Y,Y,Y,Y,Y,Y,Y,Y,Y,Y,Y,Y,Y,Y,Y,Y,Y,Y,Y,Y,Y,Y,Y,Y,Y,Y,Y,Y,Y,Y,Y,Y,Y,Y,Y,Y,Y,Y,Y,Y,Y,Y,Y,Y,Y,Y,Y,Y,Y,Y,Y,Y,Y,Y,Y,Y,Y,Y,Y,Y,Y,Y,Y,Y,Y,Y,Y,Y,Y,Y,Y,Y,Y,Y,Y,Y,Y,Y,Y,Y,Y,Y,Y,Y,Y,Y,Y,Y,Y,Y,Y,Y,Y,Y,Y,Y,Y,Y,Y,Y,Y,Y,Y,Y,Y,Y,Y,Y,Y,Y,Y,Y,Y,Y,Y,Y,Y,Y,Y,Y] ⟨[(tb sc0 x5),(tb [.fl .f32] x6),(tb [.fl .f32] x7),(tb [.fl .f32] x8)],4,[]⟩)
 ((a6l1 x0 x1 x2 x3 x4 x5 x6 x7 x8) (0,x2,x3))) := by kernel_rfl

theorem i6l1v14s1 (m:Nat) (x0:Nat) (x1:Int) (x2 x3:Nat) (x4:Int) (x5 x6 x7 x8:LL) (k:List Value→St→Option (Fin'×List Value×St)):evC Try.prog ext T53 noL 200 (preC (postC (loopN Try.f6 1) 1) 1) (endK (loopTail ([5,6,7,8,12,14,15,16,17],[]) [5,6,7,8,12,14,15,16] [] (sumK 344 [5,6,7,8,12,14,15,16,17] [5,6,7,8,12,14,15,16] (q6l1 m))) k) [Da,Db,Dc,Dd,De,wsl 0,wsl 1,vf x0,wsl 2,Dj,Dk,Dl,wsl 3,Dn,vi x1,vf x2,vf x3,vi x4,Ds,Dt,Du,Dv,Dw,Dx,Dy,Dz,DA,DB,DC,DD,DE,DF,DG,DH,DI,DJ,DK,DL,DM,DN,DO,DP,DQ,DR,DS,DT,DU,DV,DW,DX,DY,DZ,D0,D1,D2,D3,D4,D5,D6,D7,D8,D9,Ga,Gb,Gc,Gd,Ge,Gf,Gg,Gh,Gi,Gj,Gk,Gl,Gm,Gn,Go,Gp,Gq,Gr,Gs,Gt,Gu,Gv,Gw,Gx,Gy,Gz,GA,GB,GC,GD,GE,GF,GG,GH,GI,GJ,GK,GL,GM,GN,GO,GP,GQ,GR,GS,GT,GU,GV,GW,GX,GY,GZ,G0,G1,G2,G3,G4,G5,G6,G7,G8,G9,Ha,Hb,Hc,Hd,He,Hf,Hg,Hh,Hi,Hj,Hk,Hl,Hm,Hn,Ho,Hp,Hq,Hr,Hs,Ht,Hu,Hv,Hw,Hx,Hy,Hz,HA,HB,HC,HD,HE,HF,HG,HH,HI,HJ,HK,HL,HM,HN,HO,HP,HQ,HR,HS,HT,HU,HV,HW,HX,HY,HZ,H0,H1,H2,H3,H4,H5,H6,H7,H8,H9,Ja,Jb,Jc,Jd,Je,Jf,Jg,Jh,Ji,Jj,Jk,Jl,Jm,Jn,Jo,Jp,Jq,Jr,Js,Jt,Ju,Jv,Jw,Jx,Jy,Jz,JA,JB,JC,JD,JE,JF,JG,JH,JI,JJ,JK,JL,JM,JN,JO,JP,JQ,JR,JS,JT,JU,JV,JW,JX,JY,JZ,J0,J1,J2,J3,J4,J5,J6,J7,J8,J9,Ka,Kb,Kc,Kd,Ke,Kf,Kg,Kh,Ki,Kj,Kk,Kl,Km,Kn,Ko,Kp,Kq,Kr,Ks,Kt,Ku,Kv,Kw,Kx,Ky,Kz,KA,KB,KC,KD,KE,KF,KG,KH,KI,KJ,KK,KL,KM,KN,KO,KP,KQ,KR,KS,KT,KU,KV,KW,KX,KY,KZ,K0,K1,K2,K3,K4,K5,K6,K7,K8,K9,Ma,Mb,Mc,Md,Me,Mf,Mg,Mh,Mi,Mj,Mk,Ml,Mm,Mn,Mo,Mp,Mq,Mr,Ms,Mt,Mu,Mv,Mw,Mx,My,Mz,MA,MB,MC,MD,ME,MF,MG,MH] ⟨[(tb sc0 x5),(tb [.fl .f32] x6),(tb [.fl .f32] x7),(tb [.fl .f32] x8)],4,[]⟩ =
 (cond ((decide ((0:Int) ≤ x4)) && (Nat.blt (Int.toNat x4) x5.length))
 (cond (Nat.blt (Int.toNat x4) x5.length)
 (cond ((((x5.getD (Int.toNat x4) []).getD 4 0):Int) == x1)
 (cond ((decide ((0:Int) ≤ x4)) && (Nat.blt (Int.toNat x4) x5.length))
 (cond (Nat.blt (Int.toNat x4) x5.length)
 (cond (Option.isSome ((FloatKind.format .f32).order x2 (Int.toNat ((x5.getD (Int.toNat x4) []).getD 2 0))))
 (cond ((decide ((0:Int) ≤ x4)) && (Nat.blt (Int.toNat x4) x5.length))
 (cond (Nat.blt (Int.toNat x4) x5.length)
 (cond (Option.isSome ((FloatKind.format .f32).order x3 (Int.toNat ((x5.getD (Int.toNat x4) []).getD 2 0))))
 (k [Da,Db,Dc,Dd,De,wsl 0,wsl 1,vf x0,wsl 2,Dj,Dk,Dl,wsl 3,Dn,vi x1,vf (fmin .f32 x2 (Int.toNat ((x5.getD (Int.toNat x4) []).getD 2 0))),vf (fmax .f32 x3 (Int.toNat ((x5.getD (Int.toNat x4) []).getD 2 0))),vi x4,Ds,Dt,Du,Dv,Dw,Dx,Dy,Dz,DA,DB,DC,DD,DE,DF,DG,DH,DI,DJ,DK,DL,DM,DN,DO,DP,DQ,DR,DS,DT,DU,DV,DW,DX,DY,DZ,D0,D1,D2,D3,D4,D5,D6,D7,D8,D9,Ga,Gb,Gc,Gd,Ge,Gf,Gg,Gh,Gi,Gj,Gk,Gl,Gm,Gn,Go,Gp,Gq,Gr,Gs,Gt,Gu,Gv,Gw,Gx,Gy,Gz,GA,GB,GC,GD,GE,GF,GG,GH,GI,GJ,GK,GL,GM,GN,GO,GP,GQ,GR,GS,GT,GU,GV,GW,GX,GY,GZ,G0,G1,G2,G3,G4,G5,G6,G7,G8,G9,Ha,Hb,Hc,Hd,He,Hf,Hg,Hh,Hi,Hj,wsl 0,vi x4,.pointer (some ⟨0,(Int.toNat x4),some 0⟩),.pointer (some ⟨0,(Int.toNat x4),some 4⟩),vi ((x5.getD (Int.toNat x4) []).getD 4 0),vi x1,.bool ((((x5.getD (Int.toNat x4) []).getD 4 0):Int) == x1),vf x2,wsl 0,vi x4,.pointer (some ⟨0,(Int.toNat x4),some 0⟩),.pointer (some ⟨0,(Int.toNat x4),some 2⟩),vf (Int.toNat ((x5.getD (Int.toNat x4) []).getD 2 0)),vf (fmin .f32 x2 (Int.toNat ((x5.getD (Int.toNat x4) []).getD 2 0))),vf x3,wsl 0,vi x4,.pointer (some ⟨0,(Int.toNat x4),some 0⟩),.pointer (some ⟨0,(Int.toNat x4),some 2⟩),vf (Int.toNat ((x5.getD (Int.toNat x4) []).getD 2 0)),vf (fmax .f32 x3 (Int.toNat ((x5.getD (Int.toNat x4) []).getD 2 0))),HF,HG,HH,HI,HJ,HK,HL,HM,HN,HO,HP,HQ,HR,HS,HT,HU,HV,HW,HX,HY,HZ,H0,H1,H2,H3,H4,H5,H6,H7,H8,H9,Ja,Jb,Jc,Jd,Je,Jf,Jg,Jh,Ji,Jj,Jk,Jl,Jm,Jn,Jo,Jp,Jq,Jr,Js,Jt,Ju,Jv,Jw,Jx,Jy,Jz,JA,JB,JC,JD,JE,JF,JG,JH,JI,JJ,JK,JL,JM,JN,JO,JP,JQ,JR,JS,JT,JU,JV,JW,JX,JY,JZ,J0,J1,J2,J3,J4,J5,J6,J7,J8,J9,Ka,Kb,Kc,Kd,Ke,Kf,Kg,Kh,Ki,Kj,Kk,Kl,Km,Kn,Ko,Kp,Kq,Kr,Ks,Kt,Ku,Kv,Kw,Kx,Ky,Kz,KA,KB,KC,KD,KE,KF,KG,KH,KI,KJ,KK,KL,KM,KN,KO,KP,KQ,KR,KS,KT,KU,KV,KW,KX,KY,KZ,K0,K1,K2,K3,K4,K5,K6,K7,K8,K9,Ma,Mb,Mc,Md,Me,Mf,Mg,Mh,Mi,Mj,Mk,Ml,Mm,Mn,Mo,Mp,Mq,Mr,Ms,Mt,Mu,Mv,Mw,Mx,My,Mz,MA,MB,MC,MD,ME,MF,MG,MH] ⟨[(tb sc0 x5),(tb [.fl .f32] x6),(tb [.fl .f32] x7),(tb [.fl .f32] x8)],4,[]⟩)
 none)
 none)
 none)
 none)
 none)
 none)
 (k [Da,Db,Dc,Dd,De,wsl 0,wsl 1,vf x0,wsl 2,Dj,Dk,Dl,wsl 3,Dn,vi x1,vf x2,vf x3,vi x4,Ds,Dt,Du,Dv,Dw,Dx,Dy,Dz,DA,DB,DC,DD,DE,DF,DG,DH,DI,DJ,DK,DL,DM,DN,DO,DP,DQ,DR,DS,DT,DU,DV,DW,DX,DY,DZ,D0,D1,D2,D3,D4,D5,D6,D7,D8,D9,Ga,Gb,Gc,Gd,Ge,Gf,Gg,Gh,Gi,Gj,Gk,Gl,Gm,Gn,Go,Gp,Gq,Gr,Gs,Gt,Gu,Gv,Gw,Gx,Gy,Gz,GA,GB,GC,GD,GE,GF,GG,GH,GI,GJ,GK,GL,GM,GN,GO,GP,GQ,GR,GS,GT,GU,GV,GW,GX,GY,GZ,G0,G1,G2,G3,G4,G5,G6,G7,G8,G9,Ha,Hb,Hc,Hd,He,Hf,Hg,Hh,Hi,Hj,wsl 0,vi x4,.pointer (some ⟨0,(Int.toNat x4),some 0⟩),.pointer (some ⟨0,(Int.toNat x4),some 4⟩),vi ((x5.getD (Int.toNat x4) []).getD 4 0),vi x1,.bool ((((x5.getD (Int.toNat x4) []).getD 4 0):Int) == x1),Hr,Hs,Ht,Hu,Hv,Hw,Hx,Hy,Hz,HA,HB,HC,HD,HE,HF,HG,HH,HI,HJ,HK,HL,HM,HN,HO,HP,HQ,HR,HS,HT,HU,HV,HW,HX,HY,HZ,H0,H1,H2,H3,H4,H5,H6,H7,H8,H9,Ja,Jb,Jc,Jd,Je,Jf,Jg,Jh,Ji,Jj,Jk,Jl,Jm,Jn,Jo,Jp,Jq,Jr,Js,Jt,Ju,Jv,Jw,Jx,Jy,Jz,JA,JB,JC,JD,JE,JF,JG,JH,JI,JJ,JK,JL,JM,JN,JO,JP,JQ,JR,JS,JT,JU,JV,JW,JX,JY,JZ,J0,J1,J2,J3,J4,J5,J6,J7,J8,J9,Ka,Kb,Kc,Kd,Ke,Kf,Kg,Kh,Ki,Kj,Kk,Kl,Km,Kn,Ko,Kp,Kq,Kr,Ks,Kt,Ku,Kv,Kw,Kx,Ky,Kz,KA,KB,KC,KD,KE,KF,KG,KH,KI,KJ,KK,KL,KM,KN,KO,KP,KQ,KR,KS,KT,KU,KV,KW,KX,KY,KZ,K0,K1,K2,K3,K4,K5,K6,K7,K8,K9,Ma,Mb,Mc,Md,Me,Mf,Mg,Mh,Mi,Mj,Mk,Ml,Mm,Mn,Mo,Mp,Mq,Mr,Ms,Mt,Mu,Mv,Mw,Mx,My,Mz,MA,MB,MC,MD,ME,MF,MG,MH] ⟨[(tb sc0 x5),(tb [.fl .f32] x6),(tb [.fl .f32] x7),(tb [.fl .f32] x8)],4,[]⟩))
 none)
 none) := by kernel_rfl

theorem i6l1v14s2 (m:Nat) (x0:Nat) (x1:Int) (x2 x3:Nat) (x4:Int) (x5 x6 x7 x8:LL) (y0 y1:Nat):evC Try.prog ext T53 noL 200 (postC (loopN Try.f6 1) 2) (loopTail ([5,6,7,8,12,14,15,16,17],[]) [5,6,7,8,12,14,15,16] [] (sumK 344 [5,6,7,8,12,14,15,16,17] [5,6,7,8,12,14,15,16] (q6l1 m))) [Da,Db,Dc,Dd,De,wsl 0,wsl 1,vf x0,wsl 2,Dj,Dk,Dl,wsl 3,Dn,vi x1,vf y0,vf y1,vi x4,Ds,Dt,Du,Dv,Dw,Dx,Dy,Dz,DA,DB,DC,DD,DE,DF,DG,DH,DI,DJ,DK,DL,DM,DN,DO,DP,DQ,DR,DS,DT,DU,DV,DW,DX,DY,DZ,D0,D1,D2,D3,D4,D5,D6,D7,D8,D9,Ga,Gb,Gc,Gd,Ge,Gf,Gg,Gh,Gi,Gj,Gk,Gl,Gm,Gn,Go,Gp,Gq,Gr,Gs,Gt,Gu,Gv,Gw,Gx,Gy,Gz,GA,GB,GC,GD,GE,GF,GG,GH,GI,GJ,GK,GL,GM,GN,GO,GP,GQ,GR,GS,GT,GU,GV,GW,GX,GY,GZ,G0,G1,G2,G3,G4,G5,G6,G7,G8,G9,Ha,Hb,Hc,Hd,He,Hf,Hg,Hh,Hi,Hj,Hk,Hl,Hm,Hn,Ho,Hp,Hq,Hr,Hs,Ht,Hu,Hv,Hw,Hx,Hy,Hz,HA,HB,HC,HD,HE,HF,HG,HH,HI,HJ,HK,HL,HM,HN,HO,HP,HQ,HR,HS,HT,HU,HV,HW,HX,HY,HZ,H0,H1,H2,H3,H4,H5,H6,H7,H8,H9,Ja,Jb,Jc,Jd,Je,Jf,Jg,Jh,Ji,Jj,Jk,Jl,Jm,Jn,Jo,Jp,Jq,Jr,Js,Jt,Ju,Jv,Jw,Jx,Jy,Jz,JA,JB,JC,JD,JE,JF,JG,JH,JI,JJ,JK,JL,JM,JN,JO,JP,JQ,JR,JS,JT,JU,JV,JW,JX,JY,JZ,J0,J1,J2,J3,J4,J5,J6,J7,J8,J9,Ka,Kb,Kc,Kd,Ke,Kf,Kg,Kh,Ki,Kj,Kk,Kl,Km,Kn,Ko,Kp,Kq,Kr,Ks,Kt,Ku,Kv,Kw,Kx,Ky,Kz,KA,KB,KC,KD,KE,KF,KG,KH,KI,KJ,KK,KL,KM,KN,KO,KP,KQ,KR,KS,KT,KU,KV,KW,KX,KY,KZ,K0,K1,K2,K3,K4,K5,K6,K7,K8,K9,Ma,Mb,Mc,Md,Me,Mf,Mg,Mh,Mi,Mj,Mk,Ml,Mm,Mn,Mo,Mp,Mq,Mr,Ms,Mt,Mu,Mv,Mw,Mx,My,Mz,MA,MB,MC,MD,ME,MF,MG,MH] ⟨[(tb sc0 x5),(tb [.fl .f32] x6),(tb [.fl .f32] x7),(tb [.fl .f32] x8)],4,[]⟩ =
 (u6l1 x0 x1 x2 x3 x4 x5 x6 x7 x8 ((r6l1 m) x0 x1 y0 y1 (IntKind.i64.wrap (x4 + 1)) x5 x6 x7 x8)) := by kernel_rfl
end Go.Proofs.Ytmknfenjnladeaa

namespace Go.Proofs.Ytmknfenjnladeaa
open Go.Ab
set_option maxHeartbeats 4000000
set_option maxRecDepth 100000

variable {D0 D1 D2 D3 D4 D5 D6 D7 D8 D9 DA DB DC DD DE DF DG DH DI DJ DK DL DM DN DO DP DQ DR DS DT DU DV DW DX DY DZ Da Db Dc Dd De Dj Dk Dl Dn Ds Dt Du Dv Dw Dx Dy Dz G0 G1 G2 G3 G4 G5 G6 G7 G8 G9 GA GB GC GD GE GF GG GH GI GJ GK GL GM GN GO GP GQ GR GS GT GU GV GW GX GY GZ Ga Gb Gc Gd Ge Gf Gg Gh Gi Gj Gk Gl Gm Gn Go Gp Gq Gr Gs Gt Gu Gv Gw Gx Gy Gz H0 H1 H2 H3 H4 H5 H6 H7 H8 H9 HA HB HC HD HE HF HG HH HI HJ HK HL HM HN HO HP HQ HR HS HT HU HV HW HX HY HZ Ha Hb Hc Hd He Hf Hg Hh Hi Hj Hk Hl Hm Hn Ho Hp Hq Hr Hs Ht Hu Hv Hw Hx Hy Hz J0 J1 J2 J3 J4 J5 J6 J7 J8 J9 JA JB JC JD JE JF JG JH JI JJ JK JL JM JN JO JP JQ JR JS JT JU JV JW JX JY JZ Ja Jb Jc Jd Je Jf Jg Jh Ji Jj Jk Jl Jm Jn Jo Jp Jq Jr Js Jt Ju Jv Jw Jx Jy Jz K0 K1 K2 K3 K4 K5 K6 K7 K8 K9 KA KB KC KD KE KF KG KH KI KJ KK KL KM KN KO KP KQ KR KS KT KU KV KW KX KY KZ Ka Kb Kc Kd Ke Kf Kg Kh Ki Kj Kk Kl Km Kn Ko Kp Kq Kr Ks Kt Ku Kv Kw Kx Ky Kz MA MB MC MD ME MF MG MH Ma Mb Mc Md Me Mf Mg Mh Mi Mj Mk Ml Mm Mn Mo Mp Mq Mr Ms Mt Mu Mv Mw Mx My Mz:Value}

theorem j6l1v14s2 (m:Nat) (x0:Nat) (x1:Int) (x2 x3:Nat) (x4:Int) (x5 x6 x7 x8:LL) (y0 y1:Nat):evC Try.prog ext T53 noL 200 (postC (loopN Try.f6 1) 2) (loopTail ([5,6,7,8,12,14,15,16,17],[]) [5,6,7,8,12,14,15,16] [] (sumK 344 [5,6,7,8,12,14,15,16,17] [5,6,7,8,12,14,15,16] (q6l1 m))) [Da,Db,Dc,Dd,De,wsl 0,wsl 1,vf x0,wsl 2,Dj,Dk,Dl,wsl 3,Dn,vi x1,vf y0,vf y1,vi x4,Ds,Dt,Du,Dv,Dw,Dx,Dy,Dz,DA,DB,DC,DD,DE,DF,DG,DH,DI,DJ,DK,DL,DM,DN,DO,DP,DQ,DR,DS,DT,DU,DV,DW,DX,DY,DZ,D0,D1,D2,D3,D4,D5,D6,D7,D8,D9,Ga,Gb,Gc,Gd,Ge,Gf,Gg,Gh,Gi,Gj,Gk,Gl,Gm,Gn,Go,Gp,Gq,Gr,Gs,Gt,Gu,Gv,Gw,Gx,Gy,Gz,GA,GB,GC,GD,GE,GF,GG,GH,GI,GJ,GK,GL,GM,GN,GO,GP,GQ,GR,GS,GT,GU,GV,GW,GX,GY,GZ,G0,G1,G2,G3,G4,G5,G6,G7,G8,G9,Ha,Hb,Hc,Hd,He,Hf,Hg,Hh,Hi,Hj,Hk,Hl,Hm,Hn,Ho,Hp,Hq,Hr,Hs,Ht,Hu,Hv,Hw,Hx,Hy,Hz,HA,HB,HC,HD,HE,HF,HG,HH,HI,HJ,HK,HL,HM,HN,HO,HP,HQ,HR,HS,HT,HU,HV,HW,HX,HY,HZ,H0,H1,H2,H3,H4,H5,H6,H7,H8,H9,Ja,Jb,Jc,Jd,Je,Jf,Jg,Jh,Ji,Jj,Jk,Jl,Jm,Jn,Jo,Jp,Jq,Jr,Js,Jt,Ju,Jv,Jw,Jx,Jy,Jz,JA,JB,JC,JD,JE,JF,JG,JH,JI,JJ,JK,JL,JM,JN,JO,JP,JQ,JR,JS,JT,JU,JV,JW,JX,JY,JZ,J0,J1,J2,J3,J4,J5,J6,J7,J8,J9,Ka,Kb,Kc,Kd,Ke,Kf,Kg,Kh,Ki,Kj,Kk,Kl,Km,Kn,Ko,Kp,Kq,Kr,Ks,Kt,Ku,Kv,Kw,Kx,Ky,Kz,KA,KB,KC,KD,KE,KF,KG,KH,KI,KJ,KK,KL,KM,KN,KO,KP,KQ,KR,KS,KT,KU,KV,KW,KX,KY,KZ,K0,K1,K2,K3,K4,K5,K6,K7,K8,K9,Ma,Mb,Mc,Md,Me,Mf,Mg,Mh,Mi,Mj,Mk,Ml,Mm,Mn,Mo,Mp,Mq,Mr,Ms,Mt,Mu,Mv,Mw,Mx,My,Mz,MA,MB,MC,MD,ME,MF,MG,MH] ⟨[(tb sc0 x5),(tb [.fl .f32] x6),(tb [.fl .f32] x7),(tb [.fl .f32] x8)],4,[]⟩ = (a6l1 x0 x1 x2 x3 x4 x5 x6 x7 x8) (st6l1v14s2 (r6l1 m) x0 x1 x2 x3 x4 x5 x6 x7 x8 y0 y1) :=
 ((i6l1v14s2 m x0 x1 x2 x3 x4 x5 x6 x7 x8 y0 y1).trans (by unfold st6l1v14s2; exact (v6l1 x0 x1 x2 x3 x4 x5 x6 x7 x8 ((r6l1 m) x0 x1 y0 y1 (IntKind.i64.wrap (x4 + 1)) x5 x6 x7 x8))))
theorem j6l1v14s1 (m:Nat) (x0:Nat) (x1:Int) (x2 x3:Nat) (x4:Int) (x5 x6 x7 x8:LL):evC Try.prog ext T53 noL 200 (postC (loopN Try.f6 1) 1) (loopTail ([5,6,7,8,12,14,15,16,17],[]) [5,6,7,8,12,14,15,16] [] (sumK 344 [5,6,7,8,12,14,15,16,17] [5,6,7,8,12,14,15,16] (q6l1 m))) [Da,Db,Dc,Dd,De,wsl 0,wsl 1,vf x0,wsl 2,Dj,Dk,Dl,wsl 3,Dn,vi x1,vf x2,vf x3,vi x4,Ds,Dt,Du,Dv,Dw,Dx,Dy,Dz,DA,DB,DC,DD,DE,DF,DG,DH,DI,DJ,DK,DL,DM,DN,DO,DP,DQ,DR,DS,DT,DU,DV,DW,DX,DY,DZ,D0,D1,D2,D3,D4,D5,D6,D7,D8,D9,Ga,Gb,Gc,Gd,Ge,Gf,Gg,Gh,Gi,Gj,Gk,Gl,Gm,Gn,Go,Gp,Gq,Gr,Gs,Gt,Gu,Gv,Gw,Gx,Gy,Gz,GA,GB,GC,GD,GE,GF,GG,GH,GI,GJ,GK,GL,GM,GN,GO,GP,GQ,GR,GS,GT,GU,GV,GW,GX,GY,GZ,G0,G1,G2,G3,G4,G5,G6,G7,G8,G9,Ha,Hb,Hc,Hd,He,Hf,Hg,Hh,Hi,Hj,Hk,Hl,Hm,Hn,Ho,Hp,Hq,Hr,Hs,Ht,Hu,Hv,Hw,Hx,Hy,Hz,HA,HB,HC,HD,HE,HF,HG,HH,HI,HJ,HK,HL,HM,HN,HO,HP,HQ,HR,HS,HT,HU,HV,HW,HX,HY,HZ,H0,H1,H2,H3,H4,H5,H6,H7,H8,H9,Ja,Jb,Jc,Jd,Je,Jf,Jg,Jh,Ji,Jj,Jk,Jl,Jm,Jn,Jo,Jp,Jq,Jr,Js,Jt,Ju,Jv,Jw,Jx,Jy,Jz,JA,JB,JC,JD,JE,JF,JG,JH,JI,JJ,JK,JL,JM,JN,JO,JP,JQ,JR,JS,JT,JU,JV,JW,JX,JY,JZ,J0,J1,J2,J3,J4,J5,J6,J7,J8,J9,Ka,Kb,Kc,Kd,Ke,Kf,Kg,Kh,Ki,Kj,Kk,Kl,Km,Kn,Ko,Kp,Kq,Kr,Ks,Kt,Ku,Kv,Kw,Kx,Ky,Kz,KA,KB,KC,KD,KE,KF,KG,KH,KI,KJ,KK,KL,KM,KN,KO,KP,KQ,KR,KS,KT,KU,KV,KW,KX,KY,KZ,K0,K1,K2,K3,K4,K5,K6,K7,K8,K9,Ma,Mb,Mc,Md,Me,Mf,Mg,Mh,Mi,Mj,Mk,Ml,Mm,Mn,Mo,Mp,Mq,Mr,Ms,Mt,Mu,Mv,Mw,Mx,My,Mz,MA,MB,MC,MD,ME,MF,MG,MH] ⟨[(tb sc0 x5),(tb [.fl .f32] x6),(tb [.fl .f32] x7),(tb [.fl .f32] x8)],4,[]⟩ = (a6l1 x0 x1 x2 x3 x4 x5 x6 x7 x8) (st6l1v14s1 (r6l1 m) x0 x1 x2 x3 x4 x5 x6 x7 x8) :=
 ((split_k _ _ _ _ _ 1 _ _ _ _).trans ((i6l1v14s1 m x0 x1 x2 x3 x4 x5 x6 x7 x8 (evC Try.prog ext T53 noL 200 (postC (postC (loopN Try.f6 1) 1) 1) (loopTail ([5,6,7,8,12,14,15,16,17],[]) [5,6,7,8,12,14,15,16] [] (sumK 344 [5,6,7,8,12,14,15,16,17] [5,6,7,8,12,14,15,16] (q6l1 m))))).trans (by unfold st6l1v14s1; exact (cond_app (a6l1 x0 x1 x2 x3 x4 x5 x6 x7 x8) _ (cond_app (a6l1 x0 x1 x2 x3 x4 x5 x6 x7 x8) _ (cond_app (a6l1 x0 x1 x2 x3 x4 x5 x6 x7 x8) _ (cond_app (a6l1 x0 x1 x2 x3 x4 x5 x6 x7 x8) _ (cond_app (a6l1 x0 x1 x2 x3 x4 x5 x6 x7 x8) _ (cond_app (a6l1 x0 x1 x2 x3 x4 x5 x6 x7 x8) _ (cond_app (a6l1 x0 x1 x2 x3 x4 x5 x6 x7 x8) _ (cond_app (a6l1 x0 x1 x2 x3 x4 x5 x6 x7 x8) _ (cond_app (a6l1 x0 x1 x2 x3 x4 x5 x6 x7 x8) _ (j6l1v14s2 m x0 x1 x2 x3 x4 x5 x6 x7 x8 _ _) rfl) rfl) rfl) rfl) rfl) rfl) (j6l1v14s2 m x0 x1 x2 x3 x4 x5 x6 x7 x8 _ _)) rfl) rfl))))
theorem j6l1v14s0 (m:Nat) (x0:Nat) (x1:Int) (x2 x3:Nat) (x4:Int) (x5 x6 x7 x8:LL):evC Try.prog ext T53 noL 200 (postC (loopN Try.f6 1) 0) (loopTail ([5,6,7,8,12,14,15,16,17],[]) [5,6,7,8,12,14,15,16] [] (sumK 344 [5,6,7,8,12,14,15,16,17] [5,6,7,8,12,14,15,16] (q6l1 m))) [Y,Y,Y,Y,Y,wsl 0,wsl 1,vf x0,wsl 2,Y,Y,Y,wsl 3,Y,vi x1,vf x2,vf x3,vi x4,Y,Y,Y,Y,Y,Y,Y,Y,Y,Y,Y,Y,Y,Y,Y,Y,Y,Y,Y,Y,Y,Y,Y,Y,Y,Y,Y,Y,Y,Y,Y,Y,Y,Y,Y,Y,Y,Y,Y,Y,Y,Y,Y,Y,Y,Y,Y,Y,Y,Y,Y,Y,Y,Y,Y,Y,Y,Y,Y,Y,Y,Y,Y,Y,Y,Y,Y,Y,Y,Y,Y,Y,Y,Y,Y,Y,Y,Y,Y,Y,Y,Y,Y,Y,Y,Y,Y,Y,Y,Y,Y,Y,Y,Y,Y,Y,Y,Y,Y,Y,Y,Y,Y,Y,Y,Y,Y,Y,Y,Y,Y,Y,Y,Y,Y,Y,Y,Y,Y,Y,Y,Y,Y,Y,Y,Y,Y,Y,Y,Y,Y,Y,Y,Y,Y,Y,Y,Y,Y,Y,Y,Y,Y,Y,Y,Y,Y,Y,Y,Y,Y,Y,Y,Y,Y,Y,Y,Y,Y,Y,Y,Y,Y,Y,Y,Y,Y,Y,Y,Y,Y,Y,Y,Y,Y,Y,Y,Y,Y,Y,Y,Y,Y,Y,Y,Y,Y,Y,Y,Y,Y,Y,Y,Y,Y,Y,Y,Y,Y,Y,Y,Y,Y,Y,Y,Y,Y,Y,Y,Y,Y,Y,Y,Y,Y,Y,Y,Y,Y,Y,Y,Y,Y,Y,Y,Y,Y,Y,Y,Y,Y,Y,Y,Y,Y,Y,Y,Y,Y,Y,Y,Y,Y,Y,Y,Y,Y,Y,Y,Y,Y,Y,Y,Y,Y,Y,Y,Y,Y,Y,Y,Y,Y,Y,Y,Y,Y,Y,Y,Y,Y,Y,Y,Y,Y,Y,Y,Y,Y,Y,Y,Y,Y,Y,Y,Y,Y,Y,Y,Y,Y,Y,Y,Y,Y,Y,Y,Y,Y,Y,Y,Y,Y,Y,Y,Y,Y,Y,Y,Y,Y,Y,Y,Y,Y,Y,Y,Y,Y,Y,Y,Y,Y,Y,Y,Y] ⟨[(tb sc0 x5),(tb [.fl .f32] x6),(tb [.fl .f32] x7),(tb [.fl .f32] x8)],4,[]⟩ = (a6l1 x0 x1 x2 x3 x4 x5 x6 x7 x8) (st6l1v14s0 (r6l1 m) x0 x1 x2 x3 x4 x5 x6 x7 x8) :=
 ((split_k _ _ _ _ _ 1 _ _ _ _).trans ((i6l1v14s0 m x0 x1 x2 x3 x4 x5 x6 x7 x8 (evC Try.prog ext T53 noL 200 (postC (postC (loopN Try.f6 1) 0) 1) (loopTail ([5,6,7,8,12,14,15,16,17],[]) [5,6,7,8,12,14,15,16] [] (sumK 344 [5,6,7,8,12,14,15,16,17] [5,6,7,8,12,14,15,16] (q6l1 m))))).trans (by unfold st6l1v14s0; exact (cond_app (a6l1 x0 x1 x2 x3 x4 x5 x6 x7 x8) _ (j6l1v14s1 m x0 x1 x2 x3 x4 x5 x6 x7 x8) rfl))))
theorem hb6l1v14:(loopN Try.f6 1) = postC (loopN Try.f6 1) 0 := by kernel_rfl
theorem hf6l1v14 (x0:Nat) (x1:Int) (x2 x3:Nat) (x4:Int) (x5 x6 x7 x8:LL):(frameOf 344 [5,6,7,8,12,14,15,16,17] [wsl 0,wsl 1,vf x0,wsl 2,wsl 3,vi x1,vf x2,vf x3,vi x4]) = [Y,Y,Y,Y,Y,wsl 0,wsl 1,vf x0,wsl 2,Y,Y,Y,wsl 3,Y,vi x1,vf x2,vf x3,vi x4,Y,Y,Y,Y,Y,Y,Y,Y,Y,Y,Y,Y,Y,Y,Y,Y,Y,Y,Y,Y,Y,Y,Y,Y,Y,Y,Y,Y,Y,Y,Y,Y,Y,Y,Y,Y,Y,Y,Y,Y,Y,Y,Y,Y,Y,Y,Y,Y,Y,Y,Y,Y,Y,Y,Y,Y,Y,Y,Y,Y,Y,Y,Y,Y,Y,Y,Y,Y,Y,Y,Y,Y,Y,Y,Y,Y,Y,Y,Y,Y,Y,Y,Y,Y,Y,Y,Y,Y,Y,Y,Y,Y,Y,Y,Y,Y,Y,Y,Y,Y,Y,Y,Y,Y,Y,Y,Y,Y,Y,Y,Y,Y,Y,Y,Y,Y,Y,Y,Y,Y,Y,Y,Y,Y,Y,Y,Y,Y,Y,Y,Y,Y,Y,Y,Y,Y,Y,Y,Y,Y,Y,Y,Y,Y,Y,Y,Y,Y,Y,Y,Y,Y,Y,Y,Y,Y,Y,Y,Y,Y,Y,Y,Y,Y,Y,Y,Y,Y,Y,Y,Y,Y,Y,Y,Y,Y,Y,Y,Y,Y,Y,Y,Y,Y,Y,Y,Y,Y,Y,Y,Y,Y,Y,Y,Y,Y,Y,Y,Y,Y,Y,Y,Y,Y,Y,Y,Y,Y,Y,Y,Y,Y,Y,Y,Y,Y,Y,Y,Y,Y,Y,Y,Y,Y,Y,Y,Y,Y,Y,Y,Y,Y,Y,Y,Y,Y,Y,Y,Y,Y,Y,Y,Y,Y,Y,Y,Y,Y,Y,Y,Y,Y,Y,Y,Y,Y,Y,Y,Y,Y,Y,Y,Y,Y,Y,Y,Y,Y,Y,Y,Y,Y,Y,Y,Y,Y,Y,Y,Y,Y,Y,Y,Y,Y,Y,Y,Y,Y,Y,Y,Y,Y,Y,Y,Y,Y,Y,Y,Y,Y,Y,Y,Y,Y,Y,Y,Y,Y,Y,Y,Y,Y,Y,Y,Y,Y,Y,Y,Y,Y,Y,Y,Y,Y,Y,Y] := by kernel_rfl
theorem ea6l1v14 (m:Nat) (x0:Nat) (x1:Int) (x2 x3:Nat) (x4:Int) (x5 x6 x7 x8:LL):evC Try.prog ext T53 noL 200 (loopN Try.f6 1) (loopTail ([5,6,7,8,12,14,15,16,17],[]) [5,6,7,8,12,14,15,16] [] (sumK 344 [5,6,7,8,12,14,15,16,17] [5,6,7,8,12,14,15,16] (q6l1 m))) (frameOf 344 [5,6,7,8,12,14,15,16,17] [wsl 0,wsl 1,vf x0,wsl 2,wsl 3,vi x1,vf x2,vf x3,vi x4]) ⟨[(tb sc0 x5),(tb [.fl .f32] x6),(tb [.fl .f32] x7),(tb [.fl .f32] x8)],4,[]⟩ = evC Try.prog ext T53 noL 200 (postC (loopN Try.f6 1) 0) (loopTail ([5,6,7,8,12,14,15,16,17],[]) [5,6,7,8,12,14,15,16] [] (sumK 344 [5,6,7,8,12,14,15,16,17] [5,6,7,8,12,14,15,16] (q6l1 m))) [Y,Y,Y,Y,Y,wsl 0,wsl 1,vf x0,wsl 2,Y,Y,Y,wsl 3,Y,vi x1,vf x2,vf x3,vi x4,Y,Y,Y,Y,Y,Y,Y,Y,Y,Y,Y,Y,Y,Y,Y,Y,Y,Y,Y,Y,Y,Y,Y,Y,Y,Y,Y,Y,Y,Y,Y,Y,Y,Y,Y,Y,Y,Y,Y,Y,Y,Y,Y,Y,Y,Y,Y,Y,Y,Y,Y,Y,Y,Y,Y,Y,Y,Y,Y,Y,Y,Y,Y,Y,Y,Y,Y,Y,Y,Y,Y,Y,Y,Y,Y,Y,Y,Y,Y,Y,Y,Y,Y,Y,Y,Y,Y,Y,Y,Y,Y,Y,Y,Y,Y,Y,Y,Y,Y,Y,Y,Y,Y,Y,Y,Y,Y,Y,Y,Y,Y,Y,Y,Y,Y,Y,Y,Y,Y,Y,Y,Y,Y,Y,Y,Y,Y,Y,Y,Y,Y,Y,Y,Y,Y,Y,Y,Y,Y,Y,Y,Y,Y,Y,Y,Y,Y,Y,Y,Y,Y,Y,Y,Y,Y,Y,Y,Y,Y,Y,Y,Y,Y,Y,Y,Y,Y,Y,Y,Y,Y,Y,Y,Y,Y,Y,Y,Y,Y,Y,Y,Y,Y,Y,Y,Y,Y,Y,Y,Y,Y,Y,Y,Y,Y,Y,Y,Y,Y,Y,Y,Y,Y,Y,Y,Y,Y,Y,Y,Y,Y,Y,Y,Y,Y,Y,Y,Y,Y,Y,Y,Y,Y,Y,Y,Y,Y,Y,Y,Y,Y,Y,Y,Y,Y,Y,Y,Y,Y,Y,Y,Y,Y,Y,Y,Y,Y,Y,Y,Y,Y,Y,Y,Y,Y,Y,Y,Y,Y,Y,Y,Y,Y,Y,Y,Y,Y,Y,Y,Y,Y,Y,Y,Y,Y,Y,Y,Y,Y,Y,Y,Y,Y,Y,Y,Y,Y,Y,Y,Y,Y,Y,Y,Y,Y,Y,Y,Y,Y,Y,Y,Y,Y,Y,Y,Y,Y,Y,Y,Y,Y,Y,Y,Y,Y,Y,Y,Y,Y,Y,Y,Y,Y,Y,Y,Y] ⟨[(tb sc0 x5),(tb [.fl .f32] x6),(tb [.fl .f32] x7),(tb [.fl .f32] x8)],4,[]⟩ := by rw [hf6l1v14 x0 x1 x2 x3 x4 x5 x6 x7 x8,← hb6l1v14]
theorem eb6l1v14 (m:Nat) (x0:Nat) (x1:Int) (x2 x3:Nat) (x4:Int) (x5 x6 x7 x8:LL):evC Try.prog ext T53 noL 200 (postC (loopN Try.f6 1) 0) (loopTail ([5,6,7,8,12,14,15,16,17],[]) [5,6,7,8,12,14,15,16] [] (sumK 344 [5,6,7,8,12,14,15,16,17] [5,6,7,8,12,14,15,16] (q6l1 m))) [Y,Y,Y,Y,Y,wsl 0,wsl 1,vf x0,wsl 2,Y,Y,Y,wsl 3,Y,vi x1,vf x2,vf x3,vi x4,Y,Y,Y,Y,Y,Y,Y,Y,Y,Y,Y,Y,Y,Y,Y,Y,Y,Y,Y,Y,Y,Y,Y,Y,Y,Y,Y,Y,Y,Y,Y,Y,Y,Y,Y,Y,Y,Y,Y,Y,Y,Y,Y,Y,Y,Y,Y,Y,Y,Y,Y,Y,Y,Y,Y,Y,Y,Y,Y,Y,Y,Y,Y,Y,Y,Y,Y,Y,Y,Y,Y,Y,Y,Y,Y,Y,Y,Y,Y,Y,Y,Y,Y,Y,Y,Y,Y,Y,Y,Y,Y,Y,Y,Y,Y,Y,Y,Y,Y,Y,Y,Y,Y,Y,Y,Y,Y,Y,Y,Y,Y,Y,Y,Y,Y,Y,Y,Y,Y,Y,Y,Y,Y,Y,Y,Y,Y,Y,Y,Y,Y,Y,Y,Y,Y,Y,Y,Y,Y,Y,Y,Y,Y,Y,Y,Y,Y,Y,Y,Y,Y,Y,Y,Y,Y,Y,Y,Y,Y,Y,Y,Y,Y,Y,Y,Y,Y,Y,Y,Y,Y,Y,Y,Y,Y,Y,Y,Y,Y,Y,Y,Y,Y,Y,Y,Y,Y,Y,Y,Y,Y,Y,Y,Y,Y,Y,Y,Y,Y,Y,Y,Y,Y,Y,Y,Y,Y,Y,Y,Y,Y,Y,Y,Y,Y,Y,Y,Y,Y,Y,Y,Y,Y,Y,Y,Y,Y,Y,Y,Y,Y,Y,Y,Y,Y,Y,Y,Y,Y,Y,Y,Y,Y,Y,Y,Y,Y,Y,Y,Y,Y,Y,Y,Y,Y,Y,Y,Y,Y,Y,Y,Y,Y,Y,Y,Y,Y,Y,Y,Y,Y,Y,Y,Y,Y,Y,Y,Y,Y,Y,Y,Y,Y,Y,Y,Y,Y,Y,Y,Y,Y,Y,Y,Y,Y,Y,Y,Y,Y,Y,Y,Y,Y,Y,Y,Y,Y,Y,Y,Y,Y,Y,Y,Y,Y,Y,Y,Y,Y,Y,Y,Y,Y,Y,Y,Y] ⟨[(tb sc0 x5),(tb [.fl .f32] x6),(tb [.fl .f32] x7),(tb [.fl .f32] x8)],4,[]⟩ = (a6l1 x0 x1 x2 x3 x4 x5 x6 x7 x8) (b6l1 (r6l1 m) x0 x1 x2 x3 x4 x5 x6 x7 x8) := j6l1v14s0 m x0 x1 x2 x3 x4 x5 x6 x7 x8
theorem z6l1v14 (x0:Nat) (x1:Int) (x2 x3:Nat) (x4:Int) (x5 x6 x7 x8:LL) (p:Nat×Nat×Nat):(a6l1 x0 x1 x2 x3 x4 x5 x6 x7 x8) p = firstT ([((Nat.beq (p.1) 0),.exit 2,[wsl 0,wsl 1,vf x0,wsl 2,wsl 3,vi x1,vf (p.2.1),vf (p.2.2)],⟨[(tb sc0 x5),(tb [.fl .f32] x6),(tb [.fl .f32] x7),(tb [.fl .f32] x8)],4,[]⟩)].map fun (b,x) => (b,(x.1,frameOf 344 [5,6,7,8,12,14,15,16] x.2.1,x.2.2))) := rfl
theorem e6l1 (m:Nat) (x0:Nat) (x1:Int) (x2 x3:Nat) (x4:Int) (x5 x6 x7 x8:LL):evC Try.prog ext T53 noL 200 (loopN Try.f6 1) (loopTail ([5,6,7,8,12,14,15,16,17],[]) [5,6,7,8,12,14,15,16] [] (sumK 344 [5,6,7,8,12,14,15,16,17] [5,6,7,8,12,14,15,16] (q6l1 m))) (frameOf 344 [5,6,7,8,12,14,15,16,17] [wsl 0,wsl 1,vf x0,wsl 2,wsl 3,vi x1,vf x2,vf x3,vi x4]) ⟨[(tb sc0 x5),(tb [.fl .f32] x6),(tb [.fl .f32] x7),(tb [.fl .f32] x8)],4,[]⟩ = firstT ([((Nat.beq ((r6l1 (m + 1) x0 x1 x2 x3 x4 x5 x6 x7 x8).1) 0),.exit 2,[wsl 0,wsl 1,vf x0,wsl 2,wsl 3,vi x1,vf ((r6l1 (m + 1) x0 x1 x2 x3 x4 x5 x6 x7 x8).2.1),vf ((r6l1 (m + 1) x0 x1 x2 x3 x4 x5 x6 x7 x8).2.2)],⟨[(tb sc0 x5),(tb [.fl .f32] x6),(tb [.fl .f32] x7),(tb [.fl .f32] x8)],4,[]⟩)].map fun (b,x) => (b,(x.1,frameOf 344 [5,6,7,8,12,14,15,16] x.2.1,x.2.2))) :=
 (ea6l1v14 m x0 x1 x2 x3 x4 x5 x6 x7 x8).trans ((eb6l1v14 m x0 x1 x2 x3 x4 x5 x6 x7 x8).trans (z6l1v14 x0 x1 x2 x3 x4 x5 x6 x7 x8 (r6l1 (m + 1) x0 x1 x2 x3 x4 x5 x6 x7 x8)))
theorem qm6l1:∀ m,SumKOk Try.prog (loopN Try.f6 1) 344 [5,6,7,8,12,14,15,16,17] [5,6,7,8,12,14,15,16] (q6l1 m) := by
  intro m
  induction m with
  | zero =>
    intro vals s x h1 h2 h3
    unfold q6l1 at h3; split at h3
    · rename_i h; split at h3
      · rename_i hc; obtain ⟨rfl,rfl,rfl,rfl⟩ := hc; exact absurd h3 (by simp [r6l1,firstT,Nat.beq])
      · exact noQ_ok _ _ _ h1 h2 h3
    · exact noQ_ok _ _ _ h1 h2 h3
  | succ m ih =>
    intro vals s x h1 h2 h3
    unfold q6l1 at h3; split at h3
    · rename_i h; split at h3
      · rename_i hc; obtain ⟨rfl,rfl,rfl,rfl⟩ := hc; exact sum_step ok53 extOk mixed ((lfOkF_no _ _).inner (by kernel_rfl)) ih h1 h2 h (e6l1 m _ _ _ _ _ _ _ _ _) rfl h3
      · exact noQ_ok _ _ _ h1 h2 h3
    · exact noQ_ok _ _ _ h1 h2 h3
noncomputable def Q6l1:SumK := fun vals s => q6l1 (fuelOf vals s.h) vals s
theorem qok6l1:SumKOk Try.prog (loopN Try.f6 1) 344 [5,6,7,8,12,14,15,16,17] [5,6,7,8,12,14,15,16] Q6l1 := fuel_ok qm6l1 fuelOf
noncomputable def L6_1:LoopT := addL noL 21 ([5,6,7,8,12,14,15,16,17],[]) (sumK 344 [5,6,7,8,12,14,15,16,17] [5,6,7,8,12,14,15,16] Q6l1)
theorem lok6_1:LfOkF Try.prog L6_1 Try.f6 := lfOkF_add (lfOkF_no _ _) qok6l1 (by kernel_rfl) (by kernel_rfl) (by kernel_rfl)
end Go.Proofs.Ytmknfenjnladeaa

namespace Go.Proofs.Ytmknfenjnladeaa
open Go.Ab
set_option maxHeartbeats 4000000
set_option maxRecDepth 100000

noncomputable def st6l0s2 (ih:Nat→Int→LL→LL→LL→LL→Nat) (x0:Nat) (x1:Int) (x2 x3 x4 x5:LL):Nat :=
 (ih x0 (IntKind.i64.wrap (x1 + 1)) x2 x3 x4 x5)
noncomputable def st6l0s1 (ih:Nat→Int→LL→LL→LL→LL→Nat) (x0:Nat) (x1:Int) (x2 x3 x4 x5:LL):Nat :=
 let c212 := (r6l1 (1000 + x5.length + x4.length + x3.length + x2.length) x0 x1 (fmin .f32 (Int.toNat ((x3.getD (Int.toNat x1) []).getD 0 0)) (Int.toNat ((x2.getD (Int.toNat x1) []).getD 2 0))) (fmax .f32 (Int.toNat ((x3.getD (Int.toNat x1) []).getD 0 0)) (Int.toNat ((x2.getD (Int.toNat x1) []).getD 2 0))) 0 x2 x3 x4 x5)
 (cond ((decide ((0:Int) ≤ x1)) && (Nat.blt (Int.toNat x1) x4.length))
 (cond (Nat.blt (Int.toNat x1) x4.length)
 (cond (fgt .f32 (Int.toNat ((x4.getD (Int.toNat x1) []).getD 0 0)) 0 || feq .f32 (Int.toNat ((x4.getD (Int.toNat x1) []).getD 0 0)) 0)
 (cond ((decide ((0:Int) ≤ x1)) && (Nat.blt (Int.toNat x1) x3.length))
 (cond (Nat.blt (Int.toNat x1) x3.length)
 (cond ((decide ((0:Int) ≤ x1)) && (Nat.blt (Int.toNat x1) x2.length))
 (cond (Nat.blt (Int.toNat x1) x2.length)
 (cond (Option.isSome ((FloatKind.format .f32).order (Int.toNat ((x3.getD (Int.toNat x1) []).getD 0 0)) (Int.toNat ((x2.getD (Int.toNat x1) []).getD 2 0))))
 (cond ((decide ((0:Int) ≤ x1)) && (Nat.blt (Int.toNat x1) x3.length))
 (cond (Nat.blt (Int.toNat x1) x3.length)
 (cond ((decide ((0:Int) ≤ x1)) && (Nat.blt (Int.toNat x1) x2.length))
 (cond (Nat.blt (Int.toNat x1) x2.length)
 (cond (Option.isSome ((FloatKind.format .f32).order (Int.toNat ((x3.getD (Int.toNat x1) []).getD 0 0)) (Int.toNat ((x2.getD (Int.toNat x1) []).getD 2 0))))
 (cond (Nat.beq (c212.1) 0)
 (cond ((decide ((0:Int) ≤ x1)) && (Nat.blt (Int.toNat x1) x5.length))
 (cond (Nat.blt (Int.toNat x1) x5.length)
 (cond (flt .f32 (Int.toNat ((x5.getD (Int.toNat x1) []).getD 0 0)) (fsub .f32 (c212.2.1) 1008981770))
 (1)
 (cond ((decide ((0:Int) ≤ x1)) && (Nat.blt (Int.toNat x1) x5.length))
 (cond (Nat.blt (Int.toNat x1) x5.length)
 (cond (fgt .f32 (Int.toNat ((x5.getD (Int.toNat x1) []).getD 0 0)) (fadd .f32 (c212.2.2) 1008981770))
 (1)
 (st6l0s2 ih x0 x1 x2 x3 x4 x5))
 (2))
 (2)))
 (2))
 (2))
 (2))
 (2))
 (2))
 (2))
 (2))
 (2))
 (2))
 (2))
 (2))
 (2))
 (2))
 (cond ((decide ((0:Int) ≤ x1)) && (Nat.blt (Int.toNat x1) x5.length))
 (cond (Nat.blt (Int.toNat x1) x5.length)
 (cond (flt .f32 (Int.toNat ((x5.getD (Int.toNat x1) []).getD 0 0)) (fsub .f32 x0 1008981770))
 (1)
 (cond ((decide ((0:Int) ≤ x1)) && (Nat.blt (Int.toNat x1) x5.length))
 (cond (Nat.blt (Int.toNat x1) x5.length)
 (cond (fgt .f32 (Int.toNat ((x5.getD (Int.toNat x1) []).getD 0 0)) (fadd .f32 x0 1008981770))
 (1)
 (st6l0s2 ih x0 x1 x2 x3 x4 x5))
 (2))
 (2)))
 (2))
 (2)))
 (2))
 (2))
noncomputable def st6l0s0 (ih:Nat→Int→LL→LL→LL→LL→Nat) (x0:Nat) (x1:Int) (x2 x3 x4 x5:LL):Nat :=
 (cond (decide ((x1:Int) < ((x2.length:Nat):Int)))
 (st6l0s1 ih x0 x1 x2 x3 x4 x5)
 (0))
noncomputable def b6l0 (ih:Nat→Int→LL→LL→LL→LL→Nat) (x0:Nat) (x1:Int) (x2 x3 x4 x5:LL):Nat := st6l0s0 ih x0 x1 x2 x3 x4 x5
noncomputable def r6l0:Nat→Nat→Int→LL→LL→LL→LL→Nat
 | 0 => fun _ _ _ _ _ _ => (2)
 | m + 1 => b6l0 (r6l0 m)
noncomputable def a6l0 (x0:Nat) (x1:Int) (x2 x3 x4 x5:LL) (p:Nat):Option (Fin'×List Value×St) := firstT ([((Nat.beq p 0),.exit 0,[Y,wsl 0,wsl 1,vf x0],⟨[(tb sc0 x2),(tb [.fl .f32] x3),(tb [.fl .f32] x4),(tb [.fl .f32] x5)],4,[]⟩),((Nat.beq p 1),.ret,[.bool false,wsl 0,wsl 1,vf x0],⟨[(tb sc0 x2),(tb [.fl .f32] x3),(tb [.fl .f32] x4),(tb [.fl .f32] x5)],4,[]⟩)].map fun (b,x) => (b,(x.1,frameOf 344 [4,5,6,7] x.2.1,x.2.2)))
noncomputable def u6l0 (x0:Nat) (x1:Int) (x2 x3 x4 x5:LL) (p:Nat):Option (Fin'×List Value×St) := alts ([((Nat.beq p 0),.exit 0,[Y,wsl 0,wsl 1,vf x0],⟨[(tb sc0 x2),(tb [.fl .f32] x3),(tb [.fl .f32] x4),(tb [.fl .f32] x5)],4,[]⟩),((Nat.beq p 1),.ret,[.bool false,wsl 0,wsl 1,vf x0],⟨[(tb sc0 x2),(tb [.fl .f32] x3),(tb [.fl .f32] x4),(tb [.fl .f32] x5)],4,[]⟩)].map fun (b,x) => (b,(x.1,frameOf 344 [4,5,6,7] x.2.1,x.2.2))) some
theorem v6l0 (x0:Nat) (x1:Int) (x2 x3 x4 x5:LL) (p:Nat):u6l0 x0 x1 x2 x3 x4 x5 p = a6l0 x0 x1 x2 x3 x4 x5 p := alts_first _
noncomputable def q6l0 (m:Nat):SumK := fun vals s =>
 match vals,s.h with
 | [.iface f0 .nilIface,.iface f1 .nilIface,.float .f32 x0,.iface f2 .nilIface,.iface f3 .nilIface,.int .i64 x1],[⟨true,some (.tab [.fl .f32,.fl .f32,.fl .f32,.fl .f32,.int .i64] x2)⟩,⟨true,some (.tab [.fl .f32] x3)⟩,⟨true,some (.tab [.fl .f32] x4)⟩,⟨true,some (.tab [.fl .f32] x5)⟩] => if f0 = 0 ∧ f1 = 1 ∧ f2 = 2 ∧ f3 = 3 then [((Nat.beq (r6l0 m x0 x1 x2 x3 x4 x5) 0),.exit 0,[Y,wsl 0,wsl 1,vf x0],⟨[(tb sc0 x2),(tb [.fl .f32] x3),(tb [.fl .f32] x4),(tb [.fl .f32] x5)],4,[]⟩),((Nat.beq (r6l0 m x0 x1 x2 x3 x4 x5) 1),.ret,[.bool false,wsl 0,wsl 1,vf x0],⟨[(tb sc0 x2),(tb [.fl .f32] x3),(tb [.fl .f32] x4),(tb [.fl .f32] x5)],4,[]⟩)] else noQ vals s
 | _,_ => noQ vals s
end Go.Proofs.Ytmknfenjnladeaa

namespace Go.Proofs.Ytmknfenjnladeaa
open Go.Ab
set_option maxHeartbeats 4000000
set_option maxRecDepth 100000

variable {D0 D1 D2 D3 D4 D5 D6 D7 D8 D9 DA DB DC DD DE DF DG DH DI DJ DK DL DM DN DO DP DQ DR DS DT DU DV DW DX DY DZ Da Db Dc Dd De Dj Dk Dl Dn Dp Dq Dr Ds Dt Du Dv Dw Dx Dy Dz G0 G1 G2 G3 G4 G5 G6 G7 G8 G9 GA GB GC GD GE GF GG GH GI GJ GK GL GM GN GO GP GQ GR GS GT GU GV GW GX GY GZ Ga Gb Gc Gd Ge Gf Gg Gh Gi Gj Gk Gl Gm Gn Go Gp Gq Gr Gs Gt Gu Gv Gw Gx Gy Gz H0 H1 H2 H3 H4 H5 H6 H7 H8 H9 HA HB HC HD HE HF HG HH HI HJ HK HL HM HN HO HP HQ HR HS HT HU HV HW HX HY HZ Ha Hb Hc Hd He Hf Hg Hh Hi Hj Hk Hl Hm Hn Ho Hp Hq Hr Hs Ht Hu Hv Hw Hx Hy Hz J0 J1 J2 J3 J4 J5 J6 J7 J8 J9 JA JB JC JD JE JF JG JH JI JJ JK JL JM JN JO JP JQ JR JS JT JU JV JW JX JY JZ Ja Jb Jc Jd Je Jf Jg Jh Ji Jj Jk Jl Jm Jn Jo Jp Jq Jr Js Jt Ju Jv Jw Jx Jy Jz K0 K1 K2 K3 K4 K5 K6 K7 K8 K9 KA KB KC KD KE KF KG KH KI KJ KK KL KM KN KO KP KQ KR KS KT KU KV KW KX KY KZ Ka Kb Kc Kd Ke Kf Kg Kh Ki Kj Kk Kl Km Kn Ko Kp Kq Kr Ks Kt Ku Kv Kw Kx Ky Kz MA MB MC MD ME MF MG MH Ma Mb Mc Md Me Mf Mg Mh Mi Mj Mk Ml Mm Mn Mo Mp Mq Mr Ms Mt Mu Mv Mw Mx My Mz:Value}
theorem i6l0s0 (m:Nat) (x0:Nat) (x1:Int) (x2 x3 x4 x5:LL) (k:List Value→St→Option (Fin'×List Value×St)):evC Try.prog ext T53 L6_1 200 (preC (postC (loopN Try.f6 0) 0) 1) (endK (loopTail ([5,6,7,8,12,14],[]) [4,5,6,7] [] (sumK 344 [5,6,7,8,12,14] [4,5,6,7] (q6l0 m))) k) [Y,Y,Y,Y,Y,wsl 0,wsl 1,vf x0,wsl 2,Y,Y,Y,wsl 3,Y,vi x1,Y,Y,Y,Y,Y,Y,Y,Y,Y,Y,Y,Y,Y,Y,Y,Y,Y,Y,Y,Y,Y,Y,Y,Y,Y,Y,Y,Y,Y,Y,Y,Y,Y,Y,Y,Y,Y,Y,Y,Y,Y,Y,Y,Y,Y,Y,Y,Y,Y,Y,Y,Y,Y,Y,Y,Y,Y,Y,Y,Y,Y,Y,Y,Y,Y,Y,Y,Y,Y,Y,Y,Y,Y,Y,Y,Y,Y,Y,Y,Y,Y,Y,Y,Y,Y,Y,Y,Y,Y,Y,Y,Y,Y,Y,Y,Y,Y,Y,Y,Y,Y,Y,Y,Y,Y,Y,Y,Y,Y,Y,Y,Y,Y,Y,Y,Y,Y,Y,Y,Y,Y,Y,Y,Y,Y,Y,Y,Y,Y,Y,Y,Y,Y,Y,Y,Y,Y,Y,Y,Y,Y,Y,Y,Y,Y,Y,Y,Y,Y,Y,Y,Y,Y,Y,Y,Y,Y,Y,Y,Y,Y,Y,Y,Y,Y,Y,Y,Y,Y,Y,Y,Y,Y,Y,Y,Y,Y,Y,Y,Y,Y,Y,Y,Y,Y,Y,Y,Y,Y,Y,Y,Y,Y,Y,Y,Y,Y,Y,Y,Y,Y,Y,Y,Y,Y,Y,Y,Y,Y,Y,Y,Y,Y,Y,Y,Y,Y,Y,Y,Y,Y,Y,Y,Y,Y,Y,Y,Y,Y,Y,Y,Y,Y,Y,Y,Y,Y,Y,Y,Y,Y,Y,Y,Y,Y,Y,Y,Y,Y,Y,Y,Y,Y,Y,Y,Y,Y,Y,Y,Y,Y,Y,Y,Y,Y,Y,Y,Y,Y,Y,Y,Y,Y,Y,Y,Y,Y,Y,Y,Y,Y,Y,Y,Y,Y,Y,Y,Y,Y,Y,Y,Y,Y,Y,Y,Y,Y,Y,Y,Y,Y,Y,Y,Y,Y,Y,Y,Y,Y,Y,Y,Y,Y,Y,Y,Y,Y,Y,Y,Y,Y,Y,Y,Y,Y,Y,Y,Y,Y] ⟨[(tb sc0 x2),(tb [.fl .f32] x3),(tb [.fl .f32] x4),(tb [.fl .f32] x5)],4,[]⟩ =
 (cond (decide ((x1:Int) < ((x2.length:Nat):Int)))
 (k [Y,Y,Y,Y,Y,wsl 0,wsl 1,vf x0,wsl 2,Y,Y,Y,wsl 3,Y,vi x1,Y,Y,Y,Y,Y,Y,Y,Y,Y,Y,Y,Y,Y,Y,Y,Y,Y,Y,Y,Y,Y,Y,Y,Y,Y,Y,Y,Y,Y,Y,Y,Y,Y,Y,Y,Y,Y,Y,Y,Y,Y,Y,Y,Y,Y,Y,Y,Y,Y,Y,Y,Y,Y,Y,Y,Y,Y,Y,Y,Y,Y,Y,Y,Y,Y,Y,Y,Y,Y,Y,Y,Y,Y,Y,Y,Y,Y,Y,Y,Y,vi x1,wsl 0,vi ((x2.length:Nat):Int),.bool (decide ((x1:Int) < ((x2.length:Nat):Int))),Y,Y,Y,Y,Y,Y,Y,Y,Y,Y,Y,Y,Y,Y,Y,Y,Y,Y,Y,Y,Y,Y,Y,Y,Y,Y,Y,Y,Y,Y,Y,Y,Y,Y,Y,Y,Y,Y,Y,Y,Y,Y,Y,Y,Y,Y,Y,Y,Y,Y,Y,Y,Y,Y,Y,Y,Y,Y,Y,Y,Y,Y,Y,Y,Y,Y,Y,Y,Y,Y,Y,Y,Y,Y,Y,Y,Y,Y,Y,Y,Y,Y,Y,Y,Y,Y,Y,Y,Y,Y,Y,Y,Y,Y,Y,Y,Y,Y,Y,Y,Y,Y,Y,Y,Y,Y,Y,Y,Y,Y,Y,Y,Y,Y,Y,Y,Y,Y,Y,Y,Y,Y,Y,Y,Y,Y,Y,Y,Y,Y,Y,Y,Y,Y,Y,Y,Y,Y,Y,Y,Y,Y,Y,Y,Y,Y,Y,Y,Y,Y,Y,Y,Y,Y,Y,Y,Y,Y,Y,Y,Y,Y,Y,Y,Y,Y,Y,Y,Y,Y,Y,Y,Y,Y,Y,Y,Y,Y,Y,Y,Y,Y,Y,Y,Y,Y,Y,Y,Y,Y,Y,Y,Y,Y,Y,Y,Y,Y,Y,Y,Y,Y,Y,Y,Y,Y,Y,Y,Y,Y,Y,Y,Y,Y,Y,Y,Y,Y,Y,Y,Y,Y,Y,Y,Y,Y,Y,Y,Y,Y,Y,Y,Y,Y,Y,Y,Y,Y,Y,Y,Y,Y,Y,Y,Y] ⟨[(tb sc0 x2),(tb [.fl .f32] x3),(tb [.fl .f32] x4),(tb [.fl .f32] x5)],4,[]⟩)
 ((a6l0 x0 x1 x2 x3 x4 x5) (0))) := by kernel_rfl

theorem i6l0s1 (m:Nat) (x0:Nat) (x1:Int) (x2 x3 x4 x5:LL) (k:List Value→St→Option (Fin'×List Value×St)):evC Try.prog ext T53 L6_1 200 (preC (postC (loopN Try.f6 0) 1) 1) (endK (loopTail ([5,6,7,8,12,14],[]) [4,5,6,7] [] (sumK 344 [5,6,7,8,12,14] [4,5,6,7] (q6l0 m))) k) [Da,Db,Dc,Dd,De,wsl 0,wsl 1,vf x0,wsl 2,Dj,Dk,Dl,wsl 3,Dn,vi x1,Dp,Dq,Dr,Ds,Dt,Du,Dv,Dw,Dx,Dy,Dz,DA,DB,DC,DD,DE,DF,DG,DH,DI,DJ,DK,DL,DM,DN,DO,DP,DQ,DR,DS,DT,DU,DV,DW,DX,DY,DZ,D0,D1,D2,D3,D4,D5,D6,D7,D8,D9,Ga,Gb,Gc,Gd,Ge,Gf,Gg,Gh,Gi,Gj,Gk,Gl,Gm,Gn,Go,Gp,Gq,Gr,Gs,Gt,Gu,Gv,Gw,Gx,Gy,Gz,GA,GB,GC,GD,GE,GF,GG,GH,GI,GJ,GK,GL,GM,GN,GO,GP,GQ,GR,GS,GT,GU,GV,GW,GX,GY,GZ,G0,G1,G2,G3,G4,G5,G6,G7,G8,G9,Ha,Hb,Hc,Hd,He,Hf,Hg,Hh,Hi,Hj,Hk,Hl,Hm,Hn,Ho,Hp,Hq,Hr,Hs,Ht,Hu,Hv,Hw,Hx,Hy,Hz,HA,HB,HC,HD,HE,HF,HG,HH,HI,HJ,HK,HL,HM,HN,HO,HP,HQ,HR,HS,HT,HU,HV,HW,HX,HY,HZ,H0,H1,H2,H3,H4,H5,H6,H7,H8,H9,Ja,Jb,Jc,Jd,Je,Jf,Jg,Jh,Ji,Jj,Jk,Jl,Jm,Jn,Jo,Jp,Jq,Jr,Js,Jt,Ju,Jv,Jw,Jx,Jy,Jz,JA,JB,JC,JD,JE,JF,JG,JH,JI,JJ,JK,JL,JM,JN,JO,JP,JQ,JR,JS,JT,JU,JV,JW,JX,JY,JZ,J0,J1,J2,J3,J4,J5,J6,J7,J8,J9,Ka,Kb,Kc,Kd,Ke,Kf,Kg,Kh,Ki,Kj,Kk,Kl,Km,Kn,Ko,Kp,Kq,Kr,Ks,Kt,Ku,Kv,Kw,Kx,Ky,Kz,KA,KB,KC,KD,KE,KF,KG,KH,KI,KJ,KK,KL,KM,KN,KO,KP,KQ,KR,KS,KT,KU,KV,KW,KX,KY,KZ,K0,K1,K2,K3,K4,K5,K6,K7,K8,K9,Ma,Mb,Mc,Md,Me,Mf,Mg,Mh,Mi,Mj,Mk,Ml,Mm,Mn,Mo,Mp,Mq,Mr,Ms,Mt,Mu,Mv,Mw,Mx,My,Mz,MA,MB,MC,MD,ME,MF,MG,MH] ⟨[(tb sc0 x2),(tb [.fl .f32] x3),(tb [.fl .f32] x4),(tb [.fl .f32] x5)],4,[]⟩ =
 (cond ((decide ((0:Int) ≤ x1)) && (Nat.blt (Int.toNat x1) x4.length))
 (cond (Nat.blt (Int.toNat x1) x4.length)
 (cond (fgt .f32 (Int.toNat ((x4.getD (Int.toNat x1) []).getD 0 0)) 0 || feq .f32 (Int.toNat ((x4.getD (Int.toNat x1) []).getD 0 0)) 0)
 (cond ((decide ((0:Int) ≤ x1)) && (Nat.blt (Int.toNat x1) x3.length))
 (cond (Nat.blt (Int.toNat x1) x3.length)
 (cond ((decide ((0:Int) ≤ x1)) && (Nat.blt (Int.toNat x1) x2.length))
 (cond (Nat.blt (Int.toNat x1) x2.length)
 (cond (Option.isSome ((FloatKind.format .f32).order (Int.toNat ((x3.getD (Int.toNat x1) []).getD 0 0)) (Int.toNat ((x2.getD (Int.toNat x1) []).getD 2 0))))
 (cond ((decide ((0:Int) ≤ x1)) && (Nat.blt (Int.toNat x1) x3.length))
 (cond (Nat.blt (Int.toNat x1) x3.length)
 (cond ((decide ((0:Int) ≤ x1)) && (Nat.blt (Int.toNat x1) x2.length))
 (cond (Nat.blt (Int.toNat x1) x2.length)
 (cond (Option.isSome ((FloatKind.format .f32).order (Int.toNat ((x3.getD (Int.toNat x1) []).getD 0 0)) (Int.toNat ((x2.getD (Int.toNat x1) []).getD 2 0))))
 (cond (Nat.beq ((r6l1 (1000 + x5.length + x4.length + x3.length + x2.length) x0 x1 (fmin .f32 (Int.toNat ((x3.getD (Int.toNat x1) []).getD 0 0)) (Int.toNat ((x2.getD (Int.toNat x1) []).getD 2 0))) (fmax .f32 (Int.toNat ((x3.getD (Int.toNat x1) []).getD 0 0)) (Int.toNat ((x2.getD (Int.toNat x1) []).getD 2 0))) 0 x2 x3 x4 x5).1) 0)
 (cond ((decide ((0:Int) ≤ x1)) && (Nat.blt (Int.toNat x1) x5.length))
 (cond (Nat.blt (Int.toNat x1) x5.length)
 (cond (flt .f32 (Int.toNat ((x5.getD (Int.toNat x1) []).getD 0 0)) (fsub .f32 ((r6l1 (1000 + x5.length + x4.length + x3.length + x2.length) x0 x1 (fmin .f32 (Int.toNat ((x3.getD (Int.toNat x1) []).getD 0 0)) (Int.toNat ((x2.getD (Int.toNat x1) []).getD 2 0))) (fmax .f32 (Int.toNat ((x3.getD (Int.toNat x1) []).getD 0 0)) (Int.toNat ((x2.getD (Int.toNat x1) []).getD 2 0))) 0 x2 x3 x4 x5).2.1) 1008981770))
 ((a6l0 x0 x1 x2 x3 x4 x5) (1))
 (cond ((decide ((0:Int) ≤ x1)) && (Nat.blt (Int.toNat x1) x5.length))
 (cond (Nat.blt (Int.toNat x1) x5.length)
 (cond (fgt .f32 (Int.toNat ((x5.getD (Int.toNat x1) []).getD 0 0)) (fadd .f32 ((r6l1 (1000 + x5.length + x4.length + x3.length + x2.length) x0 x1 (fmin .f32 (Int.toNat ((x3.getD (Int.toNat x1) []).getD 0 0)) (Int.toNat ((x2.getD (Int.toNat x1) []).getD 2 0))) (fmax .f32 (Int.toNat ((x3.getD (Int.toNat x1) []).getD 0 0)) (Int.toNat ((x2.getD (Int.toNat x1) []).getD 2 0))) 0 x2 x3 x4 x5).2.2) 1008981770))
 ((a6l0 x0 x1 x2 x3 x4 x5) (1))
 (k [Y,Y,Y,Y,Y,wsl 0,wsl 1,vf x0,wsl 2,Y,Y,Y,wsl 3,Y,vi x1,vf ((r6l1 (1000 + x5.length + x4.length + x3.length + x2.length) x0 x1 (fmin .f32 (Int.toNat ((x3.getD (Int.toNat x1) []).getD 0 0)) (Int.toNat ((x2.getD (Int.toNat x1) []).getD 2 0))) (fmax .f32 (Int.toNat ((x3.getD (Int.toNat x1) []).getD 0 0)) (Int.toNat ((x2.getD (Int.toNat x1) []).getD 2 0))) 0 x2 x3 x4 x5).2.1),vf ((r6l1 (1000 + x5.length + x4.length + x3.length + x2.length) x0 x1 (fmin .f32 (Int.toNat ((x3.getD (Int.toNat x1) []).getD 0 0)) (Int.toNat ((x2.getD (Int.toNat x1) []).getD 2 0))) (fmax .f32 (Int.toNat ((x3.getD (Int.toNat x1) []).getD 0 0)) (Int.toNat ((x2.getD (Int.toNat x1) []).getD 2 0))) 0 x2 x3 x4 x5).2.2),Y,Y,Y,Y,Y,Y,Y,Y,Y,Y,Y,Y,Y,Y,Y,Y,Y,Y,Y,Y,Y,Y,Y,Y,Y,Y,Y,Y,Y,Y,Y,Y,Y,Y,Y,Y,Y,Y,Y,Y,Y,Y,Y,Y,Y,Y,Y,Y,Y,Y,Y,Y,Y,Y,Y,Y,Y,Y,Y,Y,Y,Y,Y,Y,Y,Y,Y,Y,Y,Y,Y,Y,Y,Y,Y,Y,Y,Y,Y,Y,Y,Y,Y,Y,Y,Y,Y,Y,Y,Y,Y,Y,Y,Y,Y,Y,Y,Y,Y,Y,Y,Y,Y,Y,Y,Y,Y,Y,Y,Y,Y,Y,Y,Y,Y,Y,Y,Y,Y,Y,Y,Y,Y,Y,Y,Y,Y,Y,Y,Y,Y,Y,Y,Y,Y,Y,Y,Y,wsl 3,vi x1,.pointer (some ⟨3,(Int.toNat x1),some 0⟩),vf (Int.toNat ((x5.getD (Int.toNat x1) []).getD 0 0)),vf ((r6l1 (1000 + x5.length + x4.length + x3.length + x2.length) x0 x1 (fmin .f32 (Int.toNat ((x3.getD (Int.toNat x1) []).getD 0 0)) (Int.toNat ((x2.getD (Int.toNat x1) []).getD 2 0))) (fmax .f32 (Int.toNat ((x3.getD (Int.toNat x1) []).getD 0 0)) (Int.toNat ((x2.getD (Int.toNat x1) []).getD 2 0))) 0 x2 x3 x4 x5).2.1),vf (fsub .f32 ((r6l1 (1000 + x5.length + x4.length + x3.length + x2.length) x0 x1 (fmin .f32 (Int.toNat ((x3.getD (Int.toNat x1) []).getD 0 0)) (Int.toNat ((x2.getD (Int.toNat x1) []).getD 2 0))) (fmax .f32 (Int.toNat ((x3.getD (Int.toNat x1) []).getD 0 0)) (Int.toNat ((x2.getD (Int.toNat x1) []).getD 2 0))) 0 x2 x3 x4 x5).2.1) 1008981770),.bool (flt .f32 (Int.toNat ((x5.getD (Int.toNat x1) []).getD 0 0)) (fsub .f32 ((r6l1 (1000 + x5.length + x4.length + x3.length + x2.length) x0 x1 (fmin .f32 (Int.toNat ((x3.getD (Int.toNat x1) []).getD 0 0)) (Int.toNat ((x2.getD (Int.toNat x1) []).getD 2 0))) (fmax .f32 (Int.toNat ((x3.getD (Int.toNat x1) []).getD 0 0)) (Int.toNat ((x2.getD (Int.toNat x1) []).getD 2 0))) 0 x2 x3 x4 x5).2.1) 1008981770)),.bool false,wsl 3,vi x1,.pointer (some ⟨3,(Int.toNat x1),some 0⟩),vf (Int.toNat ((x5.getD (Int.toNat x1) []).getD 0 0)),vf ((r6l1 (1000 + x5.length + x4.length + x3.length + x2.length) x0 x1 (fmin .f32 (Int.toNat ((x3.getD (Int.toNat x1) []).getD 0 0)) (Int.toNat ((x2.getD (Int.toNat x1) []).getD 2 0))) (fmax .f32 (Int.toNat ((x3.getD (Int.toNat x1) []).getD 0 0)) (Int.toNat ((x2.getD (Int.toNat x1) []).getD 2 0))) 0 x2 x3 x4 x5).2.2),vf (fadd .f32 ((r6l1 (1000 + x5.length + x4.length + x3.length + x2.length) x0 x1 (fmin .f32 (Int.toNat ((x3.getD (Int.toNat x1) []).getD 0 0)) (Int.toNat ((x2.getD (Int.toNat x1) []).getD 2 0))) (fmax .f32 (Int.toNat ((x3.getD (Int.toNat x1) []).getD 0 0)) (Int.toNat ((x2.getD (Int.toNat x1) []).getD 2 0))) 0 x2 x3 x4 x5).2.2) 1008981770),.bool (fgt .f32 (Int.toNat ((x5.getD (Int.toNat x1) []).getD 0 0)) (fadd .f32 ((r6l1 (1000 + x5.length + x4.length + x3.length + x2.length) x0 x1 (fmin .f32 (Int.toNat ((x3.getD (Int.toNat x1) []).getD 0 0)) (Int.toNat ((x2.getD (Int.toNat x1) []).getD 2 0))) (fmax .f32 (Int.toNat ((x3.getD (Int.toNat x1) []).getD 0 0)) (Int.toNat ((x2.getD (Int.toNat x1) []).getD 2 0))) 0 x2 x3 x4 x5).2.2) 1008981770)),.bool (fgt .f32 (Int.toNat ((x5.getD (Int.toNat x1) []).getD 0 0)) (fadd .f32 ((r6l1 (1000 + x5.length + x4.length + x3.length + x2.length) x0 x1 (fmin .f32 (Int.toNat ((x3.getD (Int.toNat x1) []).getD 0 0)) (Int.toNat ((x2.getD (Int.toNat x1) []).getD 2 0))) (fmax .f32 (Int.toNat ((x3.getD (Int.toNat x1) []).getD 0 0)) (Int.toNat ((x2.getD (Int.toNat x1) []).getD 2 0))) 0 x2 x3 x4 x5).2.2) 1008981770)),Y,Y,Y,Y,Y,Y,Y,Y,Y,Y,Y,Y,Y,Y,Y,Y,Y,Y,Y,Y,Y,Y,Y,Y,Y,Y,Y,Y,Y,Y,Y,Y,Y,Y,Y,Y,Y,Y,Y,Y,Y,Y,Y,Y,Y,Y,Y,Y,Y,Y,Y,Y,Y,Y,Y,Y,Y,Y,Y,Y,Y,Y,Y,Y,Y,Y,Y,Y,Y,Y,Y,Y,Y,Y,Y,Y,Y,Y,Y,Y,Y,Y,Y,Y,Y,Y,Y,Y,Y,Y,Y,Y,Y,Y,Y,Y,Y,Y,Y,Y,Y,Y,Y,Y,Y,Y,Y,Y,Y,Y,Y,Y,Y,Y,Y,Y,Y,Y,Y,Y,Y,Y,Y,Y,Y,Y,Y,Y,Y,Y,Y,Y,Y,Y,Y,Y,Y,Y,Y,Y,Y,Y,Y,Y,Y,Y,Y,Y,Y,Y,Y,Y,Y,Y,Y,Y,Y,Y,Y,Y,Y,Y,Y,Y,Y,Y,Y,Y,Y,Y,Y,Y,Y] ⟨[(tb sc0 x2),(tb [.fl .f32] x3),(tb [.fl .f32] x4),(tb [.fl .f32] x5)],4,[]⟩))
 none)
 none))
 none)
 none)
 none)
 none)
 none)
 none)
 none)
 none)
 none)
 none)
 none)
 none)
 none)
 (cond ((decide ((0:Int) ≤ x1)) && (Nat.blt (Int.toNat x1) x5.length))
 (cond (Nat.blt (Int.toNat x1) x5.length)
 (cond (flt .f32 (Int.toNat ((x5.getD (Int.toNat x1) []).getD 0 0)) (fsub .f32 x0 1008981770))
 ((a6l0 x0 x1 x2 x3 x4 x5) (1))
 (cond ((decide ((0:Int) ≤ x1)) && (Nat.blt (Int.toNat x1) x5.length))
 (cond (Nat.blt (Int.toNat x1) x5.length)
 (cond (fgt .f32 (Int.toNat ((x5.getD (Int.toNat x1) []).getD 0 0)) (fadd .f32 x0 1008981770))
 ((a6l0 x0 x1 x2 x3 x4 x5) (1))
 (k [Da,Db,Dc,Dd,De,wsl 0,wsl 1,vf x0,wsl 2,Dj,Dk,Dl,wsl 3,Dn,vi x1,vf x0,vf x0,Dr,Ds,Dt,Du,Dv,Dw,Dx,Dy,Dz,DA,DB,DC,DD,DE,DF,DG,DH,DI,DJ,DK,DL,DM,DN,DO,DP,DQ,DR,DS,DT,DU,DV,DW,DX,DY,DZ,D0,D1,D2,D3,D4,D5,D6,D7,D8,D9,Ga,Gb,Gc,Gd,Ge,Gf,Gg,Gh,Gi,Gj,Gk,Gl,Gm,Gn,Go,Gp,Gq,Gr,Gs,Gt,Gu,Gv,Gw,Gx,Gy,Gz,GA,GB,GC,GD,GE,GF,GG,GH,GI,GJ,GK,GL,GM,vf x0,vf x0,wsl 2,vi x1,.pointer (some ⟨2,(Int.toNat x1),some 0⟩),vf (Int.toNat ((x4.getD (Int.toNat x1) []).getD 0 0)),.bool (fgt .f32 (Int.toNat ((x4.getD (Int.toNat x1) []).getD 0 0)) 0 || feq .f32 (Int.toNat ((x4.getD (Int.toNat x1) []).getD 0 0)) 0),GU,GV,GW,GX,GY,GZ,G0,G1,G2,G3,G4,G5,G6,G7,G8,G9,Ha,Hb,Hc,Hd,He,Hf,Hg,Hh,Hi,Hj,Hk,Hl,Hm,Hn,Ho,Hp,Hq,Hr,Hs,Ht,Hu,Hv,Hw,Hx,Hy,Hz,HA,HB,HC,HD,HE,wsl 3,vi x1,.pointer (some ⟨3,(Int.toNat x1),some 0⟩),vf (Int.toNat ((x5.getD (Int.toNat x1) []).getD 0 0)),vf x0,vf (fsub .f32 x0 1008981770),.bool (flt .f32 (Int.toNat ((x5.getD (Int.toNat x1) []).getD 0 0)) (fsub .f32 x0 1008981770)),.bool false,wsl 3,vi x1,.pointer (some ⟨3,(Int.toNat x1),some 0⟩),vf (Int.toNat ((x5.getD (Int.toNat x1) []).getD 0 0)),vf x0,vf (fadd .f32 x0 1008981770),.bool (fgt .f32 (Int.toNat ((x5.getD (Int.toNat x1) []).getD 0 0)) (fadd .f32 x0 1008981770)),.bool (fgt .f32 (Int.toNat ((x5.getD (Int.toNat x1) []).getD 0 0)) (fadd .f32 x0 1008981770)),HV,HW,HX,HY,HZ,H0,H1,H2,H3,H4,H5,H6,H7,H8,H9,Ja,Jb,Jc,Jd,Je,Jf,Jg,Jh,Ji,Jj,Jk,Jl,Jm,Jn,Jo,Jp,Jq,Jr,Js,Jt,Ju,Jv,Jw,Jx,Jy,Jz,JA,JB,JC,JD,JE,JF,JG,JH,JI,JJ,JK,JL,JM,JN,JO,JP,JQ,JR,JS,JT,JU,JV,JW,JX,JY,JZ,J0,J1,J2,J3,J4,J5,J6,J7,J8,J9,Ka,Kb,Kc,Kd,Ke,Kf,Kg,Kh,Ki,Kj,Kk,Kl,Km,Kn,Ko,Kp,Kq,Kr,Ks,Kt,Ku,Kv,Kw,Kx,Ky,Kz,KA,KB,KC,KD,KE,KF,KG,KH,KI,KJ,KK,KL,KM,KN,KO,KP,KQ,KR,KS,KT,KU,KV,KW,KX,KY,KZ,K0,K1,K2,K3,K4,K5,K6,K7,K8,K9,Ma,Mb,Mc,Md,Me,Mf,Mg,Mh,Mi,Mj,Mk,Ml,Mm,Mn,Mo,Mp,Mq,Mr,Ms,Mt,Mu,Mv,Mw,Mx,My,Mz,MA,MB,MC,MD,ME,MF,MG,MH] ⟨[(tb sc0 x2),(tb [.fl .f32] x3),(tb [.fl .f32] x4),(tb [.fl .f32] x5)],4,[]⟩))
 none)
 none))
 none)
 none))
 none)
 none) := by kernel_rfl

theorem i6l0s2 (m:Nat) (x0:Nat) (x1:Int) (x2 x3 x4 x5:LL):evC Try.prog ext T53 L6_1 200 (postC (loopN Try.f6 0) 2) (loopTail ([5,6,7,8,12,14],[]) [4,5,6,7] [] (sumK 344 [5,6,7,8,12,14] [4,5,6,7] (q6l0 m))) [Da,Db,Dc,Dd,De,wsl 0,wsl 1,vf x0,wsl 2,Dj,Dk,Dl,wsl 3,Dn,vi x1,Dp,Dq,Dr,Ds,Dt,Du,Dv,Dw,Dx,Dy,Dz,DA,DB,DC,DD,DE,DF,DG,DH,DI,DJ,DK,DL,DM,DN,DO,DP,DQ,DR,DS,DT,DU,DV,DW,DX,DY,DZ,D0,D1,D2,D3,D4,D5,D6,D7,D8,D9,Ga,Gb,Gc,Gd,Ge,Gf,Gg,Gh,Gi,Gj,Gk,Gl,Gm,Gn,Go,Gp,Gq,Gr,Gs,Gt,Gu,Gv,Gw,Gx,Gy,Gz,GA,GB,GC,GD,GE,GF,GG,GH,GI,GJ,GK,GL,GM,GN,GO,GP,GQ,GR,GS,GT,GU,GV,GW,GX,GY,GZ,G0,G1,G2,G3,G4,G5,G6,G7,G8,G9,Ha,Hb,Hc,Hd,He,Hf,Hg,Hh,Hi,Hj,Hk,Hl,Hm,Hn,Ho,Hp,Hq,Hr,Hs,Ht,Hu,Hv,Hw,Hx,Hy,Hz,HA,HB,HC,HD,HE,HF,HG,HH,HI,HJ,HK,HL,HM,HN,HO,HP,HQ,HR,HS,HT,HU,HV,HW,HX,HY,HZ,H0,H1,H2,H3,H4,H5,H6,H7,H8,H9,Ja,Jb,Jc,Jd,Je,Jf,Jg,Jh,Ji,Jj,Jk,Jl,Jm,Jn,Jo,Jp,Jq,Jr,Js,Jt,Ju,Jv,Jw,Jx,Jy,Jz,JA,JB,JC,JD,JE,JF,JG,JH,JI,JJ,JK,JL,JM,JN,JO,JP,JQ,JR,JS,JT,JU,JV,JW,JX,JY,JZ,J0,J1,J2,J3,J4,J5,J6,J7,J8,J9,Ka,Kb,Kc,Kd,Ke,Kf,Kg,Kh,Ki,Kj,Kk,Kl,Km,Kn,Ko,Kp,Kq,Kr,Ks,Kt,Ku,Kv,Kw,Kx,Ky,Kz,KA,KB,KC,KD,KE,KF,KG,KH,KI,KJ,KK,KL,KM,KN,KO,KP,KQ,KR,KS,KT,KU,KV,KW,KX,KY,KZ,K0,K1,K2,K3,K4,K5,K6,K7,K8,K9,Ma,Mb,Mc,Md,Me,Mf,Mg,Mh,Mi,Mj,Mk,Ml,Mm,Mn,Mo,Mp,Mq,Mr,Ms,Mt,Mu,Mv,Mw,Mx,My,Mz,MA,MB,MC,MD,ME,MF,MG,MH] ⟨[(tb sc0 x2),(tb [.fl .f32] x3),(tb [.fl .f32] x4),(tb [.fl .f32] x5)],4,[]⟩ =
 (u6l0 x0 x1 x2 x3 x4 x5 ((r6l0 m) x0 (IntKind.i64.wrap (x1 + 1)) x2 x3 x4 x5)) := by kernel_rfl
end Go.Proofs.Ytmknfenjnladeaa

namespace Go.Proofs.Ytmknfenjnladeaa
open Go.Ab
set_option maxHeartbeats 4000000
set_option maxRecDepth 100000

variable {D0 D1 D2 D3 D4 D5 D6 D7 D8 D9 DA DB DC DD DE DF DG DH DI DJ DK DL DM DN DO DP DQ DR DS DT DU DV DW DX DY DZ Da Db Dc Dd De Dj Dk Dl Dn Dp Dq Dr Ds Dt Du Dv Dw Dx Dy Dz G0 G1 G2 G3 G4 G5 G6 G7 G8 G9 GA GB GC GD GE GF GG GH GI GJ GK GL GM GN GO GP GQ GR GS GT GU GV GW GX GY GZ Ga Gb Gc Gd Ge Gf Gg Gh Gi Gj Gk Gl Gm Gn Go Gp Gq Gr Gs Gt Gu Gv Gw Gx Gy Gz H0 H1 H2 H3 H4 H5 H6 H7 H8 H9 HA HB HC HD HE HF HG HH HI HJ HK HL HM HN HO HP HQ HR HS HT HU HV HW HX HY HZ Ha Hb Hc Hd He Hf Hg Hh Hi Hj Hk Hl Hm Hn Ho Hp Hq Hr Hs Ht Hu Hv Hw Hx Hy Hz J0 J1 J2 J3 J4 J5 J6 J7 J8 J9 JA JB JC JD JE JF JG JH JI JJ JK JL JM JN JO JP JQ JR JS JT JU JV JW JX JY JZ Ja Jb Jc Jd Je Jf Jg Jh Ji Jj Jk Jl Jm Jn Jo Jp Jq Jr Js Jt Ju Jv Jw Jx Jy Jz K0 K1 K2 K3 K4 K5 K6 K7 K8 K9 KA KB KC KD KE KF KG KH KI KJ KK KL KM KN KO KP KQ KR KS KT KU KV KW KX KY KZ Ka Kb Kc Kd Ke Kf Kg Kh Ki Kj Kk Kl Km Kn Ko Kp Kq Kr Ks Kt Ku Kv Kw Kx Ky Kz MA MB MC MD ME MF MG MH Ma Mb Mc Md Me Mf Mg Mh Mi Mj Mk Ml Mm Mn Mo Mp Mq Mr Ms Mt Mu Mv Mw Mx My Mz:Value}

theorem j6l0s2 (m:Nat) (x0:Nat) (x1:Int) (x2 x3 x4 x5:LL):evC Try.prog ext T53 L6_1 200 (postC (loopN Try.f6 0) 2) (loopTail ([5,6,7,8,12,14],[]) [4,5,6,7] [] (sumK 344 [5,6,7,8,12,14] [4,5,6,7] (q6l0 m))) [Da,Db,Dc,Dd,De,wsl 0,wsl 1,vf x0,wsl 2,Dj,Dk,Dl,wsl 3,Dn,vi x1,Dp,Dq,Dr,Ds,Dt,Du,Dv,Dw,Dx,Dy,Dz,DA,DB,DC,DD,DE,DF,DG,DH,DI,DJ,DK,DL,DM,DN,DO,DP,DQ,DR,DS,DT,DU,DV,DW,DX,DY,DZ,D0,D1,D2,D3,D4,D5,D6,D7,D8,D9,Ga,Gb,Gc,Gd,Ge,Gf,Gg,Gh,Gi,Gj,Gk,Gl,Gm,Gn,Go,Gp,Gq,Gr,Gs,Gt,Gu,Gv,Gw,Gx,Gy,Gz,GA,GB,GC,GD,GE,GF,GG,GH,GI,GJ,GK,GL,GM,GN,GO,GP,GQ,GR,GS,GT,GU,GV,GW,GX,GY,GZ,G0,G1,G2,G3,G4,G5,G6,G7,G8,G9,Ha,Hb,Hc,Hd,He,Hf,Hg,Hh,Hi,Hj,Hk,Hl,Hm,Hn,Ho,Hp,Hq,Hr,Hs,Ht,Hu,Hv,Hw,Hx,Hy,Hz,HA,HB,HC,HD,HE,HF,HG,HH,HI,HJ,HK,HL,HM,HN,HO,HP,HQ,HR,HS,HT,HU,HV,HW,HX,HY,HZ,H0,H1,H2,H3,H4,H5,H6,H7,H8,H9,Ja,Jb,Jc,Jd,Je,Jf,Jg,Jh,Ji,Jj,Jk,Jl,Jm,Jn,Jo,Jp,Jq,Jr,Js,Jt,Ju,Jv,Jw,Jx,Jy,Jz,JA,JB,JC,JD,JE,JF,JG,JH,JI,JJ,JK,JL,JM,JN,JO,JP,JQ,JR,JS,JT,JU,JV,JW,JX,JY,JZ,J0,J1,J2,J3,J4,J5,J6,J7,J8,J9,Ka,Kb,Kc,Kd,Ke,Kf,Kg,Kh,Ki,Kj,Kk,Kl,Km,Kn,Ko,Kp,Kq,Kr,Ks,Kt,Ku,Kv,Kw,Kx,Ky,Kz,KA,KB,KC,KD,KE,KF,KG,KH,KI,KJ,KK,KL,KM,KN,KO,KP,KQ,KR,KS,KT,KU,KV,KW,KX,KY,KZ,K0,K1,K2,K3,K4,K5,K6,K7,K8,K9,Ma,Mb,Mc,Md,Me,Mf,Mg,Mh,Mi,Mj,Mk,Ml,Mm,Mn,Mo,Mp,Mq,Mr,Ms,Mt,Mu,Mv,Mw,Mx,My,Mz,MA,MB,MC,MD,ME,MF,MG,MH] ⟨[(tb sc0 x2),(tb [.fl .f32] x3),(tb [.fl .f32] x4),(tb [.fl .f32] x5)],4,[]⟩ = (a6l0 x0 x1 x2 x3 x4 x5) (st6l0s2 (r6l0 m) x0 x1 x2 x3 x4 x5) :=
 ((i6l0s2 m x0 x1 x2 x3 x4 x5).trans (by unfold st6l0s2; exact (v6l0 x0 x1 x2 x3 x4 x5 ((r6l0 m) x0 (IntKind.i64.wrap (x1 + 1)) x2 x3 x4 x5))))
theorem j6l0s1 (m:Nat) (x0:Nat) (x1:Int) (x2 x3 x4 x5:LL):evC Try.prog ext T53 L6_1 200 (postC (loopN Try.f6 0) 1) (loopTail ([5,6,7,8,12,14],[]) [4,5,6,7] [] (sumK 344 [5,6,7,8,12,14] [4,5,6,7] (q6l0 m))) [Da,Db,Dc,Dd,De,wsl 0,wsl 1,vf x0,wsl 2,Dj,Dk,Dl,wsl 3,Dn,vi x1,Dp,Dq,Dr,Ds,Dt,Du,Dv,Dw,Dx,Dy,Dz,DA,DB,DC,DD,DE,DF,DG,DH,DI,DJ,DK,DL,DM,DN,DO,DP,DQ,DR,DS,DT,DU,DV,DW,DX,DY,DZ,D0,D1,D2,D3,D4,D5,D6,D7,D8,D9,Ga,Gb,Gc,Gd,Ge,Gf,Gg,Gh,Gi,Gj,Gk,Gl,Gm,Gn,Go,Gp,Gq,Gr,Gs,Gt,Gu,Gv,Gw,Gx,Gy,Gz,GA,GB,GC,GD,GE,GF,GG,GH,GI,GJ,GK,GL,GM,GN,GO,GP,GQ,GR,GS,GT,GU,GV,GW,GX,GY,GZ,G0,G1,G2,G3,G4,G5,G6,G7,G8,G9,Ha,Hb,Hc,Hd,He,Hf,Hg,Hh,Hi,Hj,Hk,Hl,Hm,Hn,Ho,Hp,Hq,Hr,Hs,Ht,Hu,Hv,Hw,Hx,Hy,Hz,HA,HB,HC,HD,HE,HF,HG,HH,HI,HJ,HK,HL,HM,HN,HO,HP,HQ,HR,HS,HT,HU,HV,HW,HX,HY,HZ,H0,H1,H2,H3,H4,H5,H6,H7,H8,H9,Ja,Jb,Jc,Jd,Je,Jf,Jg,Jh,Ji,Jj,Jk,Jl,Jm,Jn,Jo,Jp,Jq,Jr,Js,Jt,Ju,Jv,Jw,Jx,Jy,Jz,JA,JB,JC,JD,JE,JF,JG,JH,JI,JJ,JK,JL,JM,JN,JO,JP,JQ,JR,JS,JT,JU,JV,JW,JX,JY,JZ,J0,J1,J2,J3,J4,J5,J6,J7,J8,J9,Ka,Kb,Kc,Kd,Ke,Kf,Kg,Kh,Ki,Kj,Kk,Kl,Km,Kn,Ko,Kp,Kq,Kr,Ks,Kt,Ku,Kv,Kw,Kx,Ky,Kz,KA,KB,KC,KD,KE,KF,KG,KH,KI,KJ,KK,KL,KM,KN,KO,KP,KQ,KR,KS,KT,KU,KV,KW,KX,KY,KZ,K0,K1,K2,K3,K4,K5,K6,K7,K8,K9,Ma,Mb,Mc,Md,Me,Mf,Mg,Mh,Mi,Mj,Mk,Ml,Mm,Mn,Mo,Mp,Mq,Mr,Ms,Mt,Mu,Mv,Mw,Mx,My,Mz,MA,MB,MC,MD,ME,MF,MG,MH] ⟨[(tb sc0 x2),(tb [.fl .f32] x3),(tb [.fl .f32] x4),(tb [.fl .f32] x5)],4,[]⟩ = (a6l0 x0 x1 x2 x3 x4 x5) (st6l0s1 (r6l0 m) x0 x1 x2 x3 x4 x5) :=
 ((split_k _ _ _ _ _ 1 _ _ _ _).trans ((i6l0s1 m x0 x1 x2 x3 x4 x5 (evC Try.prog ext T53 L6_1 200 (postC (postC (loopN Try.f6 0) 1) 1) (loopTail ([5,6,7,8,12,14],[]) [4,5,6,7] [] (sumK 344 [5,6,7,8,12,14] [4,5,6,7] (q6l0 m))))).trans (by unfold st6l0s1; exact (cond_app (a6l0 x0 x1 x2 x3 x4 x5) _ (cond_app (a6l0 x0 x1 x2 x3 x4 x5) _ (cond_app (a6l0 x0 x1 x2 x3 x4 x5) _ (cond_app (a6l0 x0 x1 x2 x3 x4 x5) _ (cond_app (a6l0 x0 x1 x2 x3 x4 x5) _ (cond_app (a6l0 x0 x1 x2 x3 x4 x5) _ (cond_app (a6l0 x0 x1 x2 x3 x4 x5) _ (cond_app (a6l0 x0 x1 x2 x3 x4 x5) _ (cond_app (a6l0 x0 x1 x2 x3 x4 x5) _ (cond_app (a6l0 x0 x1 x2 x3 x4 x5) _ (cond_app (a6l0 x0 x1 x2 x3 x4 x5) _ (cond_app (a6l0 x0 x1 x2 x3 x4 x5) _ (cond_app (a6l0 x0 x1 x2 x3 x4 x5) _ (cond_app (a6l0 x0 x1 x2 x3 x4 x5) _ (cond_app (a6l0 x0 x1 x2 x3 x4 x5) _ (cond_app (a6l0 x0 x1 x2 x3 x4 x5) _ (cond_app (a6l0 x0 x1 x2 x3 x4 x5) _ rfl (cond_app (a6l0 x0 x1 x2 x3 x4 x5) _ (cond_app (a6l0 x0 x1 x2 x3 x4 x5) _ (cond_app (a6l0 x0 x1 x2 x3 x4 x5) _ rfl (j6l0s2 m x0 x1 x2 x3 x4 x5)) rfl) rfl)) rfl) rfl) rfl) rfl) rfl) rfl) rfl) rfl) rfl) rfl) rfl) rfl) rfl) (cond_app (a6l0 x0 x1 x2 x3 x4 x5) _ (cond_app (a6l0 x0 x1 x2 x3 x4 x5) _ (cond_app (a6l0 x0 x1 x2 x3 x4 x5) _ rfl (cond_app (a6l0 x0 x1 x2 x3 x4 x5) _ (cond_app (a6l0 x0 x1 x2 x3 x4 x5) _ (cond_app (a6l0 x0 x1 x2 x3 x4 x5) _ rfl (j6l0s2 m x0 x1 x2 x3 x4 x5)) rfl) rfl)) rfl) rfl)) rfl) rfl))))
theorem j6l0s0 (m:Nat) (x0:Nat) (x1:Int) (x2 x3 x4 x5:LL):evC Try.prog ext T53 L6_1 200 (postC (loopN Try.f6 0) 0) (loopTail ([5,6,7,8,12,14],[]) [4,5,6,7] [] (sumK 344 [5,6,7,8,12,14] [4,5,6,7] (q6l0 m))) [Y,Y,Y,Y,Y,wsl 0,wsl 1,vf x0,wsl 2,Y,Y,Y,wsl 3,Y,vi x1,Y,Y,Y,Y,Y,Y,Y,Y,Y,Y,Y,Y,Y,Y,Y,Y,Y,Y,Y,Y,Y,Y,Y,Y,Y,Y,Y,Y,Y,Y,Y,Y,Y,Y,Y,Y,Y,Y,Y,Y,Y,Y,Y,Y,Y,Y,Y,Y,Y,Y,Y,Y,Y,Y,Y,Y,Y,Y,Y,Y,Y,Y,Y,Y,Y,Y,Y,Y,Y,Y,Y,Y,Y,Y,Y,Y,Y,Y,Y,Y,Y,Y,Y,Y,Y,Y,Y,Y,Y,Y,Y,Y,Y,Y,Y,Y,Y,Y,Y,Y,Y,Y,Y,Y,Y,Y,Y,Y,Y,Y,Y,Y,Y,Y,Y,Y,Y,Y,Y,Y,Y,Y,Y,Y,Y,Y,Y,Y,Y,Y,Y,Y,Y,Y,Y,Y,Y,Y,Y,Y,Y,Y,Y,Y,Y,Y,Y,Y,Y,Y,Y,Y,Y,Y,Y,Y,Y,Y,Y,Y,Y,Y,Y,Y,Y,Y,Y,Y,Y,Y,Y,Y,Y,Y,Y,Y,Y,Y,Y,Y,Y,Y,Y,Y,Y,Y,Y,Y,Y,Y,Y,Y,Y,Y,Y,Y,Y,Y,Y,Y,Y,Y,Y,Y,Y,Y,Y,Y,Y,Y,Y,Y,Y,Y,Y,Y,Y,Y,Y,Y,Y,Y,Y,Y,Y,Y,Y,Y,Y,Y,Y,Y,Y,Y,Y,Y,Y,Y,Y,Y,Y,Y,Y,Y,Y,Y,Y,Y,Y,Y,Y,Y,Y,Y,Y,Y,Y,Y,Y,Y,Y,Y,Y,Y,Y,Y,Y,Y,Y,Y,Y,Y,Y,Y,Y,Y,Y,Y,Y,Y,Y,Y,Y,Y,Y,Y,Y,Y,Y,Y,Y,Y,Y,Y,Y,Y,Y,Y,Y,Y,Y,Y,Y,Y,Y,Y,Y,Y,Y,Y,Y,Y,Y,Y,Y,Y,Y,Y,Y,Y,Y,Y,Y,Y,Y,Y,Y,Y,Y] ⟨[(tb sc0 x2),(tb [.fl .f32] x3),(tb [.fl .f32] x4),(tb [.fl .f32] x5)],4,[]⟩ = (a6l0 x0 x1 x2 x3 x4 x5) (st6l0s0 (r6l0 m) x0 x1 x2 x3 x4 x5) :=
 ((split_k _ _ _ _ _ 1 _ _ _ _).trans ((i6l0s0 m x0 x1 x2 x3 x4 x5 (evC Try.prog ext T53 L6_1 200 (postC (postC (loopN Try.f6 0) 0) 1) (loopTail ([5,6,7,8,12,14],[]) [4,5,6,7] [] (sumK 344 [5,6,7,8,12,14] [4,5,6,7] (q6l0 m))))).trans (by unfold st6l0s0; exact (cond_app (a6l0 x0 x1 x2 x3 x4 x5) _ (j6l0s1 m x0 x1 x2 x3 x4 x5) rfl))))
theorem hb6l0:(loopN Try.f6 0) = postC (loopN Try.f6 0) 0 := by kernel_rfl
theorem hf6l0 (x0:Nat) (x1:Int) (x2 x3 x4 x5:LL):(frameOf 344 [5,6,7,8,12,14] [wsl 0,wsl 1,vf x0,wsl 2,wsl 3,vi x1]) = [Y,Y,Y,Y,Y,wsl 0,wsl 1,vf x0,wsl 2,Y,Y,Y,wsl 3,Y,vi x1,Y,Y,Y,Y,Y,Y,Y,Y,Y,Y,Y,Y,Y,Y,Y,Y,Y,Y,Y,Y,Y,Y,Y,Y,Y,Y,Y,Y,Y,Y,Y,Y,Y,Y,Y,Y,Y,Y,Y,Y,Y,Y,Y,Y,Y,Y,Y,Y,Y,Y,Y,Y,Y,Y,Y,Y,Y,Y,Y,Y,Y,Y,Y,Y,Y,Y,Y,Y,Y,Y,Y,Y,Y,Y,Y,Y,Y,Y,Y,Y,Y,Y,Y,Y,Y,Y,Y,Y,Y,Y,Y,Y,Y,Y,Y,Y,Y,Y,Y,Y,Y,Y,Y,Y,Y,Y,Y,Y,Y,Y,Y,Y,Y,Y,Y,Y,Y,Y,Y,Y,Y,Y,Y,Y,Y,Y,Y,Y,Y,Y,Y,Y,Y,Y,Y,Y,Y,Y,Y,Y,Y,Y,Y,Y,Y,Y,Y,Y,Y,Y,Y,Y,Y,Y,Y,Y,Y,Y,Y,Y,Y,Y,Y,Y,Y,Y,Y,Y,Y,Y,Y,Y,Y,Y,Y,Y,Y,Y,Y,Y,Y,Y,Y,Y,Y,Y,Y,Y,Y,Y,Y,Y,Y,Y,Y,Y,Y,Y,Y,Y,Y,Y,Y,Y,Y,Y,Y,Y,Y,Y,Y,Y,Y,Y,Y,Y,Y,Y,Y,Y,Y,Y,Y,Y,Y,Y,Y,Y,Y,Y,Y,Y,Y,Y,Y,Y,Y,Y,Y,Y,Y,Y,Y,Y,Y,Y,Y,Y,Y,Y,Y,Y,Y,Y,Y,Y,Y,Y,Y,Y,Y,Y,Y,Y,Y,Y,Y,Y,Y,Y,Y,Y,Y,Y,Y,Y,Y,Y,Y,Y,Y,Y,Y,Y,Y,Y,Y,Y,Y,Y,Y,Y,Y,Y,Y,Y,Y,Y,Y,Y,Y,Y,Y,Y,Y,Y,Y,Y,Y,Y,Y,Y,Y,Y,Y,Y,Y,Y,Y,Y,Y,Y,Y,Y,Y,Y,Y,Y,Y] := by kernel_rfl
theorem ea6l0 (m:Nat) (x0:Nat) (x1:Int) (x2 x3 x4 x5:LL):evC Try.prog ext T53 L6_1 200 (loopN Try.f6 0) (loopTail ([5,6,7,8,12,14],[]) [4,5,6,7] [] (sumK 344 [5,6,7,8,12,14] [4,5,6,7] (q6l0 m))) (frameOf 344 [5,6,7,8,12,14] [wsl 0,wsl 1,vf x0,wsl 2,wsl 3,vi x1]) ⟨[(tb sc0 x2),(tb [.fl .f32] x3),(tb [.fl .f32] x4),(tb [.fl .f32] x5)],4,[]⟩ = evC Try.prog ext T53 L6_1 200 (postC (loopN Try.f6 0) 0) (loopTail ([5,6,7,8,12,14],[]) [4,5,6,7] [] (sumK 344 [5,6,7,8,12,14] [4,5,6,7] (q6l0 m))) [Y,Y,Y,Y,Y,wsl 0,wsl 1,vf x0,wsl 2,Y,Y,Y,wsl 3,Y,vi x1,Y,Y,Y,Y,Y,Y,Y,Y,Y,Y,Y,Y,Y,Y,Y,Y,Y,Y,Y,Y,Y,Y,Y,Y,Y,Y,Y,Y,Y,Y,Y,Y,Y,Y,Y,Y,Y,Y,Y,Y,Y,Y,Y,Y,Y,Y,Y,Y,Y,Y,Y,Y,Y,Y,Y,Y,Y,Y,Y,Y,Y,Y,Y,Y,Y,Y,Y,Y,Y,Y,Y,Y,Y,Y,Y,Y,Y,Y,Y,Y,Y,Y,Y,Y,Y,Y,Y,Y,Y,Y,Y,Y,Y,Y,Y,Y,Y,Y,Y,Y,Y,Y,Y,Y,Y,Y,Y,Y,Y,Y,Y,Y,Y,Y,Y,Y,Y,Y,Y,Y,Y,Y,Y,Y,Y,Y,Y,Y,Y,Y,Y,Y,Y,Y,Y,Y,Y,Y,Y,Y,Y,Y,Y,Y,Y,Y,Y,Y,Y,Y,Y,Y,Y,Y,Y,Y,Y,Y,Y,Y,Y,Y,Y,Y,Y,Y,Y,Y,Y,Y,Y,Y,Y,Y,Y,Y,Y,Y,Y,Y,Y,Y,Y,Y,Y,Y,Y,Y,Y,Y,Y,Y,Y,Y,Y,Y,Y,Y,Y,Y,Y,Y,Y,Y,Y,Y,Y,Y,Y,Y,Y,Y,Y,Y,Y,Y,Y,Y,Y,Y,Y,Y,Y,Y,Y,Y,Y,Y,Y,Y,Y,Y,Y,Y,Y,Y,Y,Y,Y,Y,Y,Y,Y,Y,Y,Y,Y,Y,Y,Y,Y,Y,Y,Y,Y,Y,Y,Y,Y,Y,Y,Y,Y,Y,Y,Y,Y,Y,Y,Y,Y,Y,Y,Y,Y,Y,Y,Y,Y,Y,Y,Y,Y,Y,Y,Y,Y,Y,Y,Y,Y,Y,Y,Y,Y,Y,Y,Y,Y,Y,Y,Y,Y,Y,Y,Y,Y,Y,Y,Y,Y,Y,Y,Y,Y,Y,Y,Y,Y,Y,Y,Y,Y,Y,Y,Y,Y,Y,Y] ⟨[(tb sc0 x2),(tb [.fl .f32] x3),(tb [.fl .f32] x4),(tb [.fl .f32] x5)],4,[]⟩ := by rw [hf6l0 x0 x1 x2 x3 x4 x5,← hb6l0]
theorem eb6l0 (m:Nat) (x0:Nat) (x1:Int) (x2 x3 x4 x5:LL):evC Try.prog ext T53 L6_1 200 (postC (loopN Try.f6 0) 0) (loopTail ([5,6,7,8,12,14],[]) [4,5,6,7] [] (sumK 344 [5,6,7,8,12,14] [4,5,6,7] (q6l0 m))) [Y,Y,Y,Y,Y,wsl 0,wsl 1,vf x0,wsl 2,Y,Y,Y,wsl 3,Y,vi x1,Y,Y,Y,Y,Y,Y,Y,Y,Y,Y,Y,Y,Y,Y,Y,Y,Y,Y,Y,Y,Y,Y,Y,Y,Y,Y,Y,Y,Y,Y,Y,Y,Y,Y,Y,Y,Y,Y,Y,Y,Y,Y,Y,Y,Y,Y,Y,Y,Y,Y,Y,Y,Y,Y,Y,Y,Y,Y,Y,Y,Y,Y,Y,Y,Y,Y,Y,Y,Y,Y,Y,Y,Y,Y,Y,Y,Y,Y,Y,Y,Y,Y,Y,Y,Y,Y,Y,Y,Y,Y,Y,Y,Y,Y,Y,Y,Y,Y,Y,Y,Y,Y,Y,Y,Y,Y,Y,Y,Y,Y,Y,Y,Y,Y,Y,Y,Y,Y,Y,Y,Y,Y,Y,Y,Y,Y,Y,Y,Y,Y,Y,Y,Y,Y,Y,Y,Y,Y,Y,Y,Y,Y,Y,Y,Y,Y,Y,Y,Y,Y,Y,Y,Y,Y,Y,Y,Y,Y,Y,Y,Y,Y,Y,Y,Y,Y,Y,Y,Y,Y,Y,Y,Y,Y,Y,Y,Y,Y,Y,Y,Y,Y,Y,Y,Y,Y,Y,Y,Y,Y,Y,Y,Y,Y,Y,Y,Y,Y,Y,Y,Y,Y,Y,Y,Y,Y,Y,Y,Y,Y,Y,Y,Y,Y,Y,Y,Y,Y,Y,Y,Y,Y,Y,Y,Y,Y,Y,Y,Y,Y,Y,Y,Y,Y,Y,Y,Y,Y,Y,Y,Y,Y,Y,Y,Y,Y,Y,Y,Y,Y,Y,Y,Y,Y,Y,Y,Y,Y,Y,Y,Y,Y,Y,Y,Y,Y,Y,Y,Y,Y,Y,Y,Y,Y,Y,Y,Y,Y,Y,Y,Y,Y,Y,Y,Y,Y,Y,Y,Y,Y,Y,Y,Y,Y,Y,Y,Y,Y,Y,Y,Y,Y,Y,Y,Y,Y,Y,Y,Y,Y,Y,Y,Y,Y,Y,Y,Y,Y,Y,Y,Y,Y,Y,Y,Y,Y,Y,Y,Y] ⟨[(tb sc0 x2),(tb [.fl .f32] x3),(tb [.fl .f32] x4),(tb [.fl .f32] x5)],4,[]⟩ = (a6l0 x0 x1 x2 x3 x4 x5) (b6l0 (r6l0 m) x0 x1 x2 x3 x4 x5) := j6l0s0 m x0 x1 x2 x3 x4 x5
theorem z6l0 (x0:Nat) (x1:Int) (x2 x3 x4 x5:LL) (p:Nat):(a6l0 x0 x1 x2 x3 x4 x5) p = firstT ([((Nat.beq p 0),.exit 0,[Y,wsl 0,wsl 1,vf x0],⟨[(tb sc0 x2),(tb [.fl .f32] x3),(tb [.fl .f32] x4),(tb [.fl .f32] x5)],4,[]⟩),((Nat.beq p 1),.ret,[.bool false,wsl 0,wsl 1,vf x0],⟨[(tb sc0 x2),(tb [.fl .f32] x3),(tb [.fl .f32] x4),(tb [.fl .f32] x5)],4,[]⟩)].map fun (b,x) => (b,(x.1,frameOf 344 [4,5,6,7] x.2.1,x.2.2))) := rfl
theorem e6l0 (m:Nat) (x0:Nat) (x1:Int) (x2 x3 x4 x5:LL):evC Try.prog ext T53 L6_1 200 (loopN Try.f6 0) (loopTail ([5,6,7,8,12,14],[]) [4,5,6,7] [] (sumK 344 [5,6,7,8,12,14] [4,5,6,7] (q6l0 m))) (frameOf 344 [5,6,7,8,12,14] [wsl 0,wsl 1,vf x0,wsl 2,wsl 3,vi x1]) ⟨[(tb sc0 x2),(tb [.fl .f32] x3),(tb [.fl .f32] x4),(tb [.fl .f32] x5)],4,[]⟩ = firstT ([((Nat.beq (r6l0 (m + 1) x0 x1 x2 x3 x4 x5) 0),.exit 0,[Y,wsl 0,wsl 1,vf x0],⟨[(tb sc0 x2),(tb [.fl .f32] x3),(tb [.fl .f32] x4),(tb [.fl .f32] x5)],4,[]⟩),((Nat.beq (r6l0 (m + 1) x0 x1 x2 x3 x4 x5) 1),.ret,[.bool false,wsl 0,wsl 1,vf x0],⟨[(tb sc0 x2),(tb [.fl .f32] x3),(tb [.fl .f32] x4),(tb [.fl .f32] x5)],4,[]⟩)].map fun (b,x) => (b,(x.1,frameOf 344 [4,5,6,7] x.2.1,x.2.2))) :=
 (ea6l0 m x0 x1 x2 x3 x4 x5).trans ((eb6l0 m x0 x1 x2 x3 x4 x5).trans (z6l0 x0 x1 x2 x3 x4 x5 (r6l0 (m + 1) x0 x1 x2 x3 x4 x5)))
theorem qm6l0:∀ m,SumKOk Try.prog (loopN Try.f6 0) 344 [5,6,7,8,12,14] [4,5,6,7] (q6l0 m) := by
  intro m
  induction m with
  | zero =>
    intro vals s x h1 h2 h3
    unfold q6l0 at h3; split at h3
    · rename_i h; split at h3
      · rename_i hc; obtain ⟨rfl,rfl,rfl,rfl⟩ := hc; exact absurd h3 (by simp [r6l0,firstT,Nat.beq])
      · exact noQ_ok _ _ _ h1 h2 h3
    · exact noQ_ok _ _ _ h1 h2 h3
  | succ m ih =>
    intro vals s x h1 h2 h3
    unfold q6l0 at h3; split at h3
    · rename_i h; split at h3
      · rename_i hc; obtain ⟨rfl,rfl,rfl,rfl⟩ := hc; exact sum_step ok53 extOk mixed (lok6_1.inner (by kernel_rfl)) ih h1 h2 h (e6l0 m _ _ _ _ _ _) rfl h3
      · exact noQ_ok _ _ _ h1 h2 h3
    · exact noQ_ok _ _ _ h1 h2 h3
noncomputable def Q6l0:SumK := fun vals s => q6l0 (fuelOf vals s.h) vals s
theorem qok6l0:SumKOk Try.prog (loopN Try.f6 0) 344 [5,6,7,8,12,14] [4,5,6,7] Q6l0 := fuel_ok qm6l0 fuelOf
noncomputable def L6_2:LoopT := addL L6_1 13 ([5,6,7,8,12,14],[]) (sumK 344 [5,6,7,8,12,14] [4,5,6,7] Q6l0)
theorem lok6_2:LfOkF Try.prog L6_2 Try.f6 := lfOkF_add lok6_1 qok6l0 (by kernel_rfl) (by kernel_rfl) (by kernel_rfl)
end Go.Proofs.Ytmknfenjnladeaa
