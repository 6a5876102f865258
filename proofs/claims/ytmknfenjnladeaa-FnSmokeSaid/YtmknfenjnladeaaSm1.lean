/- What the functions that the statements reach answer, part 1. -/
import Derived.Test.YtmknfenjnladeaaA23
import Derived.Test.YtmknfenjnladeaaA45
import Derived.KernelRfl
import Derived.Test.YtmknfenjnladeaaChecked
namespace Go.Proofs.Ytmknfenjnladeaa
open Go.Ab
set_option maxHeartbeats 4000000
set_option maxRecDepth 100000
abbrev Y : Value := anyV
abbrev LL := List (List Int)
abbrev tb (s : List CT) (x : List (List Int)) : Blk := ⟨true,some (.tab s x)⟩
abbrev tf (s : List CT) (x : List (List Int)) : Blk := ⟨false,some (.tab s x)⟩

def ext:FuncId→Option Ext := fun g => (cond (Nat.beq g 130) (some .f32bits) (cond (Nat.beq g 171) (some .f64from) (cond (Nat.beq g 172) (some .f64bits) (cond (Nat.beq g 174) (some .sqrt) none))))
theorem ext_case {g:FuncId} {e:Ext} (h:ext g = some e):g = 130 ∧ e = .f32bits ∨ g = 171 ∧ e = .f64from ∨ g = 172 ∧ e = .f64bits ∨ g = 174 ∧ e = .sqrt := by
  unfold ext at h
  cases h0:Nat.beq g 130 with
  | true => rw [h0] at h; cases h; exact .inl ⟨Nat.eq_of_beq_eq_true h0,rfl⟩
  | false =>
    rw [h0] at h
    cases h1:Nat.beq g 171 with
    | true => rw [h1] at h; cases h; exact .inr (.inl ⟨Nat.eq_of_beq_eq_true h1,rfl⟩)
    | false =>
      rw [h1] at h
      cases h2:Nat.beq g 172 with
      | true => rw [h2] at h; cases h; exact .inr (.inr (.inl ⟨Nat.eq_of_beq_eq_true h2,rfl⟩))
      | false =>
        rw [h2] at h
        cases h3:Nat.beq g 174 with
        | true => rw [h3] at h; cases h; exact .inr (.inr (.inr (⟨Nat.eq_of_beq_eq_true h3,rfl⟩)))
        | false =>
          rw [h3] at h
          cases h
theorem extOk:ExtOk Try.prog ext := by
  intro g e h
  rcases ext_case h with ⟨rfl,rfl⟩ | ⟨rfl,rfl⟩ | ⟨rfl,rfl⟩ | ⟨rfl,rfl⟩
  · exact ⟨Try.f130,Try.func130,by kernel_rfl,by kernel_rfl,by kernel_rfl,by kernel_rfl⟩
  · exact ⟨Try.f171,Try.func171,by kernel_rfl,by kernel_rfl,by kernel_rfl,by kernel_rfl⟩
  · exact ⟨Try.f172,Try.func172,by kernel_rfl,by kernel_rfl,by kernel_rfl,by kernel_rfl⟩
  · exact ⟨Try.f174,Try.func174,by kernel_rfl,by kernel_rfl,by kernel_rfl,by kernel_rfl⟩
theorem mixed:Try.prog.follows .mixedOrders = true := by kernel_rfl
theorem callOk {cf:CallF} (hcf:CfOk Try.prog cf) {lf:LoopT} {N:Nat} {f:FuncId} {fn:Func} (hf:Try.prog.funcs[f]? = some fn) {args:List Value} {s:St} {l:List Blk} {n:Nat} {L:List (Bool×Value×St)} {r':Value} {s':St} (h1:s.lo = s.h.length) (h2:s.wr = []) (h:s.h = l) (hl:∀ c,fn.body = some c→LfOk Try.prog lf (loopsOf c)) (he:evFn Try.prog ext cf lf N fn args ⟨l,n,[]⟩ = firstT L) (hn:n = l.length) (h3:firstT L = some (r',s')):CallsOK Try.prog f args s r' s' :=
  call_ok extOk mixed hcf hf h1 h2 h hl he hn h3
def T0:CallF := noF
theorem ok0:CfOk Try.prog T0 := cfOk_no _
def sc0:List CT := [.fl .f32,.fl .f32,.fl .f32,.fl .f32,.int .i64]

noncomputable def r8 (x0:LL):Bool :=
 ((decide ((((x0.length:Nat):Int):Int) > 4096)))
noncomputable def a8 (x0:LL) (p:Bool):Res := firstT [(true,.bool p,⟨[(tf [.int .u8] x0)],1,[]⟩)]
noncomputable def w8 (x0:LL):Res :=
 (a8 x0 ((decide ((((x0.length:Nat):Int):Int) > 4096))))
theorem e8 (x0:LL):evFn Try.prog ext T0 noL 200 Try.f8 [wsl 0] ⟨[(tf [.int .u8] x0)],1,[]⟩ = firstT [(true,.bool (r8 x0),⟨[(tf [.int .u8] x0)],1,[]⟩)] :=
 (show _ = w8 x0 from by kernel_rfl).trans
 (show w8 x0 = a8 x0 (r8 x0) from by unfold w8 r8; exact rfl)
noncomputable def s8 (args:List Value) (s:St):List (Bool×Value×St) :=
 match args,s.h with
 | [.iface f0 .nilIface],[⟨false,some (.tab [.int .u8] x0)⟩] => if f0 = 0 then [(true,.bool (r8 x0),⟨[(tf [.int .u8] x0)],1,[]⟩)] else T0 8 args s
 | _,_ => T0 8 args s
noncomputable def T1:CallF := addF T0 8 s8
theorem ok1:CfOk Try.prog T1 := by
  refine cfOk_add ok0 fun args s r s' h1 h2 h3 => ?_
  unfold s8 at h3; split at h3
  · rename_i h; split at h3
    · rename_i hc; obtain ⟨rfl⟩ := hc; exact callOk ok0 Try.func8 h1 h2 h (lfOkF_no _ _).body (e8 _) rfl h3
    · exact ok0 _ _ _ _ _ h1 h2 h3
  · exact ok0 _ _ _ _ _ h1 h2 h3

noncomputable def r55 (x0:LL):Int×Int :=
 (0,0)
noncomputable def a55 (x0:LL) (p:Int×Int):Res := firstT [(true,vp 1,⟨[(tf [.int .u8] x0),⟨true,(some (.cells [wsl 0,vi (p.1),.int .u64 (p.2)]))⟩],1,[]⟩)]
noncomputable def w55 (x0:LL):Res :=
 (a55 x0 (0,0))
theorem e55 (x0:LL):evFn Try.prog ext T1 noL 200 Try.f55 [wsl 0] ⟨[(tf [.int .u8] x0)],1,[]⟩ = firstT [(true,vp 1,⟨[(tf [.int .u8] x0),⟨true,(some (.cells [wsl 0,vi ((r55 x0).1),.int .u64 ((r55 x0).2)]))⟩],1,[]⟩)] :=
 (show _ = w55 x0 from by kernel_rfl).trans
 (show w55 x0 = a55 x0 (r55 x0) from by unfold w55 r55; exact rfl)
noncomputable def s55 (args:List Value) (s:St):List (Bool×Value×St) :=
 match args,s.h with
 | [.iface f0 .nilIface],[⟨false,some (.tab [.int .u8] x0)⟩] => if f0 = 0 then [(true,vp 1,⟨[(tf [.int .u8] x0),⟨true,(some (.cells [wsl 0,vi ((r55 x0).1),.int .u64 ((r55 x0).2)]))⟩],1,[]⟩)] else T1 55 args s
 | _,_ => T1 55 args s
noncomputable def T2:CallF := addF T1 55 s55
theorem ok2:CfOk Try.prog T2 := by
  refine cfOk_add ok1 fun args s r s' h1 h2 h3 => ?_
  unfold s55 at h3; split at h3
  · rename_i h; split at h3
    · rename_i hc; obtain ⟨rfl⟩ := hc; exact callOk ok1 Try.func55 h1 h2 h (lfOkF_no _ _).body (e55 _) rfl h3
    · exact ok1 _ _ _ _ _ h1 h2 h3
  · exact ok1 _ _ _ _ _ h1 h2 h3

noncomputable def r123 (x0 x1:Int) (x2:LL):Nat×Int×Int×Int :=
 cond (decide ((x0:Int) < ((x2.length:Nat):Int))) (cond ((decide ((0:Int) ≤ x0)) && (Nat.blt (Int.toNat x0) x2.length)) (cond (decide (((IntKind.i64.wrap (x0 + 1)):Int) ≤ ((x2.length:Nat):Int))) (0,(IntKind.i64.wrap ((x2.getD (Int.toNat x0) []).getD 0 0)),(IntKind.i64.wrap (x0 + 1)),(IntKind.u64.wrap ((IntKind.u64.wrap ((IntKind.u64.wrap (x1 * 6364136223846793005)) + (IntKind.u64.wrap (IntKind.i64.wrap ((x2.getD (Int.toNat x0) []).getD 0 0))))) + 1442695040888963407))) (0,(IntKind.i64.wrap (bits .and .u64 (Int.fdiv (IntKind.u64.wrap ((IntKind.u64.wrap ((IntKind.u64.wrap (x1 * 6364136223846793005)) + (IntKind.u64.wrap (IntKind.i64.wrap ((x2.getD (Int.toNat x0) []).getD 0 0))))) + 1442695040888963407)) (2 ^ (min (40:Int).toNat (IntKind.bits .u64)))) 255)),(IntKind.i64.wrap (x0 + 1)),(IntKind.u64.wrap ((IntKind.u64.wrap ((IntKind.u64.wrap (x1 * 6364136223846793005)) + (IntKind.u64.wrap (IntKind.i64.wrap ((x2.getD (Int.toNat x0) []).getD 0 0))))) + 1442695040888963407)))) (1,0,0,0)) (cond (decide (((IntKind.i64.wrap (x0 + 1)):Int) ≤ ((x2.length:Nat):Int))) (0,0,(IntKind.i64.wrap (x0 + 1)),(IntKind.u64.wrap ((IntKind.u64.wrap ((IntKind.u64.wrap (x1 * 6364136223846793005)) + 0)) + 1442695040888963407))) (0,(IntKind.i64.wrap (bits .and .u64 (Int.fdiv (IntKind.u64.wrap ((IntKind.u64.wrap ((IntKind.u64.wrap (x1 * 6364136223846793005)) + 0)) + 1442695040888963407)) (2 ^ (min (40:Int).toNat (IntKind.bits .u64)))) 255)),(IntKind.i64.wrap (x0 + 1)),(IntKind.u64.wrap ((IntKind.u64.wrap ((IntKind.u64.wrap (x1 * 6364136223846793005)) + 0)) + 1442695040888963407))))
noncomputable def a123 (x0 x1:Int) (x2:LL) (p:Nat×Int×Int×Int):Res := firstT [((Nat.beq (p.1) 0),vi (p.2.1),⟨[⟨true,(some (.cells [wsl 1,vi (p.2.2.1),.int .u64 (p.2.2.2)]))⟩,(tf [.int .u8] x2)],2,[0]⟩)]
noncomputable def w123 (x0 x1:Int) (x2:LL):Res :=
 (cond (decide ((x0:Int) < ((x2.length:Nat):Int)))
 (cond ((decide ((0:Int) ≤ x0)) && (Nat.blt (Int.toNat x0) x2.length)) (cond (Nat.blt (Int.toNat x0) x2.length) (cond (decide (((IntKind.i64.wrap (x0 + 1)):Int) ≤ ((x2.length:Nat):Int))) (a123 x0 x1 x2 (0,(IntKind.i64.wrap ((x2.getD (Int.toNat x0) []).getD 0 0)),(IntKind.i64.wrap (x0 + 1)),(IntKind.u64.wrap ((IntKind.u64.wrap ((IntKind.u64.wrap (x1 * 6364136223846793005)) + (IntKind.u64.wrap (IntKind.i64.wrap ((x2.getD (Int.toNat x0) []).getD 0 0))))) + 1442695040888963407)))) (a123 x0 x1 x2 (0,(IntKind.i64.wrap (bits .and .u64 (Int.fdiv (IntKind.u64.wrap ((IntKind.u64.wrap ((IntKind.u64.wrap (x1 * 6364136223846793005)) + (IntKind.u64.wrap (IntKind.i64.wrap ((x2.getD (Int.toNat x0) []).getD 0 0))))) + 1442695040888963407)) (2 ^ (min (40:Int).toNat (IntKind.bits .u64)))) 255)),(IntKind.i64.wrap (x0 + 1)),(IntKind.u64.wrap ((IntKind.u64.wrap ((IntKind.u64.wrap (x1 * 6364136223846793005)) + (IntKind.u64.wrap (IntKind.i64.wrap ((x2.getD (Int.toNat x0) []).getD 0 0))))) + 1442695040888963407))))) none) none)
 (cond (decide (((IntKind.i64.wrap (x0 + 1)):Int) ≤ ((x2.length:Nat):Int))) (a123 x0 x1 x2 (0,0,(IntKind.i64.wrap (x0 + 1)),(IntKind.u64.wrap ((IntKind.u64.wrap ((IntKind.u64.wrap (x1 * 6364136223846793005)) + 0)) + 1442695040888963407)))) (a123 x0 x1 x2 (0,(IntKind.i64.wrap (bits .and .u64 (Int.fdiv (IntKind.u64.wrap ((IntKind.u64.wrap ((IntKind.u64.wrap (x1 * 6364136223846793005)) + 0)) + 1442695040888963407)) (2 ^ (min (40:Int).toNat (IntKind.bits .u64)))) 255)),(IntKind.i64.wrap (x0 + 1)),(IntKind.u64.wrap ((IntKind.u64.wrap ((IntKind.u64.wrap (x1 * 6364136223846793005)) + 0)) + 1442695040888963407))))))
theorem e123 (x0 x1:Int) (x2:LL):evFn Try.prog ext T2 noL 200 Try.f123 [vp 0] ⟨[⟨true,(some (.cells [wsl 1,vi x0,.int .u64 x1]))⟩,(tf [.int .u8] x2)],2,[]⟩ = firstT [((Nat.beq ((r123 x0 x1 x2).1) 0),vi ((r123 x0 x1 x2).2.1),⟨[⟨true,(some (.cells [wsl 1,vi ((r123 x0 x1 x2).2.2.1),.int .u64 ((r123 x0 x1 x2).2.2.2)]))⟩,(tf [.int .u8] x2)],2,[0]⟩)] :=
 (show _ = w123 x0 x1 x2 from by kernel_rfl).trans
 (show w123 x0 x1 x2 = a123 x0 x1 x2 (r123 x0 x1 x2) from by unfold w123 r123; exact (cond_both (a123 x0 x1 x2) _ (fun h0 => (cond_both (a123 x0 x1 x2) _ (fun h1 => (cond_t (ev_and2 h1) (cond_app (a123 x0 x1 x2) _ rfl rfl))) (fun h1 => rfl))) (fun h0 => (cond_app (a123 x0 x1 x2) _ rfl rfl))))
noncomputable def s123 (args:List Value) (s:St):List (Bool×Value×St) :=
 match args,s.h with
 | [.pointer (some ⟨f0,f1,some f2⟩)],[⟨true,some (.cells [.iface f3 .nilIface,.int .i64 x0,.int .u64 x1])⟩,⟨false,some (.tab [.int .u8] x2)⟩] => if f0 = 0 ∧ f1 = 0 ∧ f2 = 0 ∧ f3 = 1 then [((Nat.beq ((r123 x0 x1 x2).1) 0),vi ((r123 x0 x1 x2).2.1),⟨[⟨true,(some (.cells [wsl 1,vi ((r123 x0 x1 x2).2.2.1),.int .u64 ((r123 x0 x1 x2).2.2.2)]))⟩,(tf [.int .u8] x2)],2,[0]⟩)] else T2 123 args s
 | _,_ => T2 123 args s
noncomputable def T3:CallF := addF T2 123 s123
theorem ok3:CfOk Try.prog T3 := by
  refine cfOk_add ok2 fun args s r s' h1 h2 h3 => ?_
  unfold s123 at h3; split at h3
  · rename_i h; split at h3
    · rename_i hc; obtain ⟨rfl,rfl,rfl,rfl⟩ := hc; exact callOk ok2 Try.func123 h1 h2 h (lfOkF_no _ _).body (e123 _ _ _) rfl h3
    · exact ok2 _ _ _ _ _ h1 h2 h3
  · exact ok2 _ _ _ _ _ h1 h2 h3

noncomputable def r56 (x0 x1 x2:Int) (x3:LL):Nat×Int×Int×Int :=
 cond (decide ((x0:Int) ≤ 1)) (0,0,x1,x2) (cond (Nat.beq ((r123 x1 x2 x3).1) 0) (cond (decide ((x0:Int) > 200)) (cond (Nat.beq ((r123 ((r123 x1 x2 x3).2.2.1) ((r123 x1 x2 x3).2.2.2) x3).1) 0) (cond (!decide (x0 = 0)) (0,(Int.tmod (IntKind.i64.wrap ((IntKind.i64.wrap (((r123 x1 x2 x3).2.1) * 256)) + ((r123 ((r123 x1 x2 x3).2.2.1) ((r123 x1 x2 x3).2.2.2) x3).2.1))) x0),((r123 ((r123 x1 x2 x3).2.2.1) ((r123 x1 x2 x3).2.2.2) x3).2.2.1),((r123 ((r123 x1 x2 x3).2.2.1) ((r123 x1 x2 x3).2.2.2) x3).2.2.2)) (1,0,0,0)) (1,0,0,0)) (cond (!decide (x0 = 0)) (0,(Int.tmod ((r123 x1 x2 x3).2.1) x0),((r123 x1 x2 x3).2.2.1),((r123 x1 x2 x3).2.2.2)) (1,0,0,0))) (1,0,0,0))
noncomputable def a56 (x0 x1 x2:Int) (x3:LL) (p:Nat×Int×Int×Int):Res := firstT [((Nat.beq (p.1) 0),vi (p.2.1),⟨[⟨true,(some (.cells [wsl 1,vi (p.2.2.1),.int .u64 (p.2.2.2)]))⟩,(tf [.int .u8] x3)],2,[0]⟩)]
noncomputable def w56 (x0 x1 x2:Int) (x3:LL):Res :=
 (cond (decide ((x0:Int) ≤ 1))
 (a56 x0 x1 x2 x3 (0,0,x1,x2))
 (cond (Nat.beq ((r123 x1 x2 x3).1) 0) (cond (decide ((x0:Int) > 200)) (cond (Nat.beq ((r123 ((r123 x1 x2 x3).2.2.1) ((r123 x1 x2 x3).2.2.2) x3).1) 0) (cond (!decide (x0 = 0)) (a56 x0 x1 x2 x3 (0,(Int.tmod (IntKind.i64.wrap ((IntKind.i64.wrap (((r123 x1 x2 x3).2.1) * 256)) + ((r123 ((r123 x1 x2 x3).2.2.1) ((r123 x1 x2 x3).2.2.2) x3).2.1))) x0),((r123 ((r123 x1 x2 x3).2.2.1) ((r123 x1 x2 x3).2.2.2) x3).2.2.1),((r123 ((r123 x1 x2 x3).2.2.1) ((r123 x1 x2 x3).2.2.2) x3).2.2.2))) none) none) (cond (!decide (x0 = 0)) (a56 x0 x1 x2 x3 (0,(Int.tmod ((r123 x1 x2 x3).2.1) x0),((r123 x1 x2 x3).2.2.1),((r123 x1 x2 x3).2.2.2))) none)) none))
theorem e56 (x0 x1 x2:Int) (x3:LL):evFnW Try.prog ext T3 noL 200 [0] Try.f56 [vp 0,vi x0] ⟨[⟨true,(some (.cells [wsl 1,vi x1,.int .u64 x2]))⟩,(tf [.int .u8] x3)],2,[]⟩ = firstT [((Nat.beq ((r56 x0 x1 x2 x3).1) 0),vi ((r56 x0 x1 x2 x3).2.1),⟨[⟨true,(some (.cells [wsl 1,vi ((r56 x0 x1 x2 x3).2.2.1),.int .u64 ((r56 x0 x1 x2 x3).2.2.2)]))⟩,(tf [.int .u8] x3)],2,[0]⟩)] :=
 (show _ = w56 x0 x1 x2 x3 from by kernel_rfl).trans
 (show w56 x0 x1 x2 x3 = a56 x0 x1 x2 x3 (r56 x0 x1 x2 x3) from by unfold w56 r56; exact (cond_app (a56 x0 x1 x2 x3) _ rfl (cond_app (a56 x0 x1 x2 x3) _ (cond_app (a56 x0 x1 x2 x3) _ (cond_app (a56 x0 x1 x2 x3) _ (cond_app (a56 x0 x1 x2 x3) _ rfl rfl) rfl) (cond_app (a56 x0 x1 x2 x3) _ rfl rfl)) rfl)))
noncomputable def s56 (args:List Value) (s:St):List (Bool×Value×St) :=
 match args,s.h with
 | [.pointer (some ⟨f0,f1,some f2⟩),.int .i64 x0],[⟨true,some (.cells [.iface f3 .nilIface,.int .i64 x1,.int .u64 x2])⟩,⟨false,some (.tab [.int .u8] x3)⟩] => if f0 = 0 ∧ f1 = 0 ∧ f2 = 0 ∧ f3 = 1 then [((Nat.beq ((r56 x0 x1 x2 x3).1) 0),vi ((r56 x0 x1 x2 x3).2.1),⟨[⟨true,(some (.cells [wsl 1,vi ((r56 x0 x1 x2 x3).2.2.1),.int .u64 ((r56 x0 x1 x2 x3).2.2.2)]))⟩,(tf [.int .u8] x3)],2,[0]⟩)] else T3 56 args s
 | _,_ => T3 56 args s
noncomputable def T4:CallF := addF T3 56 s56
theorem ok4:CfOk Try.prog T4 := by
  refine cfOk_add ok3 fun args s r s' h1 h2 h3 => ?_
  unfold s56 at h3; split at h3
  · rename_i h; split at h3
    · rename_i hc; obtain ⟨rfl,rfl,rfl,rfl⟩ := hc; exact call_okW extOk mixed ok3 Try.func56 h1 h2 h (lfOkF_no _ _).body (e56 _ _ _ _) rfl h3
    · exact ok3 _ _ _ _ _ h1 h2 h3
  · exact ok3 _ _ _ _ _ h1 h2 h3

noncomputable def r121 (x0 x1:Int) (x2:LL):Nat×Nat×Nat×Nat×Nat×Int×Int×Int :=
 let c0 := (r56 300 ((r56 16 ((r56 32 x0 x1 x2).2.2.1) ((r56 32 x0 x1 x2).2.2.2) x2).2.2.1) ((r56 16 ((r56 32 x0 x1 x2).2.2.1) ((r56 32 x0 x1 x2).2.2.2) x2).2.2.2) x2)
 cond (Nat.beq ((r56 32 x0 x1 x2).1) 0) (cond (Nat.beq ((r56 16 ((r56 32 x0 x1 x2).2.2.1) ((r56 32 x0 x1 x2).2.2.2) x2).1) 0) (cond (Nat.beq (c0.1) 0) (cond (Nat.beq ((r56 9 (c0.2.2.1) (c0.2.2.2) x2).1) 0) (0,(fdiv .f32 (ofInt .f32 (IntKind.i64.wrap (1 + ((r56 32 x0 x1 x2).2.1)))) 1082130432),(fdiv .f32 (ofInt .f32 (IntKind.i64.wrap (1 + ((r56 16 ((r56 32 x0 x1 x2).2.2.1) ((r56 32 x0 x1 x2).2.2.2) x2).2.1)))) 1098907648),(ofInt .f32 (IntKind.i64.wrap ((c0.2.1) - 10))),(fdiv .f32 (ofInt .f32 ((r56 9 (c0.2.2.1) (c0.2.2.2) x2).2.1)) 1090519040),(-1),((r56 9 (c0.2.2.1) (c0.2.2.2) x2).2.2.1),((r56 9 (c0.2.2.1) (c0.2.2.2) x2).2.2.2)) (1,0,0,0,0,0,0,0)) (1,0,0,0,0,0,0,0)) (1,0,0,0,0,0,0,0)) (1,0,0,0,0,0,0,0)
noncomputable def a121 (x0 x1:Int) (x2:LL) (p:Nat×Nat×Nat×Nat×Nat×Int×Int×Int):Res := firstT [((Nat.beq (p.1) 0),.agg #[vf (p.2.1),vf (p.2.2.1),vf (p.2.2.2.1),vf (p.2.2.2.2.1),vi (p.2.2.2.2.2.1)],⟨[⟨true,(some (.cells [wsl 1,vi (p.2.2.2.2.2.2.1),.int .u64 (p.2.2.2.2.2.2.2)]))⟩,(tf [.int .u8] x2)],2,[0]⟩)]
noncomputable def w121 (x0 x1:Int) (x2:LL):Res :=
 let c0 := (r56 300 ((r56 16 ((r56 32 x0 x1 x2).2.2.1) ((r56 32 x0 x1 x2).2.2.2) x2).2.2.1) ((r56 16 ((r56 32 x0 x1 x2).2.2.1) ((r56 32 x0 x1 x2).2.2.2) x2).2.2.2) x2)
 (cond (Nat.beq ((r56 32 x0 x1 x2).1) 0)
 (cond (Nat.beq ((r56 16 ((r56 32 x0 x1 x2).2.2.1) ((r56 32 x0 x1 x2).2.2.2) x2).1) 0) (cond (Nat.beq (c0.1) 0) (cond (Nat.beq ((r56 9 (c0.2.2.1) (c0.2.2.2) x2).1) 0) (a121 x0 x1 x2 (0,(fdiv .f32 (ofInt .f32 (IntKind.i64.wrap (1 + ((r56 32 x0 x1 x2).2.1)))) 1082130432),(fdiv .f32 (ofInt .f32 (IntKind.i64.wrap (1 + ((r56 16 ((r56 32 x0 x1 x2).2.2.1) ((r56 32 x0 x1 x2).2.2.2) x2).2.1)))) 1098907648),(ofInt .f32 (IntKind.i64.wrap ((c0.2.1) - 10))),(fdiv .f32 (ofInt .f32 ((r56 9 (c0.2.2.1) (c0.2.2.2) x2).2.1)) 1090519040),(-1),((r56 9 (c0.2.2.1) (c0.2.2.2) x2).2.2.1),((r56 9 (c0.2.2.1) (c0.2.2.2) x2).2.2.2))) none) none) none)
 none)
theorem e121 (x0 x1:Int) (x2:LL):evFn Try.prog ext T4 noL 200 Try.f121 [vp 0] ⟨[⟨true,(some (.cells [wsl 1,vi x0,.int .u64 x1]))⟩,(tf [.int .u8] x2)],2,[]⟩ = firstT [((Nat.beq ((r121 x0 x1 x2).1) 0),.agg #[vf ((r121 x0 x1 x2).2.1),vf ((r121 x0 x1 x2).2.2.1),vf ((r121 x0 x1 x2).2.2.2.1),vf ((r121 x0 x1 x2).2.2.2.2.1),vi ((r121 x0 x1 x2).2.2.2.2.2.1)],⟨[⟨true,(some (.cells [wsl 1,vi ((r121 x0 x1 x2).2.2.2.2.2.2.1),.int .u64 ((r121 x0 x1 x2).2.2.2.2.2.2.2)]))⟩,(tf [.int .u8] x2)],2,[0]⟩)] :=
 (show _ = w121 x0 x1 x2 from by kernel_rfl).trans
 (show w121 x0 x1 x2 = a121 x0 x1 x2 (r121 x0 x1 x2) from by unfold w121 r121; exact (cond_app (a121 x0 x1 x2) _ (cond_app (a121 x0 x1 x2) _ (cond_app (a121 x0 x1 x2) _ (cond_app (a121 x0 x1 x2) _ rfl rfl) rfl) rfl) rfl))
noncomputable def s121 (args:List Value) (s:St):List (Bool×Value×St) :=
 match args,s.h with
 | [.pointer (some ⟨f0,f1,some f2⟩)],[⟨true,some (.cells [.iface f3 .nilIface,.int .i64 x0,.int .u64 x1])⟩,⟨false,some (.tab [.int .u8] x2)⟩] => if f0 = 0 ∧ f1 = 0 ∧ f2 = 0 ∧ f3 = 1 then [((Nat.beq ((r121 x0 x1 x2).1) 0),.agg #[vf ((r121 x0 x1 x2).2.1),vf ((r121 x0 x1 x2).2.2.1),vf ((r121 x0 x1 x2).2.2.2.1),vf ((r121 x0 x1 x2).2.2.2.2.1),vi ((r121 x0 x1 x2).2.2.2.2.2.1)],⟨[⟨true,(some (.cells [wsl 1,vi ((r121 x0 x1 x2).2.2.2.2.2.2.1),.int .u64 ((r121 x0 x1 x2).2.2.2.2.2.2.2)]))⟩,(tf [.int .u8] x2)],2,[0]⟩)] else T4 121 args s
 | _,_ => T4 121 args s
noncomputable def T5:CallF := addF T4 121 s121
theorem ok5:CfOk Try.prog T5 := by
  refine cfOk_add ok4 fun args s r s' h1 h2 h3 => ?_
  unfold s121 at h3; split at h3
  · rename_i h; split at h3
    · rename_i hc; obtain ⟨rfl,rfl,rfl,rfl⟩ := hc; exact callOk ok4 Try.func121 h1 h2 h (lfOkF_no _ _).body (e121 _ _ _) rfl h3
    · exact ok4 _ _ _ _ _ h1 h2 h3
  · exact ok4 _ _ _ _ _ h1 h2 h3

noncomputable def b54l0 (ih:Int→Int→Int→LL→LL→(Nat×Int×Int×LL)) (x0 x1 x2:Int) (x3 x4:LL):Nat×Int×Int×LL :=
 cond (decide ((x0:Int) > 0)) (cond (Nat.beq ((r121 x1 x2 x4).1) 0) (cond (Nat.ble ((x3.length + 1) * 25) 140737488355328) (cond (Nat.beq ((ih (IntKind.i64.wrap (x0 - 1)) ((r121 x1 x2 x4).2.2.2.2.2.2.1) ((r121 x1 x2 x4).2.2.2.2.2.2.2) (((x3.drop 0).take x3.length) ++ ([[((((r121 x1 x2 x4).2.1):Nat):Int),((((r121 x1 x2 x4).2.2.1):Nat):Int),((((r121 x1 x2 x4).2.2.2.1):Nat):Int),((((r121 x1 x2 x4).2.2.2.2.1):Nat):Int),((r121 x1 x2 x4).2.2.2.2.2.1)]]:LL)) x4).1) 0) (0,((ih (IntKind.i64.wrap (x0 - 1)) ((r121 x1 x2 x4).2.2.2.2.2.2.1) ((r121 x1 x2 x4).2.2.2.2.2.2.2) (((x3.drop 0).take x3.length) ++ ([[((((r121 x1 x2 x4).2.1):Nat):Int),((((r121 x1 x2 x4).2.2.1):Nat):Int),((((r121 x1 x2 x4).2.2.2.1):Nat):Int),((((r121 x1 x2 x4).2.2.2.2.1):Nat):Int),((r121 x1 x2 x4).2.2.2.2.2.1)]]:LL)) x4).2.1),((ih (IntKind.i64.wrap (x0 - 1)) ((r121 x1 x2 x4).2.2.2.2.2.2.1) ((r121 x1 x2 x4).2.2.2.2.2.2.2) (((x3.drop 0).take x3.length) ++ ([[((((r121 x1 x2 x4).2.1):Nat):Int),((((r121 x1 x2 x4).2.2.1):Nat):Int),((((r121 x1 x2 x4).2.2.2.1):Nat):Int),((((r121 x1 x2 x4).2.2.2.2.1):Nat):Int),((r121 x1 x2 x4).2.2.2.2.2.1)]]:LL)) x4).2.2.1),((ih (IntKind.i64.wrap (x0 - 1)) ((r121 x1 x2 x4).2.2.2.2.2.2.1) ((r121 x1 x2 x4).2.2.2.2.2.2.2) (((x3.drop 0).take x3.length) ++ ([[((((r121 x1 x2 x4).2.1):Nat):Int),((((r121 x1 x2 x4).2.2.1):Nat):Int),((((r121 x1 x2 x4).2.2.2.1):Nat):Int),((((r121 x1 x2 x4).2.2.2.2.1):Nat):Int),((r121 x1 x2 x4).2.2.2.2.2.1)]]:LL)) x4).2.2.2)) (cond (Nat.beq ((ih (IntKind.i64.wrap (x0 - 1)) ((r121 x1 x2 x4).2.2.2.2.2.2.1) ((r121 x1 x2 x4).2.2.2.2.2.2.2) (((x3.drop 0).take x3.length) ++ ([[((((r121 x1 x2 x4).2.1):Nat):Int),((((r121 x1 x2 x4).2.2.1):Nat):Int),((((r121 x1 x2 x4).2.2.2.1):Nat):Int),((((r121 x1 x2 x4).2.2.2.2.1):Nat):Int),((r121 x1 x2 x4).2.2.2.2.2.1)]]:LL)) x4).1) 1) (0,((r121 x1 x2 x4).2.2.2.2.2.2.1),((r121 x1 x2 x4).2.2.2.2.2.2.2),(((x3.drop 0).take x3.length) ++ ([[((((r121 x1 x2 x4).2.1):Nat):Int),((((r121 x1 x2 x4).2.2.1):Nat):Int),((((r121 x1 x2 x4).2.2.2.1):Nat):Int),((((r121 x1 x2 x4).2.2.2.2.1):Nat):Int),((r121 x1 x2 x4).2.2.2.2.2.1)]]:LL))) (2,0,0,[]))) (2,0,0,[])) (2,0,0,[])) (1,0,0,[])
noncomputable def r54l0:Nat→Int→Int→Int→LL→LL→(Nat×Int×Int×LL)
 | 0 => fun _ _ _ _ _ => (2,0,0,[])
 | m + 1 => b54l0 (r54l0 m)
noncomputable def a54l0 (x0 x1 x2:Int) (x3 x4:LL) (p:Nat×Int×Int×LL):Option (Fin'×List Value×St) := firstT ([((Nat.beq (p.1) 0),.exit 0,[vp 0,wsl 3],⟨[⟨true,(some (.cells [wsl 2,vi (p.2.1),.int .u64 (p.2.2.1)]))⟩,⟨true,none⟩,(tf [.int .u8] x4),(tb sc0 (p.2.2.2))],3,[0,1]⟩),((Nat.beq (p.1) 1),.exit 0,[vp 0,wsl 1],⟨[⟨true,(some (.cells [wsl 2,vi x1,.int .u64 x2]))⟩,(tb sc0 x3),(tf [.int .u8] x4)],3,[0,1]⟩)].map fun (b,x) => (b,(x.1,frameOf 45 [0,3] x.2.1,x.2.2)))
noncomputable def u54l0 (x0 x1 x2:Int) (x3 x4:LL) (p:Nat×Int×Int×LL):Option (Fin'×List Value×St) := alts ([((Nat.beq (p.1) 0),.exit 0,[vp 0,wsl 3],⟨[⟨true,(some (.cells [wsl 2,vi (p.2.1),.int .u64 (p.2.2.1)]))⟩,⟨true,none⟩,(tf [.int .u8] x4),(tb sc0 (p.2.2.2))],3,[0,1]⟩),((Nat.beq (p.1) 1),.exit 0,[vp 0,wsl 1],⟨[⟨true,(some (.cells [wsl 2,vi x1,.int .u64 x2]))⟩,(tb sc0 x3),(tf [.int .u8] x4)],3,[0,1]⟩)].map fun (b,x) => (b,(x.1,frameOf 45 [0,3] x.2.1,x.2.2))) some
theorem v54l0 (x0 x1 x2:Int) (x3 x4:LL) (p:Nat×Int×Int×LL):u54l0 x0 x1 x2 x3 x4 p = a54l0 x0 x1 x2 x3 x4 p := alts_first _
noncomputable def q54l0 (m:Nat):SumK := fun vals s =>
 match vals,s.h with
 | [.pointer (some ⟨f0,f1,some f2⟩),.iface f3 .nilIface,.int .i64 x0],[⟨true,some (.cells [.iface f4 .nilIface,.int .i64 x1,.int .u64 x2])⟩,⟨true,some (.tab [.fl .f32,.fl .f32,.fl .f32,.fl .f32,.int .i64] x3)⟩,⟨false,some (.tab [.int .u8] x4)⟩] => if f0 = 0 ∧ f1 = 0 ∧ f2 = 0 ∧ f3 = 1 ∧ f4 = 2 then [((Nat.beq ((r54l0 m x0 x1 x2 x3 x4).1) 0),.exit 0,[vp 0,wsl 3],⟨[⟨true,(some (.cells [wsl 2,vi ((r54l0 m x0 x1 x2 x3 x4).2.1),.int .u64 ((r54l0 m x0 x1 x2 x3 x4).2.2.1)]))⟩,⟨true,none⟩,(tf [.int .u8] x4),(tb sc0 ((r54l0 m x0 x1 x2 x3 x4).2.2.2))],3,[0,1]⟩),((Nat.beq ((r54l0 m x0 x1 x2 x3 x4).1) 1),.exit 0,[vp 0,wsl 1],⟨[⟨true,(some (.cells [wsl 2,vi x1,.int .u64 x2]))⟩,(tb sc0 x3),(tf [.int .u8] x4)],3,[0,1]⟩)] else noQ vals s
 | _,_ => noQ vals s
noncomputable def w54l0 (ih:Int→Int→Int→LL→LL→(Nat×Int×Int×LL)) (x0 x1 x2:Int) (x3 x4:LL):Option (Fin'×List Value×St) :=
 (cond (decide ((x0:Int) > 0))
 (cond (Nat.beq ((r121 x1 x2 x4).1) 0) (cond (Nat.ble ((x3.length + 1) * 25) 140737488355328) (cond (Nat.beq ((ih (IntKind.i64.wrap (x0 - 1)) ((r121 x1 x2 x4).2.2.2.2.2.2.1) ((r121 x1 x2 x4).2.2.2.2.2.2.2) (((x3.drop 0).take x3.length) ++ ([[((((r121 x1 x2 x4).2.1):Nat):Int),((((r121 x1 x2 x4).2.2.1):Nat):Int),((((r121 x1 x2 x4).2.2.2.1):Nat):Int),((((r121 x1 x2 x4).2.2.2.2.1):Nat):Int),((r121 x1 x2 x4).2.2.2.2.2.1)]]:LL)) x4).1) 0) (a54l0 x0 x1 x2 x3 x4 (0,((ih (IntKind.i64.wrap (x0 - 1)) ((r121 x1 x2 x4).2.2.2.2.2.2.1) ((r121 x1 x2 x4).2.2.2.2.2.2.2) (((x3.drop 0).take x3.length) ++ ([[((((r121 x1 x2 x4).2.1):Nat):Int),((((r121 x1 x2 x4).2.2.1):Nat):Int),((((r121 x1 x2 x4).2.2.2.1):Nat):Int),((((r121 x1 x2 x4).2.2.2.2.1):Nat):Int),((r121 x1 x2 x4).2.2.2.2.2.1)]]:LL)) x4).2.1),((ih (IntKind.i64.wrap (x0 - 1)) ((r121 x1 x2 x4).2.2.2.2.2.2.1) ((r121 x1 x2 x4).2.2.2.2.2.2.2) (((x3.drop 0).take x3.length) ++ ([[((((r121 x1 x2 x4).2.1):Nat):Int),((((r121 x1 x2 x4).2.2.1):Nat):Int),((((r121 x1 x2 x4).2.2.2.1):Nat):Int),((((r121 x1 x2 x4).2.2.2.2.1):Nat):Int),((r121 x1 x2 x4).2.2.2.2.2.1)]]:LL)) x4).2.2.1),((ih (IntKind.i64.wrap (x0 - 1)) ((r121 x1 x2 x4).2.2.2.2.2.2.1) ((r121 x1 x2 x4).2.2.2.2.2.2.2) (((x3.drop 0).take x3.length) ++ ([[((((r121 x1 x2 x4).2.1):Nat):Int),((((r121 x1 x2 x4).2.2.1):Nat):Int),((((r121 x1 x2 x4).2.2.2.1):Nat):Int),((((r121 x1 x2 x4).2.2.2.2.1):Nat):Int),((r121 x1 x2 x4).2.2.2.2.2.1)]]:LL)) x4).2.2.2))) (cond (Nat.beq ((ih (IntKind.i64.wrap (x0 - 1)) ((r121 x1 x2 x4).2.2.2.2.2.2.1) ((r121 x1 x2 x4).2.2.2.2.2.2.2) (((x3.drop 0).take x3.length) ++ ([[((((r121 x1 x2 x4).2.1):Nat):Int),((((r121 x1 x2 x4).2.2.1):Nat):Int),((((r121 x1 x2 x4).2.2.2.1):Nat):Int),((((r121 x1 x2 x4).2.2.2.2.1):Nat):Int),((r121 x1 x2 x4).2.2.2.2.2.1)]]:LL)) x4).1) 1) (a54l0 x0 x1 x2 x3 x4 (0,((r121 x1 x2 x4).2.2.2.2.2.2.1),((r121 x1 x2 x4).2.2.2.2.2.2.2),(((x3.drop 0).take x3.length) ++ ([[((((r121 x1 x2 x4).2.1):Nat):Int),((((r121 x1 x2 x4).2.2.1):Nat):Int),((((r121 x1 x2 x4).2.2.2.1):Nat):Int),((((r121 x1 x2 x4).2.2.2.2.1):Nat):Int),((r121 x1 x2 x4).2.2.2.2.2.1)]]:LL)))) none)) none) none)
 (a54l0 x0 x1 x2 x3 x4 (1,0,0,[])))
theorem e54l0 (m:Nat) (x0 x1 x2:Int) (x3 x4:LL):evC Try.prog ext T5 noL 200 (loopN Try.f54 0) (loopTail ([0,3,4],[]) [0,3] [0,1] (sumK 45 [0,3,4] [0,3] (q54l0 m))) (frameOf 45 [0,3,4] [vp 0,wsl 1,vi x0]) ⟨[⟨true,(some (.cells [wsl 2,vi x1,.int .u64 x2]))⟩,(tb sc0 x3),(tf [.int .u8] x4)],3,[]⟩ = firstT ([((Nat.beq ((r54l0 (m + 1) x0 x1 x2 x3 x4).1) 0),.exit 0,[vp 0,wsl 3],⟨[⟨true,(some (.cells [wsl 2,vi ((r54l0 (m + 1) x0 x1 x2 x3 x4).2.1),.int .u64 ((r54l0 (m + 1) x0 x1 x2 x3 x4).2.2.1)]))⟩,⟨true,none⟩,(tf [.int .u8] x4),(tb sc0 ((r54l0 (m + 1) x0 x1 x2 x3 x4).2.2.2))],3,[0,1]⟩),((Nat.beq ((r54l0 (m + 1) x0 x1 x2 x3 x4).1) 1),.exit 0,[vp 0,wsl 1],⟨[⟨true,(some (.cells [wsl 2,vi x1,.int .u64 x2]))⟩,(tb sc0 x3),(tf [.int .u8] x4)],3,[0,1]⟩)].map fun (b,x) => (b,(x.1,frameOf 45 [0,3] x.2.1,x.2.2))) :=
 (show _ = w54l0 (r54l0 m) x0 x1 x2 x3 x4 from by kernel_rfl).trans
 (show w54l0 (r54l0 m) x0 x1 x2 x3 x4 = a54l0 x0 x1 x2 x3 x4 (r54l0 (m + 1) x0 x1 x2 x3 x4) from by unfold w54l0; show _ = a54l0 x0 x1 x2 x3 x4 (b54l0 (r54l0 m) x0 x1 x2 x3 x4); unfold b54l0; exact (cond_app (a54l0 x0 x1 x2 x3 x4) _ (cond_app (a54l0 x0 x1 x2 x3 x4) _ (cond_app (a54l0 x0 x1 x2 x3 x4) _ (cond_app (a54l0 x0 x1 x2 x3 x4) _ rfl (cond_app (a54l0 x0 x1 x2 x3 x4) _ rfl rfl)) rfl) rfl) rfl))
theorem qm54l0:∀ m,SumKOk Try.prog (loopN Try.f54 0) 45 [0,3,4] [0,3] (q54l0 m) := by
  intro m
  induction m with
  | zero =>
    intro vals s x h1 h2 h3
    unfold q54l0 at h3; split at h3
    · rename_i h; split at h3
      · rename_i hc; obtain ⟨rfl,rfl,rfl,rfl,rfl⟩ := hc; exact absurd h3 (by simp [r54l0,firstT,Nat.beq])
      · exact noQ_ok _ _ _ h1 h2 h3
    · exact noQ_ok _ _ _ h1 h2 h3
  | succ m ih =>
    intro vals s x h1 h2 h3
    unfold q54l0 at h3; split at h3
    · rename_i h; split at h3
      · rename_i hc; obtain ⟨rfl,rfl,rfl,rfl,rfl⟩ := hc; exact sum_step ok5 extOk mixed ((lfOkF_no _ _).inner (by kernel_rfl)) ih h1 h2 h (e54l0 m _ _ _ _ _) rfl h3
      · exact noQ_ok _ _ _ h1 h2 h3
    · exact noQ_ok _ _ _ h1 h2 h3
noncomputable def Q54l0:SumK := fun vals s => q54l0 (fuelOf vals s.h) vals s
theorem qok54l0:SumKOk Try.prog (loopN Try.f54 0) 45 [0,3,4] [0,3] Q54l0 := fuel_ok qm54l0 fuelOf
noncomputable def L54_1:LoopT := addL noL 4 ([0,3,4],[]) (sumK 45 [0,3,4] [0,3] Q54l0)
theorem lok54_1:LfOkF Try.prog L54_1 Try.f54 := lfOkF_add (lfOkF_no _ _) qok54l0 (by kernel_rfl) (by kernel_rfl) (by kernel_rfl)

noncomputable def r122 (x0 x1:Int) (x2:LL):Nat×Bool×Int×Int :=
 cond (Nat.beq ((r56 3 x0 x1 x2).1) 0) (0,((((r56 3 x0 x1 x2).2.1):Int) == 0),((r56 3 x0 x1 x2).2.2.1),((r56 3 x0 x1 x2).2.2.2)) (1,false,0,0)
noncomputable def a122 (x0 x1:Int) (x2:LL) (p:Nat×Bool×Int×Int):Res := firstT [((Nat.beq (p.1) 0),.bool (p.2.1),⟨[⟨true,(some (.cells [wsl 1,vi (p.2.2.1),.int .u64 (p.2.2.2)]))⟩,(tf [.int .u8] x2)],2,[0]⟩)]
noncomputable def w122 (x0 x1:Int) (x2:LL):Res :=
 (cond (Nat.beq ((r56 3 x0 x1 x2).1) 0)
 (a122 x0 x1 x2 (0,((((r56 3 x0 x1 x2).2.1):Int) == 0),((r56 3 x0 x1 x2).2.2.1),((r56 3 x0 x1 x2).2.2.2)))
 none)
theorem e122 (x0 x1:Int) (x2:LL):evFn Try.prog ext T5 noL 200 Try.f122 [vp 0,vi 3] ⟨[⟨true,(some (.cells [wsl 1,vi x0,.int .u64 x1]))⟩,(tf [.int .u8] x2)],2,[]⟩ = firstT [((Nat.beq ((r122 x0 x1 x2).1) 0),.bool ((r122 x0 x1 x2).2.1),⟨[⟨true,(some (.cells [wsl 1,vi ((r122 x0 x1 x2).2.2.1),.int .u64 ((r122 x0 x1 x2).2.2.2)]))⟩,(tf [.int .u8] x2)],2,[0]⟩)] :=
 (show _ = w122 x0 x1 x2 from by kernel_rfl).trans
 (show w122 x0 x1 x2 = a122 x0 x1 x2 (r122 x0 x1 x2) from by unfold w122 r122; exact (cond_app (a122 x0 x1 x2) _ rfl rfl))
noncomputable def s122 (args:List Value) (s:St):List (Bool×Value×St) :=
 match args,s.h with
 | [.pointer (some ⟨f0,f1,some f2⟩),.int .i64 f3],[⟨true,some (.cells [.iface f4 .nilIface,.int .i64 x0,.int .u64 x1])⟩,⟨false,some (.tab [.int .u8] x2)⟩] => if f0 = 0 ∧ f1 = 0 ∧ f2 = 0 ∧ f3 = 3 ∧ f4 = 1 then [((Nat.beq ((r122 x0 x1 x2).1) 0),.bool ((r122 x0 x1 x2).2.1),⟨[⟨true,(some (.cells [wsl 1,vi ((r122 x0 x1 x2).2.2.1),.int .u64 ((r122 x0 x1 x2).2.2.2)]))⟩,(tf [.int .u8] x2)],2,[0]⟩)] else T5 122 args s
 | _,_ => T5 122 args s
noncomputable def T6:CallF := addF T5 122 s122
theorem ok6:CfOk Try.prog T6 := by
  refine cfOk_add ok5 fun args s r s' h1 h2 h3 => ?_
  unfold s122 at h3; split at h3
  · rename_i h; split at h3
    · rename_i hc; obtain ⟨rfl,rfl,rfl,rfl,rfl⟩ := hc; exact callOk ok5 Try.func122 h1 h2 h (lfOkF_no _ _).body (e122 _ _ _) rfl h3
    · exact ok5 _ _ _ _ _ h1 h2 h3
  · exact ok5 _ _ _ _ _ h1 h2 h3

noncomputable def b54l1 (ih:Int→Int→Int→Int→Int→LL→LL→(Nat×Int×Int×LL)) (x0 x1 x2 x3 x4:Int) (x5 x6:LL):Nat×Int×Int×LL :=
 cond (decide ((x2:Int) < x0)) (cond ((x2:Int) != x1) (cond (Nat.beq ((r122 x3 x4 x6).1) 0) (cond (!((r122 x3 x4 x6).2.1)) (cond ((decide ((0:Int) ≤ x2)) && (Nat.blt (Int.toNat x2) x5.length)) (ih x0 x1 (IntKind.i64.wrap (x2 + 1)) ((r122 x3 x4 x6).2.2.1) ((r122 x3 x4 x6).2.2.2) (x5.modify (Int.toNat x2) (fun r => spl 5 r 4 [x1])) x6) (1,0,0,[])) (ih x0 x1 (IntKind.i64.wrap (x2 + 1)) ((r122 x3 x4 x6).2.2.1) ((r122 x3 x4 x6).2.2.2) x5 x6)) (1,0,0,[])) (ih x0 x1 (IntKind.i64.wrap (x2 + 1)) x3 x4 x5 x6)) (0,x3,x4,x5)
noncomputable def r54l1:Nat→Int→Int→Int→Int→Int→LL→LL→(Nat×Int×Int×LL)
 | 0 => fun _ _ _ _ _ _ _ => (1,0,0,[])
 | m + 1 => b54l1 (r54l1 m)
noncomputable def a54l1 (x0 x1 x2 x3 x4:Int) (x5 x6:LL) (p:Nat×Int×Int×LL):Option (Fin'×List Value×St) := firstT ([((Nat.beq (p.1) 0),.exit 2,[wsl 1],⟨[⟨true,(some (.cells [wsl 2,vi (p.2.1),.int .u64 (p.2.2.1)]))⟩,(tb sc0 (p.2.2.2)),(tf [.int .u8] x6)],3,[0,1]⟩)].map fun (b,x) => (b,(x.1,frameOf 45 [3] x.2.1,x.2.2)))
noncomputable def u54l1 (x0 x1 x2 x3 x4:Int) (x5 x6:LL) (p:Nat×Int×Int×LL):Option (Fin'×List Value×St) := alts ([((Nat.beq (p.1) 0),.exit 2,[wsl 1],⟨[⟨true,(some (.cells [wsl 2,vi (p.2.1),.int .u64 (p.2.2.1)]))⟩,(tb sc0 (p.2.2.2)),(tf [.int .u8] x6)],3,[0,1]⟩)].map fun (b,x) => (b,(x.1,frameOf 45 [3] x.2.1,x.2.2))) some
theorem v54l1 (x0 x1 x2 x3 x4:Int) (x5 x6:LL) (p:Nat×Int×Int×LL):u54l1 x0 x1 x2 x3 x4 x5 x6 p = a54l1 x0 x1 x2 x3 x4 x5 x6 p := alts_first _
noncomputable def q54l1 (m:Nat):SumK := fun vals s =>
 match vals,s.h with
 | [.pointer (some ⟨f0,f1,some f2⟩),.iface f3 .nilIface,.int .i64 x0,.int .i64 x1,.int .i64 x2],[⟨true,some (.cells [.iface f4 .nilIface,.int .i64 x3,.int .u64 x4])⟩,⟨true,some (.tab [.fl .f32,.fl .f32,.fl .f32,.fl .f32,.int .i64] x5)⟩,⟨false,some (.tab [.int .u8] x6)⟩] => if f0 = 0 ∧ f1 = 0 ∧ f2 = 0 ∧ f3 = 1 ∧ f4 = 2 then [((Nat.beq ((r54l1 m x0 x1 x2 x3 x4 x5 x6).1) 0),.exit 2,[wsl 1],⟨[⟨true,(some (.cells [wsl 2,vi ((r54l1 m x0 x1 x2 x3 x4 x5 x6).2.1),.int .u64 ((r54l1 m x0 x1 x2 x3 x4 x5 x6).2.2.1)]))⟩,(tb sc0 ((r54l1 m x0 x1 x2 x3 x4 x5 x6).2.2.2)),(tf [.int .u8] x6)],3,[0,1]⟩)] else noQ vals s
 | _,_ => noQ vals s
noncomputable def w54l1 (ih:Int→Int→Int→Int→Int→LL→LL→(Nat×Int×Int×LL)) (x0 x1 x2 x3 x4:Int) (x5 x6:LL):Option (Fin'×List Value×St) :=
 (cond (decide ((x2:Int) < x0))
 (cond ((x2:Int) != x1) (cond (Nat.beq ((r122 x3 x4 x6).1) 0) (cond (!((r122 x3 x4 x6).2.1)) (cond ((decide ((0:Int) ≤ x2)) && (Nat.blt (Int.toNat x2) x5.length)) (cond (Nat.blt (Int.toNat x2) x5.length) (u54l1 x0 x1 x2 x3 x4 x5 x6 (ih x0 x1 (IntKind.i64.wrap (x2 + 1)) ((r122 x3 x4 x6).2.2.1) ((r122 x3 x4 x6).2.2.2) (x5.modify (Int.toNat x2) (fun r => spl 5 r 4 [x1])) x6)) none) none) (u54l1 x0 x1 x2 x3 x4 x5 x6 (ih x0 x1 (IntKind.i64.wrap (x2 + 1)) ((r122 x3 x4 x6).2.2.1) ((r122 x3 x4 x6).2.2.2) x5 x6))) none) (u54l1 x0 x1 x2 x3 x4 x5 x6 (ih x0 x1 (IntKind.i64.wrap (x2 + 1)) x3 x4 x5 x6)))
 (a54l1 x0 x1 x2 x3 x4 x5 x6 (0,x3,x4,x5)))
theorem e54l1 (m:Nat) (x0 x1 x2 x3 x4:Int) (x5 x6:LL):evC Try.prog ext T6 L54_1 200 (loopN Try.f54 1) (loopTail ([0,3,5,6,7],[]) [3] [0,1] (sumK 45 [0,3,5,6,7] [3] (q54l1 m))) (frameOf 45 [0,3,5,6,7] [vp 0,wsl 1,vi x0,vi x1,vi x2]) ⟨[⟨true,(some (.cells [wsl 2,vi x3,.int .u64 x4]))⟩,(tb sc0 x5),(tf [.int .u8] x6)],3,[]⟩ = firstT ([((Nat.beq ((r54l1 (m + 1) x0 x1 x2 x3 x4 x5 x6).1) 0),.exit 2,[wsl 1],⟨[⟨true,(some (.cells [wsl 2,vi ((r54l1 (m + 1) x0 x1 x2 x3 x4 x5 x6).2.1),.int .u64 ((r54l1 (m + 1) x0 x1 x2 x3 x4 x5 x6).2.2.1)]))⟩,(tb sc0 ((r54l1 (m + 1) x0 x1 x2 x3 x4 x5 x6).2.2.2)),(tf [.int .u8] x6)],3,[0,1]⟩)].map fun (b,x) => (b,(x.1,frameOf 45 [3] x.2.1,x.2.2))) :=
 (show _ = w54l1 (r54l1 m) x0 x1 x2 x3 x4 x5 x6 from by kernel_rfl).trans
 (show w54l1 (r54l1 m) x0 x1 x2 x3 x4 x5 x6 = a54l1 x0 x1 x2 x3 x4 x5 x6 (r54l1 (m + 1) x0 x1 x2 x3 x4 x5 x6) from by unfold w54l1; show _ = a54l1 x0 x1 x2 x3 x4 x5 x6 (b54l1 (r54l1 m) x0 x1 x2 x3 x4 x5 x6); unfold b54l1; exact (cond_both (a54l1 x0 x1 x2 x3 x4 x5 x6) _ (fun h0 => (cond_both (a54l1 x0 x1 x2 x3 x4 x5 x6) _ (fun h1 => (cond_both (a54l1 x0 x1 x2 x3 x4 x5 x6) _ (fun h2 => (cond_both (a54l1 x0 x1 x2 x3 x4 x5 x6) _ (fun h3 => (cond_both (a54l1 x0 x1 x2 x3 x4 x5 x6) _ (fun h4 => (cond_t (ev_and2 h4) (v54l1 x0 x1 x2 x3 x4 x5 x6 ((r54l1 m) x0 x1 (IntKind.i64.wrap (x2 + 1)) ((r122 x3 x4 x6).2.2.1) ((r122 x3 x4 x6).2.2.2) (x5.modify (Int.toNat x2) (fun r => spl 5 r 4 [x1])) x6)))) (fun h4 => rfl))) (fun h3 => (v54l1 x0 x1 x2 x3 x4 x5 x6 ((r54l1 m) x0 x1 (IntKind.i64.wrap (x2 + 1)) ((r122 x3 x4 x6).2.2.1) ((r122 x3 x4 x6).2.2.2) x5 x6))))) (fun h2 => rfl))) (fun h1 => (v54l1 x0 x1 x2 x3 x4 x5 x6 ((r54l1 m) x0 x1 (IntKind.i64.wrap (x2 + 1)) x3 x4 x5 x6))))) (fun h0 => rfl)))
theorem qm54l1:∀ m,SumKOk Try.prog (loopN Try.f54 1) 45 [0,3,5,6,7] [3] (q54l1 m) := by
  intro m
  induction m with
  | zero =>
    intro vals s x h1 h2 h3
    unfold q54l1 at h3; split at h3
    · rename_i h; split at h3
      · rename_i hc; obtain ⟨rfl,rfl,rfl,rfl,rfl⟩ := hc; exact absurd h3 (by simp [r54l1,firstT,Nat.beq])
      · exact noQ_ok _ _ _ h1 h2 h3
    · exact noQ_ok _ _ _ h1 h2 h3
  | succ m ih =>
    intro vals s x h1 h2 h3
    unfold q54l1 at h3; split at h3
    · rename_i h; split at h3
      · rename_i hc; obtain ⟨rfl,rfl,rfl,rfl,rfl⟩ := hc; exact sum_step ok6 extOk mixed (lok54_1.inner (by kernel_rfl)) ih h1 h2 h (e54l1 m _ _ _ _ _ _ _) rfl h3
      · exact noQ_ok _ _ _ h1 h2 h3
    · exact noQ_ok _ _ _ h1 h2 h3
noncomputable def Q54l1:SumK := fun vals s => q54l1 (fuelOf vals s.h) vals s
theorem qok54l1:SumKOk Try.prog (loopN Try.f54 1) 45 [0,3,5,6,7] [3] Q54l1 := fuel_ok qm54l1 fuelOf
noncomputable def L54_2:LoopT := addL L54_1 10 ([0,3,5,6,7],[]) (sumK 45 [0,3,5,6,7] [3] Q54l1)
theorem lok54_2:LfOkF Try.prog L54_2 Try.f54 := lfOkF_add lok54_1 qok54l1 (by kernel_rfl) (by kernel_rfl) (by kernel_rfl)

noncomputable def r54 (x0 x1:Int) (x2:LL):Nat×Int×Int×LL :=
 let c1 := (r54l0 (1000 + x2.length + 0) (IntKind.i64.wrap (1 + ((r56 5 x0 x1 x2).2.1))) ((r56 5 x0 x1 x2).2.2.1) ((r56 5 x0 x1 x2).2.2.2) ([]:LL) x2)
 let c3 := (r54l1 (1000 + x2.length + (c1.2.2.2).length) (((c1.2.2.2).length:Nat):Int) ((r56 (((c1.2.2.2).length:Nat):Int) (c1.2.1) (c1.2.2.1) x2).2.1) 0 ((r56 (((c1.2.2.2).length:Nat):Int) (c1.2.1) (c1.2.2.1) x2).2.2.1) ((r56 (((c1.2.2.2).length:Nat):Int) (c1.2.1) (c1.2.2.1) x2).2.2.2) (c1.2.2.2) x2)
 let c4 := (r54l1 (1000 + x2.length + 0) 0 ((r56 0 ((r56 5 x0 x1 x2).2.2.1) ((r56 5 x0 x1 x2).2.2.2) x2).2.1) 0 ((r56 0 ((r56 5 x0 x1 x2).2.2.1) ((r56 5 x0 x1 x2).2.2.2) x2).2.2.1) ((r56 0 ((r56 5 x0 x1 x2).2.2.1) ((r56 5 x0 x1 x2).2.2.2) x2).2.2.2) ([]:LL) x2)
 cond (Nat.beq ((r56 5 x0 x1 x2).1) 0) (cond (Nat.beq (c1.1) 0) (cond (Nat.beq ((r56 (((c1.2.2.2).length:Nat):Int) (c1.2.1) (c1.2.2.1) x2).1) 0) (cond (Nat.beq (c3.1) 0) (0,(c3.2.1),(c3.2.2.1),(c3.2.2.2)) (1,0,0,[])) (1,0,0,[])) (cond (Nat.beq (c1.1) 1) (cond (Nat.beq ((r56 0 ((r56 5 x0 x1 x2).2.2.1) ((r56 5 x0 x1 x2).2.2.2) x2).1) 0) (cond (Nat.beq (c4.1) 0) (0,(c4.2.1),(c4.2.2.1),(c4.2.2.2)) (1,0,0,[])) (1,0,0,[])) (1,0,0,[]))) (1,0,0,[])
noncomputable def a54 (x0 x1:Int) (x2:LL) (p:Nat×Int×Int×LL):Res := firstT [((Nat.beq (p.1) 0),wsl 2,⟨[⟨true,(some (.cells [wsl 1,vi (p.2.1),.int .u64 (p.2.2.1)]))⟩,(tf [.int .u8] x2),(tb sc0 (p.2.2.2))],2,[0]⟩)]
noncomputable def w54 (x0 x1:Int) (x2:LL):Res :=
 let c1 := (r54l0 (1000 + x2.length + 0) (IntKind.i64.wrap (1 + ((r56 5 x0 x1 x2).2.1))) ((r56 5 x0 x1 x2).2.2.1) ((r56 5 x0 x1 x2).2.2.2) ([]:LL) x2)
 let c3 := (r54l1 (1000 + x2.length + (c1.2.2.2).length) (((c1.2.2.2).length:Nat):Int) ((r56 (((c1.2.2.2).length:Nat):Int) (c1.2.1) (c1.2.2.1) x2).2.1) 0 ((r56 (((c1.2.2.2).length:Nat):Int) (c1.2.1) (c1.2.2.1) x2).2.2.1) ((r56 (((c1.2.2.2).length:Nat):Int) (c1.2.1) (c1.2.2.1) x2).2.2.2) (c1.2.2.2) x2)
 let c4 := (r54l1 (1000 + x2.length + 0) 0 ((r56 0 ((r56 5 x0 x1 x2).2.2.1) ((r56 5 x0 x1 x2).2.2.2) x2).2.1) 0 ((r56 0 ((r56 5 x0 x1 x2).2.2.1) ((r56 5 x0 x1 x2).2.2.2) x2).2.2.1) ((r56 0 ((r56 5 x0 x1 x2).2.2.1) ((r56 5 x0 x1 x2).2.2.2) x2).2.2.2) ([]:LL) x2)
 (cond (Nat.beq ((r56 5 x0 x1 x2).1) 0)
 (cond (Nat.beq (c1.1) 0) (cond (Nat.beq ((r56 (((c1.2.2.2).length:Nat):Int) (c1.2.1) (c1.2.2.1) x2).1) 0) (cond (Nat.beq (c3.1) 0) (a54 x0 x1 x2 (0,(c3.2.1),(c3.2.2.1),(c3.2.2.2))) none) none) (cond (Nat.beq (c1.1) 1) (cond (Nat.beq ((r56 0 ((r56 5 x0 x1 x2).2.2.1) ((r56 5 x0 x1 x2).2.2.2) x2).1) 0) (cond (Nat.beq (c4.1) 0) (a54 x0 x1 x2 (0,(c4.2.1),(c4.2.2.1),(c4.2.2.2))) none) none) none))
 none)
theorem e54 (x0 x1:Int) (x2:LL):evFn Try.prog ext T6 L54_2 200 Try.f54 [vp 0] ⟨[⟨true,(some (.cells [wsl 1,vi x0,.int .u64 x1]))⟩,(tf [.int .u8] x2)],2,[]⟩ = firstT [((Nat.beq ((r54 x0 x1 x2).1) 0),wsl 2,⟨[⟨true,(some (.cells [wsl 1,vi ((r54 x0 x1 x2).2.1),.int .u64 ((r54 x0 x1 x2).2.2.1)]))⟩,(tf [.int .u8] x2),(tb sc0 ((r54 x0 x1 x2).2.2.2))],2,[0]⟩)] :=
 (show _ = w54 x0 x1 x2 from by kernel_rfl).trans
 (show w54 x0 x1 x2 = a54 x0 x1 x2 (r54 x0 x1 x2) from by unfold w54 r54; exact (cond_app (a54 x0 x1 x2) _ (cond_app (a54 x0 x1 x2) _ (cond_app (a54 x0 x1 x2) _ (cond_app (a54 x0 x1 x2) _ rfl rfl) rfl) (cond_app (a54 x0 x1 x2) _ (cond_app (a54 x0 x1 x2) _ (cond_app (a54 x0 x1 x2) _ rfl rfl) rfl) rfl)) rfl))
noncomputable def s54 (args:List Value) (s:St):List (Bool×Value×St) :=
 match args,s.h with
 | [.pointer (some ⟨f0,f1,some f2⟩)],[⟨true,some (.cells [.iface f3 .nilIface,.int .i64 x0,.int .u64 x1])⟩,⟨false,some (.tab [.int .u8] x2)⟩] => if f0 = 0 ∧ f1 = 0 ∧ f2 = 0 ∧ f3 = 1 then [((Nat.beq ((r54 x0 x1 x2).1) 0),wsl 2,⟨[⟨true,(some (.cells [wsl 1,vi ((r54 x0 x1 x2).2.1),.int .u64 ((r54 x0 x1 x2).2.2.1)]))⟩,(tf [.int .u8] x2),(tb sc0 ((r54 x0 x1 x2).2.2.2))],2,[0]⟩)] else T6 54 args s
 | _,_ => T6 54 args s
noncomputable def T7:CallF := addF T6 54 s54
theorem ok7:CfOk Try.prog T7 := by
  refine cfOk_add ok6 fun args s r s' h1 h2 h3 => ?_
  unfold s54 at h3; split at h3
  · rename_i h; split at h3
    · rename_i hc; obtain ⟨rfl,rfl,rfl,rfl⟩ := hc; exact callOk ok6 Try.func54 h1 h2 h lok54_2.body (e54 _ _ _) rfl h3
    · exact ok6 _ _ _ _ _ h1 h2 h3
  · exact ok6 _ _ _ _ _ h1 h2 h3

noncomputable def r9 (x0:LL):Nat×LL :=
 cond (Nat.beq ((r54 ((r55 x0).1) ((r55 x0).2) x0).1) 0) (0,((r54 ((r55 x0).1) ((r55 x0).2) x0).2.2.2)) (1,[])
noncomputable def a9 (x0:LL) (p:Nat×LL):Res := firstT [((Nat.beq (p.1) 0),wsl 1,⟨[(tf [.int .u8] x0),(tb sc0 (p.2))],1,[]⟩)]
noncomputable def w9 (x0:LL):Res :=
 (cond (Nat.beq ((r54 ((r55 x0).1) ((r55 x0).2) x0).1) 0)
 (a9 x0 (0,((r54 ((r55 x0).1) ((r55 x0).2) x0).2.2.2)))
 none)
theorem e9 (x0:LL):evFn Try.prog ext T7 noL 200 Try.f9 [wsl 0] ⟨[(tf [.int .u8] x0)],1,[]⟩ = firstT [((Nat.beq ((r9 x0).1) 0),wsl 1,⟨[(tf [.int .u8] x0),(tb sc0 ((r9 x0).2))],1,[]⟩)] :=
 (show _ = w9 x0 from by kernel_rfl).trans
 (show w9 x0 = a9 x0 (r9 x0) from by unfold w9 r9; exact (cond_app (a9 x0) _ rfl rfl))
noncomputable def s9 (args:List Value) (s:St):List (Bool×Value×St) :=
 match args,s.h with
 | [.iface f0 .nilIface],[⟨false,some (.tab [.int .u8] x0)⟩] => if f0 = 0 then [((Nat.beq ((r9 x0).1) 0),wsl 1,⟨[(tf [.int .u8] x0),(tb sc0 ((r9 x0).2))],1,[]⟩)] else T7 9 args s
 | _,_ => T7 9 args s
noncomputable def T8:CallF := addF T7 9 s9
theorem ok8:CfOk Try.prog T8 := by
  refine cfOk_add ok7 fun args s r s' h1 h2 h3 => ?_
  unfold s9 at h3; split at h3
  · rename_i h; split at h3
    · rename_i hc; obtain ⟨rfl⟩ := hc; exact callOk ok7 Try.func9 h1 h2 h (lfOkF_no _ _).body (e9 _) rfl h3
    · exact ok7 _ _ _ _ _ h1 h2 h3
  · exact ok7 _ _ _ _ _ h1 h2 h3

noncomputable def b37l0 (ih:Int→LL→Int→Int→LL→LL→(Nat×Int×Int×LL)) (x0:Int) (x1:LL) (x2 x3:Int) (x4 x5:LL):Nat×Int×Int×LL :=
 cond (decide ((x0:Int) < ((x1.length:Nat):Int))) (cond (Nat.beq ((r56 600 x2 x3 x5).1) 0) (cond (Nat.ble ((x4.length + 1) * 5) 140737488355328) (cond (Nat.beq ((ih (IntKind.i64.wrap (x0 + 1)) x1 ((r56 600 x2 x3 x5).2.2.1) ((r56 600 x2 x3 x5).2.2.2) (((x4.drop 0).take x4.length) ++ ([[(((ofInt .f32 ((r56 600 x2 x3 x5).2.1)):Nat):Int)]]:LL)) x5).1) 0) (0,((ih (IntKind.i64.wrap (x0 + 1)) x1 ((r56 600 x2 x3 x5).2.2.1) ((r56 600 x2 x3 x5).2.2.2) (((x4.drop 0).take x4.length) ++ ([[(((ofInt .f32 ((r56 600 x2 x3 x5).2.1)):Nat):Int)]]:LL)) x5).2.1),((ih (IntKind.i64.wrap (x0 + 1)) x1 ((r56 600 x2 x3 x5).2.2.1) ((r56 600 x2 x3 x5).2.2.2) (((x4.drop 0).take x4.length) ++ ([[(((ofInt .f32 ((r56 600 x2 x3 x5).2.1)):Nat):Int)]]:LL)) x5).2.2.1),((ih (IntKind.i64.wrap (x0 + 1)) x1 ((r56 600 x2 x3 x5).2.2.1) ((r56 600 x2 x3 x5).2.2.2) (((x4.drop 0).take x4.length) ++ ([[(((ofInt .f32 ((r56 600 x2 x3 x5).2.1)):Nat):Int)]]:LL)) x5).2.2.2)) (cond (Nat.beq ((ih (IntKind.i64.wrap (x0 + 1)) x1 ((r56 600 x2 x3 x5).2.2.1) ((r56 600 x2 x3 x5).2.2.2) (((x4.drop 0).take x4.length) ++ ([[(((ofInt .f32 ((r56 600 x2 x3 x5).2.1)):Nat):Int)]]:LL)) x5).1) 1) (0,((r56 600 x2 x3 x5).2.2.1),((r56 600 x2 x3 x5).2.2.2),(((x4.drop 0).take x4.length) ++ ([[(((ofInt .f32 ((r56 600 x2 x3 x5).2.1)):Nat):Int)]]:LL))) (2,0,0,[]))) (2,0,0,[])) (2,0,0,[])) (1,0,0,[])
noncomputable def r37l0:Nat→Int→LL→Int→Int→LL→LL→(Nat×Int×Int×LL)
 | 0 => fun _ _ _ _ _ _ => (2,0,0,[])
 | m + 1 => b37l0 (r37l0 m)
noncomputable def a37l0 (x0:Int) (x1:LL) (x2 x3:Int) (x4 x5:LL) (p:Nat×Int×Int×LL):Option (Fin'×List Value×St) := firstT ([((Nat.beq (p.1) 0),.exit 0,[wsl 4],⟨[(tb sc0 x1),⟨true,(some (.cells [wsl 3,vi (p.2.1),.int .u64 (p.2.2.1)]))⟩,⟨true,none⟩,(tf [.int .u8] x5),(tb [.fl .f32] (p.2.2.2))],4,[1,2]⟩),((Nat.beq (p.1) 1),.exit 0,[wsl 2],⟨[(tb sc0 x1),⟨true,(some (.cells [wsl 3,vi x2,.int .u64 x3]))⟩,(tb [.fl .f32] x4),(tf [.int .u8] x5)],4,[1,2]⟩)].map fun (b,x) => (b,(x.1,frameOf 24 [6] x.2.1,x.2.2)))
noncomputable def u37l0 (x0:Int) (x1:LL) (x2 x3:Int) (x4 x5:LL) (p:Nat×Int×Int×LL):Option (Fin'×List Value×St) := alts ([((Nat.beq (p.1) 0),.exit 0,[wsl 4],⟨[(tb sc0 x1),⟨true,(some (.cells [wsl 3,vi (p.2.1),.int .u64 (p.2.2.1)]))⟩,⟨true,none⟩,(tf [.int .u8] x5),(tb [.fl .f32] (p.2.2.2))],4,[1,2]⟩),((Nat.beq (p.1) 1),.exit 0,[wsl 2],⟨[(tb sc0 x1),⟨true,(some (.cells [wsl 3,vi x2,.int .u64 x3]))⟩,(tb [.fl .f32] x4),(tf [.int .u8] x5)],4,[1,2]⟩)].map fun (b,x) => (b,(x.1,frameOf 24 [6] x.2.1,x.2.2))) some
theorem v37l0 (x0:Int) (x1:LL) (x2 x3:Int) (x4 x5:LL) (p:Nat×Int×Int×LL):u37l0 x0 x1 x2 x3 x4 x5 p = a37l0 x0 x1 x2 x3 x4 x5 p := alts_first _
noncomputable def q37l0 (m:Nat):SumK := fun vals s =>
 match vals,s.h with
 | [.iface f0 .nilIface,.pointer (some ⟨f1,f2,some f3⟩),.iface f4 .nilIface,.int .i64 x0],[⟨true,some (.tab [.fl .f32,.fl .f32,.fl .f32,.fl .f32,.int .i64] x1)⟩,⟨true,some (.cells [.iface f5 .nilIface,.int .i64 x2,.int .u64 x3])⟩,⟨true,some (.tab [.fl .f32] x4)⟩,⟨false,some (.tab [.int .u8] x5)⟩] => if f0 = 0 ∧ f1 = 1 ∧ f2 = 0 ∧ f3 = 0 ∧ f4 = 2 ∧ f5 = 3 then [((Nat.beq ((r37l0 m x0 x1 x2 x3 x4 x5).1) 0),.exit 0,[wsl 4],⟨[(tb sc0 x1),⟨true,(some (.cells [wsl 3,vi ((r37l0 m x0 x1 x2 x3 x4 x5).2.1),.int .u64 ((r37l0 m x0 x1 x2 x3 x4 x5).2.2.1)]))⟩,⟨true,none⟩,(tf [.int .u8] x5),(tb [.fl .f32] ((r37l0 m x0 x1 x2 x3 x4 x5).2.2.2))],4,[1,2]⟩),((Nat.beq ((r37l0 m x0 x1 x2 x3 x4 x5).1) 1),.exit 0,[wsl 2],⟨[(tb sc0 x1),⟨true,(some (.cells [wsl 3,vi x2,.int .u64 x3]))⟩,(tb [.fl .f32] x4),(tf [.int .u8] x5)],4,[1,2]⟩)] else noQ vals s
 | _,_ => noQ vals s
noncomputable def w37l0 (ih:Int→LL→Int→Int→LL→LL→(Nat×Int×Int×LL)) (x0:Int) (x1:LL) (x2 x3:Int) (x4 x5:LL):Option (Fin'×List Value×St) :=
 (cond (decide ((x0:Int) < ((x1.length:Nat):Int)))
 (cond (Nat.beq ((r56 600 x2 x3 x5).1) 0) (cond (Nat.ble ((x4.length + 1) * 5) 140737488355328) (cond (Nat.beq ((ih (IntKind.i64.wrap (x0 + 1)) x1 ((r56 600 x2 x3 x5).2.2.1) ((r56 600 x2 x3 x5).2.2.2) (((x4.drop 0).take x4.length) ++ ([[(((ofInt .f32 ((r56 600 x2 x3 x5).2.1)):Nat):Int)]]:LL)) x5).1) 0) (a37l0 x0 x1 x2 x3 x4 x5 (0,((ih (IntKind.i64.wrap (x0 + 1)) x1 ((r56 600 x2 x3 x5).2.2.1) ((r56 600 x2 x3 x5).2.2.2) (((x4.drop 0).take x4.length) ++ ([[(((ofInt .f32 ((r56 600 x2 x3 x5).2.1)):Nat):Int)]]:LL)) x5).2.1),((ih (IntKind.i64.wrap (x0 + 1)) x1 ((r56 600 x2 x3 x5).2.2.1) ((r56 600 x2 x3 x5).2.2.2) (((x4.drop 0).take x4.length) ++ ([[(((ofInt .f32 ((r56 600 x2 x3 x5).2.1)):Nat):Int)]]:LL)) x5).2.2.1),((ih (IntKind.i64.wrap (x0 + 1)) x1 ((r56 600 x2 x3 x5).2.2.1) ((r56 600 x2 x3 x5).2.2.2) (((x4.drop 0).take x4.length) ++ ([[(((ofInt .f32 ((r56 600 x2 x3 x5).2.1)):Nat):Int)]]:LL)) x5).2.2.2))) (cond (Nat.beq ((ih (IntKind.i64.wrap (x0 + 1)) x1 ((r56 600 x2 x3 x5).2.2.1) ((r56 600 x2 x3 x5).2.2.2) (((x4.drop 0).take x4.length) ++ ([[(((ofInt .f32 ((r56 600 x2 x3 x5).2.1)):Nat):Int)]]:LL)) x5).1) 1) (a37l0 x0 x1 x2 x3 x4 x5 (0,((r56 600 x2 x3 x5).2.2.1),((r56 600 x2 x3 x5).2.2.2),(((x4.drop 0).take x4.length) ++ ([[(((ofInt .f32 ((r56 600 x2 x3 x5).2.1)):Nat):Int)]]:LL)))) none)) none) none)
 (a37l0 x0 x1 x2 x3 x4 x5 (1,0,0,[])))
theorem e37l0 (m:Nat) (x0:Int) (x1:LL) (x2 x3:Int) (x4 x5:LL):evC Try.prog ext T8 noL 200 (loopN Try.f37 0) (loopTail ([1,5,6,7],[]) [6] [1,2] (sumK 24 [1,5,6,7] [6] (q37l0 m))) (frameOf 24 [1,5,6,7] [wsl 0,vp 1,wsl 2,vi x0]) ⟨[(tb sc0 x1),⟨true,(some (.cells [wsl 3,vi x2,.int .u64 x3]))⟩,(tb [.fl .f32] x4),(tf [.int .u8] x5)],4,[]⟩ = firstT ([((Nat.beq ((r37l0 (m + 1) x0 x1 x2 x3 x4 x5).1) 0),.exit 0,[wsl 4],⟨[(tb sc0 x1),⟨true,(some (.cells [wsl 3,vi ((r37l0 (m + 1) x0 x1 x2 x3 x4 x5).2.1),.int .u64 ((r37l0 (m + 1) x0 x1 x2 x3 x4 x5).2.2.1)]))⟩,⟨true,none⟩,(tf [.int .u8] x5),(tb [.fl .f32] ((r37l0 (m + 1) x0 x1 x2 x3 x4 x5).2.2.2))],4,[1,2]⟩),((Nat.beq ((r37l0 (m + 1) x0 x1 x2 x3 x4 x5).1) 1),.exit 0,[wsl 2],⟨[(tb sc0 x1),⟨true,(some (.cells [wsl 3,vi x2,.int .u64 x3]))⟩,(tb [.fl .f32] x4),(tf [.int .u8] x5)],4,[1,2]⟩)].map fun (b,x) => (b,(x.1,frameOf 24 [6] x.2.1,x.2.2))) :=
 (show _ = w37l0 (r37l0 m) x0 x1 x2 x3 x4 x5 from by kernel_rfl).trans
 (show w37l0 (r37l0 m) x0 x1 x2 x3 x4 x5 = a37l0 x0 x1 x2 x3 x4 x5 (r37l0 (m + 1) x0 x1 x2 x3 x4 x5) from by unfold w37l0; show _ = a37l0 x0 x1 x2 x3 x4 x5 (b37l0 (r37l0 m) x0 x1 x2 x3 x4 x5); unfold b37l0; exact (cond_app (a37l0 x0 x1 x2 x3 x4 x5) _ (cond_app (a37l0 x0 x1 x2 x3 x4 x5) _ (cond_app (a37l0 x0 x1 x2 x3 x4 x5) _ (cond_app (a37l0 x0 x1 x2 x3 x4 x5) _ rfl (cond_app (a37l0 x0 x1 x2 x3 x4 x5) _ rfl rfl)) rfl) rfl) rfl))
theorem qm37l0:∀ m,SumKOk Try.prog (loopN Try.f37 0) 24 [1,5,6,7] [6] (q37l0 m) := by
  intro m
  induction m with
  | zero =>
    intro vals s x h1 h2 h3
    unfold q37l0 at h3; split at h3
    · rename_i h; split at h3
      · rename_i hc; obtain ⟨rfl,rfl,rfl,rfl,rfl,rfl⟩ := hc; exact absurd h3 (by simp [r37l0,firstT,Nat.beq])
      · exact noQ_ok _ _ _ h1 h2 h3
    · exact noQ_ok _ _ _ h1 h2 h3
  | succ m ih =>
    intro vals s x h1 h2 h3
    unfold q37l0 at h3; split at h3
    · rename_i h; split at h3
      · rename_i hc; obtain ⟨rfl,rfl,rfl,rfl,rfl,rfl⟩ := hc; exact sum_step ok8 extOk mixed ((lfOkF_no _ _).inner (by kernel_rfl)) ih h1 h2 h (e37l0 m _ _ _ _ _ _) rfl h3
      · exact noQ_ok _ _ _ h1 h2 h3
    · exact noQ_ok _ _ _ h1 h2 h3
noncomputable def Q37l0:SumK := fun vals s => q37l0 (fuelOf vals s.h) vals s
theorem qok37l0:SumKOk Try.prog (loopN Try.f37 0) 24 [1,5,6,7] [6] Q37l0 := fuel_ok qm37l0 fuelOf
noncomputable def L37_1:LoopT := addL noL 5 ([1,5,6,7],[]) (sumK 24 [1,5,6,7] [6] Q37l0)
theorem lok37_1:LfOkF Try.prog L37_1 Try.f37 := lfOkF_add (lfOkF_no _ _) qok37l0 (by kernel_rfl) (by kernel_rfl) (by kernel_rfl)

noncomputable def r37 (x0 x1:LL):Nat×LL :=
 cond (Nat.beq ((r37l0 (1000 + x0.length + 0 + x1.length) 0 x1 ((r55 x0).1) ((r55 x0).2) ([]:LL) x0).1) 0) (0,((r37l0 (1000 + x0.length + 0 + x1.length) 0 x1 ((r55 x0).1) ((r55 x0).2) ([]:LL) x0).2.2.2)) (cond (Nat.beq ((r37l0 (1000 + x0.length + 0 + x1.length) 0 x1 ((r55 x0).1) ((r55 x0).2) ([]:LL) x0).1) 1) (0,([]:LL)) (1,[]))
noncomputable def a37 (x0 x1:LL) (p:Nat×LL):Res := firstT [((Nat.beq (p.1) 0),wsl 2,⟨[(tf [.int .u8] x0),(tb sc0 x1),(tb [.fl .f32] (p.2))],2,[]⟩)]
noncomputable def w37 (x0 x1:LL):Res :=
 (cond (Nat.beq ((r37l0 (1000 + x0.length + 0 + x1.length) 0 x1 ((r55 x0).1) ((r55 x0).2) ([]:LL) x0).1) 0)
 (a37 x0 x1 (0,((r37l0 (1000 + x0.length + 0 + x1.length) 0 x1 ((r55 x0).1) ((r55 x0).2) ([]:LL) x0).2.2.2)))
 (cond (Nat.beq ((r37l0 (1000 + x0.length + 0 + x1.length) 0 x1 ((r55 x0).1) ((r55 x0).2) ([]:LL) x0).1) 1) (a37 x0 x1 (0,([]:LL))) none))
theorem e37 (x0 x1:LL):evFn Try.prog ext T8 L37_1 200 Try.f37 [wsl 0,wsl 1] ⟨[(tf [.int .u8] x0),(tb sc0 x1)],2,[]⟩ = firstT [((Nat.beq ((r37 x0 x1).1) 0),wsl 2,⟨[(tf [.int .u8] x0),(tb sc0 x1),(tb [.fl .f32] ((r37 x0 x1).2))],2,[]⟩)] :=
 (show _ = w37 x0 x1 from by kernel_rfl).trans
 (show w37 x0 x1 = a37 x0 x1 (r37 x0 x1) from by unfold w37 r37; exact (cond_app (a37 x0 x1) _ rfl (cond_app (a37 x0 x1) _ rfl rfl)))
noncomputable def s37 (args:List Value) (s:St):List (Bool×Value×St) :=
 match args,s.h with
 | [.iface f0 .nilIface,.iface f1 .nilIface],[⟨false,some (.tab [.int .u8] x0)⟩,⟨true,some (.tab [.fl .f32,.fl .f32,.fl .f32,.fl .f32,.int .i64] x1)⟩] => if f0 = 0 ∧ f1 = 1 then [((Nat.beq ((r37 x0 x1).1) 0),wsl 2,⟨[(tf [.int .u8] x0),(tb sc0 x1),(tb [.fl .f32] ((r37 x0 x1).2))],2,[]⟩)] else T8 37 args s
 | _,_ => T8 37 args s
noncomputable def T9:CallF := addF T8 37 s37
theorem ok9:CfOk Try.prog T9 := by
  refine cfOk_add ok8 fun args s r s' h1 h2 h3 => ?_
  unfold s37 at h3; split at h3
  · rename_i h; split at h3
    · rename_i hc; obtain ⟨rfl,rfl⟩ := hc; exact callOk ok8 Try.func37 h1 h2 h lok37_1.body (e37 _ _) rfl h3
    · exact ok8 _ _ _ _ _ h1 h2 h3
  · exact ok8 _ _ _ _ _ h1 h2 h3

noncomputable def r10 (x0:Int) (x1:LL):Nat×Int :=
 cond (Nat.beq ((r56 x0 ((r55 x1).1) ((r55 x1).2) x1).1) 0) (0,((r56 x0 ((r55 x1).1) ((r55 x1).2) x1).2.1)) (1,0)
noncomputable def a10 (x0:Int) (x1:LL) (p:Nat×Int):Res := firstT [((Nat.beq (p.1) 0),vi (p.2),⟨[(tf [.int .u8] x1)],1,[]⟩)]
noncomputable def w10 (x0:Int) (x1:LL):Res :=
 (cond (Nat.beq ((r56 x0 ((r55 x1).1) ((r55 x1).2) x1).1) 0)
 (a10 x0 x1 (0,((r56 x0 ((r55 x1).1) ((r55 x1).2) x1).2.1)))
 none)
theorem e10 (x0:Int) (x1:LL):evFn Try.prog ext T9 noL 200 Try.f10 [wsl 0,vi x0] ⟨[(tf [.int .u8] x1)],1,[]⟩ = firstT [((Nat.beq ((r10 x0 x1).1) 0),vi ((r10 x0 x1).2),⟨[(tf [.int .u8] x1)],1,[]⟩)] :=
 (show _ = w10 x0 x1 from by kernel_rfl).trans
 (show w10 x0 x1 = a10 x0 x1 (r10 x0 x1) from by unfold w10 r10; exact (cond_app (a10 x0 x1) _ rfl rfl))
noncomputable def s10 (args:List Value) (s:St):List (Bool×Value×St) :=
 match args,s.h with
 | [.iface f0 .nilIface,.int .i64 x0],[⟨false,some (.tab [.int .u8] x1)⟩] => if f0 = 0 then [((Nat.beq ((r10 x0 x1).1) 0),vi ((r10 x0 x1).2),⟨[(tf [.int .u8] x1)],1,[]⟩)] else T9 10 args s
 | _,_ => T9 10 args s
noncomputable def T10:CallF := addF T9 10 s10
theorem ok10:CfOk Try.prog T10 := by
  refine cfOk_add ok9 fun args s r s' h1 h2 h3 => ?_
  unfold s10 at h3; split at h3
  · rename_i h; split at h3
    · rename_i hc; obtain ⟨rfl⟩ := hc; exact callOk ok9 Try.func10 h1 h2 h (lfOkF_no _ _).body (e10 _ _) rfl h3
    · exact ok9 _ _ _ _ _ h1 h2 h3
  · exact ok9 _ _ _ _ _ h1 h2 h3

noncomputable def r66 (x0 x1 x2:Int):Bool :=
 cond (decide ((x0:Int) ≥ x1)) ((decide ((x0:Int) ≤ x2))) (false)
noncomputable def a66 (x0 x1 x2:Int) (p:Bool):Res := firstT [(true,.bool p,st0)]
noncomputable def w66 (x0 x1 x2:Int):Res :=
 (cond (decide ((x0:Int) ≥ x1))
 (a66 x0 x1 x2 ((decide ((x0:Int) ≤ x2))))
 (a66 x0 x1 x2 (false)))
theorem e66 (x0 x1 x2:Int):evFn Try.prog ext T10 noL 200 Try.f66 [vi x0,vi x1,vi x2] st0 = firstT [(true,.bool (r66 x0 x1 x2),st0)] :=
 (show _ = w66 x0 x1 x2 from by kernel_rfl).trans
 (show w66 x0 x1 x2 = a66 x0 x1 x2 (r66 x0 x1 x2) from by unfold w66 r66; exact (cond_app (a66 x0 x1 x2) _ rfl rfl))
noncomputable def s66 (args:List Value) (s:St):List (Bool×Value×St) :=
 match args,s.h with
 | [.int .i64 x0,.int .i64 x1,.int .i64 x2],[] => [(true,.bool (r66 x0 x1 x2),st0)]
 | _,_ => T10 66 args s
noncomputable def T11:CallF := addF T10 66 s66
theorem ok11:CfOk Try.prog T11 := by
  refine cfOk_add ok10 fun args s r s' h1 h2 h3 => ?_
  unfold s66 at h3; split at h3
  · rename_i h; exact callOk ok10 Try.func66 h1 h2 h (lfOkF_no _ _).body (e66 _ _ _) rfl h3
  · exact ok10 _ _ _ _ _ h1 h2 h3

noncomputable def r147 (x0:Nat):Bool :=
 ((feq .f32 (fsub .f32 x0 x0) 0))
noncomputable def a147 (x0:Nat) (p:Bool):Res := firstT [(true,.bool p,st0)]
noncomputable def w147 (x0:Nat):Res :=
 (a147 x0 ((feq .f32 (fsub .f32 x0 x0) 0)))
theorem e147 (x0:Nat):evFn Try.prog ext T11 noL 200 Try.f147 [vf x0] st0 = firstT [(true,.bool (r147 x0),st0)] :=
 (show _ = w147 x0 from by kernel_rfl).trans
 (show w147 x0 = a147 x0 (r147 x0) from by unfold w147 r147; exact rfl)
noncomputable def s147 (args:List Value) (s:St):List (Bool×Value×St) :=
 match args,s.h with
 | [.float .f32 x0],[] => [(true,.bool (r147 x0),st0)]
 | _,_ => T11 147 args s
noncomputable def T12:CallF := addF T11 147 s147
theorem ok12:CfOk Try.prog T12 := by
  refine cfOk_add ok11 fun args s r s' h1 h2 h3 => ?_
  unfold s147 at h3; split at h3
  · rename_i h; exact callOk ok11 Try.func147 h1 h2 h (lfOkF_no _ _).body (e147 _) rfl h3
  · exact ok11 _ _ _ _ _ h1 h2 h3

noncomputable def r148 (x0:Nat):Bool :=
 cond (r147 x0) (cond (fgt .f32 x0 0) (true) (cond (!isN .f32 x0) (((((x0:Nat):Int):Int) == 0)) (false))) (false)
noncomputable def a148 (x0:Nat) (p:Bool):Res := firstT [(true,.bool p,st0)]
noncomputable def w148 (x0:Nat):Res :=
 (cond (r147 x0)
 (cond (fgt .f32 x0 0) (a148 x0 (true)) (cond (!isN .f32 x0) (a148 x0 (((((x0:Nat):Int):Int) == 0))) (a148 x0 (false))))
 (a148 x0 (false)))
theorem e148 (x0:Nat):evFn Try.prog ext T12 noL 200 Try.f148 [vf x0] st0 = firstT [(true,.bool (r148 x0),st0)] :=
 (show _ = w148 x0 from by kernel_rfl).trans
 (show w148 x0 = a148 x0 (r148 x0) from by unfold w148 r148; exact (cond_app (a148 x0) _ (cond_app (a148 x0) _ rfl (cond_app (a148 x0) _ rfl rfl)) rfl))
noncomputable def s148 (args:List Value) (s:St):List (Bool×Value×St) :=
 match args,s.h with
 | [.float .f32 x0],[] => [(true,.bool (r148 x0),st0)]
 | _,_ => T12 148 args s
noncomputable def T13:CallF := addF T12 148 s148
theorem ok13:CfOk Try.prog T13 := by
  refine cfOk_add ok12 fun args s r s' h1 h2 h3 => ?_
  unfold s148 at h3; split at h3
  · rename_i h; exact callOk ok12 Try.func148 h1 h2 h (lfOkF_no _ _).body (e148 _) rfl h3
  · exact ok12 _ _ _ _ _ h1 h2 h3

noncomputable def r150 (x0:Nat):Bool :=
 cond (fgt .f32 x0 3262119936 || feq .f32 x0 3262119936) ((flt .f32 x0 1153138688 || feq .f32 x0 1153138688)) (false)
noncomputable def a150 (x0:Nat) (p:Bool):Res := firstT [(true,.bool p,st0)]
noncomputable def w150 (x0:Nat):Res :=
 (cond (fgt .f32 x0 3262119936 || feq .f32 x0 3262119936)
 (a150 x0 ((flt .f32 x0 1153138688 || feq .f32 x0 1153138688)))
 (a150 x0 (false)))
theorem e150 (x0:Nat):evFn Try.prog ext T13 noL 200 Try.f150 [vf x0] st0 = firstT [(true,.bool (r150 x0),st0)] :=
 (show _ = w150 x0 from by kernel_rfl).trans
 (show w150 x0 = a150 x0 (r150 x0) from by unfold w150 r150; exact (cond_app (a150 x0) _ rfl rfl))
noncomputable def s150 (args:List Value) (s:St):List (Bool×Value×St) :=
 match args,s.h with
 | [.float .f32 x0],[] => [(true,.bool (r150 x0),st0)]
 | _,_ => T13 150 args s
noncomputable def T14:CallF := addF T13 150 s150
theorem ok14:CfOk Try.prog T14 := by
  refine cfOk_add ok13 fun args s r s' h1 h2 h3 => ?_
  unfold s150 at h3; split at h3
  · rename_i h; exact callOk ok13 Try.func150 h1 h2 h (lfOkF_no _ _).body (e150 _) rfl h3
  · exact ok13 _ _ _ _ _ h1 h2 h3

noncomputable def r167 (x0:Nat):Bool :=
 cond (r148 x0) ((flt .f32 x0 1065353216 || feq .f32 x0 1065353216)) (false)
noncomputable def a167 (x0:Nat) (p:Bool):Res := firstT [(true,.bool p,st0)]
noncomputable def w167 (x0:Nat):Res :=
 (cond (r148 x0)
 (a167 x0 ((flt .f32 x0 1065353216 || feq .f32 x0 1065353216)))
 (a167 x0 (false)))
theorem e167 (x0:Nat):evFn Try.prog ext T14 noL 200 Try.f167 [vf x0] st0 = firstT [(true,.bool (r167 x0),st0)] :=
 (show _ = w167 x0 from by kernel_rfl).trans
 (show w167 x0 = a167 x0 (r167 x0) from by unfold w167 r167; exact (cond_app (a167 x0) _ rfl rfl))
noncomputable def s167 (args:List Value) (s:St):List (Bool×Value×St) :=
 match args,s.h with
 | [.float .f32 x0],[] => [(true,.bool (r167 x0),st0)]
 | _,_ => T14 167 args s
noncomputable def T15:CallF := addF T14 167 s167
theorem ok15:CfOk Try.prog T15 := by
  refine cfOk_add ok14 fun args s r s' h1 h2 h3 => ?_
  unfold s167 at h3; split at h3
  · rename_i h; exact callOk ok14 Try.func167 h1 h2 h (lfOkF_no _ _).body (e167 _) rfl h3
  · exact ok14 _ _ _ _ _ h1 h2 h3

noncomputable def r149 (x0:Nat) (x1:LL):Nat×Bool :=
 cond (Nat.blt x0 x1.length) (cond (r148 (Int.toNat ((x1.getD x0 []).getD 0 0))) (cond (fgt .f32 (Int.toNat ((x1.getD x0 []).getD 0 0)) 1031798784 || feq .f32 (Int.toNat ((x1.getD x0 []).getD 0 0)) 1031798784) (cond (flt .f32 (Int.toNat ((x1.getD x0 []).getD 0 0)) 1106247680 || feq .f32 (Int.toNat ((x1.getD x0 []).getD 0 0)) 1106247680) (cond (r148 (Int.toNat ((x1.getD x0 []).getD 1 0))) (cond (fgt .f32 (Int.toNat ((x1.getD x0 []).getD 1 0)) 1015021568 || feq .f32 (Int.toNat ((x1.getD x0 []).getD 1 0)) 1015021568) (cond (flt .f32 (Int.toNat ((x1.getD x0 []).getD 1 0)) 1082130432 || feq .f32 (Int.toNat ((x1.getD x0 []).getD 1 0)) 1082130432) (cond (r150 (Int.toNat ((x1.getD x0 []).getD 2 0))) (0,(r167 (Int.toNat ((x1.getD x0 []).getD 3 0)))) (0,false)) (0,false)) (0,false)) (0,false)) (0,false)) (0,false)) (0,false)) (1,false)
noncomputable def a149 (x0:Nat) (x1:LL) (p:Nat×Bool):Res := firstT [((Nat.beq (p.1) 0),.bool (p.2),⟨[(tb sc0 x1)],1,[]⟩)]
noncomputable def w149 (x0:Nat) (x1:LL):Res :=
 (cond (Nat.blt x0 x1.length)
 (cond (r148 (Int.toNat ((x1.getD x0 []).getD 0 0))) (cond (Nat.blt x0 x1.length) (cond (fgt .f32 (Int.toNat ((x1.getD x0 []).getD 0 0)) 1031798784 || feq .f32 (Int.toNat ((x1.getD x0 []).getD 0 0)) 1031798784) (cond (Nat.blt x0 x1.length) (cond (flt .f32 (Int.toNat ((x1.getD x0 []).getD 0 0)) 1106247680 || feq .f32 (Int.toNat ((x1.getD x0 []).getD 0 0)) 1106247680) (cond (Nat.blt x0 x1.length) (cond (r148 (Int.toNat ((x1.getD x0 []).getD 1 0))) (cond (Nat.blt x0 x1.length) (cond (fgt .f32 (Int.toNat ((x1.getD x0 []).getD 1 0)) 1015021568 || feq .f32 (Int.toNat ((x1.getD x0 []).getD 1 0)) 1015021568) (cond (Nat.blt x0 x1.length) (cond (flt .f32 (Int.toNat ((x1.getD x0 []).getD 1 0)) 1082130432 || feq .f32 (Int.toNat ((x1.getD x0 []).getD 1 0)) 1082130432) (cond (Nat.blt x0 x1.length) (cond (r150 (Int.toNat ((x1.getD x0 []).getD 2 0))) (cond (Nat.blt x0 x1.length) (a149 x0 x1 (0,(r167 (Int.toNat ((x1.getD x0 []).getD 3 0))))) none) (a149 x0 x1 (0,false))) none) (a149 x0 x1 (0,false))) none) (a149 x0 x1 (0,false))) none) (a149 x0 x1 (0,false))) none) (a149 x0 x1 (0,false))) none) (a149 x0 x1 (0,false))) none) (a149 x0 x1 (0,false)))
 none)
theorem e149 (x0:Nat) (x1:LL):evFn Try.prog ext T15 noL 200 Try.f149 [.pointer (some ⟨0,x0,some 0⟩)] ⟨[(tb sc0 x1)],1,[]⟩ = firstT [((Nat.beq ((r149 x0 x1).1) 0),.bool ((r149 x0 x1).2),⟨[(tb sc0 x1)],1,[]⟩)] :=
 (show _ = w149 x0 x1 from by kernel_rfl).trans
 (show w149 x0 x1 = a149 x0 x1 (r149 x0 x1) from by unfold w149 r149; exact (cond_both (a149 x0 x1) _ (fun h0 => (cond_both (a149 x0 x1) _ (fun h1 => (cond_t h0 (cond_both (a149 x0 x1) _ (fun h2 => (cond_t h0 (cond_both (a149 x0 x1) _ (fun h3 => (cond_t h0 (cond_both (a149 x0 x1) _ (fun h4 => (cond_t h0 (cond_both (a149 x0 x1) _ (fun h5 => (cond_t h0 (cond_both (a149 x0 x1) _ (fun h6 => (cond_t h0 (cond_both (a149 x0 x1) _ (fun h7 => (cond_t h0 rfl)) (fun h7 => rfl)))) (fun h6 => rfl)))) (fun h5 => rfl)))) (fun h4 => rfl)))) (fun h3 => rfl)))) (fun h2 => rfl)))) (fun h1 => rfl))) (fun h0 => rfl)))
noncomputable def s149 (args:List Value) (s:St):List (Bool×Value×St) :=
 match args,s.h with
 | [.pointer (some ⟨f0,x0,some f1⟩)],[⟨true,some (.tab [.fl .f32,.fl .f32,.fl .f32,.fl .f32,.int .i64] x1)⟩] => if f0 = 0 ∧ f1 = 0 then [((Nat.beq ((r149 x0 x1).1) 0),.bool ((r149 x0 x1).2),⟨[(tb sc0 x1)],1,[]⟩)] else T15 149 args s
 | _,_ => T15 149 args s
noncomputable def T16:CallF := addF T15 149 s149
theorem ok16:CfOk Try.prog T16 := by
  refine cfOk_add ok15 fun args s r s' h1 h2 h3 => ?_
  unfold s149 at h3; split at h3
  · rename_i h; split at h3
    · rename_i hc; obtain ⟨rfl,rfl⟩ := hc; exact callOk ok15 Try.func149 h1 h2 h (lfOkF_no _ _).body (e149 _ _) rfl h3
    · exact ok15 _ _ _ _ _ h1 h2 h3
  · exact ok15 _ _ _ _ _ h1 h2 h3

noncomputable def b97l0 (ih:Int→Int→LL→Nat) (x0 x1:Int) (x2:LL):Nat :=
 cond (decide ((x1:Int) < x0)) (cond ((decide ((0:Int) ≤ x1)) && (Nat.blt (Int.toNat x1) x2.length)) (cond (Nat.beq ((r149 (Int.toNat x1) x2).1) 0) (cond (!((r149 (Int.toNat x1) x2).2)) (0) (cond ((((x2.getD (Int.toNat x1) []).getD 4 0):Int) == (-1)) (ih x0 (IntKind.i64.wrap (x1 + 1)) x2) (cond (!(r66 ((x2.getD (Int.toNat x1) []).getD 4 0) 0 (IntKind.i64.wrap (x0 - 1)))) (0) (cond ((((x2.getD (Int.toNat x1) []).getD 4 0):Int) == x1) (0) (cond ((decide ((0:Int) ≤ ((x2.getD (Int.toNat x1) []).getD 4 0))) && (Nat.blt (Int.toNat ((x2.getD (Int.toNat x1) []).getD 4 0)) x2.length)) (cond ((((x2.getD (Int.toNat ((x2.getD (Int.toNat x1) []).getD 4 0)) []).getD 4 0):Int) != (-1)) (0) (ih x0 (IntKind.i64.wrap (x1 + 1)) x2)) (2)))))) (2)) (2)) (1)
noncomputable def r97l0:Nat→Int→Int→LL→Nat
 | 0 => fun _ _ _ => (2)
 | m + 1 => b97l0 (r97l0 m)
noncomputable def a97l0 (x0 x1:Int) (x2:LL) (p:Nat):Option (Fin'×List Value×St) := firstT ([((Nat.beq p 0),.ret,[.bool false],⟨[(tb sc0 x2)],1,[]⟩),((Nat.beq p 1),.exit 0,[Y],⟨[(tb sc0 x2)],1,[]⟩)].map fun (b,x) => (b,(x.1,frameOf 56 [2] x.2.1,x.2.2)))
noncomputable def u97l0 (x0 x1:Int) (x2:LL) (p:Nat):Option (Fin'×List Value×St) := alts ([((Nat.beq p 0),.ret,[.bool false],⟨[(tb sc0 x2)],1,[]⟩),((Nat.beq p 1),.exit 0,[Y],⟨[(tb sc0 x2)],1,[]⟩)].map fun (b,x) => (b,(x.1,frameOf 56 [2] x.2.1,x.2.2))) some
theorem v97l0 (x0 x1:Int) (x2:LL) (p:Nat):u97l0 x0 x1 x2 p = a97l0 x0 x1 x2 p := alts_first _
noncomputable def q97l0 (m:Nat):SumK := fun vals s =>
 match vals,s.h with
 | [.iface f0 .nilIface,.int .i64 x0,.int .i64 x1],[⟨true,some (.tab [.fl .f32,.fl .f32,.fl .f32,.fl .f32,.int .i64] x2)⟩] => if f0 = 0 then [((Nat.beq (r97l0 m x0 x1 x2) 0),.ret,[.bool false],⟨[(tb sc0 x2)],1,[]⟩),((Nat.beq (r97l0 m x0 x1 x2) 1),.exit 0,[Y],⟨[(tb sc0 x2)],1,[]⟩)] else noQ vals s
 | _,_ => noQ vals s
noncomputable def w97l0 (ih:Int→Int→LL→Nat) (x0 x1:Int) (x2:LL):Option (Fin'×List Value×St) :=
 (cond (decide ((x1:Int) < x0))
 (cond ((decide ((0:Int) ≤ x1)) && (Nat.blt (Int.toNat x1) x2.length)) (cond (Nat.beq ((r149 (Int.toNat x1) x2).1) 0) (cond (!((r149 (Int.toNat x1) x2).2)) (a97l0 x0 x1 x2 (0)) (cond ((decide ((0:Int) ≤ x1)) && (Nat.blt (Int.toNat x1) x2.length)) (cond (Nat.blt (Int.toNat x1) x2.length) (cond ((((x2.getD (Int.toNat x1) []).getD 4 0):Int) == (-1)) (u97l0 x0 x1 x2 (ih x0 (IntKind.i64.wrap (x1 + 1)) x2)) (cond ((decide ((0:Int) ≤ x1)) && (Nat.blt (Int.toNat x1) x2.length)) (cond (Nat.blt (Int.toNat x1) x2.length) (cond (!(r66 ((x2.getD (Int.toNat x1) []).getD 4 0) 0 (IntKind.i64.wrap (x0 - 1)))) (a97l0 x0 x1 x2 (0)) (cond ((decide ((0:Int) ≤ x1)) && (Nat.blt (Int.toNat x1) x2.length)) (cond (Nat.blt (Int.toNat x1) x2.length) (cond ((((x2.getD (Int.toNat x1) []).getD 4 0):Int) == x1) (a97l0 x0 x1 x2 (0)) (cond ((decide ((0:Int) ≤ x1)) && (Nat.blt (Int.toNat x1) x2.length)) (cond (Nat.blt (Int.toNat x1) x2.length) (cond ((decide ((0:Int) ≤ ((x2.getD (Int.toNat x1) []).getD 4 0))) && (Nat.blt (Int.toNat ((x2.getD (Int.toNat x1) []).getD 4 0)) x2.length)) (cond (Nat.blt (Int.toNat ((x2.getD (Int.toNat x1) []).getD 4 0)) x2.length) (cond ((((x2.getD (Int.toNat ((x2.getD (Int.toNat x1) []).getD 4 0)) []).getD 4 0):Int) != (-1)) (a97l0 x0 x1 x2 (0)) (u97l0 x0 x1 x2 (ih x0 (IntKind.i64.wrap (x1 + 1)) x2))) none) none) none) none)) none) none)) none) none)) none) none)) none) none)
 (a97l0 x0 x1 x2 (1)))
theorem e97l0 (m:Nat) (x0 x1:Int) (x2:LL):evC Try.prog ext T16 noL 200 (loopN Try.f97 0) (loopTail ([0,3,4],[]) [2] [] (sumK 56 [0,3,4] [2] (q97l0 m))) (frameOf 56 [0,3,4] [wsl 0,vi x0,vi x1]) ⟨[(tb sc0 x2)],1,[]⟩ = firstT ([((Nat.beq (r97l0 (m + 1) x0 x1 x2) 0),.ret,[.bool false],⟨[(tb sc0 x2)],1,[]⟩),((Nat.beq (r97l0 (m + 1) x0 x1 x2) 1),.exit 0,[Y],⟨[(tb sc0 x2)],1,[]⟩)].map fun (b,x) => (b,(x.1,frameOf 56 [2] x.2.1,x.2.2))) :=
 (show _ = w97l0 (r97l0 m) x0 x1 x2 from by kernel_rfl).trans
 (show w97l0 (r97l0 m) x0 x1 x2 = a97l0 x0 x1 x2 (r97l0 (m + 1) x0 x1 x2) from by unfold w97l0; show _ = a97l0 x0 x1 x2 (b97l0 (r97l0 m) x0 x1 x2); unfold b97l0; exact (cond_both (a97l0 x0 x1 x2) _ (fun h0 => (cond_both (a97l0 x0 x1 x2) _ (fun h1 => (cond_both (a97l0 x0 x1 x2) _ (fun h2 => (cond_both (a97l0 x0 x1 x2) _ (fun h3 => rfl) (fun h3 => (cond_t h1 (cond_t (ev_and2 h1) (cond_both (a97l0 x0 x1 x2) _ (fun h4 => (v97l0 x0 x1 x2 ((r97l0 m) x0 (IntKind.i64.wrap (x1 + 1)) x2))) (fun h4 => (cond_t h1 (cond_t (ev_and2 h1) (cond_both (a97l0 x0 x1 x2) _ (fun h5 => rfl) (fun h5 => (cond_t h1 (cond_t (ev_and2 h1) (cond_both (a97l0 x0 x1 x2) _ (fun h6 => rfl) (fun h6 => (cond_t h1 (cond_t (ev_and2 h1) (cond_both (a97l0 x0 x1 x2) _ (fun h7 => (cond_t (ev_and2 h7) (cond_app (a97l0 x0 x1 x2) _ rfl (v97l0 x0 x1 x2 ((r97l0 m) x0 (IntKind.i64.wrap (x1 + 1)) x2))))) (fun h7 => rfl))))))))))))))))))) (fun h2 => rfl))) (fun h1 => rfl))) (fun h0 => rfl)))
theorem qm97l0:∀ m,SumKOk Try.prog (loopN Try.f97 0) 56 [0,3,4] [2] (q97l0 m) := by
  intro m
  induction m with
  | zero =>
    intro vals s x h1 h2 h3
    unfold q97l0 at h3; split at h3
    · rename_i h; split at h3
      · rename_i hc; obtain ⟨rfl⟩ := hc; exact absurd h3 (by simp [r97l0,firstT,Nat.beq])
      · exact noQ_ok _ _ _ h1 h2 h3
    · exact noQ_ok _ _ _ h1 h2 h3
  | succ m ih =>
    intro vals s x h1 h2 h3
    unfold q97l0 at h3; split at h3
    · rename_i h; split at h3
      · rename_i hc; obtain ⟨rfl⟩ := hc; exact sum_step ok16 extOk mixed ((lfOkF_no _ _).inner (by kernel_rfl)) ih h1 h2 h (e97l0 m _ _ _) rfl h3
      · exact noQ_ok _ _ _ h1 h2 h3
    · exact noQ_ok _ _ _ h1 h2 h3
noncomputable def Q97l0:SumK := fun vals s => q97l0 (fuelOf vals s.h) vals s
theorem qok97l0:SumKOk Try.prog (loopN Try.f97 0) 56 [0,3,4] [2] Q97l0 := fuel_ok qm97l0 fuelOf
noncomputable def L97_1:LoopT := addL noL 6 ([0,3,4],[]) (sumK 56 [0,3,4] [2] Q97l0)
theorem lok97_1:LfOkF Try.prog L97_1 Try.f97 := lfOkF_add (lfOkF_no _ _) qok97l0 (by kernel_rfl) (by kernel_rfl) (by kernel_rfl)

noncomputable def r97 (x0:LL):Nat×Bool :=
 cond (!(r66 ((x0.length:Nat):Int) 1 6)) (0,false) (cond (Nat.beq (r97l0 (1000 + x0.length) ((x0.length:Nat):Int) 0 x0) 0) (0,false) (cond (Nat.beq (r97l0 (1000 + x0.length) ((x0.length:Nat):Int) 0 x0) 1) (0,true) (1,false)))
noncomputable def a97 (x0:LL) (p:Nat×Bool):Res := firstT [((Nat.beq (p.1) 0),.bool (p.2),⟨[(tb sc0 x0)],1,[]⟩)]
noncomputable def w97 (x0:LL):Res :=
 (cond (!(r66 ((x0.length:Nat):Int) 1 6))
 (a97 x0 (0,false))
 (cond (Nat.beq (r97l0 (1000 + x0.length) ((x0.length:Nat):Int) 0 x0) 0) (a97 x0 (0,false)) (cond (Nat.beq (r97l0 (1000 + x0.length) ((x0.length:Nat):Int) 0 x0) 1) (a97 x0 (0,true)) none)))
theorem e97 (x0:LL):evFn Try.prog ext T16 L97_1 200 Try.f97 [wsl 0] ⟨[(tb sc0 x0)],1,[]⟩ = firstT [((Nat.beq ((r97 x0).1) 0),.bool ((r97 x0).2),⟨[(tb sc0 x0)],1,[]⟩)] :=
 (show _ = w97 x0 from by kernel_rfl).trans
 (show w97 x0 = a97 x0 (r97 x0) from by unfold w97 r97; exact (cond_app (a97 x0) _ rfl (cond_app (a97 x0) _ rfl (cond_app (a97 x0) _ rfl rfl))))
noncomputable def s97 (args:List Value) (s:St):List (Bool×Value×St) :=
 match args,s.h with
 | [.iface f0 .nilIface],[⟨true,some (.tab [.fl .f32,.fl .f32,.fl .f32,.fl .f32,.int .i64] x0)⟩] => if f0 = 0 then [((Nat.beq ((r97 x0).1) 0),.bool ((r97 x0).2),⟨[(tb sc0 x0)],1,[]⟩)] else T16 97 args s
 | _,_ => T16 97 args s
noncomputable def T17:CallF := addF T16 97 s97
theorem ok17:CfOk Try.prog T17 := by
  refine cfOk_add ok16 fun args s r s' h1 h2 h3 => ?_
  unfold s97 at h3; split at h3
  · rename_i h; split at h3
    · rename_i hc; obtain ⟨rfl⟩ := hc; exact callOk ok16 Try.func97 h1 h2 h lok97_1.body (e97 _) rfl h3
    · exact ok16 _ _ _ _ _ h1 h2 h3
  · exact ok16 _ _ _ _ _ h1 h2 h3

noncomputable def r98 (x0:Nat):Bool :=
 cond (fgt .f32 x0 3262119936 || feq .f32 x0 3262119936) ((flt .f32 x0 1114636288 || feq .f32 x0 1114636288)) (false)
noncomputable def a98 (x0:Nat) (p:Bool):Res := firstT [(true,.bool p,st0)]
noncomputable def w98 (x0:Nat):Res :=
 (cond (fgt .f32 x0 3262119936 || feq .f32 x0 3262119936)
 (a98 x0 ((flt .f32 x0 1114636288 || feq .f32 x0 1114636288)))
 (a98 x0 (false)))
theorem e98 (x0:Nat):evFn Try.prog ext T17 noL 200 Try.f98 [vf x0] st0 = firstT [(true,.bool (r98 x0),st0)] :=
 (show _ = w98 x0 from by kernel_rfl).trans
 (show w98 x0 = a98 x0 (r98 x0) from by unfold w98 r98; exact (cond_app (a98 x0) _ rfl rfl))
noncomputable def s98 (args:List Value) (s:St):List (Bool×Value×St) :=
 match args,s.h with
 | [.float .f32 x0],[] => [(true,.bool (r98 x0),st0)]
 | _,_ => T17 98 args s
noncomputable def T18:CallF := addF T17 98 s98
theorem ok18:CfOk Try.prog T18 := by
  refine cfOk_add ok17 fun args s r s' h1 h2 h3 => ?_
  unfold s98 at h3; split at h3
  · rename_i h; exact callOk ok17 Try.func98 h1 h2 h (lfOkF_no _ _).body (e98 _) rfl h3
  · exact ok17 _ _ _ _ _ h1 h2 h3

noncomputable def r128 (x0:Nat):Bool :=
 cond (fgt .f32 x0 3296329728 || feq .f32 x0 3296329728) ((flt .f32 x0 1148846080 || feq .f32 x0 1148846080)) (false)
noncomputable def a128 (x0:Nat) (p:Bool):Res := firstT [(true,.bool p,st0)]
noncomputable def w128 (x0:Nat):Res :=
 (cond (fgt .f32 x0 3296329728 || feq .f32 x0 3296329728)
 (a128 x0 ((flt .f32 x0 1148846080 || feq .f32 x0 1148846080)))
 (a128 x0 (false)))
theorem e128 (x0:Nat):evFn Try.prog ext T18 noL 200 Try.f128 [vf x0] st0 = firstT [(true,.bool (r128 x0),st0)] :=
 (show _ = w128 x0 from by kernel_rfl).trans
 (show w128 x0 = a128 x0 (r128 x0) from by unfold w128 r128; exact (cond_app (a128 x0) _ rfl rfl))
noncomputable def s128 (args:List Value) (s:St):List (Bool×Value×St) :=
 match args,s.h with
 | [.float .f32 x0],[] => [(true,.bool (r128 x0),st0)]
 | _,_ => T18 128 args s
noncomputable def T19:CallF := addF T18 128 s128
theorem ok19:CfOk Try.prog T19 := by
  refine cfOk_add ok18 fun args s r s' h1 h2 h3 => ?_
  unfold s128 at h3; split at h3
  · rename_i h; exact callOk ok18 Try.func128 h1 h2 h (lfOkF_no _ _).body (e128 _) rfl h3
  · exact ok18 _ _ _ _ _ h1 h2 h3

noncomputable def r60 (x0 x1:Nat) (x2:LL):Nat :=
 cond (Nat.beq ((r97 x2).1) 0) (cond (!((r97 x2).2)) (0) (cond (!(r98 x0)) (1) (cond (!(r128 x1)) (1) (2)))) (3)
noncomputable def a60 (x0 x1:Nat) (x2:LL) (p:Nat):Res := firstT [((Nat.beq p 0),vi 1,⟨[(tb sc0 x2)],1,[]⟩),((Nat.beq p 1),vi 2,⟨[(tb sc0 x2)],1,[]⟩),((Nat.beq p 2),vi 0,⟨[(tb sc0 x2)],1,[]⟩)]
noncomputable def w60 (x0 x1:Nat) (x2:LL):Res :=
 (cond (Nat.beq ((r97 x2).1) 0)
 (cond (!((r97 x2).2)) (a60 x0 x1 x2 (0)) (cond (!(r98 x0)) (a60 x0 x1 x2 (1)) (cond (!(r128 x1)) (a60 x0 x1 x2 (1)) (a60 x0 x1 x2 (2)))))
 none)
theorem e60 (x0 x1:Nat) (x2:LL):evFn Try.prog ext T19 noL 200 Try.f60 [wsl 0,vf x0,vf x1] ⟨[(tb sc0 x2)],1,[]⟩ = firstT [((Nat.beq (r60 x0 x1 x2) 0),vi 1,⟨[(tb sc0 x2)],1,[]⟩),((Nat.beq (r60 x0 x1 x2) 1),vi 2,⟨[(tb sc0 x2)],1,[]⟩),((Nat.beq (r60 x0 x1 x2) 2),vi 0,⟨[(tb sc0 x2)],1,[]⟩)] :=
 (show _ = w60 x0 x1 x2 from by kernel_rfl).trans
 (show w60 x0 x1 x2 = a60 x0 x1 x2 (r60 x0 x1 x2) from by unfold w60 r60; exact (cond_app (a60 x0 x1 x2) _ (cond_app (a60 x0 x1 x2) _ rfl (cond_app (a60 x0 x1 x2) _ rfl (cond_app (a60 x0 x1 x2) _ rfl rfl))) rfl))
noncomputable def s60 (args:List Value) (s:St):List (Bool×Value×St) :=
 match args,s.h with
 | [.iface f0 .nilIface,.float .f32 x0,.float .f32 x1],[⟨true,some (.tab [.fl .f32,.fl .f32,.fl .f32,.fl .f32,.int .i64] x2)⟩] => if f0 = 0 then [((Nat.beq (r60 x0 x1 x2) 0),vi 1,⟨[(tb sc0 x2)],1,[]⟩),((Nat.beq (r60 x0 x1 x2) 1),vi 2,⟨[(tb sc0 x2)],1,[]⟩),((Nat.beq (r60 x0 x1 x2) 2),vi 0,⟨[(tb sc0 x2)],1,[]⟩)] else T19 60 args s
 | _,_ => T19 60 args s
noncomputable def T20:CallF := addF T19 60 s60
theorem ok20:CfOk Try.prog T20 := by
  refine cfOk_add ok19 fun args s r s' h1 h2 h3 => ?_
  unfold s60 at h3; split at h3
  · rename_i h; split at h3
    · rename_i hc; obtain ⟨rfl⟩ := hc; exact callOk ok19 Try.func60 h1 h2 h (lfOkF_no _ _).body (e60 _ _ _) rfl h3
    · exact ok19 _ _ _ _ _ h1 h2 h3
  · exact ok19 _ _ _ _ _ h1 h2 h3

noncomputable def b133l0 (ih:Int→Int→LL→LL→(Nat×LL)) (x0 x1:Int) (x2 x3:LL):Nat×LL :=
 cond (decide ((x1:Int) < ((x2.length:Nat):Int))) (cond ((decide ((0:Int) ≤ x1)) && (Nat.blt (Int.toNat x1) x2.length)) (cond ((((x2.getD (Int.toNat x1) []).getD 4 0):Int) == x0) (cond (Nat.ble ((x3.length + 1) * 9) 140737488355328) (cond (Nat.beq ((ih x0 (IntKind.i64.wrap (x1 + 1)) x2 (((x3.drop 0).take x3.length) ++ ([[x1]]:LL))).1) 0) (0,((ih x0 (IntKind.i64.wrap (x1 + 1)) x2 (((x3.drop 0).take x3.length) ++ ([[x1]]:LL))).2)) (cond (Nat.beq ((ih x0 (IntKind.i64.wrap (x1 + 1)) x2 (((x3.drop 0).take x3.length) ++ ([[x1]]:LL))).1) 1) (0,(((x3.drop 0).take x3.length) ++ ([[x1]]:LL))) (2,[]))) (2,[])) (ih x0 (IntKind.i64.wrap (x1 + 1)) x2 x3)) (2,[])) (1,[])
noncomputable def r133l0:Nat→Int→Int→LL→LL→(Nat×LL)
 | 0 => fun _ _ _ _ => (2,[])
 | m + 1 => b133l0 (r133l0 m)
noncomputable def a133l0 (x0 x1:Int) (x2 x3:LL) (p:Nat×LL):Option (Fin'×List Value×St) := firstT ([((Nat.beq (p.1) 0),.exit 0,[wsl 2],⟨[(tb sc0 x2),⟨true,none⟩,(tb [.int .i64] (p.2))],2,[1]⟩),((Nat.beq (p.1) 1),.exit 0,[wsl 1],⟨[(tb sc0 x2),(tb [.int .i64] x3)],2,[1]⟩)].map fun (b,x) => (b,(x.1,frameOf 26 [5] x.2.1,x.2.2)))
noncomputable def u133l0 (x0 x1:Int) (x2 x3:LL) (p:Nat×LL):Option (Fin'×List Value×St) := alts ([((Nat.beq (p.1) 0),.exit 0,[wsl 2],⟨[(tb sc0 x2),⟨true,none⟩,(tb [.int .i64] (p.2))],2,[1]⟩),((Nat.beq (p.1) 1),.exit 0,[wsl 1],⟨[(tb sc0 x2),(tb [.int .i64] x3)],2,[1]⟩)].map fun (b,x) => (b,(x.1,frameOf 26 [5] x.2.1,x.2.2))) some
theorem v133l0 (x0 x1:Int) (x2 x3:LL) (p:Nat×LL):u133l0 x0 x1 x2 x3 p = a133l0 x0 x1 x2 x3 p := alts_first _
noncomputable def q133l0 (m:Nat):SumK := fun vals s =>
 match vals,s.h with
 | [.iface f0 .nilIface,.int .i64 x0,.iface f1 .nilIface,.int .i64 x1],[⟨true,some (.tab [.fl .f32,.fl .f32,.fl .f32,.fl .f32,.int .i64] x2)⟩,⟨true,some (.tab [.int .i64] x3)⟩] => if f0 = 0 ∧ f1 = 1 then [((Nat.beq ((r133l0 m x0 x1 x2 x3).1) 0),.exit 0,[wsl 2],⟨[(tb sc0 x2),⟨true,none⟩,(tb [.int .i64] ((r133l0 m x0 x1 x2 x3).2))],2,[1]⟩),((Nat.beq ((r133l0 m x0 x1 x2 x3).1) 1),.exit 0,[wsl 1],⟨[(tb sc0 x2),(tb [.int .i64] x3)],2,[1]⟩)] else noQ vals s
 | _,_ => noQ vals s
noncomputable def w133l0 (ih:Int→Int→LL→LL→(Nat×LL)) (x0 x1:Int) (x2 x3:LL):Option (Fin'×List Value×St) :=
 (cond (decide ((x1:Int) < ((x2.length:Nat):Int)))
 (cond ((decide ((0:Int) ≤ x1)) && (Nat.blt (Int.toNat x1) x2.length)) (cond (Nat.blt (Int.toNat x1) x2.length) (cond ((((x2.getD (Int.toNat x1) []).getD 4 0):Int) == x0) (cond (Nat.ble ((x3.length + 1) * 9) 140737488355328) (cond (Nat.beq ((ih x0 (IntKind.i64.wrap (x1 + 1)) x2 (((x3.drop 0).take x3.length) ++ ([[x1]]:LL))).1) 0) (a133l0 x0 x1 x2 x3 (0,((ih x0 (IntKind.i64.wrap (x1 + 1)) x2 (((x3.drop 0).take x3.length) ++ ([[x1]]:LL))).2))) (cond (Nat.beq ((ih x0 (IntKind.i64.wrap (x1 + 1)) x2 (((x3.drop 0).take x3.length) ++ ([[x1]]:LL))).1) 1) (a133l0 x0 x1 x2 x3 (0,(((x3.drop 0).take x3.length) ++ ([[x1]]:LL)))) none)) none) (u133l0 x0 x1 x2 x3 (ih x0 (IntKind.i64.wrap (x1 + 1)) x2 x3))) none) none)
 (a133l0 x0 x1 x2 x3 (1,[])))
theorem e133l0 (m:Nat) (x0 x1:Int) (x2 x3:LL):evC Try.prog ext T20 noL 200 (loopN Try.f133 0) (loopTail ([0,1,5,6],[]) [5] [1] (sumK 26 [0,1,5,6] [5] (q133l0 m))) (frameOf 26 [0,1,5,6] [wsl 0,vi x0,wsl 1,vi x1]) ⟨[(tb sc0 x2),(tb [.int .i64] x3)],2,[]⟩ = firstT ([((Nat.beq ((r133l0 (m + 1) x0 x1 x2 x3).1) 0),.exit 0,[wsl 2],⟨[(tb sc0 x2),⟨true,none⟩,(tb [.int .i64] ((r133l0 (m + 1) x0 x1 x2 x3).2))],2,[1]⟩),((Nat.beq ((r133l0 (m + 1) x0 x1 x2 x3).1) 1),.exit 0,[wsl 1],⟨[(tb sc0 x2),(tb [.int .i64] x3)],2,[1]⟩)].map fun (b,x) => (b,(x.1,frameOf 26 [5] x.2.1,x.2.2))) :=
 (show _ = w133l0 (r133l0 m) x0 x1 x2 x3 from by kernel_rfl).trans
 (show w133l0 (r133l0 m) x0 x1 x2 x3 = a133l0 x0 x1 x2 x3 (r133l0 (m + 1) x0 x1 x2 x3) from by unfold w133l0; show _ = a133l0 x0 x1 x2 x3 (b133l0 (r133l0 m) x0 x1 x2 x3); unfold b133l0; exact (cond_both (a133l0 x0 x1 x2 x3) _ (fun h0 => (cond_both (a133l0 x0 x1 x2 x3) _ (fun h1 => (cond_t (ev_and2 h1) (cond_app (a133l0 x0 x1 x2 x3) _ (cond_app (a133l0 x0 x1 x2 x3) _ (cond_app (a133l0 x0 x1 x2 x3) _ rfl (cond_app (a133l0 x0 x1 x2 x3) _ rfl rfl)) rfl) (v133l0 x0 x1 x2 x3 ((r133l0 m) x0 (IntKind.i64.wrap (x1 + 1)) x2 x3))))) (fun h1 => rfl))) (fun h0 => rfl)))
theorem qm133l0:∀ m,SumKOk Try.prog (loopN Try.f133 0) 26 [0,1,5,6] [5] (q133l0 m) := by
  intro m
  induction m with
  | zero =>
    intro vals s x h1 h2 h3
    unfold q133l0 at h3; split at h3
    · rename_i h; split at h3
      · rename_i hc; obtain ⟨rfl,rfl⟩ := hc; exact absurd h3 (by simp [r133l0,firstT,Nat.beq])
      · exact noQ_ok _ _ _ h1 h2 h3
    · exact noQ_ok _ _ _ h1 h2 h3
  | succ m ih =>
    intro vals s x h1 h2 h3
    unfold q133l0 at h3; split at h3
    · rename_i h; split at h3
      · rename_i hc; obtain ⟨rfl,rfl⟩ := hc; exact sum_step ok20 extOk mixed ((lfOkF_no _ _).inner (by kernel_rfl)) ih h1 h2 h (e133l0 m _ _ _ _) rfl h3
      · exact noQ_ok _ _ _ h1 h2 h3
    · exact noQ_ok _ _ _ h1 h2 h3
noncomputable def Q133l0:SumK := fun vals s => q133l0 (fuelOf vals s.h) vals s
theorem qok133l0:SumKOk Try.prog (loopN Try.f133 0) 26 [0,1,5,6] [5] Q133l0 := fuel_ok qm133l0 fuelOf
noncomputable def L133_1:LoopT := addL noL 4 ([0,1,5,6],[]) (sumK 26 [0,1,5,6] [5] Q133l0)
theorem lok133_1:LfOkF Try.prog L133_1 Try.f133 := lfOkF_add (lfOkF_no _ _) qok133l0 (by kernel_rfl) (by kernel_rfl) (by kernel_rfl)

noncomputable def r133 (x0:Int) (x1:LL):Nat×LL :=
 cond (Nat.beq ((r133l0 (1000 + 0 + x1.length) x0 0 x1 ([]:LL)).1) 0) (0,((r133l0 (1000 + 0 + x1.length) x0 0 x1 ([]:LL)).2)) (cond (Nat.beq ((r133l0 (1000 + 0 + x1.length) x0 0 x1 ([]:LL)).1) 1) (0,([]:LL)) (1,[]))
noncomputable def a133 (x0:Int) (x1:LL) (p:Nat×LL):Res := firstT [((Nat.beq (p.1) 0),wsl 1,⟨[(tb sc0 x1),(tb [.int .i64] (p.2))],1,[]⟩)]
noncomputable def w133 (x0:Int) (x1:LL):Res :=
 (cond (Nat.beq ((r133l0 (1000 + 0 + x1.length) x0 0 x1 ([]:LL)).1) 0)
 (a133 x0 x1 (0,((r133l0 (1000 + 0 + x1.length) x0 0 x1 ([]:LL)).2)))
 (cond (Nat.beq ((r133l0 (1000 + 0 + x1.length) x0 0 x1 ([]:LL)).1) 1) (a133 x0 x1 (0,([]:LL))) none))
theorem e133 (x0:Int) (x1:LL):evFn Try.prog ext T20 L133_1 200 Try.f133 [wsl 0,vi x0] ⟨[(tb sc0 x1)],1,[]⟩ = firstT [((Nat.beq ((r133 x0 x1).1) 0),wsl 1,⟨[(tb sc0 x1),(tb [.int .i64] ((r133 x0 x1).2))],1,[]⟩)] :=
 (show _ = w133 x0 x1 from by kernel_rfl).trans
 (show w133 x0 x1 = a133 x0 x1 (r133 x0 x1) from by unfold w133 r133; exact (cond_app (a133 x0 x1) _ rfl (cond_app (a133 x0 x1) _ rfl rfl)))
noncomputable def s133 (args:List Value) (s:St):List (Bool×Value×St) :=
 match args,s.h with
 | [.iface f0 .nilIface,.int .i64 x0],[⟨true,some (.tab [.fl .f32,.fl .f32,.fl .f32,.fl .f32,.int .i64] x1)⟩] => if f0 = 0 then [((Nat.beq ((r133 x0 x1).1) 0),wsl 1,⟨[(tb sc0 x1),(tb [.int .i64] ((r133 x0 x1).2))],1,[]⟩)] else T20 133 args s
 | _,_ => T20 133 args s
noncomputable def T21:CallF := addF T20 133 s133
theorem ok21:CfOk Try.prog T21 := by
  refine cfOk_add ok20 fun args s r s' h1 h2 h3 => ?_
  unfold s133 at h3; split at h3
  · rename_i h; split at h3
    · rename_i hc; obtain ⟨rfl⟩ := hc; exact callOk ok20 Try.func133 h1 h2 h lok133_1.body (e133 _ _) rfl h3
    · exact ok20 _ _ _ _ _ h1 h2 h3
  · exact ok20 _ _ _ _ _ h1 h2 h3

noncomputable def r173 (x0:Nat):Nat :=
 ((fdiv .f32 1135640576 (fadd .f32 x0 1133019136)))
noncomputable def a173 (x0:Nat) (p:Nat):Res := firstT [(true,vf p,st0)]
noncomputable def w173 (x0:Nat):Res :=
 (a173 x0 ((fdiv .f32 1135640576 (fadd .f32 x0 1133019136))))
theorem e173 (x0:Nat):evFn Try.prog ext T21 noL 200 Try.f173 [vf x0] st0 = firstT [(true,vf (r173 x0),st0)] :=
 (show _ = w173 x0 from by kernel_rfl).trans
 (show w173 x0 = a173 x0 (r173 x0) from by unfold w173 r173; exact rfl)
noncomputable def s173 (args:List Value) (s:St):List (Bool×Value×St) :=
 match args,s.h with
 | [.float .f32 x0],[] => [(true,vf (r173 x0),st0)]
 | _,_ => T21 173 args s
noncomputable def T22:CallF := addF T21 173 s173
theorem ok22:CfOk Try.prog T22 := by
  refine cfOk_add ok21 fun args s r s' h1 h2 h3 => ?_
  unfold s173 at h3; split at h3
  · rename_i h; exact callOk ok21 Try.func173 h1 h2 h (lfOkF_no _ _).body (e173 _) rfl h3
  · exact ok21 _ _ _ _ _ h1 h2 h3

noncomputable def r163 (x0 x1:Nat) (x2:LL):Nat×Nat :=
 cond (Nat.blt x0 x2.length) (0,(fmul .f32 (fmul .f32 1092354048 (Int.toNat ((x2.getD x0 []).getD 0 0))) (fsub .f32 (r173 x1) (r173 (Int.toNat ((x2.getD x0 []).getD 2 0)))))) (1,0)
noncomputable def a163 (x0 x1:Nat) (x2:LL) (p:Nat×Nat):Res := firstT [((Nat.beq (p.1) 0),vf (p.2),⟨[(tb sc0 x2)],1,[]⟩)]
noncomputable def w163 (x0 x1:Nat) (x2:LL):Res :=
 (cond (Nat.blt x0 x2.length)
 (cond (Nat.blt x0 x2.length) (a163 x0 x1 x2 (0,(fmul .f32 (fmul .f32 1092354048 (Int.toNat ((x2.getD x0 []).getD 0 0))) (fsub .f32 (r173 x1) (r173 (Int.toNat ((x2.getD x0 []).getD 2 0))))))) none)
 none)
theorem e163 (x0 x1:Nat) (x2:LL):evFn Try.prog ext T22 noL 200 Try.f163 [.pointer (some ⟨0,x0,some 0⟩),vf x1] ⟨[(tb sc0 x2)],1,[]⟩ = firstT [((Nat.beq ((r163 x0 x1 x2).1) 0),vf ((r163 x0 x1 x2).2),⟨[(tb sc0 x2)],1,[]⟩)] :=
 (show _ = w163 x0 x1 x2 from by kernel_rfl).trans
 (show w163 x0 x1 x2 = a163 x0 x1 x2 (r163 x0 x1 x2) from by unfold w163 r163; exact (cond_both (a163 x0 x1 x2) _ (fun h0 => (cond_t h0 rfl)) (fun h0 => rfl)))
noncomputable def s163 (args:List Value) (s:St):List (Bool×Value×St) :=
 match args,s.h with
 | [.pointer (some ⟨f0,x0,some f1⟩),.float .f32 x1],[⟨true,some (.tab [.fl .f32,.fl .f32,.fl .f32,.fl .f32,.int .i64] x2)⟩] => if f0 = 0 ∧ f1 = 0 then [((Nat.beq ((r163 x0 x1 x2).1) 0),vf ((r163 x0 x1 x2).2),⟨[(tb sc0 x2)],1,[]⟩)] else T22 163 args s
 | _,_ => T22 163 args s
noncomputable def T23:CallF := addF T22 163 s163
theorem ok23:CfOk Try.prog T23 := by
  refine cfOk_add ok22 fun args s r s' h1 h2 h3 => ?_
  unfold s163 at h3; split at h3
  · rename_i h; split at h3
    · rename_i hc; obtain ⟨rfl,rfl⟩ := hc; exact callOk ok22 Try.func163 h1 h2 h (lfOkF_no _ _).body (e163 _ _ _) rfl h3
    · exact ok22 _ _ _ _ _ h1 h2 h3
  · exact ok22 _ _ _ _ _ h1 h2 h3

noncomputable def r164 (x0:Nat) (x1:LL):Nat×Nat :=
 cond (Nat.blt x0 x1.length) (0,(fdiv .f32 (fadd .f32 1065353216 (fmul .f32 1048576000 (Int.toNat ((x1.getD x0 []).getD 0 0)))) (fmul .f32 (fmul .f32 (Int.toNat ((x1.getD x0 []).getD 1 0)) (Int.toNat ((x1.getD x0 []).getD 3 0))) (fmul .f32 (Int.toNat ((x1.getD x0 []).getD 1 0)) (Int.toNat ((x1.getD x0 []).getD 3 0)))))) (1,0)
noncomputable def a164 (x0:Nat) (x1:LL) (p:Nat×Nat):Res := firstT [((Nat.beq (p.1) 0),vf (p.2),⟨[(tb sc0 x1)],1,[]⟩)]
noncomputable def w164 (x0:Nat) (x1:LL):Res :=
 (cond (Nat.blt x0 x1.length)
 (cond (Nat.blt x0 x1.length) (cond (Nat.blt x0 x1.length) (a164 x0 x1 (0,(fdiv .f32 (fadd .f32 1065353216 (fmul .f32 1048576000 (Int.toNat ((x1.getD x0 []).getD 0 0)))) (fmul .f32 (fmul .f32 (Int.toNat ((x1.getD x0 []).getD 1 0)) (Int.toNat ((x1.getD x0 []).getD 3 0))) (fmul .f32 (Int.toNat ((x1.getD x0 []).getD 1 0)) (Int.toNat ((x1.getD x0 []).getD 3 0))))))) none) none)
 none)
theorem e164 (x0:Nat) (x1:LL):evFn Try.prog ext T23 noL 200 Try.f164 [.pointer (some ⟨0,x0,some 0⟩)] ⟨[(tb sc0 x1)],1,[]⟩ = firstT [((Nat.beq ((r164 x0 x1).1) 0),vf ((r164 x0 x1).2),⟨[(tb sc0 x1)],1,[]⟩)] :=
 (show _ = w164 x0 x1 from by kernel_rfl).trans
 (show w164 x0 x1 = a164 x0 x1 (r164 x0 x1) from by unfold w164 r164; exact (cond_both (a164 x0 x1) _ (fun h0 => (cond_t h0 (cond_t h0 rfl))) (fun h0 => rfl)))
noncomputable def s164 (args:List Value) (s:St):List (Bool×Value×St) :=
 match args,s.h with
 | [.pointer (some ⟨f0,x0,some f1⟩)],[⟨true,some (.tab [.fl .f32,.fl .f32,.fl .f32,.fl .f32,.int .i64] x1)⟩] => if f0 = 0 ∧ f1 = 0 then [((Nat.beq ((r164 x0 x1).1) 0),vf ((r164 x0 x1).2),⟨[(tb sc0 x1)],1,[]⟩)] else T23 164 args s
 | _,_ => T23 164 args s
noncomputable def T24:CallF := addF T23 164 s164
theorem ok24:CfOk Try.prog T24 := by
  refine cfOk_add ok23 fun args s r s' h1 h2 h3 => ?_
  unfold s164 at h3; split at h3
  · rename_i h; split at h3
    · rename_i hc; obtain ⟨rfl,rfl⟩ := hc; exact callOk ok23 Try.func164 h1 h2 h (lfOkF_no _ _).body (e164 _ _) rfl h3
    · exact ok23 _ _ _ _ _ h1 h2 h3
  · exact ok23 _ _ _ _ _ h1 h2 h3

noncomputable def r165 (x0:Nat):Nat :=
 ((fsqrt .f64 x0))
noncomputable def a165 (x0:Nat) (p:Nat):Res := firstT [(true,.float .f64 p,st0)]
noncomputable def w165 (x0:Nat):Res :=
 (a165 x0 ((fsqrt .f64 x0)))
theorem e165 (x0:Nat):evFn Try.prog ext T24 noL 200 Try.f165 [.float .f64 x0] st0 = firstT [(true,.float .f64 (r165 x0),st0)] :=
 (show _ = w165 x0 from by kernel_rfl).trans
 (show w165 x0 = a165 x0 (r165 x0) from by unfold w165 r165; exact rfl)
noncomputable def s165 (args:List Value) (s:St):List (Bool×Value×St) :=
 match args,s.h with
 | [.float .f64 x0],[] => [(true,.float .f64 (r165 x0),st0)]
 | _,_ => T24 165 args s
noncomputable def T25:CallF := addF T24 165 s165
theorem ok25:CfOk Try.prog T25 := by
  refine cfOk_add ok24 fun args s r s' h1 h2 h3 => ?_
  unfold s165 at h3; split at h3
  · rename_i h; exact callOk ok24 Try.func165 h1 h2 h (lfOkF_no _ _).body (e165 _) rfl h3
  · exact ok24 _ _ _ _ _ h1 h2 h3

noncomputable def r129 (x0 x1 x2:Nat) (x3:LL):Nat×Nat :=
 cond (Nat.blt x0 x3.length) (cond (feq .f32 (Int.toNat ((x3.getD x0 []).getD 3 0)) 0) (0,0) (cond (Nat.beq ((r163 x0 x1 x3).1) 0) (cond (Nat.beq ((r164 x0 x3).1) 0) (cond (flt .f32 (fdiv .f32 (fadd .f32 ((r163 x0 x1 x3).2) x2) ((r164 x0 x3).2)) 0) (cond (narrowOk (r165 (widen (fneg .f32 (fdiv .f32 (fadd .f32 ((r163 x0 x1 x3).2) x2) ((r164 x0 x3).2)))))) (0,(fneg .f32 (narrow (r165 (widen (fneg .f32 (fdiv .f32 (fadd .f32 ((r163 x0 x1 x3).2) x2) ((r164 x0 x3).2)))))))) (1,0)) (cond (narrowOk (r165 (widen (fdiv .f32 (fadd .f32 ((r163 x0 x1 x3).2) x2) ((r164 x0 x3).2))))) (0,(narrow (r165 (widen (fdiv .f32 (fadd .f32 ((r163 x0 x1 x3).2) x2) ((r164 x0 x3).2)))))) (1,0))) (1,0)) (1,0))) (1,0)
noncomputable def a129 (x0 x1 x2:Nat) (x3:LL) (p:Nat×Nat):Res := firstT [((Nat.beq (p.1) 0),vf (p.2),⟨[(tb sc0 x3)],1,[]⟩)]
noncomputable def w129 (x0 x1 x2:Nat) (x3:LL):Res :=
 (cond (Nat.blt x0 x3.length)
 (cond (feq .f32 (Int.toNat ((x3.getD x0 []).getD 3 0)) 0) (a129 x0 x1 x2 x3 (0,0)) (cond (Nat.beq ((r163 x0 x1 x3).1) 0) (cond (Nat.beq ((r164 x0 x3).1) 0) (cond (flt .f32 (fdiv .f32 (fadd .f32 ((r163 x0 x1 x3).2) x2) ((r164 x0 x3).2)) 0) (cond (narrowOk (r165 (widen (fneg .f32 (fdiv .f32 (fadd .f32 ((r163 x0 x1 x3).2) x2) ((r164 x0 x3).2)))))) (a129 x0 x1 x2 x3 (0,(fneg .f32 (narrow (r165 (widen (fneg .f32 (fdiv .f32 (fadd .f32 ((r163 x0 x1 x3).2) x2) ((r164 x0 x3).2))))))))) none) (cond (narrowOk (r165 (widen (fdiv .f32 (fadd .f32 ((r163 x0 x1 x3).2) x2) ((r164 x0 x3).2))))) (a129 x0 x1 x2 x3 (0,(narrow (r165 (widen (fdiv .f32 (fadd .f32 ((r163 x0 x1 x3).2) x2) ((r164 x0 x3).2))))))) none)) none) none))
 none)
theorem e129 (x0 x1 x2:Nat) (x3:LL):evFn Try.prog ext T25 noL 200 Try.f129 [.pointer (some ⟨0,x0,some 0⟩),vf x1,vf x2] ⟨[(tb sc0 x3)],1,[]⟩ = firstT [((Nat.beq ((r129 x0 x1 x2 x3).1) 0),vf ((r129 x0 x1 x2 x3).2),⟨[(tb sc0 x3)],1,[]⟩)] :=
 (show _ = w129 x0 x1 x2 x3 from by kernel_rfl).trans
 (show w129 x0 x1 x2 x3 = a129 x0 x1 x2 x3 (r129 x0 x1 x2 x3) from by unfold w129 r129; exact (cond_app (a129 x0 x1 x2 x3) _ (cond_app (a129 x0 x1 x2 x3) _ rfl (cond_app (a129 x0 x1 x2 x3) _ (cond_app (a129 x0 x1 x2 x3) _ (cond_app (a129 x0 x1 x2 x3) _ (cond_app (a129 x0 x1 x2 x3) _ rfl rfl) (cond_app (a129 x0 x1 x2 x3) _ rfl rfl)) rfl) rfl)) rfl))
noncomputable def s129 (args:List Value) (s:St):List (Bool×Value×St) :=
 match args,s.h with
 | [.pointer (some ⟨f0,x0,some f1⟩),.float .f32 x1,.float .f32 x2],[⟨true,some (.tab [.fl .f32,.fl .f32,.fl .f32,.fl .f32,.int .i64] x3)⟩] => if f0 = 0 ∧ f1 = 0 then [((Nat.beq ((r129 x0 x1 x2 x3).1) 0),vf ((r129 x0 x1 x2 x3).2),⟨[(tb sc0 x3)],1,[]⟩)] else T25 129 args s
 | _,_ => T25 129 args s
noncomputable def T26:CallF := addF T25 129 s129
theorem ok26:CfOk Try.prog T26 := by
  refine cfOk_add ok25 fun args s r s' h1 h2 h3 => ?_
  unfold s129 at h3; split at h3
  · rename_i h; split at h3
    · rename_i hc; obtain ⟨rfl,rfl⟩ := hc; exact callOk ok25 Try.func129 h1 h2 h (lfOkF_no _ _).body (e129 _ _ _ _) rfl h3
    · exact ok25 _ _ _ _ _ h1 h2 h3
  · exact ok25 _ _ _ _ _ h1 h2 h3

noncomputable def b67l1 (ih:Int→Nat→Nat→Nat→Nat→Int→Nat→Nat→Int→LL→LL→(Nat×Nat)) (x0:Int) (x1 x2 x3 x4:Nat) (x5:Int) (x6 x7:Nat) (x8:Int) (x9 x10:LL):Nat×Nat :=
 cond (decide ((x8:Int) < ((x10.length:Nat):Int))) (cond ((decide ((0:Int) ≤ x8)) && (Nat.blt (Int.toNat x8) x10.length)) (cond ((decide ((0:Int) ≤ ((x10.getD (Int.toNat x8) []).getD 0 0))) && (Nat.blt (Int.toNat ((x10.getD (Int.toNat x8) []).getD 0 0)) x9.length)) (cond (Nat.beq ((r129 (Int.toNat ((x10.getD (Int.toNat x8) []).getD 0 0)) x1 (fsub .f32 0 x6) x9).1) 0) (ih x0 x1 x2 x3 x4 x5 x6 (fadd .f32 x7 ((r129 (Int.toNat ((x10.getD (Int.toNat x8) []).getD 0 0)) x1 (fsub .f32 0 x6) x9).2)) (IntKind.i64.wrap (x8 + 1)) x9 x10) (1,0)) (1,0)) (1,0)) (0,x7)
noncomputable def r67l1:Nat→Int→Nat→Nat→Nat→Nat→Int→Nat→Nat→Int→LL→LL→(Nat×Nat)
 | 0 => fun _ _ _ _ _ _ _ _ _ _ _ => (1,0)
 | m + 1 => b67l1 (r67l1 m)
noncomputable def a67l1 (x0:Int) (x1 x2 x3 x4:Nat) (x5:Int) (x6 x7:Nat) (x8:Int) (x9 x10:LL) (p:Nat×Nat):Option (Fin'×List Value×St) := firstT ([((Nat.beq (p.1) 0),.exit 2,[wsl 0,vi x0,vf x1,vf x2,wsl 1,vf x3,vf x4,vi x5,vf x6,vf (p.2)],⟨[(tb sc0 x9),(tb [.int .i64] x10)],2,[]⟩)].map fun (b,x) => (b,(x.1,frameOf 70 [0,1,2,3,9,10,11,12,13,14] x.2.1,x.2.2)))
noncomputable def u67l1 (x0:Int) (x1 x2 x3 x4:Nat) (x5:Int) (x6 x7:Nat) (x8:Int) (x9 x10:LL) (p:Nat×Nat):Option (Fin'×List Value×St) := alts ([((Nat.beq (p.1) 0),.exit 2,[wsl 0,vi x0,vf x1,vf x2,wsl 1,vf x3,vf x4,vi x5,vf x6,vf (p.2)],⟨[(tb sc0 x9),(tb [.int .i64] x10)],2,[]⟩)].map fun (b,x) => (b,(x.1,frameOf 70 [0,1,2,3,9,10,11,12,13,14] x.2.1,x.2.2))) some
theorem v67l1 (x0:Int) (x1 x2 x3 x4:Nat) (x5:Int) (x6 x7:Nat) (x8:Int) (x9 x10:LL) (p:Nat×Nat):u67l1 x0 x1 x2 x3 x4 x5 x6 x7 x8 x9 x10 p = a67l1 x0 x1 x2 x3 x4 x5 x6 x7 x8 x9 x10 p := alts_first _
noncomputable def q67l1 (m:Nat):SumK := fun vals s =>
 match vals,s.h with
 | [.iface f0 .nilIface,.int .i64 x0,.float .f32 x1,.float .f32 x2,.iface f1 .nilIface,.float .f32 x3,.float .f32 x4,.int .i64 x5,.float .f32 x6,.float .f32 x7,.int .i64 x8],[⟨true,some (.tab [.fl .f32,.fl .f32,.fl .f32,.fl .f32,.int .i64] x9)⟩,⟨true,some (.tab [.int .i64] x10)⟩] => if f0 = 0 ∧ f1 = 1 then [((Nat.beq ((r67l1 m x0 x1 x2 x3 x4 x5 x6 x7 x8 x9 x10).1) 0),.exit 2,[wsl 0,vi x0,vf x1,vf x2,wsl 1,vf x3,vf x4,vi x5,vf x6,vf ((r67l1 m x0 x1 x2 x3 x4 x5 x6 x7 x8 x9 x10).2)],⟨[(tb sc0 x9),(tb [.int .i64] x10)],2,[]⟩)] else noQ vals s
 | _,_ => noQ vals s
noncomputable def w67l1 (ih:Int→Nat→Nat→Nat→Nat→Int→Nat→Nat→Int→LL→LL→(Nat×Nat)) (x0:Int) (x1 x2 x3 x4:Nat) (x5:Int) (x6 x7:Nat) (x8:Int) (x9 x10:LL):Option (Fin'×List Value×St) :=
 (cond (decide ((x8:Int) < ((x10.length:Nat):Int)))
 (cond ((decide ((0:Int) ≤ x8)) && (Nat.blt (Int.toNat x8) x10.length)) (cond (Nat.blt (Int.toNat x8) x10.length) (cond ((decide ((0:Int) ≤ ((x10.getD (Int.toNat x8) []).getD 0 0))) && (Nat.blt (Int.toNat ((x10.getD (Int.toNat x8) []).getD 0 0)) x9.length)) (cond (Nat.beq ((r129 (Int.toNat ((x10.getD (Int.toNat x8) []).getD 0 0)) x1 (fsub .f32 0 x6) x9).1) 0) (u67l1 x0 x1 x2 x3 x4 x5 x6 x7 x8 x9 x10 (ih x0 x1 x2 x3 x4 x5 x6 (fadd .f32 x7 ((r129 (Int.toNat ((x10.getD (Int.toNat x8) []).getD 0 0)) x1 (fsub .f32 0 x6) x9).2)) (IntKind.i64.wrap (x8 + 1)) x9 x10)) none) none) none) none)
 (a67l1 x0 x1 x2 x3 x4 x5 x6 x7 x8 x9 x10 (0,x7)))
theorem e67l1 (m:Nat) (x0:Int) (x1 x2 x3 x4:Nat) (x5:Int) (x6 x7:Nat) (x8:Int) (x9 x10:LL):evC Try.prog ext T26 noL 200 (loopN Try.f67 1) (loopTail ([0,1,2,3,9,10,11,12,13,14,15],[]) [0,1,2,3,9,10,11,12,13,14] [] (sumK 70 [0,1,2,3,9,10,11,12,13,14,15] [0,1,2,3,9,10,11,12,13,14] (q67l1 m))) (frameOf 70 [0,1,2,3,9,10,11,12,13,14,15] [wsl 0,vi x0,vf x1,vf x2,wsl 1,vf x3,vf x4,vi x5,vf x6,vf x7,vi x8]) ⟨[(tb sc0 x9),(tb [.int .i64] x10)],2,[]⟩ = firstT ([((Nat.beq ((r67l1 (m + 1) x0 x1 x2 x3 x4 x5 x6 x7 x8 x9 x10).1) 0),.exit 2,[wsl 0,vi x0,vf x1,vf x2,wsl 1,vf x3,vf x4,vi x5,vf x6,vf ((r67l1 (m + 1) x0 x1 x2 x3 x4 x5 x6 x7 x8 x9 x10).2)],⟨[(tb sc0 x9),(tb [.int .i64] x10)],2,[]⟩)].map fun (b,x) => (b,(x.1,frameOf 70 [0,1,2,3,9,10,11,12,13,14] x.2.1,x.2.2))) :=
 (show _ = w67l1 (r67l1 m) x0 x1 x2 x3 x4 x5 x6 x7 x8 x9 x10 from by kernel_rfl).trans
 (show w67l1 (r67l1 m) x0 x1 x2 x3 x4 x5 x6 x7 x8 x9 x10 = a67l1 x0 x1 x2 x3 x4 x5 x6 x7 x8 x9 x10 (r67l1 (m + 1) x0 x1 x2 x3 x4 x5 x6 x7 x8 x9 x10) from by unfold w67l1; show _ = a67l1 x0 x1 x2 x3 x4 x5 x6 x7 x8 x9 x10 (b67l1 (r67l1 m) x0 x1 x2 x3 x4 x5 x6 x7 x8 x9 x10); unfold b67l1; exact (cond_both (a67l1 x0 x1 x2 x3 x4 x5 x6 x7 x8 x9 x10) _ (fun h0 => (cond_both (a67l1 x0 x1 x2 x3 x4 x5 x6 x7 x8 x9 x10) _ (fun h1 => (cond_t (ev_and2 h1) (cond_app (a67l1 x0 x1 x2 x3 x4 x5 x6 x7 x8 x9 x10) _ (cond_app (a67l1 x0 x1 x2 x3 x4 x5 x6 x7 x8 x9 x10) _ (v67l1 x0 x1 x2 x3 x4 x5 x6 x7 x8 x9 x10 ((r67l1 m) x0 x1 x2 x3 x4 x5 x6 (fadd .f32 x7 ((r129 (Int.toNat ((x10.getD (Int.toNat x8) []).getD 0 0)) x1 (fsub .f32 0 x6) x9).2)) (IntKind.i64.wrap (x8 + 1)) x9 x10)) rfl) rfl))) (fun h1 => rfl))) (fun h0 => rfl)))
theorem qm67l1:∀ m,SumKOk Try.prog (loopN Try.f67 1) 70 [0,1,2,3,9,10,11,12,13,14,15] [0,1,2,3,9,10,11,12,13,14] (q67l1 m) := by
  intro m
  induction m with
  | zero =>
    intro vals s x h1 h2 h3
    unfold q67l1 at h3; split at h3
    · rename_i h; split at h3
      · rename_i hc; obtain ⟨rfl,rfl⟩ := hc; exact absurd h3 (by simp [r67l1,firstT,Nat.beq])
      · exact noQ_ok _ _ _ h1 h2 h3
    · exact noQ_ok _ _ _ h1 h2 h3
  | succ m ih =>
    intro vals s x h1 h2 h3
    unfold q67l1 at h3; split at h3
    · rename_i h; split at h3
      · rename_i hc; obtain ⟨rfl,rfl⟩ := hc; exact sum_step ok26 extOk mixed ((lfOkF_no _ _).inner (by kernel_rfl)) ih h1 h2 h (e67l1 m _ _ _ _ _ _ _ _ _ _ _) rfl h3
      · exact noQ_ok _ _ _ h1 h2 h3
    · exact noQ_ok _ _ _ h1 h2 h3
noncomputable def Q67l1:SumK := fun vals s => q67l1 (fuelOf vals s.h) vals s
theorem qok67l1:SumKOk Try.prog (loopN Try.f67 1) 70 [0,1,2,3,9,10,11,12,13,14,15] [0,1,2,3,9,10,11,12,13,14] Q67l1 := fuel_ok qm67l1 fuelOf
noncomputable def L67_1:LoopT := addL noL 13 ([0,1,2,3,9,10,11,12,13,14,15],[]) (sumK 70 [0,1,2,3,9,10,11,12,13,14,15] [0,1,2,3,9,10,11,12,13,14] Q67l1)
theorem lok67_1:LfOkF Try.prog L67_1 Try.f67 := lfOkF_add (lfOkF_no _ _) qok67l1 (by kernel_rfl) (by kernel_rfl) (by kernel_rfl)
end Go.Proofs.Ytmknfenjnladeaa
