/- What the functions that the statements reach answer, part 1. -/
import Derived.Test.YtffpnkkhcgjmfaaDoorA40
import Derived.KernelRfl
import Derived.Test.YtffpnkkhcgjmfaaDoorChecked
namespace Go.Proofs.YtffpnkkhcgjmfaaDoor
open Go.Ab
set_option maxHeartbeats 4000000
set_option maxRecDepth 100000

def ext : FuncId → Option Ext := fun g => (cond (Nat.beq g 55) (some .f32bits) (cond (Nat.beq g 98) (some .f64from) (cond (Nat.beq g 99) (some .f64bits) none)))
theorem ext_case {g : FuncId} {e : Ext} (h : ext g = some e) : g = 55 ∧ e = .f32bits ∨ g = 98 ∧ e = .f64from ∨ g = 99 ∧ e = .f64bits := by
  unfold ext at h
  cases h0 : Nat.beq g 55 with
  | true => rw [h0] at h; cases h; exact .inl ⟨Nat.eq_of_beq_eq_true h0, rfl⟩
  | false =>
    rw [h0] at h
    cases h1 : Nat.beq g 98 with
    | true => rw [h1] at h; cases h; exact .inr (.inl ⟨Nat.eq_of_beq_eq_true h1, rfl⟩)
    | false =>
      rw [h1] at h
      cases h2 : Nat.beq g 99 with
      | true => rw [h2] at h; cases h; exact .inr (.inr (⟨Nat.eq_of_beq_eq_true h2, rfl⟩))
      | false =>
        rw [h2] at h
        cases h
theorem extOk : ExtOk Tryd.prog ext := by
  intro g e h
  rcases ext_case h with ⟨rfl, rfl⟩ | ⟨rfl, rfl⟩ | ⟨rfl, rfl⟩
  · exact ⟨Tryd.f55, Tryd.func55, by kernel_rfl, by kernel_rfl, by kernel_rfl, by kernel_rfl⟩
  · exact ⟨Tryd.f98, Tryd.func98, by kernel_rfl, by kernel_rfl, by kernel_rfl, by kernel_rfl⟩
  · exact ⟨Tryd.f99, Tryd.func99, by kernel_rfl, by kernel_rfl, by kernel_rfl, by kernel_rfl⟩
theorem mixed : Tryd.prog.follows .mixedOrders = true := by kernel_rfl
theorem callOk {cf : CallF} (hcf : CfOk Tryd.prog cf) {lf : LoopT} {N : Nat} {f : FuncId} {fn : Func} (hf : Tryd.prog.funcs[f]? = some fn) {args : List Value} {s : St} {l : List Blk} {n : Nat} {L : List (Bool × Value × St)} {r' : Value} {s' : St} (h1 : s.lo = s.h.length) (h2 : s.wr = []) (h : s.h = l) (hl : ∀ c, fn.body = some c → LfOk Tryd.prog lf (loopsOf c)) (he : evFn Tryd.prog ext cf lf N fn args ⟨l, n, []⟩ = firstT L) (hn : n = l.length) (h3 : firstT L = some (r', s')) : CallsOK Tryd.prog f args s r' s' :=
  call_ok extOk mixed hcf hf h1 h2 h hl he hn h3
def lays156_ren : Go.Shelf.Ren := ⟨fun | 156 => 73 | 165 => 87 | 166 => 88 | 169 => 89 | 240 => 96 | 241 => 97 | 276 => 105 | 277 => 106 | n => n, fun | 31 => 22 | 9 => 9 | 3 => 3 | 4 => 4 | 0 => 0 | 20 => 20 | 72 => 125 | 76 => 129 | 70 => 123 | 37 => 88 | 75 => 128 | 127 => 140 | 164 => 149 | 5 => 5 | 80 => 131 | n => n, fun | n => n⟩
theorem lays156 : Go.Proofs.Lays.n156 Tryd.prog lays156_ren := {
  mixed := by kernel_rfl
  f156 := Tryd.func73.trans (congrArg some (by kernel_rfl))
  f165 := Tryd.func87.trans (congrArg some (by kernel_rfl))
  f166 := Tryd.func88.trans (congrArg some (by kernel_rfl))
  f169 := Tryd.func89.trans (congrArg some (by kernel_rfl))
  f240 := Tryd.func96.trans (congrArg some (by kernel_rfl))
  f241 := Tryd.func97.trans (congrArg some (by kernel_rfl))
  f276 := Tryd.func105.trans (congrArg some (by kernel_rfl))
  f277 := Tryd.func106.trans (congrArg some (by kernel_rfl))
  t0 := Tryd.underlying0
  a0 := Tryd.isAgg0
  z0 := Tryd.sizeOf0
  v0 := Tryd.zeroValue0
  t3 := Tryd.underlying3
  a3 := Tryd.isAgg3
  z3 := Tryd.sizeOf3
  v3 := Tryd.zeroValue3
  t4 := Tryd.underlying4
  a4 := Tryd.isAgg4
  z4 := Tryd.sizeOf4
  v4 := Tryd.zeroValue4
  t9 := Tryd.underlying9
  a9 := Tryd.isAgg9
  z9 := Tryd.sizeOf9
  v9 := Tryd.zeroValue9
  t20 := Tryd.underlying20
  a20 := Tryd.isAgg20
  z20 := Tryd.sizeOf20
  v20 := Tryd.zeroValue20
  t31 := Tryd.underlying22
  a31 := Tryd.isAgg22
  z31 := Tryd.sizeOf22
  v31 := Tryd.zeroValue22
  t37 := Tryd.underlying88
  a37 := Tryd.isAgg88
  z37 := Tryd.sizeOf88
  v37 := Tryd.zeroValue88
  t70 := Tryd.underlying123
  a70 := Tryd.isAgg123
  z70 := Tryd.sizeOf123
  v70 := Tryd.zeroValue123
  t72 := Tryd.underlying125
  a72 := Tryd.isAgg125
  z72 := Tryd.sizeOf125
  v72 := Tryd.zeroValue125
  t75 := Tryd.underlying128
  a75 := Tryd.isAgg128
  z75 := Tryd.sizeOf128
  v75 := Tryd.zeroValue128
  t76 := Tryd.underlying129
  a76 := Tryd.isAgg129
  z76 := Tryd.sizeOf129
  v76 := Tryd.zeroValue129
  t127 := Tryd.underlying140
  a127 := Tryd.isAgg140
  z127 := Tryd.sizeOf140
  v127 := Tryd.zeroValue140
  t164 := Tryd.underlying149
  a164 := Tryd.isAgg149
  z164 := Tryd.sizeOf149
  v164 := Tryd.zeroValue149 }
def lays173_ren : Go.Shelf.Ren := ⟨fun | 173 => 71 | 246 => 83 | 283 => 92 | 284 => 93 | 285 => 94 | 286 => 95 | 129 => 101 | 317 => 100 | 318 => 102 | 319 => 103 | 320 => 104 | 337 => 107 | 338 => 108 | n => n, fun | 2 => 2 | 3 => 3 | 9 => 9 | 4 => 4 | 171 => 134 | 0 => 0 | 53 => 135 | 37 => 88 | 5 => 5 | 173 => 138 | 212 => 145 | 51 => 86 | 20 => 20 | 213 => 146 | 46 => 122 | 232 => 153 | 233 => 154 | n => n, fun | 17 => 1 | 18 => 3 | 19 => 4 | n => n⟩
theorem lays173 : Go.Proofs.Lays.n173 Tryd.prog lays173_ren := {
  mixed := by kernel_rfl
  f129 := Tryd.func101.trans (congrArg some (by kernel_rfl))
  f173 := Tryd.func71.trans (congrArg some (by kernel_rfl))
  f246 := Tryd.func83.trans (congrArg some (by kernel_rfl))
  f283 := Tryd.func92.trans (congrArg some (by kernel_rfl))
  f284 := Tryd.func93.trans (congrArg some (by kernel_rfl))
  f285 := Tryd.func94.trans (congrArg some (by kernel_rfl))
  f286 := Tryd.func95.trans (congrArg some (by kernel_rfl))
  f317 := Tryd.func100.trans (congrArg some (by kernel_rfl))
  f318 := Tryd.func102.trans (congrArg some (by kernel_rfl))
  f319 := Tryd.func103.trans (congrArg some (by kernel_rfl))
  f320 := Tryd.func104.trans (congrArg some (by kernel_rfl))
  f337 := Tryd.func107.trans (congrArg some (by kernel_rfl))
  f338 := Tryd.func108.trans (congrArg some (by kernel_rfl))
  t0 := Tryd.underlying0
  a0 := Tryd.isAgg0
  z0 := Tryd.sizeOf0
  v0 := Tryd.zeroValue0
  t2 := Tryd.underlying2
  a2 := Tryd.isAgg2
  z2 := Tryd.sizeOf2
  v2 := Tryd.zeroValue2
  t3 := Tryd.underlying3
  a3 := Tryd.isAgg3
  z3 := Tryd.sizeOf3
  v3 := Tryd.zeroValue3
  t4 := Tryd.underlying4
  a4 := Tryd.isAgg4
  z4 := Tryd.sizeOf4
  v4 := Tryd.zeroValue4
  t5 := Tryd.underlying5
  a5 := Tryd.isAgg5
  z5 := Tryd.sizeOf5
  v5 := Tryd.zeroValue5
  t9 := Tryd.underlying9
  a9 := Tryd.isAgg9
  z9 := Tryd.sizeOf9
  v9 := Tryd.zeroValue9
  t20 := Tryd.underlying20
  a20 := Tryd.isAgg20
  z20 := Tryd.sizeOf20
  v20 := Tryd.zeroValue20
  t37 := Tryd.underlying88
  a37 := Tryd.isAgg88
  z37 := Tryd.sizeOf88
  v37 := Tryd.zeroValue88
  t46 := Tryd.underlying122
  a46 := Tryd.isAgg122
  z46 := Tryd.sizeOf122
  v46 := Tryd.zeroValue122
  t51 := Tryd.underlying86
  a51 := Tryd.isAgg86
  z51 := Tryd.sizeOf86
  v51 := Tryd.zeroValue86
  t53 := Tryd.underlying135
  a53 := Tryd.isAgg135
  z53 := Tryd.sizeOf135
  v53 := Tryd.zeroValue135
  t171 := Tryd.underlying134
  a171 := Tryd.isAgg134
  z171 := Tryd.sizeOf134
  v171 := Tryd.zeroValue134
  t173 := Tryd.underlying138
  a173 := Tryd.isAgg138
  z173 := Tryd.sizeOf138
  v173 := Tryd.zeroValue138
  t212 := Tryd.underlying145
  a212 := Tryd.isAgg145
  z212 := Tryd.sizeOf145
  v212 := Tryd.zeroValue145
  t213 := Tryd.underlying146
  a213 := Tryd.isAgg146
  z213 := Tryd.sizeOf146
  t232 := Tryd.underlying153
  a232 := Tryd.isAgg153
  z232 := Tryd.sizeOf153
  v232 := Tryd.zeroValue153
  t233 := Tryd.underlying154
  a233 := Tryd.isAgg154
  z233 := Tryd.sizeOf154
  v233 := Tryd.zeroValue154
  g17 := by kernel_rfl
  g18 := by kernel_rfl
  g19 := by kernel_rfl }
def lays171_ren : Go.Shelf.Ren := ⟨fun | 171 => 26 | 243 => 56 | 246 => 83 | 283 => 92 | 284 => 93 | 285 => 94 | 286 => 95 | 129 => 101 | 317 => 100 | 318 => 102 | 319 => 103 | 320 => 104 | 337 => 107 | 338 => 108 | n => n, fun | 3 => 3 | 9 => 9 | 2 => 2 | 4 => 4 | 171 => 134 | 0 => 0 | 53 => 135 | 37 => 88 | 5 => 5 | 173 => 138 | 212 => 145 | 51 => 86 | 20 => 20 | 213 => 146 | 46 => 122 | 232 => 153 | 233 => 154 | n => n, fun | 17 => 1 | 18 => 3 | 19 => 4 | n => n⟩
theorem lays171 : Go.Proofs.Lays.n171 Tryd.prog lays171_ren := {
  mixed := by kernel_rfl
  f129 := Tryd.func101.trans (congrArg some (by kernel_rfl))
  f171 := Tryd.func26.trans (congrArg some (by kernel_rfl))
  f243 := Tryd.func56.trans (congrArg some (by kernel_rfl))
  f246 := Tryd.func83.trans (congrArg some (by kernel_rfl))
  f283 := Tryd.func92.trans (congrArg some (by kernel_rfl))
  f284 := Tryd.func93.trans (congrArg some (by kernel_rfl))
  f285 := Tryd.func94.trans (congrArg some (by kernel_rfl))
  f286 := Tryd.func95.trans (congrArg some (by kernel_rfl))
  f317 := Tryd.func100.trans (congrArg some (by kernel_rfl))
  f318 := Tryd.func102.trans (congrArg some (by kernel_rfl))
  f319 := Tryd.func103.trans (congrArg some (by kernel_rfl))
  f320 := Tryd.func104.trans (congrArg some (by kernel_rfl))
  f337 := Tryd.func107.trans (congrArg some (by kernel_rfl))
  f338 := Tryd.func108.trans (congrArg some (by kernel_rfl))
  t0 := Tryd.underlying0
  a0 := Tryd.isAgg0
  z0 := Tryd.sizeOf0
  v0 := Tryd.zeroValue0
  t2 := Tryd.underlying2
  a2 := Tryd.isAgg2
  z2 := Tryd.sizeOf2
  v2 := Tryd.zeroValue2
  t3 := Tryd.underlying3
  a3 := Tryd.isAgg3
  z3 := Tryd.sizeOf3
  v3 := Tryd.zeroValue3
  t4 := Tryd.underlying4
  a4 := Tryd.isAgg4
  z4 := Tryd.sizeOf4
  v4 := Tryd.zeroValue4
  t5 := Tryd.underlying5
  a5 := Tryd.isAgg5
  z5 := Tryd.sizeOf5
  v5 := Tryd.zeroValue5
  t9 := Tryd.underlying9
  a9 := Tryd.isAgg9
  z9 := Tryd.sizeOf9
  v9 := Tryd.zeroValue9
  t20 := Tryd.underlying20
  a20 := Tryd.isAgg20
  z20 := Tryd.sizeOf20
  v20 := Tryd.zeroValue20
  t37 := Tryd.underlying88
  a37 := Tryd.isAgg88
  z37 := Tryd.sizeOf88
  v37 := Tryd.zeroValue88
  t46 := Tryd.underlying122
  a46 := Tryd.isAgg122
  z46 := Tryd.sizeOf122
  v46 := Tryd.zeroValue122
  t51 := Tryd.underlying86
  a51 := Tryd.isAgg86
  z51 := Tryd.sizeOf86
  v51 := Tryd.zeroValue86
  t53 := Tryd.underlying135
  a53 := Tryd.isAgg135
  z53 := Tryd.sizeOf135
  v53 := Tryd.zeroValue135
  t171 := Tryd.underlying134
  a171 := Tryd.isAgg134
  z171 := Tryd.sizeOf134
  v171 := Tryd.zeroValue134
  t173 := Tryd.underlying138
  a173 := Tryd.isAgg138
  z173 := Tryd.sizeOf138
  v173 := Tryd.zeroValue138
  t212 := Tryd.underlying145
  a212 := Tryd.isAgg145
  z212 := Tryd.sizeOf145
  v212 := Tryd.zeroValue145
  t213 := Tryd.underlying146
  a213 := Tryd.isAgg146
  z213 := Tryd.sizeOf146
  t232 := Tryd.underlying153
  a232 := Tryd.isAgg153
  z232 := Tryd.sizeOf153
  v232 := Tryd.zeroValue153
  t233 := Tryd.underlying154
  a233 := Tryd.isAgg154
  z233 := Tryd.sizeOf154
  v233 := Tryd.zeroValue154
  g17 := by kernel_rfl
  g18 := by kernel_rfl
  g19 := by kernel_rfl }
theorem bx : Go.Proofs.Builder.Extra Tryd.prog lays156_ren := {
  sizeBuilder := by kernel_rfl
  liesBuilder := by kernel_rfl
  t5 := Tryd.underlying5
  a5 := Tryd.isAgg5
  z5 := Tryd.sizeOf5
  v5 := Tryd.zeroValue5
  infoByte := by kernel_rfl
  cellsByte := by kernel_rfl
  sizeByte := by kernel_rfl
  neB5 := by decide }
theorem fn26 : Fn? Tryd.prog 26 := ⟨Tryd.f26, Tryd.func26, by kernel_rfl, by kernel_rfl⟩
def S1 : CallF := addF noF 26 sItoaSmall
theorem okS1 : CfOk Tryd.prog S1 := cfOk_add (cfOk_no _) fun args s r s' _ _ h => itoaSmall_calls lays171 fn26 args s r s' h
theorem fn71 : Fn? Tryd.prog 71 := ⟨Tryd.f71, Tryd.func71, by kernel_rfl, by kernel_rfl⟩
def S2 : CallF := addF S1 71 sFormatSmall
theorem okS2 : CfOk Tryd.prog S2 := cfOk_add okS1 fun args s r s' _ _ h => formatSmall_calls lays173 fn71 args s r s' h
theorem fn73 : Fn? Tryd.prog 73 := ⟨Tryd.f73, Tryd.func73, by kernel_rfl, by kernel_rfl⟩
def S3 : CallF := addF S2 73 sJoin
theorem okS3 : CfOk Tryd.prog S3 := cfOk_add okS2 fun args s r s' _ _ h => join_calls lays156 bx fn73 args s r s' h
def T0 : CallF := S3
theorem ok0 : CfOk Tryd.prog T0 := okS3
def sc0 : List CT := [.int .i64, .int .i64, .fl .f32, .fl .f32, .fl .f32, .fl .f32, .fl .f32, .fl .f32]
def sc1 : List CT := [.int .i64, .int .i64, .fl .f32, .fl .f32]

/-- laws.szFloat32S -/
noncomputable def w29 {α : Type} (x0 : Int) (x1 : List (List Int)) (k : Int → α) : α :=
 cond (decide (((IntKind.i64.wrap (x0 - ((x1.length : Nat) : Int))) : Int) < 0))
  (k ((-1)))
  (k ((IntKind.i64.wrap (x0 - ((x1.length : Nat) : Int)))))
noncomputable def r29 (x0 : Int) (x1 : List (List Int)) : Int := w29 x0 x1 (fun p => p)
noncomputable def g29 (x0 : Int) (x1 : List (List Int)) (p : Int) : List (Bool × Value × St) := [(true, vi p, ⟨[⟨false, (some (.tab [.fl .f32] x1))⟩], 1, []⟩)]
theorem p29 {α : Type} (x0 : Int) (x1 : List (List Int)) (f : Int → α) : w29 x0 x1 f = f (w29 x0 x1 (fun p => p)) := by unfold w29; exact (cond_app f _ rfl rfl)
set_option maxRecDepth 100000 in
set_option maxHeartbeats 4000000 in
theorem e29 (x0 : Int) (x1 : List (List Int)) : evFn Tryd.prog ext T0 noL 200 Tryd.f29 [wsl 0, vi x0] ⟨[⟨false, (some (.tab [.fl .f32] x1))⟩], 1, []⟩ = firstT (g29 x0 x1 (r29 x0 x1)) :=
 Eq.trans (by kernel_rfl) (p29 x0 x1 (fun p => firstT (g29 x0 x1 p)))
noncomputable def s29 (args : List Value) (s : St) : List (Bool × Value × St) :=
 match args, s.h with
 | [.iface f0 .nilIface, .int .i64 x0], [⟨false, some (.tab [.fl .f32] x1)⟩] => if f0 = 0 then (g29 x0 x1 (r29 x0 x1)) else T0 29 args s
 | _, _ => T0 29 args s
noncomputable def T1 : CallF := addF T0 29 s29
set_option maxRecDepth 100000 in
set_option maxHeartbeats 4000000 in
theorem ok1 : CfOk Tryd.prog T1 := by
  refine cfOk_add ok0 fun args s r s' h1 h2 h3 => ?_
  unfold s29 at h3; split at h3
  · rename_i h; split at h3
    · rename_i hc; obtain ⟨rfl⟩ := hc; exact callOk ok0 Tryd.func29 h1 h2 h (lfOkF_no _ _).body (e29 _ _) rfl h3
    · exact ok0 _ _ _ _ _ h1 h2 h3
  · exact ok0 _ _ _ _ _ h1 h2 h3

/-- laws.szWallS -/
noncomputable def w30 {α : Type} (x0 : Int) (x1 : List (List Int)) (k : Int → α) : α :=
 cond (decide (((IntKind.i64.wrap (x0 - ((x1.length : Nat) : Int))) : Int) < 0))
  (k ((-1)))
  (k ((IntKind.i64.wrap (x0 - ((x1.length : Nat) : Int)))))
noncomputable def r30 (x0 : Int) (x1 : List (List Int)) : Int := w30 x0 x1 (fun p => p)
noncomputable def g30 (x0 : Int) (x1 : List (List Int)) (p : Int) : List (Bool × Value × St) := [(true, vi p, ⟨[⟨false, (some (.tab sc0 x1))⟩], 1, []⟩)]
theorem p30 {α : Type} (x0 : Int) (x1 : List (List Int)) (f : Int → α) : w30 x0 x1 f = f (w30 x0 x1 (fun p => p)) := by unfold w30; exact (cond_app f _ rfl rfl)
set_option maxRecDepth 100000 in
set_option maxHeartbeats 4000000 in
theorem e30 (x0 : Int) (x1 : List (List Int)) : evFn Tryd.prog ext T1 noL 200 Tryd.f30 [wsl 0, vi x0] ⟨[⟨false, (some (.tab sc0 x1))⟩], 1, []⟩ = firstT (g30 x0 x1 (r30 x0 x1)) :=
 Eq.trans (by kernel_rfl) (p30 x0 x1 (fun p => firstT (g30 x0 x1 p)))
noncomputable def s30 (args : List Value) (s : St) : List (Bool × Value × St) :=
 match args, s.h with
 | [.iface f0 .nilIface, .int .i64 x0], [⟨false, some (.tab [.int .i64, .int .i64, .fl .f32, .fl .f32, .fl .f32, .fl .f32, .fl .f32, .fl .f32] x1)⟩] => if f0 = 0 then (g30 x0 x1 (r30 x0 x1)) else T1 30 args s
 | _, _ => T1 30 args s
noncomputable def T2 : CallF := addF T1 30 s30
set_option maxRecDepth 100000 in
set_option maxHeartbeats 4000000 in
theorem ok2 : CfOk Tryd.prog T2 := by
  refine cfOk_add ok1 fun args s r s' h1 h2 h3 => ?_
  unfold s30 at h3; split at h3
  · rename_i h; split at h3
    · rename_i hc; obtain ⟨rfl⟩ := hc; exact callOk ok1 Tryd.func30 h1 h2 h (lfOkF_no _ _).body (e30 _ _) rfl h3
    · exact ok1 _ _ _ _ _ h1 h2 h3
  · exact ok1 _ _ _ _ _ h1 h2 h3

/-- laws.szPaneS -/
noncomputable def w31 {α : Type} (x0 : Int) (x1 : List (List Int)) (k : Int → α) : α :=
 cond (decide (((IntKind.i64.wrap (x0 - ((x1.length : Nat) : Int))) : Int) < 0))
  (k ((-1)))
  (k ((IntKind.i64.wrap (x0 - ((x1.length : Nat) : Int)))))
noncomputable def r31 (x0 : Int) (x1 : List (List Int)) : Int := w31 x0 x1 (fun p => p)
noncomputable def g31 (x0 : Int) (x1 : List (List Int)) (p : Int) : List (Bool × Value × St) := [(true, vi p, ⟨[⟨false, (some (.tab sc1 x1))⟩], 1, []⟩)]
theorem p31 {α : Type} (x0 : Int) (x1 : List (List Int)) (f : Int → α) : w31 x0 x1 f = f (w31 x0 x1 (fun p => p)) := by unfold w31; exact (cond_app f _ rfl rfl)
set_option maxRecDepth 100000 in
set_option maxHeartbeats 4000000 in
theorem e31 (x0 : Int) (x1 : List (List Int)) : evFn Tryd.prog ext T2 noL 200 Tryd.f31 [wsl 0, vi x0] ⟨[⟨false, (some (.tab sc1 x1))⟩], 1, []⟩ = firstT (g31 x0 x1 (r31 x0 x1)) :=
 Eq.trans (by kernel_rfl) (p31 x0 x1 (fun p => firstT (g31 x0 x1 p)))
noncomputable def s31 (args : List Value) (s : St) : List (Bool × Value × St) :=
 match args, s.h with
 | [.iface f0 .nilIface, .int .i64 x0], [⟨false, some (.tab [.int .i64, .int .i64, .fl .f32, .fl .f32] x1)⟩] => if f0 = 0 then (g31 x0 x1 (r31 x0 x1)) else T2 31 args s
 | _, _ => T2 31 args s
noncomputable def T3 : CallF := addF T2 31 s31
set_option maxRecDepth 100000 in
set_option maxHeartbeats 4000000 in
theorem ok3 : CfOk Tryd.prog T3 := by
  refine cfOk_add ok2 fun args s r s' h1 h2 h3 => ?_
  unfold s31 at h3; split at h3
  · rename_i h; split at h3
    · rename_i hc; obtain ⟨rfl⟩ := hc; exact callOk ok2 Tryd.func31 h1 h2 h (lfOkF_no _ _).body (e31 _ _) rfl h3
    · exact ok2 _ _ _ _ _ h1 h2 h3
  · exact ok2 _ _ _ _ _ h1 h2 h3

/-- laws.szFlat -/
noncomputable def w10 {α : Type} (x0 : Int) (x1 x2 x3 x4 : List (List Int)) (k : Int → α) : α :=
 cond (decide (((r29 x0 x1) : Int) < 0))
  (k ((-1)))
  (cond (decide (((r29 (r29 x0 x1) x2) : Int) < 0))
   (k ((-1)))
   (cond (decide (((r30 (r29 (r29 x0 x1) x2) x3) : Int) < 0))
    (k ((-1)))
    (cond (decide (((r31 (r30 (r29 (r29 x0 x1) x2) x3) x4) : Int) < 0))
     (k ((-1)))
     (k ((r31 (r30 (r29 (r29 x0 x1) x2) x3) x4))))))
noncomputable def r10 (x0 : Int) (x1 x2 x3 x4 : List (List Int)) : Int := w10 x0 x1 x2 x3 x4 (fun p => p)
noncomputable def g10 (x0 : Int) (x1 x2 x3 x4 : List (List Int)) (p : Int) : List (Bool × Value × St) := [(true, vi p, ⟨[⟨false, (some (.tab [.fl .f32] x1))⟩, ⟨false, (some (.tab [.fl .f32] x2))⟩, ⟨false, (some (.tab sc0 x3))⟩, ⟨false, (some (.tab sc1 x4))⟩], 4, []⟩)]
theorem p10 {α : Type} (x0 : Int) (x1 x2 x3 x4 : List (List Int)) (f : Int → α) : w10 x0 x1 x2 x3 x4 f = f (w10 x0 x1 x2 x3 x4 (fun p => p)) := by unfold w10; exact (cond_app f _ rfl (cond_app f _ rfl (cond_app f _ rfl (cond_app f _ rfl rfl))))
set_option maxRecDepth 100000 in
set_option maxHeartbeats 4000000 in
theorem e10 (x0 : Int) (x1 x2 x3 x4 : List (List Int)) : evFn Tryd.prog ext T3 noL 200 Tryd.f10 [.agg #[wsl 0, wsl 1, wsl 2, wsl 3], vi x0] ⟨[⟨false, (some (.tab [.fl .f32] x1))⟩, ⟨false, (some (.tab [.fl .f32] x2))⟩, ⟨false, (some (.tab sc0 x3))⟩, ⟨false, (some (.tab sc1 x4))⟩], 4, []⟩ = firstT (g10 x0 x1 x2 x3 x4 (r10 x0 x1 x2 x3 x4)) :=
 Eq.trans (by kernel_rfl) (p10 x0 x1 x2 x3 x4 (fun p => firstT (g10 x0 x1 x2 x3 x4 p)))
noncomputable def s10 (args : List Value) (s : St) : List (Bool × Value × St) :=
 match args, s.h with
 | [.agg ⟨[.iface f0 .nilIface, .iface f1 .nilIface, .iface f2 .nilIface, .iface f3 .nilIface]⟩, .int .i64 x0], [⟨false, some (.tab [.fl .f32] x1)⟩, ⟨false, some (.tab [.fl .f32] x2)⟩, ⟨false, some (.tab [.int .i64, .int .i64, .fl .f32, .fl .f32, .fl .f32, .fl .f32, .fl .f32, .fl .f32] x3)⟩, ⟨false, some (.tab [.int .i64, .int .i64, .fl .f32, .fl .f32] x4)⟩] => if f0 = 0 ∧ f1 = 1 ∧ f2 = 2 ∧ f3 = 3 then (g10 x0 x1 x2 x3 x4 (r10 x0 x1 x2 x3 x4)) else T3 10 args s
 | _, _ => T3 10 args s
noncomputable def T4 : CallF := addF T3 10 s10
set_option maxRecDepth 100000 in
set_option maxHeartbeats 4000000 in
theorem ok4 : CfOk Tryd.prog T4 := by
  refine cfOk_add ok3 fun args s r s' h1 h2 h3 => ?_
  unfold s10 at h3; split at h3
  · rename_i h; split at h3
    · rename_i hc; obtain ⟨rfl, rfl, rfl, rfl⟩ := hc; exact callOk ok3 Tryd.func10 h1 h2 h (lfOkF_no _ _).body (e10 _ _ _ _ _) rfl h3
    · exact ok3 _ _ _ _ _ h1 h2 h3
  · exact ok3 _ _ _ _ _ h1 h2 h3

/-- laws.toFloat32S, loop 0: one round -/
noncomputable def b34l0 (ih : Int → List (List Int) → List (List Int) → (Nat × List (List Int))) (x0 : Int) (x1 x2 : List (List Int)) : Nat × List (List Int) :=
 cond (decide ((x0 : Int) < ((x1.length : Nat) : Int)))
  (cond ((decide ((0 : Int) ≤ x0)) && (Nat.blt (Int.toNat x0) x1.length))
   (cond ((decide ((0 : Int) ≤ x0)) && (Nat.blt (Int.toNat x0) x2.length))
    (ih (IntKind.i64.wrap (x0 + 1)) x1 (x2.set (Int.toNat x0) [(((Int.toNat ((x1.getD (Int.toNat x0) []).getD 0 0)) : Nat) : Int)]))
    (1, []))
   (1, []))
  (0, x2)
noncomputable def r34l0 : Nat → Int → List (List Int) → List (List Int) → (Nat × List (List Int))
 | 0 => fun _ _ _ => (1, [])
 | m + 1 => b34l0 (r34l0 m)
noncomputable def a34l0 (x0 : Int) (x1 x2 : List (List Int)) (p : Nat × List (List Int)) : Option (Fin' × List Value × St) := firstT ([((Nat.beq (p.1) 0), .exit 0, [wsl 1], ⟨[⟨false, (some (.tab [.fl .f32] x1))⟩, ⟨true, (some (.tab [.fl .f32] (p.2)))⟩], 2, [1]⟩)].map fun (b, x) => (b, (x.1, frameOf 22 [3] x.2.1, x.2.2)))
noncomputable def u34l0 (x0 : Int) (x1 x2 : List (List Int)) (p : Nat × List (List Int)) : Option (Fin' × List Value × St) := alts ([((Nat.beq (p.1) 0), .exit 0, [wsl 1], ⟨[⟨false, (some (.tab [.fl .f32] x1))⟩, ⟨true, (some (.tab [.fl .f32] (p.2)))⟩], 2, [1]⟩)].map fun (b, x) => (b, (x.1, frameOf 22 [3] x.2.1, x.2.2))) some
theorem v34l0 (x0 : Int) (x1 x2 : List (List Int)) (p : Nat × List (List Int)) : u34l0 x0 x1 x2 p = a34l0 x0 x1 x2 p := alts_first _
noncomputable def q34l0 (m : Nat) : SumK := fun vals s =>
 match vals, s.h with
 | [.iface f0 .nilIface, .iface f1 .nilIface, .int .i64 x0], [⟨false, some (.tab [.fl .f32] x1)⟩, ⟨true, some (.tab [.fl .f32] x2)⟩] => if f0 = 0 ∧ f1 = 1 then [((Nat.beq ((r34l0 m x0 x1 x2).1) 0), .exit 0, [wsl 1], ⟨[⟨false, (some (.tab [.fl .f32] x1))⟩, ⟨true, (some (.tab [.fl .f32] ((r34l0 m x0 x1 x2).2)))⟩], 2, [1]⟩)] else noQ vals s
 | _, _ => noQ vals s
noncomputable def w34l0 (ih : Int → List (List Int) → List (List Int) → (Nat × List (List Int))) (x0 : Int) (x1 x2 : List (List Int)) : Option (Fin' × List Value × St) :=
 (cond (decide ((x0 : Int) < ((x1.length : Nat) : Int)))
 (cond ((decide ((0 : Int) ≤ x0)) && (Nat.blt (Int.toNat x0) x1.length))
  (cond (Nat.blt (Int.toNat x0) x1.length)
   (cond ((decide ((0 : Int) ≤ x0)) && (Nat.blt (Int.toNat x0) x2.length))
    (cond (Nat.blt (Int.toNat x0) x2.length)
     (u34l0 x0 x1 x2 (ih (IntKind.i64.wrap (x0 + 1)) x1 (x2.set (Int.toNat x0) [(((Int.toNat ((x1.getD (Int.toNat x0) []).getD 0 0)) : Nat) : Int)])))
     none)
    none)
   none)
  none)
 (a34l0 x0 x1 x2 (0, x2)))
set_option maxRecDepth 100000 in
set_option maxHeartbeats 4000000 in
theorem e34l0 (m : Nat) (x0 : Int) (x1 x2 : List (List Int)) : evC Tryd.prog ext T4 noL 200 (loopN Tryd.f34 0) (loopTail ([0, 3, 4], []) [3] [1] (sumK 22 [0, 3, 4] [3] (q34l0 m))) (frameOf 22 [0, 3, 4] [wsl 0, wsl 1, vi x0]) ⟨[⟨false, (some (.tab [.fl .f32] x1))⟩, ⟨true, (some (.tab [.fl .f32] x2))⟩], 2, []⟩ = firstT ([((Nat.beq ((r34l0 (m + 1) x0 x1 x2).1) 0), .exit 0, [wsl 1], ⟨[⟨false, (some (.tab [.fl .f32] x1))⟩, ⟨true, (some (.tab [.fl .f32] ((r34l0 (m + 1) x0 x1 x2).2)))⟩], 2, [1]⟩)].map fun (b, x) => (b, (x.1, frameOf 22 [3] x.2.1, x.2.2))) :=
 (show evC Tryd.prog ext T4 noL 200 (loopN Tryd.f34 0) (loopTail ([0, 3, 4], []) [3] [1] (sumK 22 [0, 3, 4] [3] (q34l0 m))) (frameOf 22 [0, 3, 4] [wsl 0, wsl 1, vi x0]) ⟨[⟨false, (some (.tab [.fl .f32] x1))⟩, ⟨true, (some (.tab [.fl .f32] x2))⟩], 2, []⟩ = w34l0 (r34l0 m) x0 x1 x2 from by kernel_rfl).trans
 (show w34l0 (r34l0 m) x0 x1 x2 = a34l0 x0 x1 x2 (r34l0 (m + 1) x0 x1 x2) from by unfold w34l0; show _ = a34l0 x0 x1 x2 (b34l0 (r34l0 m) x0 x1 x2); unfold b34l0; exact (cond_both (a34l0 x0 x1 x2) _ (fun h0 => (cond_both (a34l0 x0 x1 x2) _ (fun h1 => (cond_t (ev_and2 h1) (cond_both (a34l0 x0 x1 x2) _ (fun h2 => (cond_t (ev_and2 h2) (v34l0 x0 x1 x2 ((r34l0 m) (IntKind.i64.wrap (x0 + 1)) x1 (x2.set (Int.toNat x0) [(((Int.toNat ((x1.getD (Int.toNat x0) []).getD 0 0)) : Nat) : Int)]))))) (fun h2 => rfl)))) (fun h1 => rfl))) (fun h0 => rfl)))
set_option maxRecDepth 100000 in
set_option maxHeartbeats 4000000 in
theorem qm34l0 : ∀ m, SumKOk Tryd.prog (loopN Tryd.f34 0) 22 [0, 3, 4] [3] (q34l0 m) := by
  intro m
  induction m with
  | zero =>
    intro vals s x h1 h2 h3
    unfold q34l0 at h3; split at h3
    · rename_i h; split at h3
      · rename_i hc; obtain ⟨rfl, rfl⟩ := hc; exact absurd h3 (by simp [r34l0, firstT, Nat.beq])
      · exact noQ_ok _ _ _ h1 h2 h3
    · exact noQ_ok _ _ _ h1 h2 h3
  | succ m ih =>
    intro vals s x h1 h2 h3
    unfold q34l0 at h3; split at h3
    · rename_i h; split at h3
      · rename_i hc; obtain ⟨rfl, rfl⟩ := hc; exact sum_step ok4 extOk mixed ((lfOkF_no _ _).inner (by kernel_rfl)) ih h1 h2 h (e34l0 m _ _ _) rfl h3
      · exact noQ_ok _ _ _ h1 h2 h3
    · exact noQ_ok _ _ _ h1 h2 h3
noncomputable def Q34l0 : SumK := fun vals s => q34l0 (fuelOf vals s.h) vals s
theorem qok34l0 : SumKOk Tryd.prog (loopN Tryd.f34 0) 22 [0, 3, 4] [3] Q34l0 := fuel_ok qm34l0 fuelOf
noncomputable def L34_1 : LoopT := addL noL 4 ([0, 3, 4], []) (sumK 22 [0, 3, 4] [3] Q34l0)
theorem lok34_1 : LfOkF Tryd.prog L34_1 Tryd.f34 := lfOkF_add (lfOkF_no _ _) qok34l0 (by kernel_rfl) (by kernel_rfl) (by kernel_rfl)

/-- laws.toFloat32S -/
noncomputable def w34 {α : Type} (x0 : List (List Int)) (k : (Nat × List (List Int)) → α) : α :=
 let c0 := (r34l0 (1000 + (List.replicate x0.length ([0] : List Int)).length + x0.length) 0 x0 (List.replicate x0.length ([0] : List Int)))
 cond (((decide ((0 : Int) ≤ ((x0.length : Nat) : Int)) && decide ((((x0.length : Nat) : Int) : Int) ≤ ((x0.length : Nat) : Int))) && decide (((4 : Nat) : Int) * ((x0.length : Nat) : Int) ≤ 281474976710656)) && decide (((x0.length : Nat) : Int) ≤ 9223372036854775807))
  (cond (Nat.beq (c0.1) 0)
   (k (0, (c0.2)))
   (k (1, [])))
  (k (1, []))
noncomputable def r34 (x0 : List (List Int)) : Nat × List (List Int) := w34 x0 (fun p => p)
noncomputable def g34 (x0 : List (List Int)) (p : Nat × List (List Int)) : List (Bool × Value × St) := [((Nat.beq (p.1) 0), wsl 1, ⟨[⟨false, (some (.tab [.fl .f32] x0))⟩, ⟨true, (some (.tab [.fl .f32] (p.2)))⟩], 1, []⟩)]
theorem p34 {α : Type} (x0 : List (List Int)) (f : (Nat × List (List Int)) → α) : w34 x0 f = f (w34 x0 (fun p => p)) := by unfold w34; exact (cond_app f _ (cond_app f _ rfl rfl) rfl)
set_option maxRecDepth 100000 in
set_option maxHeartbeats 4000000 in
theorem e34 (x0 : List (List Int)) : evFn Tryd.prog ext T4 L34_1 200 Tryd.f34 [wsl 0] ⟨[⟨false, (some (.tab [.fl .f32] x0))⟩], 1, []⟩ = firstT (g34 x0 (r34 x0)) :=
 Eq.trans (by kernel_rfl) (p34 x0 (fun p => firstT (g34 x0 p)))
noncomputable def s34 (args : List Value) (s : St) : List (Bool × Value × St) :=
 match args, s.h with
 | [.iface f0 .nilIface], [⟨false, some (.tab [.fl .f32] x0)⟩] => if f0 = 0 then (g34 x0 (r34 x0)) else T4 34 args s
 | _, _ => T4 34 args s
noncomputable def T5 : CallF := addF T4 34 s34
set_option maxRecDepth 100000 in
set_option maxHeartbeats 4000000 in
theorem ok5 : CfOk Tryd.prog T5 := by
  refine cfOk_add ok4 fun args s r s' h1 h2 h3 => ?_
  unfold s34 at h3; split at h3
  · rename_i h; split at h3
    · rename_i hc; obtain ⟨rfl⟩ := hc; exact callOk ok4 Tryd.func34 h1 h2 h lok34_1.body (e34 _) rfl h3
    · exact ok4 _ _ _ _ _ h1 h2 h3
  · exact ok4 _ _ _ _ _ h1 h2 h3

/-- laws.toFloat32A4 -/
noncomputable def w86 {α : Type} (x0 x1 x2 x3 : Nat) (k : Unit → α) : α :=
 k ()
noncomputable def r86 (x0 x1 x2 x3 : Nat) : Unit := w86 x0 x1 x2 x3 (fun p => p)
noncomputable def g86 (x0 x1 x2 x3 : Nat) (p : Unit) : List (Bool × Value × St) := [(true, .agg #[vf x0, vf x1, vf x2, vf x3], st0)]
theorem p86 {α : Type} (x0 x1 x2 x3 : Nat) (f : Unit → α) : w86 x0 x1 x2 x3 f = f (w86 x0 x1 x2 x3 (fun p => p)) := by unfold w86; exact rfl
set_option maxRecDepth 100000 in
set_option maxHeartbeats 4000000 in
theorem e86 (x0 x1 x2 x3 : Nat) : evFn Tryd.prog ext T5 noL 200 Tryd.f86 [.agg #[vf x0, vf x1, vf x2, vf x3]] st0 = firstT (g86 x0 x1 x2 x3 (r86 x0 x1 x2 x3)) :=
 Eq.trans (by kernel_rfl) (p86 x0 x1 x2 x3 (fun p => firstT (g86 x0 x1 x2 x3 p)))
noncomputable def s86 (args : List Value) (s : St) : List (Bool × Value × St) :=
 match args, s.h with
 | [.agg ⟨[.float .f32 x0, .float .f32 x1, .float .f32 x2, .float .f32 x3]⟩], [] => (g86 x0 x1 x2 x3 (r86 x0 x1 x2 x3))
 | _, _ => T5 86 args s
noncomputable def T6 : CallF := addF T5 86 s86
set_option maxRecDepth 100000 in
set_option maxHeartbeats 4000000 in
theorem ok6 : CfOk Tryd.prog T6 := by
  refine cfOk_add ok5 fun args s r s' h1 h2 h3 => ?_
  unfold s86 at h3; split at h3
  · rename_i h; exact callOk ok5 Tryd.func86 h1 h2 h (lfOkF_no _ _).body (e86 _ _ _ _) rfl h3
  · exact ok5 _ _ _ _ _ h1 h2 h3

/-- laws.toWall -/
noncomputable def w63 {α : Type} (x0 x1 : Int) (x2 x3 x4 x5 x6 x7 : Nat) (k : Unit → α) : α :=
 k ()
noncomputable def r63 (x0 x1 : Int) (x2 x3 x4 x5 x6 x7 : Nat) : Unit := w63 x0 x1 x2 x3 x4 x5 x6 x7 (fun p => p)
noncomputable def g63 (x0 x1 : Int) (x2 x3 x4 x5 x6 x7 : Nat) (p : Unit) : List (Bool × Value × St) := [(true, .agg #[vi x0, vi x1, vf x2, vf x3, vf x4, vf x5, vf x6, vf x7], st0)]
theorem p63 {α : Type} (x0 x1 : Int) (x2 x3 x4 x5 x6 x7 : Nat) (f : Unit → α) : w63 x0 x1 x2 x3 x4 x5 x6 x7 f = f (w63 x0 x1 x2 x3 x4 x5 x6 x7 (fun p => p)) := by unfold w63; exact rfl
set_option maxRecDepth 100000 in
set_option maxHeartbeats 4000000 in
theorem e63 (x0 x1 : Int) (x2 x3 x4 x5 x6 x7 : Nat) : evFn Tryd.prog ext T6 noL 200 Tryd.f63 [.agg #[vi x0, vi x1, vf x2, vf x3, vf x4, vf x5, vf x6, vf x7]] st0 = firstT (g63 x0 x1 x2 x3 x4 x5 x6 x7 (r63 x0 x1 x2 x3 x4 x5 x6 x7)) :=
 Eq.trans (by kernel_rfl) (p63 x0 x1 x2 x3 x4 x5 x6 x7 (fun p => firstT (g63 x0 x1 x2 x3 x4 x5 x6 x7 p)))
noncomputable def s63 (args : List Value) (s : St) : List (Bool × Value × St) :=
 match args, s.h with
 | [.agg ⟨[.int .i64 x0, .int .i64 x1, .float .f32 x2, .float .f32 x3, .float .f32 x4, .float .f32 x5, .float .f32 x6, .float .f32 x7]⟩], [] => (g63 x0 x1 x2 x3 x4 x5 x6 x7 (r63 x0 x1 x2 x3 x4 x5 x6 x7))
 | _, _ => T6 63 args s
noncomputable def T7 : CallF := addF T6 63 s63
set_option maxRecDepth 100000 in
set_option maxHeartbeats 4000000 in
theorem ok7 : CfOk Tryd.prog T7 := by
  refine cfOk_add ok6 fun args s r s' h1 h2 h3 => ?_
  unfold s63 at h3; split at h3
  · rename_i h; exact callOk ok6 Tryd.func63 h1 h2 h (lfOkF_no _ _).body (e63 _ _ _ _ _ _ _ _) rfl h3
  · exact ok6 _ _ _ _ _ h1 h2 h3

/-- laws.toWallS, loop 0: one round -/
noncomputable def b35l0 (ih : Int → List (List Int) → List (List Int) → (Nat × List (List Int))) (x0 : Int) (x1 x2 : List (List Int)) : Nat × List (List Int) :=
 cond (decide ((x0 : Int) < ((x1.length : Nat) : Int)))
  (cond ((decide ((0 : Int) ≤ x0)) && (Nat.blt (Int.toNat x0) x1.length))
   (cond ((decide ((0 : Int) ≤ x0)) && (Nat.blt (Int.toNat x0) x2.length))
    (ih (IntKind.i64.wrap (x0 + 1)) x1 (x2.set (Int.toNat x0) [((x1.getD (Int.toNat x0) []).getD 0 0), ((x1.getD (Int.toNat x0) []).getD 1 0), (((Int.toNat ((x1.getD (Int.toNat x0) []).getD 2 0)) : Nat) : Int), (((Int.toNat ((x1.getD (Int.toNat x0) []).getD 3 0)) : Nat) : Int), (((Int.toNat ((x1.getD (Int.toNat x0) []).getD 4 0)) : Nat) : Int), (((Int.toNat ((x1.getD (Int.toNat x0) []).getD 5 0)) : Nat) : Int), (((Int.toNat ((x1.getD (Int.toNat x0) []).getD 6 0)) : Nat) : Int), (((Int.toNat ((x1.getD (Int.toNat x0) []).getD 7 0)) : Nat) : Int)]))
    (1, []))
   (1, []))
  (0, x2)
noncomputable def r35l0 : Nat → Int → List (List Int) → List (List Int) → (Nat × List (List Int))
 | 0 => fun _ _ _ => (1, [])
 | m + 1 => b35l0 (r35l0 m)
noncomputable def a35l0 (x0 : Int) (x1 x2 : List (List Int)) (p : Nat × List (List Int)) : Option (Fin' × List Value × St) := firstT ([((Nat.beq (p.1) 0), .exit 0, [wsl 1], ⟨[⟨false, (some (.tab sc0 x1))⟩, ⟨true, (some (.tab sc0 (p.2)))⟩], 2, [1]⟩)].map fun (b, x) => (b, (x.1, frameOf 23 [3] x.2.1, x.2.2)))
noncomputable def u35l0 (x0 : Int) (x1 x2 : List (List Int)) (p : Nat × List (List Int)) : Option (Fin' × List Value × St) := alts ([((Nat.beq (p.1) 0), .exit 0, [wsl 1], ⟨[⟨false, (some (.tab sc0 x1))⟩, ⟨true, (some (.tab sc0 (p.2)))⟩], 2, [1]⟩)].map fun (b, x) => (b, (x.1, frameOf 23 [3] x.2.1, x.2.2))) some
theorem v35l0 (x0 : Int) (x1 x2 : List (List Int)) (p : Nat × List (List Int)) : u35l0 x0 x1 x2 p = a35l0 x0 x1 x2 p := alts_first _
noncomputable def q35l0 (m : Nat) : SumK := fun vals s =>
 match vals, s.h with
 | [.iface f0 .nilIface, .iface f1 .nilIface, .int .i64 x0], [⟨false, some (.tab [.int .i64, .int .i64, .fl .f32, .fl .f32, .fl .f32, .fl .f32, .fl .f32, .fl .f32] x1)⟩, ⟨true, some (.tab [.int .i64, .int .i64, .fl .f32, .fl .f32, .fl .f32, .fl .f32, .fl .f32, .fl .f32] x2)⟩] => if f0 = 0 ∧ f1 = 1 then [((Nat.beq ((r35l0 m x0 x1 x2).1) 0), .exit 0, [wsl 1], ⟨[⟨false, (some (.tab sc0 x1))⟩, ⟨true, (some (.tab sc0 ((r35l0 m x0 x1 x2).2)))⟩], 2, [1]⟩)] else noQ vals s
 | _, _ => noQ vals s
noncomputable def w35l0 (ih : Int → List (List Int) → List (List Int) → (Nat × List (List Int))) (x0 : Int) (x1 x2 : List (List Int)) : Option (Fin' × List Value × St) :=
 (cond (decide ((x0 : Int) < ((x1.length : Nat) : Int)))
 (cond ((decide ((0 : Int) ≤ x0)) && (Nat.blt (Int.toNat x0) x1.length))
  (cond (Nat.blt (Int.toNat x0) x1.length)
   (cond ((decide ((0 : Int) ≤ x0)) && (Nat.blt (Int.toNat x0) x2.length))
    (cond (Nat.blt (Int.toNat x0) x2.length)
     (u35l0 x0 x1 x2 (ih (IntKind.i64.wrap (x0 + 1)) x1 (x2.set (Int.toNat x0) [((x1.getD (Int.toNat x0) []).getD 0 0), ((x1.getD (Int.toNat x0) []).getD 1 0), (((Int.toNat ((x1.getD (Int.toNat x0) []).getD 2 0)) : Nat) : Int), (((Int.toNat ((x1.getD (Int.toNat x0) []).getD 3 0)) : Nat) : Int), (((Int.toNat ((x1.getD (Int.toNat x0) []).getD 4 0)) : Nat) : Int), (((Int.toNat ((x1.getD (Int.toNat x0) []).getD 5 0)) : Nat) : Int), (((Int.toNat ((x1.getD (Int.toNat x0) []).getD 6 0)) : Nat) : Int), (((Int.toNat ((x1.getD (Int.toNat x0) []).getD 7 0)) : Nat) : Int)])))
     none)
    none)
   none)
  none)
 (a35l0 x0 x1 x2 (0, x2)))
set_option maxRecDepth 100000 in
set_option maxHeartbeats 4000000 in
theorem e35l0 (m : Nat) (x0 : Int) (x1 x2 : List (List Int)) : evC Tryd.prog ext T7 noL 200 (loopN Tryd.f35 0) (loopTail ([0, 3, 4], []) [3] [1] (sumK 23 [0, 3, 4] [3] (q35l0 m))) (frameOf 23 [0, 3, 4] [wsl 0, wsl 1, vi x0]) ⟨[⟨false, (some (.tab sc0 x1))⟩, ⟨true, (some (.tab sc0 x2))⟩], 2, []⟩ = firstT ([((Nat.beq ((r35l0 (m + 1) x0 x1 x2).1) 0), .exit 0, [wsl 1], ⟨[⟨false, (some (.tab sc0 x1))⟩, ⟨true, (some (.tab sc0 ((r35l0 (m + 1) x0 x1 x2).2)))⟩], 2, [1]⟩)].map fun (b, x) => (b, (x.1, frameOf 23 [3] x.2.1, x.2.2))) :=
 (show evC Tryd.prog ext T7 noL 200 (loopN Tryd.f35 0) (loopTail ([0, 3, 4], []) [3] [1] (sumK 23 [0, 3, 4] [3] (q35l0 m))) (frameOf 23 [0, 3, 4] [wsl 0, wsl 1, vi x0]) ⟨[⟨false, (some (.tab sc0 x1))⟩, ⟨true, (some (.tab sc0 x2))⟩], 2, []⟩ = w35l0 (r35l0 m) x0 x1 x2 from by kernel_rfl).trans
 (show w35l0 (r35l0 m) x0 x1 x2 = a35l0 x0 x1 x2 (r35l0 (m + 1) x0 x1 x2) from by unfold w35l0; show _ = a35l0 x0 x1 x2 (b35l0 (r35l0 m) x0 x1 x2); unfold b35l0; exact (cond_both (a35l0 x0 x1 x2) _ (fun h0 => (cond_both (a35l0 x0 x1 x2) _ (fun h1 => (cond_t (ev_and2 h1) (cond_both (a35l0 x0 x1 x2) _ (fun h2 => (cond_t (ev_and2 h2) (v35l0 x0 x1 x2 ((r35l0 m) (IntKind.i64.wrap (x0 + 1)) x1 (x2.set (Int.toNat x0) [((x1.getD (Int.toNat x0) []).getD 0 0), ((x1.getD (Int.toNat x0) []).getD 1 0), (((Int.toNat ((x1.getD (Int.toNat x0) []).getD 2 0)) : Nat) : Int), (((Int.toNat ((x1.getD (Int.toNat x0) []).getD 3 0)) : Nat) : Int), (((Int.toNat ((x1.getD (Int.toNat x0) []).getD 4 0)) : Nat) : Int), (((Int.toNat ((x1.getD (Int.toNat x0) []).getD 5 0)) : Nat) : Int), (((Int.toNat ((x1.getD (Int.toNat x0) []).getD 6 0)) : Nat) : Int), (((Int.toNat ((x1.getD (Int.toNat x0) []).getD 7 0)) : Nat) : Int)]))))) (fun h2 => rfl)))) (fun h1 => rfl))) (fun h0 => rfl)))
set_option maxRecDepth 100000 in
set_option maxHeartbeats 4000000 in
theorem qm35l0 : ∀ m, SumKOk Tryd.prog (loopN Tryd.f35 0) 23 [0, 3, 4] [3] (q35l0 m) := by
  intro m
  induction m with
  | zero =>
    intro vals s x h1 h2 h3
    unfold q35l0 at h3; split at h3
    · rename_i h; split at h3
      · rename_i hc; obtain ⟨rfl, rfl⟩ := hc; exact absurd h3 (by simp [r35l0, firstT, Nat.beq])
      · exact noQ_ok _ _ _ h1 h2 h3
    · exact noQ_ok _ _ _ h1 h2 h3
  | succ m ih =>
    intro vals s x h1 h2 h3
    unfold q35l0 at h3; split at h3
    · rename_i h; split at h3
      · rename_i hc; obtain ⟨rfl, rfl⟩ := hc; exact sum_step ok7 extOk mixed ((lfOkF_no _ _).inner (by kernel_rfl)) ih h1 h2 h (e35l0 m _ _ _) rfl h3
      · exact noQ_ok _ _ _ h1 h2 h3
    · exact noQ_ok _ _ _ h1 h2 h3
noncomputable def Q35l0 : SumK := fun vals s => q35l0 (fuelOf vals s.h) vals s
theorem qok35l0 : SumKOk Tryd.prog (loopN Tryd.f35 0) 23 [0, 3, 4] [3] Q35l0 := fuel_ok qm35l0 fuelOf
noncomputable def L35_1 : LoopT := addL noL 4 ([0, 3, 4], []) (sumK 23 [0, 3, 4] [3] Q35l0)
theorem lok35_1 : LfOkF Tryd.prog L35_1 Tryd.f35 := lfOkF_add (lfOkF_no _ _) qok35l0 (by kernel_rfl) (by kernel_rfl) (by kernel_rfl)

/-- laws.toWallS -/
noncomputable def w35 {α : Type} (x0 : List (List Int)) (k : (Nat × List (List Int)) → α) : α :=
 let c18 := (r35l0 (1000 + (List.replicate x0.length ([0, 0, 0, 0, 0, 0, 0, 0] : List Int)).length + x0.length) 0 x0 (List.replicate x0.length ([0, 0, 0, 0, 0, 0, 0, 0] : List Int)))
 cond (((decide ((0 : Int) ≤ ((x0.length : Nat) : Int)) && decide ((((x0.length : Nat) : Int) : Int) ≤ ((x0.length : Nat) : Int))) && decide (((40 : Nat) : Int) * ((x0.length : Nat) : Int) ≤ 281474976710656)) && decide (((x0.length : Nat) : Int) ≤ 9223372036854775807))
  (cond (Nat.beq (c18.1) 0)
   (k (0, (c18.2)))
   (k (1, [])))
  (k (1, []))
noncomputable def r35 (x0 : List (List Int)) : Nat × List (List Int) := w35 x0 (fun p => p)
noncomputable def g35 (x0 : List (List Int)) (p : Nat × List (List Int)) : List (Bool × Value × St) := [((Nat.beq (p.1) 0), wsl 1, ⟨[⟨false, (some (.tab sc0 x0))⟩, ⟨true, (some (.tab sc0 (p.2)))⟩], 1, []⟩)]
theorem p35 {α : Type} (x0 : List (List Int)) (f : (Nat × List (List Int)) → α) : w35 x0 f = f (w35 x0 (fun p => p)) := by unfold w35; exact (cond_app f _ (cond_app f _ rfl rfl) rfl)
set_option maxRecDepth 100000 in
set_option maxHeartbeats 4000000 in
theorem e35 (x0 : List (List Int)) : evFn Tryd.prog ext T7 L35_1 200 Tryd.f35 [wsl 0] ⟨[⟨false, (some (.tab sc0 x0))⟩], 1, []⟩ = firstT (g35 x0 (r35 x0)) :=
 Eq.trans (by kernel_rfl) (p35 x0 (fun p => firstT (g35 x0 p)))
noncomputable def s35 (args : List Value) (s : St) : List (Bool × Value × St) :=
 match args, s.h with
 | [.iface f0 .nilIface], [⟨false, some (.tab [.int .i64, .int .i64, .fl .f32, .fl .f32, .fl .f32, .fl .f32, .fl .f32, .fl .f32] x0)⟩] => if f0 = 0 then (g35 x0 (r35 x0)) else T7 35 args s
 | _, _ => T7 35 args s
noncomputable def T8 : CallF := addF T7 35 s35
set_option maxRecDepth 100000 in
set_option maxHeartbeats 4000000 in
theorem ok8 : CfOk Tryd.prog T8 := by
  refine cfOk_add ok7 fun args s r s' h1 h2 h3 => ?_
  unfold s35 at h3; split at h3
  · rename_i h; split at h3
    · rename_i hc; obtain ⟨rfl⟩ := hc; exact callOk ok7 Tryd.func35 h1 h2 h lok35_1.body (e35 _) rfl h3
    · exact ok7 _ _ _ _ _ h1 h2 h3
  · exact ok7 _ _ _ _ _ h1 h2 h3

/-- laws.toPane -/
noncomputable def w64 {α : Type} (x0 x1 : Int) (x2 x3 : Nat) (k : Unit → α) : α :=
 k ()
noncomputable def r64 (x0 x1 : Int) (x2 x3 : Nat) : Unit := w64 x0 x1 x2 x3 (fun p => p)
noncomputable def g64 (x0 x1 : Int) (x2 x3 : Nat) (p : Unit) : List (Bool × Value × St) := [(true, .agg #[vi x0, vi x1, vf x2, vf x3], st0)]
theorem p64 {α : Type} (x0 x1 : Int) (x2 x3 : Nat) (f : Unit → α) : w64 x0 x1 x2 x3 f = f (w64 x0 x1 x2 x3 (fun p => p)) := by unfold w64; exact rfl
set_option maxRecDepth 100000 in
set_option maxHeartbeats 4000000 in
theorem e64 (x0 x1 : Int) (x2 x3 : Nat) : evFn Tryd.prog ext T8 noL 200 Tryd.f64 [.agg #[vi x0, vi x1, vf x2, vf x3]] st0 = firstT (g64 x0 x1 x2 x3 (r64 x0 x1 x2 x3)) :=
 Eq.trans (by kernel_rfl) (p64 x0 x1 x2 x3 (fun p => firstT (g64 x0 x1 x2 x3 p)))
noncomputable def s64 (args : List Value) (s : St) : List (Bool × Value × St) :=
 match args, s.h with
 | [.agg ⟨[.int .i64 x0, .int .i64 x1, .float .f32 x2, .float .f32 x3]⟩], [] => (g64 x0 x1 x2 x3 (r64 x0 x1 x2 x3))
 | _, _ => T8 64 args s
noncomputable def T9 : CallF := addF T8 64 s64
set_option maxRecDepth 100000 in
set_option maxHeartbeats 4000000 in
theorem ok9 : CfOk Tryd.prog T9 := by
  refine cfOk_add ok8 fun args s r s' h1 h2 h3 => ?_
  unfold s64 at h3; split at h3
  · rename_i h; exact callOk ok8 Tryd.func64 h1 h2 h (lfOkF_no _ _).body (e64 _ _ _ _) rfl h3
  · exact ok8 _ _ _ _ _ h1 h2 h3

/-- laws.toPaneS, loop 0: one round -/
noncomputable def b36l0 (ih : Int → List (List Int) → List (List Int) → (Nat × List (List Int))) (x0 : Int) (x1 x2 : List (List Int)) : Nat × List (List Int) :=
 cond (decide ((x0 : Int) < ((x1.length : Nat) : Int)))
  (cond ((decide ((0 : Int) ≤ x0)) && (Nat.blt (Int.toNat x0) x1.length))
   (cond ((decide ((0 : Int) ≤ x0)) && (Nat.blt (Int.toNat x0) x2.length))
    (ih (IntKind.i64.wrap (x0 + 1)) x1 (x2.set (Int.toNat x0) [((x1.getD (Int.toNat x0) []).getD 0 0), ((x1.getD (Int.toNat x0) []).getD 1 0), (((Int.toNat ((x1.getD (Int.toNat x0) []).getD 2 0)) : Nat) : Int), (((Int.toNat ((x1.getD (Int.toNat x0) []).getD 3 0)) : Nat) : Int)]))
    (1, []))
   (1, []))
  (0, x2)
noncomputable def r36l0 : Nat → Int → List (List Int) → List (List Int) → (Nat × List (List Int))
 | 0 => fun _ _ _ => (1, [])
 | m + 1 => b36l0 (r36l0 m)
noncomputable def a36l0 (x0 : Int) (x1 x2 : List (List Int)) (p : Nat × List (List Int)) : Option (Fin' × List Value × St) := firstT ([((Nat.beq (p.1) 0), .exit 0, [wsl 1], ⟨[⟨false, (some (.tab sc1 x1))⟩, ⟨true, (some (.tab sc1 (p.2)))⟩], 2, [1]⟩)].map fun (b, x) => (b, (x.1, frameOf 23 [3] x.2.1, x.2.2)))
noncomputable def u36l0 (x0 : Int) (x1 x2 : List (List Int)) (p : Nat × List (List Int)) : Option (Fin' × List Value × St) := alts ([((Nat.beq (p.1) 0), .exit 0, [wsl 1], ⟨[⟨false, (some (.tab sc1 x1))⟩, ⟨true, (some (.tab sc1 (p.2)))⟩], 2, [1]⟩)].map fun (b, x) => (b, (x.1, frameOf 23 [3] x.2.1, x.2.2))) some
theorem v36l0 (x0 : Int) (x1 x2 : List (List Int)) (p : Nat × List (List Int)) : u36l0 x0 x1 x2 p = a36l0 x0 x1 x2 p := alts_first _
noncomputable def q36l0 (m : Nat) : SumK := fun vals s =>
 match vals, s.h with
 | [.iface f0 .nilIface, .iface f1 .nilIface, .int .i64 x0], [⟨false, some (.tab [.int .i64, .int .i64, .fl .f32, .fl .f32] x1)⟩, ⟨true, some (.tab [.int .i64, .int .i64, .fl .f32, .fl .f32] x2)⟩] => if f0 = 0 ∧ f1 = 1 then [((Nat.beq ((r36l0 m x0 x1 x2).1) 0), .exit 0, [wsl 1], ⟨[⟨false, (some (.tab sc1 x1))⟩, ⟨true, (some (.tab sc1 ((r36l0 m x0 x1 x2).2)))⟩], 2, [1]⟩)] else noQ vals s
 | _, _ => noQ vals s
noncomputable def w36l0 (ih : Int → List (List Int) → List (List Int) → (Nat × List (List Int))) (x0 : Int) (x1 x2 : List (List Int)) : Option (Fin' × List Value × St) :=
 (cond (decide ((x0 : Int) < ((x1.length : Nat) : Int)))
 (cond ((decide ((0 : Int) ≤ x0)) && (Nat.blt (Int.toNat x0) x1.length))
  (cond (Nat.blt (Int.toNat x0) x1.length)
   (cond ((decide ((0 : Int) ≤ x0)) && (Nat.blt (Int.toNat x0) x2.length))
    (cond (Nat.blt (Int.toNat x0) x2.length)
     (u36l0 x0 x1 x2 (ih (IntKind.i64.wrap (x0 + 1)) x1 (x2.set (Int.toNat x0) [((x1.getD (Int.toNat x0) []).getD 0 0), ((x1.getD (Int.toNat x0) []).getD 1 0), (((Int.toNat ((x1.getD (Int.toNat x0) []).getD 2 0)) : Nat) : Int), (((Int.toNat ((x1.getD (Int.toNat x0) []).getD 3 0)) : Nat) : Int)])))
     none)
    none)
   none)
  none)
 (a36l0 x0 x1 x2 (0, x2)))
set_option maxRecDepth 100000 in
set_option maxHeartbeats 4000000 in
theorem e36l0 (m : Nat) (x0 : Int) (x1 x2 : List (List Int)) : evC Tryd.prog ext T9 noL 200 (loopN Tryd.f36 0) (loopTail ([0, 3, 4], []) [3] [1] (sumK 23 [0, 3, 4] [3] (q36l0 m))) (frameOf 23 [0, 3, 4] [wsl 0, wsl 1, vi x0]) ⟨[⟨false, (some (.tab sc1 x1))⟩, ⟨true, (some (.tab sc1 x2))⟩], 2, []⟩ = firstT ([((Nat.beq ((r36l0 (m + 1) x0 x1 x2).1) 0), .exit 0, [wsl 1], ⟨[⟨false, (some (.tab sc1 x1))⟩, ⟨true, (some (.tab sc1 ((r36l0 (m + 1) x0 x1 x2).2)))⟩], 2, [1]⟩)].map fun (b, x) => (b, (x.1, frameOf 23 [3] x.2.1, x.2.2))) :=
 (show evC Tryd.prog ext T9 noL 200 (loopN Tryd.f36 0) (loopTail ([0, 3, 4], []) [3] [1] (sumK 23 [0, 3, 4] [3] (q36l0 m))) (frameOf 23 [0, 3, 4] [wsl 0, wsl 1, vi x0]) ⟨[⟨false, (some (.tab sc1 x1))⟩, ⟨true, (some (.tab sc1 x2))⟩], 2, []⟩ = w36l0 (r36l0 m) x0 x1 x2 from by kernel_rfl).trans
 (show w36l0 (r36l0 m) x0 x1 x2 = a36l0 x0 x1 x2 (r36l0 (m + 1) x0 x1 x2) from by unfold w36l0; show _ = a36l0 x0 x1 x2 (b36l0 (r36l0 m) x0 x1 x2); unfold b36l0; exact (cond_both (a36l0 x0 x1 x2) _ (fun h0 => (cond_both (a36l0 x0 x1 x2) _ (fun h1 => (cond_t (ev_and2 h1) (cond_both (a36l0 x0 x1 x2) _ (fun h2 => (cond_t (ev_and2 h2) (v36l0 x0 x1 x2 ((r36l0 m) (IntKind.i64.wrap (x0 + 1)) x1 (x2.set (Int.toNat x0) [((x1.getD (Int.toNat x0) []).getD 0 0), ((x1.getD (Int.toNat x0) []).getD 1 0), (((Int.toNat ((x1.getD (Int.toNat x0) []).getD 2 0)) : Nat) : Int), (((Int.toNat ((x1.getD (Int.toNat x0) []).getD 3 0)) : Nat) : Int)]))))) (fun h2 => rfl)))) (fun h1 => rfl))) (fun h0 => rfl)))
set_option maxRecDepth 100000 in
set_option maxHeartbeats 4000000 in
theorem qm36l0 : ∀ m, SumKOk Tryd.prog (loopN Tryd.f36 0) 23 [0, 3, 4] [3] (q36l0 m) := by
  intro m
  induction m with
  | zero =>
    intro vals s x h1 h2 h3
    unfold q36l0 at h3; split at h3
    · rename_i h; split at h3
      · rename_i hc; obtain ⟨rfl, rfl⟩ := hc; exact absurd h3 (by simp [r36l0, firstT, Nat.beq])
      · exact noQ_ok _ _ _ h1 h2 h3
    · exact noQ_ok _ _ _ h1 h2 h3
  | succ m ih =>
    intro vals s x h1 h2 h3
    unfold q36l0 at h3; split at h3
    · rename_i h; split at h3
      · rename_i hc; obtain ⟨rfl, rfl⟩ := hc; exact sum_step ok9 extOk mixed ((lfOkF_no _ _).inner (by kernel_rfl)) ih h1 h2 h (e36l0 m _ _ _) rfl h3
      · exact noQ_ok _ _ _ h1 h2 h3
    · exact noQ_ok _ _ _ h1 h2 h3
noncomputable def Q36l0 : SumK := fun vals s => q36l0 (fuelOf vals s.h) vals s
theorem qok36l0 : SumKOk Tryd.prog (loopN Tryd.f36 0) 23 [0, 3, 4] [3] Q36l0 := fuel_ok qm36l0 fuelOf
noncomputable def L36_1 : LoopT := addL noL 4 ([0, 3, 4], []) (sumK 23 [0, 3, 4] [3] Q36l0)
theorem lok36_1 : LfOkF Tryd.prog L36_1 Tryd.f36 := lfOkF_add (lfOkF_no _ _) qok36l0 (by kernel_rfl) (by kernel_rfl) (by kernel_rfl)

/-- laws.toPaneS -/
noncomputable def w36 {α : Type} (x0 : List (List Int)) (k : (Nat × List (List Int)) → α) : α :=
 let c36 := (r36l0 (1000 + (List.replicate x0.length ([0, 0, 0, 0] : List Int)).length + x0.length) 0 x0 (List.replicate x0.length ([0, 0, 0, 0] : List Int)))
 cond (((decide ((0 : Int) ≤ ((x0.length : Nat) : Int)) && decide ((((x0.length : Nat) : Int) : Int) ≤ ((x0.length : Nat) : Int))) && decide (((24 : Nat) : Int) * ((x0.length : Nat) : Int) ≤ 281474976710656)) && decide (((x0.length : Nat) : Int) ≤ 9223372036854775807))
  (cond (Nat.beq (c36.1) 0)
   (k (0, (c36.2)))
   (k (1, [])))
  (k (1, []))
noncomputable def r36 (x0 : List (List Int)) : Nat × List (List Int) := w36 x0 (fun p => p)
noncomputable def g36 (x0 : List (List Int)) (p : Nat × List (List Int)) : List (Bool × Value × St) := [((Nat.beq (p.1) 0), wsl 1, ⟨[⟨false, (some (.tab sc1 x0))⟩, ⟨true, (some (.tab sc1 (p.2)))⟩], 1, []⟩)]
theorem p36 {α : Type} (x0 : List (List Int)) (f : (Nat × List (List Int)) → α) : w36 x0 f = f (w36 x0 (fun p => p)) := by unfold w36; exact (cond_app f _ (cond_app f _ rfl rfl) rfl)
set_option maxRecDepth 100000 in
set_option maxHeartbeats 4000000 in
theorem e36 (x0 : List (List Int)) : evFn Tryd.prog ext T9 L36_1 200 Tryd.f36 [wsl 0] ⟨[⟨false, (some (.tab sc1 x0))⟩], 1, []⟩ = firstT (g36 x0 (r36 x0)) :=
 Eq.trans (by kernel_rfl) (p36 x0 (fun p => firstT (g36 x0 p)))
noncomputable def s36 (args : List Value) (s : St) : List (Bool × Value × St) :=
 match args, s.h with
 | [.iface f0 .nilIface], [⟨false, some (.tab [.int .i64, .int .i64, .fl .f32, .fl .f32] x0)⟩] => if f0 = 0 then (g36 x0 (r36 x0)) else T9 36 args s
 | _, _ => T9 36 args s
noncomputable def T10 : CallF := addF T9 36 s36
set_option maxRecDepth 100000 in
set_option maxHeartbeats 4000000 in
theorem ok10 : CfOk Tryd.prog T10 := by
  refine cfOk_add ok9 fun args s r s' h1 h2 h3 => ?_
  unfold s36 at h3; split at h3
  · rename_i h; split at h3
    · rename_i hc; obtain ⟨rfl⟩ := hc; exact callOk ok9 Tryd.func36 h1 h2 h lok36_1.body (e36 _) rfl h3
    · exact ok9 _ _ _ _ _ h1 h2 h3
  · exact ok9 _ _ _ _ _ h1 h2 h3

/-- laws.toFlat -/
noncomputable def w12 {α : Type} (x0 x1 x2 x3 : List (List Int)) (k : (Nat × List (List Int) × List (List Int) × List (List Int) × List (List Int)) → α) : α :=
 cond (Nat.beq ((r34 x0).1) 0)
  (cond (Nat.beq ((r34 x1).1) 0)
   (cond (Nat.beq ((r35 x2).1) 0)
    (cond (Nat.beq ((r36 x3).1) 0)
     (k (0, ((r34 x0).2), ((r34 x1).2), ((r35 x2).2), ((r36 x3).2)))
     (k (1, [], [], [], [])))
    (k (1, [], [], [], [])))
   (k (1, [], [], [], [])))
  (k (1, [], [], [], []))
noncomputable def r12 (x0 x1 x2 x3 : List (List Int)) : Nat × List (List Int) × List (List Int) × List (List Int) × List (List Int) := w12 x0 x1 x2 x3 (fun p => p)
noncomputable def g12 (x0 x1 x2 x3 : List (List Int)) (p : Nat × List (List Int) × List (List Int) × List (List Int) × List (List Int)) : List (Bool × Value × St) := [((Nat.beq (p.1) 0), .agg #[wsl 4, wsl 5, wsl 6, wsl 7], ⟨[⟨false, (some (.tab [.fl .f32] x0))⟩, ⟨false, (some (.tab [.fl .f32] x1))⟩, ⟨false, (some (.tab sc0 x2))⟩, ⟨false, (some (.tab sc1 x3))⟩, ⟨true, (some (.tab [.fl .f32] (p.2.1)))⟩, ⟨true, (some (.tab [.fl .f32] (p.2.2.1)))⟩, ⟨true, (some (.tab sc0 (p.2.2.2.1)))⟩, ⟨true, (some (.tab sc1 (p.2.2.2.2)))⟩], 4, []⟩)]
theorem p12 {α : Type} (x0 x1 x2 x3 : List (List Int)) (f : (Nat × List (List Int) × List (List Int) × List (List Int) × List (List Int)) → α) : w12 x0 x1 x2 x3 f = f (w12 x0 x1 x2 x3 (fun p => p)) := by unfold w12; exact (cond_app f _ (cond_app f _ (cond_app f _ (cond_app f _ rfl rfl) rfl) rfl) rfl)
set_option maxRecDepth 100000 in
set_option maxHeartbeats 4000000 in
theorem e12 (x0 x1 x2 x3 : List (List Int)) : evFn Tryd.prog ext T10 noL 200 Tryd.f12 [.agg #[wsl 0, wsl 1, wsl 2, wsl 3]] ⟨[⟨false, (some (.tab [.fl .f32] x0))⟩, ⟨false, (some (.tab [.fl .f32] x1))⟩, ⟨false, (some (.tab sc0 x2))⟩, ⟨false, (some (.tab sc1 x3))⟩], 4, []⟩ = firstT (g12 x0 x1 x2 x3 (r12 x0 x1 x2 x3)) :=
 Eq.trans (by kernel_rfl) (p12 x0 x1 x2 x3 (fun p => firstT (g12 x0 x1 x2 x3 p)))
noncomputable def s12 (args : List Value) (s : St) : List (Bool × Value × St) :=
 match args, s.h with
 | [.agg ⟨[.iface f0 .nilIface, .iface f1 .nilIface, .iface f2 .nilIface, .iface f3 .nilIface]⟩], [⟨false, some (.tab [.fl .f32] x0)⟩, ⟨false, some (.tab [.fl .f32] x1)⟩, ⟨false, some (.tab [.int .i64, .int .i64, .fl .f32, .fl .f32, .fl .f32, .fl .f32, .fl .f32, .fl .f32] x2)⟩, ⟨false, some (.tab [.int .i64, .int .i64, .fl .f32, .fl .f32] x3)⟩] => if f0 = 0 ∧ f1 = 1 ∧ f2 = 2 ∧ f3 = 3 then (g12 x0 x1 x2 x3 (r12 x0 x1 x2 x3)) else T10 12 args s
 | _, _ => T10 12 args s
noncomputable def T11 : CallF := addF T10 12 s12
set_option maxRecDepth 100000 in
set_option maxHeartbeats 4000000 in
theorem ok11 : CfOk Tryd.prog T11 := by
  refine cfOk_add ok10 fun args s r s' h1 h2 h3 => ?_
  unfold s12 at h3; split at h3
  · rename_i h; split at h3
    · rename_i hc; obtain ⟨rfl, rfl, rfl, rfl⟩ := hc; exact callOk ok10 Tryd.func12 h1 h2 h (lfOkF_no _ _).body (e12 _ _ _ _) rfl h3
    · exact ok10 _ _ _ _ _ h1 h2 h3
  · exact ok10 _ _ _ _ _ h1 h2 h3

/-- spec.l00In -/
noncomputable def w44 {α : Type} (x0 x1 x2 : Int) (k : Bool → α) : α :=
 cond (decide ((x0 : Int) ≥ x1))
  (k ((decide ((x0 : Int) ≤ x2))))
  (k (false))
noncomputable def r44 (x0 x1 x2 : Int) : Bool := w44 x0 x1 x2 (fun p => p)
noncomputable def g44 (x0 x1 x2 : Int) (p : Bool) : List (Bool × Value × St) := [(true, .bool p, st0)]
theorem p44 {α : Type} (x0 x1 x2 : Int) (f : Bool → α) : w44 x0 x1 x2 f = f (w44 x0 x1 x2 (fun p => p)) := by unfold w44; exact (cond_app f _ rfl rfl)
set_option maxRecDepth 100000 in
set_option maxHeartbeats 4000000 in
theorem e44 (x0 x1 x2 : Int) : evFn Tryd.prog ext T11 noL 200 Tryd.f44 [vi x0, vi x1, vi x2] st0 = firstT (g44 x0 x1 x2 (r44 x0 x1 x2)) :=
 Eq.trans (by kernel_rfl) (p44 x0 x1 x2 (fun p => firstT (g44 x0 x1 x2 p)))
noncomputable def s44 (args : List Value) (s : St) : List (Bool × Value × St) :=
 match args, s.h with
 | [.int .i64 x0, .int .i64 x1, .int .i64 x2], [] => (g44 x0 x1 x2 (r44 x0 x1 x2))
 | _, _ => T11 44 args s
noncomputable def T12 : CallF := addF T11 44 s44
set_option maxRecDepth 100000 in
set_option maxHeartbeats 4000000 in
theorem ok12 : CfOk Tryd.prog T12 := by
  refine cfOk_add ok11 fun args s r s' h1 h2 h3 => ?_
  unfold s44 at h3; split at h3
  · rename_i h; exact callOk ok11 Tryd.func44 h1 h2 h (lfOkF_no _ _).body (e44 _ _ _) rfl h3
  · exact ok11 _ _ _ _ _ h1 h2 h3

/-- spec.l04Heat -/
noncomputable def w58 {α : Type} (x0 : Nat) (k : Bool → α) : α :=
 cond (fgt .f32 x0 3262119936 || feq .f32 x0 3262119936)
  (k ((flt .f32 x0 1128792064 || feq .f32 x0 1128792064)))
  (k (false))
noncomputable def r58 (x0 : Nat) : Bool := w58 x0 (fun p => p)
noncomputable def g58 (x0 : Nat) (p : Bool) : List (Bool × Value × St) := [(true, .bool p, st0)]
theorem p58 {α : Type} (x0 : Nat) (f : Bool → α) : w58 x0 f = f (w58 x0 (fun p => p)) := by unfold w58; exact (cond_app f _ rfl rfl)
set_option maxRecDepth 100000 in
set_option maxHeartbeats 4000000 in
theorem e58 (x0 : Nat) : evFn Tryd.prog ext T12 noL 200 Tryd.f58 [vf x0] st0 = firstT (g58 x0 (r58 x0)) :=
 Eq.trans (by kernel_rfl) (p58 x0 (fun p => firstT (g58 x0 p)))
noncomputable def s58 (args : List Value) (s : St) : List (Bool × Value × St) :=
 match args, s.h with
 | [.float .f32 x0], [] => (g58 x0 (r58 x0))
 | _, _ => T12 58 args s
noncomputable def T13 : CallF := addF T12 58 s58
set_option maxRecDepth 100000 in
set_option maxHeartbeats 4000000 in
theorem ok13 : CfOk Tryd.prog T13 := by
  refine cfOk_add ok12 fun args s r s' h1 h2 h3 => ?_
  unfold s58 at h3; split at h3
  · rename_i h; exact callOk ok12 Tryd.func58 h1 h2 h (lfOkF_no _ _).body (e58 _) rfl h3
  · exact ok12 _ _ _ _ _ h1 h2 h3

/-- spec.l01Finite -/
noncomputable def w78 {α : Type} (x0 : Nat) (k : Bool → α) : α :=
 k ((feq .f32 (fsub .f32 x0 x0) 0))
noncomputable def r78 (x0 : Nat) : Bool := w78 x0 (fun p => p)
noncomputable def g78 (x0 : Nat) (p : Bool) : List (Bool × Value × St) := [(true, .bool p, st0)]
theorem p78 {α : Type} (x0 : Nat) (f : Bool → α) : w78 x0 f = f (w78 x0 (fun p => p)) := by unfold w78; exact rfl
set_option maxRecDepth 100000 in
set_option maxHeartbeats 4000000 in
theorem e78 (x0 : Nat) : evFn Tryd.prog ext T13 noL 200 Tryd.f78 [vf x0] st0 = firstT (g78 x0 (r78 x0)) :=
 Eq.trans (by kernel_rfl) (p78 x0 (fun p => firstT (g78 x0 p)))
noncomputable def s78 (args : List Value) (s : St) : List (Bool × Value × St) :=
 match args, s.h with
 | [.float .f32 x0], [] => (g78 x0 (r78 x0))
 | _, _ => T13 78 args s
noncomputable def T14 : CallF := addF T13 78 s78
set_option maxRecDepth 100000 in
set_option maxHeartbeats 4000000 in
theorem ok14 : CfOk Tryd.prog T14 := by
  refine cfOk_add ok13 fun args s r s' h1 h2 h3 => ?_
  unfold s78 at h3; split at h3
  · rename_i h; exact callOk ok13 Tryd.func78 h1 h2 h (lfOkF_no _ _).body (e78 _) rfl h3
  · exact ok13 _ _ _ _ _ h1 h2 h3

/-- spec.l01Amount -/
noncomputable def w84 {α : Type} (x0 : Nat) (k : Bool → α) : α :=
 cond (r78 x0)
  (cond (fgt .f32 x0 0)
   (k (true))
   (cond (!isN .f32 x0)
    (k (((((x0 : Nat) : Int) : Int) == 0)))
    (k (false))))
  (k (false))
noncomputable def r84 (x0 : Nat) : Bool := w84 x0 (fun p => p)
noncomputable def g84 (x0 : Nat) (p : Bool) : List (Bool × Value × St) := [(true, .bool p, st0)]
theorem p84 {α : Type} (x0 : Nat) (f : Bool → α) : w84 x0 f = f (w84 x0 (fun p => p)) := by unfold w84; exact (cond_app f _ (cond_app f _ rfl (cond_app f _ rfl rfl)) rfl)
set_option maxRecDepth 100000 in
set_option maxHeartbeats 4000000 in
theorem e84 (x0 : Nat) : evFn Tryd.prog ext T14 noL 200 Tryd.f84 [vf x0] st0 = firstT (g84 x0 (r84 x0)) :=
 Eq.trans (by kernel_rfl) (p84 x0 (fun p => firstT (g84 x0 p)))
noncomputable def s84 (args : List Value) (s : St) : List (Bool × Value × St) :=
 match args, s.h with
 | [.float .f32 x0], [] => (g84 x0 (r84 x0))
 | _, _ => T14 84 args s
noncomputable def T15 : CallF := addF T14 84 s84
set_option maxRecDepth 100000 in
set_option maxHeartbeats 4000000 in
theorem ok15 : CfOk Tryd.prog T15 := by
  refine cfOk_add ok14 fun args s r s' h1 h2 h3 => ?_
  unfold s84 at h3; split at h3
  · rename_i h; exact callOk ok14 Tryd.func84 h1 h2 h (lfOkF_no _ _).body (e84 _) rfl h3
  · exact ok14 _ _ _ _ _ h1 h2 h3

/-- spec.l04Store -/
noncomputable def w59 {α : Type} (x0 : Nat) (k : Bool → α) : α :=
 cond (r84 x0)
  (cond (fgt .f32 x0 1065353216 || feq .f32 x0 1065353216)
   (k ((flt .f32 x0 1176256512 || feq .f32 x0 1176256512)))
   (k (false)))
  (k (false))
noncomputable def r59 (x0 : Nat) : Bool := w59 x0 (fun p => p)
noncomputable def g59 (x0 : Nat) (p : Bool) : List (Bool × Value × St) := [(true, .bool p, st0)]
theorem p59 {α : Type} (x0 : Nat) (f : Bool → α) : w59 x0 f = f (w59 x0 (fun p => p)) := by unfold w59; exact (cond_app f _ (cond_app f _ rfl rfl) rfl)
set_option maxRecDepth 100000 in
set_option maxHeartbeats 4000000 in
theorem e59 (x0 : Nat) : evFn Tryd.prog ext T15 noL 200 Tryd.f59 [vf x0] st0 = firstT (g59 x0 (r59 x0)) :=
 Eq.trans (by kernel_rfl) (p59 x0 (fun p => firstT (g59 x0 p)))
noncomputable def s59 (args : List Value) (s : St) : List (Bool × Value × St) :=
 match args, s.h with
 | [.float .f32 x0], [] => (g59 x0 (r59 x0))
 | _, _ => T15 59 args s
noncomputable def T16 : CallF := addF T15 59 s59
set_option maxRecDepth 100000 in
set_option maxHeartbeats 4000000 in
theorem ok16 : CfOk Tryd.prog T16 := by
  refine cfOk_add ok15 fun args s r s' h1 h2 h3 => ?_
  unfold s59 at h3; split at h3
  · rename_i h; exact callOk ok15 Tryd.func59 h1 h2 h (lfOkF_no _ _).body (e59 _) rfl h3
  · exact ok15 _ _ _ _ _ h1 h2 h3

/-- spec.l04Ok, loop 0: one round -/
noncomputable def b32l0 (ih : Int → Int → List (List Int) → List (List Int) → List (List Int) → List (List Int) → Nat) (x0 x1 : Int) (x2 x3 x4 x5 : List (List Int)) : Nat :=
 let c69 := (r58 (Int.toNat ((x2.getD (Int.toNat x1) []).getD 0 0)))
 let c70 := (r59 (Int.toNat ((x3.getD (Int.toNat x1) []).getD 0 0)))
 cond (decide ((x1 : Int) < x0))
  (cond ((decide ((0 : Int) ≤ x1)) && (Nat.blt (Int.toNat x1) x2.length))
   (cond (!c69)
    (0)
    (cond ((decide ((0 : Int) ≤ x1)) && (Nat.blt (Int.toNat x1) x3.length))
     (cond (!c70)
      (0)
      (ih x0 (IntKind.i64.wrap (x1 + 1)) x2 x3 x4 x5))
     (2)))
   (2))
  (1)
noncomputable def r32l0 : Nat → Int → Int → List (List Int) → List (List Int) → List (List Int) → List (List Int) → Nat
 | 0 => fun _ _ _ _ _ _ => (2)
 | m + 1 => b32l0 (r32l0 m)
noncomputable def a32l0 (x0 x1 : Int) (x2 x3 x4 x5 : List (List Int)) (p : Nat) : Option (Fin' × List Value × St) := firstT ([((Nat.beq p 0), .ret, [vp 0, .bool false, vi x0], ⟨[⟨true, (some (.cells [wsl 1, wsl 2, wsl 3, wsl 4]))⟩, ⟨true, (some (.tab [.fl .f32] x2))⟩, ⟨true, (some (.tab [.fl .f32] x3))⟩, ⟨true, (some (.tab sc0 x4))⟩, ⟨true, (some (.tab sc1 x5))⟩], 5, []⟩), ((Nat.beq p 1), .exit 0, [vp 0, anyV, vi x0], ⟨[⟨true, (some (.cells [wsl 1, wsl 2, wsl 3, wsl 4]))⟩, ⟨true, (some (.tab [.fl .f32] x2))⟩, ⟨true, (some (.tab [.fl .f32] x3))⟩, ⟨true, (some (.tab sc0 x4))⟩, ⟨true, (some (.tab sc1 x5))⟩], 5, []⟩)].map fun (b, x) => (b, (x.1, frameOf 105 [0, 2, 3] x.2.1, x.2.2)))
noncomputable def u32l0 (x0 x1 : Int) (x2 x3 x4 x5 : List (List Int)) (p : Nat) : Option (Fin' × List Value × St) := alts ([((Nat.beq p 0), .ret, [vp 0, .bool false, vi x0], ⟨[⟨true, (some (.cells [wsl 1, wsl 2, wsl 3, wsl 4]))⟩, ⟨true, (some (.tab [.fl .f32] x2))⟩, ⟨true, (some (.tab [.fl .f32] x3))⟩, ⟨true, (some (.tab sc0 x4))⟩, ⟨true, (some (.tab sc1 x5))⟩], 5, []⟩), ((Nat.beq p 1), .exit 0, [vp 0, anyV, vi x0], ⟨[⟨true, (some (.cells [wsl 1, wsl 2, wsl 3, wsl 4]))⟩, ⟨true, (some (.tab [.fl .f32] x2))⟩, ⟨true, (some (.tab [.fl .f32] x3))⟩, ⟨true, (some (.tab sc0 x4))⟩, ⟨true, (some (.tab sc1 x5))⟩], 5, []⟩)].map fun (b, x) => (b, (x.1, frameOf 105 [0, 2, 3] x.2.1, x.2.2))) some
theorem v32l0 (x0 x1 : Int) (x2 x3 x4 x5 : List (List Int)) (p : Nat) : u32l0 x0 x1 x2 x3 x4 x5 p = a32l0 x0 x1 x2 x3 x4 x5 p := alts_first _
noncomputable def q32l0 (m : Nat) : SumK := fun vals s =>
 match vals, s.h with
 | [.pointer (some ⟨f0, f1, some f2⟩), .int .i64 x0, .int .i64 x1], [⟨true, some (.cells [.iface f3 .nilIface, .iface f4 .nilIface, .iface f5 .nilIface, .iface f6 .nilIface])⟩, ⟨true, some (.tab [.fl .f32] x2)⟩, ⟨true, some (.tab [.fl .f32] x3)⟩, ⟨true, some (.tab [.int .i64, .int .i64, .fl .f32, .fl .f32, .fl .f32, .fl .f32, .fl .f32, .fl .f32] x4)⟩, ⟨true, some (.tab [.int .i64, .int .i64, .fl .f32, .fl .f32] x5)⟩] => if f0 = 0 ∧ f1 = 0 ∧ f2 = 0 ∧ f3 = 1 ∧ f4 = 2 ∧ f5 = 3 ∧ f6 = 4 then [((Nat.beq (r32l0 m x0 x1 x2 x3 x4 x5) 0), .ret, [vp 0, .bool false, vi x0], ⟨[⟨true, (some (.cells [wsl 1, wsl 2, wsl 3, wsl 4]))⟩, ⟨true, (some (.tab [.fl .f32] x2))⟩, ⟨true, (some (.tab [.fl .f32] x3))⟩, ⟨true, (some (.tab sc0 x4))⟩, ⟨true, (some (.tab sc1 x5))⟩], 5, []⟩), ((Nat.beq (r32l0 m x0 x1 x2 x3 x4 x5) 1), .exit 0, [vp 0, anyV, vi x0], ⟨[⟨true, (some (.cells [wsl 1, wsl 2, wsl 3, wsl 4]))⟩, ⟨true, (some (.tab [.fl .f32] x2))⟩, ⟨true, (some (.tab [.fl .f32] x3))⟩, ⟨true, (some (.tab sc0 x4))⟩, ⟨true, (some (.tab sc1 x5))⟩], 5, []⟩)] else noQ vals s
 | _, _ => noQ vals s
noncomputable def w32l0 (ih : Int → Int → List (List Int) → List (List Int) → List (List Int) → List (List Int) → Nat) (x0 x1 : Int) (x2 x3 x4 x5 : List (List Int)) : Option (Fin' × List Value × St) :=
 let c69 := (r58 (Int.toNat ((x2.getD (Int.toNat x1) []).getD 0 0)))
 let c70 := (r59 (Int.toNat ((x3.getD (Int.toNat x1) []).getD 0 0)))
 (cond (decide ((x1 : Int) < x0))
 (cond ((decide ((0 : Int) ≤ x1)) && (Nat.blt (Int.toNat x1) x2.length))
  (cond (Nat.blt (Int.toNat x1) x2.length)
   (cond (!c69)
    (a32l0 x0 x1 x2 x3 x4 x5 (0))
    (cond ((decide ((0 : Int) ≤ x1)) && (Nat.blt (Int.toNat x1) x3.length))
     (cond (Nat.blt (Int.toNat x1) x3.length)
      (cond (!c70)
       (a32l0 x0 x1 x2 x3 x4 x5 (0))
       (u32l0 x0 x1 x2 x3 x4 x5 (ih x0 (IntKind.i64.wrap (x1 + 1)) x2 x3 x4 x5)))
      none)
     none))
   none)
  none)
 (a32l0 x0 x1 x2 x3 x4 x5 (1)))
set_option maxRecDepth 100000 in
set_option maxHeartbeats 4000000 in
theorem e32l0 (m : Nat) (x0 x1 : Int) (x2 x3 x4 x5 : List (List Int)) : evC Tryd.prog ext T16 noL 200 (loopN Tryd.f32 0) (loopTail ([0, 3, 4], []) [0, 2, 3] [] (sumK 105 [0, 3, 4] [0, 2, 3] (q32l0 m))) (frameOf 105 [0, 3, 4] [vp 0, vi x0, vi x1]) ⟨[⟨true, (some (.cells [wsl 1, wsl 2, wsl 3, wsl 4]))⟩, ⟨true, (some (.tab [.fl .f32] x2))⟩, ⟨true, (some (.tab [.fl .f32] x3))⟩, ⟨true, (some (.tab sc0 x4))⟩, ⟨true, (some (.tab sc1 x5))⟩], 5, []⟩ = firstT ([((Nat.beq (r32l0 (m + 1) x0 x1 x2 x3 x4 x5) 0), .ret, [vp 0, .bool false, vi x0], ⟨[⟨true, (some (.cells [wsl 1, wsl 2, wsl 3, wsl 4]))⟩, ⟨true, (some (.tab [.fl .f32] x2))⟩, ⟨true, (some (.tab [.fl .f32] x3))⟩, ⟨true, (some (.tab sc0 x4))⟩, ⟨true, (some (.tab sc1 x5))⟩], 5, []⟩), ((Nat.beq (r32l0 (m + 1) x0 x1 x2 x3 x4 x5) 1), .exit 0, [vp 0, anyV, vi x0], ⟨[⟨true, (some (.cells [wsl 1, wsl 2, wsl 3, wsl 4]))⟩, ⟨true, (some (.tab [.fl .f32] x2))⟩, ⟨true, (some (.tab [.fl .f32] x3))⟩, ⟨true, (some (.tab sc0 x4))⟩, ⟨true, (some (.tab sc1 x5))⟩], 5, []⟩)].map fun (b, x) => (b, (x.1, frameOf 105 [0, 2, 3] x.2.1, x.2.2))) :=
 (show evC Tryd.prog ext T16 noL 200 (loopN Tryd.f32 0) (loopTail ([0, 3, 4], []) [0, 2, 3] [] (sumK 105 [0, 3, 4] [0, 2, 3] (q32l0 m))) (frameOf 105 [0, 3, 4] [vp 0, vi x0, vi x1]) ⟨[⟨true, (some (.cells [wsl 1, wsl 2, wsl 3, wsl 4]))⟩, ⟨true, (some (.tab [.fl .f32] x2))⟩, ⟨true, (some (.tab [.fl .f32] x3))⟩, ⟨true, (some (.tab sc0 x4))⟩, ⟨true, (some (.tab sc1 x5))⟩], 5, []⟩ = w32l0 (r32l0 m) x0 x1 x2 x3 x4 x5 from by kernel_rfl).trans
 (show w32l0 (r32l0 m) x0 x1 x2 x3 x4 x5 = a32l0 x0 x1 x2 x3 x4 x5 (r32l0 (m + 1) x0 x1 x2 x3 x4 x5) from by unfold w32l0; show _ = a32l0 x0 x1 x2 x3 x4 x5 (b32l0 (r32l0 m) x0 x1 x2 x3 x4 x5); unfold b32l0; exact (cond_both (a32l0 x0 x1 x2 x3 x4 x5) _ (fun h0 => (cond_both (a32l0 x0 x1 x2 x3 x4 x5) _ (fun h1 => (cond_t (ev_and2 h1) (cond_both (a32l0 x0 x1 x2 x3 x4 x5) _ (fun h2 => rfl) (fun h2 => (cond_both (a32l0 x0 x1 x2 x3 x4 x5) _ (fun h3 => (cond_t (ev_and2 h3) (cond_app (a32l0 x0 x1 x2 x3 x4 x5) _ rfl (v32l0 x0 x1 x2 x3 x4 x5 ((r32l0 m) x0 (IntKind.i64.wrap (x1 + 1)) x2 x3 x4 x5))))) (fun h3 => rfl)))))) (fun h1 => rfl))) (fun h0 => rfl)))
set_option maxRecDepth 100000 in
set_option maxHeartbeats 4000000 in
theorem qm32l0 : ∀ m, SumKOk Tryd.prog (loopN Tryd.f32 0) 105 [0, 3, 4] [0, 2, 3] (q32l0 m) := by
  intro m
  induction m with
  | zero =>
    intro vals s x h1 h2 h3
    unfold q32l0 at h3; split at h3
    · rename_i h; split at h3
      · rename_i hc; obtain ⟨rfl, rfl, rfl, rfl, rfl, rfl, rfl⟩ := hc; exact absurd h3 (by simp [r32l0, firstT, Nat.beq])
      · exact noQ_ok _ _ _ h1 h2 h3
    · exact noQ_ok _ _ _ h1 h2 h3
  | succ m ih =>
    intro vals s x h1 h2 h3
    unfold q32l0 at h3; split at h3
    · rename_i h; split at h3
      · rename_i hc; obtain ⟨rfl, rfl, rfl, rfl, rfl, rfl, rfl⟩ := hc; exact sum_step ok16 extOk mixed ((lfOkF_no _ _).inner (by kernel_rfl)) ih h1 h2 h (e32l0 m _ _ _ _ _ _) rfl h3
      · exact noQ_ok _ _ _ h1 h2 h3
    · exact noQ_ok _ _ _ h1 h2 h3
noncomputable def Q32l0 : SumK := fun vals s => q32l0 (fuelOf vals s.h) vals s
theorem qok32l0 : SumKOk Tryd.prog (loopN Tryd.f32 0) 105 [0, 3, 4] [0, 2, 3] Q32l0 := fuel_ok qm32l0 fuelOf
noncomputable def L32_1 : LoopT := addL noL 6 ([0, 3, 4], []) (sumK 105 [0, 3, 4] [0, 2, 3] Q32l0)
theorem lok32_1 : LfOkF Tryd.prog L32_1 Tryd.f32 := lfOkF_add (lfOkF_no _ _) qok32l0 (by kernel_rfl) (by kernel_rfl) (by kernel_rfl)

/-- spec.l04Sides -/
noncomputable def w85 {α : Type} (x0 x1 x2 : Int) (k : Bool → α) : α :=
 let c76 := (r44 x1 (-1) (IntKind.i64.wrap (x2 - 1)))
 cond (r44 x0 0 (IntKind.i64.wrap (x2 - 1)))
  (cond c76
   (k (((x0 : Int) != x1)))
   (k (false)))
  (k (false))
noncomputable def r85 (x0 x1 x2 : Int) : Bool := w85 x0 x1 x2 (fun p => p)
noncomputable def g85 (x0 x1 x2 : Int) (p : Bool) : List (Bool × Value × St) := [(true, .bool p, st0)]
theorem p85 {α : Type} (x0 x1 x2 : Int) (f : Bool → α) : w85 x0 x1 x2 f = f (w85 x0 x1 x2 (fun p => p)) := by unfold w85; exact (cond_app f _ (cond_app f _ rfl rfl) rfl)
set_option maxRecDepth 100000 in
set_option maxHeartbeats 4000000 in
theorem e85 (x0 x1 x2 : Int) : evFn Tryd.prog ext T16 noL 200 Tryd.f85 [vi x0, vi x1, vi x2] st0 = firstT (g85 x0 x1 x2 (r85 x0 x1 x2)) :=
 Eq.trans (by kernel_rfl) (p85 x0 x1 x2 (fun p => firstT (g85 x0 x1 x2 p)))
noncomputable def s85 (args : List Value) (s : St) : List (Bool × Value × St) :=
 match args, s.h with
 | [.int .i64 x0, .int .i64 x1, .int .i64 x2], [] => (g85 x0 x1 x2 (r85 x0 x1 x2))
 | _, _ => T16 85 args s
noncomputable def T17 : CallF := addF T16 85 s85
set_option maxRecDepth 100000 in
set_option maxHeartbeats 4000000 in
theorem ok17 : CfOk Tryd.prog T17 := by
  refine cfOk_add ok16 fun args s r s' h1 h2 h3 => ?_
  unfold s85 at h3; split at h3
  · rename_i h; exact callOk ok16 Tryd.func85 h1 h2 h (lfOkF_no _ _).body (e85 _ _ _) rfl h3
  · exact ok16 _ _ _ _ _ h1 h2 h3

/-- spec.l04Wall -/
noncomputable def r60 (x0 : Nat) (x1 : Int) (x2 : List (List Int)) : Nat × Bool :=
 let c171 := (r58 (Int.toNat ((x2.getD x0 []).getD 4 0)))
 let c172 := (r58 (Int.toNat ((x2.getD x0 []).getD 5 0)))
 let c173 := (r58 (Int.toNat ((x2.getD x0 []).getD 6 0)))
 let c174 := (r58 (Int.toNat ((x2.getD x0 []).getD 7 0)))
 let c175 := (r85 ((x2.getD x0 []).getD 0 0) ((x2.getD x0 []).getD 1 0) x1)
 let c176 := (r84 (Int.toNat ((x2.getD x0 []).getD 2 0)))
 let c177 := (r59 (Int.toNat ((x2.getD x0 []).getD 3 0)))
 cond (Nat.blt x0 x2.length)
  (cond (!c171)
   (0, false)
   (cond (!c172)
    (0, false)
    (cond (!c173)
     (0, false)
     (cond (!c174)
      (0, false)
      (cond c175
       (cond c176
        (cond (fgt .f32 (Int.toNat ((x2.getD x0 []).getD 2 0)) 1015021568 || feq .f32 (Int.toNat ((x2.getD x0 []).getD 2 0)) 1015021568)
         (cond (flt .f32 (Int.toNat ((x2.getD x0 []).getD 2 0)) 1120403456 || feq .f32 (Int.toNat ((x2.getD x0 []).getD 2 0)) 1120403456)
          (0, c177)
          (0, false))
         (0, false))
        (0, false))
       (0, false))))))
  (1, false)
noncomputable def a60 (x0 : Nat) (x1 : Int) (x2 : List (List Int)) (p : Nat × Bool) : Res := firstT [((Nat.beq (p.1) 0), .bool (p.2), ⟨[⟨true, (some (.tab sc0 x2))⟩], 1, []⟩)]
noncomputable def w60 (x0 : Nat) (x1 : Int) (x2 : List (List Int)) : Res :=
 let c171 := (r58 (Int.toNat ((x2.getD x0 []).getD 4 0)))
 let c172 := (r58 (Int.toNat ((x2.getD x0 []).getD 5 0)))
 let c173 := (r58 (Int.toNat ((x2.getD x0 []).getD 6 0)))
 let c174 := (r58 (Int.toNat ((x2.getD x0 []).getD 7 0)))
 let c175 := (r85 ((x2.getD x0 []).getD 0 0) ((x2.getD x0 []).getD 1 0) x1)
 let c176 := (r84 (Int.toNat ((x2.getD x0 []).getD 2 0)))
 let c177 := (r59 (Int.toNat ((x2.getD x0 []).getD 3 0)))
 (cond (Nat.blt x0 x2.length)
 (cond (!c171)
  (a60 x0 x1 x2 (0, false))
  (cond (Nat.blt x0 x2.length)
   (cond (!c172)
    (a60 x0 x1 x2 (0, false))
    (cond (Nat.blt x0 x2.length)
     (cond (!c173)
      (a60 x0 x1 x2 (0, false))
      (cond (Nat.blt x0 x2.length)
       (cond (!c174)
        (a60 x0 x1 x2 (0, false))
        (cond (Nat.blt x0 x2.length)
         (cond (Nat.blt x0 x2.length)
          (cond c175
           (cond (Nat.blt x0 x2.length)
            (cond c176
             (cond (Nat.blt x0 x2.length)
              (cond (fgt .f32 (Int.toNat ((x2.getD x0 []).getD 2 0)) 1015021568 || feq .f32 (Int.toNat ((x2.getD x0 []).getD 2 0)) 1015021568)
               (cond (Nat.blt x0 x2.length)
                (cond (flt .f32 (Int.toNat ((x2.getD x0 []).getD 2 0)) 1120403456 || feq .f32 (Int.toNat ((x2.getD x0 []).getD 2 0)) 1120403456)
                 (cond (Nat.blt x0 x2.length)
                  (a60 x0 x1 x2 (0, c177))
                  none)
                 (a60 x0 x1 x2 (0, false)))
                none)
               (a60 x0 x1 x2 (0, false)))
              none)
             (a60 x0 x1 x2 (0, false)))
            none)
           (a60 x0 x1 x2 (0, false)))
          none)
         none))
       none))
     none))
   none))
 none)
set_option maxRecDepth 100000 in
set_option maxHeartbeats 4000000 in
theorem e60 (x0 : Nat) (x1 : Int) (x2 : List (List Int)) : evFn Tryd.prog ext T17 noL 200 Tryd.f60 [.pointer (some ⟨0, x0, some 0⟩), vi x1] ⟨[⟨true, (some (.tab sc0 x2))⟩], 1, []⟩ = firstT [((Nat.beq ((r60 x0 x1 x2).1) 0), .bool ((r60 x0 x1 x2).2), ⟨[⟨true, (some (.tab sc0 x2))⟩], 1, []⟩)] :=
 (show evFn Tryd.prog ext T17 noL 200 Tryd.f60 [.pointer (some ⟨0, x0, some 0⟩), vi x1] ⟨[⟨true, (some (.tab sc0 x2))⟩], 1, []⟩ = w60 x0 x1 x2 from by kernel_rfl).trans
 (show w60 x0 x1 x2 = a60 x0 x1 x2 (r60 x0 x1 x2) from by unfold w60 r60; exact (cond_both (a60 x0 x1 x2) _ (fun h0 => (cond_both (a60 x0 x1 x2) _ (fun h1 => rfl) (fun h1 => (cond_t h0 (cond_both (a60 x0 x1 x2) _ (fun h2 => rfl) (fun h2 => (cond_t h0 (cond_both (a60 x0 x1 x2) _ (fun h3 => rfl) (fun h3 => (cond_t h0 (cond_both (a60 x0 x1 x2) _ (fun h4 => rfl) (fun h4 => (cond_t h0 (cond_t h0 (cond_both (a60 x0 x1 x2) _ (fun h5 => (cond_t h0 (cond_both (a60 x0 x1 x2) _ (fun h6 => (cond_t h0 (cond_both (a60 x0 x1 x2) _ (fun h7 => (cond_t h0 (cond_both (a60 x0 x1 x2) _ (fun h8 => (cond_t h0 rfl)) (fun h8 => rfl)))) (fun h7 => rfl)))) (fun h6 => rfl)))) (fun h5 => rfl)))))))))))))))) (fun h0 => rfl)))
noncomputable def s60 (args : List Value) (s : St) : List (Bool × Value × St) :=
 match args, s.h with
 | [.pointer (some ⟨f0, x0, some f1⟩), .int .i64 x1], [⟨true, some (.tab [.int .i64, .int .i64, .fl .f32, .fl .f32, .fl .f32, .fl .f32, .fl .f32, .fl .f32] x2)⟩] => if f0 = 0 ∧ f1 = 0 then [((Nat.beq ((r60 x0 x1 x2).1) 0), .bool ((r60 x0 x1 x2).2), ⟨[⟨true, (some (.tab sc0 x2))⟩], 1, []⟩)] else T17 60 args s
 | _, _ => T17 60 args s
noncomputable def T18 : CallF := addF T17 60 s60
set_option maxRecDepth 100000 in
set_option maxHeartbeats 4000000 in
theorem ok18 : CfOk Tryd.prog T18 := by
  refine cfOk_add ok17 fun args s r s' h1 h2 h3 => ?_
  unfold s60 at h3; split at h3
  · rename_i h; split at h3
    · rename_i hc; obtain ⟨rfl, rfl⟩ := hc; exact callOk ok17 Tryd.func60 h1 h2 h (lfOkF_no _ _).body (e60 _ _ _) rfl h3
    · exact ok17 _ _ _ _ _ h1 h2 h3
  · exact ok17 _ _ _ _ _ h1 h2 h3

/-- spec.l04Ok, loop 1: one round -/
noncomputable def w32l1 {α : Type} (ih : Int → Int → List (List Int) → List (List Int) → List (List Int) → List (List Int) → Nat) (x0 x1 : Int) (x2 x3 x4 x5 : List (List Int)) (k k2 : Nat → α) : α :=
 cond (decide ((x1 : Int) < ((x4.length : Nat) : Int)))
  (cond ((decide ((0 : Int) ≤ x1)) && (Nat.blt (Int.toNat x1) x4.length))
   (cond (Nat.beq ((r60 (Int.toNat x1) x0 x4).1) 0)
    (cond (!((r60 (Int.toNat x1) x0 x4).2))
     (k (0))
     (k2 (ih x0 (IntKind.i64.wrap (x1 + 1)) x2 x3 x4 x5)))
    (k (2)))
   (k (2)))
  (k (1))
noncomputable def b32l1 (ih : Int → Int → List (List Int) → List (List Int) → List (List Int) → List (List Int) → Nat) (x0 x1 : Int) (x2 x3 x4 x5 : List (List Int)) : Nat := w32l1 ih x0 x1 x2 x3 x4 x5 (fun p => p) (fun p => p)
noncomputable def r32l1 : Nat → Int → Int → List (List Int) → List (List Int) → List (List Int) → List (List Int) → Nat
 | 0 => fun _ _ _ _ _ _ => (2)
 | m + 1 => b32l1 (r32l1 m)
noncomputable def g32l1 (x0 x1 : Int) (x2 x3 x4 x5 : List (List Int)) (p : Nat) : List (Bool × (Fin' × List Value × St)) := [((Nat.beq p 0), .ret, [vp 0, .bool false, vi x0], ⟨[⟨true, (some (.cells [wsl 1, wsl 2, wsl 3, wsl 4]))⟩, ⟨true, (some (.tab [.fl .f32] x2))⟩, ⟨true, (some (.tab [.fl .f32] x3))⟩, ⟨true, (some (.tab sc0 x4))⟩, ⟨true, (some (.tab sc1 x5))⟩], 5, []⟩), ((Nat.beq p 1), .exit 2, [vp 0, anyV, vi x0], ⟨[⟨true, (some (.cells [wsl 1, wsl 2, wsl 3, wsl 4]))⟩, ⟨true, (some (.tab [.fl .f32] x2))⟩, ⟨true, (some (.tab [.fl .f32] x3))⟩, ⟨true, (some (.tab sc0 x4))⟩, ⟨true, (some (.tab sc1 x5))⟩], 5, []⟩)]
noncomputable def a32l1 (x0 x1 : Int) (x2 x3 x4 x5 : List (List Int)) (p : Nat) : Option (Fin' × List Value × St) := firstT ((g32l1 x0 x1 x2 x3 x4 x5 p).map fun (b, x) => (b, (x.1, frameOf 105 [0, 2, 3] x.2.1, x.2.2)))
noncomputable def u32l1 (x0 x1 : Int) (x2 x3 x4 x5 : List (List Int)) (p : Nat) : Option (Fin' × List Value × St) := alts ((g32l1 x0 x1 x2 x3 x4 x5 p).map fun (b, x) => (b, (x.1, frameOf 105 [0, 2, 3] x.2.1, x.2.2))) some
theorem v32l1 (x0 x1 : Int) (x2 x3 x4 x5 : List (List Int)) (p : Nat) : u32l1 x0 x1 x2 x3 x4 x5 p = a32l1 x0 x1 x2 x3 x4 x5 p := alts_first _
noncomputable def q32l1 (m : Nat) : SumK := fun vals s =>
 match vals, s.h with
 | [.pointer (some ⟨f0, f1, some f2⟩), .int .i64 x0, .int .i64 x1], [⟨true, some (.cells [.iface f3 .nilIface, .iface f4 .nilIface, .iface f5 .nilIface, .iface f6 .nilIface])⟩, ⟨true, some (.tab [.fl .f32] x2)⟩, ⟨true, some (.tab [.fl .f32] x3)⟩, ⟨true, some (.tab [.int .i64, .int .i64, .fl .f32, .fl .f32, .fl .f32, .fl .f32, .fl .f32, .fl .f32] x4)⟩, ⟨true, some (.tab [.int .i64, .int .i64, .fl .f32, .fl .f32] x5)⟩] => if f0 = 0 ∧ f1 = 0 ∧ f2 = 0 ∧ f3 = 1 ∧ f4 = 2 ∧ f5 = 3 ∧ f6 = 4 then (g32l1 x0 x1 x2 x3 x4 x5 (r32l1 m x0 x1 x2 x3 x4 x5)) else noQ vals s
 | _, _ => noQ vals s
theorem p32l1 {α : Type} (ih : Int → Int → List (List Int) → List (List Int) → List (List Int) → List (List Int) → Nat) (x0 x1 : Int) (x2 x3 x4 x5 : List (List Int)) (f : Nat → α) (u : Nat → α) (h : ∀ p, u p = f p) : w32l1 ih x0 x1 x2 x3 x4 x5 f u = f (w32l1 ih x0 x1 x2 x3 x4 x5 (fun p => p) (fun p => p)) := by unfold w32l1; repeat' (first | refine cond_app f _ ?_ ?_ | rfl | exact h _)
set_option maxRecDepth 100000 in
set_option maxHeartbeats 4000000 in
theorem e32l1 (m : Nat) (x0 x1 : Int) (x2 x3 x4 x5 : List (List Int)) : evC Tryd.prog ext T18 L32_1 200 (loopN Tryd.f32 1) (loopTail ([0, 3, 5], []) [0, 2, 3] [] (sumK 105 [0, 3, 5] [0, 2, 3] (q32l1 m))) (frameOf 105 [0, 3, 5] [vp 0, vi x0, vi x1]) ⟨[⟨true, (some (.cells [wsl 1, wsl 2, wsl 3, wsl 4]))⟩, ⟨true, (some (.tab [.fl .f32] x2))⟩, ⟨true, (some (.tab [.fl .f32] x3))⟩, ⟨true, (some (.tab sc0 x4))⟩, ⟨true, (some (.tab sc1 x5))⟩], 5, []⟩ = firstT ((g32l1 x0 x1 x2 x3 x4 x5 (r32l1 (m + 1) x0 x1 x2 x3 x4 x5)).map fun (b, x) => (b, (x.1, frameOf 105 [0, 2, 3] x.2.1, x.2.2))) :=
 Eq.trans (by kernel_rfl) (p32l1 (r32l1 m) x0 x1 x2 x3 x4 x5 (a32l1 x0 x1 x2 x3 x4 x5) (u32l1 x0 x1 x2 x3 x4 x5) (v32l1 x0 x1 x2 x3 x4 x5))
set_option maxRecDepth 100000 in
set_option maxHeartbeats 4000000 in
theorem qm32l1 : ∀ m, SumKOk Tryd.prog (loopN Tryd.f32 1) 105 [0, 3, 5] [0, 2, 3] (q32l1 m) := by
  intro m
  induction m with
  | zero =>
    intro vals s x h1 h2 h3
    unfold q32l1 at h3; split at h3
    · rename_i h; split at h3
      · rename_i hc; obtain ⟨rfl, rfl, rfl, rfl, rfl, rfl, rfl⟩ := hc; exact absurd h3 (by simp [r32l1, g32l1, firstT, Nat.beq])
      · exact noQ_ok _ _ _ h1 h2 h3
    · exact noQ_ok _ _ _ h1 h2 h3
  | succ m ih =>
    intro vals s x h1 h2 h3
    unfold q32l1 at h3; split at h3
    · rename_i h; split at h3
      · rename_i hc; obtain ⟨rfl, rfl, rfl, rfl, rfl, rfl, rfl⟩ := hc; exact sum_step ok18 extOk mixed (lok32_1.inner (by kernel_rfl)) ih h1 h2 h (e32l1 m _ _ _ _ _ _) rfl h3
      · exact noQ_ok _ _ _ h1 h2 h3
    · exact noQ_ok _ _ _ h1 h2 h3
noncomputable def Q32l1 : SumK := fun vals s => q32l1 (fuelOf vals s.h) vals s
theorem qok32l1 : SumKOk Tryd.prog (loopN Tryd.f32 1) 105 [0, 3, 5] [0, 2, 3] Q32l1 := fuel_ok qm32l1 fuelOf
noncomputable def L32_2 : LoopT := addL L32_1 11 ([0, 3, 5], []) (sumK 105 [0, 3, 5] [0, 2, 3] Q32l1)
theorem lok32_2 : LfOkF Tryd.prog L32_2 Tryd.f32 := lfOkF_add lok32_1 qok32l1 (by kernel_rfl) (by kernel_rfl) (by kernel_rfl)

/-- spec.l04Pane -/
noncomputable def r61 (x0 : Nat) (x1 : Int) (x2 : List (List Int)) : Nat × Bool :=
 let c175 := (r85 ((x2.getD x0 []).getD 0 0) ((x2.getD x0 []).getD 1 0) x1)
 let c176 := (r84 (Int.toNat ((x2.getD x0 []).getD 2 0)))
 let c193 := (r84 (Int.toNat ((x2.getD x0 []).getD 3 0)))
 cond (Nat.blt x0 x2.length)
  (cond c175
   (cond c176
    (cond (flt .f32 (Int.toNat ((x2.getD x0 []).getD 2 0)) 1120403456 || feq .f32 (Int.toNat ((x2.getD x0 []).getD 2 0)) 1120403456)
     (cond c193
      (0, (flt .f32 (Int.toNat ((x2.getD x0 []).getD 3 0)) 1092616192 || feq .f32 (Int.toNat ((x2.getD x0 []).getD 3 0)) 1092616192))
      (0, false))
     (0, false))
    (0, false))
   (0, false))
  (1, false)
noncomputable def a61 (x0 : Nat) (x1 : Int) (x2 : List (List Int)) (p : Nat × Bool) : Res := firstT [((Nat.beq (p.1) 0), .bool (p.2), ⟨[⟨true, (some (.tab sc1 x2))⟩], 1, []⟩)]
noncomputable def w61 (x0 : Nat) (x1 : Int) (x2 : List (List Int)) : Res :=
 let c175 := (r85 ((x2.getD x0 []).getD 0 0) ((x2.getD x0 []).getD 1 0) x1)
 let c176 := (r84 (Int.toNat ((x2.getD x0 []).getD 2 0)))
 let c193 := (r84 (Int.toNat ((x2.getD x0 []).getD 3 0)))
 (cond (Nat.blt x0 x2.length)
 (cond (Nat.blt x0 x2.length)
  (cond c175
   (cond (Nat.blt x0 x2.length)
    (cond c176
     (cond (Nat.blt x0 x2.length)
      (cond (flt .f32 (Int.toNat ((x2.getD x0 []).getD 2 0)) 1120403456 || feq .f32 (Int.toNat ((x2.getD x0 []).getD 2 0)) 1120403456)
       (cond (Nat.blt x0 x2.length)
        (cond c193
         (cond (Nat.blt x0 x2.length)
          (a61 x0 x1 x2 (0, (flt .f32 (Int.toNat ((x2.getD x0 []).getD 3 0)) 1092616192 || feq .f32 (Int.toNat ((x2.getD x0 []).getD 3 0)) 1092616192)))
          none)
         (a61 x0 x1 x2 (0, false)))
        none)
       (a61 x0 x1 x2 (0, false)))
      none)
     (a61 x0 x1 x2 (0, false)))
    none)
   (a61 x0 x1 x2 (0, false)))
  none)
 none)
set_option maxRecDepth 100000 in
set_option maxHeartbeats 4000000 in
theorem e61 (x0 : Nat) (x1 : Int) (x2 : List (List Int)) : evFn Tryd.prog ext T18 noL 200 Tryd.f61 [.pointer (some ⟨0, x0, some 0⟩), vi x1] ⟨[⟨true, (some (.tab sc1 x2))⟩], 1, []⟩ = firstT [((Nat.beq ((r61 x0 x1 x2).1) 0), .bool ((r61 x0 x1 x2).2), ⟨[⟨true, (some (.tab sc1 x2))⟩], 1, []⟩)] :=
 (show evFn Tryd.prog ext T18 noL 200 Tryd.f61 [.pointer (some ⟨0, x0, some 0⟩), vi x1] ⟨[⟨true, (some (.tab sc1 x2))⟩], 1, []⟩ = w61 x0 x1 x2 from by kernel_rfl).trans
 (show w61 x0 x1 x2 = a61 x0 x1 x2 (r61 x0 x1 x2) from by unfold w61 r61; exact (cond_both (a61 x0 x1 x2) _ (fun h0 => (cond_t h0 (cond_both (a61 x0 x1 x2) _ (fun h1 => (cond_t h0 (cond_both (a61 x0 x1 x2) _ (fun h2 => (cond_t h0 (cond_both (a61 x0 x1 x2) _ (fun h3 => (cond_t h0 (cond_both (a61 x0 x1 x2) _ (fun h4 => (cond_t h0 rfl)) (fun h4 => rfl)))) (fun h3 => rfl)))) (fun h2 => rfl)))) (fun h1 => rfl)))) (fun h0 => rfl)))
noncomputable def s61 (args : List Value) (s : St) : List (Bool × Value × St) :=
 match args, s.h with
 | [.pointer (some ⟨f0, x0, some f1⟩), .int .i64 x1], [⟨true, some (.tab [.int .i64, .int .i64, .fl .f32, .fl .f32] x2)⟩] => if f0 = 0 ∧ f1 = 0 then [((Nat.beq ((r61 x0 x1 x2).1) 0), .bool ((r61 x0 x1 x2).2), ⟨[⟨true, (some (.tab sc1 x2))⟩], 1, []⟩)] else T18 61 args s
 | _, _ => T18 61 args s
noncomputable def T19 : CallF := addF T18 61 s61
set_option maxRecDepth 100000 in
set_option maxHeartbeats 4000000 in
theorem ok19 : CfOk Tryd.prog T19 := by
  refine cfOk_add ok18 fun args s r s' h1 h2 h3 => ?_
  unfold s61 at h3; split at h3
  · rename_i h; split at h3
    · rename_i hc; obtain ⟨rfl, rfl⟩ := hc; exact callOk ok18 Tryd.func61 h1 h2 h (lfOkF_no _ _).body (e61 _ _ _) rfl h3
    · exact ok18 _ _ _ _ _ h1 h2 h3
  · exact ok18 _ _ _ _ _ h1 h2 h3

/-- spec.l04Ok, loop 2: one round -/
noncomputable def w32l2 {α : Type} (ih : Int → Int → List (List Int) → List (List Int) → List (List Int) → List (List Int) → Nat) (x0 x1 : Int) (x2 x3 x4 x5 : List (List Int)) (k k2 : Nat → α) : α :=
 cond (decide ((x1 : Int) < ((x5.length : Nat) : Int)))
  (cond ((decide ((0 : Int) ≤ x1)) && (Nat.blt (Int.toNat x1) x5.length))
   (cond (Nat.beq ((r61 (Int.toNat x1) x0 x5).1) 0)
    (cond (!((r61 (Int.toNat x1) x0 x5).2))
     (k (0))
     (k2 (ih x0 (IntKind.i64.wrap (x1 + 1)) x2 x3 x4 x5)))
    (k (2)))
   (k (2)))
  (k (1))
noncomputable def b32l2 (ih : Int → Int → List (List Int) → List (List Int) → List (List Int) → List (List Int) → Nat) (x0 x1 : Int) (x2 x3 x4 x5 : List (List Int)) : Nat := w32l2 ih x0 x1 x2 x3 x4 x5 (fun p => p) (fun p => p)
noncomputable def r32l2 : Nat → Int → Int → List (List Int) → List (List Int) → List (List Int) → List (List Int) → Nat
 | 0 => fun _ _ _ _ _ _ => (2)
 | m + 1 => b32l2 (r32l2 m)
noncomputable def g32l2 (x0 x1 : Int) (x2 x3 x4 x5 : List (List Int)) (p : Nat) : List (Bool × (Fin' × List Value × St)) := [((Nat.beq p 0), .ret, [.bool false], ⟨[⟨true, (some (.cells [wsl 1, wsl 2, wsl 3, wsl 4]))⟩, ⟨true, (some (.tab [.fl .f32] x2))⟩, ⟨true, (some (.tab [.fl .f32] x3))⟩, ⟨true, (some (.tab sc0 x4))⟩, ⟨true, (some (.tab sc1 x5))⟩], 5, []⟩), ((Nat.beq p 1), .exit 4, [anyV], ⟨[⟨true, (some (.cells [wsl 1, wsl 2, wsl 3, wsl 4]))⟩, ⟨true, (some (.tab [.fl .f32] x2))⟩, ⟨true, (some (.tab [.fl .f32] x3))⟩, ⟨true, (some (.tab sc0 x4))⟩, ⟨true, (some (.tab sc1 x5))⟩], 5, []⟩)]
noncomputable def a32l2 (x0 x1 : Int) (x2 x3 x4 x5 : List (List Int)) (p : Nat) : Option (Fin' × List Value × St) := firstT ((g32l2 x0 x1 x2 x3 x4 x5 p).map fun (b, x) => (b, (x.1, frameOf 105 [2] x.2.1, x.2.2)))
noncomputable def u32l2 (x0 x1 : Int) (x2 x3 x4 x5 : List (List Int)) (p : Nat) : Option (Fin' × List Value × St) := alts ((g32l2 x0 x1 x2 x3 x4 x5 p).map fun (b, x) => (b, (x.1, frameOf 105 [2] x.2.1, x.2.2))) some
theorem v32l2 (x0 x1 : Int) (x2 x3 x4 x5 : List (List Int)) (p : Nat) : u32l2 x0 x1 x2 x3 x4 x5 p = a32l2 x0 x1 x2 x3 x4 x5 p := alts_first _
noncomputable def q32l2 (m : Nat) : SumK := fun vals s =>
 match vals, s.h with
 | [.pointer (some ⟨f0, f1, some f2⟩), .int .i64 x0, .int .i64 x1], [⟨true, some (.cells [.iface f3 .nilIface, .iface f4 .nilIface, .iface f5 .nilIface, .iface f6 .nilIface])⟩, ⟨true, some (.tab [.fl .f32] x2)⟩, ⟨true, some (.tab [.fl .f32] x3)⟩, ⟨true, some (.tab [.int .i64, .int .i64, .fl .f32, .fl .f32, .fl .f32, .fl .f32, .fl .f32, .fl .f32] x4)⟩, ⟨true, some (.tab [.int .i64, .int .i64, .fl .f32, .fl .f32] x5)⟩] => if f0 = 0 ∧ f1 = 0 ∧ f2 = 0 ∧ f3 = 1 ∧ f4 = 2 ∧ f5 = 3 ∧ f6 = 4 then (g32l2 x0 x1 x2 x3 x4 x5 (r32l2 m x0 x1 x2 x3 x4 x5)) else noQ vals s
 | _, _ => noQ vals s
theorem p32l2 {α : Type} (ih : Int → Int → List (List Int) → List (List Int) → List (List Int) → List (List Int) → Nat) (x0 x1 : Int) (x2 x3 x4 x5 : List (List Int)) (f : Nat → α) (u : Nat → α) (h : ∀ p, u p = f p) : w32l2 ih x0 x1 x2 x3 x4 x5 f u = f (w32l2 ih x0 x1 x2 x3 x4 x5 (fun p => p) (fun p => p)) := by unfold w32l2; repeat' (first | refine cond_app f _ ?_ ?_ | rfl | exact h _)
set_option maxRecDepth 100000 in
set_option maxHeartbeats 4000000 in
theorem e32l2 (m : Nat) (x0 x1 : Int) (x2 x3 x4 x5 : List (List Int)) : evC Tryd.prog ext T19 L32_2 200 (loopN Tryd.f32 2) (loopTail ([0, 3, 6], []) [2] [] (sumK 105 [0, 3, 6] [2] (q32l2 m))) (frameOf 105 [0, 3, 6] [vp 0, vi x0, vi x1]) ⟨[⟨true, (some (.cells [wsl 1, wsl 2, wsl 3, wsl 4]))⟩, ⟨true, (some (.tab [.fl .f32] x2))⟩, ⟨true, (some (.tab [.fl .f32] x3))⟩, ⟨true, (some (.tab sc0 x4))⟩, ⟨true, (some (.tab sc1 x5))⟩], 5, []⟩ = firstT ((g32l2 x0 x1 x2 x3 x4 x5 (r32l2 (m + 1) x0 x1 x2 x3 x4 x5)).map fun (b, x) => (b, (x.1, frameOf 105 [2] x.2.1, x.2.2))) :=
 Eq.trans (by kernel_rfl) (p32l2 (r32l2 m) x0 x1 x2 x3 x4 x5 (a32l2 x0 x1 x2 x3 x4 x5) (u32l2 x0 x1 x2 x3 x4 x5) (v32l2 x0 x1 x2 x3 x4 x5))
set_option maxRecDepth 100000 in
set_option maxHeartbeats 4000000 in
theorem qm32l2 : ∀ m, SumKOk Tryd.prog (loopN Tryd.f32 2) 105 [0, 3, 6] [2] (q32l2 m) := by
  intro m
  induction m with
  | zero =>
    intro vals s x h1 h2 h3
    unfold q32l2 at h3; split at h3
    · rename_i h; split at h3
      · rename_i hc; obtain ⟨rfl, rfl, rfl, rfl, rfl, rfl, rfl⟩ := hc; exact absurd h3 (by simp [r32l2, g32l2, firstT, Nat.beq])
      · exact noQ_ok _ _ _ h1 h2 h3
    · exact noQ_ok _ _ _ h1 h2 h3
  | succ m ih =>
    intro vals s x h1 h2 h3
    unfold q32l2 at h3; split at h3
    · rename_i h; split at h3
      · rename_i hc; obtain ⟨rfl, rfl, rfl, rfl, rfl, rfl, rfl⟩ := hc; exact sum_step ok19 extOk mixed (lok32_2.inner (by kernel_rfl)) ih h1 h2 h (e32l2 m _ _ _ _ _ _) rfl h3
      · exact noQ_ok _ _ _ h1 h2 h3
    · exact noQ_ok _ _ _ h1 h2 h3
noncomputable def Q32l2 : SumK := fun vals s => q32l2 (fuelOf vals s.h) vals s
theorem qok32l2 : SumKOk Tryd.prog (loopN Tryd.f32 2) 105 [0, 3, 6] [2] Q32l2 := fuel_ok qm32l2 fuelOf
noncomputable def L32_3 : LoopT := addL L32_2 16 ([0, 3, 6], []) (sumK 105 [0, 3, 6] [2] Q32l2)
theorem lok32_3 : LfOkF Tryd.prog L32_3 Tryd.f32 := lfOkF_add lok32_2 qok32l2 (by kernel_rfl) (by kernel_rfl) (by kernel_rfl)

/-- spec.l04Ok -/
noncomputable def w32 {α : Type} (x0 x1 x2 x3 : List (List Int)) (k : (Nat × Bool) → α) : α :=
 let c71 := (r32l0 (1000 + x3.length + x2.length + x1.length + x0.length) ((x0.length : Nat) : Int) 0 x0 x1 x2 x3)
 let c178 := (r32l1 (1000 + x3.length + x2.length + x1.length + x0.length) ((x0.length : Nat) : Int) 0 x0 x1 x2 x3)
 let c194 := (r32l2 (1000 + x3.length + x2.length + x1.length + x0.length) ((x0.length : Nat) : Int) 0 x0 x1 x2 x3)
 cond (!(r44 ((x0.length : Nat) : Int) 1 5))
  (k (0, false))
  (cond ((((x1.length : Nat) : Int) : Int) != ((x0.length : Nat) : Int))
   (k (0, false))
   (cond (decide ((((x2.length : Nat) : Int) : Int) > 10))
    (k (0, false))
    (cond (decide ((((x3.length : Nat) : Int) : Int) > 8))
     (k (0, false))
     (cond (Nat.beq c71 0)
      (k (0, false))
      (cond (Nat.beq c71 1)
       (cond (Nat.beq c178 0)
        (k (0, false))
        (cond (Nat.beq c178 1)
         (cond (Nat.beq c194 0)
          (k (0, false))
          (cond (Nat.beq c194 1)
           (k (0, true))
           (k (1, false))))
         (k (1, false))))
       (k (1, false)))))))
noncomputable def r32 (x0 x1 x2 x3 : List (List Int)) : Nat × Bool := w32 x0 x1 x2 x3 (fun p => p)
noncomputable def g32 (x0 x1 x2 x3 : List (List Int)) (p : Nat × Bool) : List (Bool × Value × St) := [((Nat.beq (p.1) 0), .bool (p.2), ⟨[⟨true, (some (.cells [wsl 1, wsl 2, wsl 3, wsl 4]))⟩, ⟨true, (some (.tab [.fl .f32] x0))⟩, ⟨true, (some (.tab [.fl .f32] x1))⟩, ⟨true, (some (.tab sc0 x2))⟩, ⟨true, (some (.tab sc1 x3))⟩], 5, []⟩)]
theorem p32 {α : Type} (x0 x1 x2 x3 : List (List Int)) (f : (Nat × Bool) → α) : w32 x0 x1 x2 x3 f = f (w32 x0 x1 x2 x3 (fun p => p)) := by unfold w32; repeat' (first | refine cond_app f _ ?_ ?_ | rfl)
set_option maxRecDepth 100000 in
set_option maxHeartbeats 4000000 in
theorem e32 (x0 x1 x2 x3 : List (List Int)) : evFn Tryd.prog ext T19 L32_3 200 Tryd.f32 [vp 0] ⟨[⟨true, (some (.cells [wsl 1, wsl 2, wsl 3, wsl 4]))⟩, ⟨true, (some (.tab [.fl .f32] x0))⟩, ⟨true, (some (.tab [.fl .f32] x1))⟩, ⟨true, (some (.tab sc0 x2))⟩, ⟨true, (some (.tab sc1 x3))⟩], 5, []⟩ = firstT (g32 x0 x1 x2 x3 (r32 x0 x1 x2 x3)) :=
 Eq.trans (by kernel_rfl) (p32 x0 x1 x2 x3 (fun p => firstT (g32 x0 x1 x2 x3 p)))
noncomputable def s32 (args : List Value) (s : St) : List (Bool × Value × St) :=
 match args, s.h with
 | [.pointer (some ⟨f0, f1, some f2⟩)], [⟨true, some (.cells [.iface f3 .nilIface, .iface f4 .nilIface, .iface f5 .nilIface, .iface f6 .nilIface])⟩, ⟨true, some (.tab [.fl .f32] x0)⟩, ⟨true, some (.tab [.fl .f32] x1)⟩, ⟨true, some (.tab [.int .i64, .int .i64, .fl .f32, .fl .f32, .fl .f32, .fl .f32, .fl .f32, .fl .f32] x2)⟩, ⟨true, some (.tab [.int .i64, .int .i64, .fl .f32, .fl .f32] x3)⟩] => if f0 = 0 ∧ f1 = 0 ∧ f2 = 0 ∧ f3 = 1 ∧ f4 = 2 ∧ f5 = 3 ∧ f6 = 4 then (g32 x0 x1 x2 x3 (r32 x0 x1 x2 x3)) else T19 32 args s
 | _, _ => T19 32 args s
noncomputable def T20 : CallF := addF T19 32 s32
set_option maxRecDepth 100000 in
set_option maxHeartbeats 4000000 in
theorem ok20 : CfOk Tryd.prog T20 := by
  refine cfOk_add ok19 fun args s r s' h1 h2 h3 => ?_
  unfold s32 at h3; split at h3
  · rename_i h; split at h3
    · rename_i hc; obtain ⟨rfl, rfl, rfl, rfl, rfl, rfl, rfl⟩ := hc; exact callOk ok19 Tryd.func32 h1 h2 h lok32_3.body (e32 _ _ _ _) rfl h3
    · exact ok19 _ _ _ _ _ h1 h2 h3
  · exact ok19 _ _ _ _ _ h1 h2 h3

/-- spec.l01Bits -/
noncomputable def r47 (x0 : Nat) : Int :=
 cond (!feq .f32 x0 x0)
  (2143289344)
  (((x0 : Nat) : Int))
noncomputable def a47 (x0 : Nat) (p : Int) : Res := firstT [(true, .int .u32 p, st0)]
noncomputable def w47 (x0 : Nat) : Res :=
 (cond (!feq .f32 x0 x0)
 (a47 x0 (2143289344))
 (cond (!isN .f32 x0)
  (a47 x0 (((x0 : Nat) : Int)))
  (some (nanBits .f32, st0))))
set_option maxRecDepth 100000 in
set_option maxHeartbeats 4000000 in
theorem e47 (x0 : Nat) : evFn Tryd.prog ext T20 noL 200 Tryd.f47 [vf x0] st0 = firstT [(true, .int .u32 (r47 x0), st0)] :=
 (show evFn Tryd.prog ext T20 noL 200 Tryd.f47 [vf x0] st0 = w47 x0 from by kernel_rfl).trans
 (show w47 x0 = a47 x0 (r47 x0) from by unfold w47 r47; exact (cond_both (a47 x0) _ (fun h0 => rfl) (fun h0 => (cond_t (ev_not1 (ev_eq1 (ev_notf h0))) rfl))))
noncomputable def s47 (args : List Value) (s : St) : List (Bool × Value × St) :=
 match args, s.h with
 | [.float .f32 x0], [] => [(true, .int .u32 (r47 x0), st0)]
 | _, _ => T20 47 args s
noncomputable def T21 : CallF := addF T20 47 s47
set_option maxRecDepth 100000 in
set_option maxHeartbeats 4000000 in
theorem ok21 : CfOk Tryd.prog T21 := by
  refine cfOk_add ok20 fun args s r s' h1 h2 h3 => ?_
  unfold s47 at h3; split at h3
  · rename_i h; exact callOk ok20 Tryd.func47 h1 h2 h (lfOkF_no _ _).body (e47 _) rfl h3
  · exact ok20 _ _ _ _ _ h1 h2 h3

/-- spec.l01Hex -/
noncomputable def w19 {α : Type} (x0 : Nat) (k : (Nat × ByteArray) → α) : α :=
 cond ((decide ((0 : Int) ≤ (Int.tmod (r47 x0) 16))) && (Nat.blt (Int.toNat (Int.tmod (r47 x0) 16)) 16))
  (cond ((decide ((0 : Int) ≤ (Int.tmod (IntKind.u32.wrap (Int.tdiv (r47 x0) 16)) 16))) && (Nat.blt (Int.toNat (Int.tmod (IntKind.u32.wrap (Int.tdiv (r47 x0) 16)) 16)) 16))
   (cond ((decide ((0 : Int) ≤ (Int.tmod (IntKind.u32.wrap (Int.tdiv (IntKind.u32.wrap (Int.tdiv (r47 x0) 16)) 16)) 16))) && (Nat.blt (Int.toNat (Int.tmod (IntKind.u32.wrap (Int.tdiv (IntKind.u32.wrap (Int.tdiv (r47 x0) 16)) 16)) 16)) 16))
    (cond ((decide ((0 : Int) ≤ (Int.tmod (IntKind.u32.wrap (Int.tdiv (IntKind.u32.wrap (Int.tdiv (IntKind.u32.wrap (Int.tdiv (r47 x0) 16)) 16)) 16)) 16))) && (Nat.blt (Int.toNat (Int.tmod (IntKind.u32.wrap (Int.tdiv (IntKind.u32.wrap (Int.tdiv (IntKind.u32.wrap (Int.tdiv (r47 x0) 16)) 16)) 16)) 16)) 16))
     (cond ((decide ((0 : Int) ≤ (Int.tmod (IntKind.u32.wrap (Int.tdiv (IntKind.u32.wrap (Int.tdiv (IntKind.u32.wrap (Int.tdiv (IntKind.u32.wrap (Int.tdiv (r47 x0) 16)) 16)) 16)) 16)) 16))) && (Nat.blt (Int.toNat (Int.tmod (IntKind.u32.wrap (Int.tdiv (IntKind.u32.wrap (Int.tdiv (IntKind.u32.wrap (Int.tdiv (IntKind.u32.wrap (Int.tdiv (r47 x0) 16)) 16)) 16)) 16)) 16)) 16))
      (cond ((decide ((0 : Int) ≤ (Int.tmod (IntKind.u32.wrap (Int.tdiv (IntKind.u32.wrap (Int.tdiv (IntKind.u32.wrap (Int.tdiv (IntKind.u32.wrap (Int.tdiv (IntKind.u32.wrap (Int.tdiv (r47 x0) 16)) 16)) 16)) 16)) 16)) 16))) && (Nat.blt (Int.toNat (Int.tmod (IntKind.u32.wrap (Int.tdiv (IntKind.u32.wrap (Int.tdiv (IntKind.u32.wrap (Int.tdiv (IntKind.u32.wrap (Int.tdiv (IntKind.u32.wrap (Int.tdiv (r47 x0) 16)) 16)) 16)) 16)) 16)) 16)) 16))
       (cond ((decide ((0 : Int) ≤ (Int.tmod (IntKind.u32.wrap (Int.tdiv (IntKind.u32.wrap (Int.tdiv (IntKind.u32.wrap (Int.tdiv (IntKind.u32.wrap (Int.tdiv (IntKind.u32.wrap (Int.tdiv (IntKind.u32.wrap (Int.tdiv (r47 x0) 16)) 16)) 16)) 16)) 16)) 16)) 16))) && (Nat.blt (Int.toNat (Int.tmod (IntKind.u32.wrap (Int.tdiv (IntKind.u32.wrap (Int.tdiv (IntKind.u32.wrap (Int.tdiv (IntKind.u32.wrap (Int.tdiv (IntKind.u32.wrap (Int.tdiv (IntKind.u32.wrap (Int.tdiv (r47 x0) 16)) 16)) 16)) 16)) 16)) 16)) 16)) 16))
        (cond ((decide ((0 : Int) ≤ (Int.tmod (IntKind.u32.wrap (Int.tdiv (IntKind.u32.wrap (Int.tdiv (IntKind.u32.wrap (Int.tdiv (IntKind.u32.wrap (Int.tdiv (IntKind.u32.wrap (Int.tdiv (IntKind.u32.wrap (Int.tdiv (IntKind.u32.wrap (Int.tdiv (r47 x0) 16)) 16)) 16)) 16)) 16)) 16)) 16)) 16))) && (Nat.blt (Int.toNat (Int.tmod (IntKind.u32.wrap (Int.tdiv (IntKind.u32.wrap (Int.tdiv (IntKind.u32.wrap (Int.tdiv (IntKind.u32.wrap (Int.tdiv (IntKind.u32.wrap (Int.tdiv (IntKind.u32.wrap (Int.tdiv (IntKind.u32.wrap (Int.tdiv (r47 x0) 16)) 16)) 16)) 16)) 16)) 16)) 16)) 16)) 16))
         (k (0, (bytesOf ([[((UInt8.toNat (List.getD (ByteArray.data (ByteArray.mk #[48, 49, 50, 51, 52, 53, 54, 55, 56, 57, 97, 98, 99, 100, 101, 102])).toList (Int.toNat (Int.tmod (IntKind.u32.wrap (Int.tdiv (IntKind.u32.wrap (Int.tdiv (IntKind.u32.wrap (Int.tdiv (IntKind.u32.wrap (Int.tdiv (IntKind.u32.wrap (Int.tdiv (IntKind.u32.wrap (Int.tdiv (IntKind.u32.wrap (Int.tdiv (r47 x0) 16)) 16)) 16)) 16)) 16)) 16)) 16)) 16)) 0) : Nat) : Int)], [((UInt8.toNat (List.getD (ByteArray.data (ByteArray.mk #[48, 49, 50, 51, 52, 53, 54, 55, 56, 57, 97, 98, 99, 100, 101, 102])).toList (Int.toNat (Int.tmod (IntKind.u32.wrap (Int.tdiv (IntKind.u32.wrap (Int.tdiv (IntKind.u32.wrap (Int.tdiv (IntKind.u32.wrap (Int.tdiv (IntKind.u32.wrap (Int.tdiv (IntKind.u32.wrap (Int.tdiv (r47 x0) 16)) 16)) 16)) 16)) 16)) 16)) 16)) 0) : Nat) : Int)], [((UInt8.toNat (List.getD (ByteArray.data (ByteArray.mk #[48, 49, 50, 51, 52, 53, 54, 55, 56, 57, 97, 98, 99, 100, 101, 102])).toList (Int.toNat (Int.tmod (IntKind.u32.wrap (Int.tdiv (IntKind.u32.wrap (Int.tdiv (IntKind.u32.wrap (Int.tdiv (IntKind.u32.wrap (Int.tdiv (IntKind.u32.wrap (Int.tdiv (r47 x0) 16)) 16)) 16)) 16)) 16)) 16)) 0) : Nat) : Int)], [((UInt8.toNat (List.getD (ByteArray.data (ByteArray.mk #[48, 49, 50, 51, 52, 53, 54, 55, 56, 57, 97, 98, 99, 100, 101, 102])).toList (Int.toNat (Int.tmod (IntKind.u32.wrap (Int.tdiv (IntKind.u32.wrap (Int.tdiv (IntKind.u32.wrap (Int.tdiv (IntKind.u32.wrap (Int.tdiv (r47 x0) 16)) 16)) 16)) 16)) 16)) 0) : Nat) : Int)], [((UInt8.toNat (List.getD (ByteArray.data (ByteArray.mk #[48, 49, 50, 51, 52, 53, 54, 55, 56, 57, 97, 98, 99, 100, 101, 102])).toList (Int.toNat (Int.tmod (IntKind.u32.wrap (Int.tdiv (IntKind.u32.wrap (Int.tdiv (IntKind.u32.wrap (Int.tdiv (r47 x0) 16)) 16)) 16)) 16)) 0) : Nat) : Int)], [((UInt8.toNat (List.getD (ByteArray.data (ByteArray.mk #[48, 49, 50, 51, 52, 53, 54, 55, 56, 57, 97, 98, 99, 100, 101, 102])).toList (Int.toNat (Int.tmod (IntKind.u32.wrap (Int.tdiv (IntKind.u32.wrap (Int.tdiv (r47 x0) 16)) 16)) 16)) 0) : Nat) : Int)], [((UInt8.toNat (List.getD (ByteArray.data (ByteArray.mk #[48, 49, 50, 51, 52, 53, 54, 55, 56, 57, 97, 98, 99, 100, 101, 102])).toList (Int.toNat (Int.tmod (IntKind.u32.wrap (Int.tdiv (r47 x0) 16)) 16)) 0) : Nat) : Int)], [((UInt8.toNat (List.getD (ByteArray.data (ByteArray.mk #[48, 49, 50, 51, 52, 53, 54, 55, 56, 57, 97, 98, 99, 100, 101, 102])).toList (Int.toNat (Int.tmod (r47 x0) 16)) 0) : Nat) : Int)]] : List (List Int)))))
         (k (1, ByteArray.empty)))
        (k (1, ByteArray.empty)))
       (k (1, ByteArray.empty)))
      (k (1, ByteArray.empty)))
     (k (1, ByteArray.empty)))
    (k (1, ByteArray.empty)))
   (k (1, ByteArray.empty)))
  (k (1, ByteArray.empty))
noncomputable def r19 (x0 : Nat) : Nat × ByteArray := w19 x0 (fun p => p)
noncomputable def g19 (x0 : Nat) (p : Nat × ByteArray) : List (Bool × Value × St) := [((Nat.beq (p.1) 0), .string (p.2), st0)]
theorem p19 {α : Type} (x0 : Nat) (f : (Nat × ByteArray) → α) : w19 x0 f = f (w19 x0 (fun p => p)) := by unfold w19; repeat' (first | refine cond_app f _ ?_ ?_ | rfl)
set_option maxRecDepth 100000 in
set_option maxHeartbeats 4000000 in
theorem e19 (x0 : Nat) : evFn Tryd.prog ext T21 noL 200 Tryd.f19 [vf x0] st0 = firstT (g19 x0 (r19 x0)) :=
 Eq.trans (by kernel_rfl) (p19 x0 (fun p => firstT (g19 x0 p)))
noncomputable def s19 (args : List Value) (s : St) : List (Bool × Value × St) :=
 match args, s.h with
 | [.float .f32 x0], [] => (g19 x0 (r19 x0))
 | _, _ => T21 19 args s
noncomputable def T22 : CallF := addF T21 19 s19
set_option maxRecDepth 100000 in
set_option maxHeartbeats 4000000 in
theorem ok22 : CfOk Tryd.prog T22 := by
  refine cfOk_add ok21 fun args s r s' h1 h2 h3 => ?_
  unfold s19 at h3; split at h3
  · rename_i h; exact callOk ok21 Tryd.func19 h1 h2 h (lfOkF_no _ _).body (e19 _) rfl h3
  · exact ok21 _ _ _ _ _ h1 h2 h3

/-- spec.l04Text, loop 0: one round -/
noncomputable def b33l0 (ih : ByteArray → Int → List (List Int) → List (List Int) → List (List Int) → List (List Int) → (Nat × ByteArray)) (x0 : ByteArray) (x1 : Int) (x2 x3 x4 x5 : List (List Int)) : Nat × ByteArray :=
 let c227 := (r19 (Int.toNat ((x2.getD (Int.toNat x1) []).getD 0 0)))
 let c228 := (r19 (Int.toNat ((x3.getD (Int.toNat x1) []).getD 0 0)))
 cond (decide ((x1 : Int) < ((x2.length : Nat) : Int)))
  (cond ((decide ((0 : Int) ≤ x1)) && (Nat.blt (Int.toNat x1) x2.length))
   (cond (Nat.beq (c227.1) 0)
    (cond (decide (5 + (c227.2).size ≤ strMax))
     (cond (decide (((ByteArray.mk #[114, 111, 111, 109, 32]) ++ (c227.2)).size + 1 ≤ strMax))
      (cond ((decide ((0 : Int) ≤ x1)) && (Nat.blt (Int.toNat x1) x3.length))
       (cond (Nat.beq (c228.1) 0)
        (cond (decide ((((ByteArray.mk #[114, 111, 111, 109, 32]) ++ (c227.2)) ++ (ByteArray.mk #[32])).size + (c228.2).size ≤ strMax))
         (cond (decide (((((ByteArray.mk #[114, 111, 111, 109, 32]) ++ (c227.2)) ++ (ByteArray.mk #[32])) ++ (c228.2)).size + 1 ≤ strMax))
          (cond (decide (x0.size + (((((ByteArray.mk #[114, 111, 111, 109, 32]) ++ (c227.2)) ++ (ByteArray.mk #[32])) ++ (c228.2)) ++ (ByteArray.mk #[10])).size ≤ strMax))
           (ih (x0 ++ (((((ByteArray.mk #[114, 111, 111, 109, 32]) ++ (c227.2)) ++ (ByteArray.mk #[32])) ++ (c228.2)) ++ (ByteArray.mk #[10]))) (IntKind.i64.wrap (x1 + 1)) x2 x3 x4 x5)
           (1, ByteArray.empty))
          (1, ByteArray.empty))
         (1, ByteArray.empty))
        (1, ByteArray.empty))
       (1, ByteArray.empty))
      (1, ByteArray.empty))
     (1, ByteArray.empty))
    (1, ByteArray.empty))
   (1, ByteArray.empty))
  (0, x0)
noncomputable def r33l0 : Nat → ByteArray → Int → List (List Int) → List (List Int) → List (List Int) → List (List Int) → (Nat × ByteArray)
 | 0 => fun _ _ _ _ _ _ => (1, ByteArray.empty)
 | m + 1 => b33l0 (r33l0 m)
noncomputable def a33l0 (x0 : ByteArray) (x1 : Int) (x2 x3 x4 x5 : List (List Int)) (p : Nat × ByteArray) : Option (Fin' × List Value × St) := firstT ([((Nat.beq (p.1) 0), .exit 0, [vp 0, .string (p.2)], ⟨[⟨true, (some (.cells [wsl 1, wsl 2, wsl 3, wsl 4]))⟩, ⟨true, (some (.tab [.fl .f32] x2))⟩, ⟨true, (some (.tab [.fl .f32] x3))⟩, ⟨true, (some (.tab sc0 x4))⟩, ⟨true, (some (.tab sc1 x5))⟩], 5, []⟩)].map fun (b, x) => (b, (x.1, frameOf 147 [0, 3] x.2.1, x.2.2)))
noncomputable def u33l0 (x0 : ByteArray) (x1 : Int) (x2 x3 x4 x5 : List (List Int)) (p : Nat × ByteArray) : Option (Fin' × List Value × St) := alts ([((Nat.beq (p.1) 0), .exit 0, [vp 0, .string (p.2)], ⟨[⟨true, (some (.cells [wsl 1, wsl 2, wsl 3, wsl 4]))⟩, ⟨true, (some (.tab [.fl .f32] x2))⟩, ⟨true, (some (.tab [.fl .f32] x3))⟩, ⟨true, (some (.tab sc0 x4))⟩, ⟨true, (some (.tab sc1 x5))⟩], 5, []⟩)].map fun (b, x) => (b, (x.1, frameOf 147 [0, 3] x.2.1, x.2.2))) some
theorem v33l0 (x0 : ByteArray) (x1 : Int) (x2 x3 x4 x5 : List (List Int)) (p : Nat × ByteArray) : u33l0 x0 x1 x2 x3 x4 x5 p = a33l0 x0 x1 x2 x3 x4 x5 p := alts_first _
noncomputable def q33l0 (m : Nat) : SumK := fun vals s =>
 match vals, s.h with
 | [.pointer (some ⟨f0, f1, some f2⟩), .string x0, .int .i64 x1], [⟨true, some (.cells [.iface f3 .nilIface, .iface f4 .nilIface, .iface f5 .nilIface, .iface f6 .nilIface])⟩, ⟨true, some (.tab [.fl .f32] x2)⟩, ⟨true, some (.tab [.fl .f32] x3)⟩, ⟨true, some (.tab [.int .i64, .int .i64, .fl .f32, .fl .f32, .fl .f32, .fl .f32, .fl .f32, .fl .f32] x4)⟩, ⟨true, some (.tab [.int .i64, .int .i64, .fl .f32, .fl .f32] x5)⟩] => if f0 = 0 ∧ f1 = 0 ∧ f2 = 0 ∧ f3 = 1 ∧ f4 = 2 ∧ f5 = 3 ∧ f6 = 4 then [((Nat.beq ((r33l0 m x0 x1 x2 x3 x4 x5).1) 0), .exit 0, [vp 0, .string ((r33l0 m x0 x1 x2 x3 x4 x5).2)], ⟨[⟨true, (some (.cells [wsl 1, wsl 2, wsl 3, wsl 4]))⟩, ⟨true, (some (.tab [.fl .f32] x2))⟩, ⟨true, (some (.tab [.fl .f32] x3))⟩, ⟨true, (some (.tab sc0 x4))⟩, ⟨true, (some (.tab sc1 x5))⟩], 5, []⟩)] else noQ vals s
 | _, _ => noQ vals s
noncomputable def w33l0 (ih : ByteArray → Int → List (List Int) → List (List Int) → List (List Int) → List (List Int) → (Nat × ByteArray)) (x0 : ByteArray) (x1 : Int) (x2 x3 x4 x5 : List (List Int)) : Option (Fin' × List Value × St) :=
 let c227 := (r19 (Int.toNat ((x2.getD (Int.toNat x1) []).getD 0 0)))
 let c228 := (r19 (Int.toNat ((x3.getD (Int.toNat x1) []).getD 0 0)))
 (cond (decide ((x1 : Int) < ((x2.length : Nat) : Int)))
 (cond ((decide ((0 : Int) ≤ x1)) && (Nat.blt (Int.toNat x1) x2.length))
  (cond (Nat.blt (Int.toNat x1) x2.length)
   (cond (Nat.beq (c227.1) 0)
    (cond (decide (5 + (c227.2).size ≤ strMax))
     (cond (decide (((ByteArray.mk #[114, 111, 111, 109, 32]) ++ (c227.2)).size + 1 ≤ strMax))
      (cond ((decide ((0 : Int) ≤ x1)) && (Nat.blt (Int.toNat x1) x3.length))
       (cond (Nat.blt (Int.toNat x1) x3.length)
        (cond (Nat.beq (c228.1) 0)
         (cond (decide ((((ByteArray.mk #[114, 111, 111, 109, 32]) ++ (c227.2)) ++ (ByteArray.mk #[32])).size + (c228.2).size ≤ strMax))
          (cond (decide (((((ByteArray.mk #[114, 111, 111, 109, 32]) ++ (c227.2)) ++ (ByteArray.mk #[32])) ++ (c228.2)).size + 1 ≤ strMax))
           (cond (decide (x0.size + (((((ByteArray.mk #[114, 111, 111, 109, 32]) ++ (c227.2)) ++ (ByteArray.mk #[32])) ++ (c228.2)) ++ (ByteArray.mk #[10])).size ≤ strMax))
            (u33l0 x0 x1 x2 x3 x4 x5 (ih (x0 ++ (((((ByteArray.mk #[114, 111, 111, 109, 32]) ++ (c227.2)) ++ (ByteArray.mk #[32])) ++ (c228.2)) ++ (ByteArray.mk #[10]))) (IntKind.i64.wrap (x1 + 1)) x2 x3 x4 x5))
            none)
           none)
          none)
         none)
        none)
       none)
      none)
     none)
    none)
   none)
  none)
 (a33l0 x0 x1 x2 x3 x4 x5 (0, x0)))
set_option maxRecDepth 100000 in
set_option maxHeartbeats 4000000 in
theorem e33l0 (m : Nat) (x0 : ByteArray) (x1 : Int) (x2 x3 x4 x5 : List (List Int)) : evC Tryd.prog ext T22 noL 200 (loopN Tryd.f33 0) (loopTail ([0, 3, 4], []) [0, 3] [] (sumK 147 [0, 3, 4] [0, 3] (q33l0 m))) (frameOf 147 [0, 3, 4] [vp 0, .string x0, vi x1]) ⟨[⟨true, (some (.cells [wsl 1, wsl 2, wsl 3, wsl 4]))⟩, ⟨true, (some (.tab [.fl .f32] x2))⟩, ⟨true, (some (.tab [.fl .f32] x3))⟩, ⟨true, (some (.tab sc0 x4))⟩, ⟨true, (some (.tab sc1 x5))⟩], 5, []⟩ = firstT ([((Nat.beq ((r33l0 (m + 1) x0 x1 x2 x3 x4 x5).1) 0), .exit 0, [vp 0, .string ((r33l0 (m + 1) x0 x1 x2 x3 x4 x5).2)], ⟨[⟨true, (some (.cells [wsl 1, wsl 2, wsl 3, wsl 4]))⟩, ⟨true, (some (.tab [.fl .f32] x2))⟩, ⟨true, (some (.tab [.fl .f32] x3))⟩, ⟨true, (some (.tab sc0 x4))⟩, ⟨true, (some (.tab sc1 x5))⟩], 5, []⟩)].map fun (b, x) => (b, (x.1, frameOf 147 [0, 3] x.2.1, x.2.2))) :=
 (show evC Tryd.prog ext T22 noL 200 (loopN Tryd.f33 0) (loopTail ([0, 3, 4], []) [0, 3] [] (sumK 147 [0, 3, 4] [0, 3] (q33l0 m))) (frameOf 147 [0, 3, 4] [vp 0, .string x0, vi x1]) ⟨[⟨true, (some (.cells [wsl 1, wsl 2, wsl 3, wsl 4]))⟩, ⟨true, (some (.tab [.fl .f32] x2))⟩, ⟨true, (some (.tab [.fl .f32] x3))⟩, ⟨true, (some (.tab sc0 x4))⟩, ⟨true, (some (.tab sc1 x5))⟩], 5, []⟩ = w33l0 (r33l0 m) x0 x1 x2 x3 x4 x5 from by kernel_rfl).trans
 (show w33l0 (r33l0 m) x0 x1 x2 x3 x4 x5 = a33l0 x0 x1 x2 x3 x4 x5 (r33l0 (m + 1) x0 x1 x2 x3 x4 x5) from by unfold w33l0; show _ = a33l0 x0 x1 x2 x3 x4 x5 (b33l0 (r33l0 m) x0 x1 x2 x3 x4 x5); unfold b33l0; exact (cond_both (a33l0 x0 x1 x2 x3 x4 x5) _ (fun h0 => (cond_both (a33l0 x0 x1 x2 x3 x4 x5) _ (fun h1 => (cond_t (ev_and2 h1) (cond_both (a33l0 x0 x1 x2 x3 x4 x5) _ (fun h2 => (cond_both (a33l0 x0 x1 x2 x3 x4 x5) _ (fun h3 => (cond_both (a33l0 x0 x1 x2 x3 x4 x5) _ (fun h4 => (cond_both (a33l0 x0 x1 x2 x3 x4 x5) _ (fun h5 => (cond_t (ev_and2 h5) (cond_app (a33l0 x0 x1 x2 x3 x4 x5) _ (cond_app (a33l0 x0 x1 x2 x3 x4 x5) _ (cond_app (a33l0 x0 x1 x2 x3 x4 x5) _ (cond_app (a33l0 x0 x1 x2 x3 x4 x5) _ (v33l0 x0 x1 x2 x3 x4 x5 ((r33l0 m) (x0 ++ (((((ByteArray.mk #[114, 111, 111, 109, 32]) ++ ((r19 (Int.toNat ((x2.getD (Int.toNat x1) []).getD 0 0))).2)) ++ (ByteArray.mk #[32])) ++ ((r19 (Int.toNat ((x3.getD (Int.toNat x1) []).getD 0 0))).2)) ++ (ByteArray.mk #[10]))) (IntKind.i64.wrap (x1 + 1)) x2 x3 x4 x5)) rfl) rfl) rfl) rfl))) (fun h5 => rfl))) (fun h4 => rfl))) (fun h3 => rfl))) (fun h2 => rfl)))) (fun h1 => rfl))) (fun h0 => rfl)))
set_option maxRecDepth 100000 in
set_option maxHeartbeats 4000000 in
theorem qm33l0 : ∀ m, SumKOk Tryd.prog (loopN Tryd.f33 0) 147 [0, 3, 4] [0, 3] (q33l0 m) := by
  intro m
  induction m with
  | zero =>
    intro vals s x h1 h2 h3
    unfold q33l0 at h3; split at h3
    · rename_i h; split at h3
      · rename_i hc; obtain ⟨rfl, rfl, rfl, rfl, rfl, rfl, rfl⟩ := hc; exact absurd h3 (by simp [r33l0, firstT, Nat.beq])
      · exact noQ_ok _ _ _ h1 h2 h3
    · exact noQ_ok _ _ _ h1 h2 h3
  | succ m ih =>
    intro vals s x h1 h2 h3
    unfold q33l0 at h3; split at h3
    · rename_i h; split at h3
      · rename_i hc; obtain ⟨rfl, rfl, rfl, rfl, rfl, rfl, rfl⟩ := hc; exact sum_step ok22 extOk mixed ((lfOkF_no _ _).inner (by kernel_rfl)) ih h1 h2 h (e33l0 m _ _ _ _ _ _) rfl h3
      · exact noQ_ok _ _ _ h1 h2 h3
    · exact noQ_ok _ _ _ h1 h2 h3
noncomputable def Q33l0 : SumK := fun vals s => q33l0 (fuelOf vals s.h) vals s
theorem qok33l0 : SumKOk Tryd.prog (loopN Tryd.f33 0) 147 [0, 3, 4] [0, 3] Q33l0 := fuel_ok qm33l0 fuelOf
noncomputable def L33_1 : LoopT := addL noL 4 ([0, 3, 4], []) (sumK 147 [0, 3, 4] [0, 3] Q33l0)
theorem lok33_1 : LfOkF Tryd.prog L33_1 Tryd.f33 := lfOkF_add (lfOkF_no _ _) qok33l0 (by kernel_rfl) (by kernel_rfl) (by kernel_rfl)

/-- spec.Decimal -/
noncomputable def w20 {α : Type} (x0 : Int) (k : (Nat × ByteArray) → α) : α :=
 cond (decide ((x0 : Int) ≥ 10))
  (k (1, ByteArray.empty))
  (k (0, (bytesOf ([[(IntKind.u8.wrap (IntKind.i64.wrap (48 + x0)))]] : List (List Int)))))
noncomputable def r20 (x0 : Int) : Nat × ByteArray := w20 x0 (fun p => p)
noncomputable def g20 (x0 : Int) (p : Nat × ByteArray) : List (Bool × Value × St) := [((Nat.beq (p.1) 0), .string (p.2), st0)]
theorem p20 {α : Type} (x0 : Int) (f : (Nat × ByteArray) → α) : w20 x0 f = f (w20 x0 (fun p => p)) := by unfold w20; exact (cond_app f _ rfl rfl)
set_option maxRecDepth 100000 in
set_option maxHeartbeats 4000000 in
theorem e20 (x0 : Int) : evFn Tryd.prog ext T22 noL 200 Tryd.f20 [vi x0] st0 = firstT (g20 x0 (r20 x0)) :=
 Eq.trans (by kernel_rfl) (p20 x0 (fun p => firstT (g20 x0 p)))
noncomputable def s20 (args : List Value) (s : St) : List (Bool × Value × St) :=
 match args, s.h with
 | [.int .i64 x0], [] => (g20 x0 (r20 x0))
 | _, _ => T22 20 args s
noncomputable def T23 : CallF := addF T22 20 s20
set_option maxRecDepth 100000 in
set_option maxHeartbeats 4000000 in
theorem ok23 : CfOk Tryd.prog T23 := by
  refine cfOk_add ok22 fun args s r s' h1 h2 h3 => ?_
  unfold s20 at h3; split at h3
  · rename_i h; exact callOk ok22 Tryd.func20 h1 h2 h (lfOkF_no _ _).body (e20 _) rfl h3
  · exact ok22 _ _ _ _ _ h1 h2 h3

/-- spec.l04Side -/
noncomputable def w62 {α : Type} (x0 : Int) (k : (Nat × ByteArray) → α) : α :=
 cond (decide ((x0 : Int) < 0))
  (k (0, (ByteArray.mk #[45])))
  (cond (Nat.beq ((r20 x0).1) 0)
   (k (0, ((r20 x0).2)))
   (k (1, ByteArray.empty)))
noncomputable def r62 (x0 : Int) : Nat × ByteArray := w62 x0 (fun p => p)
noncomputable def g62 (x0 : Int) (p : Nat × ByteArray) : List (Bool × Value × St) := [((Nat.beq (p.1) 0), .string (p.2), st0)]
theorem p62 {α : Type} (x0 : Int) (f : (Nat × ByteArray) → α) : w62 x0 f = f (w62 x0 (fun p => p)) := by unfold w62; exact (cond_app f _ rfl (cond_app f _ rfl rfl))
set_option maxRecDepth 100000 in
set_option maxHeartbeats 4000000 in
theorem e62 (x0 : Int) : evFn Tryd.prog ext T23 noL 200 Tryd.f62 [vi x0] st0 = firstT (g62 x0 (r62 x0)) :=
 Eq.trans (by kernel_rfl) (p62 x0 (fun p => firstT (g62 x0 p)))
noncomputable def s62 (args : List Value) (s : St) : List (Bool × Value × St) :=
 match args, s.h with
 | [.int .i64 x0], [] => (g62 x0 (r62 x0))
 | _, _ => T23 62 args s
noncomputable def T24 : CallF := addF T23 62 s62
set_option maxRecDepth 100000 in
set_option maxHeartbeats 4000000 in
theorem ok24 : CfOk Tryd.prog T24 := by
  refine cfOk_add ok23 fun args s r s' h1 h2 h3 => ?_
  unfold s62 at h3; split at h3
  · rename_i h; exact callOk ok23 Tryd.func62 h1 h2 h (lfOkF_no _ _).body (e62 _) rfl h3
  · exact ok23 _ _ _ _ _ h1 h2 h3
end Go.Proofs.YtffpnkkhcgjmfaaDoor
