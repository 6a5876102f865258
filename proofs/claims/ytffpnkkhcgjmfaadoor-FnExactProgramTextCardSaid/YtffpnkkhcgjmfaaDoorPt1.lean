/- What the functions that the statements reach answer, part 1. -/
import Derived.Test.YtffpnkkhcgjmfaaDoorA40
import Derived.KernelRfl
import Derived.Test.YtffpnkkhcgjmfaaDoorChecked
namespace Go.Proofs.YtffpnkkhcgjmfaaDoor
open Go.Ab
set_option maxHeartbeats 4000000
set_option maxRecDepth 100000

def ext : FuncId → Option Ext := fun g => (cond (Nat.beq g 55) (some .f32bits) (cond (Nat.beq g 98) (some .f64from) (cond (Nat.beq g 99) (some .f64bits) none)))
theorem ext_case {g : FuncId} {e : Ext} (h : ext g = some e) : g = 55 ∧ e = .f32bits ∨ g = 98 ∧ e = .f64from ∨ g = 99 ∧ e = .f64bits := by
  unfold ext at h
  cases h0 : Nat.beq g 55 with
  | true => rw [h0] at h; cases h; exact .inl ⟨Nat.eq_of_beq_eq_true h0, rfl⟩
  | false =>
    rw [h0] at h
    cases h1 : Nat.beq g 98 with
    | true => rw [h1] at h; cases h; exact .inr (.inl ⟨Nat.eq_of_beq_eq_true h1, rfl⟩)
    | false =>
      rw [h1] at h
      cases h2 : Nat.beq g 99 with
      | true => rw [h2] at h; cases h; exact .inr (.inr (⟨Nat.eq_of_beq_eq_true h2, rfl⟩))
      | false =>
        rw [h2] at h
        cases h
theorem extOk : ExtOk Tryd.prog ext := by
  intro g e h
  rcases ext_case h with ⟨rfl, rfl⟩ | ⟨rfl, rfl⟩ | ⟨rfl, rfl⟩
  · exact ⟨Tryd.f55, Tryd.func55, by kernel_rfl, by kernel_rfl, by kernel_rfl, by kernel_rfl⟩
  · exact ⟨Tryd.f98, Tryd.func98, by kernel_rfl, by kernel_rfl, by kernel_rfl, by kernel_rfl⟩
  · exact ⟨Tryd.f99, Tryd.func99, by kernel_rfl, by kernel_rfl, by kernel_rfl, by kernel_rfl⟩
theorem mixed : Tryd.prog.follows .mixedOrders = true := by kernel_rfl
theorem callOk {cf : CallF} (hcf : CfOk Tryd.prog cf) {lf : LoopT} {N : Nat} {f : FuncId} {fn : Func} (hf : Tryd.prog.funcs[f]? = some fn) {args : List Value} {s : St} {l : List Blk} {n : Nat} {L : List (Bool × Value × St)} {r' : Value} {s' : St} (h1 : s.lo = s.h.length) (h2 : s.wr = []) (h : s.h = l) (hl : ∀ c, fn.body = some c → LfOk Tryd.prog lf (loopsOf c)) (he : evFn Tryd.prog ext cf lf N fn args ⟨l, n, []⟩ = firstT L) (hn : n = l.length) (h3 : firstT L = some (r', s')) : CallsOK Tryd.prog f args s r' s' :=
  call_ok extOk mixed hcf hf h1 h2 h hl he hn h3
def lays156_ren : Go.Shelf.Ren := ⟨fun | 156 => 73 | 165 => 87 | 166 => 88 | 169 => 89 | 240 => 96 | 241 => 97 | 276 => 105 | 277 => 106 | n => n, fun | 31 => 22 | 9 => 9 | 3 => 3 | 4 => 4 | 0 => 0 | 20 => 20 | 72 => 125 | 76 => 129 | 70 => 123 | 37 => 88 | 75 => 128 | 127 => 140 | 164 => 149 | 5 => 5 | 80 => 131 | n => n, fun | n => n⟩
theorem lays156 : Go.Proofs.Lays.n156 Tryd.prog lays156_ren := {
  mixed := by kernel_rfl
  f156 := Tryd.func73.trans (congrArg some (by kernel_rfl))
  f165 := Tryd.func87.trans (congrArg some (by kernel_rfl))
  f166 := Tryd.func88.trans (congrArg some (by kernel_rfl))
  f169 := Tryd.func89.trans (congrArg some (by kernel_rfl))
  f240 := Tryd.func96.trans (congrArg some (by kernel_rfl))
  f241 := Tryd.func97.trans (congrArg some (by kernel_rfl))
  f276 := Tryd.func105.trans (congrArg some (by kernel_rfl))
  f277 := Tryd.func106.trans (congrArg some (by kernel_rfl))
  t0 := Tryd.underlying0
  a0 := Tryd.isAgg0
  z0 := Tryd.sizeOf0
  v0 := Tryd.zeroValue0
  t3 := Tryd.underlying3
  a3 := Tryd.isAgg3
  z3 := Tryd.sizeOf3
  v3 := Tryd.zeroValue3
  t4 := Tryd.underlying4
  a4 := Tryd.isAgg4
  z4 := Tryd.sizeOf4
  v4 := Tryd.zeroValue4
  t9 := Tryd.underlying9
  a9 := Tryd.isAgg9
  z9 := Tryd.sizeOf9
  v9 := Tryd.zeroValue9
  t20 := Tryd.underlying20
  a20 := Tryd.isAgg20
  z20 := Tryd.sizeOf20
  v20 := Tryd.zeroValue20
  t31 := Tryd.underlying22
  a31 := Tryd.isAgg22
  z31 := Tryd.sizeOf22
  v31 := Tryd.zeroValue22
  t37 := Tryd.underlying88
  a37 := Tryd.isAgg88
  z37 := Tryd.sizeOf88
  v37 := Tryd.zeroValue88
  t70 := Tryd.underlying123
  a70 := Tryd.isAgg123
  z70 := Tryd.sizeOf123
  v70 := Tryd.zeroValue123
  t72 := Tryd.underlying125
  a72 := Tryd.isAgg125
  z72 := Tryd.sizeOf125
  v72 := Tryd.zeroValue125
  t75 := Tryd.underlying128
  a75 := Tryd.isAgg128
  z75 := Tryd.sizeOf128
  v75 := Tryd.zeroValue128
  t76 := Tryd.underlying129
  a76 := Tryd.isAgg129
  z76 := Tryd.sizeOf129
  v76 := Tryd.zeroValue129
  t127 := Tryd.underlying140
  a127 := Tryd.isAgg140
  z127 := Tryd.sizeOf140
  v127 := Tryd.zeroValue140
  t164 := Tryd.underlying149
  a164 := Tryd.isAgg149
  z164 := Tryd.sizeOf149
  v164 := Tryd.zeroValue149 }
def lays173_ren : Go.Shelf.Ren := ⟨fun | 173 => 71 | 246 => 83 | 283 => 92 | 284 => 93 | 285 => 94 | 286 => 95 | 129 => 101 | 317 => 100 | 318 => 102 | 319 => 103 | 320 => 104 | 337 => 107 | 338 => 108 | n => n, fun | 2 => 2 | 3 => 3 | 9 => 9 | 4 => 4 | 171 => 134 | 0 => 0 | 53 => 135 | 37 => 88 | 5 => 5 | 173 => 138 | 212 => 145 | 51 => 86 | 20 => 20 | 213 => 146 | 46 => 122 | 232 => 153 | 233 => 154 | n => n, fun | 17 => 1 | 18 => 3 | 19 => 4 | n => n⟩
theorem lays173 : Go.Proofs.Lays.n173 Tryd.prog lays173_ren := {
  mixed := by kernel_rfl
  f129 := Tryd.func101.trans (congrArg some (by kernel_rfl))
  f173 := Tryd.func71.trans (congrArg some (by kernel_rfl))
  f246 := Tryd.func83.trans (congrArg some (by kernel_rfl))
  f283 := Tryd.func92.trans (congrArg some (by kernel_rfl))
  f284 := Tryd.func93.trans (congrArg some (by kernel_rfl))
  f285 := Tryd.func94.trans (congrArg some (by kernel_rfl))
  f286 := Tryd.func95.trans (congrArg some (by kernel_rfl))
  f317 := Tryd.func100.trans (congrArg some (by kernel_rfl))
  f318 := Tryd.func102.trans (congrArg some (by kernel_rfl))
  f319 := Tryd.func103.trans (congrArg some (by kernel_rfl))
  f320 := Tryd.func104.trans (congrArg some (by kernel_rfl))
  f337 := Tryd.func107.trans (congrArg some (by kernel_rfl))
  f338 := Tryd.func108.trans (congrArg some (by kernel_rfl))
  t0 := Tryd.underlying0
  a0 := Tryd.isAgg0
  z0 := Tryd.sizeOf0
  v0 := Tryd.zeroValue0
  t2 := Tryd.underlying2
  a2 := Tryd.isAgg2
  z2 := Tryd.sizeOf2
  v2 := Tryd.zeroValue2
  t3 := Tryd.underlying3
  a3 := Tryd.isAgg3
  z3 := Tryd.sizeOf3
  v3 := Tryd.zeroValue3
  t4 := Tryd.underlying4
  a4 := Tryd.isAgg4
  z4 := Tryd.sizeOf4
  v4 := Tryd.zeroValue4
  t5 := Tryd.underlying5
  a5 := Tryd.isAgg5
  z5 := Tryd.sizeOf5
  v5 := Tryd.zeroValue5
  t9 := Tryd.underlying9
  a9 := Tryd.isAgg9
  z9 := Tryd.sizeOf9
  v9 := Tryd.zeroValue9
  t20 := Tryd.underlying20
  a20 := Tryd.isAgg20
  z20 := Tryd.sizeOf20
  v20 := Tryd.zeroValue20
  t37 := Tryd.underlying88
  a37 := Tryd.isAgg88
  z37 := Tryd.sizeOf88
  v37 := Tryd.zeroValue88
  t46 := Tryd.underlying122
  a46 := Tryd.isAgg122
  z46 := Tryd.sizeOf122
  v46 := Tryd.zeroValue122
  t51 := Tryd.underlying86
  a51 := Tryd.isAgg86
  z51 := Tryd.sizeOf86
  v51 := Tryd.zeroValue86
  t53 := Tryd.underlying135
  a53 := Tryd.isAgg135
  z53 := Tryd.sizeOf135
  v53 := Tryd.zeroValue135
  t171 := Tryd.underlying134
  a171 := Tryd.isAgg134
  z171 := Tryd.sizeOf134
  v171 := Tryd.zeroValue134
  t173 := Tryd.underlying138
  a173 := Tryd.isAgg138
  z173 := Tryd.sizeOf138
  v173 := Tryd.zeroValue138
  t212 := Tryd.underlying145
  a212 := Tryd.isAgg145
  z212 := Tryd.sizeOf145
  v212 := Tryd.zeroValue145
  t213 := Tryd.underlying146
  a213 := Tryd.isAgg146
  z213 := Tryd.sizeOf146
  t232 := Tryd.underlying153
  a232 := Tryd.isAgg153
  z232 := Tryd.sizeOf153
  v232 := Tryd.zeroValue153
  t233 := Tryd.underlying154
  a233 := Tryd.isAgg154
  z233 := Tryd.sizeOf154
  v233 := Tryd.zeroValue154
  g17 := by kernel_rfl
  g18 := by kernel_rfl
  g19 := by kernel_rfl }
def lays171_ren : Go.Shelf.Ren := ⟨fun | 171 => 26 | 243 => 56 | 246 => 83 | 283 => 92 | 284 => 93 | 285 => 94 | 286 => 95 | 129 => 101 | 317 => 100 | 318 => 102 | 319 => 103 | 320 => 104 | 337 => 107 | 338 => 108 | n => n, fun | 3 => 3 | 9 => 9 | 2 => 2 | 4 => 4 | 171 => 134 | 0 => 0 | 53 => 135 | 37 => 88 | 5 => 5 | 173 => 138 | 212 => 145 | 51 => 86 | 20 => 20 | 213 => 146 | 46 => 122 | 232 => 153 | 233 => 154 | n => n, fun | 17 => 1 | 18 => 3 | 19 => 4 | n => n⟩
theorem lays171 : Go.Proofs.Lays.n171 Tryd.prog lays171_ren := {
  mixed := by kernel_rfl
  f129 := Tryd.func101.trans (congrArg some (by kernel_rfl))
  f171 := Tryd.func26.trans (congrArg some (by kernel_rfl))
  f243 := Tryd.func56.trans (congrArg some (by kernel_rfl))
  f246 := Tryd.func83.trans (congrArg some (by kernel_rfl))
  f283 := Tryd.func92.trans (congrArg some (by kernel_rfl))
  f284 := Tryd.func93.trans (congrArg some (by kernel_rfl))
  f285 := Tryd.func94.trans (congrArg some (by kernel_rfl))
  f286 := Tryd.func95.trans (congrArg some (by kernel_rfl))
  f317 := Tryd.func100.trans (congrArg some (by kernel_rfl))
  f318 := Tryd.func102.trans (congrArg some (by kernel_rfl))
  f319 := Tryd.func103.trans (congrArg some (by kernel_rfl))
  f320 := Tryd.func104.trans (congrArg some (by kernel_rfl))
  f337 := Tryd.func107.trans (congrArg some (by kernel_rfl))
  f338 := Tryd.func108.trans (congrArg some (by kernel_rfl))
  t0 := Tryd.underlying0
  a0 := Tryd.isAgg0
  z0 := Tryd.sizeOf0
  v0 := Tryd.zeroValue0
  t2 := Tryd.underlying2
  a2 := Tryd.isAgg2
  z2 := Tryd.sizeOf2
  v2 := Tryd.zeroValue2
  t3 := Tryd.underlying3
  a3 := Tryd.isAgg3
  z3 := Tryd.sizeOf3
  v3 := Tryd.zeroValue3
  t4 := Tryd.underlying4
  a4 := Tryd.isAgg4
  z4 := Tryd.sizeOf4
  v4 := Tryd.zeroValue4
  t5 := Tryd.underlying5
  a5 := Tryd.isAgg5
  z5 := Tryd.sizeOf5
  v5 := Tryd.zeroValue5
  t9 := Tryd.underlying9
  a9 := Tryd.isAgg9
  z9 := Tryd.sizeOf9
  v9 := Tryd.zeroValue9
  t20 := Tryd.underlying20
  a20 := Tryd.isAgg20
  z20 := Tryd.sizeOf20
  v20 := Tryd.zeroValue20
  t37 := Tryd.underlying88
  a37 := Tryd.isAgg88
  z37 := Tryd.sizeOf88
  v37 := Tryd.zeroValue88
  t46 := Tryd.underlying122
  a46 := Tryd.isAgg122
  z46 := Tryd.sizeOf122
  v46 := Tryd.zeroValue122
  t51 := Tryd.underlying86
  a51 := Tryd.isAgg86
  z51 := Tryd.sizeOf86
  v51 := Tryd.zeroValue86
  t53 := Tryd.underlying135
  a53 := Tryd.isAgg135
  z53 := Tryd.sizeOf135
  v53 := Tryd.zeroValue135
  t171 := Tryd.underlying134
  a171 := Tryd.isAgg134
  z171 := Tryd.sizeOf134
  v171 := Tryd.zeroValue134
  t173 := Tryd.underlying138
  a173 := Tryd.isAgg138
  z173 := Tryd.sizeOf138
  v173 := Tryd.zeroValue138
  t212 := Tryd.underlying145
  a212 := Tryd.isAgg145
  z212 := Tryd.sizeOf145
  v212 := Tryd.zeroValue145
  t213 := Tryd.underlying146
  a213 := Tryd.isAgg146
  z213 := Tryd.sizeOf146
  t232 := Tryd.underlying153
  a232 := Tryd.isAgg153
  z232 := Tryd.sizeOf153
  v232 := Tryd.zeroValue153
  t233 := Tryd.underlying154
  a233 := Tryd.isAgg154
  z233 := Tryd.sizeOf154
  v233 := Tryd.zeroValue154
  g17 := by kernel_rfl
  g18 := by kernel_rfl
  g19 := by kernel_rfl }
theorem bx : Go.Proofs.Builder.Extra Tryd.prog lays156_ren := {
  sizeBuilder := by kernel_rfl
  liesBuilder := by kernel_rfl
  t5 := Tryd.underlying5
  a5 := Tryd.isAgg5
  z5 := Tryd.sizeOf5
  v5 := Tryd.zeroValue5
  infoByte := by kernel_rfl
  cellsByte := by kernel_rfl
  sizeByte := by kernel_rfl
  neB5 := by decide }
theorem fn26 : Fn? Tryd.prog 26 := ⟨Tryd.f26, Tryd.func26, by kernel_rfl, by kernel_rfl⟩
def S1 : CallF := addF noF 26 sItoaSmall
theorem okS1 : CfOk Tryd.prog S1 := cfOk_add (cfOk_no _) fun args s r s' _ _ h => itoaSmall_calls lays171 fn26 args s r s' h
theorem fn71 : Fn? Tryd.prog 71 := ⟨Tryd.f71, Tryd.func71, by kernel_rfl, by kernel_rfl⟩
def S2 : CallF := addF S1 71 sFormatSmall
theorem okS2 : CfOk Tryd.prog S2 := cfOk_add okS1 fun args s r s' _ _ h => formatSmall_calls lays173 fn71 args s r s' h
theorem fn73 : Fn? Tryd.prog 73 := ⟨Tryd.f73, Tryd.func73, by kernel_rfl, by kernel_rfl⟩
def S3 : CallF := addF S2 73 sJoin
theorem okS3 : CfOk Tryd.prog S3 := cfOk_add okS2 fun args s r s' _ _ h => join_calls lays156 bx fn73 args s r s' h
def T0 : CallF := S3
theorem ok0 : CfOk Tryd.prog T0 := okS3

/-- laws.szStringS, loop 0: one round -/
noncomputable def b15l0 (ih : Int → Int → List ByteArray → (Nat × Int × Int)) (x0 x1 : Int) (x2 : List ByteArray) : Nat × Int × Int :=
 cond (decide ((x1 : Int) < ((x2.length : Nat) : Int)))
  (cond ((decide ((0 : Int) ≤ x1)) && (Nat.blt (Int.toNat x1) x2.length))
   (cond (decide (((IntKind.i64.wrap (x0 - ((((x2.getD (Int.toNat x1) .empty).size) : Nat) : Int))) : Int) < 0))
    (0, (IntKind.i64.wrap (x0 - ((((x2.getD (Int.toNat x1) .empty).size) : Nat) : Int))), 0)
    (ih (IntKind.i64.wrap (x0 - ((((x2.getD (Int.toNat x1) .empty).size) : Nat) : Int))) (IntKind.i64.wrap (x1 + 1)) x2))
   (2, 0, 0))
  (1, 0, x0)
noncomputable def r15l0 : Nat → Int → Int → List ByteArray → (Nat × Int × Int)
 | 0 => fun _ _ _ => (2, 0, 0)
 | m + 1 => b15l0 (r15l0 m)
noncomputable def a15l0 (x0 x1 : Int) (x2 : List ByteArray) (p : Nat × Int × Int) : Option (Fin' × List Value × St) := firstT ([((Nat.beq (p.1) 0), .ret, [vi (p.2.1), vi (-1)], ⟨[⟨false, (some (.strs x2))⟩], 1, []⟩), ((Nat.beq (p.1) 1), .exit 0, [vi (p.2.2), anyV], ⟨[⟨false, (some (.strs x2))⟩], 1, []⟩)].map fun (b, x) => (b, (x.1, frameOf 28 [1, 4] x.2.1, x.2.2)))
noncomputable def u15l0 (x0 x1 : Int) (x2 : List ByteArray) (p : Nat × Int × Int) : Option (Fin' × List Value × St) := alts ([((Nat.beq (p.1) 0), .ret, [vi (p.2.1), vi (-1)], ⟨[⟨false, (some (.strs x2))⟩], 1, []⟩), ((Nat.beq (p.1) 1), .exit 0, [vi (p.2.2), anyV], ⟨[⟨false, (some (.strs x2))⟩], 1, []⟩)].map fun (b, x) => (b, (x.1, frameOf 28 [1, 4] x.2.1, x.2.2))) some
theorem v15l0 (x0 x1 : Int) (x2 : List ByteArray) (p : Nat × Int × Int) : u15l0 x0 x1 x2 p = a15l0 x0 x1 x2 p := alts_first _
noncomputable def q15l0 (m : Nat) : SumK := fun vals s =>
 match vals, s.h with
 | [.iface f0 .nilIface, .int .i64 x0, .int .i64 x1], [⟨false, some (.strs x2)⟩] => if f0 = 0 then [((Nat.beq ((r15l0 m x0 x1 x2).1) 0), .ret, [vi ((r15l0 m x0 x1 x2).2.1), vi (-1)], ⟨[⟨false, (some (.strs x2))⟩], 1, []⟩), ((Nat.beq ((r15l0 m x0 x1 x2).1) 1), .exit 0, [vi ((r15l0 m x0 x1 x2).2.2), anyV], ⟨[⟨false, (some (.strs x2))⟩], 1, []⟩)] else noQ vals s
 | _, _ => noQ vals s
noncomputable def w15l0 (ih : Int → Int → List ByteArray → (Nat × Int × Int)) (x0 x1 : Int) (x2 : List ByteArray) : Option (Fin' × List Value × St) :=
 (cond (decide ((x1 : Int) < ((x2.length : Nat) : Int)))
 (cond ((decide ((0 : Int) ≤ x1)) && (Nat.blt (Int.toNat x1) x2.length))
  (cond (Nat.blt (Int.toNat x1) x2.length)
   (cond (decide (((IntKind.i64.wrap (x0 - ((((x2.getD (Int.toNat x1) .empty).size) : Nat) : Int))) : Int) < 0))
    (a15l0 x0 x1 x2 (0, (IntKind.i64.wrap (x0 - ((((x2.getD (Int.toNat x1) .empty).size) : Nat) : Int))), 0))
    (u15l0 x0 x1 x2 (ih (IntKind.i64.wrap (x0 - ((((x2.getD (Int.toNat x1) .empty).size) : Nat) : Int))) (IntKind.i64.wrap (x1 + 1)) x2)))
   none)
  none)
 (a15l0 x0 x1 x2 (1, 0, x0)))
set_option maxRecDepth 100000 in
set_option maxHeartbeats 4000000 in
theorem e15l0 (m : Nat) (x0 x1 : Int) (x2 : List ByteArray) : evC Tryd.prog ext T0 noL 200 (loopN Tryd.f15 0) (loopTail ([0, 1, 5], []) [1, 4] [] (sumK 28 [0, 1, 5] [1, 4] (q15l0 m))) (frameOf 28 [0, 1, 5] [wsl 0, vi x0, vi x1]) ⟨[⟨false, (some (.strs x2))⟩], 1, []⟩ = firstT ([((Nat.beq ((r15l0 (m + 1) x0 x1 x2).1) 0), .ret, [vi ((r15l0 (m + 1) x0 x1 x2).2.1), vi (-1)], ⟨[⟨false, (some (.strs x2))⟩], 1, []⟩), ((Nat.beq ((r15l0 (m + 1) x0 x1 x2).1) 1), .exit 0, [vi ((r15l0 (m + 1) x0 x1 x2).2.2), anyV], ⟨[⟨false, (some (.strs x2))⟩], 1, []⟩)].map fun (b, x) => (b, (x.1, frameOf 28 [1, 4] x.2.1, x.2.2))) :=
 (show evC Tryd.prog ext T0 noL 200 (loopN Tryd.f15 0) (loopTail ([0, 1, 5], []) [1, 4] [] (sumK 28 [0, 1, 5] [1, 4] (q15l0 m))) (frameOf 28 [0, 1, 5] [wsl 0, vi x0, vi x1]) ⟨[⟨false, (some (.strs x2))⟩], 1, []⟩ = w15l0 (r15l0 m) x0 x1 x2 from by kernel_rfl).trans
 (show w15l0 (r15l0 m) x0 x1 x2 = a15l0 x0 x1 x2 (r15l0 (m + 1) x0 x1 x2) from by unfold w15l0; show _ = a15l0 x0 x1 x2 (b15l0 (r15l0 m) x0 x1 x2); unfold b15l0; exact (cond_both (a15l0 x0 x1 x2) _ (fun h0 => (cond_both (a15l0 x0 x1 x2) _ (fun h1 => (cond_t (ev_and2 h1) (cond_app (a15l0 x0 x1 x2) _ rfl (v15l0 x0 x1 x2 ((r15l0 m) (IntKind.i64.wrap (x0 - ((((x2.getD (Int.toNat x1) .empty).size) : Nat) : Int))) (IntKind.i64.wrap (x1 + 1)) x2))))) (fun h1 => rfl))) (fun h0 => rfl)))
set_option maxRecDepth 100000 in
set_option maxHeartbeats 4000000 in
theorem qm15l0 : ∀ m, SumKOk Tryd.prog (loopN Tryd.f15 0) 28 [0, 1, 5] [1, 4] (q15l0 m) := by
  intro m
  induction m with
  | zero =>
    intro vals s x h1 h2 h3
    unfold q15l0 at h3; split at h3
    · rename_i h; split at h3
      · rename_i hc; obtain ⟨rfl⟩ := hc; exact absurd h3 (by simp [r15l0, firstT, Nat.beq])
      · exact noQ_ok _ _ _ h1 h2 h3
    · exact noQ_ok _ _ _ h1 h2 h3
  | succ m ih =>
    intro vals s x h1 h2 h3
    unfold q15l0 at h3; split at h3
    · rename_i h; split at h3
      · rename_i hc; obtain ⟨rfl⟩ := hc; exact sum_step ok0 extOk mixed ((lfOkF_no _ _).inner (by kernel_rfl)) ih h1 h2 h (e15l0 m _ _ _) rfl h3
      · exact noQ_ok _ _ _ h1 h2 h3
    · exact noQ_ok _ _ _ h1 h2 h3
noncomputable def Q15l0 : SumK := fun vals s => q15l0 (fuelOf vals s.h) vals s
theorem qok15l0 : SumKOk Tryd.prog (loopN Tryd.f15 0) 28 [0, 1, 5] [1, 4] Q15l0 := fuel_ok qm15l0 fuelOf
noncomputable def L15_1 : LoopT := addL noL 6 ([0, 1, 5], []) (sumK 28 [0, 1, 5] [1, 4] Q15l0)
theorem lok15_1 : LfOkF Tryd.prog L15_1 Tryd.f15 := lfOkF_add (lfOkF_no _ _) qok15l0 (by kernel_rfl) (by kernel_rfl) (by kernel_rfl)

/-- laws.szStringS -/
noncomputable def w15 {α : Type} (x0 : Int) (x1 : List ByteArray) (k : (Nat × Int) → α) : α :=
 let c0 := (r15l0 (1000 + x1.length) (IntKind.i64.wrap (x0 - ((x1.length : Nat) : Int))) 0 x1)
 cond (decide (((IntKind.i64.wrap (x0 - ((x1.length : Nat) : Int))) : Int) < 0))
  (k (0, (-1)))
  (cond (Nat.beq (c0.1) 0)
   (k (0, (-1)))
   (cond (Nat.beq (c0.1) 1)
    (k (0, (c0.2.2)))
    (k (1, 0))))
noncomputable def r15 (x0 : Int) (x1 : List ByteArray) : Nat × Int := w15 x0 x1 (fun p => p)
noncomputable def g15 (x0 : Int) (x1 : List ByteArray) (p : Nat × Int) : List (Bool × Value × St) := [((Nat.beq (p.1) 0), vi (p.2), ⟨[⟨false, (some (.strs x1))⟩], 1, []⟩)]
theorem p15 {α : Type} (x0 : Int) (x1 : List ByteArray) (f : (Nat × Int) → α) : w15 x0 x1 f = f (w15 x0 x1 (fun p => p)) := by unfold w15; exact (cond_app f _ rfl (cond_app f _ rfl (cond_app f _ rfl rfl)))
set_option maxRecDepth 100000 in
set_option maxHeartbeats 4000000 in
theorem e15 (x0 : Int) (x1 : List ByteArray) : evFn Tryd.prog ext T0 L15_1 200 Tryd.f15 [wsl 0, vi x0] ⟨[⟨false, (some (.strs x1))⟩], 1, []⟩ = firstT (g15 x0 x1 (r15 x0 x1)) :=
 Eq.trans (by kernel_rfl) (p15 x0 x1 (fun p => firstT (g15 x0 x1 p)))
noncomputable def s15 (args : List Value) (s : St) : List (Bool × Value × St) :=
 match args, s.h with
 | [.iface f0 .nilIface, .int .i64 x0], [⟨false, some (.strs x1)⟩] => if f0 = 0 then (g15 x0 x1 (r15 x0 x1)) else T0 15 args s
 | _, _ => T0 15 args s
noncomputable def T1 : CallF := addF T0 15 s15
set_option maxRecDepth 100000 in
set_option maxHeartbeats 4000000 in
theorem ok1 : CfOk Tryd.prog T1 := by
  refine cfOk_add ok0 fun args s r s' h1 h2 h3 => ?_
  unfold s15 at h3; split at h3
  · rename_i h; split at h3
    · rename_i hc; obtain ⟨rfl⟩ := hc; exact callOk ok0 Tryd.func15 h1 h2 h lok15_1.body (e15 _ _) rfl h3
    · exact ok0 _ _ _ _ _ h1 h2 h3
  · exact ok0 _ _ _ _ _ h1 h2 h3

/-- laws.szOpS -/
noncomputable def w16 {α : Type} (x0 : Int) (x1 : List (List Int)) (k : Int → α) : α :=
 cond (decide (((IntKind.i64.wrap (x0 - ((x1.length : Nat) : Int))) : Int) < 0))
  (k ((-1)))
  (k ((IntKind.i64.wrap (x0 - ((x1.length : Nat) : Int)))))
noncomputable def r16 (x0 : Int) (x1 : List (List Int)) : Int := w16 x0 x1 (fun p => p)
noncomputable def g16 (x0 : Int) (x1 : List (List Int)) (p : Int) : List (Bool × Value × St) := [(true, vi p, ⟨[⟨false, (some (.tab [.int .i8, .int .i16, .fl .f32] x1))⟩], 1, []⟩)]
theorem p16 {α : Type} (x0 : Int) (x1 : List (List Int)) (f : Int → α) : w16 x0 x1 f = f (w16 x0 x1 (fun p => p)) := by unfold w16; exact (cond_app f _ rfl rfl)
set_option maxRecDepth 100000 in
set_option maxHeartbeats 4000000 in
theorem e16 (x0 : Int) (x1 : List (List Int)) : evFn Tryd.prog ext T1 noL 200 Tryd.f16 [wsl 0, vi x0] ⟨[⟨false, (some (.tab [.int .i8, .int .i16, .fl .f32] x1))⟩], 1, []⟩ = firstT (g16 x0 x1 (r16 x0 x1)) :=
 Eq.trans (by kernel_rfl) (p16 x0 x1 (fun p => firstT (g16 x0 x1 p)))
noncomputable def s16 (args : List Value) (s : St) : List (Bool × Value × St) :=
 match args, s.h with
 | [.iface f0 .nilIface, .int .i64 x0], [⟨false, some (.tab [.int .i8, .int .i16, .fl .f32] x1)⟩] => if f0 = 0 then (g16 x0 x1 (r16 x0 x1)) else T1 16 args s
 | _, _ => T1 16 args s
noncomputable def T2 : CallF := addF T1 16 s16
set_option maxRecDepth 100000 in
set_option maxHeartbeats 4000000 in
theorem ok2 : CfOk Tryd.prog T2 := by
  refine cfOk_add ok1 fun args s r s' h1 h2 h3 => ?_
  unfold s16 at h3; split at h3
  · rename_i h; split at h3
    · rename_i hc; obtain ⟨rfl⟩ := hc; exact callOk ok1 Tryd.func16 h1 h2 h (lfOkF_no _ _).body (e16 _ _) rfl h3
    · exact ok1 _ _ _ _ _ h1 h2 h3
  · exact ok1 _ _ _ _ _ h1 h2 h3

/-- laws.szProgram -/
noncomputable def w5 {α : Type} (x0 : Int) (x1 : List ByteArray) (x2 : List (List Int)) (k : (Nat × Int) → α) : α :=
 cond (Nat.beq ((r15 x0 x1).1) 0)
  (cond (decide ((((r15 x0 x1).2) : Int) < 0))
   (k (0, (-1)))
   (cond (decide (((r16 ((r15 x0 x1).2) x2) : Int) < 0))
    (k (0, (-1)))
    (k (0, (r16 ((r15 x0 x1).2) x2)))))
  (k (1, 0))
noncomputable def r5 (x0 : Int) (x1 : List ByteArray) (x2 : List (List Int)) : Nat × Int := w5 x0 x1 x2 (fun p => p)
noncomputable def g5 (x0 : Int) (x1 : List ByteArray) (x2 : List (List Int)) (p : Nat × Int) : List (Bool × Value × St) := [((Nat.beq (p.1) 0), vi (p.2), ⟨[⟨false, (some (.strs x1))⟩, ⟨false, (some (.tab [.int .i8, .int .i16, .fl .f32] x2))⟩], 2, []⟩)]
theorem p5 {α : Type} (x0 : Int) (x1 : List ByteArray) (x2 : List (List Int)) (f : (Nat × Int) → α) : w5 x0 x1 x2 f = f (w5 x0 x1 x2 (fun p => p)) := by unfold w5; exact (cond_app f _ (cond_app f _ rfl (cond_app f _ rfl rfl)) rfl)
set_option maxRecDepth 100000 in
set_option maxHeartbeats 4000000 in
theorem e5 (x0 : Int) (x1 : List ByteArray) (x2 : List (List Int)) : evFn Tryd.prog ext T2 noL 200 Tryd.f5 [.agg #[wsl 0, wsl 1], vi x0] ⟨[⟨false, (some (.strs x1))⟩, ⟨false, (some (.tab [.int .i8, .int .i16, .fl .f32] x2))⟩], 2, []⟩ = firstT (g5 x0 x1 x2 (r5 x0 x1 x2)) :=
 Eq.trans (by kernel_rfl) (p5 x0 x1 x2 (fun p => firstT (g5 x0 x1 x2 p)))
noncomputable def s5 (args : List Value) (s : St) : List (Bool × Value × St) :=
 match args, s.h with
 | [.agg ⟨[.iface f0 .nilIface, .iface f1 .nilIface]⟩, .int .i64 x0], [⟨false, some (.strs x1)⟩, ⟨false, some (.tab [.int .i8, .int .i16, .fl .f32] x2)⟩] => if f0 = 0 ∧ f1 = 1 then (g5 x0 x1 x2 (r5 x0 x1 x2)) else T2 5 args s
 | _, _ => T2 5 args s
noncomputable def T3 : CallF := addF T2 5 s5
set_option maxRecDepth 100000 in
set_option maxHeartbeats 4000000 in
theorem ok3 : CfOk Tryd.prog T3 := by
  refine cfOk_add ok2 fun args s r s' h1 h2 h3 => ?_
  unfold s5 at h3; split at h3
  · rename_i h; split at h3
    · rename_i hc; obtain ⟨rfl, rfl⟩ := hc; exact callOk ok2 Tryd.func5 h1 h2 h (lfOkF_no _ _).body (e5 _ _ _) rfl h3
    · exact ok2 _ _ _ _ _ h1 h2 h3
  · exact ok2 _ _ _ _ _ h1 h2 h3

/-- laws.toStringS, loop 0: one round -/
noncomputable def b21l0 (ih : Int → List ByteArray → List ByteArray → (Nat × List ByteArray)) (x0 : Int) (x1 x2 : List ByteArray) : Nat × List ByteArray :=
 cond (decide ((x0 : Int) < ((x1.length : Nat) : Int)))
  (cond ((decide ((0 : Int) ≤ x0)) && (Nat.blt (Int.toNat x0) x1.length))
   (cond ((decide ((0 : Int) ≤ x0)) && (Nat.blt (Int.toNat x0) x2.length))
    (ih (IntKind.i64.wrap (x0 + 1)) x1 (x2.set (Int.toNat x0) (x1.getD (Int.toNat x0) .empty)))
    (1, []))
   (1, []))
  (0, x2)
noncomputable def r21l0 : Nat → Int → List ByteArray → List ByteArray → (Nat × List ByteArray)
 | 0 => fun _ _ _ => (1, [])
 | m + 1 => b21l0 (r21l0 m)
noncomputable def a21l0 (x0 : Int) (x1 x2 : List ByteArray) (p : Nat × List ByteArray) : Option (Fin' × List Value × St) := firstT ([((Nat.beq (p.1) 0), .exit 0, [wsl 1], ⟨[⟨false, (some (.strs x1))⟩, ⟨true, (some (.strs (p.2)))⟩], 2, [1]⟩)].map fun (b, x) => (b, (x.1, frameOf 22 [3] x.2.1, x.2.2)))
noncomputable def u21l0 (x0 : Int) (x1 x2 : List ByteArray) (p : Nat × List ByteArray) : Option (Fin' × List Value × St) := alts ([((Nat.beq (p.1) 0), .exit 0, [wsl 1], ⟨[⟨false, (some (.strs x1))⟩, ⟨true, (some (.strs (p.2)))⟩], 2, [1]⟩)].map fun (b, x) => (b, (x.1, frameOf 22 [3] x.2.1, x.2.2))) some
theorem v21l0 (x0 : Int) (x1 x2 : List ByteArray) (p : Nat × List ByteArray) : u21l0 x0 x1 x2 p = a21l0 x0 x1 x2 p := alts_first _
noncomputable def q21l0 (m : Nat) : SumK := fun vals s =>
 match vals, s.h with
 | [.iface f0 .nilIface, .iface f1 .nilIface, .int .i64 x0], [⟨false, some (.strs x1)⟩, ⟨true, some (.strs x2)⟩] => if f0 = 0 ∧ f1 = 1 then [((Nat.beq ((r21l0 m x0 x1 x2).1) 0), .exit 0, [wsl 1], ⟨[⟨false, (some (.strs x1))⟩, ⟨true, (some (.strs ((r21l0 m x0 x1 x2).2)))⟩], 2, [1]⟩)] else noQ vals s
 | _, _ => noQ vals s
noncomputable def w21l0 (ih : Int → List ByteArray → List ByteArray → (Nat × List ByteArray)) (x0 : Int) (x1 x2 : List ByteArray) : Option (Fin' × List Value × St) :=
 (cond (decide ((x0 : Int) < ((x1.length : Nat) : Int)))
 (cond ((decide ((0 : Int) ≤ x0)) && (Nat.blt (Int.toNat x0) x1.length))
  (cond (Nat.blt (Int.toNat x0) x1.length)
   (cond ((decide ((0 : Int) ≤ x0)) && (Nat.blt (Int.toNat x0) x2.length))
    (cond (Nat.blt (Int.toNat x0) x2.length)
     (u21l0 x0 x1 x2 (ih (IntKind.i64.wrap (x0 + 1)) x1 (x2.set (Int.toNat x0) (x1.getD (Int.toNat x0) .empty))))
     none)
    none)
   none)
  none)
 (a21l0 x0 x1 x2 (0, x2)))
set_option maxRecDepth 100000 in
set_option maxHeartbeats 4000000 in
theorem e21l0 (m : Nat) (x0 : Int) (x1 x2 : List ByteArray) : evC Tryd.prog ext T3 noL 200 (loopN Tryd.f21 0) (loopTail ([0, 3, 4], []) [3] [1] (sumK 22 [0, 3, 4] [3] (q21l0 m))) (frameOf 22 [0, 3, 4] [wsl 0, wsl 1, vi x0]) ⟨[⟨false, (some (.strs x1))⟩, ⟨true, (some (.strs x2))⟩], 2, []⟩ = firstT ([((Nat.beq ((r21l0 (m + 1) x0 x1 x2).1) 0), .exit 0, [wsl 1], ⟨[⟨false, (some (.strs x1))⟩, ⟨true, (some (.strs ((r21l0 (m + 1) x0 x1 x2).2)))⟩], 2, [1]⟩)].map fun (b, x) => (b, (x.1, frameOf 22 [3] x.2.1, x.2.2))) :=
 (show evC Tryd.prog ext T3 noL 200 (loopN Tryd.f21 0) (loopTail ([0, 3, 4], []) [3] [1] (sumK 22 [0, 3, 4] [3] (q21l0 m))) (frameOf 22 [0, 3, 4] [wsl 0, wsl 1, vi x0]) ⟨[⟨false, (some (.strs x1))⟩, ⟨true, (some (.strs x2))⟩], 2, []⟩ = w21l0 (r21l0 m) x0 x1 x2 from by kernel_rfl).trans
 (show w21l0 (r21l0 m) x0 x1 x2 = a21l0 x0 x1 x2 (r21l0 (m + 1) x0 x1 x2) from by unfold w21l0; show _ = a21l0 x0 x1 x2 (b21l0 (r21l0 m) x0 x1 x2); unfold b21l0; exact (cond_both (a21l0 x0 x1 x2) _ (fun h0 => (cond_both (a21l0 x0 x1 x2) _ (fun h1 => (cond_t (ev_and2 h1) (cond_both (a21l0 x0 x1 x2) _ (fun h2 => (cond_t (ev_and2 h2) (v21l0 x0 x1 x2 ((r21l0 m) (IntKind.i64.wrap (x0 + 1)) x1 (x2.set (Int.toNat x0) (x1.getD (Int.toNat x0) .empty)))))) (fun h2 => rfl)))) (fun h1 => rfl))) (fun h0 => rfl)))
set_option maxRecDepth 100000 in
set_option maxHeartbeats 4000000 in
theorem qm21l0 : ∀ m, SumKOk Tryd.prog (loopN Tryd.f21 0) 22 [0, 3, 4] [3] (q21l0 m) := by
  intro m
  induction m with
  | zero =>
    intro vals s x h1 h2 h3
    unfold q21l0 at h3; split at h3
    · rename_i h; split at h3
      · rename_i hc; obtain ⟨rfl, rfl⟩ := hc; exact absurd h3 (by simp [r21l0, firstT, Nat.beq])
      · exact noQ_ok _ _ _ h1 h2 h3
    · exact noQ_ok _ _ _ h1 h2 h3
  | succ m ih =>
    intro vals s x h1 h2 h3
    unfold q21l0 at h3; split at h3
    · rename_i h; split at h3
      · rename_i hc; obtain ⟨rfl, rfl⟩ := hc; exact sum_step ok3 extOk mixed ((lfOkF_no _ _).inner (by kernel_rfl)) ih h1 h2 h (e21l0 m _ _ _) rfl h3
      · exact noQ_ok _ _ _ h1 h2 h3
    · exact noQ_ok _ _ _ h1 h2 h3
noncomputable def Q21l0 : SumK := fun vals s => q21l0 (fuelOf vals s.h) vals s
theorem qok21l0 : SumKOk Tryd.prog (loopN Tryd.f21 0) 22 [0, 3, 4] [3] Q21l0 := fuel_ok qm21l0 fuelOf
noncomputable def L21_1 : LoopT := addL noL 4 ([0, 3, 4], []) (sumK 22 [0, 3, 4] [3] Q21l0)
theorem lok21_1 : LfOkF Tryd.prog L21_1 Tryd.f21 := lfOkF_add (lfOkF_no _ _) qok21l0 (by kernel_rfl) (by kernel_rfl) (by kernel_rfl)

/-- laws.toStringS -/
noncomputable def w21 {α : Type} (x0 : List ByteArray) (k : (Nat × List ByteArray) → α) : α :=
 let c1 := (r21l0 (1000 + (List.replicate x0.length (ByteArray.mk #[])).length + x0.length) 0 x0 (List.replicate x0.length (ByteArray.mk #[])))
 cond (((decide ((0 : Int) ≤ ((x0.length : Nat) : Int)) && decide ((((x0.length : Nat) : Int) : Int) ≤ ((x0.length : Nat) : Int))) && decide (((16 : Nat) : Int) * ((x0.length : Nat) : Int) ≤ 281474976710656)) && decide (((x0.length : Nat) : Int) ≤ 9223372036854775807))
  (cond (Nat.beq (c1.1) 0)
   (k (0, (c1.2)))
   (k (1, [])))
  (k (1, []))
noncomputable def r21 (x0 : List ByteArray) : Nat × List ByteArray := w21 x0 (fun p => p)
noncomputable def g21 (x0 : List ByteArray) (p : Nat × List ByteArray) : List (Bool × Value × St) := [((Nat.beq (p.1) 0), wsl 1, ⟨[⟨false, (some (.strs x0))⟩, ⟨true, (some (.strs (p.2)))⟩], 1, []⟩)]
theorem p21 {α : Type} (x0 : List ByteArray) (f : (Nat × List ByteArray) → α) : w21 x0 f = f (w21 x0 (fun p => p)) := by unfold w21; exact (cond_app f _ (cond_app f _ rfl rfl) rfl)
set_option maxRecDepth 100000 in
set_option maxHeartbeats 4000000 in
theorem e21 (x0 : List ByteArray) : evFn Tryd.prog ext T3 L21_1 200 Tryd.f21 [wsl 0] ⟨[⟨false, (some (.strs x0))⟩], 1, []⟩ = firstT (g21 x0 (r21 x0)) :=
 Eq.trans (by kernel_rfl) (p21 x0 (fun p => firstT (g21 x0 p)))
noncomputable def s21 (args : List Value) (s : St) : List (Bool × Value × St) :=
 match args, s.h with
 | [.iface f0 .nilIface], [⟨false, some (.strs x0)⟩] => if f0 = 0 then (g21 x0 (r21 x0)) else T3 21 args s
 | _, _ => T3 21 args s
noncomputable def T4 : CallF := addF T3 21 s21
set_option maxRecDepth 100000 in
set_option maxHeartbeats 4000000 in
theorem ok4 : CfOk Tryd.prog T4 := by
  refine cfOk_add ok3 fun args s r s' h1 h2 h3 => ?_
  unfold s21 at h3; split at h3
  · rename_i h; split at h3
    · rename_i hc; obtain ⟨rfl⟩ := hc; exact callOk ok3 Tryd.func21 h1 h2 h lok21_1.body (e21 _) rfl h3
    · exact ok3 _ _ _ _ _ h1 h2 h3
  · exact ok3 _ _ _ _ _ h1 h2 h3

/-- laws.toOp -/
noncomputable def w48 {α : Type} (x0 x1 : Int) (x2 : Nat) (k : Unit → α) : α :=
 k ()
noncomputable def r48 (x0 x1 : Int) (x2 : Nat) : Unit := w48 x0 x1 x2 (fun p => p)
noncomputable def g48 (x0 x1 : Int) (x2 : Nat) (p : Unit) : List (Bool × Value × St) := [(true, .agg #[.int .i8 x0, .int .i16 x1, vf x2], st0)]
theorem p48 {α : Type} (x0 x1 : Int) (x2 : Nat) (f : Unit → α) : w48 x0 x1 x2 f = f (w48 x0 x1 x2 (fun p => p)) := by unfold w48; exact rfl
set_option maxRecDepth 100000 in
set_option maxHeartbeats 4000000 in
theorem e48 (x0 x1 : Int) (x2 : Nat) : evFn Tryd.prog ext T4 noL 200 Tryd.f48 [.agg #[.int .i8 x0, .int .i16 x1, vf x2]] st0 = firstT (g48 x0 x1 x2 (r48 x0 x1 x2)) :=
 Eq.trans (by kernel_rfl) (p48 x0 x1 x2 (fun p => firstT (g48 x0 x1 x2 p)))
noncomputable def s48 (args : List Value) (s : St) : List (Bool × Value × St) :=
 match args, s.h with
 | [.agg ⟨[.int .i8 x0, .int .i16 x1, .float .f32 x2]⟩], [] => (g48 x0 x1 x2 (r48 x0 x1 x2))
 | _, _ => T4 48 args s
noncomputable def T5 : CallF := addF T4 48 s48
set_option maxRecDepth 100000 in
set_option maxHeartbeats 4000000 in
theorem ok5 : CfOk Tryd.prog T5 := by
  refine cfOk_add ok4 fun args s r s' h1 h2 h3 => ?_
  unfold s48 at h3; split at h3
  · rename_i h; exact callOk ok4 Tryd.func48 h1 h2 h (lfOkF_no _ _).body (e48 _ _ _) rfl h3
  · exact ok4 _ _ _ _ _ h1 h2 h3

/-- laws.toOpS, loop 0: one round -/
noncomputable def b22l0 (ih : Int → List (List Int) → List (List Int) → (Nat × List (List Int))) (x0 : Int) (x1 x2 : List (List Int)) : Nat × List (List Int) :=
 cond (decide ((x0 : Int) < ((x1.length : Nat) : Int)))
  (cond ((decide ((0 : Int) ≤ x0)) && (Nat.blt (Int.toNat x0) x1.length))
   (cond ((decide ((0 : Int) ≤ x0)) && (Nat.blt (Int.toNat x0) x2.length))
    (ih (IntKind.i64.wrap (x0 + 1)) x1 (x2.set (Int.toNat x0) [((x1.getD (Int.toNat x0) []).getD 0 0), ((x1.getD (Int.toNat x0) []).getD 1 0), (((Int.toNat ((x1.getD (Int.toNat x0) []).getD 2 0)) : Nat) : Int)]))
    (1, []))
   (1, []))
  (0, x2)
noncomputable def r22l0 : Nat → Int → List (List Int) → List (List Int) → (Nat × List (List Int))
 | 0 => fun _ _ _ => (1, [])
 | m + 1 => b22l0 (r22l0 m)
noncomputable def a22l0 (x0 : Int) (x1 x2 : List (List Int)) (p : Nat × List (List Int)) : Option (Fin' × List Value × St) := firstT ([((Nat.beq (p.1) 0), .exit 0, [wsl 1], ⟨[⟨false, (some (.tab [.int .i8, .int .i16, .fl .f32] x1))⟩, ⟨true, (some (.tab [.int .i8, .int .i16, .fl .f32] (p.2)))⟩], 2, [1]⟩)].map fun (b, x) => (b, (x.1, frameOf 23 [3] x.2.1, x.2.2)))
noncomputable def u22l0 (x0 : Int) (x1 x2 : List (List Int)) (p : Nat × List (List Int)) : Option (Fin' × List Value × St) := alts ([((Nat.beq (p.1) 0), .exit 0, [wsl 1], ⟨[⟨false, (some (.tab [.int .i8, .int .i16, .fl .f32] x1))⟩, ⟨true, (some (.tab [.int .i8, .int .i16, .fl .f32] (p.2)))⟩], 2, [1]⟩)].map fun (b, x) => (b, (x.1, frameOf 23 [3] x.2.1, x.2.2))) some
theorem v22l0 (x0 : Int) (x1 x2 : List (List Int)) (p : Nat × List (List Int)) : u22l0 x0 x1 x2 p = a22l0 x0 x1 x2 p := alts_first _
noncomputable def q22l0 (m : Nat) : SumK := fun vals s =>
 match vals, s.h with
 | [.iface f0 .nilIface, .iface f1 .nilIface, .int .i64 x0], [⟨false, some (.tab [.int .i8, .int .i16, .fl .f32] x1)⟩, ⟨true, some (.tab [.int .i8, .int .i16, .fl .f32] x2)⟩] => if f0 = 0 ∧ f1 = 1 then [((Nat.beq ((r22l0 m x0 x1 x2).1) 0), .exit 0, [wsl 1], ⟨[⟨false, (some (.tab [.int .i8, .int .i16, .fl .f32] x1))⟩, ⟨true, (some (.tab [.int .i8, .int .i16, .fl .f32] ((r22l0 m x0 x1 x2).2)))⟩], 2, [1]⟩)] else noQ vals s
 | _, _ => noQ vals s
noncomputable def w22l0 (ih : Int → List (List Int) → List (List Int) → (Nat × List (List Int))) (x0 : Int) (x1 x2 : List (List Int)) : Option (Fin' × List Value × St) :=
 (cond (decide ((x0 : Int) < ((x1.length : Nat) : Int)))
 (cond ((decide ((0 : Int) ≤ x0)) && (Nat.blt (Int.toNat x0) x1.length))
  (cond (Nat.blt (Int.toNat x0) x1.length)
   (cond ((decide ((0 : Int) ≤ x0)) && (Nat.blt (Int.toNat x0) x2.length))
    (cond (Nat.blt (Int.toNat x0) x2.length)
     (u22l0 x0 x1 x2 (ih (IntKind.i64.wrap (x0 + 1)) x1 (x2.set (Int.toNat x0) [((x1.getD (Int.toNat x0) []).getD 0 0), ((x1.getD (Int.toNat x0) []).getD 1 0), (((Int.toNat ((x1.getD (Int.toNat x0) []).getD 2 0)) : Nat) : Int)])))
     none)
    none)
   none)
  none)
 (a22l0 x0 x1 x2 (0, x2)))
set_option maxRecDepth 100000 in
set_option maxHeartbeats 4000000 in
theorem e22l0 (m : Nat) (x0 : Int) (x1 x2 : List (List Int)) : evC Tryd.prog ext T5 noL 200 (loopN Tryd.f22 0) (loopTail ([0, 3, 4], []) [3] [1] (sumK 23 [0, 3, 4] [3] (q22l0 m))) (frameOf 23 [0, 3, 4] [wsl 0, wsl 1, vi x0]) ⟨[⟨false, (some (.tab [.int .i8, .int .i16, .fl .f32] x1))⟩, ⟨true, (some (.tab [.int .i8, .int .i16, .fl .f32] x2))⟩], 2, []⟩ = firstT ([((Nat.beq ((r22l0 (m + 1) x0 x1 x2).1) 0), .exit 0, [wsl 1], ⟨[⟨false, (some (.tab [.int .i8, .int .i16, .fl .f32] x1))⟩, ⟨true, (some (.tab [.int .i8, .int .i16, .fl .f32] ((r22l0 (m + 1) x0 x1 x2).2)))⟩], 2, [1]⟩)].map fun (b, x) => (b, (x.1, frameOf 23 [3] x.2.1, x.2.2))) :=
 (show evC Tryd.prog ext T5 noL 200 (loopN Tryd.f22 0) (loopTail ([0, 3, 4], []) [3] [1] (sumK 23 [0, 3, 4] [3] (q22l0 m))) (frameOf 23 [0, 3, 4] [wsl 0, wsl 1, vi x0]) ⟨[⟨false, (some (.tab [.int .i8, .int .i16, .fl .f32] x1))⟩, ⟨true, (some (.tab [.int .i8, .int .i16, .fl .f32] x2))⟩], 2, []⟩ = w22l0 (r22l0 m) x0 x1 x2 from by kernel_rfl).trans
 (show w22l0 (r22l0 m) x0 x1 x2 = a22l0 x0 x1 x2 (r22l0 (m + 1) x0 x1 x2) from by unfold w22l0; show _ = a22l0 x0 x1 x2 (b22l0 (r22l0 m) x0 x1 x2); unfold b22l0; exact (cond_both (a22l0 x0 x1 x2) _ (fun h0 => (cond_both (a22l0 x0 x1 x2) _ (fun h1 => (cond_t (ev_and2 h1) (cond_both (a22l0 x0 x1 x2) _ (fun h2 => (cond_t (ev_and2 h2) (v22l0 x0 x1 x2 ((r22l0 m) (IntKind.i64.wrap (x0 + 1)) x1 (x2.set (Int.toNat x0) [((x1.getD (Int.toNat x0) []).getD 0 0), ((x1.getD (Int.toNat x0) []).getD 1 0), (((Int.toNat ((x1.getD (Int.toNat x0) []).getD 2 0)) : Nat) : Int)]))))) (fun h2 => rfl)))) (fun h1 => rfl))) (fun h0 => rfl)))
set_option maxRecDepth 100000 in
set_option maxHeartbeats 4000000 in
theorem qm22l0 : ∀ m, SumKOk Tryd.prog (loopN Tryd.f22 0) 23 [0, 3, 4] [3] (q22l0 m) := by
  intro m
  induction m with
  | zero =>
    intro vals s x h1 h2 h3
    unfold q22l0 at h3; split at h3
    · rename_i h; split at h3
      · rename_i hc; obtain ⟨rfl, rfl⟩ := hc; exact absurd h3 (by simp [r22l0, firstT, Nat.beq])
      · exact noQ_ok _ _ _ h1 h2 h3
    · exact noQ_ok _ _ _ h1 h2 h3
  | succ m ih =>
    intro vals s x h1 h2 h3
    unfold q22l0 at h3; split at h3
    · rename_i h; split at h3
      · rename_i hc; obtain ⟨rfl, rfl⟩ := hc; exact sum_step ok5 extOk mixed ((lfOkF_no _ _).inner (by kernel_rfl)) ih h1 h2 h (e22l0 m _ _ _) rfl h3
      · exact noQ_ok _ _ _ h1 h2 h3
    · exact noQ_ok _ _ _ h1 h2 h3
noncomputable def Q22l0 : SumK := fun vals s => q22l0 (fuelOf vals s.h) vals s
theorem qok22l0 : SumKOk Tryd.prog (loopN Tryd.f22 0) 23 [0, 3, 4] [3] Q22l0 := fuel_ok qm22l0 fuelOf
noncomputable def L22_1 : LoopT := addL noL 4 ([0, 3, 4], []) (sumK 23 [0, 3, 4] [3] Q22l0)
theorem lok22_1 : LfOkF Tryd.prog L22_1 Tryd.f22 := lfOkF_add (lfOkF_no _ _) qok22l0 (by kernel_rfl) (by kernel_rfl) (by kernel_rfl)

/-- laws.toOpS -/
noncomputable def w22 {α : Type} (x0 : List (List Int)) (k : (Nat × List (List Int)) → α) : α :=
 let c19 := (r22l0 (1000 + (List.replicate x0.length ([0, 0, 0] : List Int)).length + x0.length) 0 x0 (List.replicate x0.length ([0, 0, 0] : List Int)))
 cond (((decide ((0 : Int) ≤ ((x0.length : Nat) : Int)) && decide ((((x0.length : Nat) : Int) : Int) ≤ ((x0.length : Nat) : Int))) && decide (((8 : Nat) : Int) * ((x0.length : Nat) : Int) ≤ 281474976710656)) && decide (((x0.length : Nat) : Int) ≤ 9223372036854775807))
  (cond (Nat.beq (c19.1) 0)
   (k (0, (c19.2)))
   (k (1, [])))
  (k (1, []))
noncomputable def r22 (x0 : List (List Int)) : Nat × List (List Int) := w22 x0 (fun p => p)
noncomputable def g22 (x0 : List (List Int)) (p : Nat × List (List Int)) : List (Bool × Value × St) := [((Nat.beq (p.1) 0), wsl 1, ⟨[⟨false, (some (.tab [.int .i8, .int .i16, .fl .f32] x0))⟩, ⟨true, (some (.tab [.int .i8, .int .i16, .fl .f32] (p.2)))⟩], 1, []⟩)]
theorem p22 {α : Type} (x0 : List (List Int)) (f : (Nat × List (List Int)) → α) : w22 x0 f = f (w22 x0 (fun p => p)) := by unfold w22; exact (cond_app f _ (cond_app f _ rfl rfl) rfl)
set_option maxRecDepth 100000 in
set_option maxHeartbeats 4000000 in
theorem e22 (x0 : List (List Int)) : evFn Tryd.prog ext T5 L22_1 200 Tryd.f22 [wsl 0] ⟨[⟨false, (some (.tab [.int .i8, .int .i16, .fl .f32] x0))⟩], 1, []⟩ = firstT (g22 x0 (r22 x0)) :=
 Eq.trans (by kernel_rfl) (p22 x0 (fun p => firstT (g22 x0 p)))
noncomputable def s22 (args : List Value) (s : St) : List (Bool × Value × St) :=
 match args, s.h with
 | [.iface f0 .nilIface], [⟨false, some (.tab [.int .i8, .int .i16, .fl .f32] x0)⟩] => if f0 = 0 then (g22 x0 (r22 x0)) else T5 22 args s
 | _, _ => T5 22 args s
noncomputable def T6 : CallF := addF T5 22 s22
set_option maxRecDepth 100000 in
set_option maxHeartbeats 4000000 in
theorem ok6 : CfOk Tryd.prog T6 := by
  refine cfOk_add ok5 fun args s r s' h1 h2 h3 => ?_
  unfold s22 at h3; split at h3
  · rename_i h; split at h3
    · rename_i hc; obtain ⟨rfl⟩ := hc; exact callOk ok5 Tryd.func22 h1 h2 h lok22_1.body (e22 _) rfl h3
    · exact ok5 _ _ _ _ _ h1 h2 h3
  · exact ok5 _ _ _ _ _ h1 h2 h3

/-- laws.toProgram -/
noncomputable def w7 {α : Type} (x0 : List ByteArray) (x1 : List (List Int)) (k : (Nat × List ByteArray × List (List Int)) → α) : α :=
 cond (Nat.beq ((r21 x0).1) 0)
  (cond (Nat.beq ((r22 x1).1) 0)
   (k (0, ((r21 x0).2), ((r22 x1).2)))
   (k (1, [], [])))
  (k (1, [], []))
noncomputable def r7 (x0 : List ByteArray) (x1 : List (List Int)) : Nat × List ByteArray × List (List Int) := w7 x0 x1 (fun p => p)
noncomputable def g7 (x0 : List ByteArray) (x1 : List (List Int)) (p : Nat × List ByteArray × List (List Int)) : List (Bool × Value × St) := [((Nat.beq (p.1) 0), .agg #[wsl 2, wsl 3], ⟨[⟨false, (some (.strs x0))⟩, ⟨false, (some (.tab [.int .i8, .int .i16, .fl .f32] x1))⟩, ⟨true, (some (.strs (p.2.1)))⟩, ⟨true, (some (.tab [.int .i8, .int .i16, .fl .f32] (p.2.2)))⟩], 2, []⟩)]
theorem p7 {α : Type} (x0 : List ByteArray) (x1 : List (List Int)) (f : (Nat × List ByteArray × List (List Int)) → α) : w7 x0 x1 f = f (w7 x0 x1 (fun p => p)) := by unfold w7; exact (cond_app f _ (cond_app f _ rfl rfl) rfl)
set_option maxRecDepth 100000 in
set_option maxHeartbeats 4000000 in
theorem e7 (x0 : List ByteArray) (x1 : List (List Int)) : evFn Tryd.prog ext T6 noL 200 Tryd.f7 [.agg #[wsl 0, wsl 1]] ⟨[⟨false, (some (.strs x0))⟩, ⟨false, (some (.tab [.int .i8, .int .i16, .fl .f32] x1))⟩], 2, []⟩ = firstT (g7 x0 x1 (r7 x0 x1)) :=
 Eq.trans (by kernel_rfl) (p7 x0 x1 (fun p => firstT (g7 x0 x1 p)))
noncomputable def s7 (args : List Value) (s : St) : List (Bool × Value × St) :=
 match args, s.h with
 | [.agg ⟨[.iface f0 .nilIface, .iface f1 .nilIface]⟩], [⟨false, some (.strs x0)⟩, ⟨false, some (.tab [.int .i8, .int .i16, .fl .f32] x1)⟩] => if f0 = 0 ∧ f1 = 1 then (g7 x0 x1 (r7 x0 x1)) else T6 7 args s
 | _, _ => T6 7 args s
noncomputable def T7 : CallF := addF T6 7 s7
set_option maxRecDepth 100000 in
set_option maxHeartbeats 4000000 in
theorem ok7 : CfOk Tryd.prog T7 := by
  refine cfOk_add ok6 fun args s r s' h1 h2 h3 => ?_
  unfold s7 at h3; split at h3
  · rename_i h; split at h3
    · rename_i hc; obtain ⟨rfl, rfl⟩ := hc; exact callOk ok6 Tryd.func7 h1 h2 h (lfOkF_no _ _).body (e7 _ _) rfl h3
    · exact ok6 _ _ _ _ _ h1 h2 h3
  · exact ok6 _ _ _ _ _ h1 h2 h3

/-- spec.l05Letter -/
noncomputable def w77 {α : Type} (x0 : Int) (k : Bool → α) : α :=
 cond (decide ((x0 : Int) ≥ 97))
  (k ((decide ((x0 : Int) ≤ 122))))
  (k (false))
noncomputable def r77 (x0 : Int) : Bool := w77 x0 (fun p => p)
noncomputable def g77 (x0 : Int) (p : Bool) : List (Bool × Value × St) := [(true, .bool p, st0)]
theorem p77 {α : Type} (x0 : Int) (f : Bool → α) : w77 x0 f = f (w77 x0 (fun p => p)) := by unfold w77; exact (cond_app f _ rfl rfl)
set_option maxRecDepth 100000 in
set_option maxHeartbeats 4000000 in
theorem e77 (x0 : Int) : evFn Tryd.prog ext T7 noL 200 Tryd.f77 [.int .u8 x0] st0 = firstT (g77 x0 (r77 x0)) :=
 Eq.trans (by kernel_rfl) (p77 x0 (fun p => firstT (g77 x0 p)))
noncomputable def s77 (args : List Value) (s : St) : List (Bool × Value × St) :=
 match args, s.h with
 | [.int .u8 x0], [] => (g77 x0 (r77 x0))
 | _, _ => T7 77 args s
noncomputable def T8 : CallF := addF T7 77 s77
set_option maxRecDepth 100000 in
set_option maxHeartbeats 4000000 in
theorem ok8 : CfOk Tryd.prog T8 := by
  refine cfOk_add ok7 fun args s r s' h1 h2 h3 => ?_
  unfold s77 at h3; split at h3
  · rename_i h; exact callOk ok7 Tryd.func77 h1 h2 h (lfOkF_no _ _).body (e77 _) rfl h3
  · exact ok7 _ _ _ _ _ h1 h2 h3

/-- spec.l05Name, loop 0: one round -/
noncomputable def w42l0 {α : Type} (ih : ByteArray → Int → Nat) (x0 : ByteArray) (x1 : Int) (k k2 : Nat → α) : α :=
 let c36 := (r77 ((UInt8.toNat (List.getD (ByteArray.data x0).toList (Int.toNat x1) 0) : Nat) : Int))
 cond (decide ((x1 : Int) < (((x0.size) : Nat) : Int)))
  (cond ((decide ((0 : Int) ≤ x1)) && (Nat.blt (Int.toNat x1) (x0.size)))
   (cond (!c36)
    (k (0))
    (k2 (ih x0 (IntKind.i64.wrap (x1 + 1)))))
   (k (2)))
  (k (1))
noncomputable def b42l0 (ih : ByteArray → Int → Nat) (x0 : ByteArray) (x1 : Int) : Nat := w42l0 ih x0 x1 (fun p => p) (fun p => p)
noncomputable def r42l0 : Nat → ByteArray → Int → Nat
 | 0 => fun _ _ => (2)
 | m + 1 => b42l0 (r42l0 m)
noncomputable def g42l0 (x0 : ByteArray) (x1 : Int) (p : Nat) : List (Bool × (Fin' × List Value × St)) := [((Nat.beq p 0), .ret, [.string x0, .bool false], st0), ((Nat.beq p 1), .exit 0, [.string x0, anyV], st0)]
noncomputable def a42l0 (x0 : ByteArray) (x1 : Int) (p : Nat) : Option (Fin' × List Value × St) := firstT ((g42l0 x0 x1 p).map fun (b, x) => (b, (x.1, frameOf 30 [0, 2] x.2.1, x.2.2)))
noncomputable def u42l0 (x0 : ByteArray) (x1 : Int) (p : Nat) : Option (Fin' × List Value × St) := alts ((g42l0 x0 x1 p).map fun (b, x) => (b, (x.1, frameOf 30 [0, 2] x.2.1, x.2.2))) some
theorem v42l0 (x0 : ByteArray) (x1 : Int) (p : Nat) : u42l0 x0 x1 p = a42l0 x0 x1 p := alts_first _
noncomputable def q42l0 (m : Nat) : SumK := fun vals s =>
 match vals, s.h with
 | [.string x0, .int .i64 x1], [] => (g42l0 x0 x1 (r42l0 m x0 x1))
 | _, _ => noQ vals s
theorem p42l0 {α : Type} (ih : ByteArray → Int → Nat) (x0 : ByteArray) (x1 : Int) (f : Nat → α) (u : Nat → α) (h : ∀ p, u p = f p) : w42l0 ih x0 x1 f u = f (w42l0 ih x0 x1 (fun p => p) (fun p => p)) := by unfold w42l0; repeat' (first | refine cond_app f _ ?_ ?_ | rfl | exact h _)
set_option maxRecDepth 100000 in
set_option maxHeartbeats 4000000 in
theorem e42l0 (m : Nat) (x0 : ByteArray) (x1 : Int) : evC Tryd.prog ext T8 noL 200 (loopN Tryd.f42 0) (loopTail ([0, 3], []) [0, 2] [] (sumK 30 [0, 3] [0, 2] (q42l0 m))) (frameOf 30 [0, 3] [.string x0, vi x1]) ⟨[], 0, []⟩ = firstT ((g42l0 x0 x1 (r42l0 (m + 1) x0 x1)).map fun (b, x) => (b, (x.1, frameOf 30 [0, 2] x.2.1, x.2.2))) :=
 Eq.trans (by kernel_rfl) (p42l0 (r42l0 m) x0 x1 (a42l0 x0 x1) (u42l0 x0 x1) (v42l0 x0 x1))
set_option maxRecDepth 100000 in
set_option maxHeartbeats 4000000 in
theorem qm42l0 : ∀ m, SumKOk Tryd.prog (loopN Tryd.f42 0) 30 [0, 3] [0, 2] (q42l0 m) := by
  intro m
  induction m with
  | zero =>
    intro vals s x h1 h2 h3
    unfold q42l0 at h3; split at h3
    · rename_i h; exact absurd h3 (by simp [r42l0, g42l0, firstT, Nat.beq])
    · exact noQ_ok _ _ _ h1 h2 h3
  | succ m ih =>
    intro vals s x h1 h2 h3
    unfold q42l0 at h3; split at h3
    · rename_i h; exact sum_step ok8 extOk mixed ((lfOkF_no _ _).inner (by kernel_rfl)) ih h1 h2 h (e42l0 m _ _) rfl h3
    · exact noQ_ok _ _ _ h1 h2 h3
noncomputable def Q42l0 : SumK := fun vals s => q42l0 (fuelOf vals s.h) vals s
theorem qok42l0 : SumKOk Tryd.prog (loopN Tryd.f42 0) 30 [0, 3] [0, 2] Q42l0 := fuel_ok qm42l0 fuelOf
noncomputable def L42_1 : LoopT := addL noL 3 ([0, 3], []) (sumK 30 [0, 3] [0, 2] Q42l0)
theorem lok42_1 : LfOkF Tryd.prog L42_1 Tryd.f42 := lfOkF_add (lfOkF_no _ _) qok42l0 (by kernel_rfl) (by kernel_rfl) (by kernel_rfl)

/-- spec.l00In -/
noncomputable def w44 {α : Type} (x0 x1 x2 : Int) (k : Bool → α) : α :=
 cond (decide ((x0 : Int) ≥ x1))
  (k ((decide ((x0 : Int) ≤ x2))))
  (k (false))
noncomputable def r44 (x0 x1 x2 : Int) : Bool := w44 x0 x1 x2 (fun p => p)
noncomputable def g44 (x0 x1 x2 : Int) (p : Bool) : List (Bool × Value × St) := [(true, .bool p, st0)]
theorem p44 {α : Type} (x0 x1 x2 : Int) (f : Bool → α) : w44 x0 x1 x2 f = f (w44 x0 x1 x2 (fun p => p)) := by unfold w44; exact (cond_app f _ rfl rfl)
set_option maxRecDepth 100000 in
set_option maxHeartbeats 4000000 in
theorem e44 (x0 x1 x2 : Int) : evFn Tryd.prog ext T8 noL 200 Tryd.f44 [vi x0, vi x1, vi x2] st0 = firstT (g44 x0 x1 x2 (r44 x0 x1 x2)) :=
 Eq.trans (by kernel_rfl) (p44 x0 x1 x2 (fun p => firstT (g44 x0 x1 x2 p)))
noncomputable def s44 (args : List Value) (s : St) : List (Bool × Value × St) :=
 match args, s.h with
 | [.int .i64 x0, .int .i64 x1, .int .i64 x2], [] => (g44 x0 x1 x2 (r44 x0 x1 x2))
 | _, _ => T8 44 args s
noncomputable def T9 : CallF := addF T8 44 s44
set_option maxRecDepth 100000 in
set_option maxHeartbeats 4000000 in
theorem ok9 : CfOk Tryd.prog T9 := by
  refine cfOk_add ok8 fun args s r s' h1 h2 h3 => ?_
  unfold s44 at h3; split at h3
  · rename_i h; exact callOk ok8 Tryd.func44 h1 h2 h (lfOkF_no _ _).body (e44 _ _ _) rfl h3
  · exact ok8 _ _ _ _ _ h1 h2 h3

/-- spec.l05Name -/
noncomputable def w42 {α : Type} (x0 : ByteArray) (k : (Nat × Bool) → α) : α :=
 cond (Nat.beq (r42l0 (1000 + (x0.size)) x0 0) 0)
  (k (0, false))
  (cond (Nat.beq (r42l0 (1000 + (x0.size)) x0 0) 1)
   (cond (r44 (((x0.size) : Nat) : Int) 1 8)
    (cond (!(x0.toList == (ByteArray.mk #[109, 105, 110]).toList))
     (cond (!(x0.toList == (ByteArray.mk #[109, 97, 120]).toList))
      (k (0, (!(x0.toList == (ByteArray.mk #[112, 105, 99, 107]).toList))))
      (k (0, false)))
     (k (0, false)))
    (k (0, false)))
   (k (1, false)))
noncomputable def r42 (x0 : ByteArray) : Nat × Bool := w42 x0 (fun p => p)
noncomputable def g42 (x0 : ByteArray) (p : Nat × Bool) : List (Bool × Value × St) := [((Nat.beq (p.1) 0), .bool (p.2), st0)]
theorem p42 {α : Type} (x0 : ByteArray) (f : (Nat × Bool) → α) : w42 x0 f = f (w42 x0 (fun p => p)) := by unfold w42; repeat' (first | refine cond_app f _ ?_ ?_ | rfl)
set_option maxRecDepth 100000 in
set_option maxHeartbeats 4000000 in
theorem e42 (x0 : ByteArray) : evFn Tryd.prog ext T9 L42_1 200 Tryd.f42 [.string x0] st0 = firstT (g42 x0 (r42 x0)) :=
 Eq.trans (by kernel_rfl) (p42 x0 (fun p => firstT (g42 x0 p)))
noncomputable def s42 (args : List Value) (s : St) : List (Bool × Value × St) :=
 match args, s.h with
 | [.string x0], [] => (g42 x0 (r42 x0))
 | _, _ => T9 42 args s
noncomputable def T10 : CallF := addF T9 42 s42
set_option maxRecDepth 100000 in
set_option maxHeartbeats 4000000 in
theorem ok10 : CfOk Tryd.prog T10 := by
  refine cfOk_add ok9 fun args s r s' h1 h2 h3 => ?_
  unfold s42 at h3; split at h3
  · rename_i h; exact callOk ok9 Tryd.func42 h1 h2 h lok42_1.body (e42 _) rfl h3
  · exact ok9 _ _ _ _ _ h1 h2 h3

/-- spec.l05Find, loop 0 -/
noncomputable def w43l0 {α : Type} (x0 : ByteArray) (k : Unit → α) : α :=
 k ()
noncomputable def r43l0 (x0 : ByteArray) : Unit := w43l0 x0 (fun p => p)
noncomputable def g43l0 (x0 : ByteArray) (p : Unit) : List (Bool × (Fin' × List Value × St)) := [(true, .exit 0, [anyV], st0)]
theorem p43l0 {α : Type} (x0 : ByteArray) (f : Unit → α) : w43l0 x0 f = f (w43l0 x0 (fun p => p)) := by unfold w43l0; exact rfl
set_option maxRecDepth 100000 in
set_option maxHeartbeats 4000000 in
theorem e43l0 (x0 : ByteArray) : evC Tryd.prog ext T10 noL 200 (loopN Tryd.f43 0) (loopTail ([0, 1, 5], []) [4] [] (sumK 19 [0, 1, 5] [4] noQ)) (frameOf 19 [0, 1, 5] [.iface 0 (.slice none 0 0), .string x0, vi 0]) ⟨[], 0, []⟩ = firstT ((g43l0 x0 (r43l0 x0)).map fun (b, x) => (b, (x.1, frameOf 19 [4] x.2.1, x.2.2))) :=
 Eq.trans (by kernel_rfl) (p43l0 x0 (fun p => firstT ((g43l0 x0 p).map fun (b, x) => (b, (x.1, frameOf 19 [4] x.2.1, x.2.2)))))
noncomputable def Q43l0 : SumK := fun vals s =>
 match vals, s.h with
 | [.iface f0 (.slice none f1 f2), .string x0, .int .i64 f3], [] => if f0 = 0 ∧ f1 = 0 ∧ f2 = 0 ∧ f3 = 0 then (g43l0 x0 (r43l0 x0)) else noQ vals s
 | _, _ => noQ vals s
set_option maxRecDepth 100000 in
set_option maxHeartbeats 4000000 in
theorem qok43l0 : SumKOk Tryd.prog (loopN Tryd.f43 0) 19 [0, 1, 5] [4] Q43l0 := by
  intro vals s x h1 h2 h3
  unfold Q43l0 at h3; split at h3
  · rename_i h; split at h3
    · rename_i hc; obtain ⟨rfl, rfl, rfl, rfl⟩ := hc; exact sum_step ok10 extOk mixed ((lfOkF_no _ _).inner (by kernel_rfl)) noQ_ok h1 h2 h (e43l0 _) rfl h3
    · exact noQ_ok _ _ _ h1 h2 h3
  · exact noQ_ok _ _ _ h1 h2 h3
noncomputable def L43_1 : LoopT := addL noL 3 ([0, 1, 5], []) (sumK 19 [0, 1, 5] [4] Q43l0)
theorem lok43_1 : LfOkF Tryd.prog L43_1 Tryd.f43 := lfOkF_add (lfOkF_no _ _) qok43l0 (by kernel_rfl) (by kernel_rfl) (by kernel_rfl)

/-- spec.l05Find -/
noncomputable def w43 {α : Type} (x0 : ByteArray) (k : Unit → α) : α :=
 k ()
noncomputable def r43 (x0 : ByteArray) : Unit := w43 x0 (fun p => p)
noncomputable def g43 (x0 : ByteArray) (p : Unit) : List (Bool × Value × St) := [(true, vi (-1), st0)]
theorem p43 {α : Type} (x0 : ByteArray) (f : Unit → α) : w43 x0 f = f (w43 x0 (fun p => p)) := by unfold w43; exact rfl
set_option maxRecDepth 100000 in
set_option maxHeartbeats 4000000 in
theorem e43 (x0 : ByteArray) : evFn Tryd.prog ext T10 L43_1 200 Tryd.f43 [.iface 0 (.slice none 0 0), .string x0] st0 = firstT (g43 x0 (r43 x0)) :=
 Eq.trans (by kernel_rfl) (p43 x0 (fun p => firstT (g43 x0 p)))
noncomputable def s43 (args : List Value) (s : St) : List (Bool × Value × St) :=
 match args, s.h with
 | [.iface f0 (.slice none f1 f2), .string x0], [] => if f0 = 0 ∧ f1 = 0 ∧ f2 = 0 then (g43 x0 (r43 x0)) else T10 43 args s
 | _, _ => T10 43 args s
noncomputable def T11 : CallF := addF T10 43 s43
set_option maxRecDepth 100000 in
set_option maxHeartbeats 4000000 in
theorem ok11 : CfOk Tryd.prog T11 := by
  refine cfOk_add ok10 fun args s r s' h1 h2 h3 => ?_
  unfold s43 at h3; split at h3
  · rename_i h; split at h3
    · rename_i hc; obtain ⟨rfl, rfl, rfl⟩ := hc; exact callOk ok10 Tryd.func43 h1 h2 h lok43_1.body (e43 _) rfl h3
    · exact ok10 _ _ _ _ _ h1 h2 h3
  · exact ok10 _ _ _ _ _ h1 h2 h3

/-- spec.l05Find, loop 0: one round -/
noncomputable def w43l0b {α : Type} (ih : Nat → Nat → ByteArray → Int → List ByteArray → (Nat × Int)) (x0 x1 : Nat) (x2 : ByteArray) (x3 : Int) (x4 : List ByteArray) (k k2 : (Nat × Int) → α) : α :=
 cond (decide ((x3 : Int) < ((x0 : Nat) : Int)))
  (cond ((decide ((0 : Int) ≤ x3)) && (Nat.blt (Int.toNat x3) x0))
   (cond (Nat.blt (0 + (Int.toNat x3)) x4.length)
    (cond ((x4.getD (0 + (Int.toNat x3)) .empty).toList == x2.toList)
     (k (0, x3))
     (k2 (ih x0 x1 x2 (IntKind.i64.wrap (x3 + 1)) x4)))
    (k (2, 0)))
   (k (2, 0)))
  (k (1, 0))
noncomputable def b43l0b (ih : Nat → Nat → ByteArray → Int → List ByteArray → (Nat × Int)) (x0 x1 : Nat) (x2 : ByteArray) (x3 : Int) (x4 : List ByteArray) : Nat × Int := w43l0b ih x0 x1 x2 x3 x4 (fun p => p) (fun p => p)
noncomputable def r43l0b : Nat → Nat → Nat → ByteArray → Int → List ByteArray → (Nat × Int)
 | 0 => fun _ _ _ _ _ => (2, 0)
 | m + 1 => b43l0b (r43l0b m)
noncomputable def g43l0b (x0 x1 : Nat) (x2 : ByteArray) (x3 : Int) (x4 : List ByteArray) (p : Nat × Int) : List (Bool × (Fin' × List Value × St)) := [((Nat.beq (p.1) 0), .ret, [vi (p.2)], ⟨[⟨true, (some (.strs x4))⟩], 1, []⟩), ((Nat.beq (p.1) 1), .exit 0, [anyV], ⟨[⟨true, (some (.strs x4))⟩], 1, []⟩)]
noncomputable def a43l0b (x0 x1 : Nat) (x2 : ByteArray) (x3 : Int) (x4 : List ByteArray) (p : Nat × Int) : Option (Fin' × List Value × St) := firstT ((g43l0b x0 x1 x2 x3 x4 p).map fun (b, x) => (b, (x.1, frameOf 19 [4] x.2.1, x.2.2)))
noncomputable def u43l0b (x0 x1 : Nat) (x2 : ByteArray) (x3 : Int) (x4 : List ByteArray) (p : Nat × Int) : Option (Fin' × List Value × St) := alts ((g43l0b x0 x1 x2 x3 x4 p).map fun (b, x) => (b, (x.1, frameOf 19 [4] x.2.1, x.2.2))) some
theorem v43l0b (x0 x1 : Nat) (x2 : ByteArray) (x3 : Int) (x4 : List ByteArray) (p : Nat × Int) : u43l0b x0 x1 x2 x3 x4 p = a43l0b x0 x1 x2 x3 x4 p := alts_first _
noncomputable def q43l0b (m : Nat) : SumK := fun vals s =>
 match vals, s.h with
 | [.slice (some ⟨f0, f1, some f2⟩) x0 x1, .string x2, .int .i64 x3], [⟨true, some (.strs x4)⟩] => if f0 = 0 ∧ f1 = 0 ∧ f2 = 0 then (g43l0b x0 x1 x2 x3 x4 (r43l0b m x0 x1 x2 x3 x4)) else Q43l0 vals s
 | _, _ => Q43l0 vals s
theorem p43l0b {α : Type} (ih : Nat → Nat → ByteArray → Int → List ByteArray → (Nat × Int)) (x0 x1 : Nat) (x2 : ByteArray) (x3 : Int) (x4 : List ByteArray) (f : (Nat × Int) → α) (u : (Nat × Int) → α) (h : ∀ p, u p = f p) : w43l0b ih x0 x1 x2 x3 x4 f u = f (w43l0b ih x0 x1 x2 x3 x4 (fun p => p) (fun p => p)) := by unfold w43l0b; repeat' (first | refine cond_app f _ ?_ ?_ | rfl | exact h _)
set_option maxRecDepth 100000 in
set_option maxHeartbeats 4000000 in
theorem e43l0b (m : Nat) (x0 x1 : Nat) (x2 : ByteArray) (x3 : Int) (x4 : List ByteArray) : evC Tryd.prog ext T11 L43_1 200 (loopN Tryd.f43 0) (loopTail ([0, 1, 5], []) [4] [] (sumK 19 [0, 1, 5] [4] (q43l0b m))) (frameOf 19 [0, 1, 5] [.slice (some ⟨0, 0, some 0⟩) x0 x1, .string x2, vi x3]) ⟨[⟨true, (some (.strs x4))⟩], 1, []⟩ = firstT ((g43l0b x0 x1 x2 x3 x4 (r43l0b (m + 1) x0 x1 x2 x3 x4)).map fun (b, x) => (b, (x.1, frameOf 19 [4] x.2.1, x.2.2))) :=
 Eq.trans (by kernel_rfl) (p43l0b (r43l0b m) x0 x1 x2 x3 x4 (a43l0b x0 x1 x2 x3 x4) (u43l0b x0 x1 x2 x3 x4) (v43l0b x0 x1 x2 x3 x4))
set_option maxRecDepth 100000 in
set_option maxHeartbeats 4000000 in
theorem qm43l0b : ∀ m, SumKOk Tryd.prog (loopN Tryd.f43 0) 19 [0, 1, 5] [4] (q43l0b m) := by
  intro m
  induction m with
  | zero =>
    intro vals s x h1 h2 h3
    unfold q43l0b at h3; split at h3
    · rename_i h; split at h3
      · rename_i hc; obtain ⟨rfl, rfl, rfl⟩ := hc; exact absurd h3 (by simp [r43l0b, g43l0b, firstT, Nat.beq])
      · exact qok43l0 _ _ _ h1 h2 h3
    · exact qok43l0 _ _ _ h1 h2 h3
  | succ m ih =>
    intro vals s x h1 h2 h3
    unfold q43l0b at h3; split at h3
    · rename_i h; split at h3
      · rename_i hc; obtain ⟨rfl, rfl, rfl⟩ := hc; exact sum_step ok11 extOk mixed (lok43_1.inner (by kernel_rfl)) ih h1 h2 h (e43l0b m _ _ _ _ _) rfl h3
      · exact qok43l0 _ _ _ h1 h2 h3
    · exact qok43l0 _ _ _ h1 h2 h3
noncomputable def Q43l0b : SumK := fun vals s => q43l0b (fuelOf vals s.h) vals s
theorem qok43l0b : SumKOk Tryd.prog (loopN Tryd.f43 0) 19 [0, 1, 5] [4] Q43l0b := fuel_ok qm43l0b fuelOf
noncomputable def L43_2 : LoopT := addL L43_1 3 ([0, 1, 5], []) (sumK 19 [0, 1, 5] [4] Q43l0b)
theorem lok43_2 : LfOkF Tryd.prog L43_2 Tryd.f43 := lfOkF_add lok43_1 qok43l0b (by kernel_rfl) (by kernel_rfl) (by kernel_rfl)

/-- spec.l05Find -/
noncomputable def w43b {α : Type} (x0 x1 : Nat) (x2 : ByteArray) (x3 : List ByteArray) (k : (Nat × Int) → α) : α :=
 let c41 := (r43l0b (1000 + x3.length + (x2.size)) x0 x1 x2 0 x3)
 cond (Nat.beq (c41.1) 0)
  (k (0, (c41.2)))
  (cond (Nat.beq (c41.1) 1)
   (k (0, (-1)))
   (k (1, 0)))
noncomputable def r43b (x0 x1 : Nat) (x2 : ByteArray) (x3 : List ByteArray) : Nat × Int := w43b x0 x1 x2 x3 (fun p => p)
noncomputable def g43b (x0 x1 : Nat) (x2 : ByteArray) (x3 : List ByteArray) (p : Nat × Int) : List (Bool × Value × St) := [((Nat.beq (p.1) 0), vi (p.2), ⟨[⟨true, (some (.strs x3))⟩], 1, []⟩)]
theorem p43b {α : Type} (x0 x1 : Nat) (x2 : ByteArray) (x3 : List ByteArray) (f : (Nat × Int) → α) : w43b x0 x1 x2 x3 f = f (w43b x0 x1 x2 x3 (fun p => p)) := by unfold w43b; exact (cond_app f _ rfl (cond_app f _ rfl rfl))
set_option maxRecDepth 100000 in
set_option maxHeartbeats 4000000 in
theorem e43b (x0 x1 : Nat) (x2 : ByteArray) (x3 : List ByteArray) : evFn Tryd.prog ext T11 L43_2 200 Tryd.f43 [.slice (some ⟨0, 0, some 0⟩) x0 x1, .string x2] ⟨[⟨true, (some (.strs x3))⟩], 1, []⟩ = firstT (g43b x0 x1 x2 x3 (r43b x0 x1 x2 x3)) :=
 Eq.trans (by kernel_rfl) (p43b x0 x1 x2 x3 (fun p => firstT (g43b x0 x1 x2 x3 p)))
noncomputable def s43b (args : List Value) (s : St) : List (Bool × Value × St) :=
 match args, s.h with
 | [.slice (some ⟨f0, f1, some f2⟩) x0 x1, .string x2], [⟨true, some (.strs x3)⟩] => if f0 = 0 ∧ f1 = 0 ∧ f2 = 0 then (g43b x0 x1 x2 x3 (r43b x0 x1 x2 x3)) else T11 43 args s
 | _, _ => T11 43 args s
noncomputable def T12 : CallF := addF T11 43 s43b
set_option maxRecDepth 100000 in
set_option maxHeartbeats 4000000 in
theorem ok12 : CfOk Tryd.prog T12 := by
  refine cfOk_add ok11 fun args s r s' h1 h2 h3 => ?_
  unfold s43b at h3; split at h3
  · rename_i h; split at h3
    · rename_i hc; obtain ⟨rfl, rfl, rfl⟩ := hc; exact callOk ok11 Tryd.func43 h1 h2 h lok43_2.body (e43b _ _ _ _) rfl h3
    · exact ok11 _ _ _ _ _ h1 h2 h3
  · exact ok11 _ _ _ _ _ h1 h2 h3

/-- spec.l05Program, loop 0: one round -/
noncomputable def b17l0 (ih : Int → List ByteArray → List (List Int) → Nat) (x0 : Int) (x1 : List ByteArray) (x2 : List (List Int)) : Nat :=
 let c43 := (r43b (Int.toNat x0) x1.length (x1.getD (Int.toNat x0) .empty) x1)
 cond (decide ((x0 : Int) < ((x1.length : Nat) : Int)))
  (cond ((decide ((0 : Int) ≤ x0)) && (Nat.blt (Int.toNat x0) x1.length))
   (cond (Nat.beq ((r42 (x1.getD (Int.toNat x0) .empty)).1) 0)
    (cond (!((r42 (x1.getD (Int.toNat x0) .empty)).2))
     (0)
     (cond ((Nat.blt 0 x1.length) && (((decide ((0 : Int) ≤ x0)) && (Nat.ble 0 (Int.toNat x0))) && (Nat.ble (Int.toNat x0) x1.length)))
      (cond (Nat.beq (c43.1) 0)
       (cond (decide (((c43.2) : Int) ≥ 0))
        (0)
        (ih (IntKind.i64.wrap (x0 + 1)) x1 x2))
       (2))
      (cond ((Nat.beq 0 x1.length) && (((decide ((0 : Int) ≤ x0)) && (Nat.ble 0 (Int.toNat x0))) && (Nat.ble (Int.toNat x0) x1.length)))
       (ih (IntKind.i64.wrap (x0 + 1)) x1 x2)
       (2))))
    (2))
   (2))
  (1)
noncomputable def r17l0 : Nat → Int → List ByteArray → List (List Int) → Nat
 | 0 => fun _ _ _ => (2)
 | m + 1 => b17l0 (r17l0 m)
noncomputable def a17l0 (x0 : Int) (x1 : List ByteArray) (x2 : List (List Int)) (p : Nat) : Option (Fin' × List Value × St) := firstT ([((Nat.beq p 0), .ret, [vp 0, .bool false], ⟨[⟨true, (some (.cells [wsl 1, wsl 2]))⟩, ⟨true, (some (.strs x1))⟩, ⟨true, (some (.tab [.int .i8, .int .i16, .fl .f32] x2))⟩], 3, []⟩), ((Nat.beq p 1), .exit 0, [vp 0, anyV], ⟨[⟨true, (some (.cells [wsl 1, wsl 2]))⟩, ⟨true, (some (.strs x1))⟩, ⟨true, (some (.tab [.int .i8, .int .i16, .fl .f32] x2))⟩], 3, []⟩)].map fun (b, x) => (b, (x.1, frameOf 125 [0, 2] x.2.1, x.2.2)))
noncomputable def u17l0 (x0 : Int) (x1 : List ByteArray) (x2 : List (List Int)) (p : Nat) : Option (Fin' × List Value × St) := alts ([((Nat.beq p 0), .ret, [vp 0, .bool false], ⟨[⟨true, (some (.cells [wsl 1, wsl 2]))⟩, ⟨true, (some (.strs x1))⟩, ⟨true, (some (.tab [.int .i8, .int .i16, .fl .f32] x2))⟩], 3, []⟩), ((Nat.beq p 1), .exit 0, [vp 0, anyV], ⟨[⟨true, (some (.cells [wsl 1, wsl 2]))⟩, ⟨true, (some (.strs x1))⟩, ⟨true, (some (.tab [.int .i8, .int .i16, .fl .f32] x2))⟩], 3, []⟩)].map fun (b, x) => (b, (x.1, frameOf 125 [0, 2] x.2.1, x.2.2))) some
theorem v17l0 (x0 : Int) (x1 : List ByteArray) (x2 : List (List Int)) (p : Nat) : u17l0 x0 x1 x2 p = a17l0 x0 x1 x2 p := alts_first _
noncomputable def q17l0 (m : Nat) : SumK := fun vals s =>
 match vals, s.h with
 | [.pointer (some ⟨f0, f1, some f2⟩), .int .i64 x0], [⟨true, some (.cells [.iface f3 .nilIface, .iface f4 .nilIface])⟩, ⟨true, some (.strs x1)⟩, ⟨true, some (.tab [.int .i8, .int .i16, .fl .f32] x2)⟩] => if f0 = 0 ∧ f1 = 0 ∧ f2 = 0 ∧ f3 = 1 ∧ f4 = 2 then [((Nat.beq (r17l0 m x0 x1 x2) 0), .ret, [vp 0, .bool false], ⟨[⟨true, (some (.cells [wsl 1, wsl 2]))⟩, ⟨true, (some (.strs x1))⟩, ⟨true, (some (.tab [.int .i8, .int .i16, .fl .f32] x2))⟩], 3, []⟩), ((Nat.beq (r17l0 m x0 x1 x2) 1), .exit 0, [vp 0, anyV], ⟨[⟨true, (some (.cells [wsl 1, wsl 2]))⟩, ⟨true, (some (.strs x1))⟩, ⟨true, (some (.tab [.int .i8, .int .i16, .fl .f32] x2))⟩], 3, []⟩)] else noQ vals s
 | _, _ => noQ vals s
noncomputable def w17l0 (ih : Int → List ByteArray → List (List Int) → Nat) (x0 : Int) (x1 : List ByteArray) (x2 : List (List Int)) : Option (Fin' × List Value × St) :=
 let c43 := (r43b (Int.toNat x0) x1.length (x1.getD (Int.toNat x0) .empty) x1)
 (cond (decide ((x0 : Int) < ((x1.length : Nat) : Int)))
 (cond ((decide ((0 : Int) ≤ x0)) && (Nat.blt (Int.toNat x0) x1.length))
  (cond (Nat.blt (Int.toNat x0) x1.length)
   (cond (Nat.beq ((r42 (x1.getD (Int.toNat x0) .empty)).1) 0)
    (cond (!((r42 (x1.getD (Int.toNat x0) .empty)).2))
     (a17l0 x0 x1 x2 (0))
     (cond ((Nat.blt 0 x1.length) && (((decide ((0 : Int) ≤ x0)) && (Nat.ble 0 (Int.toNat x0))) && (Nat.ble (Int.toNat x0) x1.length)))
      (cond ((decide ((0 : Int) ≤ x0)) && (Nat.blt (Int.toNat x0) x1.length))
       (cond (Nat.blt (Int.toNat x0) x1.length)
        (cond (Nat.beq (c43.1) 0)
         (cond (decide (((c43.2) : Int) ≥ 0))
          (a17l0 x0 x1 x2 (0))
          (u17l0 x0 x1 x2 (ih (IntKind.i64.wrap (x0 + 1)) x1 x2)))
         none)
        none)
       none)
      (cond ((Nat.beq 0 x1.length) && (((decide ((0 : Int) ≤ x0)) && (Nat.ble 0 (Int.toNat x0))) && (Nat.ble (Int.toNat x0) x1.length)))
       (cond ((decide ((0 : Int) ≤ x0)) && (Nat.blt (Int.toNat x0) x1.length))
        (cond (Nat.blt (Int.toNat x0) x1.length)
         (u17l0 x0 x1 x2 (ih (IntKind.i64.wrap (x0 + 1)) x1 x2))
         none)
        none)
       none)))
    none)
   none)
  none)
 (a17l0 x0 x1 x2 (1)))
set_option maxRecDepth 100000 in
set_option maxHeartbeats 4000000 in
theorem e17l0 (m : Nat) (x0 : Int) (x1 : List ByteArray) (x2 : List (List Int)) : evC Tryd.prog ext T12 noL 200 (loopN Tryd.f17 0) (loopTail ([0, 3], []) [0, 2] [] (sumK 125 [0, 3] [0, 2] (q17l0 m))) (frameOf 125 [0, 3] [vp 0, vi x0]) ⟨[⟨true, (some (.cells [wsl 1, wsl 2]))⟩, ⟨true, (some (.strs x1))⟩, ⟨true, (some (.tab [.int .i8, .int .i16, .fl .f32] x2))⟩], 3, []⟩ = firstT ([((Nat.beq (r17l0 (m + 1) x0 x1 x2) 0), .ret, [vp 0, .bool false], ⟨[⟨true, (some (.cells [wsl 1, wsl 2]))⟩, ⟨true, (some (.strs x1))⟩, ⟨true, (some (.tab [.int .i8, .int .i16, .fl .f32] x2))⟩], 3, []⟩), ((Nat.beq (r17l0 (m + 1) x0 x1 x2) 1), .exit 0, [vp 0, anyV], ⟨[⟨true, (some (.cells [wsl 1, wsl 2]))⟩, ⟨true, (some (.strs x1))⟩, ⟨true, (some (.tab [.int .i8, .int .i16, .fl .f32] x2))⟩], 3, []⟩)].map fun (b, x) => (b, (x.1, frameOf 125 [0, 2] x.2.1, x.2.2))) :=
 (show evC Tryd.prog ext T12 noL 200 (loopN Tryd.f17 0) (loopTail ([0, 3], []) [0, 2] [] (sumK 125 [0, 3] [0, 2] (q17l0 m))) (frameOf 125 [0, 3] [vp 0, vi x0]) ⟨[⟨true, (some (.cells [wsl 1, wsl 2]))⟩, ⟨true, (some (.strs x1))⟩, ⟨true, (some (.tab [.int .i8, .int .i16, .fl .f32] x2))⟩], 3, []⟩ = w17l0 (r17l0 m) x0 x1 x2 from by kernel_rfl).trans
 (show w17l0 (r17l0 m) x0 x1 x2 = a17l0 x0 x1 x2 (r17l0 (m + 1) x0 x1 x2) from by unfold w17l0; show _ = a17l0 x0 x1 x2 (b17l0 (r17l0 m) x0 x1 x2); unfold b17l0; exact (cond_both (a17l0 x0 x1 x2) _ (fun h0 => (cond_both (a17l0 x0 x1 x2) _ (fun h1 => (cond_t (ev_and2 h1) (cond_both (a17l0 x0 x1 x2) _ (fun h2 => (cond_both (a17l0 x0 x1 x2) _ (fun h3 => rfl) (fun h3 => (cond_both (a17l0 x0 x1 x2) _ (fun h4 => (cond_t h1 (cond_t (ev_and2 h1) (cond_app (a17l0 x0 x1 x2) _ (cond_app (a17l0 x0 x1 x2) _ rfl (v17l0 x0 x1 x2 ((r17l0 m) (IntKind.i64.wrap (x0 + 1)) x1 x2))) rfl)))) (fun h4 => (cond_both (a17l0 x0 x1 x2) _ (fun h5 => (cond_t h1 (cond_t (ev_and2 h1) (v17l0 x0 x1 x2 ((r17l0 m) (IntKind.i64.wrap (x0 + 1)) x1 x2))))) (fun h5 => rfl))))))) (fun h2 => rfl)))) (fun h1 => rfl))) (fun h0 => rfl)))
set_option maxRecDepth 100000 in
set_option maxHeartbeats 4000000 in
theorem qm17l0 : ∀ m, SumKOk Tryd.prog (loopN Tryd.f17 0) 125 [0, 3] [0, 2] (q17l0 m) := by
  intro m
  induction m with
  | zero =>
    intro vals s x h1 h2 h3
    unfold q17l0 at h3; split at h3
    · rename_i h; split at h3
      · rename_i hc; obtain ⟨rfl, rfl, rfl, rfl, rfl⟩ := hc; exact absurd h3 (by simp [r17l0, firstT, Nat.beq])
      · exact noQ_ok _ _ _ h1 h2 h3
    · exact noQ_ok _ _ _ h1 h2 h3
  | succ m ih =>
    intro vals s x h1 h2 h3
    unfold q17l0 at h3; split at h3
    · rename_i h; split at h3
      · rename_i hc; obtain ⟨rfl, rfl, rfl, rfl, rfl⟩ := hc; exact sum_step ok12 extOk mixed ((lfOkF_no _ _).inner (by kernel_rfl)) ih h1 h2 h (e17l0 m _ _ _) rfl h3
      · exact noQ_ok _ _ _ h1 h2 h3
    · exact noQ_ok _ _ _ h1 h2 h3
noncomputable def Q17l0 : SumK := fun vals s => q17l0 (fuelOf vals s.h) vals s
theorem qok17l0 : SumKOk Tryd.prog (loopN Tryd.f17 0) 125 [0, 3] [0, 2] Q17l0 := fuel_ok qm17l0 fuelOf
noncomputable def L17_1 : LoopT := addL noL 5 ([0, 3], []) (sumK 125 [0, 3] [0, 2] Q17l0)
theorem lok17_1 : LfOkF Tryd.prog L17_1 Tryd.f17 := lfOkF_add (lfOkF_no _ _) qok17l0 (by kernel_rfl) (by kernel_rfl) (by kernel_rfl)

/-- spec.l01Finite -/
noncomputable def w78 {α : Type} (x0 : Nat) (k : Bool → α) : α :=
 k ((feq .f32 (fsub .f32 x0 x0) 0))
noncomputable def r78 (x0 : Nat) : Bool := w78 x0 (fun p => p)
noncomputable def g78 (x0 : Nat) (p : Bool) : List (Bool × Value × St) := [(true, .bool p, st0)]
theorem p78 {α : Type} (x0 : Nat) (f : Bool → α) : w78 x0 f = f (w78 x0 (fun p => p)) := by unfold w78; exact rfl
set_option maxRecDepth 100000 in
set_option maxHeartbeats 4000000 in
theorem e78 (x0 : Nat) : evFn Tryd.prog ext T12 noL 200 Tryd.f78 [vf x0] st0 = firstT (g78 x0 (r78 x0)) :=
 Eq.trans (by kernel_rfl) (p78 x0 (fun p => firstT (g78 x0 p)))
noncomputable def s78 (args : List Value) (s : St) : List (Bool × Value × St) :=
 match args, s.h with
 | [.float .f32 x0], [] => (g78 x0 (r78 x0))
 | _, _ => T12 78 args s
noncomputable def T13 : CallF := addF T12 78 s78
set_option maxRecDepth 100000 in
set_option maxHeartbeats 4000000 in
theorem ok13 : CfOk Tryd.prog T13 := by
  refine cfOk_add ok12 fun args s r s' h1 h2 h3 => ?_
  unfold s78 at h3; split at h3
  · rename_i h; exact callOk ok12 Tryd.func78 h1 h2 h (lfOkF_no _ _).body (e78 _) rfl h3
  · exact ok12 _ _ _ _ _ h1 h2 h3

/-- spec.l05Takes -/
noncomputable def r46 (x0 : Int) : Int × Int :=
 cond ((x0 : Int) == 1)
  (0, 1)
  (cond ((x0 : Int) == 2)
   (0, 1)
   (cond ((x0 : Int) == 3)
    (0, 1)
    (cond ((x0 : Int) == 4)
     (1, 0)
     (cond ((x0 : Int) == 12)
      (1, 1)
      (cond ((x0 : Int) == 11)
       (3, 1)
       (2, 1))))))
noncomputable def a46 (x0 : Int) (p : Int × Int) : Res := firstT [(true, .tuple #[vi (p.1), vi (p.2)], st0)]
noncomputable def w46 (x0 : Int) : Res :=
 (cond ((x0 : Int) == 1)
 (cond ((x0 : Int) == 1)
  (a46 x0 (0, 1))
  (cond ((x0 : Int) == 4)
   (some (.tuple #[vi 1, vi 0], st0))
   (cond ((x0 : Int) == 12)
    (some (.tuple #[vi 1, vi 1], st0))
    (cond ((x0 : Int) == 11)
     (some (.tuple #[vi 3, vi 1], st0))
     (some (.tuple #[vi 2, vi 1], st0))))))
 (cond ((x0 : Int) == 2)
  (cond ((x0 : Int) == 2)
   (a46 x0 (0, 1))
   (cond ((x0 : Int) == 4)
    (some (.tuple #[vi 1, vi 0], st0))
    (cond ((x0 : Int) == 12)
     (some (.tuple #[vi 1, vi 1], st0))
     (cond ((x0 : Int) == 11)
      (some (.tuple #[vi 3, vi 1], st0))
      (some (.tuple #[vi 2, vi 1], st0))))))
  (cond ((x0 : Int) == 3)
   (a46 x0 (0, 1))
   (cond ((x0 : Int) == 4)
    (a46 x0 (1, 0))
    (cond ((x0 : Int) == 12)
     (a46 x0 (1, 1))
     (cond ((x0 : Int) == 11)
      (a46 x0 (3, 1))
      (a46 x0 (2, 1))))))))
set_option maxRecDepth 100000 in
set_option maxHeartbeats 4000000 in
theorem e46 (x0 : Int) : evFn Tryd.prog ext T13 noL 200 Tryd.f46 [.int .i8 x0] st0 = firstT [(true, .tuple #[vi ((r46 x0).1), vi ((r46 x0).2)], st0)] :=
 (show evFn Tryd.prog ext T13 noL 200 Tryd.f46 [.int .i8 x0] st0 = w46 x0 from by kernel_rfl).trans
 (show w46 x0 = a46 x0 (r46 x0) from by unfold w46 r46; exact (cond_both (a46 x0) _ (fun h0 => (cond_t h0 rfl)) (fun h0 => (cond_both (a46 x0) _ (fun h1 => (cond_t h1 rfl)) (fun h1 => (cond_app (a46 x0) _ rfl (cond_app (a46 x0) _ rfl (cond_app (a46 x0) _ rfl (cond_app (a46 x0) _ rfl rfl)))))))))
noncomputable def s46 (args : List Value) (s : St) : List (Bool × Value × St) :=
 match args, s.h with
 | [.int .i8 x0], [] => [(true, .tuple #[vi ((r46 x0).1), vi ((r46 x0).2)], st0)]
 | _, _ => T13 46 args s
noncomputable def T14 : CallF := addF T13 46 s46
set_option maxRecDepth 100000 in
set_option maxHeartbeats 4000000 in
theorem ok14 : CfOk Tryd.prog T14 := by
  refine cfOk_add ok13 fun args s r s' h1 h2 h3 => ?_
  unfold s46 at h3; split at h3
  · rename_i h; exact callOk ok13 Tryd.func46 h1 h2 h (lfOkF_no _ _).body (e46 _) rfl h3
  · exact ok13 _ _ _ _ _ h1 h2 h3

/-- spec.l05Fields -/
noncomputable def r45 (x0 : Nat) (x1 : Int) (x2 : List (List Int)) : Nat × Bool :=
 let c103 := (r78 (Int.toNat ((x2.getD x0 []).getD 2 0)))
 let c104 := (r44 (IntKind.i64.wrap ((x2.getD x0 []).getD 1 0)) 0 3)
 let c105 := (r44 (IntKind.i64.wrap ((x2.getD x0 []).getD 1 0)) 0 (IntKind.i64.wrap (x1 - 1)))
 cond (Nat.blt x0 x2.length)
  (cond (!c103)
   (0, false)
   (cond (!isN .f32 (Int.toNat ((x2.getD x0 []).getD 2 0)))
    (cond (((((Int.toNat ((x2.getD x0 []).getD 2 0)) : Nat) : Int) : Int) == 2147483648)
     (0, false)
     (cond ((((x2.getD x0 []).getD 0 0) : Int) != 1)
      (cond (!feq .f32 (Int.toNat ((x2.getD x0 []).getD 2 0)) 0)
       (0, false)
       (cond ((((x2.getD x0 []).getD 0 0) : Int) == 2)
        (0, c104)
        (cond ((((x2.getD x0 []).getD 0 0) : Int) == 3)
         (0, c105)
         (cond ((((x2.getD x0 []).getD 0 0) : Int) == 4)
          (0, (((IntKind.i64.wrap ((x2.getD x0 []).getD 1 0)) : Int) == x1))
          (0, ((((x2.getD x0 []).getD 1 0) : Int) == 0))))))
      (cond ((((x2.getD x0 []).getD 0 0) : Int) == 2)
       (0, c104)
       (cond ((((x2.getD x0 []).getD 0 0) : Int) == 3)
        (0, c105)
        (cond ((((x2.getD x0 []).getD 0 0) : Int) == 4)
         (0, (((IntKind.i64.wrap ((x2.getD x0 []).getD 1 0)) : Int) == x1))
         (0, ((((x2.getD x0 []).getD 1 0) : Int) == 0)))))))
    (cond ((((x2.getD x0 []).getD 0 0) : Int) != 1)
     (0, false)
     (cond ((((x2.getD x0 []).getD 0 0) : Int) == 2)
      (0, c104)
      (cond ((((x2.getD x0 []).getD 0 0) : Int) == 3)
       (0, c105)
       (cond ((((x2.getD x0 []).getD 0 0) : Int) == 4)
        (0, (((IntKind.i64.wrap ((x2.getD x0 []).getD 1 0)) : Int) == x1))
        (0, ((((x2.getD x0 []).getD 1 0) : Int) == 0))))))))
  (1, false)
noncomputable def a45 (x0 : Nat) (x1 : Int) (x2 : List (List Int)) (p : Nat × Bool) : Res := firstT [((Nat.beq (p.1) 0), .bool (p.2), ⟨[⟨true, (some (.tab [.int .i8, .int .i16, .fl .f32] x2))⟩], 1, []⟩)]
noncomputable def w45 (x0 : Nat) (x1 : Int) (x2 : List (List Int)) : Res :=
 let c103 := (r78 (Int.toNat ((x2.getD x0 []).getD 2 0)))
 let c104 := (r44 (IntKind.i64.wrap ((x2.getD x0 []).getD 1 0)) 0 3)
 let c105 := (r44 (IntKind.i64.wrap ((x2.getD x0 []).getD 1 0)) 0 (IntKind.i64.wrap (x1 - 1)))
 (cond (Nat.blt x0 x2.length)
 (cond (!c103)
  (a45 x0 x1 x2 (0, false))
  (cond (Nat.blt x0 x2.length)
   (cond (!isN .f32 (Int.toNat ((x2.getD x0 []).getD 2 0)))
    (cond (((((Int.toNat ((x2.getD x0 []).getD 2 0)) : Nat) : Int) : Int) == 2147483648)
     (a45 x0 x1 x2 (0, false))
     (cond (Nat.blt x0 x2.length)
      (cond ((((x2.getD x0 []).getD 0 0) : Int) != 1)
       (cond (Nat.blt x0 x2.length)
        (cond (!feq .f32 (Int.toNat ((x2.getD x0 []).getD 2 0)) 0)
         (a45 x0 x1 x2 (0, false))
         (cond (Nat.blt x0 x2.length)
          (cond ((((x2.getD x0 []).getD 0 0) : Int) == 2)
           (cond (Nat.blt x0 x2.length)
            (a45 x0 x1 x2 (0, c104))
            none)
           (cond ((((x2.getD x0 []).getD 0 0) : Int) == 3)
            (cond (Nat.blt x0 x2.length)
             (a45 x0 x1 x2 (0, c105))
             none)
            (cond ((((x2.getD x0 []).getD 0 0) : Int) == 4)
             (cond (Nat.blt x0 x2.length)
              (a45 x0 x1 x2 (0, (((IntKind.i64.wrap ((x2.getD x0 []).getD 1 0)) : Int) == x1)))
              none)
             (cond (Nat.blt x0 x2.length)
              (a45 x0 x1 x2 (0, ((((x2.getD x0 []).getD 1 0) : Int) == 0)))
              none))))
          none))
        none)
       (cond (Nat.blt x0 x2.length)
        (cond ((((x2.getD x0 []).getD 0 0) : Int) == 2)
         (cond (Nat.blt x0 x2.length)
          (a45 x0 x1 x2 (0, c104))
          none)
         (cond ((((x2.getD x0 []).getD 0 0) : Int) == 3)
          (cond (Nat.blt x0 x2.length)
           (a45 x0 x1 x2 (0, c105))
           none)
          (cond ((((x2.getD x0 []).getD 0 0) : Int) == 4)
           (cond (Nat.blt x0 x2.length)
            (a45 x0 x1 x2 (0, (((IntKind.i64.wrap ((x2.getD x0 []).getD 1 0)) : Int) == x1)))
            none)
           (cond (Nat.blt x0 x2.length)
            (a45 x0 x1 x2 (0, ((((x2.getD x0 []).getD 1 0) : Int) == 0)))
            none))))
        none))
      none))
    (cond (Nat.blt x0 x2.length)
     (cond ((((x2.getD x0 []).getD 0 0) : Int) != 1)
      (cond (Nat.blt x0 x2.length)
       (cond (!feq .f32 (Int.toNat ((x2.getD x0 []).getD 2 0)) 0)
        (a45 x0 x1 x2 (0, false))
        (cond (Nat.blt x0 x2.length)
         (cond ((((x2.getD x0 []).getD 0 0) : Int) == 2)
          (cond (Nat.blt x0 x2.length)
           (some (.bool c104, ⟨[⟨true, (some (.tab [.int .i8, .int .i16, .fl .f32] x2))⟩], 1, []⟩))
           none)
          (cond ((((x2.getD x0 []).getD 0 0) : Int) == 3)
           (cond (Nat.blt x0 x2.length)
            (some (.bool c105, ⟨[⟨true, (some (.tab [.int .i8, .int .i16, .fl .f32] x2))⟩], 1, []⟩))
            none)
           (cond ((((x2.getD x0 []).getD 0 0) : Int) == 4)
            (cond (Nat.blt x0 x2.length)
             (some (.bool (((IntKind.i64.wrap ((x2.getD x0 []).getD 1 0)) : Int) == x1), ⟨[⟨true, (some (.tab [.int .i8, .int .i16, .fl .f32] x2))⟩], 1, []⟩))
             none)
            (cond (Nat.blt x0 x2.length)
             (some (.bool ((((x2.getD x0 []).getD 1 0) : Int) == 0), ⟨[⟨true, (some (.tab [.int .i8, .int .i16, .fl .f32] x2))⟩], 1, []⟩))
             none))))
         none))
       none)
      (cond (Nat.blt x0 x2.length)
       (cond ((((x2.getD x0 []).getD 0 0) : Int) == 2)
        (cond (Nat.blt x0 x2.length)
         (a45 x0 x1 x2 (0, c104))
         none)
        (cond ((((x2.getD x0 []).getD 0 0) : Int) == 3)
         (cond (Nat.blt x0 x2.length)
          (a45 x0 x1 x2 (0, c105))
          none)
         (cond ((((x2.getD x0 []).getD 0 0) : Int) == 4)
          (cond (Nat.blt x0 x2.length)
           (a45 x0 x1 x2 (0, (((IntKind.i64.wrap ((x2.getD x0 []).getD 1 0)) : Int) == x1)))
           none)
          (cond (Nat.blt x0 x2.length)
           (a45 x0 x1 x2 (0, ((((x2.getD x0 []).getD 1 0) : Int) == 0)))
           none))))
       none))
     none))
   none))
 none)
set_option maxRecDepth 100000 in
set_option maxHeartbeats 4000000 in
theorem e45 (x0 : Nat) (x1 : Int) (x2 : List (List Int)) : evFn Tryd.prog ext T14 noL 200 Tryd.f45 [.pointer (some ⟨0, x0, some 0⟩), vi x1] ⟨[⟨true, (some (.tab [.int .i8, .int .i16, .fl .f32] x2))⟩], 1, []⟩ = firstT [((Nat.beq ((r45 x0 x1 x2).1) 0), .bool ((r45 x0 x1 x2).2), ⟨[⟨true, (some (.tab [.int .i8, .int .i16, .fl .f32] x2))⟩], 1, []⟩)] :=
 (show evFn Tryd.prog ext T14 noL 200 Tryd.f45 [.pointer (some ⟨0, x0, some 0⟩), vi x1] ⟨[⟨true, (some (.tab [.int .i8, .int .i16, .fl .f32] x2))⟩], 1, []⟩ = w45 x0 x1 x2 from by kernel_rfl).trans
 (show w45 x0 x1 x2 = a45 x0 x1 x2 (r45 x0 x1 x2) from by unfold w45 r45; exact (cond_both (a45 x0 x1 x2) _ (fun h0 => (cond_both (a45 x0 x1 x2) _ (fun h1 => rfl) (fun h1 => (cond_t h0 (cond_both (a45 x0 x1 x2) _ (fun h2 => (cond_both (a45 x0 x1 x2) _ (fun h3 => rfl) (fun h3 => (cond_t h0 (cond_both (a45 x0 x1 x2) _ (fun h4 => (cond_t h0 (cond_both (a45 x0 x1 x2) _ (fun h5 => rfl) (fun h5 => (cond_t h0 (cond_both (a45 x0 x1 x2) _ (fun h6 => (cond_t h0 rfl)) (fun h6 => (cond_both (a45 x0 x1 x2) _ (fun h7 => (cond_t h0 rfl)) (fun h7 => (cond_both (a45 x0 x1 x2) _ (fun h8 => (cond_t h0 rfl)) (fun h8 => (cond_t h0 rfl)))))))))))) (fun h4 => (cond_t h0 (cond_both (a45 x0 x1 x2) _ (fun h5 => (cond_t h0 rfl)) (fun h5 => (cond_both (a45 x0 x1 x2) _ (fun h6 => (cond_t h0 rfl)) (fun h6 => (cond_both (a45 x0 x1 x2) _ (fun h7 => (cond_t h0 rfl)) (fun h7 => (cond_t h0 rfl)))))))))))))) (fun h2 => (cond_t h0 (cond_both (a45 x0 x1 x2) _ (fun h3 => (cond_t h0 (cond_t (ev_not1 (feq_nanl _ (ev_notf h2))) rfl))) (fun h3 => (cond_t h0 (cond_both (a45 x0 x1 x2) _ (fun h4 => (cond_t h0 rfl)) (fun h4 => (cond_both (a45 x0 x1 x2) _ (fun h5 => (cond_t h0 rfl)) (fun h5 => (cond_both (a45 x0 x1 x2) _ (fun h6 => (cond_t h0 rfl)) (fun h6 => (cond_t h0 rfl))))))))))))))))) (fun h0 => rfl)))
noncomputable def s45 (args : List Value) (s : St) : List (Bool × Value × St) :=
 match args, s.h with
 | [.pointer (some ⟨f0, x0, some f1⟩), .int .i64 x1], [⟨true, some (.tab [.int .i8, .int .i16, .fl .f32] x2)⟩] => if f0 = 0 ∧ f1 = 0 then [((Nat.beq ((r45 x0 x1 x2).1) 0), .bool ((r45 x0 x1 x2).2), ⟨[⟨true, (some (.tab [.int .i8, .int .i16, .fl .f32] x2))⟩], 1, []⟩)] else T14 45 args s
 | _, _ => T14 45 args s
noncomputable def T15 : CallF := addF T14 45 s45
set_option maxRecDepth 100000 in
set_option maxHeartbeats 4000000 in
theorem ok15 : CfOk Tryd.prog T15 := by
  refine cfOk_add ok14 fun args s r s' h1 h2 h3 => ?_
  unfold s45 at h3; split at h3
  · rename_i h; split at h3
    · rename_i hc; obtain ⟨rfl, rfl⟩ := hc; exact callOk ok14 Tryd.func45 h1 h2 h (lfOkF_no _ _).body (e45 _ _ _) rfl h3
    · exact ok14 _ _ _ _ _ h1 h2 h3
  · exact ok14 _ _ _ _ _ h1 h2 h3

/-- spec.l05Program, loop 1: one round -/
noncomputable def b17l1 (ih : Int → Int → Int → List ByteArray → List (List Int) → (Nat × Int × Int × Int × Int)) (x0 x1 x2 : Int) (x3 : List ByteArray) (x4 : List (List Int)) : Nat × Int × Int × Int × Int :=
 let c107 := (r44 (IntKind.i64.wrap ((x4.getD (Int.toNat x2) []).getD 0 0)) 1 12)
 let c108 := (r46 ((x4.getD (Int.toNat x2) []).getD 0 0))
 cond (decide ((x2 : Int) < ((x4.length : Nat) : Int)))
  (cond ((decide ((0 : Int) ≤ x2)) && (Nat.blt (Int.toNat x2) x4.length))
   (cond (!c107)
    (0, x0, x1, 0, 0)
    (cond (Nat.beq ((r45 (Int.toNat x2) x1 x4).1) 0)
     (cond (!((r45 (Int.toNat x2) x1 x4).2))
      (0, x0, x1, 0, 0)
      (cond (decide ((x0 : Int) < (c108.1)))
       (0, x0, x1, 0, 0)
       (cond (decide (((IntKind.i64.wrap (x0 + (IntKind.i64.wrap ((c108.2) - (c108.1))))) : Int) > 20))
        (0, (IntKind.i64.wrap (x0 + (IntKind.i64.wrap ((c108.2) - (c108.1))))), x1, 0, 0)
        (cond ((((x4.getD (Int.toNat x2) []).getD 0 0) : Int) == 4)
         (cond (((IntKind.i64.wrap (x0 + (IntKind.i64.wrap ((c108.2) - (c108.1))))) : Int) != 0)
          (0, (IntKind.i64.wrap (x0 + (IntKind.i64.wrap ((c108.2) - (c108.1))))), (IntKind.i64.wrap (x1 + 1)), 0, 0)
          (ih (IntKind.i64.wrap (x0 + (IntKind.i64.wrap ((c108.2) - (c108.1))))) (IntKind.i64.wrap (x1 + 1)) (IntKind.i64.wrap (x2 + 1)) x3 x4))
         (ih (IntKind.i64.wrap (x0 + (IntKind.i64.wrap ((c108.2) - (c108.1))))) x1 (IntKind.i64.wrap (x2 + 1)) x3 x4)))))
     (2, 0, 0, 0, 0)))
   (2, 0, 0, 0, 0))
  (1, 0, 0, x0, x1)
noncomputable def r17l1 : Nat → Int → Int → Int → List ByteArray → List (List Int) → (Nat × Int × Int × Int × Int)
 | 0 => fun _ _ _ _ _ => (2, 0, 0, 0, 0)
 | m + 1 => b17l1 (r17l1 m)
noncomputable def a17l1 (x0 x1 x2 : Int) (x3 : List ByteArray) (x4 : List (List Int)) (p : Nat × Int × Int × Int × Int) : Option (Fin' × List Value × St) := firstT ([((Nat.beq (p.1) 0), .ret, [vp 0, .bool false, vi (p.2.1), vi (p.2.2.1)], ⟨[⟨true, (some (.cells [wsl 1, wsl 2]))⟩, ⟨true, (some (.strs x3))⟩, ⟨true, (some (.tab [.int .i8, .int .i16, .fl .f32] x4))⟩], 3, []⟩), ((Nat.beq (p.1) 1), .exit 2, [vp 0, anyV, vi (p.2.2.2.1), vi (p.2.2.2.2)], ⟨[⟨true, (some (.cells [wsl 1, wsl 2]))⟩, ⟨true, (some (.strs x3))⟩, ⟨true, (some (.tab [.int .i8, .int .i16, .fl .f32] x4))⟩], 3, []⟩)].map fun (b, x) => (b, (x.1, frameOf 125 [0, 2, 4, 5] x.2.1, x.2.2)))
noncomputable def u17l1 (x0 x1 x2 : Int) (x3 : List ByteArray) (x4 : List (List Int)) (p : Nat × Int × Int × Int × Int) : Option (Fin' × List Value × St) := alts ([((Nat.beq (p.1) 0), .ret, [vp 0, .bool false, vi (p.2.1), vi (p.2.2.1)], ⟨[⟨true, (some (.cells [wsl 1, wsl 2]))⟩, ⟨true, (some (.strs x3))⟩, ⟨true, (some (.tab [.int .i8, .int .i16, .fl .f32] x4))⟩], 3, []⟩), ((Nat.beq (p.1) 1), .exit 2, [vp 0, anyV, vi (p.2.2.2.1), vi (p.2.2.2.2)], ⟨[⟨true, (some (.cells [wsl 1, wsl 2]))⟩, ⟨true, (some (.strs x3))⟩, ⟨true, (some (.tab [.int .i8, .int .i16, .fl .f32] x4))⟩], 3, []⟩)].map fun (b, x) => (b, (x.1, frameOf 125 [0, 2, 4, 5] x.2.1, x.2.2))) some
theorem v17l1 (x0 x1 x2 : Int) (x3 : List ByteArray) (x4 : List (List Int)) (p : Nat × Int × Int × Int × Int) : u17l1 x0 x1 x2 x3 x4 p = a17l1 x0 x1 x2 x3 x4 p := alts_first _
noncomputable def q17l1 (m : Nat) : SumK := fun vals s =>
 match vals, s.h with
 | [.pointer (some ⟨f0, f1, some f2⟩), .int .i64 x0, .int .i64 x1, .int .i64 x2], [⟨true, some (.cells [.iface f3 .nilIface, .iface f4 .nilIface])⟩, ⟨true, some (.strs x3)⟩, ⟨true, some (.tab [.int .i8, .int .i16, .fl .f32] x4)⟩] => if f0 = 0 ∧ f1 = 0 ∧ f2 = 0 ∧ f3 = 1 ∧ f4 = 2 then [((Nat.beq ((r17l1 m x0 x1 x2 x3 x4).1) 0), .ret, [vp 0, .bool false, vi ((r17l1 m x0 x1 x2 x3 x4).2.1), vi ((r17l1 m x0 x1 x2 x3 x4).2.2.1)], ⟨[⟨true, (some (.cells [wsl 1, wsl 2]))⟩, ⟨true, (some (.strs x3))⟩, ⟨true, (some (.tab [.int .i8, .int .i16, .fl .f32] x4))⟩], 3, []⟩), ((Nat.beq ((r17l1 m x0 x1 x2 x3 x4).1) 1), .exit 2, [vp 0, anyV, vi ((r17l1 m x0 x1 x2 x3 x4).2.2.2.1), vi ((r17l1 m x0 x1 x2 x3 x4).2.2.2.2)], ⟨[⟨true, (some (.cells [wsl 1, wsl 2]))⟩, ⟨true, (some (.strs x3))⟩, ⟨true, (some (.tab [.int .i8, .int .i16, .fl .f32] x4))⟩], 3, []⟩)] else noQ vals s
 | _, _ => noQ vals s
noncomputable def w17l1 (ih : Int → Int → Int → List ByteArray → List (List Int) → (Nat × Int × Int × Int × Int)) (x0 x1 x2 : Int) (x3 : List ByteArray) (x4 : List (List Int)) : Option (Fin' × List Value × St) :=
 let c107 := (r44 (IntKind.i64.wrap ((x4.getD (Int.toNat x2) []).getD 0 0)) 1 12)
 let c108 := (r46 ((x4.getD (Int.toNat x2) []).getD 0 0))
 (cond (decide ((x2 : Int) < ((x4.length : Nat) : Int)))
 (cond ((decide ((0 : Int) ≤ x2)) && (Nat.blt (Int.toNat x2) x4.length))
  (cond (Nat.blt (Int.toNat x2) x4.length)
   (cond (!c107)
    (a17l1 x0 x1 x2 x3 x4 (0, x0, x1, 0, 0))
    (cond (Nat.beq ((r45 (Int.toNat x2) x1 x4).1) 0)
     (cond (!((r45 (Int.toNat x2) x1 x4).2))
      (a17l1 x0 x1 x2 x3 x4 (0, x0, x1, 0, 0))
      (cond (Nat.blt (Int.toNat x2) x4.length)
       (cond (decide ((x0 : Int) < (c108.1)))
        (a17l1 x0 x1 x2 x3 x4 (0, x0, x1, 0, 0))
        (cond (decide (((IntKind.i64.wrap (x0 + (IntKind.i64.wrap ((c108.2) - (c108.1))))) : Int) > 20))
         (a17l1 x0 x1 x2 x3 x4 (0, (IntKind.i64.wrap (x0 + (IntKind.i64.wrap ((c108.2) - (c108.1))))), x1, 0, 0))
         (cond (Nat.blt (Int.toNat x2) x4.length)
          (cond ((((x4.getD (Int.toNat x2) []).getD 0 0) : Int) == 4)
           (cond (((IntKind.i64.wrap (x0 + (IntKind.i64.wrap ((c108.2) - (c108.1))))) : Int) != 0)
            (a17l1 x0 x1 x2 x3 x4 (0, (IntKind.i64.wrap (x0 + (IntKind.i64.wrap ((c108.2) - (c108.1))))), (IntKind.i64.wrap (x1 + 1)), 0, 0))
            (u17l1 x0 x1 x2 x3 x4 (ih (IntKind.i64.wrap (x0 + (IntKind.i64.wrap ((c108.2) - (c108.1))))) (IntKind.i64.wrap (x1 + 1)) (IntKind.i64.wrap (x2 + 1)) x3 x4)))
           (u17l1 x0 x1 x2 x3 x4 (ih (IntKind.i64.wrap (x0 + (IntKind.i64.wrap ((c108.2) - (c108.1))))) x1 (IntKind.i64.wrap (x2 + 1)) x3 x4)))
          none)))
       none))
     none))
   none)
  none)
 (a17l1 x0 x1 x2 x3 x4 (1, 0, 0, x0, x1)))
set_option maxRecDepth 100000 in
set_option maxHeartbeats 4000000 in
theorem e17l1 (m : Nat) (x0 x1 x2 : Int) (x3 : List ByteArray) (x4 : List (List Int)) : evC Tryd.prog ext T15 L17_1 200 (loopN Tryd.f17 1) (loopTail ([0, 4, 5, 6], []) [0, 2, 4, 5] [] (sumK 125 [0, 4, 5, 6] [0, 2, 4, 5] (q17l1 m))) (frameOf 125 [0, 4, 5, 6] [vp 0, vi x0, vi x1, vi x2]) ⟨[⟨true, (some (.cells [wsl 1, wsl 2]))⟩, ⟨true, (some (.strs x3))⟩, ⟨true, (some (.tab [.int .i8, .int .i16, .fl .f32] x4))⟩], 3, []⟩ = firstT ([((Nat.beq ((r17l1 (m + 1) x0 x1 x2 x3 x4).1) 0), .ret, [vp 0, .bool false, vi ((r17l1 (m + 1) x0 x1 x2 x3 x4).2.1), vi ((r17l1 (m + 1) x0 x1 x2 x3 x4).2.2.1)], ⟨[⟨true, (some (.cells [wsl 1, wsl 2]))⟩, ⟨true, (some (.strs x3))⟩, ⟨true, (some (.tab [.int .i8, .int .i16, .fl .f32] x4))⟩], 3, []⟩), ((Nat.beq ((r17l1 (m + 1) x0 x1 x2 x3 x4).1) 1), .exit 2, [vp 0, anyV, vi ((r17l1 (m + 1) x0 x1 x2 x3 x4).2.2.2.1), vi ((r17l1 (m + 1) x0 x1 x2 x3 x4).2.2.2.2)], ⟨[⟨true, (some (.cells [wsl 1, wsl 2]))⟩, ⟨true, (some (.strs x3))⟩, ⟨true, (some (.tab [.int .i8, .int .i16, .fl .f32] x4))⟩], 3, []⟩)].map fun (b, x) => (b, (x.1, frameOf 125 [0, 2, 4, 5] x.2.1, x.2.2))) :=
 (show evC Tryd.prog ext T15 L17_1 200 (loopN Tryd.f17 1) (loopTail ([0, 4, 5, 6], []) [0, 2, 4, 5] [] (sumK 125 [0, 4, 5, 6] [0, 2, 4, 5] (q17l1 m))) (frameOf 125 [0, 4, 5, 6] [vp 0, vi x0, vi x1, vi x2]) ⟨[⟨true, (some (.cells [wsl 1, wsl 2]))⟩, ⟨true, (some (.strs x3))⟩, ⟨true, (some (.tab [.int .i8, .int .i16, .fl .f32] x4))⟩], 3, []⟩ = w17l1 (r17l1 m) x0 x1 x2 x3 x4 from by kernel_rfl).trans
 (show w17l1 (r17l1 m) x0 x1 x2 x3 x4 = a17l1 x0 x1 x2 x3 x4 (r17l1 (m + 1) x0 x1 x2 x3 x4) from by unfold w17l1; show _ = a17l1 x0 x1 x2 x3 x4 (b17l1 (r17l1 m) x0 x1 x2 x3 x4); unfold b17l1; exact (cond_both (a17l1 x0 x1 x2 x3 x4) _ (fun h0 => (cond_both (a17l1 x0 x1 x2 x3 x4) _ (fun h1 => (cond_t (ev_and2 h1) (cond_both (a17l1 x0 x1 x2 x3 x4) _ (fun h2 => rfl) (fun h2 => (cond_both (a17l1 x0 x1 x2 x3 x4) _ (fun h3 => (cond_both (a17l1 x0 x1 x2 x3 x4) _ (fun h4 => rfl) (fun h4 => (cond_t (ev_and2 h1) (cond_both (a17l1 x0 x1 x2 x3 x4) _ (fun h5 => rfl) (fun h5 => (cond_both (a17l1 x0 x1 x2 x3 x4) _ (fun h6 => rfl) (fun h6 => (cond_t (ev_and2 h1) (cond_app (a17l1 x0 x1 x2 x3 x4) _ (cond_app (a17l1 x0 x1 x2 x3 x4) _ rfl (v17l1 x0 x1 x2 x3 x4 ((r17l1 m) (IntKind.i64.wrap (x0 + (IntKind.i64.wrap (((r46 ((x4.getD (Int.toNat x2) []).getD 0 0)).2) - ((r46 ((x4.getD (Int.toNat x2) []).getD 0 0)).1))))) (IntKind.i64.wrap (x1 + 1)) (IntKind.i64.wrap (x2 + 1)) x3 x4))) (v17l1 x0 x1 x2 x3 x4 ((r17l1 m) (IntKind.i64.wrap (x0 + (IntKind.i64.wrap (((r46 ((x4.getD (Int.toNat x2) []).getD 0 0)).2) - ((r46 ((x4.getD (Int.toNat x2) []).getD 0 0)).1))))) x1 (IntKind.i64.wrap (x2 + 1)) x3 x4)))))))))))) (fun h3 => rfl)))))) (fun h1 => rfl))) (fun h0 => rfl)))
set_option maxRecDepth 100000 in
set_option maxHeartbeats 4000000 in
theorem qm17l1 : ∀ m, SumKOk Tryd.prog (loopN Tryd.f17 1) 125 [0, 4, 5, 6] [0, 2, 4, 5] (q17l1 m) := by
  intro m
  induction m with
  | zero =>
    intro vals s x h1 h2 h3
    unfold q17l1 at h3; split at h3
    · rename_i h; split at h3
      · rename_i hc; obtain ⟨rfl, rfl, rfl, rfl, rfl⟩ := hc; exact absurd h3 (by simp [r17l1, firstT, Nat.beq])
      · exact noQ_ok _ _ _ h1 h2 h3
    · exact noQ_ok _ _ _ h1 h2 h3
  | succ m ih =>
    intro vals s x h1 h2 h3
    unfold q17l1 at h3; split at h3
    · rename_i h; split at h3
      · rename_i hc; obtain ⟨rfl, rfl, rfl, rfl, rfl⟩ := hc; exact sum_step ok15 extOk mixed (lok17_1.inner (by kernel_rfl)) ih h1 h2 h (e17l1 m _ _ _ _ _) rfl h3
      · exact noQ_ok _ _ _ h1 h2 h3
    · exact noQ_ok _ _ _ h1 h2 h3
noncomputable def Q17l1 : SumK := fun vals s => q17l1 (fuelOf vals s.h) vals s
theorem qok17l1 : SumKOk Tryd.prog (loopN Tryd.f17 1) 125 [0, 4, 5, 6] [0, 2, 4, 5] Q17l1 := fuel_ok qm17l1 fuelOf
noncomputable def L17_2 : LoopT := addL L17_1 12 ([0, 4, 5, 6], []) (sumK 125 [0, 4, 5, 6] [0, 2, 4, 5] Q17l1)
theorem lok17_2 : LfOkF Tryd.prog L17_2 Tryd.f17 := lfOkF_add lok17_1 qok17l1 (by kernel_rfl) (by kernel_rfl) (by kernel_rfl)

/-- spec.l05Program -/
noncomputable def w17 {α : Type} (x0 : List ByteArray) (x1 : List (List Int)) (k : (Nat × Bool) → α) : α :=
 let c44 := (r17l0 (1000 + x1.length + x0.length) 0 x0 x1)
 let c109 := (r17l1 (1000 + x1.length + x0.length) 0 0 0 x0 x1)
 cond (decide ((((x0.length : Nat) : Int) : Int) > 12))
  (k (0, false))
  (cond (decide ((((x1.length : Nat) : Int) : Int) > 300))
   (k (0, false))
   (cond (Nat.beq c44 0)
    (k (0, false))
    (cond (Nat.beq c44 1)
     (cond (Nat.beq (c109.1) 0)
      (k (0, false))
      (cond (Nat.beq (c109.1) 1)
       (cond (((c109.2.2.2.1) : Int) == 0)
        (k (0, (((c109.2.2.2.2) : Int) == ((x0.length : Nat) : Int))))
        (k (0, false)))
       (k (1, false))))
     (k (1, false)))))
noncomputable def r17 (x0 : List ByteArray) (x1 : List (List Int)) : Nat × Bool := w17 x0 x1 (fun p => p)
noncomputable def g17 (x0 : List ByteArray) (x1 : List (List Int)) (p : Nat × Bool) : List (Bool × Value × St) := [((Nat.beq (p.1) 0), .bool (p.2), ⟨[⟨true, (some (.cells [wsl 1, wsl 2]))⟩, ⟨true, (some (.strs x0))⟩, ⟨true, (some (.tab [.int .i8, .int .i16, .fl .f32] x1))⟩], 3, []⟩)]
theorem p17 {α : Type} (x0 : List ByteArray) (x1 : List (List Int)) (f : (Nat × Bool) → α) : w17 x0 x1 f = f (w17 x0 x1 (fun p => p)) := by unfold w17; repeat' (first | refine cond_app f _ ?_ ?_ | rfl)
set_option maxRecDepth 100000 in
set_option maxHeartbeats 4000000 in
theorem e17 (x0 : List ByteArray) (x1 : List (List Int)) : evFn Tryd.prog ext T15 L17_2 200 Tryd.f17 [vp 0] ⟨[⟨true, (some (.cells [wsl 1, wsl 2]))⟩, ⟨true, (some (.strs x0))⟩, ⟨true, (some (.tab [.int .i8, .int .i16, .fl .f32] x1))⟩], 3, []⟩ = firstT (g17 x0 x1 (r17 x0 x1)) :=
 Eq.trans (by kernel_rfl) (p17 x0 x1 (fun p => firstT (g17 x0 x1 p)))
noncomputable def s17 (args : List Value) (s : St) : List (Bool × Value × St) :=
 match args, s.h with
 | [.pointer (some ⟨f0, f1, some f2⟩)], [⟨true, some (.cells [.iface f3 .nilIface, .iface f4 .nilIface])⟩, ⟨true, some (.strs x0)⟩, ⟨true, some (.tab [.int .i8, .int .i16, .fl .f32] x1)⟩] => if f0 = 0 ∧ f1 = 0 ∧ f2 = 0 ∧ f3 = 1 ∧ f4 = 2 then (g17 x0 x1 (r17 x0 x1)) else T15 17 args s
 | _, _ => T15 17 args s
noncomputable def T16 : CallF := addF T15 17 s17
set_option maxRecDepth 100000 in
set_option maxHeartbeats 4000000 in
theorem ok16 : CfOk Tryd.prog T16 := by
  refine cfOk_add ok15 fun args s r s' h1 h2 h3 => ?_
  unfold s17 at h3; split at h3
  · rename_i h; split at h3
    · rename_i hc; obtain ⟨rfl, rfl, rfl, rfl, rfl⟩ := hc; exact callOk ok15 Tryd.func17 h1 h2 h lok17_2.body (e17 _ _) rfl h3
    · exact ok15 _ _ _ _ _ h1 h2 h3
  · exact ok15 _ _ _ _ _ h1 h2 h3

/-- spec.l05Words -/
noncomputable def w18 {α : Type} (k : Unit → α) : α :=
 k ()
noncomputable def r18 : Unit := w18 (fun p => p)
noncomputable def g18 (p : Unit) : List (Bool × Value × St) := [(true, .slice (some ⟨0, 0, some 0⟩) 13 13, ⟨[⟨true, (some (.strs ([(ByteArray.mk #[]), (ByteArray.mk #[112, 117, 115, 104]), (ByteArray.mk #[105, 110, 112, 117, 116]), (ByteArray.mk #[108, 111, 97, 100]), (ByteArray.mk #[115, 116, 111, 114, 101]), (ByteArray.mk #[97, 100, 100]), (ByteArray.mk #[115, 117, 98]), (ByteArray.mk #[109, 117, 108]), (ByteArray.mk #[108, 101, 115, 115]), (ByteArray.mk #[109, 105, 110]), (ByteArray.mk #[109, 97, 120]), (ByteArray.mk #[112, 105, 99, 107]), (ByteArray.mk #[110, 101, 103])] : List ByteArray)))⟩], 0, []⟩)]
theorem p18 {α : Type} (f : Unit → α) : w18 f = f (w18 (fun p => p)) := by unfold w18; exact rfl
set_option maxRecDepth 100000 in
set_option maxHeartbeats 4000000 in
theorem e18 : evFn Tryd.prog ext T16 noL 200 Tryd.f18 [] st0 = firstT (g18 r18) :=
 Eq.trans (by kernel_rfl) (p18 (fun p => firstT (g18 p)))
noncomputable def s18 (args : List Value) (s : St) : List (Bool × Value × St) :=
 match args, s.h with
 | [], [] => (g18 r18)
 | _, _ => T16 18 args s
noncomputable def T17 : CallF := addF T16 18 s18
set_option maxRecDepth 100000 in
set_option maxHeartbeats 4000000 in
theorem ok17 : CfOk Tryd.prog T17 := by
  refine cfOk_add ok16 fun args s r s' h1 h2 h3 => ?_
  unfold s18 at h3; split at h3
  · rename_i h; exact callOk ok16 Tryd.func18 h1 h2 h (lfOkF_no _ _).body (e18) rfl h3
  · exact ok16 _ _ _ _ _ h1 h2 h3

/-- spec.l01Bits -/
noncomputable def r47 (x0 : Nat) : Int :=
 cond (!feq .f32 x0 x0)
  (2143289344)
  (((x0 : Nat) : Int))
noncomputable def a47 (x0 : Nat) (p : Int) : Res := firstT [(true, .int .u32 p, st0)]
noncomputable def w47 (x0 : Nat) : Res :=
 (cond (!feq .f32 x0 x0)
 (a47 x0 (2143289344))
 (cond (!isN .f32 x0)
  (a47 x0 (((x0 : Nat) : Int)))
  (some (nanBits .f32, st0))))
set_option maxRecDepth 100000 in
set_option maxHeartbeats 4000000 in
theorem e47 (x0 : Nat) : evFn Tryd.prog ext T17 noL 200 Tryd.f47 [vf x0] st0 = firstT [(true, .int .u32 (r47 x0), st0)] :=
 (show evFn Tryd.prog ext T17 noL 200 Tryd.f47 [vf x0] st0 = w47 x0 from by kernel_rfl).trans
 (show w47 x0 = a47 x0 (r47 x0) from by unfold w47 r47; exact (cond_both (a47 x0) _ (fun h0 => rfl) (fun h0 => (cond_t (ev_not1 (ev_eq1 (ev_notf h0))) rfl))))
noncomputable def s47 (args : List Value) (s : St) : List (Bool × Value × St) :=
 match args, s.h with
 | [.float .f32 x0], [] => [(true, .int .u32 (r47 x0), st0)]
 | _, _ => T17 47 args s
noncomputable def T18 : CallF := addF T17 47 s47
set_option maxRecDepth 100000 in
set_option maxHeartbeats 4000000 in
theorem ok18 : CfOk Tryd.prog T18 := by
  refine cfOk_add ok17 fun args s r s' h1 h2 h3 => ?_
  unfold s47 at h3; split at h3
  · rename_i h; exact callOk ok17 Tryd.func47 h1 h2 h (lfOkF_no _ _).body (e47 _) rfl h3
  · exact ok17 _ _ _ _ _ h1 h2 h3

/-- spec.l01Hex -/
noncomputable def w19 {α : Type} (x0 : Nat) (k : (Nat × ByteArray) → α) : α :=
 cond ((decide ((0 : Int) ≤ (Int.tmod (r47 x0) 16))) && (Nat.blt (Int.toNat (Int.tmod (r47 x0) 16)) 16))
  (cond ((decide ((0 : Int) ≤ (Int.tmod (IntKind.u32.wrap (Int.tdiv (r47 x0) 16)) 16))) && (Nat.blt (Int.toNat (Int.tmod (IntKind.u32.wrap (Int.tdiv (r47 x0) 16)) 16)) 16))
   (cond ((decide ((0 : Int) ≤ (Int.tmod (IntKind.u32.wrap (Int.tdiv (IntKind.u32.wrap (Int.tdiv (r47 x0) 16)) 16)) 16))) && (Nat.blt (Int.toNat (Int.tmod (IntKind.u32.wrap (Int.tdiv (IntKind.u32.wrap (Int.tdiv (r47 x0) 16)) 16)) 16)) 16))
    (cond ((decide ((0 : Int) ≤ (Int.tmod (IntKind.u32.wrap (Int.tdiv (IntKind.u32.wrap (Int.tdiv (IntKind.u32.wrap (Int.tdiv (r47 x0) 16)) 16)) 16)) 16))) && (Nat.blt (Int.toNat (Int.tmod (IntKind.u32.wrap (Int.tdiv (IntKind.u32.wrap (Int.tdiv (IntKind.u32.wrap (Int.tdiv (r47 x0) 16)) 16)) 16)) 16)) 16))
     (cond ((decide ((0 : Int) ≤ (Int.tmod (IntKind.u32.wrap (Int.tdiv (IntKind.u32.wrap (Int.tdiv (IntKind.u32.wrap (Int.tdiv (IntKind.u32.wrap (Int.tdiv (r47 x0) 16)) 16)) 16)) 16)) 16))) && (Nat.blt (Int.toNat (Int.tmod (IntKind.u32.wrap (Int.tdiv (IntKind.u32.wrap (Int.tdiv (IntKind.u32.wrap (Int.tdiv (IntKind.u32.wrap (Int.tdiv (r47 x0) 16)) 16)) 16)) 16)) 16)) 16))
      (cond ((decide ((0 : Int) ≤ (Int.tmod (IntKind.u32.wrap (Int.tdiv (IntKind.u32.wrap (Int.tdiv (IntKind.u32.wrap (Int.tdiv (IntKind.u32.wrap (Int.tdiv (IntKind.u32.wrap (Int.tdiv (r47 x0) 16)) 16)) 16)) 16)) 16)) 16))) && (Nat.blt (Int.toNat (Int.tmod (IntKind.u32.wrap (Int.tdiv (IntKind.u32.wrap (Int.tdiv (IntKind.u32.wrap (Int.tdiv (IntKind.u32.wrap (Int.tdiv (IntKind.u32.wrap (Int.tdiv (r47 x0) 16)) 16)) 16)) 16)) 16)) 16)) 16))
       (cond ((decide ((0 : Int) ≤ (Int.tmod (IntKind.u32.wrap (Int.tdiv (IntKind.u32.wrap (Int.tdiv (IntKind.u32.wrap (Int.tdiv (IntKind.u32.wrap (Int.tdiv (IntKind.u32.wrap (Int.tdiv (IntKind.u32.wrap (Int.tdiv (r47 x0) 16)) 16)) 16)) 16)) 16)) 16)) 16))) && (Nat.blt (Int.toNat (Int.tmod (IntKind.u32.wrap (Int.tdiv (IntKind.u32.wrap (Int.tdiv (IntKind.u32.wrap (Int.tdiv (IntKind.u32.wrap (Int.tdiv (IntKind.u32.wrap (Int.tdiv (IntKind.u32.wrap (Int.tdiv (r47 x0) 16)) 16)) 16)) 16)) 16)) 16)) 16)) 16))
        (cond ((decide ((0 : Int) ≤ (Int.tmod (IntKind.u32.wrap (Int.tdiv (IntKind.u32.wrap (Int.tdiv (IntKind.u32.wrap (Int.tdiv (IntKind.u32.wrap (Int.tdiv (IntKind.u32.wrap (Int.tdiv (IntKind.u32.wrap (Int.tdiv (IntKind.u32.wrap (Int.tdiv (r47 x0) 16)) 16)) 16)) 16)) 16)) 16)) 16)) 16))) && (Nat.blt (Int.toNat (Int.tmod (IntKind.u32.wrap (Int.tdiv (IntKind.u32.wrap (Int.tdiv (IntKind.u32.wrap (Int.tdiv (IntKind.u32.wrap (Int.tdiv (IntKind.u32.wrap (Int.tdiv (IntKind.u32.wrap (Int.tdiv (IntKind.u32.wrap (Int.tdiv (r47 x0) 16)) 16)) 16)) 16)) 16)) 16)) 16)) 16)) 16))
         (k (0, (bytesOf ([[((UInt8.toNat (List.getD (ByteArray.data (ByteArray.mk #[48, 49, 50, 51, 52, 53, 54, 55, 56, 57, 97, 98, 99, 100, 101, 102])).toList (Int.toNat (Int.tmod (IntKind.u32.wrap (Int.tdiv (IntKind.u32.wrap (Int.tdiv (IntKind.u32.wrap (Int.tdiv (IntKind.u32.wrap (Int.tdiv (IntKind.u32.wrap (Int.tdiv (IntKind.u32.wrap (Int.tdiv (IntKind.u32.wrap (Int.tdiv (r47 x0) 16)) 16)) 16)) 16)) 16)) 16)) 16)) 16)) 0) : Nat) : Int)], [((UInt8.toNat (List.getD (ByteArray.data (ByteArray.mk #[48, 49, 50, 51, 52, 53, 54, 55, 56, 57, 97, 98, 99, 100, 101, 102])).toList (Int.toNat (Int.tmod (IntKind.u32.wrap (Int.tdiv (IntKind.u32.wrap (Int.tdiv (IntKind.u32.wrap (Int.tdiv (IntKind.u32.wrap (Int.tdiv (IntKind.u32.wrap (Int.tdiv (IntKind.u32.wrap (Int.tdiv (r47 x0) 16)) 16)) 16)) 16)) 16)) 16)) 16)) 0) : Nat) : Int)], [((UInt8.toNat (List.getD (ByteArray.data (ByteArray.mk #[48, 49, 50, 51, 52, 53, 54, 55, 56, 57, 97, 98, 99, 100, 101, 102])).toList (Int.toNat (Int.tmod (IntKind.u32.wrap (Int.tdiv (IntKind.u32.wrap (Int.tdiv (IntKind.u32.wrap (Int.tdiv (IntKind.u32.wrap (Int.tdiv (IntKind.u32.wrap (Int.tdiv (r47 x0) 16)) 16)) 16)) 16)) 16)) 16)) 0) : Nat) : Int)], [((UInt8.toNat (List.getD (ByteArray.data (ByteArray.mk #[48, 49, 50, 51, 52, 53, 54, 55, 56, 57, 97, 98, 99, 100, 101, 102])).toList (Int.toNat (Int.tmod (IntKind.u32.wrap (Int.tdiv (IntKind.u32.wrap (Int.tdiv (IntKind.u32.wrap (Int.tdiv (IntKind.u32.wrap (Int.tdiv (r47 x0) 16)) 16)) 16)) 16)) 16)) 0) : Nat) : Int)], [((UInt8.toNat (List.getD (ByteArray.data (ByteArray.mk #[48, 49, 50, 51, 52, 53, 54, 55, 56, 57, 97, 98, 99, 100, 101, 102])).toList (Int.toNat (Int.tmod (IntKind.u32.wrap (Int.tdiv (IntKind.u32.wrap (Int.tdiv (IntKind.u32.wrap (Int.tdiv (r47 x0) 16)) 16)) 16)) 16)) 0) : Nat) : Int)], [((UInt8.toNat (List.getD (ByteArray.data (ByteArray.mk #[48, 49, 50, 51, 52, 53, 54, 55, 56, 57, 97, 98, 99, 100, 101, 102])).toList (Int.toNat (Int.tmod (IntKind.u32.wrap (Int.tdiv (IntKind.u32.wrap (Int.tdiv (r47 x0) 16)) 16)) 16)) 0) : Nat) : Int)], [((UInt8.toNat (List.getD (ByteArray.data (ByteArray.mk #[48, 49, 50, 51, 52, 53, 54, 55, 56, 57, 97, 98, 99, 100, 101, 102])).toList (Int.toNat (Int.tmod (IntKind.u32.wrap (Int.tdiv (r47 x0) 16)) 16)) 0) : Nat) : Int)], [((UInt8.toNat (List.getD (ByteArray.data (ByteArray.mk #[48, 49, 50, 51, 52, 53, 54, 55, 56, 57, 97, 98, 99, 100, 101, 102])).toList (Int.toNat (Int.tmod (r47 x0) 16)) 0) : Nat) : Int)]] : List (List Int)))))
         (k (1, ByteArray.empty)))
        (k (1, ByteArray.empty)))
       (k (1, ByteArray.empty)))
      (k (1, ByteArray.empty)))
     (k (1, ByteArray.empty)))
    (k (1, ByteArray.empty)))
   (k (1, ByteArray.empty)))
  (k (1, ByteArray.empty))
noncomputable def r19 (x0 : Nat) : Nat × ByteArray := w19 x0 (fun p => p)
noncomputable def g19 (x0 : Nat) (p : Nat × ByteArray) : List (Bool × Value × St) := [((Nat.beq (p.1) 0), .string (p.2), st0)]
theorem p19 {α : Type} (x0 : Nat) (f : (Nat × ByteArray) → α) : w19 x0 f = f (w19 x0 (fun p => p)) := by unfold w19; repeat' (first | refine cond_app f _ ?_ ?_ | rfl)
set_option maxRecDepth 100000 in
set_option maxHeartbeats 4000000 in
theorem e19 (x0 : Nat) : evFn Tryd.prog ext T18 noL 200 Tryd.f19 [vf x0] st0 = firstT (g19 x0 (r19 x0)) :=
 Eq.trans (by kernel_rfl) (p19 x0 (fun p => firstT (g19 x0 p)))
noncomputable def s19 (args : List Value) (s : St) : List (Bool × Value × St) :=
 match args, s.h with
 | [.float .f32 x0], [] => (g19 x0 (r19 x0))
 | _, _ => T18 19 args s
noncomputable def T19 : CallF := addF T18 19 s19
set_option maxRecDepth 100000 in
set_option maxHeartbeats 4000000 in
theorem ok19 : CfOk Tryd.prog T19 := by
  refine cfOk_add ok18 fun args s r s' h1 h2 h3 => ?_
  unfold s19 at h3; split at h3
  · rename_i h; exact callOk ok18 Tryd.func19 h1 h2 h (lfOkF_no _ _).body (e19 _) rfl h3
  · exact ok18 _ _ _ _ _ h1 h2 h3

/-- spec.Decimal -/
noncomputable def w20 {α : Type} (x0 : Int) (k : (Nat × ByteArray) → α) : α :=
 cond (decide ((x0 : Int) ≥ 10))
  (k (1, ByteArray.empty))
  (k (0, (bytesOf ([[(IntKind.u8.wrap (IntKind.i64.wrap (48 + x0)))]] : List (List Int)))))
noncomputable def r20 (x0 : Int) : Nat × ByteArray := w20 x0 (fun p => p)
noncomputable def g20 (x0 : Int) (p : Nat × ByteArray) : List (Bool × Value × St) := [((Nat.beq (p.1) 0), .string (p.2), st0)]
theorem p20 {α : Type} (x0 : Int) (f : (Nat × ByteArray) → α) : w20 x0 f = f (w20 x0 (fun p => p)) := by unfold w20; exact (cond_app f _ rfl rfl)
set_option maxRecDepth 100000 in
set_option maxHeartbeats 4000000 in
theorem e20 (x0 : Int) : evFn Tryd.prog ext T19 noL 200 Tryd.f20 [vi x0] st0 = firstT (g20 x0 (r20 x0)) :=
 Eq.trans (by kernel_rfl) (p20 x0 (fun p => firstT (g20 x0 p)))
noncomputable def s20 (args : List Value) (s : St) : List (Bool × Value × St) :=
 match args, s.h with
 | [.int .i64 x0], [] => (g20 x0 (r20 x0))
 | _, _ => T19 20 args s
noncomputable def T20 : CallF := addF T19 20 s20
set_option maxRecDepth 100000 in
set_option maxHeartbeats 4000000 in
theorem ok20 : CfOk Tryd.prog T20 := by
  refine cfOk_add ok19 fun args s r s' h1 h2 h3 => ?_
  unfold s20 at h3; split at h3
  · rename_i h; exact callOk ok19 Tryd.func20 h1 h2 h (lfOkF_no _ _).body (e20 _) rfl h3
  · exact ok19 _ _ _ _ _ h1 h2 h3
end Go.Proofs.YtffpnkkhcgjmfaaDoor
