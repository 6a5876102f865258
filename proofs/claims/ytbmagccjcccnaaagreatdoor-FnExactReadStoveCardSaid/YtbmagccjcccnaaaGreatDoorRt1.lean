/- What the functions that the statements reach answer, part 1. -/
import Derived.Test.YtbmagccjcccnaaaGreatDoorA41
import Derived.KernelRfl
import Derived.Test.YtbmagccjcccnaaaGreatDoorChecked
namespace Go.Proofs.YtbmagccjcccnaaaGreatDoor
open Go.Ab
set_option maxHeartbeats 4000000
set_option maxRecDepth 100000

def ext : FuncId → Option Ext := fun g => (cond (Nat.beq g 47) (some .f32from) (cond (Nat.beq g 49) (some .f32bits) (cond (Nat.beq g 110) (some .f64from) (cond (Nat.beq g 126) (some .f64bits) none))))
theorem ext_case {g : FuncId} {e : Ext} (h : ext g = some e) : g = 47 ∧ e = .f32from ∨ g = 49 ∧ e = .f32bits ∨ g = 110 ∧ e = .f64from ∨ g = 126 ∧ e = .f64bits := by
  unfold ext at h
  cases h0 : Nat.beq g 47 with
  | true => rw [h0] at h; cases h; exact .inl ⟨Nat.eq_of_beq_eq_true h0, rfl⟩
  | false =>
    rw [h0] at h
    cases h1 : Nat.beq g 49 with
    | true => rw [h1] at h; cases h; exact .inr (.inl ⟨Nat.eq_of_beq_eq_true h1, rfl⟩)
    | false =>
      rw [h1] at h
      cases h2 : Nat.beq g 110 with
      | true => rw [h2] at h; cases h; exact .inr (.inr (.inl ⟨Nat.eq_of_beq_eq_true h2, rfl⟩))
      | false =>
        rw [h2] at h
        cases h3 : Nat.beq g 126 with
        | true => rw [h3] at h; cases h; exact .inr (.inr (.inr (⟨Nat.eq_of_beq_eq_true h3, rfl⟩)))
        | false =>
          rw [h3] at h
          cases h
theorem extOk : ExtOk Tryz.prog ext := by
  intro g e h
  rcases ext_case h with ⟨rfl, rfl⟩ | ⟨rfl, rfl⟩ | ⟨rfl, rfl⟩ | ⟨rfl, rfl⟩
  · exact ⟨Tryz.f47, Tryz.func47, by kernel_rfl, by kernel_rfl, by kernel_rfl, by kernel_rfl⟩
  · exact ⟨Tryz.f49, Tryz.func49, by kernel_rfl, by kernel_rfl, by kernel_rfl, by kernel_rfl⟩
  · exact ⟨Tryz.f110, Tryz.func110, by kernel_rfl, by kernel_rfl, by kernel_rfl, by kernel_rfl⟩
  · exact ⟨Tryz.f126, Tryz.func126, by kernel_rfl, by kernel_rfl, by kernel_rfl, by kernel_rfl⟩
theorem mixed : Tryz.prog.follows .mixedOrders = true := by kernel_rfl
theorem callOk {cf : CallF} (hcf : CfOk Tryz.prog cf) {lf : LoopT} {N : Nat} {f : FuncId} {fn : Func} (hf : Tryz.prog.funcs[f]? = some fn) {args : List Value} {s : St} {l : List Blk} {n : Nat} {L : List (Bool × Value × St)} {r' : Value} {s' : St} (h1 : s.lo = s.h.length) (h2 : s.wr = []) (h : s.h = l) (hl : ∀ c, fn.body = some c → LfOk Tryz.prog lf (loopsOf c)) (he : evFn Tryz.prog ext cf lf N fn args ⟨l, n, []⟩ = firstT L) (hn : n = l.length) (h3 : firstT L = some (r', s')) : CallsOK Tryz.prog f args s r' s' :=
  call_ok extOk mixed hcf hf h1 h2 h hl he hn h3
def lays156_ren : Go.Shelf.Ren := ⟨fun | 156 => 81 | 165 => 107 | 166 => 108 | 169 => 109 | 240 => 123 | 241 => 124 | 276 => 140 | 277 => 141 | n => n, fun | 31 => 91 | 9 => 9 | 3 => 3 | 4 => 4 | 0 => 0 | 20 => 20 | 72 => 143 | 76 => 145 | 70 => 141 | 37 => 22 | 75 => 135 | 127 => 155 | 164 => 172 | 5 => 5 | 80 => 94 | n => n, fun | n => n⟩
theorem lays156 : Go.Proofs.Lays.n156 Tryz.prog lays156_ren := {
  mixed := by kernel_rfl
  f156 := Tryz.func81.trans (congrArg some (by kernel_rfl))
  f165 := Tryz.func107.trans (congrArg some (by kernel_rfl))
  f166 := Tryz.func108.trans (congrArg some (by kernel_rfl))
  f169 := Tryz.func109.trans (congrArg some (by kernel_rfl))
  f240 := Tryz.func123.trans (congrArg some (by kernel_rfl))
  f241 := Tryz.func124.trans (congrArg some (by kernel_rfl))
  f276 := Tryz.func140.trans (congrArg some (by kernel_rfl))
  f277 := Tryz.func141.trans (congrArg some (by kernel_rfl))
  t0 := Tryz.underlying0
  a0 := Tryz.isAgg0
  z0 := Tryz.sizeOf0
  v0 := Tryz.zeroValue0
  t3 := Tryz.underlying3
  a3 := Tryz.isAgg3
  z3 := Tryz.sizeOf3
  v3 := Tryz.zeroValue3
  t4 := Tryz.underlying4
  a4 := Tryz.isAgg4
  z4 := Tryz.sizeOf4
  v4 := Tryz.zeroValue4
  t9 := Tryz.underlying9
  a9 := Tryz.isAgg9
  z9 := Tryz.sizeOf9
  v9 := Tryz.zeroValue9
  t20 := Tryz.underlying20
  a20 := Tryz.isAgg20
  z20 := Tryz.sizeOf20
  v20 := Tryz.zeroValue20
  t31 := Tryz.underlying91
  a31 := Tryz.isAgg91
  z31 := Tryz.sizeOf91
  v31 := Tryz.zeroValue91
  t37 := Tryz.underlying22
  a37 := Tryz.isAgg22
  z37 := Tryz.sizeOf22
  v37 := Tryz.zeroValue22
  t70 := Tryz.underlying141
  a70 := Tryz.isAgg141
  z70 := Tryz.sizeOf141
  v70 := Tryz.zeroValue141
  t72 := Tryz.underlying143
  a72 := Tryz.isAgg143
  z72 := Tryz.sizeOf143
  v72 := Tryz.zeroValue143
  t75 := Tryz.underlying135
  a75 := Tryz.isAgg135
  z75 := Tryz.sizeOf135
  v75 := Tryz.zeroValue135
  t76 := Tryz.underlying145
  a76 := Tryz.isAgg145
  z76 := Tryz.sizeOf145
  v76 := Tryz.zeroValue145
  t127 := Tryz.underlying155
  a127 := Tryz.isAgg155
  z127 := Tryz.sizeOf155
  v127 := Tryz.zeroValue155
  t164 := Tryz.underlying172
  a164 := Tryz.isAgg172
  z164 := Tryz.sizeOf172
  v164 := Tryz.zeroValue172 }
def lays146_ren : Go.Shelf.Ren := ⟨fun | 146 => 80 | 221 => 106 | 268 => 120 | 138 => 121 | 143 => 122 | 195 => 136 | 197 => 137 | 218 => 138 | 219 => 139 | 260 => 152 | 217 => 111 | 225 => 153 | 224 => 154 | 267 => 155 | 266 => 125 | 314 => 159 | n => n, fun | 9 => 9 | 31 => 91 | 3 => 3 | 4 => 4 | 0 => 0 | 105 => 170 | 21 => 21 | 5 => 5 | 46 => 79 | 119 => 190 | 139 => 193 | 138 => 192 | 146 => 194 | 51 => 68 | n => n, fun | 1 => 1 | 3 => 5 | 4 => 6 | n => n⟩
theorem lays146 : Go.Proofs.Lays.n146 Tryz.prog lays146_ren := {
  mixed := by kernel_rfl
  f138 := Tryz.func121.trans (congrArg some (by kernel_rfl))
  f143 := Tryz.func122.trans (congrArg some (by kernel_rfl))
  f146 := Tryz.func80.trans (congrArg some (by kernel_rfl))
  f195 := Tryz.func136.trans (congrArg some (by kernel_rfl))
  f197 := Tryz.func137.trans (congrArg some (by kernel_rfl))
  f217 := Tryz.func111.trans (congrArg some (by kernel_rfl))
  f218 := Tryz.func138.trans (congrArg some (by kernel_rfl))
  f219 := Tryz.func139.trans (congrArg some (by kernel_rfl))
  f221 := Tryz.func106.trans (congrArg some (by kernel_rfl))
  f224 := Tryz.func154.trans (congrArg some (by kernel_rfl))
  f225 := Tryz.func153.trans (congrArg some (by kernel_rfl))
  f260 := Tryz.func152.trans (congrArg some (by kernel_rfl))
  f266 := Tryz.func125.trans (congrArg some (by kernel_rfl))
  f267 := Tryz.func155.trans (congrArg some (by kernel_rfl))
  f268 := Tryz.func120.trans (congrArg some (by kernel_rfl))
  f314 := Tryz.func159.trans (congrArg some (by kernel_rfl))
  t0 := Tryz.underlying0
  a0 := Tryz.isAgg0
  z0 := Tryz.sizeOf0
  v0 := Tryz.zeroValue0
  t3 := Tryz.underlying3
  a3 := Tryz.isAgg3
  z3 := Tryz.sizeOf3
  v3 := Tryz.zeroValue3
  t4 := Tryz.underlying4
  a4 := Tryz.isAgg4
  z4 := Tryz.sizeOf4
  v4 := Tryz.zeroValue4
  t5 := Tryz.underlying5
  a5 := Tryz.isAgg5
  z5 := Tryz.sizeOf5
  v5 := Tryz.zeroValue5
  t9 := Tryz.underlying9
  a9 := Tryz.isAgg9
  z9 := Tryz.sizeOf9
  v9 := Tryz.zeroValue9
  t21 := Tryz.underlying21
  a21 := Tryz.isAgg21
  z21 := Tryz.sizeOf21
  v21 := Tryz.zeroValue21
  t31 := Tryz.underlying91
  a31 := Tryz.isAgg91
  z31 := Tryz.sizeOf91
  v31 := Tryz.zeroValue91
  t46 := Tryz.underlying79
  a46 := Tryz.isAgg79
  z46 := Tryz.sizeOf79
  v46 := Tryz.zeroValue79
  t51 := Tryz.underlying68
  a51 := Tryz.isAgg68
  z51 := Tryz.sizeOf68
  v51 := Tryz.zeroValue68
  t105 := Tryz.underlying170
  a105 := Tryz.isAgg170
  z105 := Tryz.sizeOf170
  v105 := Tryz.zeroValue170
  t119 := Tryz.underlying190
  a119 := Tryz.isAgg190
  z119 := Tryz.sizeOf190
  t138 := Tryz.underlying192
  a138 := Tryz.isAgg192
  z138 := Tryz.sizeOf192
  v138 := Tryz.zeroValue192
  t139 := Tryz.underlying193
  a139 := Tryz.isAgg193
  z139 := Tryz.sizeOf193
  v139 := Tryz.zeroValue193
  t146 := Tryz.underlying194
  a146 := Tryz.isAgg194
  z146 := Tryz.sizeOf194
  v146 := Tryz.zeroValue194
  g1 := by kernel_rfl
  g3 := by kernel_rfl
  g4 := by kernel_rfl }
def lays137_ren : Go.Shelf.Ren := ⟨fun | 137 => 85 | 217 => 111 | 266 => 125 | n => n, fun | 9 => 9 | 5 => 5 | 3 => 3 | n => n, fun | n => n⟩
theorem lays137 : Go.Proofs.Lays.n137 Tryz.prog lays137_ren := {
  mixed := by kernel_rfl
  f137 := Tryz.func85.trans (congrArg some (by kernel_rfl))
  f217 := Tryz.func111.trans (congrArg some (by kernel_rfl))
  f266 := Tryz.func125.trans (congrArg some (by kernel_rfl))
  t3 := Tryz.underlying3
  a3 := Tryz.isAgg3
  z3 := Tryz.sizeOf3
  v3 := Tryz.zeroValue3
  t5 := Tryz.underlying5
  a5 := Tryz.isAgg5
  z5 := Tryz.sizeOf5
  v5 := Tryz.zeroValue5
  t9 := Tryz.underlying9
  a9 := Tryz.isAgg9
  z9 := Tryz.sizeOf9
  v9 := Tryz.zeroValue9 }
def laysM173_ren : Go.Shelf.Ren := ⟨fun | 173 => 103 | 246 => 118 | 283 => 132 | 284 => 133 | 285 => 134 | 286 => 135 | 129 => 148 | 317 => 147 | 318 => 149 | 319 => 150 | 320 => 151 | 337 => 157 | 338 => 158 | n => n, fun | 2 => 2 | 3 => 3 | 9 => 9 | 4 => 4 | 171 => 164 | 0 => 0 | 53 => 105 | 37 => 22 | 5 => 5 | 173 => 167 | 212 => 182 | 51 => 68 | 20 => 20 | 213 => 183 | 46 => 79 | 232 => 196 | 233 => 197 | n => n, fun | 17 => 4 | 18 => 7 | 19 => 8 | n => n⟩
theorem laysM173 : Go.Proofs.LaysM.n173 Tryz.prog laysM173_ren := {
  mixed := by kernel_rfl
  f129 := Tryz.func148.trans (congrArg some (by kernel_rfl))
  f173 := Tryz.func103.trans (congrArg some (by kernel_rfl))
  f246 := Tryz.func118.trans (congrArg some (by kernel_rfl))
  f283 := Tryz.func132.trans (congrArg some (by kernel_rfl))
  f284 := Tryz.func133.trans (congrArg some (by kernel_rfl))
  f285 := Tryz.func134.trans (congrArg some (by kernel_rfl))
  f286 := Tryz.func135.trans (congrArg some (by kernel_rfl))
  f317 := Tryz.func147.trans (congrArg some (by kernel_rfl))
  f318 := Tryz.func149.trans (congrArg some (by kernel_rfl))
  f319 := Tryz.func150.trans (congrArg some (by kernel_rfl))
  f320 := Tryz.func151.trans (congrArg some (by kernel_rfl))
  f337 := Tryz.func157.trans (congrArg some (by kernel_rfl))
  f338 := Tryz.func158.trans (congrArg some (by kernel_rfl))
  t0 := Tryz.underlying0
  a0 := Tryz.isAgg0
  z0 := Tryz.sizeOf0
  v0 := Tryz.zeroValue0
  t2 := Tryz.underlying2
  a2 := Tryz.isAgg2
  z2 := Tryz.sizeOf2
  v2 := Tryz.zeroValue2
  t3 := Tryz.underlying3
  a3 := Tryz.isAgg3
  z3 := Tryz.sizeOf3
  v3 := Tryz.zeroValue3
  t4 := Tryz.underlying4
  a4 := Tryz.isAgg4
  z4 := Tryz.sizeOf4
  v4 := Tryz.zeroValue4
  t5 := Tryz.underlying5
  a5 := Tryz.isAgg5
  z5 := Tryz.sizeOf5
  v5 := Tryz.zeroValue5
  t9 := Tryz.underlying9
  a9 := Tryz.isAgg9
  z9 := Tryz.sizeOf9
  v9 := Tryz.zeroValue9
  t20 := Tryz.underlying20
  a20 := Tryz.isAgg20
  z20 := Tryz.sizeOf20
  v20 := Tryz.zeroValue20
  t37 := Tryz.underlying22
  a37 := Tryz.isAgg22
  z37 := Tryz.sizeOf22
  v37 := Tryz.zeroValue22
  t46 := Tryz.underlying79
  a46 := Tryz.isAgg79
  z46 := Tryz.sizeOf79
  v46 := Tryz.zeroValue79
  t51 := Tryz.underlying68
  a51 := Tryz.isAgg68
  z51 := Tryz.sizeOf68
  v51 := Tryz.zeroValue68
  t53 := Tryz.underlying105
  a53 := Tryz.isAgg105
  z53 := Tryz.sizeOf105
  v53 := Tryz.zeroValue105
  t171 := Tryz.underlying164
  a171 := Tryz.isAgg164
  z171 := Tryz.sizeOf164
  v171 := Tryz.zeroValue164
  t173 := Tryz.underlying167
  a173 := Tryz.isAgg167
  z173 := Tryz.sizeOf167
  v173 := Tryz.zeroValue167
  t212 := Tryz.underlying182
  a212 := Tryz.isAgg182
  z212 := Tryz.sizeOf182
  v212 := Tryz.zeroValue182
  t213 := Tryz.underlying183
  a213 := Tryz.isAgg183
  z213 := Tryz.sizeOf183
  t232 := Tryz.underlying196
  a232 := Tryz.isAgg196
  z232 := Tryz.sizeOf196
  v232 := Tryz.zeroValue196
  t233 := Tryz.underlying197
  a233 := Tryz.isAgg197
  z233 := Tryz.sizeOf197
  v233 := Tryz.zeroValue197
  g17 := by kernel_rfl
  g18 := by kernel_rfl
  g19 := by kernel_rfl
  i0 := by kernel_rfl
  i2 := by kernel_rfl
  i3 := by kernel_rfl
  i4 := by kernel_rfl
  i5 := by kernel_rfl
  i9 := by kernel_rfl
  i20 := by kernel_rfl
  i37 := by kernel_rfl
  i46 := by kernel_rfl
  i51 := by kernel_rfl
  i53 := by kernel_rfl
  i171 := by kernel_rfl
  i173 := by kernel_rfl
  i212 := by kernel_rfl
  i232 := by kernel_rfl
  i233 := by kernel_rfl
  m17 := by kernel_rfl
  m18 := by kernel_rfl
  m19 := by kernel_rfl }
def laysC174_ren : Go.Shelf.Ren := ⟨fun | 174 => 101 | 247 => 116 | 245 => 117 | 287 => 127 | 279 => 128 | 280 => 129 | 281 => 130 | 282 => 131 | 321 => 142 | 322 => 143 | 316 => 144 | 171 => 146 | 205 => 145 | 243 => 156 | 246 => 118 | 283 => 132 | 284 => 133 | 285 => 134 | 286 => 135 | 129 => 148 | 317 => 147 | 318 => 149 | 319 => 150 | 320 => 151 | 337 => 157 | 338 => 158 | n => n, fun | 9 => 9 | 3 => 3 | 2 => 2 | 75 => 135 | 85 => 136 | 4 => 4 | 167 => 157 | 5 => 5 | 53 => 105 | 175 => 158 | 46 => 79 | 168 => 160 | 37 => 22 | 0 => 0 | 210 => 178 | 21 => 21 | 127 => 155 | 145 => 188 | 143 => 186 | 171 => 164 | 173 => 167 | 212 => 182 | 51 => 68 | 20 => 20 | 213 => 183 | 232 => 196 | 233 => 197 | 80 => 94 | n => n, fun | 15 => 2 | 16 => 3 | 17 => 4 | 18 => 7 | 19 => 8 | n => n⟩
theorem laysC174 : Go.Proofs.LaysC.n174 Tryz.prog laysC174_ren := {
  mixed := by kernel_rfl
  f129 := Tryz.func148.trans (congrArg some (by kernel_rfl))
  f171 := Tryz.func146.trans (congrArg some (by kernel_rfl))
  f174 := Tryz.func101.trans (congrArg some (by kernel_rfl))
  f205 := Tryz.func145.trans (congrArg some (by kernel_rfl))
  f243 := Tryz.func156.trans (congrArg some (by kernel_rfl))
  f245 := Tryz.func117.trans (congrArg some (by kernel_rfl))
  f246 := Tryz.func118.trans (congrArg some (by kernel_rfl))
  f247 := Tryz.func116.trans (congrArg some (by kernel_rfl))
  f279 := Tryz.func128.trans (congrArg some (by kernel_rfl))
  f280 := Tryz.func129.trans (congrArg some (by kernel_rfl))
  f281 := Tryz.func130.trans (congrArg some (by kernel_rfl))
  f282 := Tryz.func131.trans (congrArg some (by kernel_rfl))
  f283 := Tryz.func132.trans (congrArg some (by kernel_rfl))
  f284 := Tryz.func133.trans (congrArg some (by kernel_rfl))
  f285 := Tryz.func134.trans (congrArg some (by kernel_rfl))
  f286 := Tryz.func135.trans (congrArg some (by kernel_rfl))
  f287 := Tryz.func127.trans (congrArg some (by kernel_rfl))
  f316 := Tryz.func144.trans (congrArg some (by kernel_rfl))
  f317 := Tryz.func147.trans (congrArg some (by kernel_rfl))
  f318 := Tryz.func149.trans (congrArg some (by kernel_rfl))
  f319 := Tryz.func150.trans (congrArg some (by kernel_rfl))
  f320 := Tryz.func151.trans (congrArg some (by kernel_rfl))
  f321 := Tryz.func142.trans (congrArg some (by kernel_rfl))
  f322 := Tryz.func143.trans (congrArg some (by kernel_rfl))
  f337 := Tryz.func157.trans (congrArg some (by kernel_rfl))
  f338 := Tryz.func158.trans (congrArg some (by kernel_rfl))
  t0 := Tryz.underlying0
  a0 := Tryz.isAgg0
  z0 := Tryz.sizeOf0
  v0 := Tryz.zeroValue0
  t2 := Tryz.underlying2
  a2 := Tryz.isAgg2
  z2 := Tryz.sizeOf2
  v2 := Tryz.zeroValue2
  t3 := Tryz.underlying3
  a3 := Tryz.isAgg3
  z3 := Tryz.sizeOf3
  v3 := Tryz.zeroValue3
  t4 := Tryz.underlying4
  a4 := Tryz.isAgg4
  z4 := Tryz.sizeOf4
  v4 := Tryz.zeroValue4
  t5 := Tryz.underlying5
  a5 := Tryz.isAgg5
  z5 := Tryz.sizeOf5
  v5 := Tryz.zeroValue5
  t9 := Tryz.underlying9
  a9 := Tryz.isAgg9
  z9 := Tryz.sizeOf9
  v9 := Tryz.zeroValue9
  t20 := Tryz.underlying20
  a20 := Tryz.isAgg20
  z20 := Tryz.sizeOf20
  v20 := Tryz.zeroValue20
  t21 := Tryz.underlying21
  a21 := Tryz.isAgg21
  z21 := Tryz.sizeOf21
  v21 := Tryz.zeroValue21
  t37 := Tryz.underlying22
  a37 := Tryz.isAgg22
  z37 := Tryz.sizeOf22
  v37 := Tryz.zeroValue22
  t46 := Tryz.underlying79
  a46 := Tryz.isAgg79
  z46 := Tryz.sizeOf79
  v46 := Tryz.zeroValue79
  t51 := Tryz.underlying68
  a51 := Tryz.isAgg68
  z51 := Tryz.sizeOf68
  v51 := Tryz.zeroValue68
  t53 := Tryz.underlying105
  a53 := Tryz.isAgg105
  z53 := Tryz.sizeOf105
  v53 := Tryz.zeroValue105
  t75 := Tryz.underlying135
  a75 := Tryz.isAgg135
  z75 := Tryz.sizeOf135
  v75 := Tryz.zeroValue135
  t85 := Tryz.underlying136
  a85 := Tryz.isAgg136
  z85 := Tryz.sizeOf136
  v85 := Tryz.zeroValue136
  t127 := Tryz.underlying155
  a127 := Tryz.isAgg155
  z127 := Tryz.sizeOf155
  v127 := Tryz.zeroValue155
  t143 := Tryz.underlying186
  a143 := Tryz.isAgg186
  z143 := Tryz.sizeOf186
  v143 := Tryz.zeroValue186
  t145 := Tryz.underlying188
  a145 := Tryz.isAgg188
  z145 := Tryz.sizeOf188
  v145 := Tryz.zeroValue188
  t167 := Tryz.underlying157
  a167 := Tryz.isAgg157
  z167 := Tryz.sizeOf157
  v167 := Tryz.zeroValue157
  t168 := Tryz.underlying160
  a168 := Tryz.isAgg160
  z168 := Tryz.sizeOf160
  v168 := Tryz.zeroValue160
  t171 := Tryz.underlying164
  a171 := Tryz.isAgg164
  z171 := Tryz.sizeOf164
  v171 := Tryz.zeroValue164
  t173 := Tryz.underlying167
  a173 := Tryz.isAgg167
  z173 := Tryz.sizeOf167
  v173 := Tryz.zeroValue167
  t175 := Tryz.underlying158
  a175 := Tryz.isAgg158
  z175 := Tryz.sizeOf158
  v175 := Tryz.zeroValue158
  t210 := Tryz.underlying178
  a210 := Tryz.isAgg178
  z210 := Tryz.sizeOf178
  v210 := Tryz.zeroValue178
  t212 := Tryz.underlying182
  a212 := Tryz.isAgg182
  z212 := Tryz.sizeOf182
  v212 := Tryz.zeroValue182
  t213 := Tryz.underlying183
  a213 := Tryz.isAgg183
  z213 := Tryz.sizeOf183
  t232 := Tryz.underlying196
  a232 := Tryz.isAgg196
  z232 := Tryz.sizeOf196
  v232 := Tryz.zeroValue196
  t233 := Tryz.underlying197
  a233 := Tryz.isAgg197
  z233 := Tryz.sizeOf197
  v233 := Tryz.zeroValue197
  g15 := by kernel_rfl
  g16 := by kernel_rfl
  g17 := by kernel_rfl
  g18 := by kernel_rfl
  g19 := by kernel_rfl
  t80 := Tryz.underlying94
  a80 := Tryz.isAgg94
  z80 := Tryz.sizeOf94
  v80 := Tryz.zeroValue94
  i0 := by kernel_rfl
  i2 := by kernel_rfl
  i3 := by kernel_rfl
  i4 := by kernel_rfl
  i5 := by kernel_rfl
  i9 := by kernel_rfl
  i20 := by kernel_rfl
  i21 := by kernel_rfl
  i37 := by kernel_rfl
  i46 := by kernel_rfl
  i51 := by kernel_rfl
  i53 := by kernel_rfl
  i75 := by kernel_rfl
  i80 := by kernel_rfl
  i85 := by kernel_rfl
  i127 := by kernel_rfl
  i143 := by kernel_rfl
  i145 := by kernel_rfl
  i167 := by kernel_rfl
  i168 := by kernel_rfl
  i171 := by kernel_rfl
  i173 := by kernel_rfl
  i175 := by kernel_rfl
  i210 := by kernel_rfl
  i212 := by kernel_rfl
  i232 := by kernel_rfl
  i233 := by kernel_rfl
  m15 := by kernel_rfl
  m16 := by kernel_rfl
  m17 := by kernel_rfl
  m18 := by kernel_rfl
  m19 := by kernel_rfl
  c0 := by kernel_rfl
  c2 := by kernel_rfl
  c3 := by kernel_rfl
  c4 := by kernel_rfl
  c5 := by kernel_rfl
  c9 := by kernel_rfl
  c20 := by kernel_rfl
  c21 := by kernel_rfl
  c37 := by kernel_rfl
  c46 := by kernel_rfl
  c51 := by kernel_rfl
  c53 := by kernel_rfl
  c75 := by kernel_rfl
  c80 := by kernel_rfl
  c85 := by kernel_rfl
  c127 := by kernel_rfl
  c143 := by kernel_rfl
  c145 := by kernel_rfl
  c167 := by kernel_rfl
  c168 := by kernel_rfl
  c171 := by kernel_rfl
  c173 := by kernel_rfl
  c175 := by kernel_rfl
  c210 := by kernel_rfl
  c212 := by kernel_rfl
  c213 := by kernel_rfl
  c232 := by kernel_rfl
  c233 := by kernel_rfl }
theorem hi9 : (Tryz.prog.info? (lays146_ren.t 9)).map (fun i => (i.zero, i.size, i.bytes)) = some (some (.string ByteArray.empty), 1, 16) := by kernel_rfl
theorem bx : Go.Proofs.Builder.Extra Tryz.prog lays156_ren := {
  sizeBuilder := by kernel_rfl
  liesBuilder := by kernel_rfl
  t5 := Tryz.underlying5
  a5 := Tryz.isAgg5
  z5 := Tryz.sizeOf5
  v5 := Tryz.zeroValue5
  infoByte := by kernel_rfl
  cellsByte := by kernel_rfl
  sizeByte := by kernel_rfl
  neB5 := by decide }
theorem hsyn : Tryz.prog.globalNamed nmSyn ≠ none := by
  have e : (Tryz.prog.globalNamed nmSyn).isSome = true := by kernel_rfl
  intro h; rw [h] at e; cases e
theorem hran : Tryz.prog.globalNamed nmRan ≠ none := by
  have e : (Tryz.prog.globalNamed nmRan).isSome = true := by kernel_rfl
  intro h; rw [h] at e; cases e
theorem hpow : Tryz.prog.globalNamed nmPow ≠ none := by
  have e : (Tryz.prog.globalNamed nmPow).isSome = true := by kernel_rfl
  intro h; rw [h] at e; cases e
theorem fn80 : Fn? Tryz.prog 80 := ⟨Tryz.f80, Tryz.func80, by kernel_rfl, by kernel_rfl⟩
def S1 : CallF := addF noF 80 sSplit
theorem okS1 : CfOk Tryz.prog S1 := cfOk_add (cfOk_no _) fun args s r s' _ _ h => split_calls lays146 hi9 fn80 args s r s' h
theorem fn81 : Fn? Tryz.prog 81 := ⟨Tryz.f81, Tryz.func81, by kernel_rfl, by kernel_rfl⟩
def S2 : CallF := addF S1 81 sJoin
theorem okS2 : CfOk Tryz.prog S2 := cfOk_add okS1 fun args s r s' _ _ h => join_calls lays156 bx fn81 args s r s' h
theorem fn85 : Fn? Tryz.prog 85 := ⟨Tryz.f85, Tryz.func85, by kernel_rfl, by kernel_rfl⟩
def S3 : CallF := addF S2 85 sIndexByte
theorem okS3 : CfOk Tryz.prog S3 := cfOk_add okS2 fun args s r s' _ _ h => indexByte_calls lays137 fn85 args s r s' h
theorem fn101 : Fn? Tryz.prog 101 := ⟨Tryz.f101, Tryz.func101, by kernel_rfl, by kernel_rfl⟩
def S4 : CallF := addF S3 101 sParse
theorem okS4 : CfOk Tryz.prog S4 := cfOk_add okS3 fun args s r s' _ _ h => parse_calls laysC174 hsyn hran fn101 args s r s' h
theorem fn103 : Fn? Tryz.prog 103 := ⟨Tryz.f103, Tryz.func103, by kernel_rfl, by kernel_rfl⟩
def S5 : CallF := addF S4 103 sFormat
theorem okS5 : CfOk Tryz.prog S5 := cfOk_add okS4 fun args s r s' _ _ h => format_calls laysM173 hpow fn103 args s r s' h
def T0 : CallF := S5
theorem ok0 : CfOk Tryz.prog T0 := okS5
def sc0 : List CT := [.fl .f32, .fl .f32, .fl .f32, .fl .f32, .fl .f32, .fl .f32, .fl .f32, .fl .f32, .fl .f32, .fl .f32, .fl .f32, .fl .f32, .fl .f32, .fl .f32, .fl .f32, .fl .f32, .fl .f32, .fl .f32]

/-- spec.l01Split, loop 0: one round -/
noncomputable def w95l0 {α : Type} (ih : ByteArray → Int → Int → Int → List ByteArray → (Nat × Int × List ByteArray)) (x0 : ByteArray) (x1 x2 x3 : Int) (x4 : List ByteArray) (k k2 : (Nat × Int × List ByteArray) → α) : α :=
 cond (decide ((x3 : Int) < (((x0.size) : Nat) : Int))) (cond ((decide ((0 : Int) ≤ x3)) && (Nat.blt (Int.toNat x3) (x0.size))) (cond ((((UInt8.toNat (List.getD (ByteArray.data x0).toList (Int.toNat x3) 0) : Nat) : Int) : Int) == x1) (cond ((((decide ((0 : Int) ≤ x2)) && (decide ((0 : Int) ≤ x3))) && (Nat.ble (Int.toNat x2) (Int.toNat x3))) && (Nat.ble (Int.toNat x3) (x0.size))) (cond (Nat.ble ((x4.length + 1) * 17) 140737488355328) (cond (Nat.beq ((ih x0 x1 (IntKind.i64.wrap (x3 + 1)) (IntKind.i64.wrap (x3 + 1)) (((x4.drop 0).take x4.length) ++ ([(ByteArray.extract x0 (Int.toNat x2) (Int.toNat x3))] : List ByteArray))).1) 0) (k (0, ((ih x0 x1 (IntKind.i64.wrap (x3 + 1)) (IntKind.i64.wrap (x3 + 1)) (((x4.drop 0).take x4.length) ++ ([(ByteArray.extract x0 (Int.toNat x2) (Int.toNat x3))] : List ByteArray))).2.1), ((ih x0 x1 (IntKind.i64.wrap (x3 + 1)) (IntKind.i64.wrap (x3 + 1)) (((x4.drop 0).take x4.length) ++ ([(ByteArray.extract x0 (Int.toNat x2) (Int.toNat x3))] : List ByteArray))).2.2))) (cond (Nat.beq ((ih x0 x1 (IntKind.i64.wrap (x3 + 1)) (IntKind.i64.wrap (x3 + 1)) (((x4.drop 0).take x4.length) ++ ([(ByteArray.extract x0 (Int.toNat x2) (Int.toNat x3))] : List ByteArray))).1) 1) (k (0, (IntKind.i64.wrap (x3 + 1)), (((x4.drop 0).take x4.length) ++ ([(ByteArray.extract x0 (Int.toNat x2) (Int.toNat x3))] : List ByteArray)))) (k (2, 0, [])))) (k (2, 0, []))) (k (2, 0, []))) (k2 (ih x0 x1 x2 (IntKind.i64.wrap (x3 + 1)) x4))) (k (2, 0, []))) (k (1, 0, []))
noncomputable def b95l0 (ih : ByteArray → Int → Int → Int → List ByteArray → (Nat × Int × List ByteArray)) (x0 : ByteArray) (x1 x2 x3 : Int) (x4 : List ByteArray) : Nat × Int × List ByteArray := w95l0 ih x0 x1 x2 x3 x4 (fun p => p) (fun p => p)
noncomputable def r95l0 : Nat → ByteArray → Int → Int → Int → List ByteArray → (Nat × Int × List ByteArray)
 | 0 => fun _ _ _ _ _ => (2, 0, [])
 | m + 1 => b95l0 (r95l0 m)
noncomputable def g95l0 (x0 : ByteArray) (x1 x2 x3 : Int) (x4 : List ByteArray) (p : Nat × Int × List ByteArray) : List (Bool × (Fin' × List Value × St)) := [((Nat.beq (p.1) 0), .exit 0, [.string x0, wsl 1, vi (p.2.1)], ⟨[⟨true, none⟩, ⟨true, (some (.strs (p.2.2)))⟩], 1, [0]⟩), ((Nat.beq (p.1) 1), .exit 0, [.string x0, wsl 0, vi x2], ⟨[⟨true, (some (.strs x4))⟩], 1, [0]⟩)]
noncomputable def a95l0 (x0 : ByteArray) (x1 x2 x3 : Int) (x4 : List ByteArray) (p : Nat × Int × List ByteArray) : Option (Fin' × List Value × St) := firstT ((g95l0 x0 x1 x2 x3 x4 p).map fun (b, x) => (b, (x.1, frameOf 35 [0, 5, 6] x.2.1, x.2.2)))
noncomputable def u95l0 (x0 : ByteArray) (x1 x2 x3 : Int) (x4 : List ByteArray) (p : Nat × Int × List ByteArray) : Option (Fin' × List Value × St) := alts ((g95l0 x0 x1 x2 x3 x4 p).map fun (b, x) => (b, (x.1, frameOf 35 [0, 5, 6] x.2.1, x.2.2))) some
theorem v95l0 (x0 : ByteArray) (x1 x2 x3 : Int) (x4 : List ByteArray) (p : Nat × Int × List ByteArray) : u95l0 x0 x1 x2 x3 x4 p = a95l0 x0 x1 x2 x3 x4 p := alts_first _
noncomputable def q95l0 (m : Nat) : SumK := fun vals s =>
 match vals, s.h with
 | [.string x0, .int .u8 x1, .iface f0 .nilIface, .int .i64 x2, .int .i64 x3], [⟨true, some (.strs x4)⟩] => if f0 = 0 then (g95l0 x0 x1 x2 x3 x4 (r95l0 m x0 x1 x2 x3 x4)) else noQ vals s
 | _, _ => noQ vals s
theorem p95l0 {α : Type} (ih : ByteArray → Int → Int → Int → List ByteArray → (Nat × Int × List ByteArray)) (x0 : ByteArray) (x1 x2 x3 : Int) (x4 : List ByteArray) (f : (Nat × Int × List ByteArray) → α) (u : (Nat × Int × List ByteArray) → α) (h : ∀ p, u p = f p) : w95l0 ih x0 x1 x2 x3 x4 f u = f (w95l0 ih x0 x1 x2 x3 x4 (fun p => p) (fun p => p)) := by unfold w95l0; repeat' (first | refine cond_app f _ ?_ ?_ | rfl | exact h _)
set_option maxRecDepth 100000 in
set_option maxHeartbeats 4000000 in
theorem e95l0 (m : Nat) (x0 : ByteArray) (x1 x2 x3 : Int) (x4 : List ByteArray) : evC Tryz.prog ext T0 noL 200 (loopN Tryz.f95 0) (loopTail ([0, 1, 5, 6, 7], []) [0, 5, 6] [0] (sumK 35 [0, 1, 5, 6, 7] [0, 5, 6] (q95l0 m))) (frameOf 35 [0, 1, 5, 6, 7] [.string x0, .int .u8 x1, wsl 0, vi x2, vi x3]) ⟨[⟨true, (some (.strs x4))⟩], 1, []⟩ = firstT ((g95l0 x0 x1 x2 x3 x4 (r95l0 (m + 1) x0 x1 x2 x3 x4)).map fun (b, x) => (b, (x.1, frameOf 35 [0, 5, 6] x.2.1, x.2.2))) :=
 Eq.trans (by kernel_rfl) (p95l0 (r95l0 m) x0 x1 x2 x3 x4 (a95l0 x0 x1 x2 x3 x4) (u95l0 x0 x1 x2 x3 x4) (v95l0 x0 x1 x2 x3 x4))
set_option maxRecDepth 100000 in
set_option maxHeartbeats 4000000 in
theorem qm95l0 : ∀ m, SumKOk Tryz.prog (loopN Tryz.f95 0) 35 [0, 1, 5, 6, 7] [0, 5, 6] (q95l0 m) := by
  intro m
  induction m with
  | zero =>
    intro vals s x h1 h2 h3
    unfold q95l0 at h3; split at h3
    · rename_i h; split at h3
      · rename_i hc; obtain ⟨rfl⟩ := hc; exact absurd h3 (by simp [r95l0, g95l0, firstT, Nat.beq])
      · exact noQ_ok _ _ _ h1 h2 h3
    · exact noQ_ok _ _ _ h1 h2 h3
  | succ m ih =>
    intro vals s x h1 h2 h3
    unfold q95l0 at h3; split at h3
    · rename_i h; split at h3
      · rename_i hc; obtain ⟨rfl⟩ := hc; exact sum_step ok0 extOk mixed ((lfOkF_no _ _).inner (by kernel_rfl)) ih h1 h2 h (e95l0 m _ _ _ _ _) rfl h3
      · exact noQ_ok _ _ _ h1 h2 h3
    · exact noQ_ok _ _ _ h1 h2 h3
noncomputable def Q95l0 : SumK := fun vals s => q95l0 (fuelOf vals s.h) vals s
theorem qok95l0 : SumKOk Tryz.prog (loopN Tryz.f95 0) 35 [0, 1, 5, 6, 7] [0, 5, 6] Q95l0 := fuel_ok qm95l0 fuelOf
noncomputable def L95_1 : LoopT := addL noL 5 ([0, 1, 5, 6, 7], []) (sumK 35 [0, 1, 5, 6, 7] [0, 5, 6] Q95l0)
theorem lok95_1 : LfOkF Tryz.prog L95_1 Tryz.f95 := lfOkF_add (lfOkF_no _ _) qok95l0 (by kernel_rfl) (by kernel_rfl) (by kernel_rfl)

/-- spec.l01Split -/
noncomputable def w95 {α : Type} (x0 : ByteArray) (x1 : Int) (k : (Nat × List ByteArray × ByteArray) → α) : α :=
 let c0 := (r95l0 (1000 + 0 + (x0.size)) x0 x1 0 0 ([] : List ByteArray))
 cond (Nat.beq (c0.1) 0) (cond (((decide ((0 : Int) ≤ (c0.2.1))) && (Nat.ble (Int.toNat (c0.2.1)) (x0.size))) && (Nat.ble (x0.size) (x0.size))) (cond (Nat.ble (((c0.2.2).length + 1) * 17) 140737488355328) (k (0, ((((c0.2.2).drop 0).take ((c0.2.2).length)) ++ ([(ByteArray.extract x0 (Int.toNat (c0.2.1)) (x0.size))] : List ByteArray)), ByteArray.empty)) (k (2, [], ByteArray.empty))) (k (2, [], ByteArray.empty))) (cond (Nat.beq (c0.1) 1) (cond ((Nat.ble 0 (x0.size)) && (Nat.ble (x0.size) (x0.size))) (k (1, [], (ByteArray.extract x0 0 (x0.size)))) (k (2, [], ByteArray.empty))) (k (2, [], ByteArray.empty)))
noncomputable def r95 (x0 : ByteArray) (x1 : Int) : Nat × List ByteArray × ByteArray := w95 x0 x1 (fun p => p)
noncomputable def g95 (x0 : ByteArray) (x1 : Int) (p : Nat × List ByteArray × ByteArray) : List (Bool × Value × St) := [((Nat.beq (p.1) 0), wsl 0, ⟨[⟨true, (some (.strs (p.2.1)))⟩], 0, []⟩), ((Nat.beq (p.1) 1), wsl 0, ⟨[⟨true, (some (.strs ([(p.2.2)] : List ByteArray)))⟩], 0, []⟩)]
theorem p95 {α : Type} (x0 : ByteArray) (x1 : Int) (f : (Nat × List ByteArray × ByteArray) → α) : w95 x0 x1 f = f (w95 x0 x1 (fun p => p)) := by unfold w95; repeat' (first | refine cond_app f _ ?_ ?_ | rfl)
set_option maxRecDepth 100000 in
set_option maxHeartbeats 4000000 in
theorem e95 (x0 : ByteArray) (x1 : Int) : evFn Tryz.prog ext T0 L95_1 200 Tryz.f95 [.string x0, .int .u8 x1] st0 = firstT (g95 x0 x1 (r95 x0 x1)) :=
 Eq.trans (by kernel_rfl) (p95 x0 x1 (fun p => firstT (g95 x0 x1 p)))
noncomputable def s95 (args : List Value) (s : St) : List (Bool × Value × St) :=
 match args, s.h with
 | [.string x0, .int .u8 x1], [] => (g95 x0 x1 (r95 x0 x1))
 | _, _ => T0 95 args s
noncomputable def T1 : CallF := addF T0 95 s95
set_option maxRecDepth 100000 in
set_option maxHeartbeats 4000000 in
theorem ok1 : CfOk Tryz.prog T1 := by
  refine cfOk_add ok0 fun args s r s' h1 h2 h3 => ?_
  unfold s95 at h3; split at h3
  · rename_i h; exact callOk ok0 Tryz.func95 h1 h2 h lok95_1.body (e95 _ _) rfl h3
  · exact ok0 _ _ _ _ _ h1 h2 h3

/-- spec.l01Read, loop 0 -/
noncomputable def w96l0 {α : Type} (x0 : ByteArray) (x1 : Int) (k : Unit → α) : α :=
 k ()
noncomputable def r96l0 (x0 : ByteArray) (x1 : Int) : Unit := w96l0 x0 x1 (fun p => p)
noncomputable def g96l0 (x0 : ByteArray) (x1 : Int) (p : Unit) : List (Bool × (Fin' × List Value × St)) := [(true, .exit 0, [anyV, anyV, .int .u32 x1], st0)]
theorem p96l0 {α : Type} (x0 : ByteArray) (x1 : Int) (f : Unit → α) : w96l0 x0 x1 f = f (w96l0 x0 x1 (fun p => p)) := by unfold w96l0; exact rfl
set_option maxRecDepth 100000 in
set_option maxHeartbeats 4000000 in
theorem e96l0 (x0 : ByteArray) (x1 : Int) : evC Tryz.prog ext T1 noL 200 (loopN Tryz.f96 0) (loopTail ([0, 4, 5], []) [2, 3, 4] [] (sumK 52 [0, 4, 5] [2, 3, 4] noQ)) (frameOf 52 [0, 4, 5] [.string x0, .int .u32 x1, vi 8]) ⟨[], 0, []⟩ = firstT ((g96l0 x0 x1 (r96l0 x0 x1)).map fun (b, x) => (b, (x.1, frameOf 52 [2, 3, 4] x.2.1, x.2.2))) :=
 Eq.trans (by kernel_rfl) (p96l0 x0 x1 (fun p => firstT ((g96l0 x0 x1 p).map fun (b, x) => (b, (x.1, frameOf 52 [2, 3, 4] x.2.1, x.2.2)))))
noncomputable def Q96l0 : SumK := fun vals s =>
 match vals, s.h with
 | [.string x0, .int .u32 x1, .int .i64 f0], [] => if f0 = 8 then (g96l0 x0 x1 (r96l0 x0 x1)) else noQ vals s
 | _, _ => noQ vals s
set_option maxRecDepth 100000 in
set_option maxHeartbeats 4000000 in
theorem qok96l0 : SumKOk Tryz.prog (loopN Tryz.f96 0) 52 [0, 4, 5] [2, 3, 4] Q96l0 := by
  intro vals s x h1 h2 h3
  unfold Q96l0 at h3; split at h3
  · rename_i h; split at h3
    · rename_i hc; obtain ⟨rfl⟩ := hc; exact sum_step ok1 extOk mixed ((lfOkF_no _ _).inner (by kernel_rfl)) noQ_ok h1 h2 h (e96l0 _ _) rfl h3
    · exact noQ_ok _ _ _ h1 h2 h3
  · exact noQ_ok _ _ _ h1 h2 h3
noncomputable def L96_1 : LoopT := addL noL 6 ([0, 4, 5], []) (sumK 52 [0, 4, 5] [2, 3, 4] Q96l0)
theorem lok96_1 : LfOkF Tryz.prog L96_1 Tryz.f96 := lfOkF_add (lfOkF_no _ _) qok96l0 (by kernel_rfl) (by kernel_rfl) (by kernel_rfl)

/-- spec.l01Read, loop 0 -/
noncomputable def w96l0b {α : Type} (x0 : ByteArray) (x1 : Int) (k : (Nat × Int) → α) : α :=
 cond (Nat.blt 7 (x0.size)) (cond (decide ((((UInt8.toNat (List.getD (ByteArray.data x0).toList 7 0) : Nat) : Int) : Int) ≥ 48)) (cond (decide ((((UInt8.toNat (List.getD (ByteArray.data x0).toList 7 0) : Nat) : Int) : Int) ≤ 57)) (k (0, (IntKind.u32.wrap ((IntKind.u32.wrap (x1 * 16)) + (IntKind.u32.wrap (IntKind.u8.wrap (((UInt8.toNat (List.getD (ByteArray.data x0).toList 7 0) : Nat) : Int) - 48))))))) (cond (decide ((((UInt8.toNat (List.getD (ByteArray.data x0).toList 7 0) : Nat) : Int) : Int) ≥ 97)) (cond (decide ((((UInt8.toNat (List.getD (ByteArray.data x0).toList 7 0) : Nat) : Int) : Int) ≤ 102)) (k (0, (IntKind.u32.wrap ((IntKind.u32.wrap ((IntKind.u32.wrap (x1 * 16)) + (IntKind.u32.wrap (IntKind.u8.wrap (((UInt8.toNat (List.getD (ByteArray.data x0).toList 7 0) : Nat) : Int) - 97))))) + 10)))) (k (1, 0))) (k (1, 0)))) (cond (decide ((((UInt8.toNat (List.getD (ByteArray.data x0).toList 7 0) : Nat) : Int) : Int) ≥ 97)) (cond (decide ((((UInt8.toNat (List.getD (ByteArray.data x0).toList 7 0) : Nat) : Int) : Int) ≤ 102)) (k (0, (IntKind.u32.wrap ((IntKind.u32.wrap ((IntKind.u32.wrap (x1 * 16)) + (IntKind.u32.wrap (IntKind.u8.wrap (((UInt8.toNat (List.getD (ByteArray.data x0).toList 7 0) : Nat) : Int) - 97))))) + 10)))) (k (1, 0))) (k (1, 0)))) (k (2, 0))
noncomputable def r96l0b (x0 : ByteArray) (x1 : Int) : Nat × Int := w96l0b x0 x1 (fun p => p)
noncomputable def g96l0b (x0 : ByteArray) (x1 : Int) (p : Nat × Int) : List (Bool × (Fin' × List Value × St)) := [((Nat.beq (p.1) 0), .exit 0, [anyV, anyV, .int .u32 (p.2)], st0), ((Nat.beq (p.1) 1), .ret, [vf 0, .bool false, .int .u32 x1], st0)]
theorem p96l0b {α : Type} (x0 : ByteArray) (x1 : Int) (f : (Nat × Int) → α) : w96l0b x0 x1 f = f (w96l0b x0 x1 (fun p => p)) := by unfold w96l0b; repeat' (first | refine cond_app f _ ?_ ?_ | rfl)
set_option maxRecDepth 100000 in
set_option maxHeartbeats 4000000 in
theorem e96l0b (x0 : ByteArray) (x1 : Int) : evC Tryz.prog ext T1 L96_1 200 (loopN Tryz.f96 0) (loopTail ([0, 4, 5], []) [2, 3, 4] [] (sumK 52 [0, 4, 5] [2, 3, 4] Q96l0)) (frameOf 52 [0, 4, 5] [.string x0, .int .u32 x1, vi 7]) ⟨[], 0, []⟩ = firstT ((g96l0b x0 x1 (r96l0b x0 x1)).map fun (b, x) => (b, (x.1, frameOf 52 [2, 3, 4] x.2.1, x.2.2))) :=
 Eq.trans (by kernel_rfl) (p96l0b x0 x1 (fun p => firstT ((g96l0b x0 x1 p).map fun (b, x) => (b, (x.1, frameOf 52 [2, 3, 4] x.2.1, x.2.2)))))
noncomputable def Q96l0b : SumK := fun vals s =>
 match vals, s.h with
 | [.string x0, .int .u32 x1, .int .i64 f0], [] => if f0 = 7 then (g96l0b x0 x1 (r96l0b x0 x1)) else Q96l0 vals s
 | _, _ => Q96l0 vals s
set_option maxRecDepth 100000 in
set_option maxHeartbeats 4000000 in
theorem qok96l0b : SumKOk Tryz.prog (loopN Tryz.f96 0) 52 [0, 4, 5] [2, 3, 4] Q96l0b := by
  intro vals s x h1 h2 h3
  unfold Q96l0b at h3; split at h3
  · rename_i h; split at h3
    · rename_i hc; obtain ⟨rfl⟩ := hc; exact sum_step ok1 extOk mixed (lok96_1.inner (by kernel_rfl)) qok96l0 h1 h2 h (e96l0b _ _) rfl h3
    · exact qok96l0 _ _ _ h1 h2 h3
  · exact qok96l0 _ _ _ h1 h2 h3
noncomputable def L96_2 : LoopT := addL L96_1 6 ([0, 4, 5], []) (sumK 52 [0, 4, 5] [2, 3, 4] Q96l0b)
theorem lok96_2 : LfOkF Tryz.prog L96_2 Tryz.f96 := lfOkF_add lok96_1 qok96l0b (by kernel_rfl) (by kernel_rfl) (by kernel_rfl)

/-- spec.l01Read, loop 0 -/
noncomputable def w96l0c {α : Type} (x0 : ByteArray) (x1 : Int) (k : (Nat × Int × Int) → α) : α :=
 let c4 := (r96l0b x0 (IntKind.u32.wrap ((IntKind.u32.wrap (x1 * 16)) + (IntKind.u32.wrap (IntKind.u8.wrap (((UInt8.toNat (List.getD (ByteArray.data x0).toList 6 0) : Nat) : Int) - 48))))))
 let c5 := (r96l0b x0 (IntKind.u32.wrap ((IntKind.u32.wrap ((IntKind.u32.wrap (x1 * 16)) + (IntKind.u32.wrap (IntKind.u8.wrap (((UInt8.toNat (List.getD (ByteArray.data x0).toList 6 0) : Nat) : Int) - 97))))) + 10)))
 cond (Nat.blt 6 (x0.size)) (cond (decide ((((UInt8.toNat (List.getD (ByteArray.data x0).toList 6 0) : Nat) : Int) : Int) ≥ 48)) (cond (decide ((((UInt8.toNat (List.getD (ByteArray.data x0).toList 6 0) : Nat) : Int) : Int) ≤ 57)) (cond (Nat.beq (c4.1) 0) (k (0, (c4.2), 0)) (cond (Nat.beq (c4.1) 1) (k (1, 0, (IntKind.u32.wrap ((IntKind.u32.wrap (x1 * 16)) + (IntKind.u32.wrap (IntKind.u8.wrap (((UInt8.toNat (List.getD (ByteArray.data x0).toList 6 0) : Nat) : Int) - 48))))))) (k (2, 0, 0)))) (cond (decide ((((UInt8.toNat (List.getD (ByteArray.data x0).toList 6 0) : Nat) : Int) : Int) ≥ 97)) (cond (decide ((((UInt8.toNat (List.getD (ByteArray.data x0).toList 6 0) : Nat) : Int) : Int) ≤ 102)) (cond (Nat.beq (c5.1) 0) (k (0, (c5.2), 0)) (cond (Nat.beq (c5.1) 1) (k (1, 0, (IntKind.u32.wrap ((IntKind.u32.wrap ((IntKind.u32.wrap (x1 * 16)) + (IntKind.u32.wrap (IntKind.u8.wrap (((UInt8.toNat (List.getD (ByteArray.data x0).toList 6 0) : Nat) : Int) - 97))))) + 10)))) (k (2, 0, 0)))) (k (1, 0, x1))) (k (1, 0, x1)))) (cond (decide ((((UInt8.toNat (List.getD (ByteArray.data x0).toList 6 0) : Nat) : Int) : Int) ≥ 97)) (cond (decide ((((UInt8.toNat (List.getD (ByteArray.data x0).toList 6 0) : Nat) : Int) : Int) ≤ 102)) (cond (Nat.beq (c5.1) 0) (k (0, (c5.2), 0)) (cond (Nat.beq (c5.1) 1) (k (1, 0, (IntKind.u32.wrap ((IntKind.u32.wrap ((IntKind.u32.wrap (x1 * 16)) + (IntKind.u32.wrap (IntKind.u8.wrap (((UInt8.toNat (List.getD (ByteArray.data x0).toList 6 0) : Nat) : Int) - 97))))) + 10)))) (k (2, 0, 0)))) (k (1, 0, x1))) (k (1, 0, x1)))) (k (2, 0, 0))
noncomputable def r96l0c (x0 : ByteArray) (x1 : Int) : Nat × Int × Int := w96l0c x0 x1 (fun p => p)
noncomputable def g96l0c (x0 : ByteArray) (x1 : Int) (p : Nat × Int × Int) : List (Bool × (Fin' × List Value × St)) := [((Nat.beq (p.1) 0), .exit 0, [anyV, anyV, .int .u32 (p.2.1)], st0), ((Nat.beq (p.1) 1), .ret, [vf 0, .bool false, .int .u32 (p.2.2)], st0)]
theorem p96l0c {α : Type} (x0 : ByteArray) (x1 : Int) (f : (Nat × Int × Int) → α) : w96l0c x0 x1 f = f (w96l0c x0 x1 (fun p => p)) := by unfold w96l0c; repeat' (first | refine cond_app f _ ?_ ?_ | rfl)
set_option maxRecDepth 100000 in
set_option maxHeartbeats 4000000 in
theorem e96l0c (x0 : ByteArray) (x1 : Int) : evC Tryz.prog ext T1 L96_2 200 (loopN Tryz.f96 0) (loopTail ([0, 4, 5], []) [2, 3, 4] [] (sumK 52 [0, 4, 5] [2, 3, 4] Q96l0b)) (frameOf 52 [0, 4, 5] [.string x0, .int .u32 x1, vi 6]) ⟨[], 0, []⟩ = firstT ((g96l0c x0 x1 (r96l0c x0 x1)).map fun (b, x) => (b, (x.1, frameOf 52 [2, 3, 4] x.2.1, x.2.2))) :=
 Eq.trans (by kernel_rfl) (p96l0c x0 x1 (fun p => firstT ((g96l0c x0 x1 p).map fun (b, x) => (b, (x.1, frameOf 52 [2, 3, 4] x.2.1, x.2.2)))))
noncomputable def Q96l0c : SumK := fun vals s =>
 match vals, s.h with
 | [.string x0, .int .u32 x1, .int .i64 f0], [] => if f0 = 6 then (g96l0c x0 x1 (r96l0c x0 x1)) else Q96l0b vals s
 | _, _ => Q96l0b vals s
set_option maxRecDepth 100000 in
set_option maxHeartbeats 4000000 in
theorem qok96l0c : SumKOk Tryz.prog (loopN Tryz.f96 0) 52 [0, 4, 5] [2, 3, 4] Q96l0c := by
  intro vals s x h1 h2 h3
  unfold Q96l0c at h3; split at h3
  · rename_i h; split at h3
    · rename_i hc; obtain ⟨rfl⟩ := hc; exact sum_step ok1 extOk mixed (lok96_2.inner (by kernel_rfl)) qok96l0b h1 h2 h (e96l0c _ _) rfl h3
    · exact qok96l0b _ _ _ h1 h2 h3
  · exact qok96l0b _ _ _ h1 h2 h3
noncomputable def L96_3 : LoopT := addL L96_2 6 ([0, 4, 5], []) (sumK 52 [0, 4, 5] [2, 3, 4] Q96l0c)
theorem lok96_3 : LfOkF Tryz.prog L96_3 Tryz.f96 := lfOkF_add lok96_2 qok96l0c (by kernel_rfl) (by kernel_rfl) (by kernel_rfl)

/-- spec.l01Read, loop 0 -/
noncomputable def w96l0d {α : Type} (x0 : ByteArray) (x1 : Int) (k : (Nat × Int × Int) → α) : α :=
 let c6 := (r96l0c x0 (IntKind.u32.wrap ((IntKind.u32.wrap (x1 * 16)) + (IntKind.u32.wrap (IntKind.u8.wrap (((UInt8.toNat (List.getD (ByteArray.data x0).toList 5 0) : Nat) : Int) - 48))))))
 let c7 := (r96l0c x0 (IntKind.u32.wrap ((IntKind.u32.wrap ((IntKind.u32.wrap (x1 * 16)) + (IntKind.u32.wrap (IntKind.u8.wrap (((UInt8.toNat (List.getD (ByteArray.data x0).toList 5 0) : Nat) : Int) - 97))))) + 10)))
 cond (Nat.blt 5 (x0.size)) (cond (decide ((((UInt8.toNat (List.getD (ByteArray.data x0).toList 5 0) : Nat) : Int) : Int) ≥ 48)) (cond (decide ((((UInt8.toNat (List.getD (ByteArray.data x0).toList 5 0) : Nat) : Int) : Int) ≤ 57)) (cond (Nat.beq (c6.1) 0) (k (0, (c6.2.1), 0)) (cond (Nat.beq (c6.1) 1) (k (1, 0, (c6.2.2))) (k (2, 0, 0)))) (cond (decide ((((UInt8.toNat (List.getD (ByteArray.data x0).toList 5 0) : Nat) : Int) : Int) ≥ 97)) (cond (decide ((((UInt8.toNat (List.getD (ByteArray.data x0).toList 5 0) : Nat) : Int) : Int) ≤ 102)) (cond (Nat.beq (c7.1) 0) (k (0, (c7.2.1), 0)) (cond (Nat.beq (c7.1) 1) (k (1, 0, (c7.2.2))) (k (2, 0, 0)))) (k (1, 0, x1))) (k (1, 0, x1)))) (cond (decide ((((UInt8.toNat (List.getD (ByteArray.data x0).toList 5 0) : Nat) : Int) : Int) ≥ 97)) (cond (decide ((((UInt8.toNat (List.getD (ByteArray.data x0).toList 5 0) : Nat) : Int) : Int) ≤ 102)) (cond (Nat.beq (c7.1) 0) (k (0, (c7.2.1), 0)) (cond (Nat.beq (c7.1) 1) (k (1, 0, (c7.2.2))) (k (2, 0, 0)))) (k (1, 0, x1))) (k (1, 0, x1)))) (k (2, 0, 0))
noncomputable def r96l0d (x0 : ByteArray) (x1 : Int) : Nat × Int × Int := w96l0d x0 x1 (fun p => p)
noncomputable def g96l0d (x0 : ByteArray) (x1 : Int) (p : Nat × Int × Int) : List (Bool × (Fin' × List Value × St)) := [((Nat.beq (p.1) 0), .exit 0, [anyV, anyV, .int .u32 (p.2.1)], st0), ((Nat.beq (p.1) 1), .ret, [vf 0, .bool false, .int .u32 (p.2.2)], st0)]
theorem p96l0d {α : Type} (x0 : ByteArray) (x1 : Int) (f : (Nat × Int × Int) → α) : w96l0d x0 x1 f = f (w96l0d x0 x1 (fun p => p)) := by unfold w96l0d; repeat' (first | refine cond_app f _ ?_ ?_ | rfl)
set_option maxRecDepth 100000 in
set_option maxHeartbeats 4000000 in
theorem e96l0d (x0 : ByteArray) (x1 : Int) : evC Tryz.prog ext T1 L96_3 200 (loopN Tryz.f96 0) (loopTail ([0, 4, 5], []) [2, 3, 4] [] (sumK 52 [0, 4, 5] [2, 3, 4] Q96l0c)) (frameOf 52 [0, 4, 5] [.string x0, .int .u32 x1, vi 5]) ⟨[], 0, []⟩ = firstT ((g96l0d x0 x1 (r96l0d x0 x1)).map fun (b, x) => (b, (x.1, frameOf 52 [2, 3, 4] x.2.1, x.2.2))) :=
 Eq.trans (by kernel_rfl) (p96l0d x0 x1 (fun p => firstT ((g96l0d x0 x1 p).map fun (b, x) => (b, (x.1, frameOf 52 [2, 3, 4] x.2.1, x.2.2)))))
noncomputable def Q96l0d : SumK := fun vals s =>
 match vals, s.h with
 | [.string x0, .int .u32 x1, .int .i64 f0], [] => if f0 = 5 then (g96l0d x0 x1 (r96l0d x0 x1)) else Q96l0c vals s
 | _, _ => Q96l0c vals s
set_option maxRecDepth 100000 in
set_option maxHeartbeats 4000000 in
theorem qok96l0d : SumKOk Tryz.prog (loopN Tryz.f96 0) 52 [0, 4, 5] [2, 3, 4] Q96l0d := by
  intro vals s x h1 h2 h3
  unfold Q96l0d at h3; split at h3
  · rename_i h; split at h3
    · rename_i hc; obtain ⟨rfl⟩ := hc; exact sum_step ok1 extOk mixed (lok96_3.inner (by kernel_rfl)) qok96l0c h1 h2 h (e96l0d _ _) rfl h3
    · exact qok96l0c _ _ _ h1 h2 h3
  · exact qok96l0c _ _ _ h1 h2 h3
noncomputable def L96_4 : LoopT := addL L96_3 6 ([0, 4, 5], []) (sumK 52 [0, 4, 5] [2, 3, 4] Q96l0d)
theorem lok96_4 : LfOkF Tryz.prog L96_4 Tryz.f96 := lfOkF_add lok96_3 qok96l0d (by kernel_rfl) (by kernel_rfl) (by kernel_rfl)

/-- spec.l01Read, loop 0 -/
noncomputable def w96l0e {α : Type} (x0 : ByteArray) (x1 : Int) (k : (Nat × Int × Int) → α) : α :=
 let c8 := (r96l0d x0 (IntKind.u32.wrap ((IntKind.u32.wrap (x1 * 16)) + (IntKind.u32.wrap (IntKind.u8.wrap (((UInt8.toNat (List.getD (ByteArray.data x0).toList 4 0) : Nat) : Int) - 48))))))
 let c9 := (r96l0d x0 (IntKind.u32.wrap ((IntKind.u32.wrap ((IntKind.u32.wrap (x1 * 16)) + (IntKind.u32.wrap (IntKind.u8.wrap (((UInt8.toNat (List.getD (ByteArray.data x0).toList 4 0) : Nat) : Int) - 97))))) + 10)))
 cond (Nat.blt 4 (x0.size)) (cond (decide ((((UInt8.toNat (List.getD (ByteArray.data x0).toList 4 0) : Nat) : Int) : Int) ≥ 48)) (cond (decide ((((UInt8.toNat (List.getD (ByteArray.data x0).toList 4 0) : Nat) : Int) : Int) ≤ 57)) (cond (Nat.beq (c8.1) 0) (k (0, (c8.2.1), 0)) (cond (Nat.beq (c8.1) 1) (k (1, 0, (c8.2.2))) (k (2, 0, 0)))) (cond (decide ((((UInt8.toNat (List.getD (ByteArray.data x0).toList 4 0) : Nat) : Int) : Int) ≥ 97)) (cond (decide ((((UInt8.toNat (List.getD (ByteArray.data x0).toList 4 0) : Nat) : Int) : Int) ≤ 102)) (cond (Nat.beq (c9.1) 0) (k (0, (c9.2.1), 0)) (cond (Nat.beq (c9.1) 1) (k (1, 0, (c9.2.2))) (k (2, 0, 0)))) (k (1, 0, x1))) (k (1, 0, x1)))) (cond (decide ((((UInt8.toNat (List.getD (ByteArray.data x0).toList 4 0) : Nat) : Int) : Int) ≥ 97)) (cond (decide ((((UInt8.toNat (List.getD (ByteArray.data x0).toList 4 0) : Nat) : Int) : Int) ≤ 102)) (cond (Nat.beq (c9.1) 0) (k (0, (c9.2.1), 0)) (cond (Nat.beq (c9.1) 1) (k (1, 0, (c9.2.2))) (k (2, 0, 0)))) (k (1, 0, x1))) (k (1, 0, x1)))) (k (2, 0, 0))
noncomputable def r96l0e (x0 : ByteArray) (x1 : Int) : Nat × Int × Int := w96l0e x0 x1 (fun p => p)
noncomputable def g96l0e (x0 : ByteArray) (x1 : Int) (p : Nat × Int × Int) : List (Bool × (Fin' × List Value × St)) := [((Nat.beq (p.1) 0), .exit 0, [anyV, anyV, .int .u32 (p.2.1)], st0), ((Nat.beq (p.1) 1), .ret, [vf 0, .bool false, .int .u32 (p.2.2)], st0)]
theorem p96l0e {α : Type} (x0 : ByteArray) (x1 : Int) (f : (Nat × Int × Int) → α) : w96l0e x0 x1 f = f (w96l0e x0 x1 (fun p => p)) := by unfold w96l0e; repeat' (first | refine cond_app f _ ?_ ?_ | rfl)
set_option maxRecDepth 100000 in
set_option maxHeartbeats 4000000 in
theorem e96l0e (x0 : ByteArray) (x1 : Int) : evC Tryz.prog ext T1 L96_4 200 (loopN Tryz.f96 0) (loopTail ([0, 4, 5], []) [2, 3, 4] [] (sumK 52 [0, 4, 5] [2, 3, 4] Q96l0d)) (frameOf 52 [0, 4, 5] [.string x0, .int .u32 x1, vi 4]) ⟨[], 0, []⟩ = firstT ((g96l0e x0 x1 (r96l0e x0 x1)).map fun (b, x) => (b, (x.1, frameOf 52 [2, 3, 4] x.2.1, x.2.2))) :=
 Eq.trans (by kernel_rfl) (p96l0e x0 x1 (fun p => firstT ((g96l0e x0 x1 p).map fun (b, x) => (b, (x.1, frameOf 52 [2, 3, 4] x.2.1, x.2.2)))))
noncomputable def Q96l0e : SumK := fun vals s =>
 match vals, s.h with
 | [.string x0, .int .u32 x1, .int .i64 f0], [] => if f0 = 4 then (g96l0e x0 x1 (r96l0e x0 x1)) else Q96l0d vals s
 | _, _ => Q96l0d vals s
set_option maxRecDepth 100000 in
set_option maxHeartbeats 4000000 in
theorem qok96l0e : SumKOk Tryz.prog (loopN Tryz.f96 0) 52 [0, 4, 5] [2, 3, 4] Q96l0e := by
  intro vals s x h1 h2 h3
  unfold Q96l0e at h3; split at h3
  · rename_i h; split at h3
    · rename_i hc; obtain ⟨rfl⟩ := hc; exact sum_step ok1 extOk mixed (lok96_4.inner (by kernel_rfl)) qok96l0d h1 h2 h (e96l0e _ _) rfl h3
    · exact qok96l0d _ _ _ h1 h2 h3
  · exact qok96l0d _ _ _ h1 h2 h3
noncomputable def L96_5 : LoopT := addL L96_4 6 ([0, 4, 5], []) (sumK 52 [0, 4, 5] [2, 3, 4] Q96l0e)
theorem lok96_5 : LfOkF Tryz.prog L96_5 Tryz.f96 := lfOkF_add lok96_4 qok96l0e (by kernel_rfl) (by kernel_rfl) (by kernel_rfl)

/-- spec.l01Read, loop 0 -/
noncomputable def w96l0f {α : Type} (x0 : ByteArray) (x1 : Int) (k : (Nat × Int × Int) → α) : α :=
 let c10 := (r96l0e x0 (IntKind.u32.wrap ((IntKind.u32.wrap (x1 * 16)) + (IntKind.u32.wrap (IntKind.u8.wrap (((UInt8.toNat (List.getD (ByteArray.data x0).toList 3 0) : Nat) : Int) - 48))))))
 let c11 := (r96l0e x0 (IntKind.u32.wrap ((IntKind.u32.wrap ((IntKind.u32.wrap (x1 * 16)) + (IntKind.u32.wrap (IntKind.u8.wrap (((UInt8.toNat (List.getD (ByteArray.data x0).toList 3 0) : Nat) : Int) - 97))))) + 10)))
 cond (Nat.blt 3 (x0.size)) (cond (decide ((((UInt8.toNat (List.getD (ByteArray.data x0).toList 3 0) : Nat) : Int) : Int) ≥ 48)) (cond (decide ((((UInt8.toNat (List.getD (ByteArray.data x0).toList 3 0) : Nat) : Int) : Int) ≤ 57)) (cond (Nat.beq (c10.1) 0) (k (0, (c10.2.1), 0)) (cond (Nat.beq (c10.1) 1) (k (1, 0, (c10.2.2))) (k (2, 0, 0)))) (cond (decide ((((UInt8.toNat (List.getD (ByteArray.data x0).toList 3 0) : Nat) : Int) : Int) ≥ 97)) (cond (decide ((((UInt8.toNat (List.getD (ByteArray.data x0).toList 3 0) : Nat) : Int) : Int) ≤ 102)) (cond (Nat.beq (c11.1) 0) (k (0, (c11.2.1), 0)) (cond (Nat.beq (c11.1) 1) (k (1, 0, (c11.2.2))) (k (2, 0, 0)))) (k (1, 0, x1))) (k (1, 0, x1)))) (cond (decide ((((UInt8.toNat (List.getD (ByteArray.data x0).toList 3 0) : Nat) : Int) : Int) ≥ 97)) (cond (decide ((((UInt8.toNat (List.getD (ByteArray.data x0).toList 3 0) : Nat) : Int) : Int) ≤ 102)) (cond (Nat.beq (c11.1) 0) (k (0, (c11.2.1), 0)) (cond (Nat.beq (c11.1) 1) (k (1, 0, (c11.2.2))) (k (2, 0, 0)))) (k (1, 0, x1))) (k (1, 0, x1)))) (k (2, 0, 0))
noncomputable def r96l0f (x0 : ByteArray) (x1 : Int) : Nat × Int × Int := w96l0f x0 x1 (fun p => p)
noncomputable def g96l0f (x0 : ByteArray) (x1 : Int) (p : Nat × Int × Int) : List (Bool × (Fin' × List Value × St)) := [((Nat.beq (p.1) 0), .exit 0, [anyV, anyV, .int .u32 (p.2.1)], st0), ((Nat.beq (p.1) 1), .ret, [vf 0, .bool false, .int .u32 (p.2.2)], st0)]
theorem p96l0f {α : Type} (x0 : ByteArray) (x1 : Int) (f : (Nat × Int × Int) → α) : w96l0f x0 x1 f = f (w96l0f x0 x1 (fun p => p)) := by unfold w96l0f; repeat' (first | refine cond_app f _ ?_ ?_ | rfl)
set_option maxRecDepth 100000 in
set_option maxHeartbeats 4000000 in
theorem e96l0f (x0 : ByteArray) (x1 : Int) : evC Tryz.prog ext T1 L96_5 200 (loopN Tryz.f96 0) (loopTail ([0, 4, 5], []) [2, 3, 4] [] (sumK 52 [0, 4, 5] [2, 3, 4] Q96l0e)) (frameOf 52 [0, 4, 5] [.string x0, .int .u32 x1, vi 3]) ⟨[], 0, []⟩ = firstT ((g96l0f x0 x1 (r96l0f x0 x1)).map fun (b, x) => (b, (x.1, frameOf 52 [2, 3, 4] x.2.1, x.2.2))) :=
 Eq.trans (by kernel_rfl) (p96l0f x0 x1 (fun p => firstT ((g96l0f x0 x1 p).map fun (b, x) => (b, (x.1, frameOf 52 [2, 3, 4] x.2.1, x.2.2)))))
noncomputable def Q96l0f : SumK := fun vals s =>
 match vals, s.h with
 | [.string x0, .int .u32 x1, .int .i64 f0], [] => if f0 = 3 then (g96l0f x0 x1 (r96l0f x0 x1)) else Q96l0e vals s
 | _, _ => Q96l0e vals s
set_option maxRecDepth 100000 in
set_option maxHeartbeats 4000000 in
theorem qok96l0f : SumKOk Tryz.prog (loopN Tryz.f96 0) 52 [0, 4, 5] [2, 3, 4] Q96l0f := by
  intro vals s x h1 h2 h3
  unfold Q96l0f at h3; split at h3
  · rename_i h; split at h3
    · rename_i hc; obtain ⟨rfl⟩ := hc; exact sum_step ok1 extOk mixed (lok96_5.inner (by kernel_rfl)) qok96l0e h1 h2 h (e96l0f _ _) rfl h3
    · exact qok96l0e _ _ _ h1 h2 h3
  · exact qok96l0e _ _ _ h1 h2 h3
noncomputable def L96_6 : LoopT := addL L96_5 6 ([0, 4, 5], []) (sumK 52 [0, 4, 5] [2, 3, 4] Q96l0f)
theorem lok96_6 : LfOkF Tryz.prog L96_6 Tryz.f96 := lfOkF_add lok96_5 qok96l0f (by kernel_rfl) (by kernel_rfl) (by kernel_rfl)

/-- spec.l01Read, loop 0 -/
noncomputable def w96l0g {α : Type} (x0 : ByteArray) (x1 : Int) (k : (Nat × Int × Int) → α) : α :=
 let c12 := (r96l0f x0 (IntKind.u32.wrap ((IntKind.u32.wrap (x1 * 16)) + (IntKind.u32.wrap (IntKind.u8.wrap (((UInt8.toNat (List.getD (ByteArray.data x0).toList 2 0) : Nat) : Int) - 48))))))
 let c13 := (r96l0f x0 (IntKind.u32.wrap ((IntKind.u32.wrap ((IntKind.u32.wrap (x1 * 16)) + (IntKind.u32.wrap (IntKind.u8.wrap (((UInt8.toNat (List.getD (ByteArray.data x0).toList 2 0) : Nat) : Int) - 97))))) + 10)))
 cond (Nat.blt 2 (x0.size)) (cond (decide ((((UInt8.toNat (List.getD (ByteArray.data x0).toList 2 0) : Nat) : Int) : Int) ≥ 48)) (cond (decide ((((UInt8.toNat (List.getD (ByteArray.data x0).toList 2 0) : Nat) : Int) : Int) ≤ 57)) (cond (Nat.beq (c12.1) 0) (k (0, (c12.2.1), 0)) (cond (Nat.beq (c12.1) 1) (k (1, 0, (c12.2.2))) (k (2, 0, 0)))) (cond (decide ((((UInt8.toNat (List.getD (ByteArray.data x0).toList 2 0) : Nat) : Int) : Int) ≥ 97)) (cond (decide ((((UInt8.toNat (List.getD (ByteArray.data x0).toList 2 0) : Nat) : Int) : Int) ≤ 102)) (cond (Nat.beq (c13.1) 0) (k (0, (c13.2.1), 0)) (cond (Nat.beq (c13.1) 1) (k (1, 0, (c13.2.2))) (k (2, 0, 0)))) (k (1, 0, x1))) (k (1, 0, x1)))) (cond (decide ((((UInt8.toNat (List.getD (ByteArray.data x0).toList 2 0) : Nat) : Int) : Int) ≥ 97)) (cond (decide ((((UInt8.toNat (List.getD (ByteArray.data x0).toList 2 0) : Nat) : Int) : Int) ≤ 102)) (cond (Nat.beq (c13.1) 0) (k (0, (c13.2.1), 0)) (cond (Nat.beq (c13.1) 1) (k (1, 0, (c13.2.2))) (k (2, 0, 0)))) (k (1, 0, x1))) (k (1, 0, x1)))) (k (2, 0, 0))
noncomputable def r96l0g (x0 : ByteArray) (x1 : Int) : Nat × Int × Int := w96l0g x0 x1 (fun p => p)
noncomputable def g96l0g (x0 : ByteArray) (x1 : Int) (p : Nat × Int × Int) : List (Bool × (Fin' × List Value × St)) := [((Nat.beq (p.1) 0), .exit 0, [anyV, anyV, .int .u32 (p.2.1)], st0), ((Nat.beq (p.1) 1), .ret, [vf 0, .bool false, .int .u32 (p.2.2)], st0)]
theorem p96l0g {α : Type} (x0 : ByteArray) (x1 : Int) (f : (Nat × Int × Int) → α) : w96l0g x0 x1 f = f (w96l0g x0 x1 (fun p => p)) := by unfold w96l0g; repeat' (first | refine cond_app f _ ?_ ?_ | rfl)
set_option maxRecDepth 100000 in
set_option maxHeartbeats 4000000 in
theorem e96l0g (x0 : ByteArray) (x1 : Int) : evC Tryz.prog ext T1 L96_6 200 (loopN Tryz.f96 0) (loopTail ([0, 4, 5], []) [2, 3, 4] [] (sumK 52 [0, 4, 5] [2, 3, 4] Q96l0f)) (frameOf 52 [0, 4, 5] [.string x0, .int .u32 x1, vi 2]) ⟨[], 0, []⟩ = firstT ((g96l0g x0 x1 (r96l0g x0 x1)).map fun (b, x) => (b, (x.1, frameOf 52 [2, 3, 4] x.2.1, x.2.2))) :=
 Eq.trans (by kernel_rfl) (p96l0g x0 x1 (fun p => firstT ((g96l0g x0 x1 p).map fun (b, x) => (b, (x.1, frameOf 52 [2, 3, 4] x.2.1, x.2.2)))))
noncomputable def Q96l0g : SumK := fun vals s =>
 match vals, s.h with
 | [.string x0, .int .u32 x1, .int .i64 f0], [] => if f0 = 2 then (g96l0g x0 x1 (r96l0g x0 x1)) else Q96l0f vals s
 | _, _ => Q96l0f vals s
set_option maxRecDepth 100000 in
set_option maxHeartbeats 4000000 in
theorem qok96l0g : SumKOk Tryz.prog (loopN Tryz.f96 0) 52 [0, 4, 5] [2, 3, 4] Q96l0g := by
  intro vals s x h1 h2 h3
  unfold Q96l0g at h3; split at h3
  · rename_i h; split at h3
    · rename_i hc; obtain ⟨rfl⟩ := hc; exact sum_step ok1 extOk mixed (lok96_6.inner (by kernel_rfl)) qok96l0f h1 h2 h (e96l0g _ _) rfl h3
    · exact qok96l0f _ _ _ h1 h2 h3
  · exact qok96l0f _ _ _ h1 h2 h3
noncomputable def L96_7 : LoopT := addL L96_6 6 ([0, 4, 5], []) (sumK 52 [0, 4, 5] [2, 3, 4] Q96l0g)
theorem lok96_7 : LfOkF Tryz.prog L96_7 Tryz.f96 := lfOkF_add lok96_6 qok96l0g (by kernel_rfl) (by kernel_rfl) (by kernel_rfl)

/-- spec.l01Read, loop 0 -/
noncomputable def w96l0h {α : Type} (x0 : ByteArray) (x1 : Int) (k : (Nat × Int × Int) → α) : α :=
 let c14 := (r96l0g x0 (IntKind.u32.wrap ((IntKind.u32.wrap (x1 * 16)) + (IntKind.u32.wrap (IntKind.u8.wrap (((UInt8.toNat (List.getD (ByteArray.data x0).toList 1 0) : Nat) : Int) - 48))))))
 let c15 := (r96l0g x0 (IntKind.u32.wrap ((IntKind.u32.wrap ((IntKind.u32.wrap (x1 * 16)) + (IntKind.u32.wrap (IntKind.u8.wrap (((UInt8.toNat (List.getD (ByteArray.data x0).toList 1 0) : Nat) : Int) - 97))))) + 10)))
 cond (Nat.blt 1 (x0.size)) (cond (decide ((((UInt8.toNat (List.getD (ByteArray.data x0).toList 1 0) : Nat) : Int) : Int) ≥ 48)) (cond (decide ((((UInt8.toNat (List.getD (ByteArray.data x0).toList 1 0) : Nat) : Int) : Int) ≤ 57)) (cond (Nat.beq (c14.1) 0) (k (0, (c14.2.1), 0)) (cond (Nat.beq (c14.1) 1) (k (1, 0, (c14.2.2))) (k (2, 0, 0)))) (cond (decide ((((UInt8.toNat (List.getD (ByteArray.data x0).toList 1 0) : Nat) : Int) : Int) ≥ 97)) (cond (decide ((((UInt8.toNat (List.getD (ByteArray.data x0).toList 1 0) : Nat) : Int) : Int) ≤ 102)) (cond (Nat.beq (c15.1) 0) (k (0, (c15.2.1), 0)) (cond (Nat.beq (c15.1) 1) (k (1, 0, (c15.2.2))) (k (2, 0, 0)))) (k (1, 0, x1))) (k (1, 0, x1)))) (cond (decide ((((UInt8.toNat (List.getD (ByteArray.data x0).toList 1 0) : Nat) : Int) : Int) ≥ 97)) (cond (decide ((((UInt8.toNat (List.getD (ByteArray.data x0).toList 1 0) : Nat) : Int) : Int) ≤ 102)) (cond (Nat.beq (c15.1) 0) (k (0, (c15.2.1), 0)) (cond (Nat.beq (c15.1) 1) (k (1, 0, (c15.2.2))) (k (2, 0, 0)))) (k (1, 0, x1))) (k (1, 0, x1)))) (k (2, 0, 0))
noncomputable def r96l0h (x0 : ByteArray) (x1 : Int) : Nat × Int × Int := w96l0h x0 x1 (fun p => p)
noncomputable def g96l0h (x0 : ByteArray) (x1 : Int) (p : Nat × Int × Int) : List (Bool × (Fin' × List Value × St)) := [((Nat.beq (p.1) 0), .exit 0, [anyV, anyV, .int .u32 (p.2.1)], st0), ((Nat.beq (p.1) 1), .ret, [vf 0, .bool false, .int .u32 (p.2.2)], st0)]
theorem p96l0h {α : Type} (x0 : ByteArray) (x1 : Int) (f : (Nat × Int × Int) → α) : w96l0h x0 x1 f = f (w96l0h x0 x1 (fun p => p)) := by unfold w96l0h; repeat' (first | refine cond_app f _ ?_ ?_ | rfl)
set_option maxRecDepth 100000 in
set_option maxHeartbeats 4000000 in
theorem e96l0h (x0 : ByteArray) (x1 : Int) : evC Tryz.prog ext T1 L96_7 200 (loopN Tryz.f96 0) (loopTail ([0, 4, 5], []) [2, 3, 4] [] (sumK 52 [0, 4, 5] [2, 3, 4] Q96l0g)) (frameOf 52 [0, 4, 5] [.string x0, .int .u32 x1, vi 1]) ⟨[], 0, []⟩ = firstT ((g96l0h x0 x1 (r96l0h x0 x1)).map fun (b, x) => (b, (x.1, frameOf 52 [2, 3, 4] x.2.1, x.2.2))) :=
 Eq.trans (by kernel_rfl) (p96l0h x0 x1 (fun p => firstT ((g96l0h x0 x1 p).map fun (b, x) => (b, (x.1, frameOf 52 [2, 3, 4] x.2.1, x.2.2)))))
noncomputable def Q96l0h : SumK := fun vals s =>
 match vals, s.h with
 | [.string x0, .int .u32 x1, .int .i64 f0], [] => if f0 = 1 then (g96l0h x0 x1 (r96l0h x0 x1)) else Q96l0g vals s
 | _, _ => Q96l0g vals s
set_option maxRecDepth 100000 in
set_option maxHeartbeats 4000000 in
theorem qok96l0h : SumKOk Tryz.prog (loopN Tryz.f96 0) 52 [0, 4, 5] [2, 3, 4] Q96l0h := by
  intro vals s x h1 h2 h3
  unfold Q96l0h at h3; split at h3
  · rename_i h; split at h3
    · rename_i hc; obtain ⟨rfl⟩ := hc; exact sum_step ok1 extOk mixed (lok96_7.inner (by kernel_rfl)) qok96l0g h1 h2 h (e96l0h _ _) rfl h3
    · exact qok96l0g _ _ _ h1 h2 h3
  · exact qok96l0g _ _ _ h1 h2 h3
noncomputable def L96_8 : LoopT := addL L96_7 6 ([0, 4, 5], []) (sumK 52 [0, 4, 5] [2, 3, 4] Q96l0h)
theorem lok96_8 : LfOkF Tryz.prog L96_8 Tryz.f96 := lfOkF_add lok96_7 qok96l0h (by kernel_rfl) (by kernel_rfl) (by kernel_rfl)

/-- spec.l01Read, loop 0 -/
noncomputable def w96l0i {α : Type} (x0 : ByteArray) (k : (Nat × Int × Int) → α) : α :=
 let c16 := (r96l0h x0 (IntKind.u32.wrap (0 + (IntKind.u32.wrap (IntKind.u8.wrap (((UInt8.toNat (List.getD (ByteArray.data x0).toList 0 0) : Nat) : Int) - 48))))))
 let c17 := (r96l0h x0 (IntKind.u32.wrap ((IntKind.u32.wrap (0 + (IntKind.u32.wrap (IntKind.u8.wrap (((UInt8.toNat (List.getD (ByteArray.data x0).toList 0 0) : Nat) : Int) - 97))))) + 10)))
 cond (Nat.blt 0 (x0.size)) (cond (decide ((((UInt8.toNat (List.getD (ByteArray.data x0).toList 0 0) : Nat) : Int) : Int) ≥ 48)) (cond (decide ((((UInt8.toNat (List.getD (ByteArray.data x0).toList 0 0) : Nat) : Int) : Int) ≤ 57)) (cond (Nat.beq (c16.1) 0) (k (0, (c16.2.1), 0)) (cond (Nat.beq (c16.1) 1) (k (1, 0, (c16.2.2))) (k (2, 0, 0)))) (cond (decide ((((UInt8.toNat (List.getD (ByteArray.data x0).toList 0 0) : Nat) : Int) : Int) ≥ 97)) (cond (decide ((((UInt8.toNat (List.getD (ByteArray.data x0).toList 0 0) : Nat) : Int) : Int) ≤ 102)) (cond (Nat.beq (c17.1) 0) (k (0, (c17.2.1), 0)) (cond (Nat.beq (c17.1) 1) (k (1, 0, (c17.2.2))) (k (2, 0, 0)))) (k (1, 0, 0))) (k (1, 0, 0)))) (cond (decide ((((UInt8.toNat (List.getD (ByteArray.data x0).toList 0 0) : Nat) : Int) : Int) ≥ 97)) (cond (decide ((((UInt8.toNat (List.getD (ByteArray.data x0).toList 0 0) : Nat) : Int) : Int) ≤ 102)) (cond (Nat.beq (c17.1) 0) (k (0, (c17.2.1), 0)) (cond (Nat.beq (c17.1) 1) (k (1, 0, (c17.2.2))) (k (2, 0, 0)))) (k (1, 0, 0))) (k (1, 0, 0)))) (k (2, 0, 0))
noncomputable def r96l0i (x0 : ByteArray) : Nat × Int × Int := w96l0i x0 (fun p => p)
noncomputable def g96l0i (x0 : ByteArray) (p : Nat × Int × Int) : List (Bool × (Fin' × List Value × St)) := [((Nat.beq (p.1) 0), .exit 0, [anyV, anyV, .int .u32 (p.2.1)], st0), ((Nat.beq (p.1) 1), .ret, [vf 0, .bool false, .int .u32 (p.2.2)], st0)]
theorem p96l0i {α : Type} (x0 : ByteArray) (f : (Nat × Int × Int) → α) : w96l0i x0 f = f (w96l0i x0 (fun p => p)) := by unfold w96l0i; repeat' (first | refine cond_app f _ ?_ ?_ | rfl)
set_option maxRecDepth 100000 in
set_option maxHeartbeats 4000000 in
theorem e96l0i (x0 : ByteArray) : evC Tryz.prog ext T1 L96_8 200 (loopN Tryz.f96 0) (loopTail ([0, 4, 5], []) [2, 3, 4] [] (sumK 52 [0, 4, 5] [2, 3, 4] Q96l0h)) (frameOf 52 [0, 4, 5] [.string x0, .int .u32 0, vi 0]) ⟨[], 0, []⟩ = firstT ((g96l0i x0 (r96l0i x0)).map fun (b, x) => (b, (x.1, frameOf 52 [2, 3, 4] x.2.1, x.2.2))) :=
 Eq.trans (by kernel_rfl) (p96l0i x0 (fun p => firstT ((g96l0i x0 p).map fun (b, x) => (b, (x.1, frameOf 52 [2, 3, 4] x.2.1, x.2.2)))))
noncomputable def Q96l0i : SumK := fun vals s =>
 match vals, s.h with
 | [.string x0, .int .u32 f0, .int .i64 f1], [] => if f0 = 0 ∧ f1 = 0 then (g96l0i x0 (r96l0i x0)) else Q96l0h vals s
 | _, _ => Q96l0h vals s
set_option maxRecDepth 100000 in
set_option maxHeartbeats 4000000 in
theorem qok96l0i : SumKOk Tryz.prog (loopN Tryz.f96 0) 52 [0, 4, 5] [2, 3, 4] Q96l0i := by
  intro vals s x h1 h2 h3
  unfold Q96l0i at h3; split at h3
  · rename_i h; split at h3
    · rename_i hc; obtain ⟨rfl, rfl⟩ := hc; exact sum_step ok1 extOk mixed (lok96_8.inner (by kernel_rfl)) qok96l0h h1 h2 h (e96l0i _) rfl h3
    · exact qok96l0h _ _ _ h1 h2 h3
  · exact qok96l0h _ _ _ h1 h2 h3
noncomputable def L96_9 : LoopT := addL L96_8 6 ([0, 4, 5], []) (sumK 52 [0, 4, 5] [2, 3, 4] Q96l0i)
theorem lok96_9 : LfOkF Tryz.prog L96_9 Tryz.f96 := lfOkF_add lok96_8 qok96l0i (by kernel_rfl) (by kernel_rfl) (by kernel_rfl)

/-- spec.l01Bits -/
noncomputable def r113 (x0 : Nat) : Int :=
 cond (!feq .f32 x0 x0) (2143289344) (((x0 : Nat) : Int))
noncomputable def a113 (x0 : Nat) (p : Int) : Res := firstT [(true, .int .u32 p, st0)]
noncomputable def w113 (x0 : Nat) : Res :=
 (cond (!feq .f32 x0 x0)
 (a113 x0 (2143289344))
 (cond (!isN .f32 x0) (a113 x0 (((x0 : Nat) : Int))) (some (nanBits .f32, st0))))
set_option maxRecDepth 100000 in
set_option maxHeartbeats 4000000 in
theorem e113 (x0 : Nat) : evFn Tryz.prog ext T1 noL 200 Tryz.f113 [vf x0] st0 = firstT [(true, .int .u32 (r113 x0), st0)] :=
 (show _ = w113 x0 from by kernel_rfl).trans
 (show w113 x0 = a113 x0 (r113 x0) from by unfold w113 r113; exact (cond_both (a113 x0) _ (fun h0 => rfl) (fun h0 => (cond_t (ev_not1 (ev_eq1 (ev_notf h0))) rfl))))
noncomputable def s113 (args : List Value) (s : St) : List (Bool × Value × St) :=
 match args, s.h with
 | [.float .f32 x0], [] => [(true, .int .u32 (r113 x0), st0)]
 | _, _ => T1 113 args s
noncomputable def T2 : CallF := addF T1 113 s113
set_option maxRecDepth 100000 in
set_option maxHeartbeats 4000000 in
theorem ok2 : CfOk Tryz.prog T2 := by
  refine cfOk_add ok1 fun args s r s' h1 h2 h3 => ?_
  unfold s113 at h3; split at h3
  · rename_i h; exact callOk ok1 Tryz.func113 h1 h2 h (lfOkF_no _ _).body (e113 _) rfl h3
  · exact ok1 _ _ _ _ _ h1 h2 h3

/-- spec.l01Read -/
noncomputable def w96 {α : Type} (x0 : ByteArray) (k : (Nat × Nat × Bool) → α) : α :=
 cond (((((x0.size) : Nat) : Int) : Int) != 8) (k (0, 0, false)) (cond (Nat.beq ((r96l0i x0).1) 0) (k (0, (Int.toNat ((r96l0i x0).2.1)), (((r113 (Int.toNat ((r96l0i x0).2.1))) : Int) == ((r96l0i x0).2.1)))) (cond (Nat.beq ((r96l0i x0).1) 1) (k (0, 0, false)) (k (1, 0, false))))
noncomputable def r96 (x0 : ByteArray) : Nat × Nat × Bool := w96 x0 (fun p => p)
noncomputable def g96 (x0 : ByteArray) (p : Nat × Nat × Bool) : List (Bool × Value × St) := [((Nat.beq (p.1) 0), .tuple #[vf (p.2.1), .bool (p.2.2)], st0)]
theorem p96 {α : Type} (x0 : ByteArray) (f : (Nat × Nat × Bool) → α) : w96 x0 f = f (w96 x0 (fun p => p)) := by unfold w96; exact (cond_app f _ rfl (cond_app f _ rfl (cond_app f _ rfl rfl)))
set_option maxRecDepth 100000 in
set_option maxHeartbeats 4000000 in
theorem e96 (x0 : ByteArray) : evFn Tryz.prog ext T2 L96_9 200 Tryz.f96 [.string x0] st0 = firstT (g96 x0 (r96 x0)) :=
 Eq.trans (by kernel_rfl) (p96 x0 (fun p => firstT (g96 x0 p)))
noncomputable def s96 (args : List Value) (s : St) : List (Bool × Value × St) :=
 match args, s.h with
 | [.string x0], [] => (g96 x0 (r96 x0))
 | _, _ => T2 96 args s
noncomputable def T3 : CallF := addF T2 96 s96
set_option maxRecDepth 100000 in
set_option maxHeartbeats 4000000 in
theorem ok3 : CfOk Tryz.prog T3 := by
  refine cfOk_add ok2 fun args s r s' h1 h2 h3 => ?_
  unfold s96 at h3; split at h3
  · rename_i h; exact callOk ok2 Tryz.func96 h1 h2 h lok96_9.body (e96 _) rfl h3
  · exact ok2 _ _ _ _ _ h1 h2 h3

/-- spec.l01Number, loop 0: one round -/
noncomputable def b97l0 (ih : ByteArray → Int → Int → (Nat × Int × Int)) (x0 : ByteArray) (x1 x2 : Int) : Nat × Int × Int :=
 cond (decide ((x2 : Int) < (((x0.size) : Nat) : Int))) (cond ((decide ((0 : Int) ≤ x2)) && (Nat.blt (Int.toNat x2) (x0.size))) (cond (decide ((((UInt8.toNat (List.getD (ByteArray.data x0).toList (Int.toNat x2) 0) : Nat) : Int) : Int) < 48)) (0, x1, 0) (cond (decide ((((UInt8.toNat (List.getD (ByteArray.data x0).toList (Int.toNat x2) 0) : Nat) : Int) : Int) > 57)) (0, x1, 0) (ih x0 (IntKind.i64.wrap ((IntKind.i64.wrap (x1 * 10)) + (IntKind.i64.wrap (IntKind.u8.wrap (((UInt8.toNat (List.getD (ByteArray.data x0).toList (Int.toNat x2) 0) : Nat) : Int) - 48))))) (IntKind.i64.wrap (x2 + 1))))) (2, 0, 0)) (1, 0, x1)
noncomputable def r97l0 : Nat → ByteArray → Int → Int → (Nat × Int × Int)
 | 0 => fun _ _ _ => (2, 0, 0)
 | m + 1 => b97l0 (r97l0 m)
noncomputable def a97l0 (x0 : ByteArray) (x1 x2 : Int) (p : Nat × Int × Int) : Option (Fin' × List Value × St) := firstT ([((Nat.beq (p.1) 0), .ret, [vi 0, .bool false, vi (p.2.1)], st0), ((Nat.beq (p.1) 1), .exit 0, [anyV, anyV, vi (p.2.2)], st0)].map fun (b, x) => (b, (x.1, frameOf 49 [2, 3, 4] x.2.1, x.2.2)))
noncomputable def u97l0 (x0 : ByteArray) (x1 x2 : Int) (p : Nat × Int × Int) : Option (Fin' × List Value × St) := alts ([((Nat.beq (p.1) 0), .ret, [vi 0, .bool false, vi (p.2.1)], st0), ((Nat.beq (p.1) 1), .exit 0, [anyV, anyV, vi (p.2.2)], st0)].map fun (b, x) => (b, (x.1, frameOf 49 [2, 3, 4] x.2.1, x.2.2))) some
theorem v97l0 (x0 : ByteArray) (x1 x2 : Int) (p : Nat × Int × Int) : u97l0 x0 x1 x2 p = a97l0 x0 x1 x2 p := alts_first _
noncomputable def q97l0 (m : Nat) : SumK := fun vals s =>
 match vals, s.h with
 | [.string x0, .int .i64 x1, .int .i64 x2], [] => [((Nat.beq ((r97l0 m x0 x1 x2).1) 0), .ret, [vi 0, .bool false, vi ((r97l0 m x0 x1 x2).2.1)], st0), ((Nat.beq ((r97l0 m x0 x1 x2).1) 1), .exit 0, [anyV, anyV, vi ((r97l0 m x0 x1 x2).2.2)], st0)]
 | _, _ => noQ vals s
noncomputable def w97l0 (ih : ByteArray → Int → Int → (Nat × Int × Int)) (x0 : ByteArray) (x1 x2 : Int) : Option (Fin' × List Value × St) :=
 (cond (decide ((x2 : Int) < (((x0.size) : Nat) : Int)))
 (cond ((decide ((0 : Int) ≤ x2)) && (Nat.blt (Int.toNat x2) (x0.size))) (cond (decide ((((UInt8.toNat (List.getD (ByteArray.data x0).toList (Int.toNat x2) 0) : Nat) : Int) : Int) < 48)) (a97l0 x0 x1 x2 (0, x1, 0)) (cond ((decide ((0 : Int) ≤ x2)) && (Nat.blt (Int.toNat x2) (x0.size))) (cond (decide ((((UInt8.toNat (List.getD (ByteArray.data x0).toList (Int.toNat x2) 0) : Nat) : Int) : Int) > 57)) (a97l0 x0 x1 x2 (0, x1, 0)) (cond ((decide ((0 : Int) ≤ x2)) && (Nat.blt (Int.toNat x2) (x0.size))) (u97l0 x0 x1 x2 (ih x0 (IntKind.i64.wrap ((IntKind.i64.wrap (x1 * 10)) + (IntKind.i64.wrap (IntKind.u8.wrap (((UInt8.toNat (List.getD (ByteArray.data x0).toList (Int.toNat x2) 0) : Nat) : Int) - 48))))) (IntKind.i64.wrap (x2 + 1)))) none)) none)) none)
 (a97l0 x0 x1 x2 (1, 0, x1)))
set_option maxRecDepth 100000 in
set_option maxHeartbeats 4000000 in
theorem e97l0 (m : Nat) (x0 : ByteArray) (x1 x2 : Int) : evC Tryz.prog ext T3 noL 200 (loopN Tryz.f97 0) (loopTail ([0, 4, 5], []) [2, 3, 4] [] (sumK 49 [0, 4, 5] [2, 3, 4] (q97l0 m))) (frameOf 49 [0, 4, 5] [.string x0, vi x1, vi x2]) ⟨[], 0, []⟩ = firstT ([((Nat.beq ((r97l0 (m + 1) x0 x1 x2).1) 0), .ret, [vi 0, .bool false, vi ((r97l0 (m + 1) x0 x1 x2).2.1)], st0), ((Nat.beq ((r97l0 (m + 1) x0 x1 x2).1) 1), .exit 0, [anyV, anyV, vi ((r97l0 (m + 1) x0 x1 x2).2.2)], st0)].map fun (b, x) => (b, (x.1, frameOf 49 [2, 3, 4] x.2.1, x.2.2))) :=
 (show _ = w97l0 (r97l0 m) x0 x1 x2 from by kernel_rfl).trans
 (show w97l0 (r97l0 m) x0 x1 x2 = a97l0 x0 x1 x2 (r97l0 (m + 1) x0 x1 x2) from by unfold w97l0; show _ = a97l0 x0 x1 x2 (b97l0 (r97l0 m) x0 x1 x2); unfold b97l0; exact (cond_both (a97l0 x0 x1 x2) _ (fun h0 => (cond_both (a97l0 x0 x1 x2) _ (fun h1 => (cond_both (a97l0 x0 x1 x2) _ (fun h2 => rfl) (fun h2 => (cond_t h1 (cond_both (a97l0 x0 x1 x2) _ (fun h3 => rfl) (fun h3 => (cond_t h1 (v97l0 x0 x1 x2 ((r97l0 m) x0 (IntKind.i64.wrap ((IntKind.i64.wrap (x1 * 10)) + (IntKind.i64.wrap (IntKind.u8.wrap (((UInt8.toNat (List.getD (ByteArray.data x0).toList (Int.toNat x2) 0) : Nat) : Int) - 48))))) (IntKind.i64.wrap (x2 + 1))))))))))) (fun h1 => rfl))) (fun h0 => rfl)))
set_option maxRecDepth 100000 in
set_option maxHeartbeats 4000000 in
theorem qm97l0 : ∀ m, SumKOk Tryz.prog (loopN Tryz.f97 0) 49 [0, 4, 5] [2, 3, 4] (q97l0 m) := by
  intro m
  induction m with
  | zero =>
    intro vals s x h1 h2 h3
    unfold q97l0 at h3; split at h3
    · rename_i h; exact absurd h3 (by simp [r97l0, firstT, Nat.beq])
    · exact noQ_ok _ _ _ h1 h2 h3
  | succ m ih =>
    intro vals s x h1 h2 h3
    unfold q97l0 at h3; split at h3
    · rename_i h; exact sum_step ok3 extOk mixed ((lfOkF_no _ _).inner (by kernel_rfl)) ih h1 h2 h (e97l0 m _ _ _) rfl h3
    · exact noQ_ok _ _ _ h1 h2 h3
noncomputable def Q97l0 : SumK := fun vals s => q97l0 (fuelOf vals s.h) vals s
theorem qok97l0 : SumKOk Tryz.prog (loopN Tryz.f97 0) 49 [0, 4, 5] [2, 3, 4] Q97l0 := fuel_ok qm97l0 fuelOf
noncomputable def L97_1 : LoopT := addL noL 6 ([0, 4, 5], []) (sumK 49 [0, 4, 5] [2, 3, 4] Q97l0)
theorem lok97_1 : LfOkF Tryz.prog L97_1 Tryz.f97 := lfOkF_add (lfOkF_no _ _) qok97l0 (by kernel_rfl) (by kernel_rfl) (by kernel_rfl)

/-- spec.l01Number -/
noncomputable def w97 {α : Type} (x0 : ByteArray) (k : (Nat × Int × Bool) → α) : α :=
 cond (decide (((((x0.size) : Nat) : Int) : Int) < 1)) (k (0, 0, false)) (cond (decide (((((x0.size) : Nat) : Int) : Int) > 9)) (k (0, 0, false)) (cond (Nat.blt 0 (x0.size)) (cond ((((UInt8.toNat (List.getD (ByteArray.data x0).toList 0 0) : Nat) : Int) : Int) == 48) (cond (decide (((((x0.size) : Nat) : Int) : Int) > 1)) (k (0, 0, false)) (cond (Nat.beq ((r97l0 (1000 + (x0.size)) x0 0 0).1) 0) (k (0, 0, false)) (cond (Nat.beq ((r97l0 (1000 + (x0.size)) x0 0 0).1) 1) (k (0, ((r97l0 (1000 + (x0.size)) x0 0 0).2.2), true)) (k (1, 0, false))))) (cond (Nat.beq ((r97l0 (1000 + (x0.size)) x0 0 0).1) 0) (k (0, 0, false)) (cond (Nat.beq ((r97l0 (1000 + (x0.size)) x0 0 0).1) 1) (k (0, ((r97l0 (1000 + (x0.size)) x0 0 0).2.2), true)) (k (1, 0, false))))) (k (1, 0, false))))
noncomputable def r97 (x0 : ByteArray) : Nat × Int × Bool := w97 x0 (fun p => p)
noncomputable def g97 (x0 : ByteArray) (p : Nat × Int × Bool) : List (Bool × Value × St) := [((Nat.beq (p.1) 0), .tuple #[vi (p.2.1), .bool (p.2.2)], st0)]
theorem p97 {α : Type} (x0 : ByteArray) (f : (Nat × Int × Bool) → α) : w97 x0 f = f (w97 x0 (fun p => p)) := by unfold w97; repeat' (first | refine cond_app f _ ?_ ?_ | rfl)
set_option maxRecDepth 100000 in
set_option maxHeartbeats 4000000 in
theorem e97 (x0 : ByteArray) : evFn Tryz.prog ext T3 L97_1 200 Tryz.f97 [.string x0] st0 = firstT (g97 x0 (r97 x0)) :=
 Eq.trans (by kernel_rfl) (p97 x0 (fun p => firstT (g97 x0 p)))
noncomputable def s97 (args : List Value) (s : St) : List (Bool × Value × St) :=
 match args, s.h with
 | [.string x0], [] => (g97 x0 (r97 x0))
 | _, _ => T3 97 args s
noncomputable def T4 : CallF := addF T3 97 s97
set_option maxRecDepth 100000 in
set_option maxHeartbeats 4000000 in
theorem ok4 : CfOk Tryz.prog T4 := by
  refine cfOk_add ok3 fun args s r s' h1 h2 h3 => ?_
  unfold s97 at h3; split at h3
  · rename_i h; exact callOk ok3 Tryz.func97 h1 h2 h lok97_1.body (e97 _) rfl h3
  · exact ok3 _ _ _ _ _ h1 h2 h3

/-- spec.l02Names -/
noncomputable def w98 {α : Type} (k : Unit → α) : α :=
 k ()
noncomputable def r98 : Unit := w98 (fun p => p)
noncomputable def g98 (p : Unit) : List (Bool × Value × St) := [(true, .slice (some ⟨0, 0, some 0⟩) 4 4, ⟨[⟨true, (some (.strs ([(ByteArray.mk #[99, 111, 108, 100]), (ByteArray.mk #[107, 105, 110, 100, 108, 101, 100]), (ByteArray.mk #[98, 117, 114, 110, 105, 110, 103]), (ByteArray.mk #[101, 109, 98, 101, 114, 115])] : List ByteArray)))⟩], 0, []⟩)]
theorem p98 {α : Type} (f : Unit → α) : w98 f = f (w98 (fun p => p)) := by unfold w98; exact rfl
set_option maxRecDepth 100000 in
set_option maxHeartbeats 4000000 in
theorem e98 : evFn Tryz.prog ext T4 noL 200 Tryz.f98 [] st0 = firstT (g98 r98) :=
 Eq.trans (by kernel_rfl) (p98 (fun p => firstT (g98 p)))
noncomputable def s98 (args : List Value) (s : St) : List (Bool × Value × St) :=
 match args, s.h with
 | [], [] => (g98 r98)
 | _, _ => T4 98 args s
noncomputable def T5 : CallF := addF T4 98 s98
set_option maxRecDepth 100000 in
set_option maxHeartbeats 4000000 in
theorem ok5 : CfOk Tryz.prog T5 := by
  refine cfOk_add ok4 fun args s r s' h1 h2 h3 => ?_
  unfold s98 at h3; split at h3
  · rename_i h; exact callOk ok4 Tryz.func98 h1 h2 h (lfOkF_no _ _).body (e98) rfl h3
  · exact ok4 _ _ _ _ _ h1 h2 h3

/-- spec.l02Read, loop 0: one round -/
noncomputable def b67l0 (ih : Bool → Bool → Bool → Bool → Int → Nat → Nat → Nat → List ByteArray → List ByteArray → Nat → Nat → Int → Int → Nat → ByteArray → ByteArray → ByteArray → ByteArray → (Nat × Int)) (x0 x1 x2 x3 : Bool) (x4 : Int) (x5 x6 x7 : Nat) (x8 x9 : List ByteArray) (x10 x11 : Nat) (x12 x13 : Int) (x14 : Nat) (x15 x16 x17 x18 : ByteArray) : Nat × Int :=
 cond (decide ((x4 : Int) < 4)) (cond ((decide ((0 : Int) ≤ x4)) && (Nat.blt (Int.toNat x4) 4)) (cond (Nat.blt 4 x9.length) (cond ((([x15, x16, x17, x18] : List ByteArray).getD (Int.toNat x4) .empty).toList == (x9.getD 4 .empty).toList) (ih x0 x1 x2 x3 (IntKind.i64.wrap (x4 + 1)) x5 x6 x7 x8 x9 x10 x11 (IntKind.i8.wrap x4) x13 x14 x15 x16 x17 x18) (ih x0 x1 x2 x3 (IntKind.i64.wrap (x4 + 1)) x5 x6 x7 x8 x9 x10 x11 x12 x13 x14 x15 x16 x17 x18)) (1, 0)) (1, 0)) (0, x12)
noncomputable def r67l0 : Nat → Bool → Bool → Bool → Bool → Int → Nat → Nat → Nat → List ByteArray → List ByteArray → Nat → Nat → Int → Int → Nat → ByteArray → ByteArray → ByteArray → ByteArray → (Nat × Int)
 | 0 => fun _ _ _ _ _ _ _ _ _ _ _ _ _ _ _ _ _ _ _ => (1, 0)
 | m + 1 => b67l0 (r67l0 m)
noncomputable def a67l0 (x0 x1 x2 x3 : Bool) (x4 : Int) (x5 x6 x7 : Nat) (x8 x9 : List ByteArray) (x10 x11 : Nat) (x12 x13 : Int) (x14 : Nat) (x15 x16 x17 x18 : ByteArray) (p : Nat × Int) : Option (Fin' × List Value × St) := firstT ([((Nat.beq (p.1) 0), .exit 0, [vp 0, wsl 1, vp 3, .bool x0, .bool x1, .bool x2, .bool x3], ⟨[⟨true, (some (.cells [.slice none 0 0, vf x5, vf x6, .int .i8 0, vi 0, vf x7]))⟩, ⟨true, (some (.strs x8))⟩, ⟨true, (some (.strs x9))⟩, ⟨true, (some (.cells [.slice none 0 0, vf x10, vf x11, .int .i8 (p.2), vi x13, vf x14]))⟩, ⟨true, (some (.strs ([x15, x16, x17, x18] : List ByteArray)))⟩], 5, [3]⟩)].map fun (b, x) => (b, (x.1, frameOf 141 [2, 4, 6, 8, 10, 12, 14] x.2.1, x.2.2)))
noncomputable def u67l0 (x0 x1 x2 x3 : Bool) (x4 : Int) (x5 x6 x7 : Nat) (x8 x9 : List ByteArray) (x10 x11 : Nat) (x12 x13 : Int) (x14 : Nat) (x15 x16 x17 x18 : ByteArray) (p : Nat × Int) : Option (Fin' × List Value × St) := alts ([((Nat.beq (p.1) 0), .exit 0, [vp 0, wsl 1, vp 3, .bool x0, .bool x1, .bool x2, .bool x3], ⟨[⟨true, (some (.cells [.slice none 0 0, vf x5, vf x6, .int .i8 0, vi 0, vf x7]))⟩, ⟨true, (some (.strs x8))⟩, ⟨true, (some (.strs x9))⟩, ⟨true, (some (.cells [.slice none 0 0, vf x10, vf x11, .int .i8 (p.2), vi x13, vf x14]))⟩, ⟨true, (some (.strs ([x15, x16, x17, x18] : List ByteArray)))⟩], 5, [3]⟩)].map fun (b, x) => (b, (x.1, frameOf 141 [2, 4, 6, 8, 10, 12, 14] x.2.1, x.2.2))) some
theorem v67l0 (x0 x1 x2 x3 : Bool) (x4 : Int) (x5 x6 x7 : Nat) (x8 x9 : List ByteArray) (x10 x11 : Nat) (x12 x13 : Int) (x14 : Nat) (x15 x16 x17 x18 : ByteArray) (p : Nat × Int) : u67l0 x0 x1 x2 x3 x4 x5 x6 x7 x8 x9 x10 x11 x12 x13 x14 x15 x16 x17 x18 p = a67l0 x0 x1 x2 x3 x4 x5 x6 x7 x8 x9 x10 x11 x12 x13 x14 x15 x16 x17 x18 p := alts_first _
noncomputable def q67l0 (m : Nat) : SumK := fun vals s =>
 match vals, s.h with
 | [.pointer (some ⟨f0, f1, some f2⟩), .iface f3 .nilIface, .iface f4 .nilIface, .pointer (some ⟨f5, f6, some f7⟩), .bool x0, .bool x1, .bool x2, .bool x3, .iface f8 .nilIface, .int .i64 x4], [⟨true, some (.cells [.slice none f9 f10, .float .f32 x5, .float .f32 x6, .int .i8 f11, .int .i64 f12, .float .f32 x7])⟩, ⟨true, some (.strs x8)⟩, ⟨true, some (.strs x9)⟩, ⟨true, some (.cells [.slice none f13 f14, .float .f32 x10, .float .f32 x11, .int .i8 x12, .int .i64 x13, .float .f32 x14])⟩, ⟨true, some (.strs ([x15, x16, x17, x18] : List ByteArray))⟩] => if f0 = 0 ∧ f1 = 0 ∧ f2 = 0 ∧ f3 = 1 ∧ f4 = 2 ∧ f5 = 3 ∧ f6 = 0 ∧ f7 = 0 ∧ f8 = 4 ∧ f9 = 0 ∧ f10 = 0 ∧ f11 = 0 ∧ f12 = 0 ∧ f13 = 0 ∧ f14 = 0 then [((Nat.beq ((r67l0 m x0 x1 x2 x3 x4 x5 x6 x7 x8 x9 x10 x11 x12 x13 x14 x15 x16 x17 x18).1) 0), .exit 0, [vp 0, wsl 1, vp 3, .bool x0, .bool x1, .bool x2, .bool x3], ⟨[⟨true, (some (.cells [.slice none 0 0, vf x5, vf x6, .int .i8 0, vi 0, vf x7]))⟩, ⟨true, (some (.strs x8))⟩, ⟨true, (some (.strs x9))⟩, ⟨true, (some (.cells [.slice none 0 0, vf x10, vf x11, .int .i8 ((r67l0 m x0 x1 x2 x3 x4 x5 x6 x7 x8 x9 x10 x11 x12 x13 x14 x15 x16 x17 x18).2), vi x13, vf x14]))⟩, ⟨true, (some (.strs ([x15, x16, x17, x18] : List ByteArray)))⟩], 5, [3]⟩)] else noQ vals s
 | _, _ => noQ vals s
noncomputable def w67l0 (ih : Bool → Bool → Bool → Bool → Int → Nat → Nat → Nat → List ByteArray → List ByteArray → Nat → Nat → Int → Int → Nat → ByteArray → ByteArray → ByteArray → ByteArray → (Nat × Int)) (x0 x1 x2 x3 : Bool) (x4 : Int) (x5 x6 x7 : Nat) (x8 x9 : List ByteArray) (x10 x11 : Nat) (x12 x13 : Int) (x14 : Nat) (x15 x16 x17 x18 : ByteArray) : Option (Fin' × List Value × St) :=
 (cond (decide ((x4 : Int) < 4))
 (cond ((decide ((0 : Int) ≤ x4)) && (Nat.blt (Int.toNat x4) 4)) (cond (Nat.blt (Int.toNat x4) 4) (cond (Nat.blt 4 x9.length) (cond (Nat.blt 4 x9.length) (cond ((([x15, x16, x17, x18] : List ByteArray).getD (Int.toNat x4) .empty).toList == (x9.getD 4 .empty).toList) (u67l0 x0 x1 x2 x3 x4 x5 x6 x7 x8 x9 x10 x11 x12 x13 x14 x15 x16 x17 x18 (ih x0 x1 x2 x3 (IntKind.i64.wrap (x4 + 1)) x5 x6 x7 x8 x9 x10 x11 (IntKind.i8.wrap x4) x13 x14 x15 x16 x17 x18)) (u67l0 x0 x1 x2 x3 x4 x5 x6 x7 x8 x9 x10 x11 x12 x13 x14 x15 x16 x17 x18 (ih x0 x1 x2 x3 (IntKind.i64.wrap (x4 + 1)) x5 x6 x7 x8 x9 x10 x11 x12 x13 x14 x15 x16 x17 x18))) none) none) none) none)
 (a67l0 x0 x1 x2 x3 x4 x5 x6 x7 x8 x9 x10 x11 x12 x13 x14 x15 x16 x17 x18 (0, x12)))
set_option maxRecDepth 100000 in
set_option maxHeartbeats 4000000 in
theorem e67l0 (m : Nat) (x0 x1 x2 x3 : Bool) (x4 : Int) (x5 x6 x7 : Nat) (x8 x9 : List ByteArray) (x10 x11 : Nat) (x12 x13 : Int) (x14 : Nat) (x15 x16 x17 x18 : ByteArray) : evC Tryz.prog ext T5 noL 200 (loopN Tryz.f67 0) (loopTail ([2, 4, 5, 6, 8, 10, 12, 14, 15, 16], [15]) [2, 4, 6, 8, 10, 12, 14] [3] (sumK 141 [2, 4, 5, 6, 8, 10, 12, 14, 15, 16] [2, 4, 6, 8, 10, 12, 14] (q67l0 m))) (frameOf 141 [2, 4, 5, 6, 8, 10, 12, 14, 15, 16] [vp 0, wsl 1, wsl 2, vp 3, .bool x0, .bool x1, .bool x2, .bool x3, wsl 4, vi x4]) ⟨[⟨true, (some (.cells [.slice none 0 0, vf x5, vf x6, .int .i8 0, vi 0, vf x7]))⟩, ⟨true, (some (.strs x8))⟩, ⟨true, (some (.strs x9))⟩, ⟨true, (some (.cells [.slice none 0 0, vf x10, vf x11, .int .i8 x12, vi x13, vf x14]))⟩, ⟨true, (some (.strs ([x15, x16, x17, x18] : List ByteArray)))⟩], 5, []⟩ = firstT ([((Nat.beq ((r67l0 (m + 1) x0 x1 x2 x3 x4 x5 x6 x7 x8 x9 x10 x11 x12 x13 x14 x15 x16 x17 x18).1) 0), .exit 0, [vp 0, wsl 1, vp 3, .bool x0, .bool x1, .bool x2, .bool x3], ⟨[⟨true, (some (.cells [.slice none 0 0, vf x5, vf x6, .int .i8 0, vi 0, vf x7]))⟩, ⟨true, (some (.strs x8))⟩, ⟨true, (some (.strs x9))⟩, ⟨true, (some (.cells [.slice none 0 0, vf x10, vf x11, .int .i8 ((r67l0 (m + 1) x0 x1 x2 x3 x4 x5 x6 x7 x8 x9 x10 x11 x12 x13 x14 x15 x16 x17 x18).2), vi x13, vf x14]))⟩, ⟨true, (some (.strs ([x15, x16, x17, x18] : List ByteArray)))⟩], 5, [3]⟩)].map fun (b, x) => (b, (x.1, frameOf 141 [2, 4, 6, 8, 10, 12, 14] x.2.1, x.2.2))) :=
 (show _ = w67l0 (r67l0 m) x0 x1 x2 x3 x4 x5 x6 x7 x8 x9 x10 x11 x12 x13 x14 x15 x16 x17 x18 from by kernel_rfl).trans
 (show w67l0 (r67l0 m) x0 x1 x2 x3 x4 x5 x6 x7 x8 x9 x10 x11 x12 x13 x14 x15 x16 x17 x18 = a67l0 x0 x1 x2 x3 x4 x5 x6 x7 x8 x9 x10 x11 x12 x13 x14 x15 x16 x17 x18 (r67l0 (m + 1) x0 x1 x2 x3 x4 x5 x6 x7 x8 x9 x10 x11 x12 x13 x14 x15 x16 x17 x18) from by unfold w67l0; show _ = a67l0 x0 x1 x2 x3 x4 x5 x6 x7 x8 x9 x10 x11 x12 x13 x14 x15 x16 x17 x18 (b67l0 (r67l0 m) x0 x1 x2 x3 x4 x5 x6 x7 x8 x9 x10 x11 x12 x13 x14 x15 x16 x17 x18); unfold b67l0; exact (cond_both (a67l0 x0 x1 x2 x3 x4 x5 x6 x7 x8 x9 x10 x11 x12 x13 x14 x15 x16 x17 x18) _ (fun h0 => (cond_both (a67l0 x0 x1 x2 x3 x4 x5 x6 x7 x8 x9 x10 x11 x12 x13 x14 x15 x16 x17 x18) _ (fun h1 => (cond_t (ev_and2 h1) (cond_both (a67l0 x0 x1 x2 x3 x4 x5 x6 x7 x8 x9 x10 x11 x12 x13 x14 x15 x16 x17 x18) _ (fun h2 => (cond_t h2 (cond_app (a67l0 x0 x1 x2 x3 x4 x5 x6 x7 x8 x9 x10 x11 x12 x13 x14 x15 x16 x17 x18) _ (v67l0 x0 x1 x2 x3 x4 x5 x6 x7 x8 x9 x10 x11 x12 x13 x14 x15 x16 x17 x18 ((r67l0 m) x0 x1 x2 x3 (IntKind.i64.wrap (x4 + 1)) x5 x6 x7 x8 x9 x10 x11 (IntKind.i8.wrap x4) x13 x14 x15 x16 x17 x18)) (v67l0 x0 x1 x2 x3 x4 x5 x6 x7 x8 x9 x10 x11 x12 x13 x14 x15 x16 x17 x18 ((r67l0 m) x0 x1 x2 x3 (IntKind.i64.wrap (x4 + 1)) x5 x6 x7 x8 x9 x10 x11 x12 x13 x14 x15 x16 x17 x18))))) (fun h2 => rfl)))) (fun h1 => rfl))) (fun h0 => rfl)))
set_option maxRecDepth 100000 in
set_option maxHeartbeats 4000000 in
theorem qm67l0 : ∀ m, SumKOk Tryz.prog (loopN Tryz.f67 0) 141 [2, 4, 5, 6, 8, 10, 12, 14, 15, 16] [2, 4, 6, 8, 10, 12, 14] (q67l0 m) := by
  intro m
  induction m with
  | zero =>
    intro vals s x h1 h2 h3
    unfold q67l0 at h3; split at h3
    · rename_i h; split at h3
      · rename_i hc; obtain ⟨rfl, rfl, rfl, rfl, rfl, rfl, rfl, rfl, rfl, rfl, rfl, rfl, rfl, rfl, rfl⟩ := hc; exact absurd h3 (by simp [r67l0, firstT, Nat.beq])
      · exact noQ_ok _ _ _ h1 h2 h3
    · exact noQ_ok _ _ _ h1 h2 h3
  | succ m ih =>
    intro vals s x h1 h2 h3
    unfold q67l0 at h3; split at h3
    · rename_i h; split at h3
      · rename_i hc; obtain ⟨rfl, rfl, rfl, rfl, rfl, rfl, rfl, rfl, rfl, rfl, rfl, rfl, rfl, rfl, rfl⟩ := hc; exact sum_step ok5 extOk mixed ((lfOkF_no _ _).inner (by kernel_rfl)) ih h1 h2 h (e67l0 m _ _ _ _ _ _ _ _ _ _ _ _ _ _ _ _ _ _ _) rfl h3
      · exact noQ_ok _ _ _ h1 h2 h3
    · exact noQ_ok _ _ _ h1 h2 h3
noncomputable def Q67l0 : SumK := fun vals s => q67l0 (fuelOf vals s.h) vals s
theorem qok67l0 : SumKOk Tryz.prog (loopN Tryz.f67 0) 141 [2, 4, 5, 6, 8, 10, 12, 14, 15, 16] [2, 4, 6, 8, 10, 12, 14] Q67l0 := fuel_ok qm67l0 fuelOf
noncomputable def L67_1 : LoopT := addL noL 17 ([2, 4, 5, 6, 8, 10, 12, 14, 15, 16], [15]) (sumK 141 [2, 4, 5, 6, 8, 10, 12, 14, 15, 16] [2, 4, 6, 8, 10, 12, 14] Q67l0)
theorem lok67_1 : LfOkF Tryz.prog L67_1 Tryz.f67 := lfOkF_add (lfOkF_no _ _) qok67l0 (by kernel_rfl) (by kernel_rfl) (by kernel_rfl)

/-- spec.l01Numbers, loop 0: one round -/
noncomputable def w114l0 {α : Type} (ih : Nat → Nat → Int → List ByteArray → List (List Int) → (Nat × List (List Int) × List (List Int))) (x0 x1 : Nat) (x2 : Int) (x3 : List ByteArray) (x4 : List (List Int)) (k : (Nat × List (List Int) × List (List Int)) → α) : α :=
 let c20 := (r96 (x3.getD (x0 + (Int.toNat x2)) .empty))
 cond (decide ((x2 : Int) < ((x1 : Nat) : Int))) (cond ((decide ((0 : Int) ≤ x2)) && (Nat.blt (Int.toNat x2) x1)) (cond (Nat.blt (x0 + (Int.toNat x2)) x3.length) (cond (Nat.beq (c20.1) 0) (cond (!(c20.2.2)) (k (0, [], [])) (cond (Nat.ble ((x4.length + 1) * 5) 140737488355328) (cond (Nat.beq ((ih x0 x1 (IntKind.i64.wrap (x2 + 1)) x3 (((x4.drop 0).take x4.length) ++ ([[(((c20.2.1) : Nat) : Int)]] : List (List Int)))).1) 0) (k (1, (((x4.drop 0).take x4.length) ++ ([[(((c20.2.1) : Nat) : Int)]] : List (List Int))), [])) (cond (Nat.beq ((ih x0 x1 (IntKind.i64.wrap (x2 + 1)) x3 (((x4.drop 0).take x4.length) ++ ([[(((c20.2.1) : Nat) : Int)]] : List (List Int)))).1) 1) (k (1, ((ih x0 x1 (IntKind.i64.wrap (x2 + 1)) x3 (((x4.drop 0).take x4.length) ++ ([[(((c20.2.1) : Nat) : Int)]] : List (List Int)))).2.1), [])) (cond (Nat.beq ((ih x0 x1 (IntKind.i64.wrap (x2 + 1)) x3 (((x4.drop 0).take x4.length) ++ ([[(((c20.2.1) : Nat) : Int)]] : List (List Int)))).1) 2) (k (2, [], ((ih x0 x1 (IntKind.i64.wrap (x2 + 1)) x3 (((x4.drop 0).take x4.length) ++ ([[(((c20.2.1) : Nat) : Int)]] : List (List Int)))).2.2))) (cond (Nat.beq ((ih x0 x1 (IntKind.i64.wrap (x2 + 1)) x3 (((x4.drop 0).take x4.length) ++ ([[(((c20.2.1) : Nat) : Int)]] : List (List Int)))).1) 3) (k (2, [], (((x4.drop 0).take x4.length) ++ ([[(((c20.2.1) : Nat) : Int)]] : List (List Int))))) (k (4, [], [])))))) (k (4, [], [])))) (k (4, [], []))) (k (4, [], []))) (k (4, [], []))) (k (3, [], []))
noncomputable def b114l0 (ih : Nat → Nat → Int → List ByteArray → List (List Int) → (Nat × List (List Int) × List (List Int))) (x0 x1 : Nat) (x2 : Int) (x3 : List ByteArray) (x4 : List (List Int)) : Nat × List (List Int) × List (List Int) := w114l0 ih x0 x1 x2 x3 x4 (fun p => p)
noncomputable def r114l0 : Nat → Nat → Nat → Int → List ByteArray → List (List Int) → (Nat × List (List Int) × List (List Int))
 | 0 => fun _ _ _ _ _ => (4, [], [])
 | m + 1 => b114l0 (r114l0 m)
noncomputable def g114l0 (x0 x1 : Nat) (x2 : Int) (x3 : List ByteArray) (x4 : List (List Int)) (p : Nat × List (List Int) × List (List Int)) : List (Bool × (Fin' × List Value × St)) := [((Nat.beq (p.1) 0), .ret, [wsl 2, .bool false, wsl 1], ⟨[⟨true, (some (.strs x3))⟩, ⟨true, (some (.tab [.fl .f32] x4))⟩, ⟨true, (some (.tab [.fl .f32] ([] : List (List Int))))⟩], 2, [1]⟩), ((Nat.beq (p.1) 1), .ret, [wsl 2, .bool false, wsl 3], ⟨[⟨true, (some (.strs x3))⟩, ⟨true, none⟩, ⟨true, (some (.tab [.fl .f32] ([] : List (List Int))))⟩, ⟨true, (some (.tab [.fl .f32] (p.2.1)))⟩], 2, [1]⟩), ((Nat.beq (p.1) 2), .exit 0, [anyV, anyV, wsl 2], ⟨[⟨true, (some (.strs x3))⟩, ⟨true, none⟩, ⟨true, (some (.tab [.fl .f32] (p.2.2)))⟩], 2, [1]⟩), ((Nat.beq (p.1) 3), .exit 0, [anyV, anyV, wsl 1], ⟨[⟨true, (some (.strs x3))⟩, ⟨true, (some (.tab [.fl .f32] x4))⟩], 2, [1]⟩)]
noncomputable def a114l0 (x0 x1 : Nat) (x2 : Int) (x3 : List ByteArray) (x4 : List (List Int)) (p : Nat × List (List Int) × List (List Int)) : Option (Fin' × List Value × St) := firstT ((g114l0 x0 x1 x2 x3 x4 p).map fun (b, x) => (b, (x.1, frameOf 31 [2, 3, 4] x.2.1, x.2.2)))
noncomputable def u114l0 (x0 x1 : Nat) (x2 : Int) (x3 : List ByteArray) (x4 : List (List Int)) (p : Nat × List (List Int) × List (List Int)) : Option (Fin' × List Value × St) := alts ((g114l0 x0 x1 x2 x3 x4 p).map fun (b, x) => (b, (x.1, frameOf 31 [2, 3, 4] x.2.1, x.2.2))) some
theorem v114l0 (x0 x1 : Nat) (x2 : Int) (x3 : List ByteArray) (x4 : List (List Int)) (p : Nat × List (List Int) × List (List Int)) : u114l0 x0 x1 x2 x3 x4 p = a114l0 x0 x1 x2 x3 x4 p := alts_first _
noncomputable def q114l0 (m : Nat) : SumK := fun vals s =>
 match vals, s.h with
 | [.iface x1 (.pointer (some ⟨f0, x0, some f1⟩)), .iface f2 .nilIface, .int .i64 x2], [⟨true, some (.strs x3)⟩, ⟨true, some (.tab [.fl .f32] x4)⟩] => if f0 = 0 ∧ f1 = 0 ∧ f2 = 1 then (g114l0 x0 x1 x2 x3 x4 (r114l0 m x0 x1 x2 x3 x4)) else noQ vals s
 | _, _ => noQ vals s
theorem p114l0 {α : Type} (ih : Nat → Nat → Int → List ByteArray → List (List Int) → (Nat × List (List Int) × List (List Int))) (x0 x1 : Nat) (x2 : Int) (x3 : List ByteArray) (x4 : List (List Int)) (f : (Nat × List (List Int) × List (List Int)) → α) : w114l0 ih x0 x1 x2 x3 x4 f = f (w114l0 ih x0 x1 x2 x3 x4 (fun p => p)) := by unfold w114l0; repeat' (first | refine cond_app f _ ?_ ?_ | rfl)
set_option maxRecDepth 100000 in
set_option maxHeartbeats 4000000 in
theorem e114l0 (m : Nat) (x0 x1 : Nat) (x2 : Int) (x3 : List ByteArray) (x4 : List (List Int)) : evC Tryz.prog ext T5 noL 200 (loopN Tryz.f114 0) (loopTail ([0, 4, 5], []) [2, 3, 4] [1] (sumK 31 [0, 4, 5] [2, 3, 4] (q114l0 m))) (frameOf 31 [0, 4, 5] [rsl ⟨0, x0, some 0⟩ x1, wsl 1, vi x2]) ⟨[⟨true, (some (.strs x3))⟩, ⟨true, (some (.tab [.fl .f32] x4))⟩], 2, []⟩ = firstT ((g114l0 x0 x1 x2 x3 x4 (r114l0 (m + 1) x0 x1 x2 x3 x4)).map fun (b, x) => (b, (x.1, frameOf 31 [2, 3, 4] x.2.1, x.2.2))) :=
 Eq.trans (by kernel_rfl) (p114l0 (r114l0 m) x0 x1 x2 x3 x4 (fun p => firstT ((g114l0 x0 x1 x2 x3 x4 p).map fun (b, x) => (b, (x.1, frameOf 31 [2, 3, 4] x.2.1, x.2.2)))))
set_option maxRecDepth 100000 in
set_option maxHeartbeats 4000000 in
theorem qm114l0 : ∀ m, SumKOk Tryz.prog (loopN Tryz.f114 0) 31 [0, 4, 5] [2, 3, 4] (q114l0 m) := by
  intro m
  induction m with
  | zero =>
    intro vals s x h1 h2 h3
    unfold q114l0 at h3; split at h3
    · rename_i h; split at h3
      · rename_i hc; obtain ⟨rfl, rfl, rfl⟩ := hc; exact absurd h3 (by simp [r114l0, g114l0, firstT, Nat.beq])
      · exact noQ_ok _ _ _ h1 h2 h3
    · exact noQ_ok _ _ _ h1 h2 h3
  | succ m ih =>
    intro vals s x h1 h2 h3
    unfold q114l0 at h3; split at h3
    · rename_i h; split at h3
      · rename_i hc; obtain ⟨rfl, rfl, rfl⟩ := hc; exact sum_step ok5 extOk mixed ((lfOkF_no _ _).inner (by kernel_rfl)) ih h1 h2 h (e114l0 m _ _ _ _ _) rfl h3
      · exact noQ_ok _ _ _ h1 h2 h3
    · exact noQ_ok _ _ _ h1 h2 h3
noncomputable def Q114l0 : SumK := fun vals s => q114l0 (fuelOf vals s.h) vals s
theorem qok114l0 : SumKOk Tryz.prog (loopN Tryz.f114 0) 31 [0, 4, 5] [2, 3, 4] Q114l0 := fuel_ok qm114l0 fuelOf
noncomputable def L114_1 : LoopT := addL noL 4 ([0, 4, 5], []) (sumK 31 [0, 4, 5] [2, 3, 4] Q114l0)
theorem lok114_1 : LfOkF Tryz.prog L114_1 Tryz.f114 := lfOkF_add (lfOkF_no _ _) qok114l0 (by kernel_rfl) (by kernel_rfl) (by kernel_rfl)

/-- spec.l01Numbers -/
noncomputable def w114 {α : Type} (x0 x1 : Nat) (x2 : List ByteArray) (k : (Nat × Bool × List (List Int)) → α) : α :=
 let c21 := (r114l0 (1000 + 0 + x2.length) x0 x1 0 x2 ([] : List (List Int)))
 cond (Nat.beq (c21.1) 0) (k (0, false, ([] : List (List Int)))) (cond (Nat.beq (c21.1) 1) (k (0, false, ([] : List (List Int)))) (cond (Nat.beq (c21.1) 2) (k (0, true, (c21.2.2))) (cond (Nat.beq (c21.1) 3) (k (0, true, ([] : List (List Int)))) (k (1, false, [])))))
noncomputable def r114 (x0 x1 : Nat) (x2 : List ByteArray) : Nat × Bool × List (List Int) := w114 x0 x1 x2 (fun p => p)
noncomputable def g114 (x0 x1 : Nat) (x2 : List ByteArray) (p : Nat × Bool × List (List Int)) : List (Bool × Value × St) := [((Nat.beq (p.1) 0), .tuple #[wsl 1, .bool (p.2.1)], ⟨[⟨true, (some (.strs x2))⟩, ⟨true, (some (.tab [.fl .f32] (p.2.2)))⟩], 1, []⟩)]
theorem p114 {α : Type} (x0 x1 : Nat) (x2 : List ByteArray) (f : (Nat × Bool × List (List Int)) → α) : w114 x0 x1 x2 f = f (w114 x0 x1 x2 (fun p => p)) := by unfold w114; exact (cond_app f _ rfl (cond_app f _ rfl (cond_app f _ rfl (cond_app f _ rfl rfl))))
set_option maxRecDepth 100000 in
set_option maxHeartbeats 4000000 in
theorem e114 (x0 x1 : Nat) (x2 : List ByteArray) : evFn Tryz.prog ext T5 L114_1 200 Tryz.f114 [rsl ⟨0, x0, some 0⟩ x1] ⟨[⟨true, (some (.strs x2))⟩], 1, []⟩ = firstT (g114 x0 x1 x2 (r114 x0 x1 x2)) :=
 Eq.trans (by kernel_rfl) (p114 x0 x1 x2 (fun p => firstT (g114 x0 x1 x2 p)))
noncomputable def s114 (args : List Value) (s : St) : List (Bool × Value × St) :=
 match args, s.h with
 | [.iface x1 (.pointer (some ⟨f0, x0, some f1⟩))], [⟨true, some (.strs x2)⟩] => if f0 = 0 ∧ f1 = 0 then (g114 x0 x1 x2 (r114 x0 x1 x2)) else T5 114 args s
 | _, _ => T5 114 args s
noncomputable def T6 : CallF := addF T5 114 s114
set_option maxRecDepth 100000 in
set_option maxHeartbeats 4000000 in
theorem ok6 : CfOk Tryz.prog T6 := by
  refine cfOk_add ok5 fun args s r s' h1 h2 h3 => ?_
  unfold s114 at h3; split at h3
  · rename_i h; split at h3
    · rename_i hc; obtain ⟨rfl, rfl⟩ := hc; exact callOk ok5 Tryz.func114 h1 h2 h lok114_1.body (e114 _ _ _) rfl h3
    · exact ok5 _ _ _ _ _ h1 h2 h3
  · exact ok5 _ _ _ _ _ h1 h2 h3

/-- spec.l01Finite -/
noncomputable def w62 {α : Type} (x0 : Nat) (k : Bool → α) : α :=
 k ((feq .f32 (fsub .f32 x0 x0) 0))
noncomputable def r62 (x0 : Nat) : Bool := w62 x0 (fun p => p)
noncomputable def g62 (x0 : Nat) (p : Bool) : List (Bool × Value × St) := [(true, .bool p, st0)]
theorem p62 {α : Type} (x0 : Nat) (f : Bool → α) : w62 x0 f = f (w62 x0 (fun p => p)) := by unfold w62; exact rfl
set_option maxRecDepth 100000 in
set_option maxHeartbeats 4000000 in
theorem e62 (x0 : Nat) : evFn Tryz.prog ext T6 noL 200 Tryz.f62 [vf x0] st0 = firstT (g62 x0 (r62 x0)) :=
 Eq.trans (by kernel_rfl) (p62 x0 (fun p => firstT (g62 x0 p)))
noncomputable def s62 (args : List Value) (s : St) : List (Bool × Value × St) :=
 match args, s.h with
 | [.float .f32 x0], [] => (g62 x0 (r62 x0))
 | _, _ => T6 62 args s
noncomputable def T7 : CallF := addF T6 62 s62
set_option maxRecDepth 100000 in
set_option maxHeartbeats 4000000 in
theorem ok7 : CfOk Tryz.prog T7 := by
  refine cfOk_add ok6 fun args s r s' h1 h2 h3 => ?_
  unfold s62 at h3; split at h3
  · rename_i h; exact callOk ok6 Tryz.func62 h1 h2 h (lfOkF_no _ _).body (e62 _) rfl h3
  · exact ok6 _ _ _ _ _ h1 h2 h3

/-- spec.l01Amount -/
noncomputable def w57 {α : Type} (x0 : Nat) (k : Bool → α) : α :=
 cond (r62 x0) (cond (fgt .f32 x0 0) (k (true)) (cond (!isN .f32 x0) (k (((((x0 : Nat) : Int) : Int) == 0))) (k (false)))) (k (false))
noncomputable def r57 (x0 : Nat) : Bool := w57 x0 (fun p => p)
noncomputable def g57 (x0 : Nat) (p : Bool) : List (Bool × Value × St) := [(true, .bool p, st0)]
theorem p57 {α : Type} (x0 : Nat) (f : Bool → α) : w57 x0 f = f (w57 x0 (fun p => p)) := by unfold w57; exact (cond_app f _ (cond_app f _ rfl (cond_app f _ rfl rfl)) rfl)
set_option maxRecDepth 100000 in
set_option maxHeartbeats 4000000 in
theorem e57 (x0 : Nat) : evFn Tryz.prog ext T7 noL 200 Tryz.f57 [vf x0] st0 = firstT (g57 x0 (r57 x0)) :=
 Eq.trans (by kernel_rfl) (p57 x0 (fun p => firstT (g57 x0 p)))
noncomputable def s57 (args : List Value) (s : St) : List (Bool × Value × St) :=
 match args, s.h with
 | [.float .f32 x0], [] => (g57 x0 (r57 x0))
 | _, _ => T7 57 args s
noncomputable def T8 : CallF := addF T7 57 s57
set_option maxRecDepth 100000 in
set_option maxHeartbeats 4000000 in
theorem ok8 : CfOk Tryz.prog T8 := by
  refine cfOk_add ok7 fun args s r s' h1 h2 h3 => ?_
  unfold s57 at h3; split at h3
  · rename_i h; exact callOk ok7 Tryz.func57 h1 h2 h (lfOkF_no _ _).body (e57 _) rfl h3
  · exact ok7 _ _ _ _ _ h1 h2 h3

/-- spec.l01Ok -/
noncomputable def w61 {α : Type} (x0 x1 x2 x3 x4 x5 x6 x7 x8 x9 x10 x11 x12 x13 x14 x15 x16 x17 : Nat) (k : Bool → α) : α :=
 cond (!(r57 x0)) (k (false)) (cond (fgt .f32 x0 1092616192) (k (false)) (cond (!(r57 x12)) (k (false)) (cond (fgt .f32 x12 1092616192) (k (false)) (cond (fgt .f32 x6 3262119936 || feq .f32 x6 3262119936) (cond (!(flt .f32 x6 1153138688 || feq .f32 x6 1153138688)) (k (false)) (cond (!(r57 x1)) (k (false)) (cond (fgt .f32 x1 1092616192) (k (false)) (cond (!(r57 x13)) (k (false)) (cond (fgt .f32 x13 1092616192) (k (false)) (cond (fgt .f32 x7 3262119936 || feq .f32 x7 3262119936) (cond (!(flt .f32 x7 1153138688 || feq .f32 x7 1153138688)) (k (false)) (cond (!(r57 x2)) (k (false)) (cond (fgt .f32 x2 1092616192) (k (false)) (cond (!(r57 x14)) (k (false)) (cond (fgt .f32 x14 1092616192) (k (false)) (cond (fgt .f32 x8 3262119936 || feq .f32 x8 3262119936) (cond (!(flt .f32 x8 1153138688 || feq .f32 x8 1153138688)) (k (false)) (cond (!(r57 x3)) (k (false)) (cond (fgt .f32 x3 1092616192) (k (false)) (cond (!(r57 x15)) (k (false)) (cond (fgt .f32 x15 1092616192) (k (false)) (cond (fgt .f32 x9 3262119936 || feq .f32 x9 3262119936) (cond (!(flt .f32 x9 1153138688 || feq .f32 x9 1153138688)) (k (false)) (cond (!(r57 x4)) (k (false)) (cond (fgt .f32 x4 1092616192) (k (false)) (cond (!(r57 x16)) (k (false)) (cond (fgt .f32 x16 1092616192) (k (false)) (cond (fgt .f32 x10 3262119936 || feq .f32 x10 3262119936) (cond (!(flt .f32 x10 1153138688 || feq .f32 x10 1153138688)) (k (false)) (cond (!(r57 x5)) (k (false)) (cond (fgt .f32 x5 1092616192) (k (false)) (cond (!(r57 x17)) (k (false)) (cond (fgt .f32 x17 1092616192) (k (false)) (cond (fgt .f32 x11 3262119936 || feq .f32 x11 3262119936) (cond (!(flt .f32 x11 1153138688 || feq .f32 x11 1153138688)) (k (false)) (k (true))) (k (false)))))))) (k (false)))))))) (k (false)))))))) (k (false)))))))) (k (false)))))))) (k (false))))))
noncomputable def r61 (x0 x1 x2 x3 x4 x5 x6 x7 x8 x9 x10 x11 x12 x13 x14 x15 x16 x17 : Nat) : Bool := w61 x0 x1 x2 x3 x4 x5 x6 x7 x8 x9 x10 x11 x12 x13 x14 x15 x16 x17 (fun p => p)
noncomputable def g61 (x0 x1 x2 x3 x4 x5 x6 x7 x8 x9 x10 x11 x12 x13 x14 x15 x16 x17 : Nat) (p : Bool) : List (Bool × Value × St) := [(true, .bool p, ⟨[⟨true, (some (.cells [vf x0, vf x1, vf x2, vf x3, vf x4, vf x5, vf x6, vf x7, vf x8, vf x9, vf x10, vf x11, vf x12, vf x13, vf x14, vf x15, vf x16, vf x17]))⟩], 1, []⟩)]
theorem p61 {α : Type} (x0 x1 x2 x3 x4 x5 x6 x7 x8 x9 x10 x11 x12 x13 x14 x15 x16 x17 : Nat) (f : Bool → α) : w61 x0 x1 x2 x3 x4 x5 x6 x7 x8 x9 x10 x11 x12 x13 x14 x15 x16 x17 f = f (w61 x0 x1 x2 x3 x4 x5 x6 x7 x8 x9 x10 x11 x12 x13 x14 x15 x16 x17 (fun p => p)) := by unfold w61; repeat' (first | refine cond_app f _ ?_ ?_ | rfl)
set_option maxRecDepth 100000 in
set_option maxHeartbeats 4000000 in
theorem e61 (x0 x1 x2 x3 x4 x5 x6 x7 x8 x9 x10 x11 x12 x13 x14 x15 x16 x17 : Nat) : evFn Tryz.prog ext T8 noL 200 Tryz.f61 [vp 0] ⟨[⟨true, (some (.cells [vf x0, vf x1, vf x2, vf x3, vf x4, vf x5, vf x6, vf x7, vf x8, vf x9, vf x10, vf x11, vf x12, vf x13, vf x14, vf x15, vf x16, vf x17]))⟩], 1, []⟩ = firstT (g61 x0 x1 x2 x3 x4 x5 x6 x7 x8 x9 x10 x11 x12 x13 x14 x15 x16 x17 (r61 x0 x1 x2 x3 x4 x5 x6 x7 x8 x9 x10 x11 x12 x13 x14 x15 x16 x17)) :=
 Eq.trans (by kernel_rfl) (p61 x0 x1 x2 x3 x4 x5 x6 x7 x8 x9 x10 x11 x12 x13 x14 x15 x16 x17 (fun p => firstT (g61 x0 x1 x2 x3 x4 x5 x6 x7 x8 x9 x10 x11 x12 x13 x14 x15 x16 x17 p)))
noncomputable def s61 (args : List Value) (s : St) : List (Bool × Value × St) :=
 match args, s.h with
 | [.pointer (some ⟨f0, f1, some f2⟩)], [⟨true, some (.cells [.float .f32 x0, .float .f32 x1, .float .f32 x2, .float .f32 x3, .float .f32 x4, .float .f32 x5, .float .f32 x6, .float .f32 x7, .float .f32 x8, .float .f32 x9, .float .f32 x10, .float .f32 x11, .float .f32 x12, .float .f32 x13, .float .f32 x14, .float .f32 x15, .float .f32 x16, .float .f32 x17])⟩] => if f0 = 0 ∧ f1 = 0 ∧ f2 = 0 then (g61 x0 x1 x2 x3 x4 x5 x6 x7 x8 x9 x10 x11 x12 x13 x14 x15 x16 x17 (r61 x0 x1 x2 x3 x4 x5 x6 x7 x8 x9 x10 x11 x12 x13 x14 x15 x16 x17)) else T8 61 args s
 | _, _ => T8 61 args s
noncomputable def T9 : CallF := addF T8 61 s61
set_option maxRecDepth 100000 in
set_option maxHeartbeats 4000000 in
theorem ok9 : CfOk Tryz.prog T9 := by
  refine cfOk_add ok8 fun args s r s' h1 h2 h3 => ?_
  unfold s61 at h3; split at h3
  · rename_i h; split at h3
    · rename_i hc; obtain ⟨rfl, rfl, rfl⟩ := hc; exact callOk ok8 Tryz.func61 h1 h2 h (lfOkF_no _ _).body (e61 _ _ _ _ _ _ _ _ _ _ _ _ _ _ _ _ _ _) rfl h3
    · exact ok8 _ _ _ _ _ h1 h2 h3
  · exact ok8 _ _ _ _ _ h1 h2 h3

/-- spec.l01ReadWood -/
noncomputable def r99 (x0 : ByteArray) : Nat × Nat × Nat × Nat × Nat × Nat × Nat × Nat × Nat × Nat × Nat × Nat × Nat × Nat × Nat × Nat × Nat × Nat × Nat × Bool :=
 let c22 := (r114 1 (((r95 x0 32).2.1).length - 1) ((r95 x0 32).2.1))
 let c23 := (r61 (Int.toNat (((c22.2.2).getD 0 []).getD 0 0)) (Int.toNat (((c22.2.2).getD 3 []).getD 0 0)) (Int.toNat (((c22.2.2).getD 6 []).getD 0 0)) (Int.toNat (((c22.2.2).getD 9 []).getD 0 0)) (Int.toNat (((c22.2.2).getD 12 []).getD 0 0)) (Int.toNat (((c22.2.2).getD 15 []).getD 0 0)) (Int.toNat (((c22.2.2).getD 1 []).getD 0 0)) (Int.toNat (((c22.2.2).getD 4 []).getD 0 0)) (Int.toNat (((c22.2.2).getD 7 []).getD 0 0)) (Int.toNat (((c22.2.2).getD 10 []).getD 0 0)) (Int.toNat (((c22.2.2).getD 13 []).getD 0 0)) (Int.toNat (((c22.2.2).getD 16 []).getD 0 0)) (Int.toNat (((c22.2.2).getD 2 []).getD 0 0)) (Int.toNat (((c22.2.2).getD 5 []).getD 0 0)) (Int.toNat (((c22.2.2).getD 8 []).getD 0 0)) (Int.toNat (((c22.2.2).getD 11 []).getD 0 0)) (Int.toNat (((c22.2.2).getD 14 []).getD 0 0)) (Int.toNat (((c22.2.2).getD 17 []).getD 0 0)))
 cond (Nat.beq ((r95 x0 32).1) 0) (cond (Nat.blt 0 (((r95 x0 32).2.1).length)) (cond (!((((r95 x0 32).2.1).getD 0 .empty).toList == (ByteArray.mk #[108, 111, 103]).toList)) (0, 0, 0, 0, 0, 0, 0, 0, 0, 0, 0, 0, 0, 0, 0, 0, 0, 0, 0, false) (cond ((((((r95 x0 32).2.1).length : Nat) : Int) : Int) != 19) (0, 0, 0, 0, 0, 0, 0, 0, 0, 0, 0, 0, 0, 0, 0, 0, 0, 0, 0, false) (cond ((Nat.ble 1 (((r95 x0 32).2.1).length)) && (Nat.ble (((r95 x0 32).2.1).length) (((r95 x0 32).2.1).length))) (cond (Nat.beq (c22.1) 0) (cond (!(c22.2.1)) (0, 0, 0, 0, 0, 0, 0, 0, 0, 0, 0, 0, 0, 0, 0, 0, 0, 0, 0, false) (cond (Nat.blt 0 ((c22.2.2).length)) (cond (Nat.blt 1 ((c22.2.2).length)) (cond (Nat.blt 2 ((c22.2.2).length)) (cond (Nat.blt 3 ((c22.2.2).length)) (cond (Nat.blt 4 ((c22.2.2).length)) (cond (Nat.blt 5 ((c22.2.2).length)) (cond (Nat.blt 6 ((c22.2.2).length)) (cond (Nat.blt 7 ((c22.2.2).length)) (cond (Nat.blt 8 ((c22.2.2).length)) (cond (Nat.blt 9 ((c22.2.2).length)) (cond (Nat.blt 10 ((c22.2.2).length)) (cond (Nat.blt 11 ((c22.2.2).length)) (cond (Nat.blt 12 ((c22.2.2).length)) (cond (Nat.blt 13 ((c22.2.2).length)) (cond (Nat.blt 14 ((c22.2.2).length)) (cond (Nat.blt 15 ((c22.2.2).length)) (cond (Nat.blt 16 ((c22.2.2).length)) (cond (Nat.blt 17 ((c22.2.2).length)) (0, (Int.toNat (((c22.2.2).getD 0 []).getD 0 0)), (Int.toNat (((c22.2.2).getD 3 []).getD 0 0)), (Int.toNat (((c22.2.2).getD 6 []).getD 0 0)), (Int.toNat (((c22.2.2).getD 9 []).getD 0 0)), (Int.toNat (((c22.2.2).getD 12 []).getD 0 0)), (Int.toNat (((c22.2.2).getD 15 []).getD 0 0)), (Int.toNat (((c22.2.2).getD 1 []).getD 0 0)), (Int.toNat (((c22.2.2).getD 4 []).getD 0 0)), (Int.toNat (((c22.2.2).getD 7 []).getD 0 0)), (Int.toNat (((c22.2.2).getD 10 []).getD 0 0)), (Int.toNat (((c22.2.2).getD 13 []).getD 0 0)), (Int.toNat (((c22.2.2).getD 16 []).getD 0 0)), (Int.toNat (((c22.2.2).getD 2 []).getD 0 0)), (Int.toNat (((c22.2.2).getD 5 []).getD 0 0)), (Int.toNat (((c22.2.2).getD 8 []).getD 0 0)), (Int.toNat (((c22.2.2).getD 11 []).getD 0 0)), (Int.toNat (((c22.2.2).getD 14 []).getD 0 0)), (Int.toNat (((c22.2.2).getD 17 []).getD 0 0)), c23) (1, 0, 0, 0, 0, 0, 0, 0, 0, 0, 0, 0, 0, 0, 0, 0, 0, 0, 0, false)) (1, 0, 0, 0, 0, 0, 0, 0, 0, 0, 0, 0, 0, 0, 0, 0, 0, 0, 0, false)) (1, 0, 0, 0, 0, 0, 0, 0, 0, 0, 0, 0, 0, 0, 0, 0, 0, 0, 0, false)) (1, 0, 0, 0, 0, 0, 0, 0, 0, 0, 0, 0, 0, 0, 0, 0, 0, 0, 0, false)) (1, 0, 0, 0, 0, 0, 0, 0, 0, 0, 0, 0, 0, 0, 0, 0, 0, 0, 0, false)) (1, 0, 0, 0, 0, 0, 0, 0, 0, 0, 0, 0, 0, 0, 0, 0, 0, 0, 0, false)) (1, 0, 0, 0, 0, 0, 0, 0, 0, 0, 0, 0, 0, 0, 0, 0, 0, 0, 0, false)) (1, 0, 0, 0, 0, 0, 0, 0, 0, 0, 0, 0, 0, 0, 0, 0, 0, 0, 0, false)) (1, 0, 0, 0, 0, 0, 0, 0, 0, 0, 0, 0, 0, 0, 0, 0, 0, 0, 0, false)) (1, 0, 0, 0, 0, 0, 0, 0, 0, 0, 0, 0, 0, 0, 0, 0, 0, 0, 0, false)) (1, 0, 0, 0, 0, 0, 0, 0, 0, 0, 0, 0, 0, 0, 0, 0, 0, 0, 0, false)) (1, 0, 0, 0, 0, 0, 0, 0, 0, 0, 0, 0, 0, 0, 0, 0, 0, 0, 0, false)) (1, 0, 0, 0, 0, 0, 0, 0, 0, 0, 0, 0, 0, 0, 0, 0, 0, 0, 0, false)) (1, 0, 0, 0, 0, 0, 0, 0, 0, 0, 0, 0, 0, 0, 0, 0, 0, 0, 0, false)) (1, 0, 0, 0, 0, 0, 0, 0, 0, 0, 0, 0, 0, 0, 0, 0, 0, 0, 0, false)) (1, 0, 0, 0, 0, 0, 0, 0, 0, 0, 0, 0, 0, 0, 0, 0, 0, 0, 0, false)) (1, 0, 0, 0, 0, 0, 0, 0, 0, 0, 0, 0, 0, 0, 0, 0, 0, 0, 0, false)) (1, 0, 0, 0, 0, 0, 0, 0, 0, 0, 0, 0, 0, 0, 0, 0, 0, 0, 0, false))) (1, 0, 0, 0, 0, 0, 0, 0, 0, 0, 0, 0, 0, 0, 0, 0, 0, 0, 0, false)) (1, 0, 0, 0, 0, 0, 0, 0, 0, 0, 0, 0, 0, 0, 0, 0, 0, 0, 0, false)))) (1, 0, 0, 0, 0, 0, 0, 0, 0, 0, 0, 0, 0, 0, 0, 0, 0, 0, 0, false)) (cond (Nat.beq ((r95 x0 32).1) 1) (cond (!(((r95 x0 32).2.2).toList == (ByteArray.mk #[108, 111, 103]).toList)) (0, 0, 0, 0, 0, 0, 0, 0, 0, 0, 0, 0, 0, 0, 0, 0, 0, 0, 0, false) (0, 0, 0, 0, 0, 0, 0, 0, 0, 0, 0, 0, 0, 0, 0, 0, 0, 0, 0, false)) (1, 0, 0, 0, 0, 0, 0, 0, 0, 0, 0, 0, 0, 0, 0, 0, 0, 0, 0, false))
noncomputable def a99 (x0 : ByteArray) (p : Nat × Nat × Nat × Nat × Nat × Nat × Nat × Nat × Nat × Nat × Nat × Nat × Nat × Nat × Nat × Nat × Nat × Nat × Nat × Bool) : Res := firstT [((Nat.beq (p.1) 0), .tuple #[.agg #[vf (p.2.1), vf (p.2.2.1), vf (p.2.2.2.1), vf (p.2.2.2.2.1), vf (p.2.2.2.2.2.1), vf (p.2.2.2.2.2.2.1), vf (p.2.2.2.2.2.2.2.1), vf (p.2.2.2.2.2.2.2.2.1), vf (p.2.2.2.2.2.2.2.2.2.1), vf (p.2.2.2.2.2.2.2.2.2.2.1), vf (p.2.2.2.2.2.2.2.2.2.2.2.1), vf (p.2.2.2.2.2.2.2.2.2.2.2.2.1), vf (p.2.2.2.2.2.2.2.2.2.2.2.2.2.1), vf (p.2.2.2.2.2.2.2.2.2.2.2.2.2.2.1), vf (p.2.2.2.2.2.2.2.2.2.2.2.2.2.2.2.1), vf (p.2.2.2.2.2.2.2.2.2.2.2.2.2.2.2.2.1), vf (p.2.2.2.2.2.2.2.2.2.2.2.2.2.2.2.2.2.1), vf (p.2.2.2.2.2.2.2.2.2.2.2.2.2.2.2.2.2.2.1)], .bool (p.2.2.2.2.2.2.2.2.2.2.2.2.2.2.2.2.2.2.2)], st0)]
noncomputable def w99 (x0 : ByteArray) : Res :=
 let c22 := (r114 1 (((r95 x0 32).2.1).length - 1) ((r95 x0 32).2.1))
 let c23 := (r61 (Int.toNat (((c22.2.2).getD 0 []).getD 0 0)) (Int.toNat (((c22.2.2).getD 3 []).getD 0 0)) (Int.toNat (((c22.2.2).getD 6 []).getD 0 0)) (Int.toNat (((c22.2.2).getD 9 []).getD 0 0)) (Int.toNat (((c22.2.2).getD 12 []).getD 0 0)) (Int.toNat (((c22.2.2).getD 15 []).getD 0 0)) (Int.toNat (((c22.2.2).getD 1 []).getD 0 0)) (Int.toNat (((c22.2.2).getD 4 []).getD 0 0)) (Int.toNat (((c22.2.2).getD 7 []).getD 0 0)) (Int.toNat (((c22.2.2).getD 10 []).getD 0 0)) (Int.toNat (((c22.2.2).getD 13 []).getD 0 0)) (Int.toNat (((c22.2.2).getD 16 []).getD 0 0)) (Int.toNat (((c22.2.2).getD 2 []).getD 0 0)) (Int.toNat (((c22.2.2).getD 5 []).getD 0 0)) (Int.toNat (((c22.2.2).getD 8 []).getD 0 0)) (Int.toNat (((c22.2.2).getD 11 []).getD 0 0)) (Int.toNat (((c22.2.2).getD 14 []).getD 0 0)) (Int.toNat (((c22.2.2).getD 17 []).getD 0 0)))
 (cond (Nat.beq ((r95 x0 32).1) 0)
 (cond (Nat.blt 0 (((r95 x0 32).2.1).length)) (cond (Nat.blt 0 (((r95 x0 32).2.1).length)) (cond (!((((r95 x0 32).2.1).getD 0 .empty).toList == (ByteArray.mk #[108, 111, 103]).toList)) (a99 x0 (0, 0, 0, 0, 0, 0, 0, 0, 0, 0, 0, 0, 0, 0, 0, 0, 0, 0, 0, false)) (cond ((((((r95 x0 32).2.1).length : Nat) : Int) : Int) != 19) (a99 x0 (0, 0, 0, 0, 0, 0, 0, 0, 0, 0, 0, 0, 0, 0, 0, 0, 0, 0, 0, false)) (cond ((Nat.ble 1 (((r95 x0 32).2.1).length)) && (Nat.ble (((r95 x0 32).2.1).length) (((r95 x0 32).2.1).length))) (cond (Nat.beq (c22.1) 0) (cond (!(c22.2.1)) (a99 x0 (0, 0, 0, 0, 0, 0, 0, 0, 0, 0, 0, 0, 0, 0, 0, 0, 0, 0, 0, false)) (cond (Nat.blt 0 ((c22.2.2).length)) (cond (Nat.blt 0 ((c22.2.2).length)) (cond (Nat.blt 1 ((c22.2.2).length)) (cond (Nat.blt 1 ((c22.2.2).length)) (cond (Nat.blt 2 ((c22.2.2).length)) (cond (Nat.blt 2 ((c22.2.2).length)) (cond (Nat.blt 3 ((c22.2.2).length)) (cond (Nat.blt 3 ((c22.2.2).length)) (cond (Nat.blt 4 ((c22.2.2).length)) (cond (Nat.blt 4 ((c22.2.2).length)) (cond (Nat.blt 5 ((c22.2.2).length)) (cond (Nat.blt 5 ((c22.2.2).length)) (cond (Nat.blt 6 ((c22.2.2).length)) (cond (Nat.blt 6 ((c22.2.2).length)) (cond (Nat.blt 7 ((c22.2.2).length)) (cond (Nat.blt 7 ((c22.2.2).length)) (cond (Nat.blt 8 ((c22.2.2).length)) (cond (Nat.blt 8 ((c22.2.2).length)) (cond (Nat.blt 9 ((c22.2.2).length)) (cond (Nat.blt 9 ((c22.2.2).length)) (cond (Nat.blt 10 ((c22.2.2).length)) (cond (Nat.blt 10 ((c22.2.2).length)) (cond (Nat.blt 11 ((c22.2.2).length)) (cond (Nat.blt 11 ((c22.2.2).length)) (cond (Nat.blt 12 ((c22.2.2).length)) (cond (Nat.blt 12 ((c22.2.2).length)) (cond (Nat.blt 13 ((c22.2.2).length)) (cond (Nat.blt 13 ((c22.2.2).length)) (cond (Nat.blt 14 ((c22.2.2).length)) (cond (Nat.blt 14 ((c22.2.2).length)) (cond (Nat.blt 15 ((c22.2.2).length)) (cond (Nat.blt 15 ((c22.2.2).length)) (cond (Nat.blt 16 ((c22.2.2).length)) (cond (Nat.blt 16 ((c22.2.2).length)) (cond (Nat.blt 17 ((c22.2.2).length)) (cond (Nat.blt 17 ((c22.2.2).length)) (a99 x0 (0, (Int.toNat (((c22.2.2).getD 0 []).getD 0 0)), (Int.toNat (((c22.2.2).getD 3 []).getD 0 0)), (Int.toNat (((c22.2.2).getD 6 []).getD 0 0)), (Int.toNat (((c22.2.2).getD 9 []).getD 0 0)), (Int.toNat (((c22.2.2).getD 12 []).getD 0 0)), (Int.toNat (((c22.2.2).getD 15 []).getD 0 0)), (Int.toNat (((c22.2.2).getD 1 []).getD 0 0)), (Int.toNat (((c22.2.2).getD 4 []).getD 0 0)), (Int.toNat (((c22.2.2).getD 7 []).getD 0 0)), (Int.toNat (((c22.2.2).getD 10 []).getD 0 0)), (Int.toNat (((c22.2.2).getD 13 []).getD 0 0)), (Int.toNat (((c22.2.2).getD 16 []).getD 0 0)), (Int.toNat (((c22.2.2).getD 2 []).getD 0 0)), (Int.toNat (((c22.2.2).getD 5 []).getD 0 0)), (Int.toNat (((c22.2.2).getD 8 []).getD 0 0)), (Int.toNat (((c22.2.2).getD 11 []).getD 0 0)), (Int.toNat (((c22.2.2).getD 14 []).getD 0 0)), (Int.toNat (((c22.2.2).getD 17 []).getD 0 0)), c23)) none) none) none) none) none) none) none) none) none) none) none) none) none) none) none) none) none) none) none) none) none) none) none) none) none) none) none) none) none) none) none) none) none) none) none) none)) none) none))) none) none)
 (cond (Nat.beq ((r95 x0 32).1) 1) (cond (!(((r95 x0 32).2.2).toList == (ByteArray.mk #[108, 111, 103]).toList)) (a99 x0 (0, 0, 0, 0, 0, 0, 0, 0, 0, 0, 0, 0, 0, 0, 0, 0, 0, 0, 0, false)) (a99 x0 (0, 0, 0, 0, 0, 0, 0, 0, 0, 0, 0, 0, 0, 0, 0, 0, 0, 0, 0, false))) none))
set_option maxRecDepth 100000 in
set_option maxHeartbeats 4000000 in
theorem e99 (x0 : ByteArray) : evFn Tryz.prog ext T9 noL 200 Tryz.f99 [.string x0] st0 = firstT [((Nat.beq ((r99 x0).1) 0), .tuple #[.agg #[vf ((r99 x0).2.1), vf ((r99 x0).2.2.1), vf ((r99 x0).2.2.2.1), vf ((r99 x0).2.2.2.2.1), vf ((r99 x0).2.2.2.2.2.1), vf ((r99 x0).2.2.2.2.2.2.1), vf ((r99 x0).2.2.2.2.2.2.2.1), vf ((r99 x0).2.2.2.2.2.2.2.2.1), vf ((r99 x0).2.2.2.2.2.2.2.2.2.1), vf ((r99 x0).2.2.2.2.2.2.2.2.2.2.1), vf ((r99 x0).2.2.2.2.2.2.2.2.2.2.2.1), vf ((r99 x0).2.2.2.2.2.2.2.2.2.2.2.2.1), vf ((r99 x0).2.2.2.2.2.2.2.2.2.2.2.2.2.1), vf ((r99 x0).2.2.2.2.2.2.2.2.2.2.2.2.2.2.1), vf ((r99 x0).2.2.2.2.2.2.2.2.2.2.2.2.2.2.2.1), vf ((r99 x0).2.2.2.2.2.2.2.2.2.2.2.2.2.2.2.2.1), vf ((r99 x0).2.2.2.2.2.2.2.2.2.2.2.2.2.2.2.2.2.1), vf ((r99 x0).2.2.2.2.2.2.2.2.2.2.2.2.2.2.2.2.2.2.1)], .bool ((r99 x0).2.2.2.2.2.2.2.2.2.2.2.2.2.2.2.2.2.2.2)], st0)] :=
 (show _ = w99 x0 from by kernel_rfl).trans
 (show w99 x0 = a99 x0 (r99 x0) from by unfold w99 r99; exact (cond_both (a99 x0) _ (fun h0 => (cond_both (a99 x0) _ (fun h1 => (cond_t h1 (cond_both (a99 x0) _ (fun h2 => rfl) (fun h2 => (cond_both (a99 x0) _ (fun h3 => rfl) (fun h3 => (cond_both (a99 x0) _ (fun h4 => (cond_both (a99 x0) _ (fun h5 => (cond_both (a99 x0) _ (fun h6 => rfl) (fun h6 => (cond_both (a99 x0) _ (fun h7 => (cond_t h7 (cond_both (a99 x0) _ (fun h8 => (cond_t h8 (cond_both (a99 x0) _ (fun h9 => (cond_t h9 (cond_both (a99 x0) _ (fun h10 => (cond_t h10 (cond_both (a99 x0) _ (fun h11 => (cond_t h11 (cond_both (a99 x0) _ (fun h12 => (cond_t h12 (cond_both (a99 x0) _ (fun h13 => (cond_t h13 (cond_both (a99 x0) _ (fun h14 => (cond_t h14 (cond_both (a99 x0) _ (fun h15 => (cond_t h15 (cond_both (a99 x0) _ (fun h16 => (cond_t h16 (cond_both (a99 x0) _ (fun h17 => (cond_t h17 (cond_both (a99 x0) _ (fun h18 => (cond_t h18 (cond_both (a99 x0) _ (fun h19 => (cond_t h19 (cond_both (a99 x0) _ (fun h20 => (cond_t h20 (cond_both (a99 x0) _ (fun h21 => (cond_t h21 (cond_both (a99 x0) _ (fun h22 => (cond_t h22 (cond_both (a99 x0) _ (fun h23 => (cond_t h23 (cond_both (a99 x0) _ (fun h24 => (cond_t h24 rfl)) (fun h24 => rfl)))) (fun h23 => rfl)))) (fun h22 => rfl)))) (fun h21 => rfl)))) (fun h20 => rfl)))) (fun h19 => rfl)))) (fun h18 => rfl)))) (fun h17 => rfl)))) (fun h16 => rfl)))) (fun h15 => rfl)))) (fun h14 => rfl)))) (fun h13 => rfl)))) (fun h12 => rfl)))) (fun h11 => rfl)))) (fun h10 => rfl)))) (fun h9 => rfl)))) (fun h8 => rfl)))) (fun h7 => rfl))))) (fun h5 => rfl))) (fun h4 => rfl)))))))) (fun h1 => rfl))) (fun h0 => (cond_app (a99 x0) _ (cond_app (a99 x0) _ rfl rfl) rfl))))
noncomputable def s99 (args : List Value) (s : St) : List (Bool × Value × St) :=
 match args, s.h with
 | [.string x0], [] => [((Nat.beq ((r99 x0).1) 0), .tuple #[.agg #[vf ((r99 x0).2.1), vf ((r99 x0).2.2.1), vf ((r99 x0).2.2.2.1), vf ((r99 x0).2.2.2.2.1), vf ((r99 x0).2.2.2.2.2.1), vf ((r99 x0).2.2.2.2.2.2.1), vf ((r99 x0).2.2.2.2.2.2.2.1), vf ((r99 x0).2.2.2.2.2.2.2.2.1), vf ((r99 x0).2.2.2.2.2.2.2.2.2.1), vf ((r99 x0).2.2.2.2.2.2.2.2.2.2.1), vf ((r99 x0).2.2.2.2.2.2.2.2.2.2.2.1), vf ((r99 x0).2.2.2.2.2.2.2.2.2.2.2.2.1), vf ((r99 x0).2.2.2.2.2.2.2.2.2.2.2.2.2.1), vf ((r99 x0).2.2.2.2.2.2.2.2.2.2.2.2.2.2.1), vf ((r99 x0).2.2.2.2.2.2.2.2.2.2.2.2.2.2.2.1), vf ((r99 x0).2.2.2.2.2.2.2.2.2.2.2.2.2.2.2.2.1), vf ((r99 x0).2.2.2.2.2.2.2.2.2.2.2.2.2.2.2.2.2.1), vf ((r99 x0).2.2.2.2.2.2.2.2.2.2.2.2.2.2.2.2.2.2.1)], .bool ((r99 x0).2.2.2.2.2.2.2.2.2.2.2.2.2.2.2.2.2.2.2)], st0)]
 | _, _ => T9 99 args s
noncomputable def T10 : CallF := addF T9 99 s99
set_option maxRecDepth 100000 in
set_option maxHeartbeats 4000000 in
theorem ok10 : CfOk Tryz.prog T10 := by
  refine cfOk_add ok9 fun args s r s' h1 h2 h3 => ?_
  unfold s99 at h3; split at h3
  · rename_i h; exact callOk ok9 Tryz.func99 h1 h2 h (lfOkF_no _ _).body (e99 _) rfl h3
  · exact ok9 _ _ _ _ _ h1 h2 h3
end Go.Proofs.YtbmagccjcccnaaaGreatDoor
