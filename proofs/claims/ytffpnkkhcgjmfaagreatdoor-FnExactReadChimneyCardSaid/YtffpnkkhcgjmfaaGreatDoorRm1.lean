/- What the functions that the statements reach answer, part 1. -/
import Derived.Test.YtffpnkkhcgjmfaaGreatDoorA39
import Derived.KernelRfl
import Derived.Test.YtffpnkkhcgjmfaaGreatDoorChecked
namespace Go.Proofs.YtffpnkkhcgjmfaaGreatDoor
open Go.Ab
set_option maxHeartbeats 4000000
set_option maxRecDepth 100000

def ext : FuncId → Option Ext := fun g => (cond (Nat.beq g 118) (some .f32from) (cond (Nat.beq g 126) (some .f32bits) (cond (Nat.beq g 146) (some .sqrt) (cond (Nat.beq g 147) (some .f64from) (cond (Nat.beq g 148) (some .f64bits) none)))))
theorem ext_case {g : FuncId} {e : Ext} (h : ext g = some e) : g = 118 ∧ e = .f32from ∨ g = 126 ∧ e = .f32bits ∨ g = 146 ∧ e = .sqrt ∨ g = 147 ∧ e = .f64from ∨ g = 148 ∧ e = .f64bits := by
  unfold ext at h
  cases h0 : Nat.beq g 118 with
  | true => rw [h0] at h; cases h; exact .inl ⟨Nat.eq_of_beq_eq_true h0, rfl⟩
  | false =>
    rw [h0] at h
    cases h1 : Nat.beq g 126 with
    | true => rw [h1] at h; cases h; exact .inr (.inl ⟨Nat.eq_of_beq_eq_true h1, rfl⟩)
    | false =>
      rw [h1] at h
      cases h2 : Nat.beq g 146 with
      | true => rw [h2] at h; cases h; exact .inr (.inr (.inl ⟨Nat.eq_of_beq_eq_true h2, rfl⟩))
      | false =>
        rw [h2] at h
        cases h3 : Nat.beq g 147 with
        | true => rw [h3] at h; cases h; exact .inr (.inr (.inr (.inl ⟨Nat.eq_of_beq_eq_true h3, rfl⟩)))
        | false =>
          rw [h3] at h
          cases h4 : Nat.beq g 148 with
          | true => rw [h4] at h; cases h; exact .inr (.inr (.inr (.inr (⟨Nat.eq_of_beq_eq_true h4, rfl⟩))))
          | false =>
            rw [h4] at h
            cases h
theorem extOk : ExtOk Tryz.prog ext := by
  intro g e h
  rcases ext_case h with ⟨rfl, rfl⟩ | ⟨rfl, rfl⟩ | ⟨rfl, rfl⟩ | ⟨rfl, rfl⟩ | ⟨rfl, rfl⟩
  · exact ⟨Tryz.f118, Tryz.func118, by kernel_rfl, by kernel_rfl, by kernel_rfl, by kernel_rfl⟩
  · exact ⟨Tryz.f126, Tryz.func126, by kernel_rfl, by kernel_rfl, by kernel_rfl, by kernel_rfl⟩
  · exact ⟨Tryz.f146, Tryz.func146, by kernel_rfl, by kernel_rfl, by kernel_rfl, by kernel_rfl⟩
  · exact ⟨Tryz.f147, Tryz.func147, by kernel_rfl, by kernel_rfl, by kernel_rfl, by kernel_rfl⟩
  · exact ⟨Tryz.f148, Tryz.func148, by kernel_rfl, by kernel_rfl, by kernel_rfl, by kernel_rfl⟩
theorem mixed : Tryz.prog.follows .mixedOrders = true := by kernel_rfl
theorem callOk {cf : CallF} (hcf : CfOk Tryz.prog cf) {lf : LoopT} {N : Nat} {f : FuncId} {fn : Func} (hf : Tryz.prog.funcs[f]? = some fn) {args : List Value} {s : St} {l : List Blk} {n : Nat} {L : List (Bool × Value × St)} {r' : Value} {s' : St} (h1 : s.lo = s.h.length) (h2 : s.wr = []) (h : s.h = l) (hl : ∀ c, fn.body = some c → LfOk Tryz.prog lf (loopsOf c)) (he : evFn Tryz.prog ext cf lf N fn args ⟨l, n, []⟩ = firstT L) (hn : n = l.length) (h3 : firstT L = some (r', s')) : CallsOK Tryz.prog f args s r' s' :=
  call_ok extOk mixed hcf hf h1 h2 h hl he hn h3
def lays156_ren : Go.Shelf.Ren := ⟨fun | 156 => 83 | 165 => 122 | 166 => 123 | 169 => 124 | 240 => 143 | 241 => 144 | 276 => 162 | 277 => 163 | n => n, fun | 31 => 45 | 9 => 9 | 3 => 3 | 4 => 4 | 0 => 0 | 20 => 20 | 72 => 142 | 76 => 144 | 70 => 140 | 37 => 28 | 75 => 137 | 127 => 155 | 164 => 167 | 5 => 5 | 80 => 88 | n => n, fun | n => n⟩
theorem lays156 : Go.Proofs.Lays.n156 Tryz.prog lays156_ren := {
  mixed := by kernel_rfl
  f156 := Tryz.func83.trans (congrArg some (by kernel_rfl))
  f165 := Tryz.func122.trans (congrArg some (by kernel_rfl))
  f166 := Tryz.func123.trans (congrArg some (by kernel_rfl))
  f169 := Tryz.func124.trans (congrArg some (by kernel_rfl))
  f240 := Tryz.func143.trans (congrArg some (by kernel_rfl))
  f241 := Tryz.func144.trans (congrArg some (by kernel_rfl))
  f276 := Tryz.func162.trans (congrArg some (by kernel_rfl))
  f277 := Tryz.func163.trans (congrArg some (by kernel_rfl))
  t0 := Tryz.underlying0
  a0 := Tryz.isAgg0
  z0 := Tryz.sizeOf0
  v0 := Tryz.zeroValue0
  t3 := Tryz.underlying3
  a3 := Tryz.isAgg3
  z3 := Tryz.sizeOf3
  v3 := Tryz.zeroValue3
  t4 := Tryz.underlying4
  a4 := Tryz.isAgg4
  z4 := Tryz.sizeOf4
  v4 := Tryz.zeroValue4
  t9 := Tryz.underlying9
  a9 := Tryz.isAgg9
  z9 := Tryz.sizeOf9
  v9 := Tryz.zeroValue9
  t20 := Tryz.underlying20
  a20 := Tryz.isAgg20
  z20 := Tryz.sizeOf20
  v20 := Tryz.zeroValue20
  t31 := Tryz.underlying45
  a31 := Tryz.isAgg45
  z31 := Tryz.sizeOf45
  v31 := Tryz.zeroValue45
  t37 := Tryz.underlying28
  a37 := Tryz.isAgg28
  z37 := Tryz.sizeOf28
  v37 := Tryz.zeroValue28
  t70 := Tryz.underlying140
  a70 := Tryz.isAgg140
  z70 := Tryz.sizeOf140
  v70 := Tryz.zeroValue140
  t72 := Tryz.underlying142
  a72 := Tryz.isAgg142
  z72 := Tryz.sizeOf142
  v72 := Tryz.zeroValue142
  t75 := Tryz.underlying137
  a75 := Tryz.isAgg137
  z75 := Tryz.sizeOf137
  v75 := Tryz.zeroValue137
  t76 := Tryz.underlying144
  a76 := Tryz.isAgg144
  z76 := Tryz.sizeOf144
  v76 := Tryz.zeroValue144
  t127 := Tryz.underlying155
  a127 := Tryz.isAgg155
  z127 := Tryz.sizeOf155
  v127 := Tryz.zeroValue155
  t164 := Tryz.underlying167
  a164 := Tryz.isAgg167
  z164 := Tryz.sizeOf167
  v164 := Tryz.zeroValue167 }
def lays146_ren : Go.Shelf.Ren := ⟨fun | 146 => 63 | 221 => 107 | 268 => 136 | 138 => 137 | 143 => 138 | 195 => 151 | 197 => 152 | 218 => 153 | 219 => 154 | 260 => 169 | 217 => 156 | 225 => 170 | 224 => 171 | 267 => 172 | 266 => 175 | 314 => 189 | n => n, fun | 9 => 9 | 31 => 45 | 3 => 3 | 4 => 4 | 0 => 0 | 105 => 159 | 21 => 21 | 5 => 5 | 46 => 148 | 119 => 188 | 139 => 191 | 138 => 190 | 146 => 192 | 51 => 131 | n => n, fun | 1 => 1 | 3 => 5 | 4 => 6 | n => n⟩
theorem lays146 : Go.Proofs.Lays.n146 Tryz.prog lays146_ren := {
  mixed := by kernel_rfl
  f138 := Tryz.func137.trans (congrArg some (by kernel_rfl))
  f143 := Tryz.func138.trans (congrArg some (by kernel_rfl))
  f146 := Tryz.func63.trans (congrArg some (by kernel_rfl))
  f195 := Tryz.func151.trans (congrArg some (by kernel_rfl))
  f197 := Tryz.func152.trans (congrArg some (by kernel_rfl))
  f217 := Tryz.func156.trans (congrArg some (by kernel_rfl))
  f218 := Tryz.func153.trans (congrArg some (by kernel_rfl))
  f219 := Tryz.func154.trans (congrArg some (by kernel_rfl))
  f221 := Tryz.func107.trans (congrArg some (by kernel_rfl))
  f224 := Tryz.func171.trans (congrArg some (by kernel_rfl))
  f225 := Tryz.func170.trans (congrArg some (by kernel_rfl))
  f260 := Tryz.func169.trans (congrArg some (by kernel_rfl))
  f266 := Tryz.func175.trans (congrArg some (by kernel_rfl))
  f267 := Tryz.func172.trans (congrArg some (by kernel_rfl))
  f268 := Tryz.func136.trans (congrArg some (by kernel_rfl))
  f314 := Tryz.func189.trans (congrArg some (by kernel_rfl))
  t0 := Tryz.underlying0
  a0 := Tryz.isAgg0
  z0 := Tryz.sizeOf0
  v0 := Tryz.zeroValue0
  t3 := Tryz.underlying3
  a3 := Tryz.isAgg3
  z3 := Tryz.sizeOf3
  v3 := Tryz.zeroValue3
  t4 := Tryz.underlying4
  a4 := Tryz.isAgg4
  z4 := Tryz.sizeOf4
  v4 := Tryz.zeroValue4
  t5 := Tryz.underlying5
  a5 := Tryz.isAgg5
  z5 := Tryz.sizeOf5
  v5 := Tryz.zeroValue5
  t9 := Tryz.underlying9
  a9 := Tryz.isAgg9
  z9 := Tryz.sizeOf9
  v9 := Tryz.zeroValue9
  t21 := Tryz.underlying21
  a21 := Tryz.isAgg21
  z21 := Tryz.sizeOf21
  v21 := Tryz.zeroValue21
  t31 := Tryz.underlying45
  a31 := Tryz.isAgg45
  z31 := Tryz.sizeOf45
  v31 := Tryz.zeroValue45
  t46 := Tryz.underlying148
  a46 := Tryz.isAgg148
  z46 := Tryz.sizeOf148
  v46 := Tryz.zeroValue148
  t51 := Tryz.underlying131
  a51 := Tryz.isAgg131
  z51 := Tryz.sizeOf131
  v51 := Tryz.zeroValue131
  t105 := Tryz.underlying159
  a105 := Tryz.isAgg159
  z105 := Tryz.sizeOf159
  v105 := Tryz.zeroValue159
  t119 := Tryz.underlying188
  a119 := Tryz.isAgg188
  z119 := Tryz.sizeOf188
  t138 := Tryz.underlying190
  a138 := Tryz.isAgg190
  z138 := Tryz.sizeOf190
  v138 := Tryz.zeroValue190
  t139 := Tryz.underlying191
  a139 := Tryz.isAgg191
  z139 := Tryz.sizeOf191
  v139 := Tryz.zeroValue191
  t146 := Tryz.underlying192
  a146 := Tryz.isAgg192
  z146 := Tryz.sizeOf192
  v146 := Tryz.zeroValue192
  g1 := by kernel_rfl
  g3 := by kernel_rfl
  g4 := by kernel_rfl }
def lays137_ren : Go.Shelf.Ren := ⟨fun | 137 => 140 | 217 => 156 | 266 => 175 | n => n, fun | 9 => 9 | 5 => 5 | 3 => 3 | n => n, fun | n => n⟩
theorem lays137 : Go.Proofs.Lays.n137 Tryz.prog lays137_ren := {
  mixed := by kernel_rfl
  f137 := Tryz.func140.trans (congrArg some (by kernel_rfl))
  f217 := Tryz.func156.trans (congrArg some (by kernel_rfl))
  f266 := Tryz.func175.trans (congrArg some (by kernel_rfl))
  t3 := Tryz.underlying3
  a3 := Tryz.isAgg3
  z3 := Tryz.sizeOf3
  v3 := Tryz.zeroValue3
  t5 := Tryz.underlying5
  a5 := Tryz.isAgg5
  z5 := Tryz.sizeOf5
  v5 := Tryz.zeroValue5
  t9 := Tryz.underlying9
  a9 := Tryz.isAgg9
  z9 := Tryz.sizeOf9
  v9 := Tryz.zeroValue9 }
def lays173_ren : Go.Shelf.Ren := ⟨fun | 173 => 127 | 246 => 145 | 283 => 164 | 284 => 165 | 285 => 166 | 286 => 167 | 129 => 182 | 317 => 181 | 318 => 183 | 319 => 184 | 320 => 185 | 337 => 193 | 338 => 194 | n => n, fun | 2 => 2 | 3 => 3 | 9 => 9 | 4 => 4 | 171 => 170 | 0 => 0 | 53 => 112 | 37 => 28 | 5 => 5 | 173 => 173 | 212 => 183 | 51 => 131 | 20 => 20 | 213 => 184 | 46 => 148 | 232 => 198 | 233 => 199 | n => n, fun | 17 => 4 | 18 => 7 | 19 => 8 | n => n⟩
theorem lays173 : Go.Proofs.Lays.n173 Tryz.prog lays173_ren := {
  mixed := by kernel_rfl
  f129 := Tryz.func182.trans (congrArg some (by kernel_rfl))
  f173 := Tryz.func127.trans (congrArg some (by kernel_rfl))
  f246 := Tryz.func145.trans (congrArg some (by kernel_rfl))
  f283 := Tryz.func164.trans (congrArg some (by kernel_rfl))
  f284 := Tryz.func165.trans (congrArg some (by kernel_rfl))
  f285 := Tryz.func166.trans (congrArg some (by kernel_rfl))
  f286 := Tryz.func167.trans (congrArg some (by kernel_rfl))
  f317 := Tryz.func181.trans (congrArg some (by kernel_rfl))
  f318 := Tryz.func183.trans (congrArg some (by kernel_rfl))
  f319 := Tryz.func184.trans (congrArg some (by kernel_rfl))
  f320 := Tryz.func185.trans (congrArg some (by kernel_rfl))
  f337 := Tryz.func193.trans (congrArg some (by kernel_rfl))
  f338 := Tryz.func194.trans (congrArg some (by kernel_rfl))
  t0 := Tryz.underlying0
  a0 := Tryz.isAgg0
  z0 := Tryz.sizeOf0
  v0 := Tryz.zeroValue0
  t2 := Tryz.underlying2
  a2 := Tryz.isAgg2
  z2 := Tryz.sizeOf2
  v2 := Tryz.zeroValue2
  t3 := Tryz.underlying3
  a3 := Tryz.isAgg3
  z3 := Tryz.sizeOf3
  v3 := Tryz.zeroValue3
  t4 := Tryz.underlying4
  a4 := Tryz.isAgg4
  z4 := Tryz.sizeOf4
  v4 := Tryz.zeroValue4
  t5 := Tryz.underlying5
  a5 := Tryz.isAgg5
  z5 := Tryz.sizeOf5
  v5 := Tryz.zeroValue5
  t9 := Tryz.underlying9
  a9 := Tryz.isAgg9
  z9 := Tryz.sizeOf9
  v9 := Tryz.zeroValue9
  t20 := Tryz.underlying20
  a20 := Tryz.isAgg20
  z20 := Tryz.sizeOf20
  v20 := Tryz.zeroValue20
  t37 := Tryz.underlying28
  a37 := Tryz.isAgg28
  z37 := Tryz.sizeOf28
  v37 := Tryz.zeroValue28
  t46 := Tryz.underlying148
  a46 := Tryz.isAgg148
  z46 := Tryz.sizeOf148
  v46 := Tryz.zeroValue148
  t51 := Tryz.underlying131
  a51 := Tryz.isAgg131
  z51 := Tryz.sizeOf131
  v51 := Tryz.zeroValue131
  t53 := Tryz.underlying112
  a53 := Tryz.isAgg112
  z53 := Tryz.sizeOf112
  v53 := Tryz.zeroValue112
  t171 := Tryz.underlying170
  a171 := Tryz.isAgg170
  z171 := Tryz.sizeOf170
  v171 := Tryz.zeroValue170
  t173 := Tryz.underlying173
  a173 := Tryz.isAgg173
  z173 := Tryz.sizeOf173
  v173 := Tryz.zeroValue173
  t212 := Tryz.underlying183
  a212 := Tryz.isAgg183
  z212 := Tryz.sizeOf183
  v212 := Tryz.zeroValue183
  t213 := Tryz.underlying184
  a213 := Tryz.isAgg184
  z213 := Tryz.sizeOf184
  t232 := Tryz.underlying198
  a232 := Tryz.isAgg198
  z232 := Tryz.sizeOf198
  v232 := Tryz.zeroValue198
  t233 := Tryz.underlying199
  a233 := Tryz.isAgg199
  z233 := Tryz.sizeOf199
  v233 := Tryz.zeroValue199
  g17 := by kernel_rfl
  g18 := by kernel_rfl
  g19 := by kernel_rfl }
def laysC174_ren : Go.Shelf.Ren := ⟨fun | 174 => 121 | 247 => 141 | 245 => 142 | 287 => 157 | 279 => 158 | 280 => 159 | 281 => 160 | 282 => 161 | 321 => 176 | 322 => 177 | 316 => 178 | 171 => 180 | 205 => 179 | 243 => 192 | 246 => 145 | 283 => 164 | 284 => 165 | 285 => 166 | 286 => 167 | 129 => 182 | 317 => 181 | 318 => 183 | 319 => 184 | 320 => 185 | 337 => 193 | 338 => 194 | n => n, fun | 9 => 9 | 3 => 3 | 2 => 2 | 75 => 137 | 85 => 138 | 4 => 4 | 167 => 161 | 5 => 5 | 53 => 112 | 175 => 162 | 46 => 148 | 168 => 164 | 37 => 28 | 0 => 0 | 210 => 180 | 21 => 21 | 127 => 155 | 145 => 196 | 143 => 194 | 171 => 170 | 173 => 173 | 212 => 183 | 51 => 131 | 20 => 20 | 213 => 184 | 232 => 198 | 233 => 199 | 80 => 88 | n => n, fun | 15 => 2 | 16 => 3 | 17 => 4 | 18 => 7 | 19 => 8 | n => n⟩
theorem laysC174 : Go.Proofs.LaysC.n174 Tryz.prog laysC174_ren := {
  mixed := by kernel_rfl
  f129 := Tryz.func182.trans (congrArg some (by kernel_rfl))
  f171 := Tryz.func180.trans (congrArg some (by kernel_rfl))
  f174 := Tryz.func121.trans (congrArg some (by kernel_rfl))
  f205 := Tryz.func179.trans (congrArg some (by kernel_rfl))
  f243 := Tryz.func192.trans (congrArg some (by kernel_rfl))
  f245 := Tryz.func142.trans (congrArg some (by kernel_rfl))
  f246 := Tryz.func145.trans (congrArg some (by kernel_rfl))
  f247 := Tryz.func141.trans (congrArg some (by kernel_rfl))
  f279 := Tryz.func158.trans (congrArg some (by kernel_rfl))
  f280 := Tryz.func159.trans (congrArg some (by kernel_rfl))
  f281 := Tryz.func160.trans (congrArg some (by kernel_rfl))
  f282 := Tryz.func161.trans (congrArg some (by kernel_rfl))
  f283 := Tryz.func164.trans (congrArg some (by kernel_rfl))
  f284 := Tryz.func165.trans (congrArg some (by kernel_rfl))
  f285 := Tryz.func166.trans (congrArg some (by kernel_rfl))
  f286 := Tryz.func167.trans (congrArg some (by kernel_rfl))
  f287 := Tryz.func157.trans (congrArg some (by kernel_rfl))
  f316 := Tryz.func178.trans (congrArg some (by kernel_rfl))
  f317 := Tryz.func181.trans (congrArg some (by kernel_rfl))
  f318 := Tryz.func183.trans (congrArg some (by kernel_rfl))
  f319 := Tryz.func184.trans (congrArg some (by kernel_rfl))
  f320 := Tryz.func185.trans (congrArg some (by kernel_rfl))
  f321 := Tryz.func176.trans (congrArg some (by kernel_rfl))
  f322 := Tryz.func177.trans (congrArg some (by kernel_rfl))
  f337 := Tryz.func193.trans (congrArg some (by kernel_rfl))
  f338 := Tryz.func194.trans (congrArg some (by kernel_rfl))
  t0 := Tryz.underlying0
  a0 := Tryz.isAgg0
  z0 := Tryz.sizeOf0
  v0 := Tryz.zeroValue0
  t2 := Tryz.underlying2
  a2 := Tryz.isAgg2
  z2 := Tryz.sizeOf2
  v2 := Tryz.zeroValue2
  t3 := Tryz.underlying3
  a3 := Tryz.isAgg3
  z3 := Tryz.sizeOf3
  v3 := Tryz.zeroValue3
  t4 := Tryz.underlying4
  a4 := Tryz.isAgg4
  z4 := Tryz.sizeOf4
  v4 := Tryz.zeroValue4
  t5 := Tryz.underlying5
  a5 := Tryz.isAgg5
  z5 := Tryz.sizeOf5
  v5 := Tryz.zeroValue5
  t9 := Tryz.underlying9
  a9 := Tryz.isAgg9
  z9 := Tryz.sizeOf9
  v9 := Tryz.zeroValue9
  t20 := Tryz.underlying20
  a20 := Tryz.isAgg20
  z20 := Tryz.sizeOf20
  v20 := Tryz.zeroValue20
  t21 := Tryz.underlying21
  a21 := Tryz.isAgg21
  z21 := Tryz.sizeOf21
  v21 := Tryz.zeroValue21
  t37 := Tryz.underlying28
  a37 := Tryz.isAgg28
  z37 := Tryz.sizeOf28
  v37 := Tryz.zeroValue28
  t46 := Tryz.underlying148
  a46 := Tryz.isAgg148
  z46 := Tryz.sizeOf148
  v46 := Tryz.zeroValue148
  t51 := Tryz.underlying131
  a51 := Tryz.isAgg131
  z51 := Tryz.sizeOf131
  v51 := Tryz.zeroValue131
  t53 := Tryz.underlying112
  a53 := Tryz.isAgg112
  z53 := Tryz.sizeOf112
  v53 := Tryz.zeroValue112
  t75 := Tryz.underlying137
  a75 := Tryz.isAgg137
  z75 := Tryz.sizeOf137
  v75 := Tryz.zeroValue137
  t85 := Tryz.underlying138
  a85 := Tryz.isAgg138
  z85 := Tryz.sizeOf138
  v85 := Tryz.zeroValue138
  t127 := Tryz.underlying155
  a127 := Tryz.isAgg155
  z127 := Tryz.sizeOf155
  v127 := Tryz.zeroValue155
  t143 := Tryz.underlying194
  a143 := Tryz.isAgg194
  z143 := Tryz.sizeOf194
  v143 := Tryz.zeroValue194
  t145 := Tryz.underlying196
  a145 := Tryz.isAgg196
  z145 := Tryz.sizeOf196
  v145 := Tryz.zeroValue196
  t167 := Tryz.underlying161
  a167 := Tryz.isAgg161
  z167 := Tryz.sizeOf161
  v167 := Tryz.zeroValue161
  t168 := Tryz.underlying164
  a168 := Tryz.isAgg164
  z168 := Tryz.sizeOf164
  v168 := Tryz.zeroValue164
  t171 := Tryz.underlying170
  a171 := Tryz.isAgg170
  z171 := Tryz.sizeOf170
  v171 := Tryz.zeroValue170
  t173 := Tryz.underlying173
  a173 := Tryz.isAgg173
  z173 := Tryz.sizeOf173
  v173 := Tryz.zeroValue173
  t175 := Tryz.underlying162
  a175 := Tryz.isAgg162
  z175 := Tryz.sizeOf162
  v175 := Tryz.zeroValue162
  t210 := Tryz.underlying180
  a210 := Tryz.isAgg180
  z210 := Tryz.sizeOf180
  v210 := Tryz.zeroValue180
  t212 := Tryz.underlying183
  a212 := Tryz.isAgg183
  z212 := Tryz.sizeOf183
  v212 := Tryz.zeroValue183
  t213 := Tryz.underlying184
  a213 := Tryz.isAgg184
  z213 := Tryz.sizeOf184
  t232 := Tryz.underlying198
  a232 := Tryz.isAgg198
  z232 := Tryz.sizeOf198
  v232 := Tryz.zeroValue198
  t233 := Tryz.underlying199
  a233 := Tryz.isAgg199
  z233 := Tryz.sizeOf199
  v233 := Tryz.zeroValue199
  g15 := by kernel_rfl
  g16 := by kernel_rfl
  g17 := by kernel_rfl
  g18 := by kernel_rfl
  g19 := by kernel_rfl
  t80 := Tryz.underlying88
  a80 := Tryz.isAgg88
  z80 := Tryz.sizeOf88
  v80 := Tryz.zeroValue88
  i0 := by kernel_rfl
  i2 := by kernel_rfl
  i3 := by kernel_rfl
  i4 := by kernel_rfl
  i5 := by kernel_rfl
  i9 := by kernel_rfl
  i20 := by kernel_rfl
  i21 := by kernel_rfl
  i37 := by kernel_rfl
  i46 := by kernel_rfl
  i51 := by kernel_rfl
  i53 := by kernel_rfl
  i75 := by kernel_rfl
  i80 := by kernel_rfl
  i85 := by kernel_rfl
  i127 := by kernel_rfl
  i143 := by kernel_rfl
  i145 := by kernel_rfl
  i167 := by kernel_rfl
  i168 := by kernel_rfl
  i171 := by kernel_rfl
  i173 := by kernel_rfl
  i175 := by kernel_rfl
  i210 := by kernel_rfl
  i212 := by kernel_rfl
  i232 := by kernel_rfl
  i233 := by kernel_rfl
  m15 := by kernel_rfl
  m16 := by kernel_rfl
  m17 := by kernel_rfl
  m18 := by kernel_rfl
  m19 := by kernel_rfl
  c0 := by kernel_rfl
  c2 := by kernel_rfl
  c3 := by kernel_rfl
  c4 := by kernel_rfl
  c5 := by kernel_rfl
  c9 := by kernel_rfl
  c20 := by kernel_rfl
  c21 := by kernel_rfl
  c37 := by kernel_rfl
  c46 := by kernel_rfl
  c51 := by kernel_rfl
  c53 := by kernel_rfl
  c75 := by kernel_rfl
  c80 := by kernel_rfl
  c85 := by kernel_rfl
  c127 := by kernel_rfl
  c143 := by kernel_rfl
  c145 := by kernel_rfl
  c167 := by kernel_rfl
  c168 := by kernel_rfl
  c171 := by kernel_rfl
  c173 := by kernel_rfl
  c175 := by kernel_rfl
  c210 := by kernel_rfl
  c212 := by kernel_rfl
  c213 := by kernel_rfl
  c232 := by kernel_rfl
  c233 := by kernel_rfl }
theorem hi9 : (Tryz.prog.info? (lays146_ren.t 9)).map (fun i => (i.zero, i.size, i.bytes)) = some (some (.string ByteArray.empty), 1, 16) := by kernel_rfl
theorem bx : Go.Proofs.Builder.Extra Tryz.prog lays156_ren := {
  sizeBuilder := by kernel_rfl
  liesBuilder := by kernel_rfl
  t5 := Tryz.underlying5
  a5 := Tryz.isAgg5
  z5 := Tryz.sizeOf5
  v5 := Tryz.zeroValue5
  infoByte := by kernel_rfl
  cellsByte := by kernel_rfl
  sizeByte := by kernel_rfl
  neB5 := by decide }
theorem hsyn : Tryz.prog.globalNamed nmSyn ≠ none := by
  have e : (Tryz.prog.globalNamed nmSyn).isSome = true := by kernel_rfl
  intro h; rw [h] at e; cases e
theorem hran : Tryz.prog.globalNamed nmRan ≠ none := by
  have e : (Tryz.prog.globalNamed nmRan).isSome = true := by kernel_rfl
  intro h; rw [h] at e; cases e
theorem fn63 : Fn? Tryz.prog 63 := ⟨Tryz.f63, Tryz.func63, by kernel_rfl, by kernel_rfl⟩
def S1 : CallF := addF noF 63 sSplit
theorem okS1 : CfOk Tryz.prog S1 := cfOk_add (cfOk_no _) fun args s r s' _ _ h => split_calls lays146 hi9 fn63 args s r s' h
theorem fn83 : Fn? Tryz.prog 83 := ⟨Tryz.f83, Tryz.func83, by kernel_rfl, by kernel_rfl⟩
def S2 : CallF := addF S1 83 sJoin
theorem okS2 : CfOk Tryz.prog S2 := cfOk_add okS1 fun args s r s' _ _ h => join_calls lays156 bx fn83 args s r s' h
theorem fn121 : Fn? Tryz.prog 121 := ⟨Tryz.f121, Tryz.func121, by kernel_rfl, by kernel_rfl⟩
def S3 : CallF := addF S2 121 sParse
theorem okS3 : CfOk Tryz.prog S3 := cfOk_add okS2 fun args s r s' _ _ h => parse_calls laysC174 hsyn hran fn121 args s r s' h
theorem fn127 : Fn? Tryz.prog 127 := ⟨Tryz.f127, Tryz.func127, by kernel_rfl, by kernel_rfl⟩
def S4 : CallF := addF S3 127 sFormatSmall
theorem okS4 : CfOk Tryz.prog S4 := cfOk_add okS3 fun args s r s' _ _ h => formatSmall_calls lays173 fn127 args s r s' h
theorem fn140 : Fn? Tryz.prog 140 := ⟨Tryz.f140, Tryz.func140, by kernel_rfl, by kernel_rfl⟩
def S5 : CallF := addF S4 140 sIndexByte
theorem okS5 : CfOk Tryz.prog S5 := cfOk_add okS4 fun args s r s' _ _ h => indexByte_calls lays137 fn140 args s r s' h
def T0 : CallF := S5
theorem ok0 : CfOk Tryz.prog T0 := okS5
def sc0 : List CT := [.fl .f32, .fl .f32, .fl .f32, .fl .f32, .int .i64]

/-- spec.l01Split, loop 0: one round -/
noncomputable def w31l0 {α : Type} (ih : ByteArray → Int → Int → Int → List ByteArray → (Nat × Int × List ByteArray)) (x0 : ByteArray) (x1 x2 x3 : Int) (x4 : List ByteArray) (k k2 : (Nat × Int × List ByteArray) → α) : α :=
 cond (decide ((x3 : Int) < (((x0.size) : Nat) : Int)))
  (cond ((decide ((0 : Int) ≤ x3)) && (Nat.blt (Int.toNat x3) (x0.size)))
   (cond ((((UInt8.toNat (List.getD (ByteArray.data x0).toList (Int.toNat x3) 0) : Nat) : Int) : Int) == x1)
    (cond ((((decide ((0 : Int) ≤ x2)) && (decide ((0 : Int) ≤ x3))) && (Nat.ble (Int.toNat x2) (Int.toNat x3))) && (Nat.ble (Int.toNat x3) (x0.size)))
     (cond (Nat.ble ((x4.length + 1) * 17) 140737488355328)
      (cond (Nat.beq ((ih x0 x1 (IntKind.i64.wrap (x3 + 1)) (IntKind.i64.wrap (x3 + 1)) (((x4.drop 0).take x4.length) ++ ([(ByteArray.extract x0 (Int.toNat x2) (Int.toNat x3))] : List ByteArray))).1) 0)
       (k (0, ((ih x0 x1 (IntKind.i64.wrap (x3 + 1)) (IntKind.i64.wrap (x3 + 1)) (((x4.drop 0).take x4.length) ++ ([(ByteArray.extract x0 (Int.toNat x2) (Int.toNat x3))] : List ByteArray))).2.1), ((ih x0 x1 (IntKind.i64.wrap (x3 + 1)) (IntKind.i64.wrap (x3 + 1)) (((x4.drop 0).take x4.length) ++ ([(ByteArray.extract x0 (Int.toNat x2) (Int.toNat x3))] : List ByteArray))).2.2)))
       (cond (Nat.beq ((ih x0 x1 (IntKind.i64.wrap (x3 + 1)) (IntKind.i64.wrap (x3 + 1)) (((x4.drop 0).take x4.length) ++ ([(ByteArray.extract x0 (Int.toNat x2) (Int.toNat x3))] : List ByteArray))).1) 1)
        (k (0, (IntKind.i64.wrap (x3 + 1)), (((x4.drop 0).take x4.length) ++ ([(ByteArray.extract x0 (Int.toNat x2) (Int.toNat x3))] : List ByteArray))))
        (k (2, 0, []))))
      (k (2, 0, [])))
     (k (2, 0, [])))
    (k2 (ih x0 x1 x2 (IntKind.i64.wrap (x3 + 1)) x4)))
   (k (2, 0, [])))
  (k (1, 0, []))
noncomputable def b31l0 (ih : ByteArray → Int → Int → Int → List ByteArray → (Nat × Int × List ByteArray)) (x0 : ByteArray) (x1 x2 x3 : Int) (x4 : List ByteArray) : Nat × Int × List ByteArray := w31l0 ih x0 x1 x2 x3 x4 (fun p => p) (fun p => p)
noncomputable def r31l0 : Nat → ByteArray → Int → Int → Int → List ByteArray → (Nat × Int × List ByteArray)
 | 0 => fun _ _ _ _ _ => (2, 0, [])
 | m + 1 => b31l0 (r31l0 m)
noncomputable def g31l0 (x0 : ByteArray) (x1 x2 x3 : Int) (x4 : List ByteArray) (p : Nat × Int × List ByteArray) : List (Bool × (Fin' × List Value × St)) := [((Nat.beq (p.1) 0), .exit 0, [.string x0, wsl 1, vi (p.2.1)], ⟨[⟨true, none⟩, ⟨true, (some (.strs (p.2.2)))⟩], 1, [0]⟩), ((Nat.beq (p.1) 1), .exit 0, [.string x0, wsl 0, vi x2], ⟨[⟨true, (some (.strs x4))⟩], 1, [0]⟩)]
noncomputable def a31l0 (x0 : ByteArray) (x1 x2 x3 : Int) (x4 : List ByteArray) (p : Nat × Int × List ByteArray) : Option (Fin' × List Value × St) := firstT ((g31l0 x0 x1 x2 x3 x4 p).map fun (b, x) => (b, (x.1, frameOf 35 [0, 5, 6] x.2.1, x.2.2)))
noncomputable def u31l0 (x0 : ByteArray) (x1 x2 x3 : Int) (x4 : List ByteArray) (p : Nat × Int × List ByteArray) : Option (Fin' × List Value × St) := alts ((g31l0 x0 x1 x2 x3 x4 p).map fun (b, x) => (b, (x.1, frameOf 35 [0, 5, 6] x.2.1, x.2.2))) some
theorem v31l0 (x0 : ByteArray) (x1 x2 x3 : Int) (x4 : List ByteArray) (p : Nat × Int × List ByteArray) : u31l0 x0 x1 x2 x3 x4 p = a31l0 x0 x1 x2 x3 x4 p := alts_first _
noncomputable def q31l0 (m : Nat) : SumK := fun vals s =>
 match vals, s.h with
 | [.string x0, .int .u8 x1, .iface f0 .nilIface, .int .i64 x2, .int .i64 x3], [⟨true, some (.strs x4)⟩] => if f0 = 0 then (g31l0 x0 x1 x2 x3 x4 (r31l0 m x0 x1 x2 x3 x4)) else noQ vals s
 | _, _ => noQ vals s
theorem p31l0 {α : Type} (ih : ByteArray → Int → Int → Int → List ByteArray → (Nat × Int × List ByteArray)) (x0 : ByteArray) (x1 x2 x3 : Int) (x4 : List ByteArray) (f : (Nat × Int × List ByteArray) → α) (u : (Nat × Int × List ByteArray) → α) (h : ∀ p, u p = f p) : w31l0 ih x0 x1 x2 x3 x4 f u = f (w31l0 ih x0 x1 x2 x3 x4 (fun p => p) (fun p => p)) := by unfold w31l0; repeat' (first | refine cond_app f _ ?_ ?_ | rfl | exact h _)
set_option maxRecDepth 100000 in
set_option maxHeartbeats 4000000 in
theorem e31l0 (m : Nat) (x0 : ByteArray) (x1 x2 x3 : Int) (x4 : List ByteArray) : evC Tryz.prog ext T0 noL 200 (loopN Tryz.f31 0) (loopTail ([0, 1, 5, 6, 7], []) [0, 5, 6] [0] (sumK 35 [0, 1, 5, 6, 7] [0, 5, 6] (q31l0 m))) (frameOf 35 [0, 1, 5, 6, 7] [.string x0, .int .u8 x1, wsl 0, vi x2, vi x3]) ⟨[⟨true, (some (.strs x4))⟩], 1, []⟩ = firstT ((g31l0 x0 x1 x2 x3 x4 (r31l0 (m + 1) x0 x1 x2 x3 x4)).map fun (b, x) => (b, (x.1, frameOf 35 [0, 5, 6] x.2.1, x.2.2))) :=
 Eq.trans (by kernel_rfl) (p31l0 (r31l0 m) x0 x1 x2 x3 x4 (a31l0 x0 x1 x2 x3 x4) (u31l0 x0 x1 x2 x3 x4) (v31l0 x0 x1 x2 x3 x4))
set_option maxRecDepth 100000 in
set_option maxHeartbeats 4000000 in
theorem qm31l0 : ∀ m, SumKOk Tryz.prog (loopN Tryz.f31 0) 35 [0, 1, 5, 6, 7] [0, 5, 6] (q31l0 m) := by
  intro m
  induction m with
  | zero =>
    intro vals s x h1 h2 h3
    unfold q31l0 at h3; split at h3
    · rename_i h; split at h3
      · rename_i hc; obtain ⟨rfl⟩ := hc; exact absurd h3 (by simp [r31l0, g31l0, firstT, Nat.beq])
      · exact noQ_ok _ _ _ h1 h2 h3
    · exact noQ_ok _ _ _ h1 h2 h3
  | succ m ih =>
    intro vals s x h1 h2 h3
    unfold q31l0 at h3; split at h3
    · rename_i h; split at h3
      · rename_i hc; obtain ⟨rfl⟩ := hc; exact sum_step ok0 extOk mixed ((lfOkF_no _ _).inner (by kernel_rfl)) ih h1 h2 h (e31l0 m _ _ _ _ _) rfl h3
      · exact noQ_ok _ _ _ h1 h2 h3
    · exact noQ_ok _ _ _ h1 h2 h3
noncomputable def Q31l0 : SumK := fun vals s => q31l0 (fuelOf vals s.h) vals s
theorem qok31l0 : SumKOk Tryz.prog (loopN Tryz.f31 0) 35 [0, 1, 5, 6, 7] [0, 5, 6] Q31l0 := fuel_ok qm31l0 fuelOf
noncomputable def L31_1 : LoopT := addL noL 5 ([0, 1, 5, 6, 7], []) (sumK 35 [0, 1, 5, 6, 7] [0, 5, 6] Q31l0)
theorem lok31_1 : LfOkF Tryz.prog L31_1 Tryz.f31 := lfOkF_add (lfOkF_no _ _) qok31l0 (by kernel_rfl) (by kernel_rfl) (by kernel_rfl)

/-- spec.l01Split -/
noncomputable def w31 {α : Type} (x0 : ByteArray) (x1 : Int) (k : (Nat × List ByteArray × ByteArray) → α) : α :=
 let c0 := (r31l0 (1000 + 0 + (x0.size)) x0 x1 0 0 ([] : List ByteArray))
 cond (Nat.beq (c0.1) 0)
  (cond (((decide ((0 : Int) ≤ (c0.2.1))) && (Nat.ble (Int.toNat (c0.2.1)) (x0.size))) && (Nat.ble (x0.size) (x0.size)))
   (cond (Nat.ble (((c0.2.2).length + 1) * 17) 140737488355328)
    (k (0, ((((c0.2.2).drop 0).take ((c0.2.2).length)) ++ ([(ByteArray.extract x0 (Int.toNat (c0.2.1)) (x0.size))] : List ByteArray)), ByteArray.empty))
    (k (2, [], ByteArray.empty)))
   (k (2, [], ByteArray.empty)))
  (cond (Nat.beq (c0.1) 1)
   (cond ((Nat.ble 0 (x0.size)) && (Nat.ble (x0.size) (x0.size)))
    (k (1, [], (ByteArray.extract x0 0 (x0.size))))
    (k (2, [], ByteArray.empty)))
   (k (2, [], ByteArray.empty)))
noncomputable def r31 (x0 : ByteArray) (x1 : Int) : Nat × List ByteArray × ByteArray := w31 x0 x1 (fun p => p)
noncomputable def g31 (x0 : ByteArray) (x1 : Int) (p : Nat × List ByteArray × ByteArray) : List (Bool × Value × St) := [((Nat.beq (p.1) 0), wsl 0, ⟨[⟨true, (some (.strs (p.2.1)))⟩], 0, []⟩), ((Nat.beq (p.1) 1), wsl 0, ⟨[⟨true, (some (.strs ([(p.2.2)] : List ByteArray)))⟩], 0, []⟩)]
theorem p31 {α : Type} (x0 : ByteArray) (x1 : Int) (f : (Nat × List ByteArray × ByteArray) → α) : w31 x0 x1 f = f (w31 x0 x1 (fun p => p)) := by unfold w31; repeat' (first | refine cond_app f _ ?_ ?_ | rfl)
set_option maxRecDepth 100000 in
set_option maxHeartbeats 4000000 in
theorem e31 (x0 : ByteArray) (x1 : Int) : evFn Tryz.prog ext T0 L31_1 200 Tryz.f31 [.string x0, .int .u8 x1] st0 = firstT (g31 x0 x1 (r31 x0 x1)) :=
 Eq.trans (by kernel_rfl) (p31 x0 x1 (fun p => firstT (g31 x0 x1 p)))
noncomputable def s31 (args : List Value) (s : St) : List (Bool × Value × St) :=
 match args, s.h with
 | [.string x0, .int .u8 x1], [] => (g31 x0 x1 (r31 x0 x1))
 | _, _ => T0 31 args s
noncomputable def T1 : CallF := addF T0 31 s31
set_option maxRecDepth 100000 in
set_option maxHeartbeats 4000000 in
theorem ok1 : CfOk Tryz.prog T1 := by
  refine cfOk_add ok0 fun args s r s' h1 h2 h3 => ?_
  unfold s31 at h3; split at h3
  · rename_i h; exact callOk ok0 Tryz.func31 h1 h2 h lok31_1.body (e31 _ _) rfl h3
  · exact ok0 _ _ _ _ _ h1 h2 h3

/-- spec.l01Read, loop 0 -/
noncomputable def w78l0 {α : Type} (x0 : ByteArray) (x1 : Int) (k : Unit → α) : α :=
 k ()
noncomputable def r78l0 (x0 : ByteArray) (x1 : Int) : Unit := w78l0 x0 x1 (fun p => p)
noncomputable def g78l0 (x0 : ByteArray) (x1 : Int) (p : Unit) : List (Bool × (Fin' × List Value × St)) := [(true, .exit 0, [anyV, anyV, .int .u32 x1], st0)]
theorem p78l0 {α : Type} (x0 : ByteArray) (x1 : Int) (f : Unit → α) : w78l0 x0 x1 f = f (w78l0 x0 x1 (fun p => p)) := by unfold w78l0; exact rfl
set_option maxRecDepth 100000 in
set_option maxHeartbeats 4000000 in
theorem e78l0 (x0 : ByteArray) (x1 : Int) : evC Tryz.prog ext T1 noL 200 (loopN Tryz.f78 0) (loopTail ([0, 4, 5], []) [2, 3, 4] [] (sumK 52 [0, 4, 5] [2, 3, 4] noQ)) (frameOf 52 [0, 4, 5] [.string x0, .int .u32 x1, vi 8]) ⟨[], 0, []⟩ = firstT ((g78l0 x0 x1 (r78l0 x0 x1)).map fun (b, x) => (b, (x.1, frameOf 52 [2, 3, 4] x.2.1, x.2.2))) :=
 Eq.trans (by kernel_rfl) (p78l0 x0 x1 (fun p => firstT ((g78l0 x0 x1 p).map fun (b, x) => (b, (x.1, frameOf 52 [2, 3, 4] x.2.1, x.2.2)))))
noncomputable def Q78l0 : SumK := fun vals s =>
 match vals, s.h with
 | [.string x0, .int .u32 x1, .int .i64 f0], [] => if f0 = 8 then (g78l0 x0 x1 (r78l0 x0 x1)) else noQ vals s
 | _, _ => noQ vals s
set_option maxRecDepth 100000 in
set_option maxHeartbeats 4000000 in
theorem qok78l0 : SumKOk Tryz.prog (loopN Tryz.f78 0) 52 [0, 4, 5] [2, 3, 4] Q78l0 := by
  intro vals s x h1 h2 h3
  unfold Q78l0 at h3; split at h3
  · rename_i h; split at h3
    · rename_i hc; obtain ⟨rfl⟩ := hc; exact sum_step ok1 extOk mixed ((lfOkF_no _ _).inner (by kernel_rfl)) noQ_ok h1 h2 h (e78l0 _ _) rfl h3
    · exact noQ_ok _ _ _ h1 h2 h3
  · exact noQ_ok _ _ _ h1 h2 h3
noncomputable def L78_1 : LoopT := addL noL 6 ([0, 4, 5], []) (sumK 52 [0, 4, 5] [2, 3, 4] Q78l0)
theorem lok78_1 : LfOkF Tryz.prog L78_1 Tryz.f78 := lfOkF_add (lfOkF_no _ _) qok78l0 (by kernel_rfl) (by kernel_rfl) (by kernel_rfl)

/-- spec.l01Read, loop 0 -/
noncomputable def w78l0b {α : Type} (x0 : ByteArray) (x1 : Int) (k : (Nat × Int) → α) : α :=
 cond (Nat.blt 7 (x0.size))
  (cond (decide ((((UInt8.toNat (List.getD (ByteArray.data x0).toList 7 0) : Nat) : Int) : Int) ≥ 48))
   (cond (decide ((((UInt8.toNat (List.getD (ByteArray.data x0).toList 7 0) : Nat) : Int) : Int) ≤ 57))
    (k (0, (IntKind.u32.wrap ((IntKind.u32.wrap (x1 * 16)) + (IntKind.u32.wrap (IntKind.u8.wrap (((UInt8.toNat (List.getD (ByteArray.data x0).toList 7 0) : Nat) : Int) - 48)))))))
    (cond (decide ((((UInt8.toNat (List.getD (ByteArray.data x0).toList 7 0) : Nat) : Int) : Int) ≥ 97))
     (cond (decide ((((UInt8.toNat (List.getD (ByteArray.data x0).toList 7 0) : Nat) : Int) : Int) ≤ 102))
      (k (0, (IntKind.u32.wrap ((IntKind.u32.wrap ((IntKind.u32.wrap (x1 * 16)) + (IntKind.u32.wrap (IntKind.u8.wrap (((UInt8.toNat (List.getD (ByteArray.data x0).toList 7 0) : Nat) : Int) - 97))))) + 10))))
      (k (1, 0)))
     (k (1, 0))))
   (cond (decide ((((UInt8.toNat (List.getD (ByteArray.data x0).toList 7 0) : Nat) : Int) : Int) ≥ 97))
    (cond (decide ((((UInt8.toNat (List.getD (ByteArray.data x0).toList 7 0) : Nat) : Int) : Int) ≤ 102))
     (k (0, (IntKind.u32.wrap ((IntKind.u32.wrap ((IntKind.u32.wrap (x1 * 16)) + (IntKind.u32.wrap (IntKind.u8.wrap (((UInt8.toNat (List.getD (ByteArray.data x0).toList 7 0) : Nat) : Int) - 97))))) + 10))))
     (k (1, 0)))
    (k (1, 0))))
  (k (2, 0))
noncomputable def r78l0b (x0 : ByteArray) (x1 : Int) : Nat × Int := w78l0b x0 x1 (fun p => p)
noncomputable def g78l0b (x0 : ByteArray) (x1 : Int) (p : Nat × Int) : List (Bool × (Fin' × List Value × St)) := [((Nat.beq (p.1) 0), .exit 0, [anyV, anyV, .int .u32 (p.2)], st0), ((Nat.beq (p.1) 1), .ret, [vf 0, .bool false, .int .u32 x1], st0)]
theorem p78l0b {α : Type} (x0 : ByteArray) (x1 : Int) (f : (Nat × Int) → α) : w78l0b x0 x1 f = f (w78l0b x0 x1 (fun p => p)) := by unfold w78l0b; repeat' (first | refine cond_app f _ ?_ ?_ | rfl)
set_option maxRecDepth 100000 in
set_option maxHeartbeats 4000000 in
theorem e78l0b (x0 : ByteArray) (x1 : Int) : evC Tryz.prog ext T1 L78_1 200 (loopN Tryz.f78 0) (loopTail ([0, 4, 5], []) [2, 3, 4] [] (sumK 52 [0, 4, 5] [2, 3, 4] Q78l0)) (frameOf 52 [0, 4, 5] [.string x0, .int .u32 x1, vi 7]) ⟨[], 0, []⟩ = firstT ((g78l0b x0 x1 (r78l0b x0 x1)).map fun (b, x) => (b, (x.1, frameOf 52 [2, 3, 4] x.2.1, x.2.2))) :=
 Eq.trans (by kernel_rfl) (p78l0b x0 x1 (fun p => firstT ((g78l0b x0 x1 p).map fun (b, x) => (b, (x.1, frameOf 52 [2, 3, 4] x.2.1, x.2.2)))))
noncomputable def Q78l0b : SumK := fun vals s =>
 match vals, s.h with
 | [.string x0, .int .u32 x1, .int .i64 f0], [] => if f0 = 7 then (g78l0b x0 x1 (r78l0b x0 x1)) else Q78l0 vals s
 | _, _ => Q78l0 vals s
set_option maxRecDepth 100000 in
set_option maxHeartbeats 4000000 in
theorem qok78l0b : SumKOk Tryz.prog (loopN Tryz.f78 0) 52 [0, 4, 5] [2, 3, 4] Q78l0b := by
  intro vals s x h1 h2 h3
  unfold Q78l0b at h3; split at h3
  · rename_i h; split at h3
    · rename_i hc; obtain ⟨rfl⟩ := hc; exact sum_step ok1 extOk mixed (lok78_1.inner (by kernel_rfl)) qok78l0 h1 h2 h (e78l0b _ _) rfl h3
    · exact qok78l0 _ _ _ h1 h2 h3
  · exact qok78l0 _ _ _ h1 h2 h3
noncomputable def L78_2 : LoopT := addL L78_1 6 ([0, 4, 5], []) (sumK 52 [0, 4, 5] [2, 3, 4] Q78l0b)
theorem lok78_2 : LfOkF Tryz.prog L78_2 Tryz.f78 := lfOkF_add lok78_1 qok78l0b (by kernel_rfl) (by kernel_rfl) (by kernel_rfl)

/-- spec.l01Read, loop 0 -/
noncomputable def w78l0c {α : Type} (x0 : ByteArray) (x1 : Int) (k : (Nat × Int × Int) → α) : α :=
 let c4 := (r78l0b x0 (IntKind.u32.wrap ((IntKind.u32.wrap (x1 * 16)) + (IntKind.u32.wrap (IntKind.u8.wrap (((UInt8.toNat (List.getD (ByteArray.data x0).toList 6 0) : Nat) : Int) - 48))))))
 let c5 := (r78l0b x0 (IntKind.u32.wrap ((IntKind.u32.wrap ((IntKind.u32.wrap (x1 * 16)) + (IntKind.u32.wrap (IntKind.u8.wrap (((UInt8.toNat (List.getD (ByteArray.data x0).toList 6 0) : Nat) : Int) - 97))))) + 10)))
 cond (Nat.blt 6 (x0.size))
  (cond (decide ((((UInt8.toNat (List.getD (ByteArray.data x0).toList 6 0) : Nat) : Int) : Int) ≥ 48))
   (cond (decide ((((UInt8.toNat (List.getD (ByteArray.data x0).toList 6 0) : Nat) : Int) : Int) ≤ 57))
    (cond (Nat.beq (c4.1) 0)
     (k (0, (c4.2), 0))
     (cond (Nat.beq (c4.1) 1)
      (k (1, 0, (IntKind.u32.wrap ((IntKind.u32.wrap (x1 * 16)) + (IntKind.u32.wrap (IntKind.u8.wrap (((UInt8.toNat (List.getD (ByteArray.data x0).toList 6 0) : Nat) : Int) - 48)))))))
      (k (2, 0, 0))))
    (cond (decide ((((UInt8.toNat (List.getD (ByteArray.data x0).toList 6 0) : Nat) : Int) : Int) ≥ 97))
     (cond (decide ((((UInt8.toNat (List.getD (ByteArray.data x0).toList 6 0) : Nat) : Int) : Int) ≤ 102))
      (cond (Nat.beq (c5.1) 0)
       (k (0, (c5.2), 0))
       (cond (Nat.beq (c5.1) 1)
        (k (1, 0, (IntKind.u32.wrap ((IntKind.u32.wrap ((IntKind.u32.wrap (x1 * 16)) + (IntKind.u32.wrap (IntKind.u8.wrap (((UInt8.toNat (List.getD (ByteArray.data x0).toList 6 0) : Nat) : Int) - 97))))) + 10))))
        (k (2, 0, 0))))
      (k (1, 0, x1)))
     (k (1, 0, x1))))
   (cond (decide ((((UInt8.toNat (List.getD (ByteArray.data x0).toList 6 0) : Nat) : Int) : Int) ≥ 97))
    (cond (decide ((((UInt8.toNat (List.getD (ByteArray.data x0).toList 6 0) : Nat) : Int) : Int) ≤ 102))
     (cond (Nat.beq (c5.1) 0)
      (k (0, (c5.2), 0))
      (cond (Nat.beq (c5.1) 1)
       (k (1, 0, (IntKind.u32.wrap ((IntKind.u32.wrap ((IntKind.u32.wrap (x1 * 16)) + (IntKind.u32.wrap (IntKind.u8.wrap (((UInt8.toNat (List.getD (ByteArray.data x0).toList 6 0) : Nat) : Int) - 97))))) + 10))))
       (k (2, 0, 0))))
     (k (1, 0, x1)))
    (k (1, 0, x1))))
  (k (2, 0, 0))
noncomputable def r78l0c (x0 : ByteArray) (x1 : Int) : Nat × Int × Int := w78l0c x0 x1 (fun p => p)
noncomputable def g78l0c (x0 : ByteArray) (x1 : Int) (p : Nat × Int × Int) : List (Bool × (Fin' × List Value × St)) := [((Nat.beq (p.1) 0), .exit 0, [anyV, anyV, .int .u32 (p.2.1)], st0), ((Nat.beq (p.1) 1), .ret, [vf 0, .bool false, .int .u32 (p.2.2)], st0)]
theorem p78l0c {α : Type} (x0 : ByteArray) (x1 : Int) (f : (Nat × Int × Int) → α) : w78l0c x0 x1 f = f (w78l0c x0 x1 (fun p => p)) := by unfold w78l0c; repeat' (first | refine cond_app f _ ?_ ?_ | rfl)
set_option maxRecDepth 100000 in
set_option maxHeartbeats 4000000 in
theorem e78l0c (x0 : ByteArray) (x1 : Int) : evC Tryz.prog ext T1 L78_2 200 (loopN Tryz.f78 0) (loopTail ([0, 4, 5], []) [2, 3, 4] [] (sumK 52 [0, 4, 5] [2, 3, 4] Q78l0b)) (frameOf 52 [0, 4, 5] [.string x0, .int .u32 x1, vi 6]) ⟨[], 0, []⟩ = firstT ((g78l0c x0 x1 (r78l0c x0 x1)).map fun (b, x) => (b, (x.1, frameOf 52 [2, 3, 4] x.2.1, x.2.2))) :=
 Eq.trans (by kernel_rfl) (p78l0c x0 x1 (fun p => firstT ((g78l0c x0 x1 p).map fun (b, x) => (b, (x.1, frameOf 52 [2, 3, 4] x.2.1, x.2.2)))))
noncomputable def Q78l0c : SumK := fun vals s =>
 match vals, s.h with
 | [.string x0, .int .u32 x1, .int .i64 f0], [] => if f0 = 6 then (g78l0c x0 x1 (r78l0c x0 x1)) else Q78l0b vals s
 | _, _ => Q78l0b vals s
set_option maxRecDepth 100000 in
set_option maxHeartbeats 4000000 in
theorem qok78l0c : SumKOk Tryz.prog (loopN Tryz.f78 0) 52 [0, 4, 5] [2, 3, 4] Q78l0c := by
  intro vals s x h1 h2 h3
  unfold Q78l0c at h3; split at h3
  · rename_i h; split at h3
    · rename_i hc; obtain ⟨rfl⟩ := hc; exact sum_step ok1 extOk mixed (lok78_2.inner (by kernel_rfl)) qok78l0b h1 h2 h (e78l0c _ _) rfl h3
    · exact qok78l0b _ _ _ h1 h2 h3
  · exact qok78l0b _ _ _ h1 h2 h3
noncomputable def L78_3 : LoopT := addL L78_2 6 ([0, 4, 5], []) (sumK 52 [0, 4, 5] [2, 3, 4] Q78l0c)
theorem lok78_3 : LfOkF Tryz.prog L78_3 Tryz.f78 := lfOkF_add lok78_2 qok78l0c (by kernel_rfl) (by kernel_rfl) (by kernel_rfl)

/-- spec.l01Read, loop 0 -/
noncomputable def w78l0d {α : Type} (x0 : ByteArray) (x1 : Int) (k : (Nat × Int × Int) → α) : α :=
 let c6 := (r78l0c x0 (IntKind.u32.wrap ((IntKind.u32.wrap (x1 * 16)) + (IntKind.u32.wrap (IntKind.u8.wrap (((UInt8.toNat (List.getD (ByteArray.data x0).toList 5 0) : Nat) : Int) - 48))))))
 let c7 := (r78l0c x0 (IntKind.u32.wrap ((IntKind.u32.wrap ((IntKind.u32.wrap (x1 * 16)) + (IntKind.u32.wrap (IntKind.u8.wrap (((UInt8.toNat (List.getD (ByteArray.data x0).toList 5 0) : Nat) : Int) - 97))))) + 10)))
 cond (Nat.blt 5 (x0.size))
  (cond (decide ((((UInt8.toNat (List.getD (ByteArray.data x0).toList 5 0) : Nat) : Int) : Int) ≥ 48))
   (cond (decide ((((UInt8.toNat (List.getD (ByteArray.data x0).toList 5 0) : Nat) : Int) : Int) ≤ 57))
    (cond (Nat.beq (c6.1) 0)
     (k (0, (c6.2.1), 0))
     (cond (Nat.beq (c6.1) 1)
      (k (1, 0, (c6.2.2)))
      (k (2, 0, 0))))
    (cond (decide ((((UInt8.toNat (List.getD (ByteArray.data x0).toList 5 0) : Nat) : Int) : Int) ≥ 97))
     (cond (decide ((((UInt8.toNat (List.getD (ByteArray.data x0).toList 5 0) : Nat) : Int) : Int) ≤ 102))
      (cond (Nat.beq (c7.1) 0)
       (k (0, (c7.2.1), 0))
       (cond (Nat.beq (c7.1) 1)
        (k (1, 0, (c7.2.2)))
        (k (2, 0, 0))))
      (k (1, 0, x1)))
     (k (1, 0, x1))))
   (cond (decide ((((UInt8.toNat (List.getD (ByteArray.data x0).toList 5 0) : Nat) : Int) : Int) ≥ 97))
    (cond (decide ((((UInt8.toNat (List.getD (ByteArray.data x0).toList 5 0) : Nat) : Int) : Int) ≤ 102))
     (cond (Nat.beq (c7.1) 0)
      (k (0, (c7.2.1), 0))
      (cond (Nat.beq (c7.1) 1)
       (k (1, 0, (c7.2.2)))
       (k (2, 0, 0))))
     (k (1, 0, x1)))
    (k (1, 0, x1))))
  (k (2, 0, 0))
noncomputable def r78l0d (x0 : ByteArray) (x1 : Int) : Nat × Int × Int := w78l0d x0 x1 (fun p => p)
noncomputable def g78l0d (x0 : ByteArray) (x1 : Int) (p : Nat × Int × Int) : List (Bool × (Fin' × List Value × St)) := [((Nat.beq (p.1) 0), .exit 0, [anyV, anyV, .int .u32 (p.2.1)], st0), ((Nat.beq (p.1) 1), .ret, [vf 0, .bool false, .int .u32 (p.2.2)], st0)]
theorem p78l0d {α : Type} (x0 : ByteArray) (x1 : Int) (f : (Nat × Int × Int) → α) : w78l0d x0 x1 f = f (w78l0d x0 x1 (fun p => p)) := by unfold w78l0d; repeat' (first | refine cond_app f _ ?_ ?_ | rfl)
set_option maxRecDepth 100000 in
set_option maxHeartbeats 4000000 in
theorem e78l0d (x0 : ByteArray) (x1 : Int) : evC Tryz.prog ext T1 L78_3 200 (loopN Tryz.f78 0) (loopTail ([0, 4, 5], []) [2, 3, 4] [] (sumK 52 [0, 4, 5] [2, 3, 4] Q78l0c)) (frameOf 52 [0, 4, 5] [.string x0, .int .u32 x1, vi 5]) ⟨[], 0, []⟩ = firstT ((g78l0d x0 x1 (r78l0d x0 x1)).map fun (b, x) => (b, (x.1, frameOf 52 [2, 3, 4] x.2.1, x.2.2))) :=
 Eq.trans (by kernel_rfl) (p78l0d x0 x1 (fun p => firstT ((g78l0d x0 x1 p).map fun (b, x) => (b, (x.1, frameOf 52 [2, 3, 4] x.2.1, x.2.2)))))
noncomputable def Q78l0d : SumK := fun vals s =>
 match vals, s.h with
 | [.string x0, .int .u32 x1, .int .i64 f0], [] => if f0 = 5 then (g78l0d x0 x1 (r78l0d x0 x1)) else Q78l0c vals s
 | _, _ => Q78l0c vals s
set_option maxRecDepth 100000 in
set_option maxHeartbeats 4000000 in
theorem qok78l0d : SumKOk Tryz.prog (loopN Tryz.f78 0) 52 [0, 4, 5] [2, 3, 4] Q78l0d := by
  intro vals s x h1 h2 h3
  unfold Q78l0d at h3; split at h3
  · rename_i h; split at h3
    · rename_i hc; obtain ⟨rfl⟩ := hc; exact sum_step ok1 extOk mixed (lok78_3.inner (by kernel_rfl)) qok78l0c h1 h2 h (e78l0d _ _) rfl h3
    · exact qok78l0c _ _ _ h1 h2 h3
  · exact qok78l0c _ _ _ h1 h2 h3
noncomputable def L78_4 : LoopT := addL L78_3 6 ([0, 4, 5], []) (sumK 52 [0, 4, 5] [2, 3, 4] Q78l0d)
theorem lok78_4 : LfOkF Tryz.prog L78_4 Tryz.f78 := lfOkF_add lok78_3 qok78l0d (by kernel_rfl) (by kernel_rfl) (by kernel_rfl)

/-- spec.l01Read, loop 0 -/
noncomputable def w78l0e {α : Type} (x0 : ByteArray) (x1 : Int) (k : (Nat × Int × Int) → α) : α :=
 let c8 := (r78l0d x0 (IntKind.u32.wrap ((IntKind.u32.wrap (x1 * 16)) + (IntKind.u32.wrap (IntKind.u8.wrap (((UInt8.toNat (List.getD (ByteArray.data x0).toList 4 0) : Nat) : Int) - 48))))))
 let c9 := (r78l0d x0 (IntKind.u32.wrap ((IntKind.u32.wrap ((IntKind.u32.wrap (x1 * 16)) + (IntKind.u32.wrap (IntKind.u8.wrap (((UInt8.toNat (List.getD (ByteArray.data x0).toList 4 0) : Nat) : Int) - 97))))) + 10)))
 cond (Nat.blt 4 (x0.size))
  (cond (decide ((((UInt8.toNat (List.getD (ByteArray.data x0).toList 4 0) : Nat) : Int) : Int) ≥ 48))
   (cond (decide ((((UInt8.toNat (List.getD (ByteArray.data x0).toList 4 0) : Nat) : Int) : Int) ≤ 57))
    (cond (Nat.beq (c8.1) 0)
     (k (0, (c8.2.1), 0))
     (cond (Nat.beq (c8.1) 1)
      (k (1, 0, (c8.2.2)))
      (k (2, 0, 0))))
    (cond (decide ((((UInt8.toNat (List.getD (ByteArray.data x0).toList 4 0) : Nat) : Int) : Int) ≥ 97))
     (cond (decide ((((UInt8.toNat (List.getD (ByteArray.data x0).toList 4 0) : Nat) : Int) : Int) ≤ 102))
      (cond (Nat.beq (c9.1) 0)
       (k (0, (c9.2.1), 0))
       (cond (Nat.beq (c9.1) 1)
        (k (1, 0, (c9.2.2)))
        (k (2, 0, 0))))
      (k (1, 0, x1)))
     (k (1, 0, x1))))
   (cond (decide ((((UInt8.toNat (List.getD (ByteArray.data x0).toList 4 0) : Nat) : Int) : Int) ≥ 97))
    (cond (decide ((((UInt8.toNat (List.getD (ByteArray.data x0).toList 4 0) : Nat) : Int) : Int) ≤ 102))
     (cond (Nat.beq (c9.1) 0)
      (k (0, (c9.2.1), 0))
      (cond (Nat.beq (c9.1) 1)
       (k (1, 0, (c9.2.2)))
       (k (2, 0, 0))))
     (k (1, 0, x1)))
    (k (1, 0, x1))))
  (k (2, 0, 0))
noncomputable def r78l0e (x0 : ByteArray) (x1 : Int) : Nat × Int × Int := w78l0e x0 x1 (fun p => p)
noncomputable def g78l0e (x0 : ByteArray) (x1 : Int) (p : Nat × Int × Int) : List (Bool × (Fin' × List Value × St)) := [((Nat.beq (p.1) 0), .exit 0, [anyV, anyV, .int .u32 (p.2.1)], st0), ((Nat.beq (p.1) 1), .ret, [vf 0, .bool false, .int .u32 (p.2.2)], st0)]
theorem p78l0e {α : Type} (x0 : ByteArray) (x1 : Int) (f : (Nat × Int × Int) → α) : w78l0e x0 x1 f = f (w78l0e x0 x1 (fun p => p)) := by unfold w78l0e; repeat' (first | refine cond_app f _ ?_ ?_ | rfl)
set_option maxRecDepth 100000 in
set_option maxHeartbeats 4000000 in
theorem e78l0e (x0 : ByteArray) (x1 : Int) : evC Tryz.prog ext T1 L78_4 200 (loopN Tryz.f78 0) (loopTail ([0, 4, 5], []) [2, 3, 4] [] (sumK 52 [0, 4, 5] [2, 3, 4] Q78l0d)) (frameOf 52 [0, 4, 5] [.string x0, .int .u32 x1, vi 4]) ⟨[], 0, []⟩ = firstT ((g78l0e x0 x1 (r78l0e x0 x1)).map fun (b, x) => (b, (x.1, frameOf 52 [2, 3, 4] x.2.1, x.2.2))) :=
 Eq.trans (by kernel_rfl) (p78l0e x0 x1 (fun p => firstT ((g78l0e x0 x1 p).map fun (b, x) => (b, (x.1, frameOf 52 [2, 3, 4] x.2.1, x.2.2)))))
noncomputable def Q78l0e : SumK := fun vals s =>
 match vals, s.h with
 | [.string x0, .int .u32 x1, .int .i64 f0], [] => if f0 = 4 then (g78l0e x0 x1 (r78l0e x0 x1)) else Q78l0d vals s
 | _, _ => Q78l0d vals s
set_option maxRecDepth 100000 in
set_option maxHeartbeats 4000000 in
theorem qok78l0e : SumKOk Tryz.prog (loopN Tryz.f78 0) 52 [0, 4, 5] [2, 3, 4] Q78l0e := by
  intro vals s x h1 h2 h3
  unfold Q78l0e at h3; split at h3
  · rename_i h; split at h3
    · rename_i hc; obtain ⟨rfl⟩ := hc; exact sum_step ok1 extOk mixed (lok78_4.inner (by kernel_rfl)) qok78l0d h1 h2 h (e78l0e _ _) rfl h3
    · exact qok78l0d _ _ _ h1 h2 h3
  · exact qok78l0d _ _ _ h1 h2 h3
noncomputable def L78_5 : LoopT := addL L78_4 6 ([0, 4, 5], []) (sumK 52 [0, 4, 5] [2, 3, 4] Q78l0e)
theorem lok78_5 : LfOkF Tryz.prog L78_5 Tryz.f78 := lfOkF_add lok78_4 qok78l0e (by kernel_rfl) (by kernel_rfl) (by kernel_rfl)

/-- spec.l01Read, loop 0 -/
noncomputable def w78l0f {α : Type} (x0 : ByteArray) (x1 : Int) (k : (Nat × Int × Int) → α) : α :=
 let c10 := (r78l0e x0 (IntKind.u32.wrap ((IntKind.u32.wrap (x1 * 16)) + (IntKind.u32.wrap (IntKind.u8.wrap (((UInt8.toNat (List.getD (ByteArray.data x0).toList 3 0) : Nat) : Int) - 48))))))
 let c11 := (r78l0e x0 (IntKind.u32.wrap ((IntKind.u32.wrap ((IntKind.u32.wrap (x1 * 16)) + (IntKind.u32.wrap (IntKind.u8.wrap (((UInt8.toNat (List.getD (ByteArray.data x0).toList 3 0) : Nat) : Int) - 97))))) + 10)))
 cond (Nat.blt 3 (x0.size))
  (cond (decide ((((UInt8.toNat (List.getD (ByteArray.data x0).toList 3 0) : Nat) : Int) : Int) ≥ 48))
   (cond (decide ((((UInt8.toNat (List.getD (ByteArray.data x0).toList 3 0) : Nat) : Int) : Int) ≤ 57))
    (cond (Nat.beq (c10.1) 0)
     (k (0, (c10.2.1), 0))
     (cond (Nat.beq (c10.1) 1)
      (k (1, 0, (c10.2.2)))
      (k (2, 0, 0))))
    (cond (decide ((((UInt8.toNat (List.getD (ByteArray.data x0).toList 3 0) : Nat) : Int) : Int) ≥ 97))
     (cond (decide ((((UInt8.toNat (List.getD (ByteArray.data x0).toList 3 0) : Nat) : Int) : Int) ≤ 102))
      (cond (Nat.beq (c11.1) 0)
       (k (0, (c11.2.1), 0))
       (cond (Nat.beq (c11.1) 1)
        (k (1, 0, (c11.2.2)))
        (k (2, 0, 0))))
      (k (1, 0, x1)))
     (k (1, 0, x1))))
   (cond (decide ((((UInt8.toNat (List.getD (ByteArray.data x0).toList 3 0) : Nat) : Int) : Int) ≥ 97))
    (cond (decide ((((UInt8.toNat (List.getD (ByteArray.data x0).toList 3 0) : Nat) : Int) : Int) ≤ 102))
     (cond (Nat.beq (c11.1) 0)
      (k (0, (c11.2.1), 0))
      (cond (Nat.beq (c11.1) 1)
       (k (1, 0, (c11.2.2)))
       (k (2, 0, 0))))
     (k (1, 0, x1)))
    (k (1, 0, x1))))
  (k (2, 0, 0))
noncomputable def r78l0f (x0 : ByteArray) (x1 : Int) : Nat × Int × Int := w78l0f x0 x1 (fun p => p)
noncomputable def g78l0f (x0 : ByteArray) (x1 : Int) (p : Nat × Int × Int) : List (Bool × (Fin' × List Value × St)) := [((Nat.beq (p.1) 0), .exit 0, [anyV, anyV, .int .u32 (p.2.1)], st0), ((Nat.beq (p.1) 1), .ret, [vf 0, .bool false, .int .u32 (p.2.2)], st0)]
theorem p78l0f {α : Type} (x0 : ByteArray) (x1 : Int) (f : (Nat × Int × Int) → α) : w78l0f x0 x1 f = f (w78l0f x0 x1 (fun p => p)) := by unfold w78l0f; repeat' (first | refine cond_app f _ ?_ ?_ | rfl)
set_option maxRecDepth 100000 in
set_option maxHeartbeats 4000000 in
theorem e78l0f (x0 : ByteArray) (x1 : Int) : evC Tryz.prog ext T1 L78_5 200 (loopN Tryz.f78 0) (loopTail ([0, 4, 5], []) [2, 3, 4] [] (sumK 52 [0, 4, 5] [2, 3, 4] Q78l0e)) (frameOf 52 [0, 4, 5] [.string x0, .int .u32 x1, vi 3]) ⟨[], 0, []⟩ = firstT ((g78l0f x0 x1 (r78l0f x0 x1)).map fun (b, x) => (b, (x.1, frameOf 52 [2, 3, 4] x.2.1, x.2.2))) :=
 Eq.trans (by kernel_rfl) (p78l0f x0 x1 (fun p => firstT ((g78l0f x0 x1 p).map fun (b, x) => (b, (x.1, frameOf 52 [2, 3, 4] x.2.1, x.2.2)))))
noncomputable def Q78l0f : SumK := fun vals s =>
 match vals, s.h with
 | [.string x0, .int .u32 x1, .int .i64 f0], [] => if f0 = 3 then (g78l0f x0 x1 (r78l0f x0 x1)) else Q78l0e vals s
 | _, _ => Q78l0e vals s
set_option maxRecDepth 100000 in
set_option maxHeartbeats 4000000 in
theorem qok78l0f : SumKOk Tryz.prog (loopN Tryz.f78 0) 52 [0, 4, 5] [2, 3, 4] Q78l0f := by
  intro vals s x h1 h2 h3
  unfold Q78l0f at h3; split at h3
  · rename_i h; split at h3
    · rename_i hc; obtain ⟨rfl⟩ := hc; exact sum_step ok1 extOk mixed (lok78_5.inner (by kernel_rfl)) qok78l0e h1 h2 h (e78l0f _ _) rfl h3
    · exact qok78l0e _ _ _ h1 h2 h3
  · exact qok78l0e _ _ _ h1 h2 h3
noncomputable def L78_6 : LoopT := addL L78_5 6 ([0, 4, 5], []) (sumK 52 [0, 4, 5] [2, 3, 4] Q78l0f)
theorem lok78_6 : LfOkF Tryz.prog L78_6 Tryz.f78 := lfOkF_add lok78_5 qok78l0f (by kernel_rfl) (by kernel_rfl) (by kernel_rfl)

/-- spec.l01Read, loop 0 -/
noncomputable def w78l0g {α : Type} (x0 : ByteArray) (x1 : Int) (k : (Nat × Int × Int) → α) : α :=
 let c12 := (r78l0f x0 (IntKind.u32.wrap ((IntKind.u32.wrap (x1 * 16)) + (IntKind.u32.wrap (IntKind.u8.wrap (((UInt8.toNat (List.getD (ByteArray.data x0).toList 2 0) : Nat) : Int) - 48))))))
 let c13 := (r78l0f x0 (IntKind.u32.wrap ((IntKind.u32.wrap ((IntKind.u32.wrap (x1 * 16)) + (IntKind.u32.wrap (IntKind.u8.wrap (((UInt8.toNat (List.getD (ByteArray.data x0).toList 2 0) : Nat) : Int) - 97))))) + 10)))
 cond (Nat.blt 2 (x0.size))
  (cond (decide ((((UInt8.toNat (List.getD (ByteArray.data x0).toList 2 0) : Nat) : Int) : Int) ≥ 48))
   (cond (decide ((((UInt8.toNat (List.getD (ByteArray.data x0).toList 2 0) : Nat) : Int) : Int) ≤ 57))
    (cond (Nat.beq (c12.1) 0)
     (k (0, (c12.2.1), 0))
     (cond (Nat.beq (c12.1) 1)
      (k (1, 0, (c12.2.2)))
      (k (2, 0, 0))))
    (cond (decide ((((UInt8.toNat (List.getD (ByteArray.data x0).toList 2 0) : Nat) : Int) : Int) ≥ 97))
     (cond (decide ((((UInt8.toNat (List.getD (ByteArray.data x0).toList 2 0) : Nat) : Int) : Int) ≤ 102))
      (cond (Nat.beq (c13.1) 0)
       (k (0, (c13.2.1), 0))
       (cond (Nat.beq (c13.1) 1)
        (k (1, 0, (c13.2.2)))
        (k (2, 0, 0))))
      (k (1, 0, x1)))
     (k (1, 0, x1))))
   (cond (decide ((((UInt8.toNat (List.getD (ByteArray.data x0).toList 2 0) : Nat) : Int) : Int) ≥ 97))
    (cond (decide ((((UInt8.toNat (List.getD (ByteArray.data x0).toList 2 0) : Nat) : Int) : Int) ≤ 102))
     (cond (Nat.beq (c13.1) 0)
      (k (0, (c13.2.1), 0))
      (cond (Nat.beq (c13.1) 1)
       (k (1, 0, (c13.2.2)))
       (k (2, 0, 0))))
     (k (1, 0, x1)))
    (k (1, 0, x1))))
  (k (2, 0, 0))
noncomputable def r78l0g (x0 : ByteArray) (x1 : Int) : Nat × Int × Int := w78l0g x0 x1 (fun p => p)
noncomputable def g78l0g (x0 : ByteArray) (x1 : Int) (p : Nat × Int × Int) : List (Bool × (Fin' × List Value × St)) := [((Nat.beq (p.1) 0), .exit 0, [anyV, anyV, .int .u32 (p.2.1)], st0), ((Nat.beq (p.1) 1), .ret, [vf 0, .bool false, .int .u32 (p.2.2)], st0)]
theorem p78l0g {α : Type} (x0 : ByteArray) (x1 : Int) (f : (Nat × Int × Int) → α) : w78l0g x0 x1 f = f (w78l0g x0 x1 (fun p => p)) := by unfold w78l0g; repeat' (first | refine cond_app f _ ?_ ?_ | rfl)
set_option maxRecDepth 100000 in
set_option maxHeartbeats 4000000 in
theorem e78l0g (x0 : ByteArray) (x1 : Int) : evC Tryz.prog ext T1 L78_6 200 (loopN Tryz.f78 0) (loopTail ([0, 4, 5], []) [2, 3, 4] [] (sumK 52 [0, 4, 5] [2, 3, 4] Q78l0f)) (frameOf 52 [0, 4, 5] [.string x0, .int .u32 x1, vi 2]) ⟨[], 0, []⟩ = firstT ((g78l0g x0 x1 (r78l0g x0 x1)).map fun (b, x) => (b, (x.1, frameOf 52 [2, 3, 4] x.2.1, x.2.2))) :=
 Eq.trans (by kernel_rfl) (p78l0g x0 x1 (fun p => firstT ((g78l0g x0 x1 p).map fun (b, x) => (b, (x.1, frameOf 52 [2, 3, 4] x.2.1, x.2.2)))))
noncomputable def Q78l0g : SumK := fun vals s =>
 match vals, s.h with
 | [.string x0, .int .u32 x1, .int .i64 f0], [] => if f0 = 2 then (g78l0g x0 x1 (r78l0g x0 x1)) else Q78l0f vals s
 | _, _ => Q78l0f vals s
set_option maxRecDepth 100000 in
set_option maxHeartbeats 4000000 in
theorem qok78l0g : SumKOk Tryz.prog (loopN Tryz.f78 0) 52 [0, 4, 5] [2, 3, 4] Q78l0g := by
  intro vals s x h1 h2 h3
  unfold Q78l0g at h3; split at h3
  · rename_i h; split at h3
    · rename_i hc; obtain ⟨rfl⟩ := hc; exact sum_step ok1 extOk mixed (lok78_6.inner (by kernel_rfl)) qok78l0f h1 h2 h (e78l0g _ _) rfl h3
    · exact qok78l0f _ _ _ h1 h2 h3
  · exact qok78l0f _ _ _ h1 h2 h3
noncomputable def L78_7 : LoopT := addL L78_6 6 ([0, 4, 5], []) (sumK 52 [0, 4, 5] [2, 3, 4] Q78l0g)
theorem lok78_7 : LfOkF Tryz.prog L78_7 Tryz.f78 := lfOkF_add lok78_6 qok78l0g (by kernel_rfl) (by kernel_rfl) (by kernel_rfl)

/-- spec.l01Read, loop 0 -/
noncomputable def w78l0h {α : Type} (x0 : ByteArray) (x1 : Int) (k : (Nat × Int × Int) → α) : α :=
 let c14 := (r78l0g x0 (IntKind.u32.wrap ((IntKind.u32.wrap (x1 * 16)) + (IntKind.u32.wrap (IntKind.u8.wrap (((UInt8.toNat (List.getD (ByteArray.data x0).toList 1 0) : Nat) : Int) - 48))))))
 let c15 := (r78l0g x0 (IntKind.u32.wrap ((IntKind.u32.wrap ((IntKind.u32.wrap (x1 * 16)) + (IntKind.u32.wrap (IntKind.u8.wrap (((UInt8.toNat (List.getD (ByteArray.data x0).toList 1 0) : Nat) : Int) - 97))))) + 10)))
 cond (Nat.blt 1 (x0.size))
  (cond (decide ((((UInt8.toNat (List.getD (ByteArray.data x0).toList 1 0) : Nat) : Int) : Int) ≥ 48))
   (cond (decide ((((UInt8.toNat (List.getD (ByteArray.data x0).toList 1 0) : Nat) : Int) : Int) ≤ 57))
    (cond (Nat.beq (c14.1) 0)
     (k (0, (c14.2.1), 0))
     (cond (Nat.beq (c14.1) 1)
      (k (1, 0, (c14.2.2)))
      (k (2, 0, 0))))
    (cond (decide ((((UInt8.toNat (List.getD (ByteArray.data x0).toList 1 0) : Nat) : Int) : Int) ≥ 97))
     (cond (decide ((((UInt8.toNat (List.getD (ByteArray.data x0).toList 1 0) : Nat) : Int) : Int) ≤ 102))
      (cond (Nat.beq (c15.1) 0)
       (k (0, (c15.2.1), 0))
       (cond (Nat.beq (c15.1) 1)
        (k (1, 0, (c15.2.2)))
        (k (2, 0, 0))))
      (k (1, 0, x1)))
     (k (1, 0, x1))))
   (cond (decide ((((UInt8.toNat (List.getD (ByteArray.data x0).toList 1 0) : Nat) : Int) : Int) ≥ 97))
    (cond (decide ((((UInt8.toNat (List.getD (ByteArray.data x0).toList 1 0) : Nat) : Int) : Int) ≤ 102))
     (cond (Nat.beq (c15.1) 0)
      (k (0, (c15.2.1), 0))
      (cond (Nat.beq (c15.1) 1)
       (k (1, 0, (c15.2.2)))
       (k (2, 0, 0))))
     (k (1, 0, x1)))
    (k (1, 0, x1))))
  (k (2, 0, 0))
noncomputable def r78l0h (x0 : ByteArray) (x1 : Int) : Nat × Int × Int := w78l0h x0 x1 (fun p => p)
noncomputable def g78l0h (x0 : ByteArray) (x1 : Int) (p : Nat × Int × Int) : List (Bool × (Fin' × List Value × St)) := [((Nat.beq (p.1) 0), .exit 0, [anyV, anyV, .int .u32 (p.2.1)], st0), ((Nat.beq (p.1) 1), .ret, [vf 0, .bool false, .int .u32 (p.2.2)], st0)]
theorem p78l0h {α : Type} (x0 : ByteArray) (x1 : Int) (f : (Nat × Int × Int) → α) : w78l0h x0 x1 f = f (w78l0h x0 x1 (fun p => p)) := by unfold w78l0h; repeat' (first | refine cond_app f _ ?_ ?_ | rfl)
set_option maxRecDepth 100000 in
set_option maxHeartbeats 4000000 in
theorem e78l0h (x0 : ByteArray) (x1 : Int) : evC Tryz.prog ext T1 L78_7 200 (loopN Tryz.f78 0) (loopTail ([0, 4, 5], []) [2, 3, 4] [] (sumK 52 [0, 4, 5] [2, 3, 4] Q78l0g)) (frameOf 52 [0, 4, 5] [.string x0, .int .u32 x1, vi 1]) ⟨[], 0, []⟩ = firstT ((g78l0h x0 x1 (r78l0h x0 x1)).map fun (b, x) => (b, (x.1, frameOf 52 [2, 3, 4] x.2.1, x.2.2))) :=
 Eq.trans (by kernel_rfl) (p78l0h x0 x1 (fun p => firstT ((g78l0h x0 x1 p).map fun (b, x) => (b, (x.1, frameOf 52 [2, 3, 4] x.2.1, x.2.2)))))
noncomputable def Q78l0h : SumK := fun vals s =>
 match vals, s.h with
 | [.string x0, .int .u32 x1, .int .i64 f0], [] => if f0 = 1 then (g78l0h x0 x1 (r78l0h x0 x1)) else Q78l0g vals s
 | _, _ => Q78l0g vals s
set_option maxRecDepth 100000 in
set_option maxHeartbeats 4000000 in
theorem qok78l0h : SumKOk Tryz.prog (loopN Tryz.f78 0) 52 [0, 4, 5] [2, 3, 4] Q78l0h := by
  intro vals s x h1 h2 h3
  unfold Q78l0h at h3; split at h3
  · rename_i h; split at h3
    · rename_i hc; obtain ⟨rfl⟩ := hc; exact sum_step ok1 extOk mixed (lok78_7.inner (by kernel_rfl)) qok78l0g h1 h2 h (e78l0h _ _) rfl h3
    · exact qok78l0g _ _ _ h1 h2 h3
  · exact qok78l0g _ _ _ h1 h2 h3
noncomputable def L78_8 : LoopT := addL L78_7 6 ([0, 4, 5], []) (sumK 52 [0, 4, 5] [2, 3, 4] Q78l0h)
theorem lok78_8 : LfOkF Tryz.prog L78_8 Tryz.f78 := lfOkF_add lok78_7 qok78l0h (by kernel_rfl) (by kernel_rfl) (by kernel_rfl)

/-- spec.l01Read, loop 0 -/
noncomputable def w78l0i {α : Type} (x0 : ByteArray) (k : (Nat × Int × Int) → α) : α :=
 let c16 := (r78l0h x0 (IntKind.u32.wrap (0 + (IntKind.u32.wrap (IntKind.u8.wrap (((UInt8.toNat (List.getD (ByteArray.data x0).toList 0 0) : Nat) : Int) - 48))))))
 let c17 := (r78l0h x0 (IntKind.u32.wrap ((IntKind.u32.wrap (0 + (IntKind.u32.wrap (IntKind.u8.wrap (((UInt8.toNat (List.getD (ByteArray.data x0).toList 0 0) : Nat) : Int) - 97))))) + 10)))
 cond (Nat.blt 0 (x0.size))
  (cond (decide ((((UInt8.toNat (List.getD (ByteArray.data x0).toList 0 0) : Nat) : Int) : Int) ≥ 48))
   (cond (decide ((((UInt8.toNat (List.getD (ByteArray.data x0).toList 0 0) : Nat) : Int) : Int) ≤ 57))
    (cond (Nat.beq (c16.1) 0)
     (k (0, (c16.2.1), 0))
     (cond (Nat.beq (c16.1) 1)
      (k (1, 0, (c16.2.2)))
      (k (2, 0, 0))))
    (cond (decide ((((UInt8.toNat (List.getD (ByteArray.data x0).toList 0 0) : Nat) : Int) : Int) ≥ 97))
     (cond (decide ((((UInt8.toNat (List.getD (ByteArray.data x0).toList 0 0) : Nat) : Int) : Int) ≤ 102))
      (cond (Nat.beq (c17.1) 0)
       (k (0, (c17.2.1), 0))
       (cond (Nat.beq (c17.1) 1)
        (k (1, 0, (c17.2.2)))
        (k (2, 0, 0))))
      (k (1, 0, 0)))
     (k (1, 0, 0))))
   (cond (decide ((((UInt8.toNat (List.getD (ByteArray.data x0).toList 0 0) : Nat) : Int) : Int) ≥ 97))
    (cond (decide ((((UInt8.toNat (List.getD (ByteArray.data x0).toList 0 0) : Nat) : Int) : Int) ≤ 102))
     (cond (Nat.beq (c17.1) 0)
      (k (0, (c17.2.1), 0))
      (cond (Nat.beq (c17.1) 1)
       (k (1, 0, (c17.2.2)))
       (k (2, 0, 0))))
     (k (1, 0, 0)))
    (k (1, 0, 0))))
  (k (2, 0, 0))
noncomputable def r78l0i (x0 : ByteArray) : Nat × Int × Int := w78l0i x0 (fun p => p)
noncomputable def g78l0i (x0 : ByteArray) (p : Nat × Int × Int) : List (Bool × (Fin' × List Value × St)) := [((Nat.beq (p.1) 0), .exit 0, [anyV, anyV, .int .u32 (p.2.1)], st0), ((Nat.beq (p.1) 1), .ret, [vf 0, .bool false, .int .u32 (p.2.2)], st0)]
theorem p78l0i {α : Type} (x0 : ByteArray) (f : (Nat × Int × Int) → α) : w78l0i x0 f = f (w78l0i x0 (fun p => p)) := by unfold w78l0i; repeat' (first | refine cond_app f _ ?_ ?_ | rfl)
set_option maxRecDepth 100000 in
set_option maxHeartbeats 4000000 in
theorem e78l0i (x0 : ByteArray) : evC Tryz.prog ext T1 L78_8 200 (loopN Tryz.f78 0) (loopTail ([0, 4, 5], []) [2, 3, 4] [] (sumK 52 [0, 4, 5] [2, 3, 4] Q78l0h)) (frameOf 52 [0, 4, 5] [.string x0, .int .u32 0, vi 0]) ⟨[], 0, []⟩ = firstT ((g78l0i x0 (r78l0i x0)).map fun (b, x) => (b, (x.1, frameOf 52 [2, 3, 4] x.2.1, x.2.2))) :=
 Eq.trans (by kernel_rfl) (p78l0i x0 (fun p => firstT ((g78l0i x0 p).map fun (b, x) => (b, (x.1, frameOf 52 [2, 3, 4] x.2.1, x.2.2)))))
noncomputable def Q78l0i : SumK := fun vals s =>
 match vals, s.h with
 | [.string x0, .int .u32 f0, .int .i64 f1], [] => if f0 = 0 ∧ f1 = 0 then (g78l0i x0 (r78l0i x0)) else Q78l0h vals s
 | _, _ => Q78l0h vals s
set_option maxRecDepth 100000 in
set_option maxHeartbeats 4000000 in
theorem qok78l0i : SumKOk Tryz.prog (loopN Tryz.f78 0) 52 [0, 4, 5] [2, 3, 4] Q78l0i := by
  intro vals s x h1 h2 h3
  unfold Q78l0i at h3; split at h3
  · rename_i h; split at h3
    · rename_i hc; obtain ⟨rfl, rfl⟩ := hc; exact sum_step ok1 extOk mixed (lok78_8.inner (by kernel_rfl)) qok78l0h h1 h2 h (e78l0i _) rfl h3
    · exact qok78l0h _ _ _ h1 h2 h3
  · exact qok78l0h _ _ _ h1 h2 h3
noncomputable def L78_9 : LoopT := addL L78_8 6 ([0, 4, 5], []) (sumK 52 [0, 4, 5] [2, 3, 4] Q78l0i)
theorem lok78_9 : LfOkF Tryz.prog L78_9 Tryz.f78 := lfOkF_add lok78_8 qok78l0i (by kernel_rfl) (by kernel_rfl) (by kernel_rfl)

/-- spec.l01Bits -/
noncomputable def r119 (x0 : Nat) : Int :=
 cond (!feq .f32 x0 x0)
  (2143289344)
  (((x0 : Nat) : Int))
noncomputable def a119 (x0 : Nat) (p : Int) : Res := firstT [(true, .int .u32 p, st0)]
noncomputable def w119 (x0 : Nat) : Res :=
 (cond (!feq .f32 x0 x0)
 (a119 x0 (2143289344))
 (cond (!isN .f32 x0)
  (a119 x0 (((x0 : Nat) : Int)))
  (some (nanBits .f32, st0))))
set_option maxRecDepth 100000 in
set_option maxHeartbeats 4000000 in
theorem e119 (x0 : Nat) : evFn Tryz.prog ext T1 noL 200 Tryz.f119 [vf x0] st0 = firstT [(true, .int .u32 (r119 x0), st0)] :=
 (show evFn Tryz.prog ext T1 noL 200 Tryz.f119 [vf x0] st0 = w119 x0 from by kernel_rfl).trans
 (show w119 x0 = a119 x0 (r119 x0) from by unfold w119 r119; exact (cond_both (a119 x0) _ (fun h0 => rfl) (fun h0 => (cond_t (ev_not1 (ev_eq1 (ev_notf h0))) rfl))))
noncomputable def s119 (args : List Value) (s : St) : List (Bool × Value × St) :=
 match args, s.h with
 | [.float .f32 x0], [] => [(true, .int .u32 (r119 x0), st0)]
 | _, _ => T1 119 args s
noncomputable def T2 : CallF := addF T1 119 s119
set_option maxRecDepth 100000 in
set_option maxHeartbeats 4000000 in
theorem ok2 : CfOk Tryz.prog T2 := by
  refine cfOk_add ok1 fun args s r s' h1 h2 h3 => ?_
  unfold s119 at h3; split at h3
  · rename_i h; exact callOk ok1 Tryz.func119 h1 h2 h (lfOkF_no _ _).body (e119 _) rfl h3
  · exact ok1 _ _ _ _ _ h1 h2 h3

/-- spec.l01Read -/
noncomputable def w78 {α : Type} (x0 : ByteArray) (k : (Nat × Nat × Bool) → α) : α :=
 cond (((((x0.size) : Nat) : Int) : Int) != 8)
  (k (0, 0, false))
  (cond (Nat.beq ((r78l0i x0).1) 0)
   (k (0, (Int.toNat ((r78l0i x0).2.1)), (((r119 (Int.toNat ((r78l0i x0).2.1))) : Int) == ((r78l0i x0).2.1))))
   (cond (Nat.beq ((r78l0i x0).1) 1)
    (k (0, 0, false))
    (k (1, 0, false))))
noncomputable def r78 (x0 : ByteArray) : Nat × Nat × Bool := w78 x0 (fun p => p)
noncomputable def g78 (x0 : ByteArray) (p : Nat × Nat × Bool) : List (Bool × Value × St) := [((Nat.beq (p.1) 0), .tuple #[vf (p.2.1), .bool (p.2.2)], st0)]
theorem p78 {α : Type} (x0 : ByteArray) (f : (Nat × Nat × Bool) → α) : w78 x0 f = f (w78 x0 (fun p => p)) := by unfold w78; exact (cond_app f _ rfl (cond_app f _ rfl (cond_app f _ rfl rfl)))
set_option maxRecDepth 100000 in
set_option maxHeartbeats 4000000 in
theorem e78 (x0 : ByteArray) : evFn Tryz.prog ext T2 L78_9 200 Tryz.f78 [.string x0] st0 = firstT (g78 x0 (r78 x0)) :=
 Eq.trans (by kernel_rfl) (p78 x0 (fun p => firstT (g78 x0 p)))
noncomputable def s78 (args : List Value) (s : St) : List (Bool × Value × St) :=
 match args, s.h with
 | [.string x0], [] => (g78 x0 (r78 x0))
 | _, _ => T2 78 args s
noncomputable def T3 : CallF := addF T2 78 s78
set_option maxRecDepth 100000 in
set_option maxHeartbeats 4000000 in
theorem ok3 : CfOk Tryz.prog T3 := by
  refine cfOk_add ok2 fun args s r s' h1 h2 h3 => ?_
  unfold s78 at h3; split at h3
  · rename_i h; exact callOk ok2 Tryz.func78 h1 h2 h lok78_9.body (e78 _) rfl h3
  · exact ok2 _ _ _ _ _ h1 h2 h3

/-- spec.l01Numbers -/
noncomputable def w32 {α : Type} (x0 : Nat) (x1 : List ByteArray) (k : (Nat × Nat × Nat × Nat × Nat) → α) : α :=
 cond (Nat.blt 0 x1.length)
  (cond (Nat.beq ((r78 (x1.getD 0 .empty)).1) 0)
   (cond (!((r78 (x1.getD 0 .empty)).2.2))
    (k (0, 0, 0, 0, 0))
    (cond (Nat.blt 1 x1.length)
     (cond (Nat.beq ((r78 (x1.getD 1 .empty)).1) 0)
      (cond (!((r78 (x1.getD 1 .empty)).2.2))
       (k (0, 0, 0, 0, 0))
       (cond (Nat.blt 2 x1.length)
        (cond (Nat.beq ((r78 (x1.getD 2 .empty)).1) 0)
         (cond (!((r78 (x1.getD 2 .empty)).2.2))
          (k (0, 0, 0, 0, 0))
          (cond (Nat.blt 3 x1.length)
           (cond (Nat.beq ((r78 (x1.getD 3 .empty)).1) 0)
            (cond (!((r78 (x1.getD 3 .empty)).2.2))
             (k (0, 0, 0, 0, 0))
             (k (1, ((r78 (x1.getD 0 .empty)).2.1), ((r78 (x1.getD 1 .empty)).2.1), ((r78 (x1.getD 2 .empty)).2.1), ((r78 (x1.getD 3 .empty)).2.1))))
            (k (2, 0, 0, 0, 0)))
           (k (2, 0, 0, 0, 0))))
         (k (2, 0, 0, 0, 0)))
        (k (2, 0, 0, 0, 0))))
      (k (2, 0, 0, 0, 0)))
     (k (2, 0, 0, 0, 0))))
   (k (2, 0, 0, 0, 0)))
  (k (2, 0, 0, 0, 0))
noncomputable def r32 (x0 : Nat) (x1 : List ByteArray) : Nat × Nat × Nat × Nat × Nat := w32 x0 x1 (fun p => p)
noncomputable def g32 (x0 : Nat) (x1 : List ByteArray) (p : Nat × Nat × Nat × Nat × Nat) : List (Bool × Value × St) := [((Nat.beq (p.1) 0), .tuple #[wsl 1, .bool false], ⟨[⟨true, (some (.strs x1))⟩, ⟨true, (some (.tab [.fl .f32] ([] : List (List Int))))⟩], 1, []⟩), ((Nat.beq (p.1) 1), .tuple #[wsl 1, .bool true], ⟨[⟨true, (some (.strs x1))⟩, ⟨true, (some (.tab [.fl .f32] ([[(((p.2.1) : Nat) : Int)], [(((p.2.2.1) : Nat) : Int)], [(((p.2.2.2.1) : Nat) : Int)], [(((p.2.2.2.2) : Nat) : Int)]] : List (List Int))))⟩], 1, []⟩)]
theorem p32 {α : Type} (x0 : Nat) (x1 : List ByteArray) (f : (Nat × Nat × Nat × Nat × Nat) → α) : w32 x0 x1 f = f (w32 x0 x1 (fun p => p)) := by unfold w32; repeat' (first | refine cond_app f _ ?_ ?_ | rfl)
set_option maxRecDepth 100000 in
set_option maxHeartbeats 4000000 in
theorem e32 (x0 : Nat) (x1 : List ByteArray) : evFn Tryz.prog ext T3 noL 200 Tryz.f32 [.slice (some ⟨0, 0, some 0⟩) 4 x0] ⟨[⟨true, (some (.strs x1))⟩], 1, []⟩ = firstT (g32 x0 x1 (r32 x0 x1)) :=
 Eq.trans (by kernel_rfl) (p32 x0 x1 (fun p => firstT (g32 x0 x1 p)))
noncomputable def s32 (args : List Value) (s : St) : List (Bool × Value × St) :=
 match args, s.h with
 | [.slice (some ⟨f0, f1, some f2⟩) f3 x0], [⟨true, some (.strs x1)⟩] => if f0 = 0 ∧ f1 = 0 ∧ f2 = 0 ∧ f3 = 4 then (g32 x0 x1 (r32 x0 x1)) else T3 32 args s
 | _, _ => T3 32 args s
noncomputable def T4 : CallF := addF T3 32 s32
set_option maxRecDepth 100000 in
set_option maxHeartbeats 4000000 in
theorem ok4 : CfOk Tryz.prog T4 := by
  refine cfOk_add ok3 fun args s r s' h1 h2 h3 => ?_
  unfold s32 at h3; split at h3
  · rename_i h; split at h3
    · rename_i hc; obtain ⟨rfl, rfl, rfl, rfl⟩ := hc; exact callOk ok3 Tryz.func32 h1 h2 h (lfOkF_no _ _).body (e32 _ _) rfl h3
    · exact ok3 _ _ _ _ _ h1 h2 h3
  · exact ok3 _ _ _ _ _ h1 h2 h3

/-- spec.l01Number, loop 0: one round -/
noncomputable def b33l0 (ih : ByteArray → Int → Int → (Nat × Int × Int)) (x0 : ByteArray) (x1 x2 : Int) : Nat × Int × Int :=
 cond (decide ((x2 : Int) < (((x0.size) : Nat) : Int)))
  (cond ((decide ((0 : Int) ≤ x2)) && (Nat.blt (Int.toNat x2) (x0.size)))
   (cond (decide ((((UInt8.toNat (List.getD (ByteArray.data x0).toList (Int.toNat x2) 0) : Nat) : Int) : Int) < 48))
    (0, x1, 0)
    (cond (decide ((((UInt8.toNat (List.getD (ByteArray.data x0).toList (Int.toNat x2) 0) : Nat) : Int) : Int) > 57))
     (0, x1, 0)
     (ih x0 (IntKind.i64.wrap ((IntKind.i64.wrap (x1 * 10)) + (IntKind.i64.wrap (IntKind.u8.wrap (((UInt8.toNat (List.getD (ByteArray.data x0).toList (Int.toNat x2) 0) : Nat) : Int) - 48))))) (IntKind.i64.wrap (x2 + 1)))))
   (2, 0, 0))
  (1, 0, x1)
noncomputable def r33l0 : Nat → ByteArray → Int → Int → (Nat × Int × Int)
 | 0 => fun _ _ _ => (2, 0, 0)
 | m + 1 => b33l0 (r33l0 m)
noncomputable def a33l0 (x0 : ByteArray) (x1 x2 : Int) (p : Nat × Int × Int) : Option (Fin' × List Value × St) := firstT ([((Nat.beq (p.1) 0), .ret, [vi 0, .bool false, vi (p.2.1)], st0), ((Nat.beq (p.1) 1), .exit 0, [anyV, anyV, vi (p.2.2)], st0)].map fun (b, x) => (b, (x.1, frameOf 49 [2, 3, 4] x.2.1, x.2.2)))
noncomputable def u33l0 (x0 : ByteArray) (x1 x2 : Int) (p : Nat × Int × Int) : Option (Fin' × List Value × St) := alts ([((Nat.beq (p.1) 0), .ret, [vi 0, .bool false, vi (p.2.1)], st0), ((Nat.beq (p.1) 1), .exit 0, [anyV, anyV, vi (p.2.2)], st0)].map fun (b, x) => (b, (x.1, frameOf 49 [2, 3, 4] x.2.1, x.2.2))) some
theorem v33l0 (x0 : ByteArray) (x1 x2 : Int) (p : Nat × Int × Int) : u33l0 x0 x1 x2 p = a33l0 x0 x1 x2 p := alts_first _
noncomputable def q33l0 (m : Nat) : SumK := fun vals s =>
 match vals, s.h with
 | [.string x0, .int .i64 x1, .int .i64 x2], [] => [((Nat.beq ((r33l0 m x0 x1 x2).1) 0), .ret, [vi 0, .bool false, vi ((r33l0 m x0 x1 x2).2.1)], st0), ((Nat.beq ((r33l0 m x0 x1 x2).1) 1), .exit 0, [anyV, anyV, vi ((r33l0 m x0 x1 x2).2.2)], st0)]
 | _, _ => noQ vals s
noncomputable def w33l0 (ih : ByteArray → Int → Int → (Nat × Int × Int)) (x0 : ByteArray) (x1 x2 : Int) : Option (Fin' × List Value × St) :=
 (cond (decide ((x2 : Int) < (((x0.size) : Nat) : Int)))
 (cond ((decide ((0 : Int) ≤ x2)) && (Nat.blt (Int.toNat x2) (x0.size)))
  (cond (decide ((((UInt8.toNat (List.getD (ByteArray.data x0).toList (Int.toNat x2) 0) : Nat) : Int) : Int) < 48))
   (a33l0 x0 x1 x2 (0, x1, 0))
   (cond ((decide ((0 : Int) ≤ x2)) && (Nat.blt (Int.toNat x2) (x0.size)))
    (cond (decide ((((UInt8.toNat (List.getD (ByteArray.data x0).toList (Int.toNat x2) 0) : Nat) : Int) : Int) > 57))
     (a33l0 x0 x1 x2 (0, x1, 0))
     (cond ((decide ((0 : Int) ≤ x2)) && (Nat.blt (Int.toNat x2) (x0.size)))
      (u33l0 x0 x1 x2 (ih x0 (IntKind.i64.wrap ((IntKind.i64.wrap (x1 * 10)) + (IntKind.i64.wrap (IntKind.u8.wrap (((UInt8.toNat (List.getD (ByteArray.data x0).toList (Int.toNat x2) 0) : Nat) : Int) - 48))))) (IntKind.i64.wrap (x2 + 1))))
      none))
    none))
  none)
 (a33l0 x0 x1 x2 (1, 0, x1)))
set_option maxRecDepth 100000 in
set_option maxHeartbeats 4000000 in
theorem e33l0 (m : Nat) (x0 : ByteArray) (x1 x2 : Int) : evC Tryz.prog ext T4 noL 200 (loopN Tryz.f33 0) (loopTail ([0, 4, 5], []) [2, 3, 4] [] (sumK 49 [0, 4, 5] [2, 3, 4] (q33l0 m))) (frameOf 49 [0, 4, 5] [.string x0, vi x1, vi x2]) ⟨[], 0, []⟩ = firstT ([((Nat.beq ((r33l0 (m + 1) x0 x1 x2).1) 0), .ret, [vi 0, .bool false, vi ((r33l0 (m + 1) x0 x1 x2).2.1)], st0), ((Nat.beq ((r33l0 (m + 1) x0 x1 x2).1) 1), .exit 0, [anyV, anyV, vi ((r33l0 (m + 1) x0 x1 x2).2.2)], st0)].map fun (b, x) => (b, (x.1, frameOf 49 [2, 3, 4] x.2.1, x.2.2))) :=
 (show evC Tryz.prog ext T4 noL 200 (loopN Tryz.f33 0) (loopTail ([0, 4, 5], []) [2, 3, 4] [] (sumK 49 [0, 4, 5] [2, 3, 4] (q33l0 m))) (frameOf 49 [0, 4, 5] [.string x0, vi x1, vi x2]) ⟨[], 0, []⟩ = w33l0 (r33l0 m) x0 x1 x2 from by kernel_rfl).trans
 (show w33l0 (r33l0 m) x0 x1 x2 = a33l0 x0 x1 x2 (r33l0 (m + 1) x0 x1 x2) from by unfold w33l0; show _ = a33l0 x0 x1 x2 (b33l0 (r33l0 m) x0 x1 x2); unfold b33l0; exact (cond_both (a33l0 x0 x1 x2) _ (fun h0 => (cond_both (a33l0 x0 x1 x2) _ (fun h1 => (cond_both (a33l0 x0 x1 x2) _ (fun h2 => rfl) (fun h2 => (cond_t h1 (cond_both (a33l0 x0 x1 x2) _ (fun h3 => rfl) (fun h3 => (cond_t h1 (v33l0 x0 x1 x2 ((r33l0 m) x0 (IntKind.i64.wrap ((IntKind.i64.wrap (x1 * 10)) + (IntKind.i64.wrap (IntKind.u8.wrap (((UInt8.toNat (List.getD (ByteArray.data x0).toList (Int.toNat x2) 0) : Nat) : Int) - 48))))) (IntKind.i64.wrap (x2 + 1))))))))))) (fun h1 => rfl))) (fun h0 => rfl)))
set_option maxRecDepth 100000 in
set_option maxHeartbeats 4000000 in
theorem qm33l0 : ∀ m, SumKOk Tryz.prog (loopN Tryz.f33 0) 49 [0, 4, 5] [2, 3, 4] (q33l0 m) := by
  intro m
  induction m with
  | zero =>
    intro vals s x h1 h2 h3
    unfold q33l0 at h3; split at h3
    · rename_i h; exact absurd h3 (by simp [r33l0, firstT, Nat.beq])
    · exact noQ_ok _ _ _ h1 h2 h3
  | succ m ih =>
    intro vals s x h1 h2 h3
    unfold q33l0 at h3; split at h3
    · rename_i h; exact sum_step ok4 extOk mixed ((lfOkF_no _ _).inner (by kernel_rfl)) ih h1 h2 h (e33l0 m _ _ _) rfl h3
    · exact noQ_ok _ _ _ h1 h2 h3
noncomputable def Q33l0 : SumK := fun vals s => q33l0 (fuelOf vals s.h) vals s
theorem qok33l0 : SumKOk Tryz.prog (loopN Tryz.f33 0) 49 [0, 4, 5] [2, 3, 4] Q33l0 := fuel_ok qm33l0 fuelOf
noncomputable def L33_1 : LoopT := addL noL 6 ([0, 4, 5], []) (sumK 49 [0, 4, 5] [2, 3, 4] Q33l0)
theorem lok33_1 : LfOkF Tryz.prog L33_1 Tryz.f33 := lfOkF_add (lfOkF_no _ _) qok33l0 (by kernel_rfl) (by kernel_rfl) (by kernel_rfl)

/-- spec.l01Number -/
noncomputable def w33 {α : Type} (x0 : ByteArray) (k : (Nat × Int × Bool) → α) : α :=
 cond (decide (((((x0.size) : Nat) : Int) : Int) < 1))
  (k (0, 0, false))
  (cond (decide (((((x0.size) : Nat) : Int) : Int) > 9))
   (k (0, 0, false))
   (cond (Nat.blt 0 (x0.size))
    (cond ((((UInt8.toNat (List.getD (ByteArray.data x0).toList 0 0) : Nat) : Int) : Int) == 48)
     (cond (decide (((((x0.size) : Nat) : Int) : Int) > 1))
      (k (0, 0, false))
      (cond (Nat.beq ((r33l0 (1000 + (x0.size)) x0 0 0).1) 0)
       (k (0, 0, false))
       (cond (Nat.beq ((r33l0 (1000 + (x0.size)) x0 0 0).1) 1)
        (k (0, ((r33l0 (1000 + (x0.size)) x0 0 0).2.2), true))
        (k (1, 0, false)))))
     (cond (Nat.beq ((r33l0 (1000 + (x0.size)) x0 0 0).1) 0)
      (k (0, 0, false))
      (cond (Nat.beq ((r33l0 (1000 + (x0.size)) x0 0 0).1) 1)
       (k (0, ((r33l0 (1000 + (x0.size)) x0 0 0).2.2), true))
       (k (1, 0, false)))))
    (k (1, 0, false))))
noncomputable def r33 (x0 : ByteArray) : Nat × Int × Bool := w33 x0 (fun p => p)
noncomputable def g33 (x0 : ByteArray) (p : Nat × Int × Bool) : List (Bool × Value × St) := [((Nat.beq (p.1) 0), .tuple #[vi (p.2.1), .bool (p.2.2)], st0)]
theorem p33 {α : Type} (x0 : ByteArray) (f : (Nat × Int × Bool) → α) : w33 x0 f = f (w33 x0 (fun p => p)) := by unfold w33; repeat' (first | refine cond_app f _ ?_ ?_ | rfl)
set_option maxRecDepth 100000 in
set_option maxHeartbeats 4000000 in
theorem e33 (x0 : ByteArray) : evFn Tryz.prog ext T4 L33_1 200 Tryz.f33 [.string x0] st0 = firstT (g33 x0 (r33 x0)) :=
 Eq.trans (by kernel_rfl) (p33 x0 (fun p => firstT (g33 x0 p)))
noncomputable def s33 (args : List Value) (s : St) : List (Bool × Value × St) :=
 match args, s.h with
 | [.string x0], [] => (g33 x0 (r33 x0))
 | _, _ => T4 33 args s
noncomputable def T5 : CallF := addF T4 33 s33
set_option maxRecDepth 100000 in
set_option maxHeartbeats 4000000 in
theorem ok5 : CfOk Tryz.prog T5 := by
  refine cfOk_add ok4 fun args s r s' h1 h2 h3 => ?_
  unfold s33 at h3; split at h3
  · rename_i h; exact callOk ok4 Tryz.func33 h1 h2 h lok33_1.body (e33 _) rfl h3
  · exact ok4 _ _ _ _ _ h1 h2 h3

/-- spec.l01Numbers -/
noncomputable def w32b {α : Type} (k : Unit → α) : α :=
 k ()
noncomputable def r32b : Unit := w32b (fun p => p)
noncomputable def g32b (p : Unit) : List (Bool × Value × St) := [(true, .tuple #[wsl 0, .bool true], ⟨[⟨true, (some (.tab [.fl .f32] ([] : List (List Int))))⟩], 0, []⟩)]
theorem p32b {α : Type} (f : Unit → α) : w32b f = f (w32b (fun p => p)) := by unfold w32b; exact rfl
set_option maxRecDepth 100000 in
set_option maxHeartbeats 4000000 in
theorem e32b : evFn Tryz.prog ext T5 noL 200 Tryz.f32 [.iface 0 (.slice none 0 0)] st0 = firstT (g32b r32b) :=
 Eq.trans (by kernel_rfl) (p32b (fun p => firstT (g32b p)))
noncomputable def s32b (args : List Value) (s : St) : List (Bool × Value × St) :=
 match args, s.h with
 | [.iface f0 (.slice none f1 f2)], [] => if f0 = 0 ∧ f1 = 0 ∧ f2 = 0 then (g32b r32b) else T5 32 args s
 | _, _ => T5 32 args s
noncomputable def T6 : CallF := addF T5 32 s32b
set_option maxRecDepth 100000 in
set_option maxHeartbeats 4000000 in
theorem ok6 : CfOk Tryz.prog T6 := by
  refine cfOk_add ok5 fun args s r s' h1 h2 h3 => ?_
  unfold s32b at h3; split at h3
  · rename_i h; split at h3
    · rename_i hc; obtain ⟨rfl, rfl, rfl⟩ := hc; exact callOk ok5 Tryz.func32 h1 h2 h (lfOkF_no _ _).body (e32b) rfl h3
    · exact ok5 _ _ _ _ _ h1 h2 h3
  · exact ok5 _ _ _ _ _ h1 h2 h3

/-- spec.ReadChimney, loop 0: one round -/
noncomputable def b6l0 (ih : Int → Int → List ByteArray → List (List Int) → (Nat × List (List Int) × List (List Int))) (x0 x1 : Int) (x2 : List ByteArray) (x3 : List (List Int)) : Nat × List (List Int) × List (List Int) :=
 let c35 := (r32 (((r31 (x2.getD (Int.toNat x1) .empty) 32).2.1).length) ((r31 (x2.getD (Int.toNat x1) .empty) 32).2.1))
 let c36 := (r33 (((r31 (x2.getD (Int.toNat x1) .empty) 32).2.1).getD 4 .empty))
 cond (decide ((x1 : Int) < (IntKind.i64.wrap (x0 - 1))))
  (cond ((decide ((0 : Int) ≤ x1)) && (Nat.blt (Int.toNat x1) x2.length))
   (cond (Nat.beq ((r31 (x2.getD (Int.toNat x1) .empty) 32).1) 0)
    (cond ((((((r31 (x2.getD (Int.toNat x1) .empty) 32).2.1).length : Nat) : Int) : Int) != 5)
     (0, [], [])
     (cond ((Nat.blt 0 (((r31 (x2.getD (Int.toNat x1) .empty) 32).2.1).length)) && (Nat.ble 4 (((r31 (x2.getD (Int.toNat x1) .empty) 32).2.1).length)))
      (cond (Nat.beq (c35.1) 0)
       (cond (Nat.blt 4 (((r31 (x2.getD (Int.toNat x1) .empty) 32).2.1).length))
        (cond (!((((r31 (x2.getD (Int.toNat x1) .empty) 32).2.1).getD 4 .empty).toList == (ByteArray.mk #[45]).toList))
         (cond (Nat.beq (c36.1) 0)
          (0, [], [])
          (4, [], []))
         (0, [], []))
        (4, [], []))
       (cond (Nat.beq (c35.1) 1)
        (cond (Nat.blt 4 (((r31 (x2.getD (Int.toNat x1) .empty) 32).2.1).length))
         (cond (!((((r31 (x2.getD (Int.toNat x1) .empty) 32).2.1).getD 4 .empty).toList == (ByteArray.mk #[45]).toList))
          (cond (Nat.beq (c36.1) 0)
           (cond (!(c36.2.2))
            (0, [], [])
            (cond (Nat.ble ((x3.length + 1) * 25) 140737488355328)
             (cond (Nat.beq ((ih x0 (IntKind.i64.wrap (x1 + 1)) x2 (((x3.drop 0).take x3.length) ++ ([[(((c35.2.1) : Nat) : Int), (((c35.2.2.1) : Nat) : Int), (((c35.2.2.2.1) : Nat) : Int), (((c35.2.2.2.2) : Nat) : Int), (c36.2.1)]] : List (List Int)))).1) 0)
              (1, (((x3.drop 0).take x3.length) ++ ([[(((c35.2.1) : Nat) : Int), (((c35.2.2.1) : Nat) : Int), (((c35.2.2.2.1) : Nat) : Int), (((c35.2.2.2.2) : Nat) : Int), (c36.2.1)]] : List (List Int))), [])
              (cond (Nat.beq ((ih x0 (IntKind.i64.wrap (x1 + 1)) x2 (((x3.drop 0).take x3.length) ++ ([[(((c35.2.1) : Nat) : Int), (((c35.2.2.1) : Nat) : Int), (((c35.2.2.2.1) : Nat) : Int), (((c35.2.2.2.2) : Nat) : Int), (c36.2.1)]] : List (List Int)))).1) 1)
               (1, ((ih x0 (IntKind.i64.wrap (x1 + 1)) x2 (((x3.drop 0).take x3.length) ++ ([[(((c35.2.1) : Nat) : Int), (((c35.2.2.1) : Nat) : Int), (((c35.2.2.2.1) : Nat) : Int), (((c35.2.2.2.2) : Nat) : Int), (c36.2.1)]] : List (List Int)))).2.1), [])
               (cond (Nat.beq ((ih x0 (IntKind.i64.wrap (x1 + 1)) x2 (((x3.drop 0).take x3.length) ++ ([[(((c35.2.1) : Nat) : Int), (((c35.2.2.1) : Nat) : Int), (((c35.2.2.2.1) : Nat) : Int), (((c35.2.2.2.2) : Nat) : Int), (c36.2.1)]] : List (List Int)))).1) 2)
                (2, [], ((ih x0 (IntKind.i64.wrap (x1 + 1)) x2 (((x3.drop 0).take x3.length) ++ ([[(((c35.2.1) : Nat) : Int), (((c35.2.2.1) : Nat) : Int), (((c35.2.2.2.1) : Nat) : Int), (((c35.2.2.2.2) : Nat) : Int), (c36.2.1)]] : List (List Int)))).2.2))
                (cond (Nat.beq ((ih x0 (IntKind.i64.wrap (x1 + 1)) x2 (((x3.drop 0).take x3.length) ++ ([[(((c35.2.1) : Nat) : Int), (((c35.2.2.1) : Nat) : Int), (((c35.2.2.2.1) : Nat) : Int), (((c35.2.2.2.2) : Nat) : Int), (c36.2.1)]] : List (List Int)))).1) 3)
                 (2, [], (((x3.drop 0).take x3.length) ++ ([[(((c35.2.1) : Nat) : Int), (((c35.2.2.1) : Nat) : Int), (((c35.2.2.2.1) : Nat) : Int), (((c35.2.2.2.2) : Nat) : Int), (c36.2.1)]] : List (List Int))))
                 (4, [], [])))))
             (4, [], [])))
           (4, [], []))
          (cond (Nat.ble ((x3.length + 1) * 25) 140737488355328)
           (cond (Nat.beq ((ih x0 (IntKind.i64.wrap (x1 + 1)) x2 (((x3.drop 0).take x3.length) ++ ([[(((c35.2.1) : Nat) : Int), (((c35.2.2.1) : Nat) : Int), (((c35.2.2.2.1) : Nat) : Int), (((c35.2.2.2.2) : Nat) : Int), (-1)]] : List (List Int)))).1) 0)
            (1, (((x3.drop 0).take x3.length) ++ ([[(((c35.2.1) : Nat) : Int), (((c35.2.2.1) : Nat) : Int), (((c35.2.2.2.1) : Nat) : Int), (((c35.2.2.2.2) : Nat) : Int), (-1)]] : List (List Int))), [])
            (cond (Nat.beq ((ih x0 (IntKind.i64.wrap (x1 + 1)) x2 (((x3.drop 0).take x3.length) ++ ([[(((c35.2.1) : Nat) : Int), (((c35.2.2.1) : Nat) : Int), (((c35.2.2.2.1) : Nat) : Int), (((c35.2.2.2.2) : Nat) : Int), (-1)]] : List (List Int)))).1) 1)
             (1, ((ih x0 (IntKind.i64.wrap (x1 + 1)) x2 (((x3.drop 0).take x3.length) ++ ([[(((c35.2.1) : Nat) : Int), (((c35.2.2.1) : Nat) : Int), (((c35.2.2.2.1) : Nat) : Int), (((c35.2.2.2.2) : Nat) : Int), (-1)]] : List (List Int)))).2.1), [])
             (cond (Nat.beq ((ih x0 (IntKind.i64.wrap (x1 + 1)) x2 (((x3.drop 0).take x3.length) ++ ([[(((c35.2.1) : Nat) : Int), (((c35.2.2.1) : Nat) : Int), (((c35.2.2.2.1) : Nat) : Int), (((c35.2.2.2.2) : Nat) : Int), (-1)]] : List (List Int)))).1) 2)
              (2, [], ((ih x0 (IntKind.i64.wrap (x1 + 1)) x2 (((x3.drop 0).take x3.length) ++ ([[(((c35.2.1) : Nat) : Int), (((c35.2.2.1) : Nat) : Int), (((c35.2.2.2.1) : Nat) : Int), (((c35.2.2.2.2) : Nat) : Int), (-1)]] : List (List Int)))).2.2))
              (cond (Nat.beq ((ih x0 (IntKind.i64.wrap (x1 + 1)) x2 (((x3.drop 0).take x3.length) ++ ([[(((c35.2.1) : Nat) : Int), (((c35.2.2.1) : Nat) : Int), (((c35.2.2.2.1) : Nat) : Int), (((c35.2.2.2.2) : Nat) : Int), (-1)]] : List (List Int)))).1) 3)
               (2, [], (((x3.drop 0).take x3.length) ++ ([[(((c35.2.1) : Nat) : Int), (((c35.2.2.1) : Nat) : Int), (((c35.2.2.2.1) : Nat) : Int), (((c35.2.2.2.2) : Nat) : Int), (-1)]] : List (List Int))))
               (4, [], [])))))
           (4, [], [])))
         (4, [], []))
        (4, [], [])))
      (cond ((Nat.beq 0 (((r31 (x2.getD (Int.toNat x1) .empty) 32).2.1).length)) && (Nat.ble 4 (((r31 (x2.getD (Int.toNat x1) .empty) 32).2.1).length)))
       (cond (Nat.blt 4 (((r31 (x2.getD (Int.toNat x1) .empty) 32).2.1).length))
        (cond (!((((r31 (x2.getD (Int.toNat x1) .empty) 32).2.1).getD 4 .empty).toList == (ByteArray.mk #[45]).toList))
         (cond (Nat.beq (c36.1) 0)
          (cond (!(c36.2.2))
           (0, [], [])
           (4, [], []))
          (4, [], []))
         (4, [], []))
        (4, [], []))
       (4, [], []))))
    (cond (Nat.beq ((r31 (x2.getD (Int.toNat x1) .empty) 32).1) 1)
     (0, [], [])
     (4, [], [])))
   (4, [], []))
  (3, [], [])
noncomputable def r6l0 : Nat → Int → Int → List ByteArray → List (List Int) → (Nat × List (List Int) × List (List Int))
 | 0 => fun _ _ _ _ => (4, [], [])
 | m + 1 => b6l0 (r6l0 m)
noncomputable def a6l0 (x0 x1 : Int) (x2 : List ByteArray) (x3 : List (List Int)) (p : Nat × List (List Int) × List (List Int)) : Option (Fin' × List Value × St) := firstT ([((Nat.beq (p.1) 0), .ret, [wsl 2, vi 5, wsl 1], ⟨[⟨true, (some (.strs x2))⟩, ⟨true, (some (.tab sc0 x3))⟩, ⟨true, (some (.tab sc0 ([] : List (List Int))))⟩], 2, [1]⟩), ((Nat.beq (p.1) 1), .ret, [wsl 2, vi 5, wsl 3], ⟨[⟨true, (some (.strs x2))⟩, ⟨true, none⟩, ⟨true, (some (.tab sc0 ([] : List (List Int))))⟩, ⟨true, (some (.tab sc0 (p.2.1)))⟩], 2, [1]⟩), ((Nat.beq (p.1) 2), .exit 0, [anyV, anyV, wsl 2], ⟨[⟨true, (some (.strs x2))⟩, ⟨true, none⟩, ⟨true, (some (.tab sc0 (p.2.2)))⟩], 2, [1]⟩), ((Nat.beq (p.1) 3), .exit 0, [anyV, anyV, wsl 1], ⟨[⟨true, (some (.strs x2))⟩, ⟨true, (some (.tab sc0 x3))⟩], 2, [1]⟩)].map fun (b, x) => (b, (x.1, frameOf 92 [2, 3, 6] x.2.1, x.2.2)))
noncomputable def u6l0 (x0 x1 : Int) (x2 : List ByteArray) (x3 : List (List Int)) (p : Nat × List (List Int) × List (List Int)) : Option (Fin' × List Value × St) := alts ([((Nat.beq (p.1) 0), .ret, [wsl 2, vi 5, wsl 1], ⟨[⟨true, (some (.strs x2))⟩, ⟨true, (some (.tab sc0 x3))⟩, ⟨true, (some (.tab sc0 ([] : List (List Int))))⟩], 2, [1]⟩), ((Nat.beq (p.1) 1), .ret, [wsl 2, vi 5, wsl 3], ⟨[⟨true, (some (.strs x2))⟩, ⟨true, none⟩, ⟨true, (some (.tab sc0 ([] : List (List Int))))⟩, ⟨true, (some (.tab sc0 (p.2.1)))⟩], 2, [1]⟩), ((Nat.beq (p.1) 2), .exit 0, [anyV, anyV, wsl 2], ⟨[⟨true, (some (.strs x2))⟩, ⟨true, none⟩, ⟨true, (some (.tab sc0 (p.2.2)))⟩], 2, [1]⟩), ((Nat.beq (p.1) 3), .exit 0, [anyV, anyV, wsl 1], ⟨[⟨true, (some (.strs x2))⟩, ⟨true, (some (.tab sc0 x3))⟩], 2, [1]⟩)].map fun (b, x) => (b, (x.1, frameOf 92 [2, 3, 6] x.2.1, x.2.2))) some
theorem v6l0 (x0 x1 : Int) (x2 : List ByteArray) (x3 : List (List Int)) (p : Nat × List (List Int) × List (List Int)) : u6l0 x0 x1 x2 x3 p = a6l0 x0 x1 x2 x3 p := alts_first _
noncomputable def q6l0 (m : Nat) : SumK := fun vals s =>
 match vals, s.h with
 | [.iface f0 .nilIface, .int .i64 x0, .iface f1 .nilIface, .int .i64 x1], [⟨true, some (.strs x2)⟩, ⟨true, some (.tab [.fl .f32, .fl .f32, .fl .f32, .fl .f32, .int .i64] x3)⟩] => if f0 = 0 ∧ f1 = 1 then [((Nat.beq ((r6l0 m x0 x1 x2 x3).1) 0), .ret, [wsl 2, vi 5, wsl 1], ⟨[⟨true, (some (.strs x2))⟩, ⟨true, (some (.tab sc0 x3))⟩, ⟨true, (some (.tab sc0 ([] : List (List Int))))⟩], 2, [1]⟩), ((Nat.beq ((r6l0 m x0 x1 x2 x3).1) 1), .ret, [wsl 2, vi 5, wsl 3], ⟨[⟨true, (some (.strs x2))⟩, ⟨true, none⟩, ⟨true, (some (.tab sc0 ([] : List (List Int))))⟩, ⟨true, (some (.tab sc0 ((r6l0 m x0 x1 x2 x3).2.1)))⟩], 2, [1]⟩), ((Nat.beq ((r6l0 m x0 x1 x2 x3).1) 2), .exit 0, [anyV, anyV, wsl 2], ⟨[⟨true, (some (.strs x2))⟩, ⟨true, none⟩, ⟨true, (some (.tab sc0 ((r6l0 m x0 x1 x2 x3).2.2)))⟩], 2, [1]⟩), ((Nat.beq ((r6l0 m x0 x1 x2 x3).1) 3), .exit 0, [anyV, anyV, wsl 1], ⟨[⟨true, (some (.strs x2))⟩, ⟨true, (some (.tab sc0 x3))⟩], 2, [1]⟩)] else noQ vals s
 | _, _ => noQ vals s
noncomputable def w6l0 (ih : Int → Int → List ByteArray → List (List Int) → (Nat × List (List Int) × List (List Int))) (x0 x1 : Int) (x2 : List ByteArray) (x3 : List (List Int)) : Option (Fin' × List Value × St) :=
 let c35 := (r32 (((r31 (x2.getD (Int.toNat x1) .empty) 32).2.1).length) ((r31 (x2.getD (Int.toNat x1) .empty) 32).2.1))
 let c36 := (r33 (((r31 (x2.getD (Int.toNat x1) .empty) 32).2.1).getD 4 .empty))
 (cond (decide ((x1 : Int) < (IntKind.i64.wrap (x0 - 1))))
 (cond ((decide ((0 : Int) ≤ x1)) && (Nat.blt (Int.toNat x1) x2.length))
  (cond (Nat.blt (Int.toNat x1) x2.length)
   (cond (Nat.beq ((r31 (x2.getD (Int.toNat x1) .empty) 32).1) 0)
    (cond ((((((r31 (x2.getD (Int.toNat x1) .empty) 32).2.1).length : Nat) : Int) : Int) != 5)
     (a6l0 x0 x1 x2 x3 (0, [], []))
     (cond ((Nat.blt 0 (((r31 (x2.getD (Int.toNat x1) .empty) 32).2.1).length)) && (Nat.ble 4 (((r31 (x2.getD (Int.toNat x1) .empty) 32).2.1).length)))
      (cond (Nat.beq (c35.1) 0)
       (cond (Nat.blt 4 (((r31 (x2.getD (Int.toNat x1) .empty) 32).2.1).length))
        (cond (Nat.blt 4 (((r31 (x2.getD (Int.toNat x1) .empty) 32).2.1).length))
         (cond (!((((r31 (x2.getD (Int.toNat x1) .empty) 32).2.1).getD 4 .empty).toList == (ByteArray.mk #[45]).toList))
          (cond (Nat.blt 4 (((r31 (x2.getD (Int.toNat x1) .empty) 32).2.1).length))
           (cond (Nat.blt 4 (((r31 (x2.getD (Int.toNat x1) .empty) 32).2.1).length))
            (cond (Nat.beq (c36.1) 0)
             (a6l0 x0 x1 x2 x3 (0, [], []))
             none)
            none)
           none)
          (a6l0 x0 x1 x2 x3 (0, [], [])))
         none)
        none)
       (cond (Nat.beq (c35.1) 1)
        (cond (Nat.blt 4 (((r31 (x2.getD (Int.toNat x1) .empty) 32).2.1).length))
         (cond (Nat.blt 4 (((r31 (x2.getD (Int.toNat x1) .empty) 32).2.1).length))
          (cond (!((((r31 (x2.getD (Int.toNat x1) .empty) 32).2.1).getD 4 .empty).toList == (ByteArray.mk #[45]).toList))
           (cond (Nat.blt 4 (((r31 (x2.getD (Int.toNat x1) .empty) 32).2.1).length))
            (cond (Nat.blt 4 (((r31 (x2.getD (Int.toNat x1) .empty) 32).2.1).length))
             (cond (Nat.beq (c36.1) 0)
              (cond (!(c36.2.2))
               (a6l0 x0 x1 x2 x3 (0, [], []))
               (cond (Nat.ble ((x3.length + 1) * 25) 140737488355328)
                (cond (Nat.beq ((ih x0 (IntKind.i64.wrap (x1 + 1)) x2 (((x3.drop 0).take x3.length) ++ ([[(((c35.2.1) : Nat) : Int), (((c35.2.2.1) : Nat) : Int), (((c35.2.2.2.1) : Nat) : Int), (((c35.2.2.2.2) : Nat) : Int), (c36.2.1)]] : List (List Int)))).1) 0)
                 (a6l0 x0 x1 x2 x3 (1, (((x3.drop 0).take x3.length) ++ ([[(((c35.2.1) : Nat) : Int), (((c35.2.2.1) : Nat) : Int), (((c35.2.2.2.1) : Nat) : Int), (((c35.2.2.2.2) : Nat) : Int), (c36.2.1)]] : List (List Int))), []))
                 (cond (Nat.beq ((ih x0 (IntKind.i64.wrap (x1 + 1)) x2 (((x3.drop 0).take x3.length) ++ ([[(((c35.2.1) : Nat) : Int), (((c35.2.2.1) : Nat) : Int), (((c35.2.2.2.1) : Nat) : Int), (((c35.2.2.2.2) : Nat) : Int), (c36.2.1)]] : List (List Int)))).1) 1)
                  (a6l0 x0 x1 x2 x3 (1, ((ih x0 (IntKind.i64.wrap (x1 + 1)) x2 (((x3.drop 0).take x3.length) ++ ([[(((c35.2.1) : Nat) : Int), (((c35.2.2.1) : Nat) : Int), (((c35.2.2.2.1) : Nat) : Int), (((c35.2.2.2.2) : Nat) : Int), (c36.2.1)]] : List (List Int)))).2.1), []))
                  (cond (Nat.beq ((ih x0 (IntKind.i64.wrap (x1 + 1)) x2 (((x3.drop 0).take x3.length) ++ ([[(((c35.2.1) : Nat) : Int), (((c35.2.2.1) : Nat) : Int), (((c35.2.2.2.1) : Nat) : Int), (((c35.2.2.2.2) : Nat) : Int), (c36.2.1)]] : List (List Int)))).1) 2)
                   (a6l0 x0 x1 x2 x3 (2, [], ((ih x0 (IntKind.i64.wrap (x1 + 1)) x2 (((x3.drop 0).take x3.length) ++ ([[(((c35.2.1) : Nat) : Int), (((c35.2.2.1) : Nat) : Int), (((c35.2.2.2.1) : Nat) : Int), (((c35.2.2.2.2) : Nat) : Int), (c36.2.1)]] : List (List Int)))).2.2)))
                   (cond (Nat.beq ((ih x0 (IntKind.i64.wrap (x1 + 1)) x2 (((x3.drop 0).take x3.length) ++ ([[(((c35.2.1) : Nat) : Int), (((c35.2.2.1) : Nat) : Int), (((c35.2.2.2.1) : Nat) : Int), (((c35.2.2.2.2) : Nat) : Int), (c36.2.1)]] : List (List Int)))).1) 3)
                    (a6l0 x0 x1 x2 x3 (2, [], (((x3.drop 0).take x3.length) ++ ([[(((c35.2.1) : Nat) : Int), (((c35.2.2.1) : Nat) : Int), (((c35.2.2.2.1) : Nat) : Int), (((c35.2.2.2.2) : Nat) : Int), (c36.2.1)]] : List (List Int)))))
                    none))))
                none))
              none)
             none)
            none)
           (cond (Nat.ble ((x3.length + 1) * 25) 140737488355328)
            (cond (Nat.beq ((ih x0 (IntKind.i64.wrap (x1 + 1)) x2 (((x3.drop 0).take x3.length) ++ ([[(((c35.2.1) : Nat) : Int), (((c35.2.2.1) : Nat) : Int), (((c35.2.2.2.1) : Nat) : Int), (((c35.2.2.2.2) : Nat) : Int), (-1)]] : List (List Int)))).1) 0)
             (a6l0 x0 x1 x2 x3 (1, (((x3.drop 0).take x3.length) ++ ([[(((c35.2.1) : Nat) : Int), (((c35.2.2.1) : Nat) : Int), (((c35.2.2.2.1) : Nat) : Int), (((c35.2.2.2.2) : Nat) : Int), (-1)]] : List (List Int))), []))
             (cond (Nat.beq ((ih x0 (IntKind.i64.wrap (x1 + 1)) x2 (((x3.drop 0).take x3.length) ++ ([[(((c35.2.1) : Nat) : Int), (((c35.2.2.1) : Nat) : Int), (((c35.2.2.2.1) : Nat) : Int), (((c35.2.2.2.2) : Nat) : Int), (-1)]] : List (List Int)))).1) 1)
              (a6l0 x0 x1 x2 x3 (1, ((ih x0 (IntKind.i64.wrap (x1 + 1)) x2 (((x3.drop 0).take x3.length) ++ ([[(((c35.2.1) : Nat) : Int), (((c35.2.2.1) : Nat) : Int), (((c35.2.2.2.1) : Nat) : Int), (((c35.2.2.2.2) : Nat) : Int), (-1)]] : List (List Int)))).2.1), []))
              (cond (Nat.beq ((ih x0 (IntKind.i64.wrap (x1 + 1)) x2 (((x3.drop 0).take x3.length) ++ ([[(((c35.2.1) : Nat) : Int), (((c35.2.2.1) : Nat) : Int), (((c35.2.2.2.1) : Nat) : Int), (((c35.2.2.2.2) : Nat) : Int), (-1)]] : List (List Int)))).1) 2)
               (a6l0 x0 x1 x2 x3 (2, [], ((ih x0 (IntKind.i64.wrap (x1 + 1)) x2 (((x3.drop 0).take x3.length) ++ ([[(((c35.2.1) : Nat) : Int), (((c35.2.2.1) : Nat) : Int), (((c35.2.2.2.1) : Nat) : Int), (((c35.2.2.2.2) : Nat) : Int), (-1)]] : List (List Int)))).2.2)))
               (cond (Nat.beq ((ih x0 (IntKind.i64.wrap (x1 + 1)) x2 (((x3.drop 0).take x3.length) ++ ([[(((c35.2.1) : Nat) : Int), (((c35.2.2.1) : Nat) : Int), (((c35.2.2.2.1) : Nat) : Int), (((c35.2.2.2.2) : Nat) : Int), (-1)]] : List (List Int)))).1) 3)
                (a6l0 x0 x1 x2 x3 (2, [], (((x3.drop 0).take x3.length) ++ ([[(((c35.2.1) : Nat) : Int), (((c35.2.2.1) : Nat) : Int), (((c35.2.2.2.1) : Nat) : Int), (((c35.2.2.2.2) : Nat) : Int), (-1)]] : List (List Int)))))
                none))))
            none))
          none)
         none)
        none))
      (cond ((Nat.beq 0 (((r31 (x2.getD (Int.toNat x1) .empty) 32).2.1).length)) && (Nat.ble 4 (((r31 (x2.getD (Int.toNat x1) .empty) 32).2.1).length)))
       (cond (Nat.blt 4 (((r31 (x2.getD (Int.toNat x1) .empty) 32).2.1).length))
        (cond (Nat.blt 4 (((r31 (x2.getD (Int.toNat x1) .empty) 32).2.1).length))
         (cond (!((((r31 (x2.getD (Int.toNat x1) .empty) 32).2.1).getD 4 .empty).toList == (ByteArray.mk #[45]).toList))
          (cond (Nat.blt 4 (((r31 (x2.getD (Int.toNat x1) .empty) 32).2.1).length))
           (cond (Nat.blt 4 (((r31 (x2.getD (Int.toNat x1) .empty) 32).2.1).length))
            (cond (Nat.beq (c36.1) 0)
             (cond (!(c36.2.2))
              (a6l0 x0 x1 x2 x3 (0, [], []))
              none)
             none)
            none)
           none)
          none)
         none)
        none)
       none)))
    (cond (Nat.beq ((r31 (x2.getD (Int.toNat x1) .empty) 32).1) 1)
     (a6l0 x0 x1 x2 x3 (0, [], []))
     none))
   none)
  none)
 (a6l0 x0 x1 x2 x3 (3, [], [])))
set_option maxRecDepth 100000 in
set_option maxHeartbeats 4000000 in
theorem e6l0 (m : Nat) (x0 x1 : Int) (x2 : List ByteArray) (x3 : List (List Int)) : evC Tryz.prog ext T6 noL 200 (loopN Tryz.f6 0) (loopTail ([4, 5, 6, 7], []) [2, 3, 6] [1] (sumK 92 [4, 5, 6, 7] [2, 3, 6] (q6l0 m))) (frameOf 92 [4, 5, 6, 7] [wsl 0, vi x0, wsl 1, vi x1]) ⟨[⟨true, (some (.strs x2))⟩, ⟨true, (some (.tab sc0 x3))⟩], 2, []⟩ = firstT ([((Nat.beq ((r6l0 (m + 1) x0 x1 x2 x3).1) 0), .ret, [wsl 2, vi 5, wsl 1], ⟨[⟨true, (some (.strs x2))⟩, ⟨true, (some (.tab sc0 x3))⟩, ⟨true, (some (.tab sc0 ([] : List (List Int))))⟩], 2, [1]⟩), ((Nat.beq ((r6l0 (m + 1) x0 x1 x2 x3).1) 1), .ret, [wsl 2, vi 5, wsl 3], ⟨[⟨true, (some (.strs x2))⟩, ⟨true, none⟩, ⟨true, (some (.tab sc0 ([] : List (List Int))))⟩, ⟨true, (some (.tab sc0 ((r6l0 (m + 1) x0 x1 x2 x3).2.1)))⟩], 2, [1]⟩), ((Nat.beq ((r6l0 (m + 1) x0 x1 x2 x3).1) 2), .exit 0, [anyV, anyV, wsl 2], ⟨[⟨true, (some (.strs x2))⟩, ⟨true, none⟩, ⟨true, (some (.tab sc0 ((r6l0 (m + 1) x0 x1 x2 x3).2.2)))⟩], 2, [1]⟩), ((Nat.beq ((r6l0 (m + 1) x0 x1 x2 x3).1) 3), .exit 0, [anyV, anyV, wsl 1], ⟨[⟨true, (some (.strs x2))⟩, ⟨true, (some (.tab sc0 x3))⟩], 2, [1]⟩)].map fun (b, x) => (b, (x.1, frameOf 92 [2, 3, 6] x.2.1, x.2.2))) :=
 (show evC Tryz.prog ext T6 noL 200 (loopN Tryz.f6 0) (loopTail ([4, 5, 6, 7], []) [2, 3, 6] [1] (sumK 92 [4, 5, 6, 7] [2, 3, 6] (q6l0 m))) (frameOf 92 [4, 5, 6, 7] [wsl 0, vi x0, wsl 1, vi x1]) ⟨[⟨true, (some (.strs x2))⟩, ⟨true, (some (.tab sc0 x3))⟩], 2, []⟩ = w6l0 (r6l0 m) x0 x1 x2 x3 from by kernel_rfl).trans
 (show w6l0 (r6l0 m) x0 x1 x2 x3 = a6l0 x0 x1 x2 x3 (r6l0 (m + 1) x0 x1 x2 x3) from by unfold w6l0; show _ = a6l0 x0 x1 x2 x3 (b6l0 (r6l0 m) x0 x1 x2 x3); unfold b6l0; exact (cond_both (a6l0 x0 x1 x2 x3) _ (fun h0 => (cond_both (a6l0 x0 x1 x2 x3) _ (fun h1 => (cond_t (ev_and2 h1) (cond_both (a6l0 x0 x1 x2 x3) _ (fun h2 => (cond_both (a6l0 x0 x1 x2 x3) _ (fun h3 => rfl) (fun h3 => (cond_both (a6l0 x0 x1 x2 x3) _ (fun h4 => (cond_both (a6l0 x0 x1 x2 x3) _ (fun h5 => (cond_both (a6l0 x0 x1 x2 x3) _ (fun h6 => (cond_t h6 (cond_both (a6l0 x0 x1 x2 x3) _ (fun h7 => (cond_t h6 (cond_t h6 (cond_app (a6l0 x0 x1 x2 x3) _ rfl rfl)))) (fun h7 => rfl)))) (fun h6 => rfl))) (fun h5 => (cond_both (a6l0 x0 x1 x2 x3) _ (fun h6 => (cond_both (a6l0 x0 x1 x2 x3) _ (fun h7 => (cond_t h7 (cond_both (a6l0 x0 x1 x2 x3) _ (fun h8 => (cond_t h7 (cond_t h7 (cond_app (a6l0 x0 x1 x2 x3) _ (cond_app (a6l0 x0 x1 x2 x3) _ rfl (cond_app (a6l0 x0 x1 x2 x3) _ (cond_app (a6l0 x0 x1 x2 x3) _ rfl (cond_app (a6l0 x0 x1 x2 x3) _ rfl (cond_app (a6l0 x0 x1 x2 x3) _ rfl (cond_app (a6l0 x0 x1 x2 x3) _ rfl rfl)))) rfl)) rfl)))) (fun h8 => (cond_app (a6l0 x0 x1 x2 x3) _ (cond_app (a6l0 x0 x1 x2 x3) _ rfl (cond_app (a6l0 x0 x1 x2 x3) _ rfl (cond_app (a6l0 x0 x1 x2 x3) _ rfl (cond_app (a6l0 x0 x1 x2 x3) _ rfl rfl)))) rfl))))) (fun h7 => rfl))) (fun h6 => rfl))))) (fun h4 => (cond_both (a6l0 x0 x1 x2 x3) _ (fun h5 => (cond_both (a6l0 x0 x1 x2 x3) _ (fun h6 => (cond_t h6 (cond_both (a6l0 x0 x1 x2 x3) _ (fun h7 => (cond_t h6 (cond_t h6 (cond_app (a6l0 x0 x1 x2 x3) _ (cond_app (a6l0 x0 x1 x2 x3) _ rfl rfl) rfl)))) (fun h7 => rfl)))) (fun h6 => rfl))) (fun h5 => rfl))))))) (fun h2 => (cond_app (a6l0 x0 x1 x2 x3) _ rfl rfl))))) (fun h1 => rfl))) (fun h0 => rfl)))
set_option maxRecDepth 100000 in
set_option maxHeartbeats 4000000 in
theorem qm6l0 : ∀ m, SumKOk Tryz.prog (loopN Tryz.f6 0) 92 [4, 5, 6, 7] [2, 3, 6] (q6l0 m) := by
  intro m
  induction m with
  | zero =>
    intro vals s x h1 h2 h3
    unfold q6l0 at h3; split at h3
    · rename_i h; split at h3
      · rename_i hc; obtain ⟨rfl, rfl⟩ := hc; exact absurd h3 (by simp [r6l0, firstT, Nat.beq])
      · exact noQ_ok _ _ _ h1 h2 h3
    · exact noQ_ok _ _ _ h1 h2 h3
  | succ m ih =>
    intro vals s x h1 h2 h3
    unfold q6l0 at h3; split at h3
    · rename_i h; split at h3
      · rename_i hc; obtain ⟨rfl, rfl⟩ := hc; exact sum_step ok6 extOk mixed ((lfOkF_no _ _).inner (by kernel_rfl)) ih h1 h2 h (e6l0 m _ _ _ _) rfl h3
      · exact noQ_ok _ _ _ h1 h2 h3
    · exact noQ_ok _ _ _ h1 h2 h3
noncomputable def Q6l0 : SumK := fun vals s => q6l0 (fuelOf vals s.h) vals s
theorem qok6l0 : SumKOk Tryz.prog (loopN Tryz.f6 0) 92 [4, 5, 6, 7] [2, 3, 6] Q6l0 := fuel_ok qm6l0 fuelOf
noncomputable def L6_1 : LoopT := addL noL 8 ([4, 5, 6, 7], []) (sumK 92 [4, 5, 6, 7] [2, 3, 6] Q6l0)
theorem lok6_1 : LfOkF Tryz.prog L6_1 Tryz.f6 := lfOkF_add (lfOkF_no _ _) qok6l0 (by kernel_rfl) (by kernel_rfl) (by kernel_rfl)

/-- spec.l00In -/
noncomputable def w79 {α : Type} (x0 x1 x2 : Int) (k : Bool → α) : α :=
 cond (decide ((x0 : Int) ≥ x1))
  (k ((decide ((x0 : Int) ≤ x2))))
  (k (false))
noncomputable def r79 (x0 x1 x2 : Int) : Bool := w79 x0 x1 x2 (fun p => p)
noncomputable def g79 (x0 x1 x2 : Int) (p : Bool) : List (Bool × Value × St) := [(true, .bool p, st0)]
theorem p79 {α : Type} (x0 x1 x2 : Int) (f : Bool → α) : w79 x0 x1 x2 f = f (w79 x0 x1 x2 (fun p => p)) := by unfold w79; exact (cond_app f _ rfl rfl)
set_option maxRecDepth 100000 in
set_option maxHeartbeats 4000000 in
theorem e79 (x0 x1 x2 : Int) : evFn Tryz.prog ext T6 noL 200 Tryz.f79 [vi x0, vi x1, vi x2] st0 = firstT (g79 x0 x1 x2 (r79 x0 x1 x2)) :=
 Eq.trans (by kernel_rfl) (p79 x0 x1 x2 (fun p => firstT (g79 x0 x1 x2 p)))
noncomputable def s79 (args : List Value) (s : St) : List (Bool × Value × St) :=
 match args, s.h with
 | [.int .i64 x0, .int .i64 x1, .int .i64 x2], [] => (g79 x0 x1 x2 (r79 x0 x1 x2))
 | _, _ => T6 79 args s
noncomputable def T7 : CallF := addF T6 79 s79
set_option maxRecDepth 100000 in
set_option maxHeartbeats 4000000 in
theorem ok7 : CfOk Tryz.prog T7 := by
  refine cfOk_add ok6 fun args s r s' h1 h2 h3 => ?_
  unfold s79 at h3; split at h3
  · rename_i h; exact callOk ok6 Tryz.func79 h1 h2 h (lfOkF_no _ _).body (e79 _ _ _) rfl h3
  · exact ok6 _ _ _ _ _ h1 h2 h3

/-- spec.l01Finite -/
noncomputable def w101 {α : Type} (x0 : Nat) (k : Bool → α) : α :=
 k ((feq .f32 (fsub .f32 x0 x0) 0))
noncomputable def r101 (x0 : Nat) : Bool := w101 x0 (fun p => p)
noncomputable def g101 (x0 : Nat) (p : Bool) : List (Bool × Value × St) := [(true, .bool p, st0)]
theorem p101 {α : Type} (x0 : Nat) (f : Bool → α) : w101 x0 f = f (w101 x0 (fun p => p)) := by unfold w101; exact rfl
set_option maxRecDepth 100000 in
set_option maxHeartbeats 4000000 in
theorem e101 (x0 : Nat) : evFn Tryz.prog ext T7 noL 200 Tryz.f101 [vf x0] st0 = firstT (g101 x0 (r101 x0)) :=
 Eq.trans (by kernel_rfl) (p101 x0 (fun p => firstT (g101 x0 p)))
noncomputable def s101 (args : List Value) (s : St) : List (Bool × Value × St) :=
 match args, s.h with
 | [.float .f32 x0], [] => (g101 x0 (r101 x0))
 | _, _ => T7 101 args s
noncomputable def T8 : CallF := addF T7 101 s101
set_option maxRecDepth 100000 in
set_option maxHeartbeats 4000000 in
theorem ok8 : CfOk Tryz.prog T8 := by
  refine cfOk_add ok7 fun args s r s' h1 h2 h3 => ?_
  unfold s101 at h3; split at h3
  · rename_i h; exact callOk ok7 Tryz.func101 h1 h2 h (lfOkF_no _ _).body (e101 _) rfl h3
  · exact ok7 _ _ _ _ _ h1 h2 h3

/-- spec.l01Amount -/
noncomputable def w94 {α : Type} (x0 : Nat) (k : Bool → α) : α :=
 cond (r101 x0)
  (cond (fgt .f32 x0 0)
   (k (true))
   (cond (!isN .f32 x0)
    (k (((((x0 : Nat) : Int) : Int) == 0)))
    (k (false))))
  (k (false))
noncomputable def r94 (x0 : Nat) : Bool := w94 x0 (fun p => p)
noncomputable def g94 (x0 : Nat) (p : Bool) : List (Bool × Value × St) := [(true, .bool p, st0)]
theorem p94 {α : Type} (x0 : Nat) (f : Bool → α) : w94 x0 f = f (w94 x0 (fun p => p)) := by unfold w94; exact (cond_app f _ (cond_app f _ rfl (cond_app f _ rfl rfl)) rfl)
set_option maxRecDepth 100000 in
set_option maxHeartbeats 4000000 in
theorem e94 (x0 : Nat) : evFn Tryz.prog ext T8 noL 200 Tryz.f94 [vf x0] st0 = firstT (g94 x0 (r94 x0)) :=
 Eq.trans (by kernel_rfl) (p94 x0 (fun p => firstT (g94 x0 p)))
noncomputable def s94 (args : List Value) (s : St) : List (Bool × Value × St) :=
 match args, s.h with
 | [.float .f32 x0], [] => (g94 x0 (r94 x0))
 | _, _ => T8 94 args s
noncomputable def T9 : CallF := addF T8 94 s94
set_option maxRecDepth 100000 in
set_option maxHeartbeats 4000000 in
theorem ok9 : CfOk Tryz.prog T9 := by
  refine cfOk_add ok8 fun args s r s' h1 h2 h3 => ?_
  unfold s94 at h3; split at h3
  · rename_i h; exact callOk ok8 Tryz.func94 h1 h2 h (lfOkF_no _ _).body (e94 _) rfl h3
  · exact ok8 _ _ _ _ _ h1 h2 h3

/-- spec.l03Hot -/
noncomputable def w95 {α : Type} (x0 : Nat) (k : Bool → α) : α :=
 cond (fgt .f32 x0 3262119936 || feq .f32 x0 3262119936)
  (k ((flt .f32 x0 1153138688 || feq .f32 x0 1153138688)))
  (k (false))
noncomputable def r95 (x0 : Nat) : Bool := w95 x0 (fun p => p)
noncomputable def g95 (x0 : Nat) (p : Bool) : List (Bool × Value × St) := [(true, .bool p, st0)]
theorem p95 {α : Type} (x0 : Nat) (f : Bool → α) : w95 x0 f = f (w95 x0 (fun p => p)) := by unfold w95; exact (cond_app f _ rfl rfl)
set_option maxRecDepth 100000 in
set_option maxHeartbeats 4000000 in
theorem e95 (x0 : Nat) : evFn Tryz.prog ext T9 noL 200 Tryz.f95 [vf x0] st0 = firstT (g95 x0 (r95 x0)) :=
 Eq.trans (by kernel_rfl) (p95 x0 (fun p => firstT (g95 x0 p)))
noncomputable def s95 (args : List Value) (s : St) : List (Bool × Value × St) :=
 match args, s.h with
 | [.float .f32 x0], [] => (g95 x0 (r95 x0))
 | _, _ => T9 95 args s
noncomputable def T10 : CallF := addF T9 95 s95
set_option maxRecDepth 100000 in
set_option maxHeartbeats 4000000 in
theorem ok10 : CfOk Tryz.prog T10 := by
  refine cfOk_add ok9 fun args s r s' h1 h2 h3 => ?_
  unfold s95 at h3; split at h3
  · rename_i h; exact callOk ok9 Tryz.func95 h1 h2 h (lfOkF_no _ _).body (e95 _) rfl h3
  · exact ok9 _ _ _ _ _ h1 h2 h3

/-- spec.l01Share -/
noncomputable def w96 {α : Type} (x0 : Nat) (k : Bool → α) : α :=
 cond (r94 x0)
  (k ((flt .f32 x0 1065353216 || feq .f32 x0 1065353216)))
  (k (false))
noncomputable def r96 (x0 : Nat) : Bool := w96 x0 (fun p => p)
noncomputable def g96 (x0 : Nat) (p : Bool) : List (Bool × Value × St) := [(true, .bool p, st0)]
theorem p96 {α : Type} (x0 : Nat) (f : Bool → α) : w96 x0 f = f (w96 x0 (fun p => p)) := by unfold w96; exact (cond_app f _ rfl rfl)
set_option maxRecDepth 100000 in
set_option maxHeartbeats 4000000 in
theorem e96 (x0 : Nat) : evFn Tryz.prog ext T10 noL 200 Tryz.f96 [vf x0] st0 = firstT (g96 x0 (r96 x0)) :=
 Eq.trans (by kernel_rfl) (p96 x0 (fun p => firstT (g96 x0 p)))
noncomputable def s96 (args : List Value) (s : St) : List (Bool × Value × St) :=
 match args, s.h with
 | [.float .f32 x0], [] => (g96 x0 (r96 x0))
 | _, _ => T10 96 args s
noncomputable def T11 : CallF := addF T10 96 s96
set_option maxRecDepth 100000 in
set_option maxHeartbeats 4000000 in
theorem ok11 : CfOk Tryz.prog T11 := by
  refine cfOk_add ok10 fun args s r s' h1 h2 h3 => ?_
  unfold s96 at h3; split at h3
  · rename_i h; exact callOk ok10 Tryz.func96 h1 h2 h (lfOkF_no _ _).body (e96 _) rfl h3
  · exact ok10 _ _ _ _ _ h1 h2 h3

/-- spec.l03Flue -/
noncomputable def r52 (x0 : Nat) (x1 : List (List Int)) : Nat × Bool :=
 let c109 := (r94 (Int.toNat ((x1.getD x0 []).getD 0 0)))
 let c110 := (r94 (Int.toNat ((x1.getD x0 []).getD 1 0)))
 let c111 := (r95 (Int.toNat ((x1.getD x0 []).getD 2 0)))
 let c112 := (r96 (Int.toNat ((x1.getD x0 []).getD 3 0)))
 cond (Nat.blt x0 x1.length)
  (cond c109
   (cond (fgt .f32 (Int.toNat ((x1.getD x0 []).getD 0 0)) 1031798784 || feq .f32 (Int.toNat ((x1.getD x0 []).getD 0 0)) 1031798784)
    (cond (flt .f32 (Int.toNat ((x1.getD x0 []).getD 0 0)) 1106247680 || feq .f32 (Int.toNat ((x1.getD x0 []).getD 0 0)) 1106247680)
     (cond c110
      (cond (fgt .f32 (Int.toNat ((x1.getD x0 []).getD 1 0)) 1015021568 || feq .f32 (Int.toNat ((x1.getD x0 []).getD 1 0)) 1015021568)
       (cond (flt .f32 (Int.toNat ((x1.getD x0 []).getD 1 0)) 1082130432 || feq .f32 (Int.toNat ((x1.getD x0 []).getD 1 0)) 1082130432)
        (cond c111
         (0, c112)
         (0, false))
        (0, false))
       (0, false))
      (0, false))
     (0, false))
    (0, false))
   (0, false))
  (1, false)
noncomputable def a52 (x0 : Nat) (x1 : List (List Int)) (p : Nat × Bool) : Res := firstT [((Nat.beq (p.1) 0), .bool (p.2), ⟨[⟨true, (some (.tab sc0 x1))⟩], 1, []⟩)]
noncomputable def w52 (x0 : Nat) (x1 : List (List Int)) : Res :=
 let c109 := (r94 (Int.toNat ((x1.getD x0 []).getD 0 0)))
 let c110 := (r94 (Int.toNat ((x1.getD x0 []).getD 1 0)))
 let c111 := (r95 (Int.toNat ((x1.getD x0 []).getD 2 0)))
 let c112 := (r96 (Int.toNat ((x1.getD x0 []).getD 3 0)))
 (cond (Nat.blt x0 x1.length)
 (cond c109
  (cond (Nat.blt x0 x1.length)
   (cond (fgt .f32 (Int.toNat ((x1.getD x0 []).getD 0 0)) 1031798784 || feq .f32 (Int.toNat ((x1.getD x0 []).getD 0 0)) 1031798784)
    (cond (Nat.blt x0 x1.length)
     (cond (flt .f32 (Int.toNat ((x1.getD x0 []).getD 0 0)) 1106247680 || feq .f32 (Int.toNat ((x1.getD x0 []).getD 0 0)) 1106247680)
      (cond (Nat.blt x0 x1.length)
       (cond c110
        (cond (Nat.blt x0 x1.length)
         (cond (fgt .f32 (Int.toNat ((x1.getD x0 []).getD 1 0)) 1015021568 || feq .f32 (Int.toNat ((x1.getD x0 []).getD 1 0)) 1015021568)
          (cond (Nat.blt x0 x1.length)
           (cond (flt .f32 (Int.toNat ((x1.getD x0 []).getD 1 0)) 1082130432 || feq .f32 (Int.toNat ((x1.getD x0 []).getD 1 0)) 1082130432)
            (cond (Nat.blt x0 x1.length)
             (cond c111
              (cond (Nat.blt x0 x1.length)
               (a52 x0 x1 (0, c112))
               none)
              (a52 x0 x1 (0, false)))
             none)
            (a52 x0 x1 (0, false)))
           none)
          (a52 x0 x1 (0, false)))
         none)
        (a52 x0 x1 (0, false)))
       none)
      (a52 x0 x1 (0, false)))
     none)
    (a52 x0 x1 (0, false)))
   none)
  (a52 x0 x1 (0, false)))
 none)
set_option maxRecDepth 100000 in
set_option maxHeartbeats 4000000 in
theorem e52 (x0 : Nat) (x1 : List (List Int)) : evFn Tryz.prog ext T11 noL 200 Tryz.f52 [.pointer (some ⟨0, x0, some 0⟩)] ⟨[⟨true, (some (.tab sc0 x1))⟩], 1, []⟩ = firstT [((Nat.beq ((r52 x0 x1).1) 0), .bool ((r52 x0 x1).2), ⟨[⟨true, (some (.tab sc0 x1))⟩], 1, []⟩)] :=
 (show evFn Tryz.prog ext T11 noL 200 Tryz.f52 [.pointer (some ⟨0, x0, some 0⟩)] ⟨[⟨true, (some (.tab sc0 x1))⟩], 1, []⟩ = w52 x0 x1 from by kernel_rfl).trans
 (show w52 x0 x1 = a52 x0 x1 (r52 x0 x1) from by unfold w52 r52; exact (cond_both (a52 x0 x1) _ (fun h0 => (cond_both (a52 x0 x1) _ (fun h1 => (cond_t h0 (cond_both (a52 x0 x1) _ (fun h2 => (cond_t h0 (cond_both (a52 x0 x1) _ (fun h3 => (cond_t h0 (cond_both (a52 x0 x1) _ (fun h4 => (cond_t h0 (cond_both (a52 x0 x1) _ (fun h5 => (cond_t h0 (cond_both (a52 x0 x1) _ (fun h6 => (cond_t h0 (cond_both (a52 x0 x1) _ (fun h7 => (cond_t h0 rfl)) (fun h7 => rfl)))) (fun h6 => rfl)))) (fun h5 => rfl)))) (fun h4 => rfl)))) (fun h3 => rfl)))) (fun h2 => rfl)))) (fun h1 => rfl))) (fun h0 => rfl)))
noncomputable def s52 (args : List Value) (s : St) : List (Bool × Value × St) :=
 match args, s.h with
 | [.pointer (some ⟨f0, x0, some f1⟩)], [⟨true, some (.tab [.fl .f32, .fl .f32, .fl .f32, .fl .f32, .int .i64] x1)⟩] => if f0 = 0 ∧ f1 = 0 then [((Nat.beq ((r52 x0 x1).1) 0), .bool ((r52 x0 x1).2), ⟨[⟨true, (some (.tab sc0 x1))⟩], 1, []⟩)] else T11 52 args s
 | _, _ => T11 52 args s
noncomputable def T12 : CallF := addF T11 52 s52
set_option maxRecDepth 100000 in
set_option maxHeartbeats 4000000 in
theorem ok12 : CfOk Tryz.prog T12 := by
  refine cfOk_add ok11 fun args s r s' h1 h2 h3 => ?_
  unfold s52 at h3; split at h3
  · rename_i h; split at h3
    · rename_i hc; obtain ⟨rfl, rfl⟩ := hc; exact callOk ok11 Tryz.func52 h1 h2 h (lfOkF_no _ _).body (e52 _ _) rfl h3
    · exact ok11 _ _ _ _ _ h1 h2 h3
  · exact ok11 _ _ _ _ _ h1 h2 h3

/-- spec.l03Ok, loop 0: one round -/
noncomputable def b34l0 (ih : Int → Int → List (List Int) → Nat) (x0 x1 : Int) (x2 : List (List Int)) : Nat :=
 let c114 := (r79 ((x2.getD (Int.toNat x1) []).getD 4 0) 0 (IntKind.i64.wrap (x0 - 1)))
 cond (decide ((x1 : Int) < x0))
  (cond ((decide ((0 : Int) ≤ x1)) && (Nat.blt (Int.toNat x1) x2.length))
   (cond (Nat.beq ((r52 (Int.toNat x1) x2).1) 0)
    (cond (!((r52 (Int.toNat x1) x2).2))
     (0)
     (cond ((((x2.getD (Int.toNat x1) []).getD 4 0) : Int) == (-1))
      (ih x0 (IntKind.i64.wrap (x1 + 1)) x2)
      (cond (!c114)
       (0)
       (cond ((((x2.getD (Int.toNat x1) []).getD 4 0) : Int) == x1)
        (0)
        (cond ((decide ((0 : Int) ≤ ((x2.getD (Int.toNat x1) []).getD 4 0))) && (Nat.blt (Int.toNat ((x2.getD (Int.toNat x1) []).getD 4 0)) x2.length))
         (cond ((((x2.getD (Int.toNat ((x2.getD (Int.toNat x1) []).getD 4 0)) []).getD 4 0) : Int) != (-1))
          (0)
          (ih x0 (IntKind.i64.wrap (x1 + 1)) x2))
         (2))))))
    (2))
   (2))
  (1)
noncomputable def r34l0 : Nat → Int → Int → List (List Int) → Nat
 | 0 => fun _ _ _ => (2)
 | m + 1 => b34l0 (r34l0 m)
noncomputable def a34l0 (x0 x1 : Int) (x2 : List (List Int)) (p : Nat) : Option (Fin' × List Value × St) := firstT ([((Nat.beq p 0), .ret, [.bool false], ⟨[⟨true, (some (.tab sc0 x2))⟩], 1, []⟩), ((Nat.beq p 1), .exit 0, [anyV], ⟨[⟨true, (some (.tab sc0 x2))⟩], 1, []⟩)].map fun (b, x) => (b, (x.1, frameOf 56 [2] x.2.1, x.2.2)))
noncomputable def u34l0 (x0 x1 : Int) (x2 : List (List Int)) (p : Nat) : Option (Fin' × List Value × St) := alts ([((Nat.beq p 0), .ret, [.bool false], ⟨[⟨true, (some (.tab sc0 x2))⟩], 1, []⟩), ((Nat.beq p 1), .exit 0, [anyV], ⟨[⟨true, (some (.tab sc0 x2))⟩], 1, []⟩)].map fun (b, x) => (b, (x.1, frameOf 56 [2] x.2.1, x.2.2))) some
theorem v34l0 (x0 x1 : Int) (x2 : List (List Int)) (p : Nat) : u34l0 x0 x1 x2 p = a34l0 x0 x1 x2 p := alts_first _
noncomputable def q34l0 (m : Nat) : SumK := fun vals s =>
 match vals, s.h with
 | [.iface f0 .nilIface, .int .i64 x0, .int .i64 x1], [⟨true, some (.tab [.fl .f32, .fl .f32, .fl .f32, .fl .f32, .int .i64] x2)⟩] => if f0 = 0 then [((Nat.beq (r34l0 m x0 x1 x2) 0), .ret, [.bool false], ⟨[⟨true, (some (.tab sc0 x2))⟩], 1, []⟩), ((Nat.beq (r34l0 m x0 x1 x2) 1), .exit 0, [anyV], ⟨[⟨true, (some (.tab sc0 x2))⟩], 1, []⟩)] else noQ vals s
 | _, _ => noQ vals s
noncomputable def w34l0 (ih : Int → Int → List (List Int) → Nat) (x0 x1 : Int) (x2 : List (List Int)) : Option (Fin' × List Value × St) :=
 let c114 := (r79 ((x2.getD (Int.toNat x1) []).getD 4 0) 0 (IntKind.i64.wrap (x0 - 1)))
 (cond (decide ((x1 : Int) < x0))
 (cond ((decide ((0 : Int) ≤ x1)) && (Nat.blt (Int.toNat x1) x2.length))
  (cond (Nat.beq ((r52 (Int.toNat x1) x2).1) 0)
   (cond (!((r52 (Int.toNat x1) x2).2))
    (a34l0 x0 x1 x2 (0))
    (cond ((decide ((0 : Int) ≤ x1)) && (Nat.blt (Int.toNat x1) x2.length))
     (cond (Nat.blt (Int.toNat x1) x2.length)
      (cond ((((x2.getD (Int.toNat x1) []).getD 4 0) : Int) == (-1))
       (u34l0 x0 x1 x2 (ih x0 (IntKind.i64.wrap (x1 + 1)) x2))
       (cond ((decide ((0 : Int) ≤ x1)) && (Nat.blt (Int.toNat x1) x2.length))
        (cond (Nat.blt (Int.toNat x1) x2.length)
         (cond (!c114)
          (a34l0 x0 x1 x2 (0))
          (cond ((decide ((0 : Int) ≤ x1)) && (Nat.blt (Int.toNat x1) x2.length))
           (cond (Nat.blt (Int.toNat x1) x2.length)
            (cond ((((x2.getD (Int.toNat x1) []).getD 4 0) : Int) == x1)
             (a34l0 x0 x1 x2 (0))
             (cond ((decide ((0 : Int) ≤ x1)) && (Nat.blt (Int.toNat x1) x2.length))
              (cond (Nat.blt (Int.toNat x1) x2.length)
               (cond ((decide ((0 : Int) ≤ ((x2.getD (Int.toNat x1) []).getD 4 0))) && (Nat.blt (Int.toNat ((x2.getD (Int.toNat x1) []).getD 4 0)) x2.length))
                (cond (Nat.blt (Int.toNat ((x2.getD (Int.toNat x1) []).getD 4 0)) x2.length)
                 (cond ((((x2.getD (Int.toNat ((x2.getD (Int.toNat x1) []).getD 4 0)) []).getD 4 0) : Int) != (-1))
                  (a34l0 x0 x1 x2 (0))
                  (u34l0 x0 x1 x2 (ih x0 (IntKind.i64.wrap (x1 + 1)) x2)))
                 none)
                none)
               none)
              none))
            none)
           none))
         none)
        none))
      none)
     none))
   none)
  none)
 (a34l0 x0 x1 x2 (1)))
set_option maxRecDepth 100000 in
set_option maxHeartbeats 4000000 in
theorem e34l0 (m : Nat) (x0 x1 : Int) (x2 : List (List Int)) : evC Tryz.prog ext T12 noL 200 (loopN Tryz.f34 0) (loopTail ([0, 3, 4], []) [2] [] (sumK 56 [0, 3, 4] [2] (q34l0 m))) (frameOf 56 [0, 3, 4] [wsl 0, vi x0, vi x1]) ⟨[⟨true, (some (.tab sc0 x2))⟩], 1, []⟩ = firstT ([((Nat.beq (r34l0 (m + 1) x0 x1 x2) 0), .ret, [.bool false], ⟨[⟨true, (some (.tab sc0 x2))⟩], 1, []⟩), ((Nat.beq (r34l0 (m + 1) x0 x1 x2) 1), .exit 0, [anyV], ⟨[⟨true, (some (.tab sc0 x2))⟩], 1, []⟩)].map fun (b, x) => (b, (x.1, frameOf 56 [2] x.2.1, x.2.2))) :=
 (show evC Tryz.prog ext T12 noL 200 (loopN Tryz.f34 0) (loopTail ([0, 3, 4], []) [2] [] (sumK 56 [0, 3, 4] [2] (q34l0 m))) (frameOf 56 [0, 3, 4] [wsl 0, vi x0, vi x1]) ⟨[⟨true, (some (.tab sc0 x2))⟩], 1, []⟩ = w34l0 (r34l0 m) x0 x1 x2 from by kernel_rfl).trans
 (show w34l0 (r34l0 m) x0 x1 x2 = a34l0 x0 x1 x2 (r34l0 (m + 1) x0 x1 x2) from by unfold w34l0; show _ = a34l0 x0 x1 x2 (b34l0 (r34l0 m) x0 x1 x2); unfold b34l0; exact (cond_both (a34l0 x0 x1 x2) _ (fun h0 => (cond_both (a34l0 x0 x1 x2) _ (fun h1 => (cond_both (a34l0 x0 x1 x2) _ (fun h2 => (cond_both (a34l0 x0 x1 x2) _ (fun h3 => rfl) (fun h3 => (cond_t h1 (cond_t (ev_and2 h1) (cond_both (a34l0 x0 x1 x2) _ (fun h4 => (v34l0 x0 x1 x2 ((r34l0 m) x0 (IntKind.i64.wrap (x1 + 1)) x2))) (fun h4 => (cond_t h1 (cond_t (ev_and2 h1) (cond_both (a34l0 x0 x1 x2) _ (fun h5 => rfl) (fun h5 => (cond_t h1 (cond_t (ev_and2 h1) (cond_both (a34l0 x0 x1 x2) _ (fun h6 => rfl) (fun h6 => (cond_t h1 (cond_t (ev_and2 h1) (cond_both (a34l0 x0 x1 x2) _ (fun h7 => (cond_t (ev_and2 h7) (cond_app (a34l0 x0 x1 x2) _ rfl (v34l0 x0 x1 x2 ((r34l0 m) x0 (IntKind.i64.wrap (x1 + 1)) x2))))) (fun h7 => rfl))))))))))))))))))) (fun h2 => rfl))) (fun h1 => rfl))) (fun h0 => rfl)))
set_option maxRecDepth 100000 in
set_option maxHeartbeats 4000000 in
theorem qm34l0 : ∀ m, SumKOk Tryz.prog (loopN Tryz.f34 0) 56 [0, 3, 4] [2] (q34l0 m) := by
  intro m
  induction m with
  | zero =>
    intro vals s x h1 h2 h3
    unfold q34l0 at h3; split at h3
    · rename_i h; split at h3
      · rename_i hc; obtain ⟨rfl⟩ := hc; exact absurd h3 (by simp [r34l0, firstT, Nat.beq])
      · exact noQ_ok _ _ _ h1 h2 h3
    · exact noQ_ok _ _ _ h1 h2 h3
  | succ m ih =>
    intro vals s x h1 h2 h3
    unfold q34l0 at h3; split at h3
    · rename_i h; split at h3
      · rename_i hc; obtain ⟨rfl⟩ := hc; exact sum_step ok12 extOk mixed ((lfOkF_no _ _).inner (by kernel_rfl)) ih h1 h2 h (e34l0 m _ _ _) rfl h3
      · exact noQ_ok _ _ _ h1 h2 h3
    · exact noQ_ok _ _ _ h1 h2 h3
noncomputable def Q34l0 : SumK := fun vals s => q34l0 (fuelOf vals s.h) vals s
theorem qok34l0 : SumKOk Tryz.prog (loopN Tryz.f34 0) 56 [0, 3, 4] [2] Q34l0 := fuel_ok qm34l0 fuelOf
noncomputable def L34_1 : LoopT := addL noL 6 ([0, 3, 4], []) (sumK 56 [0, 3, 4] [2] Q34l0)
theorem lok34_1 : LfOkF Tryz.prog L34_1 Tryz.f34 := lfOkF_add (lfOkF_no _ _) qok34l0 (by kernel_rfl) (by kernel_rfl) (by kernel_rfl)

/-- spec.l03Ok -/
noncomputable def w34 {α : Type} (x0 : List (List Int)) (k : (Nat × Bool) → α) : α :=
 let c115 := (r34l0 (1000 + x0.length) ((x0.length : Nat) : Int) 0 x0)
 cond (!(r79 ((x0.length : Nat) : Int) 1 6))
  (k (0, false))
  (cond (Nat.beq c115 0)
   (k (0, false))
   (cond (Nat.beq c115 1)
    (k (0, true))
    (k (1, false))))
noncomputable def r34 (x0 : List (List Int)) : Nat × Bool := w34 x0 (fun p => p)
noncomputable def g34 (x0 : List (List Int)) (p : Nat × Bool) : List (Bool × Value × St) := [((Nat.beq (p.1) 0), .bool (p.2), ⟨[⟨true, (some (.tab sc0 x0))⟩], 1, []⟩)]
theorem p34 {α : Type} (x0 : List (List Int)) (f : (Nat × Bool) → α) : w34 x0 f = f (w34 x0 (fun p => p)) := by unfold w34; exact (cond_app f _ rfl (cond_app f _ rfl (cond_app f _ rfl rfl)))
set_option maxRecDepth 100000 in
set_option maxHeartbeats 4000000 in
theorem e34 (x0 : List (List Int)) : evFn Tryz.prog ext T12 L34_1 200 Tryz.f34 [wsl 0] ⟨[⟨true, (some (.tab sc0 x0))⟩], 1, []⟩ = firstT (g34 x0 (r34 x0)) :=
 Eq.trans (by kernel_rfl) (p34 x0 (fun p => firstT (g34 x0 p)))
noncomputable def s34 (args : List Value) (s : St) : List (Bool × Value × St) :=
 match args, s.h with
 | [.iface f0 .nilIface], [⟨true, some (.tab [.fl .f32, .fl .f32, .fl .f32, .fl .f32, .int .i64] x0)⟩] => if f0 = 0 then (g34 x0 (r34 x0)) else T12 34 args s
 | _, _ => T12 34 args s
noncomputable def T13 : CallF := addF T12 34 s34
set_option maxRecDepth 100000 in
set_option maxHeartbeats 4000000 in
theorem ok13 : CfOk Tryz.prog T13 := by
  refine cfOk_add ok12 fun args s r s' h1 h2 h3 => ?_
  unfold s34 at h3; split at h3
  · rename_i h; split at h3
    · rename_i hc; obtain ⟨rfl⟩ := hc; exact callOk ok12 Tryz.func34 h1 h2 h lok34_1.body (e34 _) rfl h3
    · exact ok12 _ _ _ _ _ h1 h2 h3
  · exact ok12 _ _ _ _ _ h1 h2 h3

/-- spec.ReadChimney -/
noncomputable def r6 (x0 : ByteArray) : Nat × Int × List (List Int) :=
 let c37 := (r6l0 (1000 + 0 + ((r31 x0 10).2.1).length) ((((r31 x0 10).2.1).length : Nat) : Int) 0 ((r31 x0 10).2.1) ([] : List (List Int)))
 let c116 := (r6l0 (1000 + 0 + 1) 1 0 ([((r31 x0 10).2.2)] : List ByteArray) ([] : List (List Int)))
 cond (Nat.beq ((r31 x0 10).1) 0)
  (cond (decide ((((((r31 x0 10).2.1).length : Nat) : Int) : Int) > 7))
   (0, 5, ([] : List (List Int)))
   (cond ((decide ((0 : Int) ≤ (IntKind.i64.wrap (((((r31 x0 10).2.1).length : Nat) : Int) - 1)))) && (Nat.blt (Int.toNat (IntKind.i64.wrap (((((r31 x0 10).2.1).length : Nat) : Int) - 1))) (((r31 x0 10).2.1).length)))
    (cond (!((((r31 x0 10).2.1).getD (Int.toNat (IntKind.i64.wrap (((((r31 x0 10).2.1).length : Nat) : Int) - 1))) .empty).toList == (ByteArray.mk #[]).toList))
     (0, 5, ([] : List (List Int)))
     (cond (Nat.beq (c37.1) 0)
      (0, 5, ([] : List (List Int)))
      (cond (Nat.beq (c37.1) 1)
       (0, 5, ([] : List (List Int)))
       (cond (Nat.beq (c37.1) 2)
        (cond (Nat.beq ((r34 (c37.2.2)).1) 0)
         (cond (!((r34 (c37.2.2)).2))
          (0, 5, ([] : List (List Int)))
          (0, 0, (c37.2.2)))
         (1, 0, []))
        (cond (Nat.beq (c37.1) 3)
         (cond (Nat.beq ((r34 ([] : List (List Int))).1) 0)
          (cond (!((r34 ([] : List (List Int))).2))
           (0, 5, ([] : List (List Int)))
           (0, 0, ([] : List (List Int))))
          (1, 0, []))
         (1, 0, []))))))
    (1, 0, [])))
  (cond (Nat.beq ((r31 x0 10).1) 1)
   (cond (!(((r31 x0 10).2.2).toList == (ByteArray.mk #[]).toList))
    (0, 5, ([] : List (List Int)))
    (cond (Nat.beq (c116.1) 0)
     (0, 5, ([] : List (List Int)))
     (cond (Nat.beq (c116.1) 1)
      (0, 5, ([] : List (List Int)))
      (cond (Nat.beq (c116.1) 2)
       (cond (Nat.beq ((r34 (c116.2.2)).1) 0)
        (cond (!((r34 (c116.2.2)).2))
         (0, 5, ([] : List (List Int)))
         (0, 0, (c116.2.2)))
        (1, 0, []))
       (cond (Nat.beq (c116.1) 3)
        (cond (Nat.beq ((r34 ([] : List (List Int))).1) 0)
         (cond (!((r34 ([] : List (List Int))).2))
          (0, 5, ([] : List (List Int)))
          (0, 0, ([] : List (List Int))))
         (1, 0, []))
        (1, 0, []))))))
   (1, 0, []))
noncomputable def a6 (x0 : ByteArray) (p : Nat × Int × List (List Int)) : Res := firstT [((Nat.beq (p.1) 0), .tuple #[wsl 0, vi (p.2.1)], ⟨[⟨true, (some (.tab sc0 (p.2.2)))⟩], 0, []⟩)]
noncomputable def w6 (x0 : ByteArray) : Res :=
 let c37 := (r6l0 (1000 + 0 + ((r31 x0 10).2.1).length) ((((r31 x0 10).2.1).length : Nat) : Int) 0 ((r31 x0 10).2.1) ([] : List (List Int)))
 let c116 := (r6l0 (1000 + 0 + 1) 1 0 ([((r31 x0 10).2.2)] : List ByteArray) ([] : List (List Int)))
 (cond (Nat.beq ((r31 x0 10).1) 0)
 (cond (decide ((((((r31 x0 10).2.1).length : Nat) : Int) : Int) > 7))
  (a6 x0 (0, 5, ([] : List (List Int))))
  (cond ((decide ((0 : Int) ≤ (IntKind.i64.wrap (((((r31 x0 10).2.1).length : Nat) : Int) - 1)))) && (Nat.blt (Int.toNat (IntKind.i64.wrap (((((r31 x0 10).2.1).length : Nat) : Int) - 1))) (((r31 x0 10).2.1).length)))
   (cond (Nat.blt (Int.toNat (IntKind.i64.wrap (((((r31 x0 10).2.1).length : Nat) : Int) - 1))) (((r31 x0 10).2.1).length))
    (cond (!((((r31 x0 10).2.1).getD (Int.toNat (IntKind.i64.wrap (((((r31 x0 10).2.1).length : Nat) : Int) - 1))) .empty).toList == (ByteArray.mk #[]).toList))
     (a6 x0 (0, 5, ([] : List (List Int))))
     (cond (Nat.beq (c37.1) 0)
      (a6 x0 (0, 5, ([] : List (List Int))))
      (cond (Nat.beq (c37.1) 1)
       (a6 x0 (0, 5, ([] : List (List Int))))
       (cond (Nat.beq (c37.1) 2)
        (cond (Nat.beq ((r34 (c37.2.2)).1) 0)
         (cond (!((r34 (c37.2.2)).2))
          (a6 x0 (0, 5, ([] : List (List Int))))
          (a6 x0 (0, 0, (c37.2.2))))
         none)
        (cond (Nat.beq (c37.1) 3)
         (cond (Nat.beq ((r34 ([] : List (List Int))).1) 0)
          (cond (!((r34 ([] : List (List Int))).2))
           (a6 x0 (0, 5, ([] : List (List Int))))
           (a6 x0 (0, 0, ([] : List (List Int)))))
          none)
         none)))))
    none)
   none))
 (cond (Nat.beq ((r31 x0 10).1) 1)
  (cond (!(((r31 x0 10).2.2).toList == (ByteArray.mk #[]).toList))
   (a6 x0 (0, 5, ([] : List (List Int))))
   (cond (Nat.beq (c116.1) 0)
    (a6 x0 (0, 5, ([] : List (List Int))))
    (cond (Nat.beq (c116.1) 1)
     (a6 x0 (0, 5, ([] : List (List Int))))
     (cond (Nat.beq (c116.1) 2)
      (cond (Nat.beq ((r34 (c116.2.2)).1) 0)
       (cond (!((r34 (c116.2.2)).2))
        (a6 x0 (0, 5, ([] : List (List Int))))
        (a6 x0 (0, 0, (c116.2.2))))
       none)
      (cond (Nat.beq (c116.1) 3)
       (cond (Nat.beq ((r34 ([] : List (List Int))).1) 0)
        (cond (!((r34 ([] : List (List Int))).2))
         (a6 x0 (0, 5, ([] : List (List Int))))
         (a6 x0 (0, 0, ([] : List (List Int)))))
        none)
       none)))))
  none))
set_option maxRecDepth 100000 in
set_option maxHeartbeats 4000000 in
theorem e6 (x0 : ByteArray) : evFn Tryz.prog ext T13 L6_1 200 Tryz.f6 [.string x0] st0 = firstT [((Nat.beq ((r6 x0).1) 0), .tuple #[wsl 0, vi ((r6 x0).2.1)], ⟨[⟨true, (some (.tab sc0 ((r6 x0).2.2)))⟩], 0, []⟩)] :=
 (show evFn Tryz.prog ext T13 L6_1 200 Tryz.f6 [.string x0] st0 = w6 x0 from by kernel_rfl).trans
 (show w6 x0 = a6 x0 (r6 x0) from by unfold w6 r6; exact (cond_both (a6 x0) _ (fun h0 => (cond_both (a6 x0) _ (fun h1 => rfl) (fun h1 => (cond_both (a6 x0) _ (fun h2 => (cond_t (ev_and2 h2) (cond_app (a6 x0) _ rfl (cond_app (a6 x0) _ rfl (cond_app (a6 x0) _ rfl (cond_app (a6 x0) _ (cond_app (a6 x0) _ (cond_app (a6 x0) _ rfl rfl) rfl) (cond_app (a6 x0) _ (cond_app (a6 x0) _ (cond_app (a6 x0) _ rfl rfl) rfl) rfl))))))) (fun h2 => rfl))))) (fun h0 => (cond_app (a6 x0) _ (cond_app (a6 x0) _ rfl (cond_app (a6 x0) _ rfl (cond_app (a6 x0) _ rfl (cond_app (a6 x0) _ (cond_app (a6 x0) _ (cond_app (a6 x0) _ rfl rfl) rfl) (cond_app (a6 x0) _ (cond_app (a6 x0) _ (cond_app (a6 x0) _ rfl rfl) rfl) rfl))))) rfl))))
noncomputable def s6 (args : List Value) (s : St) : List (Bool × Value × St) :=
 match args, s.h with
 | [.string x0], [] => [((Nat.beq ((r6 x0).1) 0), .tuple #[wsl 0, vi ((r6 x0).2.1)], ⟨[⟨true, (some (.tab sc0 ((r6 x0).2.2)))⟩], 0, []⟩)]
 | _, _ => T13 6 args s
noncomputable def T14 : CallF := addF T13 6 s6
set_option maxRecDepth 100000 in
set_option maxHeartbeats 4000000 in
theorem ok14 : CfOk Tryz.prog T14 := by
  refine cfOk_add ok13 fun args s r s' h1 h2 h3 => ?_
  unfold s6 at h3; split at h3
  · rename_i h; exact callOk ok13 Tryz.func6 h1 h2 h lok6_1.body (e6 _) rfl h3
  · exact ok13 _ _ _ _ _ h1 h2 h3

/-- impl.linesOf -/
noncomputable def w35 {α : Type} (x0 : ByteArray) (k : (Nat × Nat × Bool × List ByteArray) → α) : α :=
 cond (x0.toList == (ByteArray.mk #[]).toList)
  (k (0, 0, false, []))
  (cond (Nat.blt (x0.size) 4294967281)
   (cond (((decide ((0 : Int) ≤ (IntKind.i64.wrap ((((splB 10 x0).length : Nat) : Int) - 1)))) && (Nat.ble 0 (Int.toNat (IntKind.i64.wrap ((((splB 10 x0).length : Nat) : Int) - 1))))) && (Nat.ble (Int.toNat (IntKind.i64.wrap ((((splB 10 x0).length : Nat) : Int) - 1))) ((splB 10 x0).length)))
    (cond ((decide ((0 : Int) ≤ (IntKind.i64.wrap ((((splB 10 x0).length : Nat) : Int) - 1)))) && (Nat.blt (Int.toNat (IntKind.i64.wrap ((((splB 10 x0).length : Nat) : Int) - 1))) ((splB 10 x0).length)))
     (cond (Nat.blt (0 + (Int.toNat (IntKind.i64.wrap ((((splB 10 x0).length : Nat) : Int) - 1)))) ((splB 10 x0).length))
      (k (1, (Int.toNat (IntKind.i64.wrap ((((splB 10 x0).length : Nat) : Int) - 1))), (((splB 10 x0).getD (0 + (Int.toNat (IntKind.i64.wrap ((((splB 10 x0).length : Nat) : Int) - 1)))) .empty).toList == (ByteArray.mk #[]).toList), (splB 10 x0)))
      (k (2, 0, false, [])))
     (k (2, 0, false, [])))
    (k (2, 0, false, [])))
   (k (2, 0, false, [])))
noncomputable def r35 (x0 : ByteArray) : Nat × Nat × Bool × List ByteArray := w35 x0 (fun p => p)
noncomputable def g35 (x0 : ByteArray) (p : Nat × Nat × Bool × List ByteArray) : List (Bool × Value × St) := [((Nat.beq (p.1) 0), .tuple #[.slice none 0 0, .bool true], st0), ((Nat.beq (p.1) 1), .tuple #[rsl ⟨0, 0, some 0⟩ (p.2.1), .bool (p.2.2.1)], ⟨[⟨true, (some (.strs (p.2.2.2)))⟩], 0, []⟩)]
theorem p35 {α : Type} (x0 : ByteArray) (f : (Nat × Nat × Bool × List ByteArray) → α) : w35 x0 f = f (w35 x0 (fun p => p)) := by unfold w35; repeat' (first | refine cond_app f _ ?_ ?_ | rfl)
set_option maxRecDepth 100000 in
set_option maxHeartbeats 4000000 in
theorem e35 (x0 : ByteArray) : evFn Tryz.prog ext T14 noL 200 Tryz.f35 [.string x0] st0 = firstT (g35 x0 (r35 x0)) :=
 Eq.trans (by kernel_rfl) (p35 x0 (fun p => firstT (g35 x0 p)))
noncomputable def s35 (args : List Value) (s : St) : List (Bool × Value × St) :=
 match args, s.h with
 | [.string x0], [] => (g35 x0 (r35 x0))
 | _, _ => T14 35 args s
noncomputable def T15 : CallF := addF T14 35 s35
set_option maxRecDepth 100000 in
set_option maxHeartbeats 4000000 in
theorem ok15 : CfOk Tryz.prog T15 := by
  refine cfOk_add ok14 fun args s r s' h1 h2 h3 => ?_
  unfold s35 at h3; split at h3
  · rename_i h; exact callOk ok14 Tryz.func35 h1 h2 h (lfOkF_no _ _).body (e35 _) rfl h3
  · exact ok14 _ _ _ _ _ h1 h2 h3

/-- impl.ReadChimney, loop 0 -/
noncomputable def w7l0 {α : Type} (x0 : ByteArray) (k : Unit → α) : α :=
 k ()
noncomputable def r7l0 (x0 : ByteArray) : Unit := w7l0 x0 (fun p => p)
noncomputable def g7l0 (x0 : ByteArray) (p : Unit) : List (Bool × (Fin' × List Value × St)) := [(true, .exit 0, [.string x0, anyV, anyV, wsl 0], ⟨[⟨true, (some (.tab sc0 ([] : List (List Int))))⟩], 1, []⟩)]
theorem p7l0 {α : Type} (x0 : ByteArray) (f : Unit → α) : w7l0 x0 f = f (w7l0 x0 (fun p => p)) := by unfold w7l0; exact rfl
set_option maxRecDepth 100000 in
set_option maxHeartbeats 4000000 in
theorem e7l0 (x0 : ByteArray) : evC Tryz.prog ext T15 noL 200 (loopN Tryz.f7 0) (loopTail ([0, 6, 24, 25, 26], []) [0, 2, 3, 6] [] (sumK 62 [0, 6, 24, 25, 26] [0, 2, 3, 6] noQ)) (frameOf 62 [0, 6, 24, 25, 26] [.string x0, wsl 0, .slice none 0 0, vi 0, vi 0]) ⟨[⟨true, (some (.tab sc0 ([] : List (List Int))))⟩], 1, []⟩ = firstT ((g7l0 x0 (r7l0 x0)).map fun (b, x) => (b, (x.1, frameOf 62 [0, 2, 3, 6] x.2.1, x.2.2))) :=
 Eq.trans (by kernel_rfl) (p7l0 x0 (fun p => firstT ((g7l0 x0 p).map fun (b, x) => (b, (x.1, frameOf 62 [0, 2, 3, 6] x.2.1, x.2.2)))))
noncomputable def Q7l0 : SumK := fun vals s =>
 match vals, s.h with
 | [.string x0, .iface f0 .nilIface, .slice none f1 f2, .int .i64 f3, .int .i64 f4], [⟨true, some (.tab [.fl .f32, .fl .f32, .fl .f32, .fl .f32, .int .i64] [])⟩] => if f0 = 0 ∧ f1 = 0 ∧ f2 = 0 ∧ f3 = 0 ∧ f4 = 0 then (g7l0 x0 (r7l0 x0)) else noQ vals s
 | _, _ => noQ vals s
set_option maxRecDepth 100000 in
set_option maxHeartbeats 4000000 in
theorem qok7l0 : SumKOk Tryz.prog (loopN Tryz.f7 0) 62 [0, 6, 24, 25, 26] [0, 2, 3, 6] Q7l0 := by
  intro vals s x h1 h2 h3
  unfold Q7l0 at h3; split at h3
  · rename_i h; split at h3
    · rename_i hc; obtain ⟨rfl, rfl, rfl, rfl, rfl⟩ := hc; exact sum_step ok15 extOk mixed ((lfOkF_no _ _).inner (by kernel_rfl)) noQ_ok h1 h2 h (e7l0 _) rfl h3
    · exact noQ_ok _ _ _ h1 h2 h3
  · exact noQ_ok _ _ _ h1 h2 h3
noncomputable def L7_1 : LoopT := addL noL 7 ([0, 6, 24, 25, 26], []) (sumK 62 [0, 6, 24, 25, 26] [0, 2, 3, 6] Q7l0)
theorem lok7_1 : LfOkF Tryz.prog L7_1 Tryz.f7 := lfOkF_add (lfOkF_no _ _) qok7l0 (by kernel_rfl) (by kernel_rfl) (by kernel_rfl)

/-- math.IsNaN -/
noncomputable def w99 {α : Type} (x0 : Nat) (k : Bool → α) : α :=
 k ((!feq .f64 x0 x0))
noncomputable def r99 (x0 : Nat) : Bool := w99 x0 (fun p => p)
noncomputable def g99 (x0 : Nat) (p : Bool) : List (Bool × Value × St) := [(true, .bool p, st0)]
theorem p99 {α : Type} (x0 : Nat) (f : Bool → α) : w99 x0 f = f (w99 x0 (fun p => p)) := by unfold w99; exact rfl
set_option maxRecDepth 100000 in
set_option maxHeartbeats 4000000 in
theorem e99 (x0 : Nat) : evFn Tryz.prog ext T15 noL 200 Tryz.f99 [.float .f64 x0] st0 = firstT (g99 x0 (r99 x0)) :=
 Eq.trans (by kernel_rfl) (p99 x0 (fun p => firstT (g99 x0 p)))
noncomputable def s99 (args : List Value) (s : St) : List (Bool × Value × St) :=
 match args, s.h with
 | [.float .f64 x0], [] => (g99 x0 (r99 x0))
 | _, _ => T15 99 args s
noncomputable def T16 : CallF := addF T15 99 s99
set_option maxRecDepth 100000 in
set_option maxHeartbeats 4000000 in
theorem ok16 : CfOk Tryz.prog T16 := by
  refine cfOk_add ok15 fun args s r s' h1 h2 h3 => ?_
  unfold s99 at h3; split at h3
  · rename_i h; exact callOk ok15 Tryz.func99 h1 h2 h (lfOkF_no _ _).body (e99 _) rfl h3
  · exact ok15 _ _ _ _ _ h1 h2 h3

/-- math.Abs -/
noncomputable def w129 {α : Type} (x0 : Nat) (k : Nat → α) : α :=
 cond (!isN .f64 x0)
  (k ((Int.toNat (bits .andNot .u64 ((x0 : Nat) : Int) 9223372036854775808))))
  (k (9221120237041090560))
noncomputable def r129 (x0 : Nat) : Nat := w129 x0 (fun p => p)
noncomputable def g129 (x0 : Nat) (p : Nat) : List (Bool × Value × St) := [(true, .float .f64 p, st0)]
theorem p129 {α : Type} (x0 : Nat) (f : Nat → α) : w129 x0 f = f (w129 x0 (fun p => p)) := by unfold w129; exact (cond_app f _ rfl rfl)
set_option maxRecDepth 100000 in
set_option maxHeartbeats 4000000 in
theorem e129 (x0 : Nat) : evFn Tryz.prog ext T16 noL 200 Tryz.f129 [.float .f64 x0] st0 = firstT (g129 x0 (r129 x0)) :=
 Eq.trans (by kernel_rfl) (p129 x0 (fun p => firstT (g129 x0 p)))
noncomputable def s129 (args : List Value) (s : St) : List (Bool × Value × St) :=
 match args, s.h with
 | [.float .f64 x0], [] => (g129 x0 (r129 x0))
 | _, _ => T16 129 args s
noncomputable def T17 : CallF := addF T16 129 s129
set_option maxRecDepth 100000 in
set_option maxHeartbeats 4000000 in
theorem ok17 : CfOk Tryz.prog T17 := by
  refine cfOk_add ok16 fun args s r s' h1 h2 h3 => ?_
  unfold s129 at h3; split at h3
  · rename_i h; exact callOk ok16 Tryz.func129 h1 h2 h (lfOkF_no _ _).body (e129 _) rfl h3
  · exact ok16 _ _ _ _ _ h1 h2 h3

/-- math.IsInf -/
noncomputable def w100 {α : Type} (x0 : Nat) (x1 : Int) (k : Bool → α) : α :=
 cond ((x1 : Int) == 0)
  (k ((fgt .f64 (r129 x0) 9218868437227405311)))
  (cond (decide ((x1 : Int) < 0))
   (k ((fgt .f64 (fneg .f64 x0) 9218868437227405311)))
   (k ((fgt .f64 x0 9218868437227405311))))
noncomputable def r100 (x0 : Nat) (x1 : Int) : Bool := w100 x0 x1 (fun p => p)
noncomputable def g100 (x0 : Nat) (x1 : Int) (p : Bool) : List (Bool × Value × St) := [(true, .bool p, st0)]
theorem p100 {α : Type} (x0 : Nat) (x1 : Int) (f : Bool → α) : w100 x0 x1 f = f (w100 x0 x1 (fun p => p)) := by unfold w100; exact (cond_app f _ rfl (cond_app f _ rfl rfl))
set_option maxRecDepth 100000 in
set_option maxHeartbeats 4000000 in
theorem e100 (x0 : Nat) (x1 : Int) : evFn Tryz.prog ext T17 noL 200 Tryz.f100 [.float .f64 x0, vi x1] st0 = firstT (g100 x0 x1 (r100 x0 x1)) :=
 Eq.trans (by kernel_rfl) (p100 x0 x1 (fun p => firstT (g100 x0 x1 p)))
noncomputable def s100 (args : List Value) (s : St) : List (Bool × Value × St) :=
 match args, s.h with
 | [.float .f64 x0, .int .i64 x1], [] => (g100 x0 x1 (r100 x0 x1))
 | _, _ => T17 100 args s
noncomputable def T18 : CallF := addF T17 100 s100
set_option maxRecDepth 100000 in
set_option maxHeartbeats 4000000 in
theorem ok18 : CfOk Tryz.prog T18 := by
  refine cfOk_add ok17 fun args s r s' h1 h2 h3 => ?_
  unfold s100 at h3; split at h3
  · rename_i h; exact callOk ok17 Tryz.func100 h1 h2 h (lfOkF_no _ _).body (e100 _ _) rfl h3
  · exact ok17 _ _ _ _ _ h1 h2 h3

/-- impl.isFinite -/
noncomputable def w57 {α : Type} (x0 : Nat) (k : Bool → α) : α :=
 cond (r99 (widen x0))
  (k (false))
  (cond (r100 (widen x0) 0)
   (k (false))
   (k (true)))
noncomputable def r57 (x0 : Nat) : Bool := w57 x0 (fun p => p)
noncomputable def g57 (x0 : Nat) (p : Bool) : List (Bool × Value × St) := [(true, .bool p, ⟨[⟨true, (some (.tab [.fl .f32] ([[((x0 : Nat) : Int)]] : List (List Int))))⟩], 1, []⟩)]
theorem p57 {α : Type} (x0 : Nat) (f : Bool → α) : w57 x0 f = f (w57 x0 (fun p => p)) := by unfold w57; exact (cond_app f _ rfl (cond_app f _ rfl rfl))
set_option maxRecDepth 100000 in
set_option maxHeartbeats 4000000 in
theorem e57 (x0 : Nat) : evFn Tryz.prog ext T18 noL 200 Tryz.f57 [.slice (some ⟨0, 0, some 0⟩) 1 1] ⟨[⟨true, (some (.tab [.fl .f32] ([[((x0 : Nat) : Int)]] : List (List Int))))⟩], 1, []⟩ = firstT (g57 x0 (r57 x0)) :=
 Eq.trans (by kernel_rfl) (p57 x0 (fun p => firstT (g57 x0 p)))
noncomputable def s57 (args : List Value) (s : St) : List (Bool × Value × St) :=
 match args, s.h with
 | [.slice (some ⟨f0, f1, some f2⟩) f3 f4], [⟨true, some (.tab [.fl .f32] [[.ofNat x0]])⟩] => if f0 = 0 ∧ f1 = 0 ∧ f2 = 0 ∧ f3 = 1 ∧ f4 = 1 then (g57 x0 (r57 x0)) else T18 57 args s
 | _, _ => T18 57 args s
noncomputable def T19 : CallF := addF T18 57 s57
set_option maxRecDepth 100000 in
set_option maxHeartbeats 4000000 in
theorem ok19 : CfOk Tryz.prog T19 := by
  refine cfOk_add ok18 fun args s r s' h1 h2 h3 => ?_
  unfold s57 at h3; split at h3
  · rename_i h; split at h3
    · rename_i hc; obtain ⟨rfl, rfl, rfl, rfl, rfl⟩ := hc; exact callOk ok18 Tryz.func57 h1 h2 h (lfOkF_no _ _).body (e57 _) rfl h3
    · exact ok18 _ _ _ _ _ h1 h2 h3
  · exact ok18 _ _ _ _ _ h1 h2 h3

/-- impl.IsAmount -/
noncomputable def r91 (x0 : Nat) : Bool :=
 cond (r57 x0)
  (cond (fgt .f32 x0 0 || feq .f32 x0 0)
   ((((Int.fdiv ((x0 : Nat) : Int) (2 ^ (min (31 : Int).toNat (IntKind.bits .u32)))) : Int) == 0))
   (false))
  (false)
noncomputable def a91 (x0 : Nat) (p : Bool) : Res := firstT [(true, .bool p, st0)]
noncomputable def w91 (x0 : Nat) : Res :=
 (cond (r57 x0)
 (cond (fgt .f32 x0 0 || feq .f32 x0 0)
  (cond (!isN .f32 x0)
   (a91 x0 ((((Int.fdiv ((x0 : Nat) : Int) (2 ^ (min (31 : Int).toNat (IntKind.bits .u32)))) : Int) == 0)))
   none)
  (a91 x0 (false)))
 (a91 x0 (false)))
set_option maxRecDepth 100000 in
set_option maxHeartbeats 4000000 in
theorem e91 (x0 : Nat) : evFn Tryz.prog ext T19 noL 200 Tryz.f91 [vf x0] st0 = firstT [(true, .bool (r91 x0), st0)] :=
 (show evFn Tryz.prog ext T19 noL 200 Tryz.f91 [vf x0] st0 = w91 x0 from by kernel_rfl).trans
 (show w91 x0 = a91 x0 (r91 x0) from by unfold w91 r91; exact (cond_both (a91 x0) _ (fun h0 => (cond_both (a91 x0) _ (fun h1 => (cond_t (ev_not1 (ev_or h1 (fun hq0 => (ev_gt1 hq0)) (fun hq0 => (ev_eq1 hq0)))) rfl)) (fun h1 => rfl))) (fun h0 => rfl)))
noncomputable def s91 (args : List Value) (s : St) : List (Bool × Value × St) :=
 match args, s.h with
 | [.float .f32 x0], [] => [(true, .bool (r91 x0), st0)]
 | _, _ => T19 91 args s
noncomputable def T20 : CallF := addF T19 91 s91
set_option maxRecDepth 100000 in
set_option maxHeartbeats 4000000 in
theorem ok20 : CfOk Tryz.prog T20 := by
  refine cfOk_add ok19 fun args s r s' h1 h2 h3 => ?_
  unfold s91 at h3; split at h3
  · rename_i h; exact callOk ok19 Tryz.func91 h1 h2 h (lfOkF_no _ _).body (e91 _) rfl h3
  · exact ok19 _ _ _ _ _ h1 h2 h3

/-- impl.between -/
noncomputable def w48 {α : Type} (x0 x1 x2 : Nat) (k : Bool → α) : α :=
 cond (fgt .f32 x0 x1 || feq .f32 x0 x1)
  (k ((flt .f32 x0 x2 || feq .f32 x0 x2)))
  (k (false))
noncomputable def r48 (x0 x1 x2 : Nat) : Bool := w48 x0 x1 x2 (fun p => p)
noncomputable def g48 (x0 x1 x2 : Nat) (p : Bool) : List (Bool × Value × St) := [(true, .bool p, st0)]
theorem p48 {α : Type} (x0 x1 x2 : Nat) (f : Bool → α) : w48 x0 x1 x2 f = f (w48 x0 x1 x2 (fun p => p)) := by unfold w48; exact (cond_app f _ rfl rfl)
set_option maxRecDepth 100000 in
set_option maxHeartbeats 4000000 in
theorem e48 (x0 x1 x2 : Nat) : evFn Tryz.prog ext T20 noL 200 Tryz.f48 [vf x0, vf x1, vf x2] st0 = firstT (g48 x0 x1 x2 (r48 x0 x1 x2)) :=
 Eq.trans (by kernel_rfl) (p48 x0 x1 x2 (fun p => firstT (g48 x0 x1 x2 p)))
noncomputable def s48 (args : List Value) (s : St) : List (Bool × Value × St) :=
 match args, s.h with
 | [.float .f32 x0, .float .f32 x1, .float .f32 x2], [] => (g48 x0 x1 x2 (r48 x0 x1 x2))
 | _, _ => T20 48 args s
noncomputable def T21 : CallF := addF T20 48 s48
set_option maxRecDepth 100000 in
set_option maxHeartbeats 4000000 in
theorem ok21 : CfOk Tryz.prog T21 := by
  refine cfOk_add ok20 fun args s r s' h1 h2 h3 => ?_
  unfold s48 at h3; split at h3
  · rename_i h; exact callOk ok20 Tryz.func48 h1 h2 h (lfOkF_no _ _).body (e48 _ _ _) rfl h3
  · exact ok20 _ _ _ _ _ h1 h2 h3
end Go.Proofs.YtffpnkkhcgjmfaaGreatDoor
