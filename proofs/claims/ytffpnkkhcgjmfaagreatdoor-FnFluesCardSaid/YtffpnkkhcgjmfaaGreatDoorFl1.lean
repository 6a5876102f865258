/- What the functions that the statements reach answer, part 1. -/
import Derived.Test.YtffpnkkhcgjmfaaGreatDoorA39
import Derived.KernelRfl
import Derived.Test.YtffpnkkhcgjmfaaGreatDoorChecked
namespace Go.Proofs.YtffpnkkhcgjmfaaGreatDoor
open Go.Ab
set_option maxHeartbeats 4000000
set_option maxRecDepth 100000

def ext : FuncId → Option Ext := fun g => (cond (Nat.beq g 118) (some .f32from) (cond (Nat.beq g 126) (some .f32bits) (cond (Nat.beq g 146) (some .sqrt) (cond (Nat.beq g 147) (some .f64from) (cond (Nat.beq g 148) (some .f64bits) none)))))
theorem ext_case {g : FuncId} {e : Ext} (h : ext g = some e) : g = 118 ∧ e = .f32from ∨ g = 126 ∧ e = .f32bits ∨ g = 146 ∧ e = .sqrt ∨ g = 147 ∧ e = .f64from ∨ g = 148 ∧ e = .f64bits := by
  unfold ext at h
  cases h0 : Nat.beq g 118 with
  | true => rw [h0] at h; cases h; exact .inl ⟨Nat.eq_of_beq_eq_true h0, rfl⟩
  | false =>
    rw [h0] at h
    cases h1 : Nat.beq g 126 with
    | true => rw [h1] at h; cases h; exact .inr (.inl ⟨Nat.eq_of_beq_eq_true h1, rfl⟩)
    | false =>
      rw [h1] at h
      cases h2 : Nat.beq g 146 with
      | true => rw [h2] at h; cases h; exact .inr (.inr (.inl ⟨Nat.eq_of_beq_eq_true h2, rfl⟩))
      | false =>
        rw [h2] at h
        cases h3 : Nat.beq g 147 with
        | true => rw [h3] at h; cases h; exact .inr (.inr (.inr (.inl ⟨Nat.eq_of_beq_eq_true h3, rfl⟩)))
        | false =>
          rw [h3] at h
          cases h4 : Nat.beq g 148 with
          | true => rw [h4] at h; cases h; exact .inr (.inr (.inr (.inr (⟨Nat.eq_of_beq_eq_true h4, rfl⟩))))
          | false =>
            rw [h4] at h
            cases h
theorem extOk : ExtOk Tryz.prog ext := by
  intro g e h
  rcases ext_case h with ⟨rfl, rfl⟩ | ⟨rfl, rfl⟩ | ⟨rfl, rfl⟩ | ⟨rfl, rfl⟩ | ⟨rfl, rfl⟩
  · exact ⟨Tryz.f118, Tryz.func118, by kernel_rfl, by kernel_rfl, by kernel_rfl, by kernel_rfl⟩
  · exact ⟨Tryz.f126, Tryz.func126, by kernel_rfl, by kernel_rfl, by kernel_rfl, by kernel_rfl⟩
  · exact ⟨Tryz.f146, Tryz.func146, by kernel_rfl, by kernel_rfl, by kernel_rfl, by kernel_rfl⟩
  · exact ⟨Tryz.f147, Tryz.func147, by kernel_rfl, by kernel_rfl, by kernel_rfl, by kernel_rfl⟩
  · exact ⟨Tryz.f148, Tryz.func148, by kernel_rfl, by kernel_rfl, by kernel_rfl, by kernel_rfl⟩
theorem mixed : Tryz.prog.follows .mixedOrders = true := by kernel_rfl
theorem callOk {cf : CallF} (hcf : CfOk Tryz.prog cf) {lf : LoopT} {N : Nat} {f : FuncId} {fn : Func} (hf : Tryz.prog.funcs[f]? = some fn) {args : List Value} {s : St} {l : List Blk} {n : Nat} {L : List (Bool × Value × St)} {r' : Value} {s' : St} (h1 : s.lo = s.h.length) (h2 : s.wr = []) (h : s.h = l) (hl : ∀ c, fn.body = some c → LfOk Tryz.prog lf (loopsOf c)) (he : evFn Tryz.prog ext cf lf N fn args ⟨l, n, []⟩ = firstT L) (hn : n = l.length) (h3 : firstT L = some (r', s')) : CallsOK Tryz.prog f args s r' s' :=
  call_ok extOk mixed hcf hf h1 h2 h hl he hn h3
def lays156_ren : Go.Shelf.Ren := ⟨fun | 156 => 83 | 165 => 122 | 166 => 123 | 169 => 124 | 240 => 143 | 241 => 144 | 276 => 162 | 277 => 163 | n => n, fun | 31 => 45 | 9 => 9 | 3 => 3 | 4 => 4 | 0 => 0 | 20 => 20 | 72 => 142 | 76 => 144 | 70 => 140 | 37 => 28 | 75 => 137 | 127 => 155 | 164 => 167 | 5 => 5 | 80 => 88 | n => n, fun | n => n⟩
theorem lays156 : Go.Proofs.Lays.n156 Tryz.prog lays156_ren := {
  mixed := by kernel_rfl
  f156 := Tryz.func83.trans (congrArg some (by kernel_rfl))
  f165 := Tryz.func122.trans (congrArg some (by kernel_rfl))
  f166 := Tryz.func123.trans (congrArg some (by kernel_rfl))
  f169 := Tryz.func124.trans (congrArg some (by kernel_rfl))
  f240 := Tryz.func143.trans (congrArg some (by kernel_rfl))
  f241 := Tryz.func144.trans (congrArg some (by kernel_rfl))
  f276 := Tryz.func162.trans (congrArg some (by kernel_rfl))
  f277 := Tryz.func163.trans (congrArg some (by kernel_rfl))
  t0 := Tryz.underlying0
  a0 := Tryz.isAgg0
  z0 := Tryz.sizeOf0
  v0 := Tryz.zeroValue0
  t3 := Tryz.underlying3
  a3 := Tryz.isAgg3
  z3 := Tryz.sizeOf3
  v3 := Tryz.zeroValue3
  t4 := Tryz.underlying4
  a4 := Tryz.isAgg4
  z4 := Tryz.sizeOf4
  v4 := Tryz.zeroValue4
  t9 := Tryz.underlying9
  a9 := Tryz.isAgg9
  z9 := Tryz.sizeOf9
  v9 := Tryz.zeroValue9
  t20 := Tryz.underlying20
  a20 := Tryz.isAgg20
  z20 := Tryz.sizeOf20
  v20 := Tryz.zeroValue20
  t31 := Tryz.underlying45
  a31 := Tryz.isAgg45
  z31 := Tryz.sizeOf45
  v31 := Tryz.zeroValue45
  t37 := Tryz.underlying28
  a37 := Tryz.isAgg28
  z37 := Tryz.sizeOf28
  v37 := Tryz.zeroValue28
  t70 := Tryz.underlying140
  a70 := Tryz.isAgg140
  z70 := Tryz.sizeOf140
  v70 := Tryz.zeroValue140
  t72 := Tryz.underlying142
  a72 := Tryz.isAgg142
  z72 := Tryz.sizeOf142
  v72 := Tryz.zeroValue142
  t75 := Tryz.underlying137
  a75 := Tryz.isAgg137
  z75 := Tryz.sizeOf137
  v75 := Tryz.zeroValue137
  t76 := Tryz.underlying144
  a76 := Tryz.isAgg144
  z76 := Tryz.sizeOf144
  v76 := Tryz.zeroValue144
  t127 := Tryz.underlying155
  a127 := Tryz.isAgg155
  z127 := Tryz.sizeOf155
  v127 := Tryz.zeroValue155
  t164 := Tryz.underlying167
  a164 := Tryz.isAgg167
  z164 := Tryz.sizeOf167
  v164 := Tryz.zeroValue167 }
def lays146_ren : Go.Shelf.Ren := ⟨fun | 146 => 63 | 221 => 107 | 268 => 136 | 138 => 137 | 143 => 138 | 195 => 151 | 197 => 152 | 218 => 153 | 219 => 154 | 260 => 169 | 217 => 156 | 225 => 170 | 224 => 171 | 267 => 172 | 266 => 175 | 314 => 189 | n => n, fun | 9 => 9 | 31 => 45 | 3 => 3 | 4 => 4 | 0 => 0 | 105 => 159 | 21 => 21 | 5 => 5 | 46 => 148 | 119 => 188 | 139 => 191 | 138 => 190 | 146 => 192 | 51 => 131 | n => n, fun | 1 => 1 | 3 => 5 | 4 => 6 | n => n⟩
theorem lays146 : Go.Proofs.Lays.n146 Tryz.prog lays146_ren := {
  mixed := by kernel_rfl
  f138 := Tryz.func137.trans (congrArg some (by kernel_rfl))
  f143 := Tryz.func138.trans (congrArg some (by kernel_rfl))
  f146 := Tryz.func63.trans (congrArg some (by kernel_rfl))
  f195 := Tryz.func151.trans (congrArg some (by kernel_rfl))
  f197 := Tryz.func152.trans (congrArg some (by kernel_rfl))
  f217 := Tryz.func156.trans (congrArg some (by kernel_rfl))
  f218 := Tryz.func153.trans (congrArg some (by kernel_rfl))
  f219 := Tryz.func154.trans (congrArg some (by kernel_rfl))
  f221 := Tryz.func107.trans (congrArg some (by kernel_rfl))
  f224 := Tryz.func171.trans (congrArg some (by kernel_rfl))
  f225 := Tryz.func170.trans (congrArg some (by kernel_rfl))
  f260 := Tryz.func169.trans (congrArg some (by kernel_rfl))
  f266 := Tryz.func175.trans (congrArg some (by kernel_rfl))
  f267 := Tryz.func172.trans (congrArg some (by kernel_rfl))
  f268 := Tryz.func136.trans (congrArg some (by kernel_rfl))
  f314 := Tryz.func189.trans (congrArg some (by kernel_rfl))
  t0 := Tryz.underlying0
  a0 := Tryz.isAgg0
  z0 := Tryz.sizeOf0
  v0 := Tryz.zeroValue0
  t3 := Tryz.underlying3
  a3 := Tryz.isAgg3
  z3 := Tryz.sizeOf3
  v3 := Tryz.zeroValue3
  t4 := Tryz.underlying4
  a4 := Tryz.isAgg4
  z4 := Tryz.sizeOf4
  v4 := Tryz.zeroValue4
  t5 := Tryz.underlying5
  a5 := Tryz.isAgg5
  z5 := Tryz.sizeOf5
  v5 := Tryz.zeroValue5
  t9 := Tryz.underlying9
  a9 := Tryz.isAgg9
  z9 := Tryz.sizeOf9
  v9 := Tryz.zeroValue9
  t21 := Tryz.underlying21
  a21 := Tryz.isAgg21
  z21 := Tryz.sizeOf21
  v21 := Tryz.zeroValue21
  t31 := Tryz.underlying45
  a31 := Tryz.isAgg45
  z31 := Tryz.sizeOf45
  v31 := Tryz.zeroValue45
  t46 := Tryz.underlying148
  a46 := Tryz.isAgg148
  z46 := Tryz.sizeOf148
  v46 := Tryz.zeroValue148
  t51 := Tryz.underlying131
  a51 := Tryz.isAgg131
  z51 := Tryz.sizeOf131
  v51 := Tryz.zeroValue131
  t105 := Tryz.underlying159
  a105 := Tryz.isAgg159
  z105 := Tryz.sizeOf159
  v105 := Tryz.zeroValue159
  t119 := Tryz.underlying188
  a119 := Tryz.isAgg188
  z119 := Tryz.sizeOf188
  t138 := Tryz.underlying190
  a138 := Tryz.isAgg190
  z138 := Tryz.sizeOf190
  v138 := Tryz.zeroValue190
  t139 := Tryz.underlying191
  a139 := Tryz.isAgg191
  z139 := Tryz.sizeOf191
  v139 := Tryz.zeroValue191
  t146 := Tryz.underlying192
  a146 := Tryz.isAgg192
  z146 := Tryz.sizeOf192
  v146 := Tryz.zeroValue192
  g1 := by kernel_rfl
  g3 := by kernel_rfl
  g4 := by kernel_rfl }
def lays137_ren : Go.Shelf.Ren := ⟨fun | 137 => 140 | 217 => 156 | 266 => 175 | n => n, fun | 9 => 9 | 5 => 5 | 3 => 3 | n => n, fun | n => n⟩
theorem lays137 : Go.Proofs.Lays.n137 Tryz.prog lays137_ren := {
  mixed := by kernel_rfl
  f137 := Tryz.func140.trans (congrArg some (by kernel_rfl))
  f217 := Tryz.func156.trans (congrArg some (by kernel_rfl))
  f266 := Tryz.func175.trans (congrArg some (by kernel_rfl))
  t3 := Tryz.underlying3
  a3 := Tryz.isAgg3
  z3 := Tryz.sizeOf3
  v3 := Tryz.zeroValue3
  t5 := Tryz.underlying5
  a5 := Tryz.isAgg5
  z5 := Tryz.sizeOf5
  v5 := Tryz.zeroValue5
  t9 := Tryz.underlying9
  a9 := Tryz.isAgg9
  z9 := Tryz.sizeOf9
  v9 := Tryz.zeroValue9 }
def lays173_ren : Go.Shelf.Ren := ⟨fun | 173 => 127 | 246 => 145 | 283 => 164 | 284 => 165 | 285 => 166 | 286 => 167 | 129 => 182 | 317 => 181 | 318 => 183 | 319 => 184 | 320 => 185 | 337 => 193 | 338 => 194 | n => n, fun | 2 => 2 | 3 => 3 | 9 => 9 | 4 => 4 | 171 => 170 | 0 => 0 | 53 => 112 | 37 => 28 | 5 => 5 | 173 => 173 | 212 => 183 | 51 => 131 | 20 => 20 | 213 => 184 | 46 => 148 | 232 => 198 | 233 => 199 | n => n, fun | 17 => 4 | 18 => 7 | 19 => 8 | n => n⟩
theorem lays173 : Go.Proofs.Lays.n173 Tryz.prog lays173_ren := {
  mixed := by kernel_rfl
  f129 := Tryz.func182.trans (congrArg some (by kernel_rfl))
  f173 := Tryz.func127.trans (congrArg some (by kernel_rfl))
  f246 := Tryz.func145.trans (congrArg some (by kernel_rfl))
  f283 := Tryz.func164.trans (congrArg some (by kernel_rfl))
  f284 := Tryz.func165.trans (congrArg some (by kernel_rfl))
  f285 := Tryz.func166.trans (congrArg some (by kernel_rfl))
  f286 := Tryz.func167.trans (congrArg some (by kernel_rfl))
  f317 := Tryz.func181.trans (congrArg some (by kernel_rfl))
  f318 := Tryz.func183.trans (congrArg some (by kernel_rfl))
  f319 := Tryz.func184.trans (congrArg some (by kernel_rfl))
  f320 := Tryz.func185.trans (congrArg some (by kernel_rfl))
  f337 := Tryz.func193.trans (congrArg some (by kernel_rfl))
  f338 := Tryz.func194.trans (congrArg some (by kernel_rfl))
  t0 := Tryz.underlying0
  a0 := Tryz.isAgg0
  z0 := Tryz.sizeOf0
  v0 := Tryz.zeroValue0
  t2 := Tryz.underlying2
  a2 := Tryz.isAgg2
  z2 := Tryz.sizeOf2
  v2 := Tryz.zeroValue2
  t3 := Tryz.underlying3
  a3 := Tryz.isAgg3
  z3 := Tryz.sizeOf3
  v3 := Tryz.zeroValue3
  t4 := Tryz.underlying4
  a4 := Tryz.isAgg4
  z4 := Tryz.sizeOf4
  v4 := Tryz.zeroValue4
  t5 := Tryz.underlying5
  a5 := Tryz.isAgg5
  z5 := Tryz.sizeOf5
  v5 := Tryz.zeroValue5
  t9 := Tryz.underlying9
  a9 := Tryz.isAgg9
  z9 := Tryz.sizeOf9
  v9 := Tryz.zeroValue9
  t20 := Tryz.underlying20
  a20 := Tryz.isAgg20
  z20 := Tryz.sizeOf20
  v20 := Tryz.zeroValue20
  t37 := Tryz.underlying28
  a37 := Tryz.isAgg28
  z37 := Tryz.sizeOf28
  v37 := Tryz.zeroValue28
  t46 := Tryz.underlying148
  a46 := Tryz.isAgg148
  z46 := Tryz.sizeOf148
  v46 := Tryz.zeroValue148
  t51 := Tryz.underlying131
  a51 := Tryz.isAgg131
  z51 := Tryz.sizeOf131
  v51 := Tryz.zeroValue131
  t53 := Tryz.underlying112
  a53 := Tryz.isAgg112
  z53 := Tryz.sizeOf112
  v53 := Tryz.zeroValue112
  t171 := Tryz.underlying170
  a171 := Tryz.isAgg170
  z171 := Tryz.sizeOf170
  v171 := Tryz.zeroValue170
  t173 := Tryz.underlying173
  a173 := Tryz.isAgg173
  z173 := Tryz.sizeOf173
  v173 := Tryz.zeroValue173
  t212 := Tryz.underlying183
  a212 := Tryz.isAgg183
  z212 := Tryz.sizeOf183
  v212 := Tryz.zeroValue183
  t213 := Tryz.underlying184
  a213 := Tryz.isAgg184
  z213 := Tryz.sizeOf184
  t232 := Tryz.underlying198
  a232 := Tryz.isAgg198
  z232 := Tryz.sizeOf198
  v232 := Tryz.zeroValue198
  t233 := Tryz.underlying199
  a233 := Tryz.isAgg199
  z233 := Tryz.sizeOf199
  v233 := Tryz.zeroValue199
  g17 := by kernel_rfl
  g18 := by kernel_rfl
  g19 := by kernel_rfl }
def laysC174_ren : Go.Shelf.Ren := ⟨fun | 174 => 121 | 247 => 141 | 245 => 142 | 287 => 157 | 279 => 158 | 280 => 159 | 281 => 160 | 282 => 161 | 321 => 176 | 322 => 177 | 316 => 178 | 171 => 180 | 205 => 179 | 243 => 192 | 246 => 145 | 283 => 164 | 284 => 165 | 285 => 166 | 286 => 167 | 129 => 182 | 317 => 181 | 318 => 183 | 319 => 184 | 320 => 185 | 337 => 193 | 338 => 194 | n => n, fun | 9 => 9 | 3 => 3 | 2 => 2 | 75 => 137 | 85 => 138 | 4 => 4 | 167 => 161 | 5 => 5 | 53 => 112 | 175 => 162 | 46 => 148 | 168 => 164 | 37 => 28 | 0 => 0 | 210 => 180 | 21 => 21 | 127 => 155 | 145 => 196 | 143 => 194 | 171 => 170 | 173 => 173 | 212 => 183 | 51 => 131 | 20 => 20 | 213 => 184 | 232 => 198 | 233 => 199 | 80 => 88 | n => n, fun | 15 => 2 | 16 => 3 | 17 => 4 | 18 => 7 | 19 => 8 | n => n⟩
theorem laysC174 : Go.Proofs.LaysC.n174 Tryz.prog laysC174_ren := {
  mixed := by kernel_rfl
  f129 := Tryz.func182.trans (congrArg some (by kernel_rfl))
  f171 := Tryz.func180.trans (congrArg some (by kernel_rfl))
  f174 := Tryz.func121.trans (congrArg some (by kernel_rfl))
  f205 := Tryz.func179.trans (congrArg some (by kernel_rfl))
  f243 := Tryz.func192.trans (congrArg some (by kernel_rfl))
  f245 := Tryz.func142.trans (congrArg some (by kernel_rfl))
  f246 := Tryz.func145.trans (congrArg some (by kernel_rfl))
  f247 := Tryz.func141.trans (congrArg some (by kernel_rfl))
  f279 := Tryz.func158.trans (congrArg some (by kernel_rfl))
  f280 := Tryz.func159.trans (congrArg some (by kernel_rfl))
  f281 := Tryz.func160.trans (congrArg some (by kernel_rfl))
  f282 := Tryz.func161.trans (congrArg some (by kernel_rfl))
  f283 := Tryz.func164.trans (congrArg some (by kernel_rfl))
  f284 := Tryz.func165.trans (congrArg some (by kernel_rfl))
  f285 := Tryz.func166.trans (congrArg some (by kernel_rfl))
  f286 := Tryz.func167.trans (congrArg some (by kernel_rfl))
  f287 := Tryz.func157.trans (congrArg some (by kernel_rfl))
  f316 := Tryz.func178.trans (congrArg some (by kernel_rfl))
  f317 := Tryz.func181.trans (congrArg some (by kernel_rfl))
  f318 := Tryz.func183.trans (congrArg some (by kernel_rfl))
  f319 := Tryz.func184.trans (congrArg some (by kernel_rfl))
  f320 := Tryz.func185.trans (congrArg some (by kernel_rfl))
  f321 := Tryz.func176.trans (congrArg some (by kernel_rfl))
  f322 := Tryz.func177.trans (congrArg some (by kernel_rfl))
  f337 := Tryz.func193.trans (congrArg some (by kernel_rfl))
  f338 := Tryz.func194.trans (congrArg some (by kernel_rfl))
  t0 := Tryz.underlying0
  a0 := Tryz.isAgg0
  z0 := Tryz.sizeOf0
  v0 := Tryz.zeroValue0
  t2 := Tryz.underlying2
  a2 := Tryz.isAgg2
  z2 := Tryz.sizeOf2
  v2 := Tryz.zeroValue2
  t3 := Tryz.underlying3
  a3 := Tryz.isAgg3
  z3 := Tryz.sizeOf3
  v3 := Tryz.zeroValue3
  t4 := Tryz.underlying4
  a4 := Tryz.isAgg4
  z4 := Tryz.sizeOf4
  v4 := Tryz.zeroValue4
  t5 := Tryz.underlying5
  a5 := Tryz.isAgg5
  z5 := Tryz.sizeOf5
  v5 := Tryz.zeroValue5
  t9 := Tryz.underlying9
  a9 := Tryz.isAgg9
  z9 := Tryz.sizeOf9
  v9 := Tryz.zeroValue9
  t20 := Tryz.underlying20
  a20 := Tryz.isAgg20
  z20 := Tryz.sizeOf20
  v20 := Tryz.zeroValue20
  t21 := Tryz.underlying21
  a21 := Tryz.isAgg21
  z21 := Tryz.sizeOf21
  v21 := Tryz.zeroValue21
  t37 := Tryz.underlying28
  a37 := Tryz.isAgg28
  z37 := Tryz.sizeOf28
  v37 := Tryz.zeroValue28
  t46 := Tryz.underlying148
  a46 := Tryz.isAgg148
  z46 := Tryz.sizeOf148
  v46 := Tryz.zeroValue148
  t51 := Tryz.underlying131
  a51 := Tryz.isAgg131
  z51 := Tryz.sizeOf131
  v51 := Tryz.zeroValue131
  t53 := Tryz.underlying112
  a53 := Tryz.isAgg112
  z53 := Tryz.sizeOf112
  v53 := Tryz.zeroValue112
  t75 := Tryz.underlying137
  a75 := Tryz.isAgg137
  z75 := Tryz.sizeOf137
  v75 := Tryz.zeroValue137
  t85 := Tryz.underlying138
  a85 := Tryz.isAgg138
  z85 := Tryz.sizeOf138
  v85 := Tryz.zeroValue138
  t127 := Tryz.underlying155
  a127 := Tryz.isAgg155
  z127 := Tryz.sizeOf155
  v127 := Tryz.zeroValue155
  t143 := Tryz.underlying194
  a143 := Tryz.isAgg194
  z143 := Tryz.sizeOf194
  v143 := Tryz.zeroValue194
  t145 := Tryz.underlying196
  a145 := Tryz.isAgg196
  z145 := Tryz.sizeOf196
  v145 := Tryz.zeroValue196
  t167 := Tryz.underlying161
  a167 := Tryz.isAgg161
  z167 := Tryz.sizeOf161
  v167 := Tryz.zeroValue161
  t168 := Tryz.underlying164
  a168 := Tryz.isAgg164
  z168 := Tryz.sizeOf164
  v168 := Tryz.zeroValue164
  t171 := Tryz.underlying170
  a171 := Tryz.isAgg170
  z171 := Tryz.sizeOf170
  v171 := Tryz.zeroValue170
  t173 := Tryz.underlying173
  a173 := Tryz.isAgg173
  z173 := Tryz.sizeOf173
  v173 := Tryz.zeroValue173
  t175 := Tryz.underlying162
  a175 := Tryz.isAgg162
  z175 := Tryz.sizeOf162
  v175 := Tryz.zeroValue162
  t210 := Tryz.underlying180
  a210 := Tryz.isAgg180
  z210 := Tryz.sizeOf180
  v210 := Tryz.zeroValue180
  t212 := Tryz.underlying183
  a212 := Tryz.isAgg183
  z212 := Tryz.sizeOf183
  v212 := Tryz.zeroValue183
  t213 := Tryz.underlying184
  a213 := Tryz.isAgg184
  z213 := Tryz.sizeOf184
  t232 := Tryz.underlying198
  a232 := Tryz.isAgg198
  z232 := Tryz.sizeOf198
  v232 := Tryz.zeroValue198
  t233 := Tryz.underlying199
  a233 := Tryz.isAgg199
  z233 := Tryz.sizeOf199
  v233 := Tryz.zeroValue199
  g15 := by kernel_rfl
  g16 := by kernel_rfl
  g17 := by kernel_rfl
  g18 := by kernel_rfl
  g19 := by kernel_rfl
  t80 := Tryz.underlying88
  a80 := Tryz.isAgg88
  z80 := Tryz.sizeOf88
  v80 := Tryz.zeroValue88
  i0 := by kernel_rfl
  i2 := by kernel_rfl
  i3 := by kernel_rfl
  i4 := by kernel_rfl
  i5 := by kernel_rfl
  i9 := by kernel_rfl
  i20 := by kernel_rfl
  i21 := by kernel_rfl
  i37 := by kernel_rfl
  i46 := by kernel_rfl
  i51 := by kernel_rfl
  i53 := by kernel_rfl
  i75 := by kernel_rfl
  i80 := by kernel_rfl
  i85 := by kernel_rfl
  i127 := by kernel_rfl
  i143 := by kernel_rfl
  i145 := by kernel_rfl
  i167 := by kernel_rfl
  i168 := by kernel_rfl
  i171 := by kernel_rfl
  i173 := by kernel_rfl
  i175 := by kernel_rfl
  i210 := by kernel_rfl
  i212 := by kernel_rfl
  i232 := by kernel_rfl
  i233 := by kernel_rfl
  m15 := by kernel_rfl
  m16 := by kernel_rfl
  m17 := by kernel_rfl
  m18 := by kernel_rfl
  m19 := by kernel_rfl
  c0 := by kernel_rfl
  c2 := by kernel_rfl
  c3 := by kernel_rfl
  c4 := by kernel_rfl
  c5 := by kernel_rfl
  c9 := by kernel_rfl
  c20 := by kernel_rfl
  c21 := by kernel_rfl
  c37 := by kernel_rfl
  c46 := by kernel_rfl
  c51 := by kernel_rfl
  c53 := by kernel_rfl
  c75 := by kernel_rfl
  c80 := by kernel_rfl
  c85 := by kernel_rfl
  c127 := by kernel_rfl
  c143 := by kernel_rfl
  c145 := by kernel_rfl
  c167 := by kernel_rfl
  c168 := by kernel_rfl
  c171 := by kernel_rfl
  c173 := by kernel_rfl
  c175 := by kernel_rfl
  c210 := by kernel_rfl
  c212 := by kernel_rfl
  c213 := by kernel_rfl
  c232 := by kernel_rfl
  c233 := by kernel_rfl }
theorem hi9 : (Tryz.prog.info? (lays146_ren.t 9)).map (fun i => (i.zero, i.size, i.bytes)) = some (some (.string ByteArray.empty), 1, 16) := by kernel_rfl
theorem bx : Go.Proofs.Builder.Extra Tryz.prog lays156_ren := {
  sizeBuilder := by kernel_rfl
  liesBuilder := by kernel_rfl
  t5 := Tryz.underlying5
  a5 := Tryz.isAgg5
  z5 := Tryz.sizeOf5
  v5 := Tryz.zeroValue5
  infoByte := by kernel_rfl
  cellsByte := by kernel_rfl
  sizeByte := by kernel_rfl
  neB5 := by decide }
theorem hsyn : Tryz.prog.globalNamed nmSyn ≠ none := by
  have e : (Tryz.prog.globalNamed nmSyn).isSome = true := by kernel_rfl
  intro h; rw [h] at e; cases e
theorem hran : Tryz.prog.globalNamed nmRan ≠ none := by
  have e : (Tryz.prog.globalNamed nmRan).isSome = true := by kernel_rfl
  intro h; rw [h] at e; cases e
theorem fn63 : Fn? Tryz.prog 63 := ⟨Tryz.f63, Tryz.func63, by kernel_rfl, by kernel_rfl⟩
def S1 : CallF := addF noF 63 sSplit
theorem okS1 : CfOk Tryz.prog S1 := cfOk_add (cfOk_no _) fun args s r s' _ _ h => split_calls lays146 hi9 fn63 args s r s' h
theorem fn83 : Fn? Tryz.prog 83 := ⟨Tryz.f83, Tryz.func83, by kernel_rfl, by kernel_rfl⟩
def S2 : CallF := addF S1 83 sJoin
theorem okS2 : CfOk Tryz.prog S2 := cfOk_add okS1 fun args s r s' _ _ h => join_calls lays156 bx fn83 args s r s' h
theorem fn121 : Fn? Tryz.prog 121 := ⟨Tryz.f121, Tryz.func121, by kernel_rfl, by kernel_rfl⟩
def S3 : CallF := addF S2 121 sParse
theorem okS3 : CfOk Tryz.prog S3 := cfOk_add okS2 fun args s r s' _ _ h => parse_calls laysC174 hsyn hran fn121 args s r s' h
theorem fn127 : Fn? Tryz.prog 127 := ⟨Tryz.f127, Tryz.func127, by kernel_rfl, by kernel_rfl⟩
def S4 : CallF := addF S3 127 sFormatSmall
theorem okS4 : CfOk Tryz.prog S4 := cfOk_add okS3 fun args s r s' _ _ h => formatSmall_calls lays173 fn127 args s r s' h
theorem fn140 : Fn? Tryz.prog 140 := ⟨Tryz.f140, Tryz.func140, by kernel_rfl, by kernel_rfl⟩
def S5 : CallF := addF S4 140 sIndexByte
theorem okS5 : CfOk Tryz.prog S5 := cfOk_add okS4 fun args s r s' _ _ h => indexByte_calls lays137 fn140 args s r s' h
def T0 : CallF := S5
theorem ok0 : CfOk Tryz.prog T0 := okS5
def sc0 : List CT := [.fl .f32, .fl .f32, .fl .f32, .fl .f32, .int .i64]

/-- laws.f6big -/
noncomputable def w11 {α : Type} (x0 : List (List Int)) (k : Bool → α) : α :=
 k ((decide ((((x0.length : Nat) : Int) : Int) > 4096)))
noncomputable def r11 (x0 : List (List Int)) : Bool := w11 x0 (fun p => p)
noncomputable def g11 (x0 : List (List Int)) (p : Bool) : List (Bool × Value × St) := [(true, .bool p, ⟨[⟨false, (some (.tab [.int .u8] x0))⟩], 1, []⟩)]
theorem p11 {α : Type} (x0 : List (List Int)) (f : Bool → α) : w11 x0 f = f (w11 x0 (fun p => p)) := by unfold w11; exact rfl
set_option maxRecDepth 100000 in
set_option maxHeartbeats 4000000 in
theorem e11 (x0 : List (List Int)) : evFn Tryz.prog ext T0 noL 200 Tryz.f11 [wsl 0] ⟨[⟨false, (some (.tab [.int .u8] x0))⟩], 1, []⟩ = firstT (g11 x0 (r11 x0)) :=
 Eq.trans (by kernel_rfl) (p11 x0 (fun p => firstT (g11 x0 p)))
noncomputable def s11 (args : List Value) (s : St) : List (Bool × Value × St) :=
 match args, s.h with
 | [.iface f0 .nilIface], [⟨false, some (.tab [.int .u8] x0)⟩] => if f0 = 0 then (g11 x0 (r11 x0)) else T0 11 args s
 | _, _ => T0 11 args s
noncomputable def T1 : CallF := addF T0 11 s11
set_option maxRecDepth 100000 in
set_option maxHeartbeats 4000000 in
theorem ok1 : CfOk Tryz.prog T1 := by
  refine cfOk_add ok0 fun args s r s' h1 h2 h3 => ?_
  unfold s11 at h3; split at h3
  · rename_i h; split at h3
    · rename_i hc; obtain ⟨rfl⟩ := hc; exact callOk ok0 Tryz.func11 h1 h2 h (lfOkF_no _ _).body (e11 _) rfl h3
    · exact ok0 _ _ _ _ _ h1 h2 h3
  · exact ok0 _ _ _ _ _ h1 h2 h3

/-- spec.l00From -/
noncomputable def w43 {α : Type} (x0 : List (List Int)) (k : (Int × Int) → α) : α :=
 k (0, 0)
noncomputable def r43 (x0 : List (List Int)) : Int × Int := w43 x0 (fun p => p)
noncomputable def g43 (x0 : List (List Int)) (p : Int × Int) : List (Bool × Value × St) := [(true, vp 1, ⟨[⟨false, (some (.tab [.int .u8] x0))⟩, ⟨true, (some (.cells [wsl 0, vi (p.1), .int .u64 (p.2)]))⟩], 1, []⟩)]
theorem p43 {α : Type} (x0 : List (List Int)) (f : (Int × Int) → α) : w43 x0 f = f (w43 x0 (fun p => p)) := by unfold w43; exact rfl
set_option maxRecDepth 100000 in
set_option maxHeartbeats 4000000 in
theorem e43 (x0 : List (List Int)) : evFn Tryz.prog ext T1 noL 200 Tryz.f43 [wsl 0] ⟨[⟨false, (some (.tab [.int .u8] x0))⟩], 1, []⟩ = firstT (g43 x0 (r43 x0)) :=
 Eq.trans (by kernel_rfl) (p43 x0 (fun p => firstT (g43 x0 p)))
noncomputable def s43 (args : List Value) (s : St) : List (Bool × Value × St) :=
 match args, s.h with
 | [.iface f0 .nilIface], [⟨false, some (.tab [.int .u8] x0)⟩] => if f0 = 0 then (g43 x0 (r43 x0)) else T1 43 args s
 | _, _ => T1 43 args s
noncomputable def T2 : CallF := addF T1 43 s43
set_option maxRecDepth 100000 in
set_option maxHeartbeats 4000000 in
theorem ok2 : CfOk Tryz.prog T2 := by
  refine cfOk_add ok1 fun args s r s' h1 h2 h3 => ?_
  unfold s43 at h3; split at h3
  · rename_i h; split at h3
    · rename_i hc; obtain ⟨rfl⟩ := hc; exact callOk ok1 Tryz.func43 h1 h2 h (lfOkF_no _ _).body (e43 _) rfl h3
    · exact ok1 _ _ _ _ _ h1 h2 h3
  · exact ok1 _ _ _ _ _ h1 h2 h3

/-- (*spec.l00Src).next -/
noncomputable def r93 (x0 x1 : Int) (x2 : List (List Int)) : Nat × Int × Int × Int :=
 cond (decide ((x0 : Int) < ((x2.length : Nat) : Int)))
  (cond ((decide ((0 : Int) ≤ x0)) && (Nat.blt (Int.toNat x0) x2.length))
   (cond (decide (((IntKind.i64.wrap (x0 + 1)) : Int) ≤ ((x2.length : Nat) : Int)))
    (0, (IntKind.i64.wrap ((x2.getD (Int.toNat x0) []).getD 0 0)), (IntKind.i64.wrap (x0 + 1)), (IntKind.u64.wrap ((IntKind.u64.wrap ((IntKind.u64.wrap (x1 * 6364136223846793005)) + (IntKind.u64.wrap (IntKind.i64.wrap ((x2.getD (Int.toNat x0) []).getD 0 0))))) + 1442695040888963407)))
    (0, (IntKind.i64.wrap (bits .and .u64 (Int.fdiv (IntKind.u64.wrap ((IntKind.u64.wrap ((IntKind.u64.wrap (x1 * 6364136223846793005)) + (IntKind.u64.wrap (IntKind.i64.wrap ((x2.getD (Int.toNat x0) []).getD 0 0))))) + 1442695040888963407)) (2 ^ (min (40 : Int).toNat (IntKind.bits .u64)))) 255)), (IntKind.i64.wrap (x0 + 1)), (IntKind.u64.wrap ((IntKind.u64.wrap ((IntKind.u64.wrap (x1 * 6364136223846793005)) + (IntKind.u64.wrap (IntKind.i64.wrap ((x2.getD (Int.toNat x0) []).getD 0 0))))) + 1442695040888963407))))
   (1, 0, 0, 0))
  (cond (decide (((IntKind.i64.wrap (x0 + 1)) : Int) ≤ ((x2.length : Nat) : Int)))
   (0, 0, (IntKind.i64.wrap (x0 + 1)), (IntKind.u64.wrap ((IntKind.u64.wrap ((IntKind.u64.wrap (x1 * 6364136223846793005)) + 0)) + 1442695040888963407)))
   (0, (IntKind.i64.wrap (bits .and .u64 (Int.fdiv (IntKind.u64.wrap ((IntKind.u64.wrap ((IntKind.u64.wrap (x1 * 6364136223846793005)) + 0)) + 1442695040888963407)) (2 ^ (min (40 : Int).toNat (IntKind.bits .u64)))) 255)), (IntKind.i64.wrap (x0 + 1)), (IntKind.u64.wrap ((IntKind.u64.wrap ((IntKind.u64.wrap (x1 * 6364136223846793005)) + 0)) + 1442695040888963407))))
noncomputable def a93 (x0 x1 : Int) (x2 : List (List Int)) (p : Nat × Int × Int × Int) : Res := firstT [((Nat.beq (p.1) 0), vi (p.2.1), ⟨[⟨true, (some (.cells [wsl 1, vi (p.2.2.1), .int .u64 (p.2.2.2)]))⟩, ⟨false, (some (.tab [.int .u8] x2))⟩], 2, [0]⟩)]
noncomputable def w93 (x0 x1 : Int) (x2 : List (List Int)) : Res :=
 (cond (decide ((x0 : Int) < ((x2.length : Nat) : Int)))
 (cond ((decide ((0 : Int) ≤ x0)) && (Nat.blt (Int.toNat x0) x2.length))
  (cond (Nat.blt (Int.toNat x0) x2.length)
   (cond (decide (((IntKind.i64.wrap (x0 + 1)) : Int) ≤ ((x2.length : Nat) : Int)))
    (a93 x0 x1 x2 (0, (IntKind.i64.wrap ((x2.getD (Int.toNat x0) []).getD 0 0)), (IntKind.i64.wrap (x0 + 1)), (IntKind.u64.wrap ((IntKind.u64.wrap ((IntKind.u64.wrap (x1 * 6364136223846793005)) + (IntKind.u64.wrap (IntKind.i64.wrap ((x2.getD (Int.toNat x0) []).getD 0 0))))) + 1442695040888963407))))
    (a93 x0 x1 x2 (0, (IntKind.i64.wrap (bits .and .u64 (Int.fdiv (IntKind.u64.wrap ((IntKind.u64.wrap ((IntKind.u64.wrap (x1 * 6364136223846793005)) + (IntKind.u64.wrap (IntKind.i64.wrap ((x2.getD (Int.toNat x0) []).getD 0 0))))) + 1442695040888963407)) (2 ^ (min (40 : Int).toNat (IntKind.bits .u64)))) 255)), (IntKind.i64.wrap (x0 + 1)), (IntKind.u64.wrap ((IntKind.u64.wrap ((IntKind.u64.wrap (x1 * 6364136223846793005)) + (IntKind.u64.wrap (IntKind.i64.wrap ((x2.getD (Int.toNat x0) []).getD 0 0))))) + 1442695040888963407)))))
   none)
  none)
 (cond (decide (((IntKind.i64.wrap (x0 + 1)) : Int) ≤ ((x2.length : Nat) : Int)))
  (a93 x0 x1 x2 (0, 0, (IntKind.i64.wrap (x0 + 1)), (IntKind.u64.wrap ((IntKind.u64.wrap ((IntKind.u64.wrap (x1 * 6364136223846793005)) + 0)) + 1442695040888963407))))
  (a93 x0 x1 x2 (0, (IntKind.i64.wrap (bits .and .u64 (Int.fdiv (IntKind.u64.wrap ((IntKind.u64.wrap ((IntKind.u64.wrap (x1 * 6364136223846793005)) + 0)) + 1442695040888963407)) (2 ^ (min (40 : Int).toNat (IntKind.bits .u64)))) 255)), (IntKind.i64.wrap (x0 + 1)), (IntKind.u64.wrap ((IntKind.u64.wrap ((IntKind.u64.wrap (x1 * 6364136223846793005)) + 0)) + 1442695040888963407))))))
set_option maxRecDepth 100000 in
set_option maxHeartbeats 4000000 in
theorem e93 (x0 x1 : Int) (x2 : List (List Int)) : evFn Tryz.prog ext T2 noL 200 Tryz.f93 [vp 0] ⟨[⟨true, (some (.cells [wsl 1, vi x0, .int .u64 x1]))⟩, ⟨false, (some (.tab [.int .u8] x2))⟩], 2, []⟩ = firstT [((Nat.beq ((r93 x0 x1 x2).1) 0), vi ((r93 x0 x1 x2).2.1), ⟨[⟨true, (some (.cells [wsl 1, vi ((r93 x0 x1 x2).2.2.1), .int .u64 ((r93 x0 x1 x2).2.2.2)]))⟩, ⟨false, (some (.tab [.int .u8] x2))⟩], 2, [0]⟩)] :=
 (show evFn Tryz.prog ext T2 noL 200 Tryz.f93 [vp 0] ⟨[⟨true, (some (.cells [wsl 1, vi x0, .int .u64 x1]))⟩, ⟨false, (some (.tab [.int .u8] x2))⟩], 2, []⟩ = w93 x0 x1 x2 from by kernel_rfl).trans
 (show w93 x0 x1 x2 = a93 x0 x1 x2 (r93 x0 x1 x2) from by unfold w93 r93; exact (cond_both (a93 x0 x1 x2) _ (fun h0 => (cond_both (a93 x0 x1 x2) _ (fun h1 => (cond_t (ev_and2 h1) (cond_app (a93 x0 x1 x2) _ rfl rfl))) (fun h1 => rfl))) (fun h0 => (cond_app (a93 x0 x1 x2) _ rfl rfl))))
noncomputable def s93 (args : List Value) (s : St) : List (Bool × Value × St) :=
 match args, s.h with
 | [.pointer (some ⟨f0, f1, some f2⟩)], [⟨true, some (.cells [.iface f3 .nilIface, .int .i64 x0, .int .u64 x1])⟩, ⟨false, some (.tab [.int .u8] x2)⟩] => if f0 = 0 ∧ f1 = 0 ∧ f2 = 0 ∧ f3 = 1 then [((Nat.beq ((r93 x0 x1 x2).1) 0), vi ((r93 x0 x1 x2).2.1), ⟨[⟨true, (some (.cells [wsl 1, vi ((r93 x0 x1 x2).2.2.1), .int .u64 ((r93 x0 x1 x2).2.2.2)]))⟩, ⟨false, (some (.tab [.int .u8] x2))⟩], 2, [0]⟩)] else T2 93 args s
 | _, _ => T2 93 args s
noncomputable def T3 : CallF := addF T2 93 s93
set_option maxRecDepth 100000 in
set_option maxHeartbeats 4000000 in
theorem ok3 : CfOk Tryz.prog T3 := by
  refine cfOk_add ok2 fun args s r s' h1 h2 h3 => ?_
  unfold s93 at h3; split at h3
  · rename_i h; split at h3
    · rename_i hc; obtain ⟨rfl, rfl, rfl, rfl⟩ := hc; exact callOk ok2 Tryz.func93 h1 h2 h (lfOkF_no _ _).body (e93 _ _ _) rfl h3
    · exact ok2 _ _ _ _ _ h1 h2 h3
  · exact ok2 _ _ _ _ _ h1 h2 h3

/-- (*spec.l00Src).pick -/
noncomputable def w47 {α : Type} (x0 x1 x2 : Int) (x3 : List (List Int)) (k : (Nat × Int × Int × Int) → α) : α :=
 let c0 := (r93 ((r93 x1 x2 x3).2.2.1) ((r93 x1 x2 x3).2.2.2) x3)
 cond (decide ((x0 : Int) ≤ 1))
  (k (0, 0, x1, x2))
  (cond (Nat.beq ((r93 x1 x2 x3).1) 0)
   (cond (decide ((x0 : Int) > 200))
    (cond (Nat.beq (c0.1) 0)
     (cond (!decide (x0 = 0))
      (k (0, (Int.tmod (IntKind.i64.wrap ((IntKind.i64.wrap (((r93 x1 x2 x3).2.1) * 256)) + (c0.2.1))) x0), (c0.2.2.1), (c0.2.2.2)))
      (k (1, 0, 0, 0)))
     (k (1, 0, 0, 0)))
    (cond (!decide (x0 = 0))
     (k (0, (Int.tmod ((r93 x1 x2 x3).2.1) x0), ((r93 x1 x2 x3).2.2.1), ((r93 x1 x2 x3).2.2.2)))
     (k (1, 0, 0, 0))))
   (k (1, 0, 0, 0)))
noncomputable def r47 (x0 x1 x2 : Int) (x3 : List (List Int)) : Nat × Int × Int × Int := w47 x0 x1 x2 x3 (fun p => p)
noncomputable def g47 (x0 x1 x2 : Int) (x3 : List (List Int)) (p : Nat × Int × Int × Int) : List (Bool × Value × St) := [((Nat.beq (p.1) 0), vi (p.2.1), ⟨[⟨true, (some (.cells [wsl 1, vi (p.2.2.1), .int .u64 (p.2.2.2)]))⟩, ⟨false, (some (.tab [.int .u8] x3))⟩], 2, [0]⟩)]
theorem p47 {α : Type} (x0 x1 x2 : Int) (x3 : List (List Int)) (f : (Nat × Int × Int × Int) → α) : w47 x0 x1 x2 x3 f = f (w47 x0 x1 x2 x3 (fun p => p)) := by unfold w47; repeat' (first | refine cond_app f _ ?_ ?_ | rfl)
set_option maxRecDepth 100000 in
set_option maxHeartbeats 4000000 in
theorem e47 (x0 x1 x2 : Int) (x3 : List (List Int)) : evFnW Tryz.prog ext T3 noL 200 [0] Tryz.f47 [vp 0, vi x0] ⟨[⟨true, (some (.cells [wsl 1, vi x1, .int .u64 x2]))⟩, ⟨false, (some (.tab [.int .u8] x3))⟩], 2, []⟩ = firstT (g47 x0 x1 x2 x3 (r47 x0 x1 x2 x3)) :=
 Eq.trans (by kernel_rfl) (p47 x0 x1 x2 x3 (fun p => firstT (g47 x0 x1 x2 x3 p)))
noncomputable def s47 (args : List Value) (s : St) : List (Bool × Value × St) :=
 match args, s.h with
 | [.pointer (some ⟨f0, f1, some f2⟩), .int .i64 x0], [⟨true, some (.cells [.iface f3 .nilIface, .int .i64 x1, .int .u64 x2])⟩, ⟨false, some (.tab [.int .u8] x3)⟩] => if f0 = 0 ∧ f1 = 0 ∧ f2 = 0 ∧ f3 = 1 then (g47 x0 x1 x2 x3 (r47 x0 x1 x2 x3)) else T3 47 args s
 | _, _ => T3 47 args s
noncomputable def T4 : CallF := addF T3 47 s47
set_option maxRecDepth 100000 in
set_option maxHeartbeats 4000000 in
theorem ok4 : CfOk Tryz.prog T4 := by
  refine cfOk_add ok3 fun args s r s' h1 h2 h3 => ?_
  unfold s47 at h3; split at h3
  · rename_i h; split at h3
    · rename_i hc; obtain ⟨rfl, rfl, rfl, rfl⟩ := hc; exact call_okW extOk mixed ok3 Tryz.func47 h1 h2 h (lfOkF_no _ _).body (e47 _ _ _ _) rfl h3
    · exact ok3 _ _ _ _ _ h1 h2 h3
  · exact ok3 _ _ _ _ _ h1 h2 h3

/-- spec.l03FlueDrawn -/
noncomputable def w87 {α : Type} (x0 x1 : Int) (x2 : List (List Int)) (k : (Nat × Nat × Nat × Nat × Nat × Int × Int × Int) → α) : α :=
 let c1 := (r47 16 ((r47 32 x0 x1 x2).2.2.1) ((r47 32 x0 x1 x2).2.2.2) x2)
 let c2 := (r47 9 ((r47 300 (c1.2.2.1) (c1.2.2.2) x2).2.2.1) ((r47 300 (c1.2.2.1) (c1.2.2.2) x2).2.2.2) x2)
 cond (Nat.beq ((r47 32 x0 x1 x2).1) 0)
  (cond (Nat.beq (c1.1) 0)
   (cond (Nat.beq ((r47 300 (c1.2.2.1) (c1.2.2.2) x2).1) 0)
    (cond (Nat.beq (c2.1) 0)
     (k (0, (fdiv .f32 (ofInt .f32 (IntKind.i64.wrap (1 + ((r47 32 x0 x1 x2).2.1)))) 1082130432), (fdiv .f32 (ofInt .f32 (IntKind.i64.wrap (1 + (c1.2.1)))) 1098907648), (ofInt .f32 (IntKind.i64.wrap (((r47 300 (c1.2.2.1) (c1.2.2.2) x2).2.1) - 10))), (fdiv .f32 (ofInt .f32 (c2.2.1)) 1090519040), (-1), (c2.2.2.1), (c2.2.2.2)))
     (k (1, 0, 0, 0, 0, 0, 0, 0)))
    (k (1, 0, 0, 0, 0, 0, 0, 0)))
   (k (1, 0, 0, 0, 0, 0, 0, 0)))
  (k (1, 0, 0, 0, 0, 0, 0, 0))
noncomputable def r87 (x0 x1 : Int) (x2 : List (List Int)) : Nat × Nat × Nat × Nat × Nat × Int × Int × Int := w87 x0 x1 x2 (fun p => p)
noncomputable def g87 (x0 x1 : Int) (x2 : List (List Int)) (p : Nat × Nat × Nat × Nat × Nat × Int × Int × Int) : List (Bool × Value × St) := [((Nat.beq (p.1) 0), .agg #[vf (p.2.1), vf (p.2.2.1), vf (p.2.2.2.1), vf (p.2.2.2.2.1), vi (p.2.2.2.2.2.1)], ⟨[⟨true, (some (.cells [wsl 1, vi (p.2.2.2.2.2.2.1), .int .u64 (p.2.2.2.2.2.2.2)]))⟩, ⟨false, (some (.tab [.int .u8] x2))⟩], 2, [0]⟩)]
theorem p87 {α : Type} (x0 x1 : Int) (x2 : List (List Int)) (f : (Nat × Nat × Nat × Nat × Nat × Int × Int × Int) → α) : w87 x0 x1 x2 f = f (w87 x0 x1 x2 (fun p => p)) := by unfold w87; exact (cond_app f _ (cond_app f _ (cond_app f _ (cond_app f _ rfl rfl) rfl) rfl) rfl)
set_option maxRecDepth 100000 in
set_option maxHeartbeats 4000000 in
theorem e87 (x0 x1 : Int) (x2 : List (List Int)) : evFn Tryz.prog ext T4 noL 200 Tryz.f87 [vp 0] ⟨[⟨true, (some (.cells [wsl 1, vi x0, .int .u64 x1]))⟩, ⟨false, (some (.tab [.int .u8] x2))⟩], 2, []⟩ = firstT (g87 x0 x1 x2 (r87 x0 x1 x2)) :=
 Eq.trans (by kernel_rfl) (p87 x0 x1 x2 (fun p => firstT (g87 x0 x1 x2 p)))
noncomputable def s87 (args : List Value) (s : St) : List (Bool × Value × St) :=
 match args, s.h with
 | [.pointer (some ⟨f0, f1, some f2⟩)], [⟨true, some (.cells [.iface f3 .nilIface, .int .i64 x0, .int .u64 x1])⟩, ⟨false, some (.tab [.int .u8] x2)⟩] => if f0 = 0 ∧ f1 = 0 ∧ f2 = 0 ∧ f3 = 1 then (g87 x0 x1 x2 (r87 x0 x1 x2)) else T4 87 args s
 | _, _ => T4 87 args s
noncomputable def T5 : CallF := addF T4 87 s87
set_option maxRecDepth 100000 in
set_option maxHeartbeats 4000000 in
theorem ok5 : CfOk Tryz.prog T5 := by
  refine cfOk_add ok4 fun args s r s' h1 h2 h3 => ?_
  unfold s87 at h3; split at h3
  · rename_i h; split at h3
    · rename_i hc; obtain ⟨rfl, rfl, rfl, rfl⟩ := hc; exact callOk ok4 Tryz.func87 h1 h2 h (lfOkF_no _ _).body (e87 _ _ _) rfl h3
    · exact ok4 _ _ _ _ _ h1 h2 h3
  · exact ok4 _ _ _ _ _ h1 h2 h3

/-- spec.l03Drawn, loop 0: one round -/
noncomputable def w42l0 {α : Type} (ih : Int → Int → Int → List (List Int) → List (List Int) → (Nat × Int × Int × List (List Int))) (x0 x1 x2 : Int) (x3 x4 : List (List Int)) (k : (Nat × Int × Int × List (List Int)) → α) : α :=
 cond (decide ((x0 : Int) > 0))
  (cond (Nat.beq ((r87 x1 x2 x4).1) 0)
   (cond (Nat.ble ((x3.length + 1) * 25) 140737488355328)
    (cond (Nat.beq ((ih (IntKind.i64.wrap (x0 - 1)) ((r87 x1 x2 x4).2.2.2.2.2.2.1) ((r87 x1 x2 x4).2.2.2.2.2.2.2) (((x3.drop 0).take x3.length) ++ ([[((((r87 x1 x2 x4).2.1) : Nat) : Int), ((((r87 x1 x2 x4).2.2.1) : Nat) : Int), ((((r87 x1 x2 x4).2.2.2.1) : Nat) : Int), ((((r87 x1 x2 x4).2.2.2.2.1) : Nat) : Int), ((r87 x1 x2 x4).2.2.2.2.2.1)]] : List (List Int))) x4).1) 0)
     (k (0, ((ih (IntKind.i64.wrap (x0 - 1)) ((r87 x1 x2 x4).2.2.2.2.2.2.1) ((r87 x1 x2 x4).2.2.2.2.2.2.2) (((x3.drop 0).take x3.length) ++ ([[((((r87 x1 x2 x4).2.1) : Nat) : Int), ((((r87 x1 x2 x4).2.2.1) : Nat) : Int), ((((r87 x1 x2 x4).2.2.2.1) : Nat) : Int), ((((r87 x1 x2 x4).2.2.2.2.1) : Nat) : Int), ((r87 x1 x2 x4).2.2.2.2.2.1)]] : List (List Int))) x4).2.1), ((ih (IntKind.i64.wrap (x0 - 1)) ((r87 x1 x2 x4).2.2.2.2.2.2.1) ((r87 x1 x2 x4).2.2.2.2.2.2.2) (((x3.drop 0).take x3.length) ++ ([[((((r87 x1 x2 x4).2.1) : Nat) : Int), ((((r87 x1 x2 x4).2.2.1) : Nat) : Int), ((((r87 x1 x2 x4).2.2.2.1) : Nat) : Int), ((((r87 x1 x2 x4).2.2.2.2.1) : Nat) : Int), ((r87 x1 x2 x4).2.2.2.2.2.1)]] : List (List Int))) x4).2.2.1), ((ih (IntKind.i64.wrap (x0 - 1)) ((r87 x1 x2 x4).2.2.2.2.2.2.1) ((r87 x1 x2 x4).2.2.2.2.2.2.2) (((x3.drop 0).take x3.length) ++ ([[((((r87 x1 x2 x4).2.1) : Nat) : Int), ((((r87 x1 x2 x4).2.2.1) : Nat) : Int), ((((r87 x1 x2 x4).2.2.2.1) : Nat) : Int), ((((r87 x1 x2 x4).2.2.2.2.1) : Nat) : Int), ((r87 x1 x2 x4).2.2.2.2.2.1)]] : List (List Int))) x4).2.2.2)))
     (cond (Nat.beq ((ih (IntKind.i64.wrap (x0 - 1)) ((r87 x1 x2 x4).2.2.2.2.2.2.1) ((r87 x1 x2 x4).2.2.2.2.2.2.2) (((x3.drop 0).take x3.length) ++ ([[((((r87 x1 x2 x4).2.1) : Nat) : Int), ((((r87 x1 x2 x4).2.2.1) : Nat) : Int), ((((r87 x1 x2 x4).2.2.2.1) : Nat) : Int), ((((r87 x1 x2 x4).2.2.2.2.1) : Nat) : Int), ((r87 x1 x2 x4).2.2.2.2.2.1)]] : List (List Int))) x4).1) 1)
      (k (0, ((r87 x1 x2 x4).2.2.2.2.2.2.1), ((r87 x1 x2 x4).2.2.2.2.2.2.2), (((x3.drop 0).take x3.length) ++ ([[((((r87 x1 x2 x4).2.1) : Nat) : Int), ((((r87 x1 x2 x4).2.2.1) : Nat) : Int), ((((r87 x1 x2 x4).2.2.2.1) : Nat) : Int), ((((r87 x1 x2 x4).2.2.2.2.1) : Nat) : Int), ((r87 x1 x2 x4).2.2.2.2.2.1)]] : List (List Int)))))
      (k (2, 0, 0, []))))
    (k (2, 0, 0, [])))
   (k (2, 0, 0, [])))
  (k (1, 0, 0, []))
noncomputable def b42l0 (ih : Int → Int → Int → List (List Int) → List (List Int) → (Nat × Int × Int × List (List Int))) (x0 x1 x2 : Int) (x3 x4 : List (List Int)) : Nat × Int × Int × List (List Int) := w42l0 ih x0 x1 x2 x3 x4 (fun p => p)
noncomputable def r42l0 : Nat → Int → Int → Int → List (List Int) → List (List Int) → (Nat × Int × Int × List (List Int))
 | 0 => fun _ _ _ _ _ => (2, 0, 0, [])
 | m + 1 => b42l0 (r42l0 m)
noncomputable def g42l0 (x0 x1 x2 : Int) (x3 x4 : List (List Int)) (p : Nat × Int × Int × List (List Int)) : List (Bool × (Fin' × List Value × St)) := [((Nat.beq (p.1) 0), .exit 0, [vp 0, wsl 3], ⟨[⟨true, (some (.cells [wsl 2, vi (p.2.1), .int .u64 (p.2.2.1)]))⟩, ⟨true, none⟩, ⟨false, (some (.tab [.int .u8] x4))⟩, ⟨true, (some (.tab sc0 (p.2.2.2)))⟩], 3, [0, 1]⟩), ((Nat.beq (p.1) 1), .exit 0, [vp 0, wsl 1], ⟨[⟨true, (some (.cells [wsl 2, vi x1, .int .u64 x2]))⟩, ⟨true, (some (.tab sc0 x3))⟩, ⟨false, (some (.tab [.int .u8] x4))⟩], 3, [0, 1]⟩)]
noncomputable def a42l0 (x0 x1 x2 : Int) (x3 x4 : List (List Int)) (p : Nat × Int × Int × List (List Int)) : Option (Fin' × List Value × St) := firstT ((g42l0 x0 x1 x2 x3 x4 p).map fun (b, x) => (b, (x.1, frameOf 45 [0, 3] x.2.1, x.2.2)))
noncomputable def u42l0 (x0 x1 x2 : Int) (x3 x4 : List (List Int)) (p : Nat × Int × Int × List (List Int)) : Option (Fin' × List Value × St) := alts ((g42l0 x0 x1 x2 x3 x4 p).map fun (b, x) => (b, (x.1, frameOf 45 [0, 3] x.2.1, x.2.2))) some
theorem v42l0 (x0 x1 x2 : Int) (x3 x4 : List (List Int)) (p : Nat × Int × Int × List (List Int)) : u42l0 x0 x1 x2 x3 x4 p = a42l0 x0 x1 x2 x3 x4 p := alts_first _
noncomputable def q42l0 (m : Nat) : SumK := fun vals s =>
 match vals, s.h with
 | [.pointer (some ⟨f0, f1, some f2⟩), .iface f3 .nilIface, .int .i64 x0], [⟨true, some (.cells [.iface f4 .nilIface, .int .i64 x1, .int .u64 x2])⟩, ⟨true, some (.tab [.fl .f32, .fl .f32, .fl .f32, .fl .f32, .int .i64] x3)⟩, ⟨false, some (.tab [.int .u8] x4)⟩] => if f0 = 0 ∧ f1 = 0 ∧ f2 = 0 ∧ f3 = 1 ∧ f4 = 2 then (g42l0 x0 x1 x2 x3 x4 (r42l0 m x0 x1 x2 x3 x4)) else noQ vals s
 | _, _ => noQ vals s
theorem p42l0 {α : Type} (ih : Int → Int → Int → List (List Int) → List (List Int) → (Nat × Int × Int × List (List Int))) (x0 x1 x2 : Int) (x3 x4 : List (List Int)) (f : (Nat × Int × Int × List (List Int)) → α) : w42l0 ih x0 x1 x2 x3 x4 f = f (w42l0 ih x0 x1 x2 x3 x4 (fun p => p)) := by unfold w42l0; repeat' (first | refine cond_app f _ ?_ ?_ | rfl)
set_option maxRecDepth 100000 in
set_option maxHeartbeats 4000000 in
theorem e42l0 (m : Nat) (x0 x1 x2 : Int) (x3 x4 : List (List Int)) : evC Tryz.prog ext T5 noL 200 (loopN Tryz.f42 0) (loopTail ([0, 3, 4], []) [0, 3] [0, 1] (sumK 45 [0, 3, 4] [0, 3] (q42l0 m))) (frameOf 45 [0, 3, 4] [vp 0, wsl 1, vi x0]) ⟨[⟨true, (some (.cells [wsl 2, vi x1, .int .u64 x2]))⟩, ⟨true, (some (.tab sc0 x3))⟩, ⟨false, (some (.tab [.int .u8] x4))⟩], 3, []⟩ = firstT ((g42l0 x0 x1 x2 x3 x4 (r42l0 (m + 1) x0 x1 x2 x3 x4)).map fun (b, x) => (b, (x.1, frameOf 45 [0, 3] x.2.1, x.2.2))) :=
 Eq.trans (by kernel_rfl) (p42l0 (r42l0 m) x0 x1 x2 x3 x4 (fun p => firstT ((g42l0 x0 x1 x2 x3 x4 p).map fun (b, x) => (b, (x.1, frameOf 45 [0, 3] x.2.1, x.2.2)))))
set_option maxRecDepth 100000 in
set_option maxHeartbeats 4000000 in
theorem qm42l0 : ∀ m, SumKOk Tryz.prog (loopN Tryz.f42 0) 45 [0, 3, 4] [0, 3] (q42l0 m) := by
  intro m
  induction m with
  | zero =>
    intro vals s x h1 h2 h3
    unfold q42l0 at h3; split at h3
    · rename_i h; split at h3
      · rename_i hc; obtain ⟨rfl, rfl, rfl, rfl, rfl⟩ := hc; exact absurd h3 (by simp [r42l0, g42l0, firstT, Nat.beq])
      · exact noQ_ok _ _ _ h1 h2 h3
    · exact noQ_ok _ _ _ h1 h2 h3
  | succ m ih =>
    intro vals s x h1 h2 h3
    unfold q42l0 at h3; split at h3
    · rename_i h; split at h3
      · rename_i hc; obtain ⟨rfl, rfl, rfl, rfl, rfl⟩ := hc; exact sum_step ok5 extOk mixed ((lfOkF_no _ _).inner (by kernel_rfl)) ih h1 h2 h (e42l0 m _ _ _ _ _) rfl h3
      · exact noQ_ok _ _ _ h1 h2 h3
    · exact noQ_ok _ _ _ h1 h2 h3
noncomputable def Q42l0 : SumK := fun vals s => q42l0 (fuelOf vals s.h) vals s
theorem qok42l0 : SumKOk Tryz.prog (loopN Tryz.f42 0) 45 [0, 3, 4] [0, 3] Q42l0 := fuel_ok qm42l0 fuelOf
noncomputable def L42_1 : LoopT := addL noL 4 ([0, 3, 4], []) (sumK 45 [0, 3, 4] [0, 3] Q42l0)
theorem lok42_1 : LfOkF Tryz.prog L42_1 Tryz.f42 := lfOkF_add (lfOkF_no _ _) qok42l0 (by kernel_rfl) (by kernel_rfl) (by kernel_rfl)

/-- (*spec.l00Src).one -/
noncomputable def w88 {α : Type} (x0 x1 : Int) (x2 : List (List Int)) (k : (Nat × Bool × Int × Int) → α) : α :=
 cond (Nat.beq ((r47 3 x0 x1 x2).1) 0)
  (k (0, ((((r47 3 x0 x1 x2).2.1) : Int) == 0), ((r47 3 x0 x1 x2).2.2.1), ((r47 3 x0 x1 x2).2.2.2)))
  (k (1, false, 0, 0))
noncomputable def r88 (x0 x1 : Int) (x2 : List (List Int)) : Nat × Bool × Int × Int := w88 x0 x1 x2 (fun p => p)
noncomputable def g88 (x0 x1 : Int) (x2 : List (List Int)) (p : Nat × Bool × Int × Int) : List (Bool × Value × St) := [((Nat.beq (p.1) 0), .bool (p.2.1), ⟨[⟨true, (some (.cells [wsl 1, vi (p.2.2.1), .int .u64 (p.2.2.2)]))⟩, ⟨false, (some (.tab [.int .u8] x2))⟩], 2, [0]⟩)]
theorem p88 {α : Type} (x0 x1 : Int) (x2 : List (List Int)) (f : (Nat × Bool × Int × Int) → α) : w88 x0 x1 x2 f = f (w88 x0 x1 x2 (fun p => p)) := by unfold w88; exact (cond_app f _ rfl rfl)
set_option maxRecDepth 100000 in
set_option maxHeartbeats 4000000 in
theorem e88 (x0 x1 : Int) (x2 : List (List Int)) : evFn Tryz.prog ext T5 noL 200 Tryz.f88 [vp 0, vi 3] ⟨[⟨true, (some (.cells [wsl 1, vi x0, .int .u64 x1]))⟩, ⟨false, (some (.tab [.int .u8] x2))⟩], 2, []⟩ = firstT (g88 x0 x1 x2 (r88 x0 x1 x2)) :=
 Eq.trans (by kernel_rfl) (p88 x0 x1 x2 (fun p => firstT (g88 x0 x1 x2 p)))
noncomputable def s88 (args : List Value) (s : St) : List (Bool × Value × St) :=
 match args, s.h with
 | [.pointer (some ⟨f0, f1, some f2⟩), .int .i64 f3], [⟨true, some (.cells [.iface f4 .nilIface, .int .i64 x0, .int .u64 x1])⟩, ⟨false, some (.tab [.int .u8] x2)⟩] => if f0 = 0 ∧ f1 = 0 ∧ f2 = 0 ∧ f3 = 3 ∧ f4 = 1 then (g88 x0 x1 x2 (r88 x0 x1 x2)) else T5 88 args s
 | _, _ => T5 88 args s
noncomputable def T6 : CallF := addF T5 88 s88
set_option maxRecDepth 100000 in
set_option maxHeartbeats 4000000 in
theorem ok6 : CfOk Tryz.prog T6 := by
  refine cfOk_add ok5 fun args s r s' h1 h2 h3 => ?_
  unfold s88 at h3; split at h3
  · rename_i h; split at h3
    · rename_i hc; obtain ⟨rfl, rfl, rfl, rfl, rfl⟩ := hc; exact callOk ok5 Tryz.func88 h1 h2 h (lfOkF_no _ _).body (e88 _ _ _) rfl h3
    · exact ok5 _ _ _ _ _ h1 h2 h3
  · exact ok5 _ _ _ _ _ h1 h2 h3

/-- spec.l03Drawn, loop 1: one round -/
noncomputable def b42l1 (ih : Int → Int → Int → Int → Int → List (List Int) → List (List Int) → (Nat × Int × Int × List (List Int))) (x0 x1 x2 x3 x4 : Int) (x5 x6 : List (List Int)) : Nat × Int × Int × List (List Int) :=
 cond (decide ((x2 : Int) < x0))
  (cond ((x2 : Int) != x1)
   (cond (Nat.beq ((r88 x3 x4 x6).1) 0)
    (cond (!((r88 x3 x4 x6).2.1))
     (cond ((decide ((0 : Int) ≤ x2)) && (Nat.blt (Int.toNat x2) x5.length))
      (ih x0 x1 (IntKind.i64.wrap (x2 + 1)) ((r88 x3 x4 x6).2.2.1) ((r88 x3 x4 x6).2.2.2) (x5.modify (Int.toNat x2) (fun r => spl 5 r 4 [x1])) x6)
      (1, 0, 0, []))
     (ih x0 x1 (IntKind.i64.wrap (x2 + 1)) ((r88 x3 x4 x6).2.2.1) ((r88 x3 x4 x6).2.2.2) x5 x6))
    (1, 0, 0, []))
   (ih x0 x1 (IntKind.i64.wrap (x2 + 1)) x3 x4 x5 x6))
  (0, x3, x4, x5)
noncomputable def r42l1 : Nat → Int → Int → Int → Int → Int → List (List Int) → List (List Int) → (Nat × Int × Int × List (List Int))
 | 0 => fun _ _ _ _ _ _ _ => (1, 0, 0, [])
 | m + 1 => b42l1 (r42l1 m)
noncomputable def a42l1 (x0 x1 x2 x3 x4 : Int) (x5 x6 : List (List Int)) (p : Nat × Int × Int × List (List Int)) : Option (Fin' × List Value × St) := firstT ([((Nat.beq (p.1) 0), .exit 2, [wsl 1], ⟨[⟨true, (some (.cells [wsl 2, vi (p.2.1), .int .u64 (p.2.2.1)]))⟩, ⟨true, (some (.tab sc0 (p.2.2.2)))⟩, ⟨false, (some (.tab [.int .u8] x6))⟩], 3, [0, 1]⟩)].map fun (b, x) => (b, (x.1, frameOf 45 [3] x.2.1, x.2.2)))
noncomputable def u42l1 (x0 x1 x2 x3 x4 : Int) (x5 x6 : List (List Int)) (p : Nat × Int × Int × List (List Int)) : Option (Fin' × List Value × St) := alts ([((Nat.beq (p.1) 0), .exit 2, [wsl 1], ⟨[⟨true, (some (.cells [wsl 2, vi (p.2.1), .int .u64 (p.2.2.1)]))⟩, ⟨true, (some (.tab sc0 (p.2.2.2)))⟩, ⟨false, (some (.tab [.int .u8] x6))⟩], 3, [0, 1]⟩)].map fun (b, x) => (b, (x.1, frameOf 45 [3] x.2.1, x.2.2))) some
theorem v42l1 (x0 x1 x2 x3 x4 : Int) (x5 x6 : List (List Int)) (p : Nat × Int × Int × List (List Int)) : u42l1 x0 x1 x2 x3 x4 x5 x6 p = a42l1 x0 x1 x2 x3 x4 x5 x6 p := alts_first _
noncomputable def q42l1 (m : Nat) : SumK := fun vals s =>
 match vals, s.h with
 | [.pointer (some ⟨f0, f1, some f2⟩), .iface f3 .nilIface, .int .i64 x0, .int .i64 x1, .int .i64 x2], [⟨true, some (.cells [.iface f4 .nilIface, .int .i64 x3, .int .u64 x4])⟩, ⟨true, some (.tab [.fl .f32, .fl .f32, .fl .f32, .fl .f32, .int .i64] x5)⟩, ⟨false, some (.tab [.int .u8] x6)⟩] => if f0 = 0 ∧ f1 = 0 ∧ f2 = 0 ∧ f3 = 1 ∧ f4 = 2 then [((Nat.beq ((r42l1 m x0 x1 x2 x3 x4 x5 x6).1) 0), .exit 2, [wsl 1], ⟨[⟨true, (some (.cells [wsl 2, vi ((r42l1 m x0 x1 x2 x3 x4 x5 x6).2.1), .int .u64 ((r42l1 m x0 x1 x2 x3 x4 x5 x6).2.2.1)]))⟩, ⟨true, (some (.tab sc0 ((r42l1 m x0 x1 x2 x3 x4 x5 x6).2.2.2)))⟩, ⟨false, (some (.tab [.int .u8] x6))⟩], 3, [0, 1]⟩)] else noQ vals s
 | _, _ => noQ vals s
noncomputable def w42l1 (ih : Int → Int → Int → Int → Int → List (List Int) → List (List Int) → (Nat × Int × Int × List (List Int))) (x0 x1 x2 x3 x4 : Int) (x5 x6 : List (List Int)) : Option (Fin' × List Value × St) :=
 (cond (decide ((x2 : Int) < x0))
 (cond ((x2 : Int) != x1)
  (cond (Nat.beq ((r88 x3 x4 x6).1) 0)
   (cond (!((r88 x3 x4 x6).2.1))
    (cond ((decide ((0 : Int) ≤ x2)) && (Nat.blt (Int.toNat x2) x5.length))
     (cond (Nat.blt (Int.toNat x2) x5.length)
      (u42l1 x0 x1 x2 x3 x4 x5 x6 (ih x0 x1 (IntKind.i64.wrap (x2 + 1)) ((r88 x3 x4 x6).2.2.1) ((r88 x3 x4 x6).2.2.2) (x5.modify (Int.toNat x2) (fun r => spl 5 r 4 [x1])) x6))
      none)
     none)
    (u42l1 x0 x1 x2 x3 x4 x5 x6 (ih x0 x1 (IntKind.i64.wrap (x2 + 1)) ((r88 x3 x4 x6).2.2.1) ((r88 x3 x4 x6).2.2.2) x5 x6)))
   none)
  (u42l1 x0 x1 x2 x3 x4 x5 x6 (ih x0 x1 (IntKind.i64.wrap (x2 + 1)) x3 x4 x5 x6)))
 (a42l1 x0 x1 x2 x3 x4 x5 x6 (0, x3, x4, x5)))
set_option maxRecDepth 100000 in
set_option maxHeartbeats 4000000 in
theorem e42l1 (m : Nat) (x0 x1 x2 x3 x4 : Int) (x5 x6 : List (List Int)) : evC Tryz.prog ext T6 L42_1 200 (loopN Tryz.f42 1) (loopTail ([0, 3, 5, 6, 7], []) [3] [0, 1] (sumK 45 [0, 3, 5, 6, 7] [3] (q42l1 m))) (frameOf 45 [0, 3, 5, 6, 7] [vp 0, wsl 1, vi x0, vi x1, vi x2]) ⟨[⟨true, (some (.cells [wsl 2, vi x3, .int .u64 x4]))⟩, ⟨true, (some (.tab sc0 x5))⟩, ⟨false, (some (.tab [.int .u8] x6))⟩], 3, []⟩ = firstT ([((Nat.beq ((r42l1 (m + 1) x0 x1 x2 x3 x4 x5 x6).1) 0), .exit 2, [wsl 1], ⟨[⟨true, (some (.cells [wsl 2, vi ((r42l1 (m + 1) x0 x1 x2 x3 x4 x5 x6).2.1), .int .u64 ((r42l1 (m + 1) x0 x1 x2 x3 x4 x5 x6).2.2.1)]))⟩, ⟨true, (some (.tab sc0 ((r42l1 (m + 1) x0 x1 x2 x3 x4 x5 x6).2.2.2)))⟩, ⟨false, (some (.tab [.int .u8] x6))⟩], 3, [0, 1]⟩)].map fun (b, x) => (b, (x.1, frameOf 45 [3] x.2.1, x.2.2))) :=
 (show evC Tryz.prog ext T6 L42_1 200 (loopN Tryz.f42 1) (loopTail ([0, 3, 5, 6, 7], []) [3] [0, 1] (sumK 45 [0, 3, 5, 6, 7] [3] (q42l1 m))) (frameOf 45 [0, 3, 5, 6, 7] [vp 0, wsl 1, vi x0, vi x1, vi x2]) ⟨[⟨true, (some (.cells [wsl 2, vi x3, .int .u64 x4]))⟩, ⟨true, (some (.tab sc0 x5))⟩, ⟨false, (some (.tab [.int .u8] x6))⟩], 3, []⟩ = w42l1 (r42l1 m) x0 x1 x2 x3 x4 x5 x6 from by kernel_rfl).trans
 (show w42l1 (r42l1 m) x0 x1 x2 x3 x4 x5 x6 = a42l1 x0 x1 x2 x3 x4 x5 x6 (r42l1 (m + 1) x0 x1 x2 x3 x4 x5 x6) from by unfold w42l1; show _ = a42l1 x0 x1 x2 x3 x4 x5 x6 (b42l1 (r42l1 m) x0 x1 x2 x3 x4 x5 x6); unfold b42l1; exact (cond_both (a42l1 x0 x1 x2 x3 x4 x5 x6) _ (fun h0 => (cond_both (a42l1 x0 x1 x2 x3 x4 x5 x6) _ (fun h1 => (cond_both (a42l1 x0 x1 x2 x3 x4 x5 x6) _ (fun h2 => (cond_both (a42l1 x0 x1 x2 x3 x4 x5 x6) _ (fun h3 => (cond_both (a42l1 x0 x1 x2 x3 x4 x5 x6) _ (fun h4 => (cond_t (ev_and2 h4) (v42l1 x0 x1 x2 x3 x4 x5 x6 ((r42l1 m) x0 x1 (IntKind.i64.wrap (x2 + 1)) ((r88 x3 x4 x6).2.2.1) ((r88 x3 x4 x6).2.2.2) (x5.modify (Int.toNat x2) (fun r => spl 5 r 4 [x1])) x6)))) (fun h4 => rfl))) (fun h3 => (v42l1 x0 x1 x2 x3 x4 x5 x6 ((r42l1 m) x0 x1 (IntKind.i64.wrap (x2 + 1)) ((r88 x3 x4 x6).2.2.1) ((r88 x3 x4 x6).2.2.2) x5 x6))))) (fun h2 => rfl))) (fun h1 => (v42l1 x0 x1 x2 x3 x4 x5 x6 ((r42l1 m) x0 x1 (IntKind.i64.wrap (x2 + 1)) x3 x4 x5 x6))))) (fun h0 => rfl)))
set_option maxRecDepth 100000 in
set_option maxHeartbeats 4000000 in
theorem qm42l1 : ∀ m, SumKOk Tryz.prog (loopN Tryz.f42 1) 45 [0, 3, 5, 6, 7] [3] (q42l1 m) := by
  intro m
  induction m with
  | zero =>
    intro vals s x h1 h2 h3
    unfold q42l1 at h3; split at h3
    · rename_i h; split at h3
      · rename_i hc; obtain ⟨rfl, rfl, rfl, rfl, rfl⟩ := hc; exact absurd h3 (by simp [r42l1, firstT, Nat.beq])
      · exact noQ_ok _ _ _ h1 h2 h3
    · exact noQ_ok _ _ _ h1 h2 h3
  | succ m ih =>
    intro vals s x h1 h2 h3
    unfold q42l1 at h3; split at h3
    · rename_i h; split at h3
      · rename_i hc; obtain ⟨rfl, rfl, rfl, rfl, rfl⟩ := hc; exact sum_step ok6 extOk mixed (lok42_1.inner (by kernel_rfl)) ih h1 h2 h (e42l1 m _ _ _ _ _ _ _) rfl h3
      · exact noQ_ok _ _ _ h1 h2 h3
    · exact noQ_ok _ _ _ h1 h2 h3
noncomputable def Q42l1 : SumK := fun vals s => q42l1 (fuelOf vals s.h) vals s
theorem qok42l1 : SumKOk Tryz.prog (loopN Tryz.f42 1) 45 [0, 3, 5, 6, 7] [3] Q42l1 := fuel_ok qm42l1 fuelOf
noncomputable def L42_2 : LoopT := addL L42_1 10 ([0, 3, 5, 6, 7], []) (sumK 45 [0, 3, 5, 6, 7] [3] Q42l1)
theorem lok42_2 : LfOkF Tryz.prog L42_2 Tryz.f42 := lfOkF_add lok42_1 qok42l1 (by kernel_rfl) (by kernel_rfl) (by kernel_rfl)

/-- spec.l03Drawn -/
noncomputable def w42 {α : Type} (x0 x1 : Int) (x2 : List (List Int)) (k : (Nat × Int × Int × List (List Int)) → α) : α :=
 let c17 := (r42l0 (1000 + x2.length + 0) (IntKind.i64.wrap (1 + ((r47 5 x0 x1 x2).2.1))) ((r47 5 x0 x1 x2).2.2.1) ((r47 5 x0 x1 x2).2.2.2) ([] : List (List Int)) x2)
 let c18 := (r47 (((c17.2.2.2).length : Nat) : Int) (c17.2.1) (c17.2.2.1) x2)
 let c26 := (r42l1 (1000 + x2.length + (c17.2.2.2).length) (((c17.2.2.2).length : Nat) : Int) (c18.2.1) 0 (c18.2.2.1) (c18.2.2.2) (c17.2.2.2) x2)
 let c27 := (r47 0 ((r47 5 x0 x1 x2).2.2.1) ((r47 5 x0 x1 x2).2.2.2) x2)
 let c28 := (r42l1 (1000 + x2.length + 0) 0 (c27.2.1) 0 (c27.2.2.1) (c27.2.2.2) ([] : List (List Int)) x2)
 cond (Nat.beq ((r47 5 x0 x1 x2).1) 0)
  (cond (Nat.beq (c17.1) 0)
   (cond (Nat.beq (c18.1) 0)
    (cond (Nat.beq (c26.1) 0)
     (k (0, (c26.2.1), (c26.2.2.1), (c26.2.2.2)))
     (k (1, 0, 0, [])))
    (k (1, 0, 0, [])))
   (cond (Nat.beq (c17.1) 1)
    (cond (Nat.beq (c27.1) 0)
     (cond (Nat.beq (c28.1) 0)
      (k (0, (c28.2.1), (c28.2.2.1), (c28.2.2.2)))
      (k (1, 0, 0, [])))
     (k (1, 0, 0, [])))
    (k (1, 0, 0, []))))
  (k (1, 0, 0, []))
noncomputable def r42 (x0 x1 : Int) (x2 : List (List Int)) : Nat × Int × Int × List (List Int) := w42 x0 x1 x2 (fun p => p)
noncomputable def g42 (x0 x1 : Int) (x2 : List (List Int)) (p : Nat × Int × Int × List (List Int)) : List (Bool × Value × St) := [((Nat.beq (p.1) 0), wsl 2, ⟨[⟨true, (some (.cells [wsl 1, vi (p.2.1), .int .u64 (p.2.2.1)]))⟩, ⟨false, (some (.tab [.int .u8] x2))⟩, ⟨true, (some (.tab sc0 (p.2.2.2)))⟩], 2, [0]⟩)]
theorem p42 {α : Type} (x0 x1 : Int) (x2 : List (List Int)) (f : (Nat × Int × Int × List (List Int)) → α) : w42 x0 x1 x2 f = f (w42 x0 x1 x2 (fun p => p)) := by unfold w42; repeat' (first | refine cond_app f _ ?_ ?_ | rfl)
set_option maxRecDepth 100000 in
set_option maxHeartbeats 4000000 in
theorem e42 (x0 x1 : Int) (x2 : List (List Int)) : evFn Tryz.prog ext T6 L42_2 200 Tryz.f42 [vp 0] ⟨[⟨true, (some (.cells [wsl 1, vi x0, .int .u64 x1]))⟩, ⟨false, (some (.tab [.int .u8] x2))⟩], 2, []⟩ = firstT (g42 x0 x1 x2 (r42 x0 x1 x2)) :=
 Eq.trans (by kernel_rfl) (p42 x0 x1 x2 (fun p => firstT (g42 x0 x1 x2 p)))
noncomputable def s42 (args : List Value) (s : St) : List (Bool × Value × St) :=
 match args, s.h with
 | [.pointer (some ⟨f0, f1, some f2⟩)], [⟨true, some (.cells [.iface f3 .nilIface, .int .i64 x0, .int .u64 x1])⟩, ⟨false, some (.tab [.int .u8] x2)⟩] => if f0 = 0 ∧ f1 = 0 ∧ f2 = 0 ∧ f3 = 1 then (g42 x0 x1 x2 (r42 x0 x1 x2)) else T6 42 args s
 | _, _ => T6 42 args s
noncomputable def T7 : CallF := addF T6 42 s42
set_option maxRecDepth 100000 in
set_option maxHeartbeats 4000000 in
theorem ok7 : CfOk Tryz.prog T7 := by
  refine cfOk_add ok6 fun args s r s' h1 h2 h3 => ?_
  unfold s42 at h3; split at h3
  · rename_i h; split at h3
    · rename_i hc; obtain ⟨rfl, rfl, rfl, rfl⟩ := hc; exact callOk ok6 Tryz.func42 h1 h2 h lok42_2.body (e42 _ _ _) rfl h3
    · exact ok6 _ _ _ _ _ h1 h2 h3
  · exact ok6 _ _ _ _ _ h1 h2 h3

/-- spec.P6Chimney -/
noncomputable def w12 {α : Type} (x0 : List (List Int)) (k : (Nat × List (List Int)) → α) : α :=
 cond (Nat.beq ((r42 ((r43 x0).1) ((r43 x0).2) x0).1) 0)
  (k (0, ((r42 ((r43 x0).1) ((r43 x0).2) x0).2.2.2)))
  (k (1, []))
noncomputable def r12 (x0 : List (List Int)) : Nat × List (List Int) := w12 x0 (fun p => p)
noncomputable def g12 (x0 : List (List Int)) (p : Nat × List (List Int)) : List (Bool × Value × St) := [((Nat.beq (p.1) 0), wsl 1, ⟨[⟨false, (some (.tab [.int .u8] x0))⟩, ⟨true, (some (.tab sc0 (p.2)))⟩], 1, []⟩)]
theorem p12 {α : Type} (x0 : List (List Int)) (f : (Nat × List (List Int)) → α) : w12 x0 f = f (w12 x0 (fun p => p)) := by unfold w12; exact (cond_app f _ rfl rfl)
set_option maxRecDepth 100000 in
set_option maxHeartbeats 4000000 in
theorem e12 (x0 : List (List Int)) : evFn Tryz.prog ext T7 noL 200 Tryz.f12 [wsl 0] ⟨[⟨false, (some (.tab [.int .u8] x0))⟩], 1, []⟩ = firstT (g12 x0 (r12 x0)) :=
 Eq.trans (by kernel_rfl) (p12 x0 (fun p => firstT (g12 x0 p)))
noncomputable def s12 (args : List Value) (s : St) : List (Bool × Value × St) :=
 match args, s.h with
 | [.iface f0 .nilIface], [⟨false, some (.tab [.int .u8] x0)⟩] => if f0 = 0 then (g12 x0 (r12 x0)) else T7 12 args s
 | _, _ => T7 12 args s
noncomputable def T8 : CallF := addF T7 12 s12
set_option maxRecDepth 100000 in
set_option maxHeartbeats 4000000 in
theorem ok8 : CfOk Tryz.prog T8 := by
  refine cfOk_add ok7 fun args s r s' h1 h2 h3 => ?_
  unfold s12 at h3; split at h3
  · rename_i h; split at h3
    · rename_i hc; obtain ⟨rfl⟩ := hc; exact callOk ok7 Tryz.func12 h1 h2 h (lfOkF_no _ _).body (e12 _) rfl h3
    · exact ok7 _ _ _ _ _ h1 h2 h3
  · exact ok7 _ _ _ _ _ h1 h2 h3

/-- math.IsNaN -/
noncomputable def w99 {α : Type} (x0 : Nat) (k : Bool → α) : α :=
 k ((!feq .f64 x0 x0))
noncomputable def r99 (x0 : Nat) : Bool := w99 x0 (fun p => p)
noncomputable def g99 (x0 : Nat) (p : Bool) : List (Bool × Value × St) := [(true, .bool p, st0)]
theorem p99 {α : Type} (x0 : Nat) (f : Bool → α) : w99 x0 f = f (w99 x0 (fun p => p)) := by unfold w99; exact rfl
set_option maxRecDepth 100000 in
set_option maxHeartbeats 4000000 in
theorem e99 (x0 : Nat) : evFn Tryz.prog ext T8 noL 200 Tryz.f99 [.float .f64 x0] st0 = firstT (g99 x0 (r99 x0)) :=
 Eq.trans (by kernel_rfl) (p99 x0 (fun p => firstT (g99 x0 p)))
noncomputable def s99 (args : List Value) (s : St) : List (Bool × Value × St) :=
 match args, s.h with
 | [.float .f64 x0], [] => (g99 x0 (r99 x0))
 | _, _ => T8 99 args s
noncomputable def T9 : CallF := addF T8 99 s99
set_option maxRecDepth 100000 in
set_option maxHeartbeats 4000000 in
theorem ok9 : CfOk Tryz.prog T9 := by
  refine cfOk_add ok8 fun args s r s' h1 h2 h3 => ?_
  unfold s99 at h3; split at h3
  · rename_i h; exact callOk ok8 Tryz.func99 h1 h2 h (lfOkF_no _ _).body (e99 _) rfl h3
  · exact ok8 _ _ _ _ _ h1 h2 h3

/-- math.Abs -/
noncomputable def w129 {α : Type} (x0 : Nat) (k : Nat → α) : α :=
 cond (!isN .f64 x0)
  (k ((Int.toNat (bits .andNot .u64 ((x0 : Nat) : Int) 9223372036854775808))))
  (k (9221120237041090560))
noncomputable def r129 (x0 : Nat) : Nat := w129 x0 (fun p => p)
noncomputable def g129 (x0 : Nat) (p : Nat) : List (Bool × Value × St) := [(true, .float .f64 p, st0)]
theorem p129 {α : Type} (x0 : Nat) (f : Nat → α) : w129 x0 f = f (w129 x0 (fun p => p)) := by unfold w129; exact (cond_app f _ rfl rfl)
set_option maxRecDepth 100000 in
set_option maxHeartbeats 4000000 in
theorem e129 (x0 : Nat) : evFn Tryz.prog ext T9 noL 200 Tryz.f129 [.float .f64 x0] st0 = firstT (g129 x0 (r129 x0)) :=
 Eq.trans (by kernel_rfl) (p129 x0 (fun p => firstT (g129 x0 p)))
noncomputable def s129 (args : List Value) (s : St) : List (Bool × Value × St) :=
 match args, s.h with
 | [.float .f64 x0], [] => (g129 x0 (r129 x0))
 | _, _ => T9 129 args s
noncomputable def T10 : CallF := addF T9 129 s129
set_option maxRecDepth 100000 in
set_option maxHeartbeats 4000000 in
theorem ok10 : CfOk Tryz.prog T10 := by
  refine cfOk_add ok9 fun args s r s' h1 h2 h3 => ?_
  unfold s129 at h3; split at h3
  · rename_i h; exact callOk ok9 Tryz.func129 h1 h2 h (lfOkF_no _ _).body (e129 _) rfl h3
  · exact ok9 _ _ _ _ _ h1 h2 h3

/-- math.IsInf -/
noncomputable def w100 {α : Type} (x0 : Nat) (x1 : Int) (k : Bool → α) : α :=
 cond ((x1 : Int) == 0)
  (k ((fgt .f64 (r129 x0) 9218868437227405311)))
  (cond (decide ((x1 : Int) < 0))
   (k ((fgt .f64 (fneg .f64 x0) 9218868437227405311)))
   (k ((fgt .f64 x0 9218868437227405311))))
noncomputable def r100 (x0 : Nat) (x1 : Int) : Bool := w100 x0 x1 (fun p => p)
noncomputable def g100 (x0 : Nat) (x1 : Int) (p : Bool) : List (Bool × Value × St) := [(true, .bool p, st0)]
theorem p100 {α : Type} (x0 : Nat) (x1 : Int) (f : Bool → α) : w100 x0 x1 f = f (w100 x0 x1 (fun p => p)) := by unfold w100; exact (cond_app f _ rfl (cond_app f _ rfl rfl))
set_option maxRecDepth 100000 in
set_option maxHeartbeats 4000000 in
theorem e100 (x0 : Nat) (x1 : Int) : evFn Tryz.prog ext T10 noL 200 Tryz.f100 [.float .f64 x0, vi x1] st0 = firstT (g100 x0 x1 (r100 x0 x1)) :=
 Eq.trans (by kernel_rfl) (p100 x0 x1 (fun p => firstT (g100 x0 x1 p)))
noncomputable def s100 (args : List Value) (s : St) : List (Bool × Value × St) :=
 match args, s.h with
 | [.float .f64 x0, .int .i64 x1], [] => (g100 x0 x1 (r100 x0 x1))
 | _, _ => T10 100 args s
noncomputable def T11 : CallF := addF T10 100 s100
set_option maxRecDepth 100000 in
set_option maxHeartbeats 4000000 in
theorem ok11 : CfOk Tryz.prog T11 := by
  refine cfOk_add ok10 fun args s r s' h1 h2 h3 => ?_
  unfold s100 at h3; split at h3
  · rename_i h; exact callOk ok10 Tryz.func100 h1 h2 h (lfOkF_no _ _).body (e100 _ _) rfl h3
  · exact ok10 _ _ _ _ _ h1 h2 h3

/-- impl.isFinite -/
noncomputable def w57 {α : Type} (x0 : Nat) (k : Bool → α) : α :=
 cond (r99 (widen x0))
  (k (false))
  (cond (r100 (widen x0) 0)
   (k (false))
   (k (true)))
noncomputable def r57 (x0 : Nat) : Bool := w57 x0 (fun p => p)
noncomputable def g57 (x0 : Nat) (p : Bool) : List (Bool × Value × St) := [(true, .bool p, ⟨[⟨true, (some (.tab [.fl .f32] ([[((x0 : Nat) : Int)]] : List (List Int))))⟩], 1, []⟩)]
theorem p57 {α : Type} (x0 : Nat) (f : Bool → α) : w57 x0 f = f (w57 x0 (fun p => p)) := by unfold w57; exact (cond_app f _ rfl (cond_app f _ rfl rfl))
set_option maxRecDepth 100000 in
set_option maxHeartbeats 4000000 in
theorem e57 (x0 : Nat) : evFn Tryz.prog ext T11 noL 200 Tryz.f57 [.slice (some ⟨0, 0, some 0⟩) 1 1] ⟨[⟨true, (some (.tab [.fl .f32] ([[((x0 : Nat) : Int)]] : List (List Int))))⟩], 1, []⟩ = firstT (g57 x0 (r57 x0)) :=
 Eq.trans (by kernel_rfl) (p57 x0 (fun p => firstT (g57 x0 p)))
noncomputable def s57 (args : List Value) (s : St) : List (Bool × Value × St) :=
 match args, s.h with
 | [.slice (some ⟨f0, f1, some f2⟩) f3 f4], [⟨true, some (.tab [.fl .f32] [[.ofNat x0]])⟩] => if f0 = 0 ∧ f1 = 0 ∧ f2 = 0 ∧ f3 = 1 ∧ f4 = 1 then (g57 x0 (r57 x0)) else T11 57 args s
 | _, _ => T11 57 args s
noncomputable def T12 : CallF := addF T11 57 s57
set_option maxRecDepth 100000 in
set_option maxHeartbeats 4000000 in
theorem ok12 : CfOk Tryz.prog T12 := by
  refine cfOk_add ok11 fun args s r s' h1 h2 h3 => ?_
  unfold s57 at h3; split at h3
  · rename_i h; split at h3
    · rename_i hc; obtain ⟨rfl, rfl, rfl, rfl, rfl⟩ := hc; exact callOk ok11 Tryz.func57 h1 h2 h (lfOkF_no _ _).body (e57 _) rfl h3
    · exact ok11 _ _ _ _ _ h1 h2 h3
  · exact ok11 _ _ _ _ _ h1 h2 h3

/-- impl.IsAmount -/
noncomputable def r91 (x0 : Nat) : Bool :=
 cond (r57 x0)
  (cond (fgt .f32 x0 0 || feq .f32 x0 0)
   ((((Int.fdiv ((x0 : Nat) : Int) (2 ^ (min (31 : Int).toNat (IntKind.bits .u32)))) : Int) == 0))
   (false))
  (false)
noncomputable def a91 (x0 : Nat) (p : Bool) : Res := firstT [(true, .bool p, st0)]
noncomputable def w91 (x0 : Nat) : Res :=
 (cond (r57 x0)
 (cond (fgt .f32 x0 0 || feq .f32 x0 0)
  (cond (!isN .f32 x0)
   (a91 x0 ((((Int.fdiv ((x0 : Nat) : Int) (2 ^ (min (31 : Int).toNat (IntKind.bits .u32)))) : Int) == 0)))
   none)
  (a91 x0 (false)))
 (a91 x0 (false)))
set_option maxRecDepth 100000 in
set_option maxHeartbeats 4000000 in
theorem e91 (x0 : Nat) : evFn Tryz.prog ext T12 noL 200 Tryz.f91 [vf x0] st0 = firstT [(true, .bool (r91 x0), st0)] :=
 (show evFn Tryz.prog ext T12 noL 200 Tryz.f91 [vf x0] st0 = w91 x0 from by kernel_rfl).trans
 (show w91 x0 = a91 x0 (r91 x0) from by unfold w91 r91; exact (cond_both (a91 x0) _ (fun h0 => (cond_both (a91 x0) _ (fun h1 => (cond_t (ev_not1 (ev_or h1 (fun hq0 => (ev_gt1 hq0)) (fun hq0 => (ev_eq1 hq0)))) rfl)) (fun h1 => rfl))) (fun h0 => rfl)))
noncomputable def s91 (args : List Value) (s : St) : List (Bool × Value × St) :=
 match args, s.h with
 | [.float .f32 x0], [] => [(true, .bool (r91 x0), st0)]
 | _, _ => T12 91 args s
noncomputable def T13 : CallF := addF T12 91 s91
set_option maxRecDepth 100000 in
set_option maxHeartbeats 4000000 in
theorem ok13 : CfOk Tryz.prog T13 := by
  refine cfOk_add ok12 fun args s r s' h1 h2 h3 => ?_
  unfold s91 at h3; split at h3
  · rename_i h; exact callOk ok12 Tryz.func91 h1 h2 h (lfOkF_no _ _).body (e91 _) rfl h3
  · exact ok12 _ _ _ _ _ h1 h2 h3

/-- impl.between -/
noncomputable def w48 {α : Type} (x0 x1 x2 : Nat) (k : Bool → α) : α :=
 cond (fgt .f32 x0 x1 || feq .f32 x0 x1)
  (k ((flt .f32 x0 x2 || feq .f32 x0 x2)))
  (k (false))
noncomputable def r48 (x0 x1 x2 : Nat) : Bool := w48 x0 x1 x2 (fun p => p)
noncomputable def g48 (x0 x1 x2 : Nat) (p : Bool) : List (Bool × Value × St) := [(true, .bool p, st0)]
theorem p48 {α : Type} (x0 x1 x2 : Nat) (f : Bool → α) : w48 x0 x1 x2 f = f (w48 x0 x1 x2 (fun p => p)) := by unfold w48; exact (cond_app f _ rfl rfl)
set_option maxRecDepth 100000 in
set_option maxHeartbeats 4000000 in
theorem e48 (x0 x1 x2 : Nat) : evFn Tryz.prog ext T13 noL 200 Tryz.f48 [vf x0, vf x1, vf x2] st0 = firstT (g48 x0 x1 x2 (r48 x0 x1 x2)) :=
 Eq.trans (by kernel_rfl) (p48 x0 x1 x2 (fun p => firstT (g48 x0 x1 x2 p)))
noncomputable def s48 (args : List Value) (s : St) : List (Bool × Value × St) :=
 match args, s.h with
 | [.float .f32 x0, .float .f32 x1, .float .f32 x2], [] => (g48 x0 x1 x2 (r48 x0 x1 x2))
 | _, _ => T13 48 args s
noncomputable def T14 : CallF := addF T13 48 s48
set_option maxRecDepth 100000 in
set_option maxHeartbeats 4000000 in
theorem ok14 : CfOk Tryz.prog T14 := by
  refine cfOk_add ok13 fun args s r s' h1 h2 h3 => ?_
  unfold s48 at h3; split at h3
  · rename_i h; exact callOk ok13 Tryz.func48 h1 h2 h (lfOkF_no _ _).body (e48 _ _ _) rfl h3
  · exact ok13 _ _ _ _ _ h1 h2 h3

/-- impl.IsShare -/
noncomputable def w92 {α : Type} (x0 : Nat) (k : Bool → α) : α :=
 cond (r91 x0)
  (k ((flt .f32 x0 1065353216 || feq .f32 x0 1065353216)))
  (k (false))
noncomputable def r92 (x0 : Nat) : Bool := w92 x0 (fun p => p)
noncomputable def g92 (x0 : Nat) (p : Bool) : List (Bool × Value × St) := [(true, .bool p, st0)]
theorem p92 {α : Type} (x0 : Nat) (f : Bool → α) : w92 x0 f = f (w92 x0 (fun p => p)) := by unfold w92; exact (cond_app f _ rfl rfl)
set_option maxRecDepth 100000 in
set_option maxHeartbeats 4000000 in
theorem e92 (x0 : Nat) : evFn Tryz.prog ext T14 noL 200 Tryz.f92 [vf x0] st0 = firstT (g92 x0 (r92 x0)) :=
 Eq.trans (by kernel_rfl) (p92 x0 (fun p => firstT (g92 x0 p)))
noncomputable def s92 (args : List Value) (s : St) : List (Bool × Value × St) :=
 match args, s.h with
 | [.float .f32 x0], [] => (g92 x0 (r92 x0))
 | _, _ => T14 92 args s
noncomputable def T15 : CallF := addF T14 92 s92
set_option maxRecDepth 100000 in
set_option maxHeartbeats 4000000 in
theorem ok15 : CfOk Tryz.prog T15 := by
  refine cfOk_add ok14 fun args s r s' h1 h2 h3 => ?_
  unfold s92 at h3; split at h3
  · rename_i h; exact callOk ok14 Tryz.func92 h1 h2 h (lfOkF_no _ _).body (e92 _) rfl h3
  · exact ok14 _ _ _ _ _ h1 h2 h3

/-- impl.validFlue -/
noncomputable def w46 {α : Type} (x0 x1 x2 x3 : Nat) (x4 : Int) (k : Bool → α) : α :=
 cond (r91 x0)
  (cond (r48 x0 1031798784 1106247680)
   (cond (r91 x1)
    (cond (r48 x1 1015021568 1082130432)
     (cond (r48 x2 3262119936 1153138688)
      (k ((r92 x3)))
      (k (false)))
     (k (false)))
    (k (false)))
   (k (false)))
  (k (false))
noncomputable def r46 (x0 x1 x2 x3 : Nat) (x4 : Int) : Bool := w46 x0 x1 x2 x3 x4 (fun p => p)
noncomputable def g46 (x0 x1 x2 x3 : Nat) (x4 : Int) (p : Bool) : List (Bool × Value × St) := [(true, .bool p, st0)]
theorem p46 {α : Type} (x0 x1 x2 x3 : Nat) (x4 : Int) (f : Bool → α) : w46 x0 x1 x2 x3 x4 f = f (w46 x0 x1 x2 x3 x4 (fun p => p)) := by unfold w46; repeat' (first | refine cond_app f _ ?_ ?_ | rfl)
set_option maxRecDepth 100000 in
set_option maxHeartbeats 4000000 in
theorem e46 (x0 x1 x2 x3 : Nat) (x4 : Int) : evFn Tryz.prog ext T15 noL 200 Tryz.f46 [.agg #[vf x0, vf x1, vf x2, vf x3, vi x4]] st0 = firstT (g46 x0 x1 x2 x3 x4 (r46 x0 x1 x2 x3 x4)) :=
 Eq.trans (by kernel_rfl) (p46 x0 x1 x2 x3 x4 (fun p => firstT (g46 x0 x1 x2 x3 x4 p)))
noncomputable def s46 (args : List Value) (s : St) : List (Bool × Value × St) :=
 match args, s.h with
 | [.agg ⟨[.float .f32 x0, .float .f32 x1, .float .f32 x2, .float .f32 x3, .int .i64 x4]⟩], [] => (g46 x0 x1 x2 x3 x4 (r46 x0 x1 x2 x3 x4))
 | _, _ => T15 46 args s
noncomputable def T16 : CallF := addF T15 46 s46
set_option maxRecDepth 100000 in
set_option maxHeartbeats 4000000 in
theorem ok16 : CfOk Tryz.prog T16 := by
  refine cfOk_add ok15 fun args s r s' h1 h2 h3 => ?_
  unfold s46 at h3; split at h3
  · rename_i h; exact callOk ok15 Tryz.func46 h1 h2 h (lfOkF_no _ _).body (e46 _ _ _ _ _) rfl h3
  · exact ok15 _ _ _ _ _ h1 h2 h3

/-- impl.ValidChimney, loop 0: one round -/
noncomputable def b16l0 (ih : Int → Int → List (List Int) → Nat) (x0 x1 : Int) (x2 : List (List Int)) : Nat :=
 let c45 := (r46 (Int.toNat ((x2.getD (Int.toNat x1) []).getD 0 0)) (Int.toNat ((x2.getD (Int.toNat x1) []).getD 1 0)) (Int.toNat ((x2.getD (Int.toNat x1) []).getD 2 0)) (Int.toNat ((x2.getD (Int.toNat x1) []).getD 3 0)) ((x2.getD (Int.toNat x1) []).getD 4 0))
 cond (decide ((x1 : Int) < x0))
  (cond ((decide ((0 : Int) ≤ x1)) && (Nat.blt (Int.toNat x1) x2.length))
   (cond (!c45)
    (0)
    (cond ((((x2.getD (Int.toNat x1) []).getD 4 0) : Int) == (-1))
     (ih x0 (IntKind.i64.wrap (x1 + 1)) x2)
     (cond (decide ((((x2.getD (Int.toNat x1) []).getD 4 0) : Int) < 0))
      (0)
      (cond (decide ((((x2.getD (Int.toNat x1) []).getD 4 0) : Int) ≥ ((x2.length : Nat) : Int)))
       (0)
       (cond ((((x2.getD (Int.toNat x1) []).getD 4 0) : Int) == x1)
        (0)
        (cond ((decide ((0 : Int) ≤ ((x2.getD (Int.toNat x1) []).getD 4 0))) && (Nat.blt (Int.toNat ((x2.getD (Int.toNat x1) []).getD 4 0)) x2.length))
         (cond ((((x2.getD (Int.toNat ((x2.getD (Int.toNat x1) []).getD 4 0)) []).getD 4 0) : Int) != (-1))
          (0)
          (ih x0 (IntKind.i64.wrap (x1 + 1)) x2))
         (2)))))))
   (2))
  (1)
noncomputable def r16l0 : Nat → Int → Int → List (List Int) → Nat
 | 0 => fun _ _ _ => (2)
 | m + 1 => b16l0 (r16l0 m)
noncomputable def a16l0 (x0 x1 : Int) (x2 : List (List Int)) (p : Nat) : Option (Fin' × List Value × St) := firstT ([((Nat.beq p 0), .ret, [.bool false], ⟨[⟨true, (some (.tab sc0 x2))⟩], 1, []⟩), ((Nat.beq p 1), .exit 0, [anyV], ⟨[⟨true, (some (.tab sc0 x2))⟩], 1, []⟩)].map fun (b, x) => (b, (x.1, frameOf 52 [2] x.2.1, x.2.2)))
noncomputable def u16l0 (x0 x1 : Int) (x2 : List (List Int)) (p : Nat) : Option (Fin' × List Value × St) := alts ([((Nat.beq p 0), .ret, [.bool false], ⟨[⟨true, (some (.tab sc0 x2))⟩], 1, []⟩), ((Nat.beq p 1), .exit 0, [anyV], ⟨[⟨true, (some (.tab sc0 x2))⟩], 1, []⟩)].map fun (b, x) => (b, (x.1, frameOf 52 [2] x.2.1, x.2.2))) some
theorem v16l0 (x0 x1 : Int) (x2 : List (List Int)) (p : Nat) : u16l0 x0 x1 x2 p = a16l0 x0 x1 x2 p := alts_first _
noncomputable def q16l0 (m : Nat) : SumK := fun vals s =>
 match vals, s.h with
 | [.iface f0 .nilIface, .iface f1 .nilIface, .int .i64 x0, .int .i64 x1], [⟨true, some (.tab [.fl .f32, .fl .f32, .fl .f32, .fl .f32, .int .i64] x2)⟩] => if f0 = 0 ∧ f1 = 0 then [((Nat.beq (r16l0 m x0 x1 x2) 0), .ret, [.bool false], ⟨[⟨true, (some (.tab sc0 x2))⟩], 1, []⟩), ((Nat.beq (r16l0 m x0 x1 x2) 1), .exit 0, [anyV], ⟨[⟨true, (some (.tab sc0 x2))⟩], 1, []⟩)] else noQ vals s
 | _, _ => noQ vals s
noncomputable def w16l0 (ih : Int → Int → List (List Int) → Nat) (x0 x1 : Int) (x2 : List (List Int)) : Option (Fin' × List Value × St) :=
 let c45 := (r46 (Int.toNat ((x2.getD (Int.toNat x1) []).getD 0 0)) (Int.toNat ((x2.getD (Int.toNat x1) []).getD 1 0)) (Int.toNat ((x2.getD (Int.toNat x1) []).getD 2 0)) (Int.toNat ((x2.getD (Int.toNat x1) []).getD 3 0)) ((x2.getD (Int.toNat x1) []).getD 4 0))
 (cond (decide ((x1 : Int) < x0))
 (cond ((decide ((0 : Int) ≤ x1)) && (Nat.blt (Int.toNat x1) x2.length))
  (cond (Nat.blt (Int.toNat x1) x2.length)
   (cond (!c45)
    (a16l0 x0 x1 x2 (0))
    (cond ((((x2.getD (Int.toNat x1) []).getD 4 0) : Int) == (-1))
     (u16l0 x0 x1 x2 (ih x0 (IntKind.i64.wrap (x1 + 1)) x2))
     (cond (decide ((((x2.getD (Int.toNat x1) []).getD 4 0) : Int) < 0))
      (a16l0 x0 x1 x2 (0))
      (cond (decide ((((x2.getD (Int.toNat x1) []).getD 4 0) : Int) ≥ ((x2.length : Nat) : Int)))
       (a16l0 x0 x1 x2 (0))
       (cond ((((x2.getD (Int.toNat x1) []).getD 4 0) : Int) == x1)
        (a16l0 x0 x1 x2 (0))
        (cond ((decide ((0 : Int) ≤ ((x2.getD (Int.toNat x1) []).getD 4 0))) && (Nat.blt (Int.toNat ((x2.getD (Int.toNat x1) []).getD 4 0)) x2.length))
         (cond (Nat.blt (Int.toNat ((x2.getD (Int.toNat x1) []).getD 4 0)) x2.length)
          (cond ((((x2.getD (Int.toNat ((x2.getD (Int.toNat x1) []).getD 4 0)) []).getD 4 0) : Int) != (-1))
           (a16l0 x0 x1 x2 (0))
           (u16l0 x0 x1 x2 (ih x0 (IntKind.i64.wrap (x1 + 1)) x2)))
          none)
         none))))))
   none)
  none)
 (a16l0 x0 x1 x2 (1)))
set_option maxRecDepth 100000 in
set_option maxHeartbeats 4000000 in
theorem e16l0 (m : Nat) (x0 x1 : Int) (x2 : List (List Int)) : evC Tryz.prog ext T16 noL 200 (loopN Tryz.f16 0) (loopTail ([0, 13, 14, 15], []) [2] [] (sumK 52 [0, 13, 14, 15] [2] (q16l0 m))) (frameOf 52 [0, 13, 14, 15] [wsl 0, wsl 0, vi x0, vi x1]) ⟨[⟨true, (some (.tab sc0 x2))⟩], 1, []⟩ = firstT ([((Nat.beq (r16l0 (m + 1) x0 x1 x2) 0), .ret, [.bool false], ⟨[⟨true, (some (.tab sc0 x2))⟩], 1, []⟩), ((Nat.beq (r16l0 (m + 1) x0 x1 x2) 1), .exit 0, [anyV], ⟨[⟨true, (some (.tab sc0 x2))⟩], 1, []⟩)].map fun (b, x) => (b, (x.1, frameOf 52 [2] x.2.1, x.2.2))) :=
 (show evC Tryz.prog ext T16 noL 200 (loopN Tryz.f16 0) (loopTail ([0, 13, 14, 15], []) [2] [] (sumK 52 [0, 13, 14, 15] [2] (q16l0 m))) (frameOf 52 [0, 13, 14, 15] [wsl 0, wsl 0, vi x0, vi x1]) ⟨[⟨true, (some (.tab sc0 x2))⟩], 1, []⟩ = w16l0 (r16l0 m) x0 x1 x2 from by kernel_rfl).trans
 (show w16l0 (r16l0 m) x0 x1 x2 = a16l0 x0 x1 x2 (r16l0 (m + 1) x0 x1 x2) from by unfold w16l0; show _ = a16l0 x0 x1 x2 (b16l0 (r16l0 m) x0 x1 x2); unfold b16l0; exact (cond_both (a16l0 x0 x1 x2) _ (fun h0 => (cond_both (a16l0 x0 x1 x2) _ (fun h1 => (cond_t (ev_and2 h1) (cond_both (a16l0 x0 x1 x2) _ (fun h2 => rfl) (fun h2 => (cond_both (a16l0 x0 x1 x2) _ (fun h3 => (v16l0 x0 x1 x2 ((r16l0 m) x0 (IntKind.i64.wrap (x1 + 1)) x2))) (fun h3 => (cond_both (a16l0 x0 x1 x2) _ (fun h4 => rfl) (fun h4 => (cond_both (a16l0 x0 x1 x2) _ (fun h5 => rfl) (fun h5 => (cond_both (a16l0 x0 x1 x2) _ (fun h6 => rfl) (fun h6 => (cond_both (a16l0 x0 x1 x2) _ (fun h7 => (cond_t (ev_and2 h7) (cond_app (a16l0 x0 x1 x2) _ rfl (v16l0 x0 x1 x2 ((r16l0 m) x0 (IntKind.i64.wrap (x1 + 1)) x2))))) (fun h7 => rfl)))))))))))))) (fun h1 => rfl))) (fun h0 => rfl)))
set_option maxRecDepth 100000 in
set_option maxHeartbeats 4000000 in
theorem qm16l0 : ∀ m, SumKOk Tryz.prog (loopN Tryz.f16 0) 52 [0, 13, 14, 15] [2] (q16l0 m) := by
  intro m
  induction m with
  | zero =>
    intro vals s x h1 h2 h3
    unfold q16l0 at h3; split at h3
    · rename_i h; split at h3
      · rename_i hc; obtain ⟨rfl, rfl⟩ := hc; exact absurd h3 (by simp [r16l0, firstT, Nat.beq])
      · exact noQ_ok _ _ _ h1 h2 h3
    · exact noQ_ok _ _ _ h1 h2 h3
  | succ m ih =>
    intro vals s x h1 h2 h3
    unfold q16l0 at h3; split at h3
    · rename_i h; split at h3
      · rename_i hc; obtain ⟨rfl, rfl⟩ := hc; exact sum_step ok16 extOk mixed ((lfOkF_no _ _).inner (by kernel_rfl)) ih h1 h2 h (e16l0 m _ _ _) rfl h3
      · exact noQ_ok _ _ _ h1 h2 h3
    · exact noQ_ok _ _ _ h1 h2 h3
noncomputable def Q16l0 : SumK := fun vals s => q16l0 (fuelOf vals s.h) vals s
theorem qok16l0 : SumKOk Tryz.prog (loopN Tryz.f16 0) 52 [0, 13, 14, 15] [2] Q16l0 := fuel_ok qm16l0 fuelOf
noncomputable def L16_1 : LoopT := addL noL 5 ([0, 13, 14, 15], []) (sumK 52 [0, 13, 14, 15] [2] Q16l0)
theorem lok16_1 : LfOkF Tryz.prog L16_1 Tryz.f16 := lfOkF_add (lfOkF_no _ _) qok16l0 (by kernel_rfl) (by kernel_rfl) (by kernel_rfl)

/-- impl.ValidChimney -/
noncomputable def w16 {α : Type} (x0 : List (List Int)) (k : (Nat × Bool) → α) : α :=
 let c46 := (r16l0 (1000 + x0.length) ((x0.length : Nat) : Int) 0 x0)
 cond (decide ((((x0.length : Nat) : Int) : Int) < 1))
  (k (0, false))
  (cond (decide ((((x0.length : Nat) : Int) : Int) > 6))
   (k (0, false))
   (cond (Nat.beq c46 0)
    (k (0, false))
    (cond (Nat.beq c46 1)
     (k (0, true))
     (k (1, false)))))
noncomputable def r16 (x0 : List (List Int)) : Nat × Bool := w16 x0 (fun p => p)
noncomputable def g16 (x0 : List (List Int)) (p : Nat × Bool) : List (Bool × Value × St) := [((Nat.beq (p.1) 0), .bool (p.2), ⟨[⟨true, (some (.tab sc0 x0))⟩], 1, []⟩)]
theorem p16 {α : Type} (x0 : List (List Int)) (f : (Nat × Bool) → α) : w16 x0 f = f (w16 x0 (fun p => p)) := by unfold w16; exact (cond_app f _ rfl (cond_app f _ rfl (cond_app f _ rfl (cond_app f _ rfl rfl))))
set_option maxRecDepth 100000 in
set_option maxHeartbeats 4000000 in
theorem e16 (x0 : List (List Int)) : evFn Tryz.prog ext T16 L16_1 200 Tryz.f16 [wsl 0] ⟨[⟨true, (some (.tab sc0 x0))⟩], 1, []⟩ = firstT (g16 x0 (r16 x0)) :=
 Eq.trans (by kernel_rfl) (p16 x0 (fun p => firstT (g16 x0 p)))
noncomputable def s16 (args : List Value) (s : St) : List (Bool × Value × St) :=
 match args, s.h with
 | [.iface f0 .nilIface], [⟨true, some (.tab [.fl .f32, .fl .f32, .fl .f32, .fl .f32, .int .i64] x0)⟩] => if f0 = 0 then (g16 x0 (r16 x0)) else T16 16 args s
 | _, _ => T16 16 args s
noncomputable def T17 : CallF := addF T16 16 s16
set_option maxRecDepth 100000 in
set_option maxHeartbeats 4000000 in
theorem ok17 : CfOk Tryz.prog T17 := by
  refine cfOk_add ok16 fun args s r s' h1 h2 h3 => ?_
  unfold s16 at h3; split at h3
  · rename_i h; split at h3
    · rename_i hc; obtain ⟨rfl⟩ := hc; exact callOk ok16 Tryz.func16 h1 h2 h lok16_1.body (e16 _) rfl h3
    · exact ok16 _ _ _ _ _ h1 h2 h3
  · exact ok16 _ _ _ _ _ h1 h2 h3

/-- impl.hex -/
noncomputable def w125 {α : Type} (x0 : Int) (k : (Nat × ByteArray) → α) : α :=
 cond ((decide ((0 : Int) ≤ (bits .and .u32 (Int.fdiv x0 (2 ^ (min (28 : Int).toNat (IntKind.bits .u32)))) 15))) && (Nat.blt (Int.toNat (bits .and .u32 (Int.fdiv x0 (2 ^ (min (28 : Int).toNat (IntKind.bits .u32)))) 15)) 16))
  (cond ((decide ((0 : Int) ≤ (bits .and .u32 (Int.fdiv x0 (2 ^ (min (24 : Int).toNat (IntKind.bits .u32)))) 15))) && (Nat.blt (Int.toNat (bits .and .u32 (Int.fdiv x0 (2 ^ (min (24 : Int).toNat (IntKind.bits .u32)))) 15)) 16))
   (cond ((decide ((0 : Int) ≤ (bits .and .u32 (Int.fdiv x0 (2 ^ (min (20 : Int).toNat (IntKind.bits .u32)))) 15))) && (Nat.blt (Int.toNat (bits .and .u32 (Int.fdiv x0 (2 ^ (min (20 : Int).toNat (IntKind.bits .u32)))) 15)) 16))
    (cond ((decide ((0 : Int) ≤ (bits .and .u32 (Int.fdiv x0 (2 ^ (min (16 : Int).toNat (IntKind.bits .u32)))) 15))) && (Nat.blt (Int.toNat (bits .and .u32 (Int.fdiv x0 (2 ^ (min (16 : Int).toNat (IntKind.bits .u32)))) 15)) 16))
     (cond ((decide ((0 : Int) ≤ (bits .and .u32 (Int.fdiv x0 (2 ^ (min (12 : Int).toNat (IntKind.bits .u32)))) 15))) && (Nat.blt (Int.toNat (bits .and .u32 (Int.fdiv x0 (2 ^ (min (12 : Int).toNat (IntKind.bits .u32)))) 15)) 16))
      (cond ((decide ((0 : Int) ≤ (bits .and .u32 (Int.fdiv x0 (2 ^ (min (8 : Int).toNat (IntKind.bits .u32)))) 15))) && (Nat.blt (Int.toNat (bits .and .u32 (Int.fdiv x0 (2 ^ (min (8 : Int).toNat (IntKind.bits .u32)))) 15)) 16))
       (cond ((decide ((0 : Int) ≤ (bits .and .u32 (Int.fdiv x0 (2 ^ (min (4 : Int).toNat (IntKind.bits .u32)))) 15))) && (Nat.blt (Int.toNat (bits .and .u32 (Int.fdiv x0 (2 ^ (min (4 : Int).toNat (IntKind.bits .u32)))) 15)) 16))
        (cond ((decide ((0 : Int) ≤ (bits .and .u32 (Int.fdiv x0 (2 ^ (min (0 : Int).toNat (IntKind.bits .u32)))) 15))) && (Nat.blt (Int.toNat (bits .and .u32 (Int.fdiv x0 (2 ^ (min (0 : Int).toNat (IntKind.bits .u32)))) 15)) 16))
         (k (0, (bytesOf ([[((UInt8.toNat (List.getD (ByteArray.data (ByteArray.mk #[48, 49, 50, 51, 52, 53, 54, 55, 56, 57, 97, 98, 99, 100, 101, 102])).toList (Int.toNat (bits .and .u32 (Int.fdiv x0 (2 ^ (min (28 : Int).toNat (IntKind.bits .u32)))) 15)) 0) : Nat) : Int)], [((UInt8.toNat (List.getD (ByteArray.data (ByteArray.mk #[48, 49, 50, 51, 52, 53, 54, 55, 56, 57, 97, 98, 99, 100, 101, 102])).toList (Int.toNat (bits .and .u32 (Int.fdiv x0 (2 ^ (min (24 : Int).toNat (IntKind.bits .u32)))) 15)) 0) : Nat) : Int)], [((UInt8.toNat (List.getD (ByteArray.data (ByteArray.mk #[48, 49, 50, 51, 52, 53, 54, 55, 56, 57, 97, 98, 99, 100, 101, 102])).toList (Int.toNat (bits .and .u32 (Int.fdiv x0 (2 ^ (min (20 : Int).toNat (IntKind.bits .u32)))) 15)) 0) : Nat) : Int)], [((UInt8.toNat (List.getD (ByteArray.data (ByteArray.mk #[48, 49, 50, 51, 52, 53, 54, 55, 56, 57, 97, 98, 99, 100, 101, 102])).toList (Int.toNat (bits .and .u32 (Int.fdiv x0 (2 ^ (min (16 : Int).toNat (IntKind.bits .u32)))) 15)) 0) : Nat) : Int)], [((UInt8.toNat (List.getD (ByteArray.data (ByteArray.mk #[48, 49, 50, 51, 52, 53, 54, 55, 56, 57, 97, 98, 99, 100, 101, 102])).toList (Int.toNat (bits .and .u32 (Int.fdiv x0 (2 ^ (min (12 : Int).toNat (IntKind.bits .u32)))) 15)) 0) : Nat) : Int)], [((UInt8.toNat (List.getD (ByteArray.data (ByteArray.mk #[48, 49, 50, 51, 52, 53, 54, 55, 56, 57, 97, 98, 99, 100, 101, 102])).toList (Int.toNat (bits .and .u32 (Int.fdiv x0 (2 ^ (min (8 : Int).toNat (IntKind.bits .u32)))) 15)) 0) : Nat) : Int)], [((UInt8.toNat (List.getD (ByteArray.data (ByteArray.mk #[48, 49, 50, 51, 52, 53, 54, 55, 56, 57, 97, 98, 99, 100, 101, 102])).toList (Int.toNat (bits .and .u32 (Int.fdiv x0 (2 ^ (min (4 : Int).toNat (IntKind.bits .u32)))) 15)) 0) : Nat) : Int)], [((UInt8.toNat (List.getD (ByteArray.data (ByteArray.mk #[48, 49, 50, 51, 52, 53, 54, 55, 56, 57, 97, 98, 99, 100, 101, 102])).toList (Int.toNat (bits .and .u32 (Int.fdiv x0 (2 ^ (min (0 : Int).toNat (IntKind.bits .u32)))) 15)) 0) : Nat) : Int)]] : List (List Int)))))
         (k (1, ByteArray.empty)))
        (k (1, ByteArray.empty)))
       (k (1, ByteArray.empty)))
      (k (1, ByteArray.empty)))
     (k (1, ByteArray.empty)))
    (k (1, ByteArray.empty)))
   (k (1, ByteArray.empty)))
  (k (1, ByteArray.empty))
noncomputable def r125 (x0 : Int) : Nat × ByteArray := w125 x0 (fun p => p)
noncomputable def g125 (x0 : Int) (p : Nat × ByteArray) : List (Bool × Value × St) := [((Nat.beq (p.1) 0), .string (p.2), st0)]
theorem p125 {α : Type} (x0 : Int) (f : (Nat × ByteArray) → α) : w125 x0 f = f (w125 x0 (fun p => p)) := by unfold w125; repeat' (first | refine cond_app f _ ?_ ?_ | rfl)
set_option maxRecDepth 100000 in
set_option maxHeartbeats 4000000 in
theorem e125 (x0 : Int) : evFn Tryz.prog ext T17 noL 200 Tryz.f125 [.int .u32 x0] st0 = firstT (g125 x0 (r125 x0)) :=
 Eq.trans (by kernel_rfl) (p125 x0 (fun p => firstT (g125 x0 p)))
noncomputable def s125 (args : List Value) (s : St) : List (Bool × Value × St) :=
 match args, s.h with
 | [.int .u32 x0], [] => (g125 x0 (r125 x0))
 | _, _ => T17 125 args s
noncomputable def T18 : CallF := addF T17 125 s125
set_option maxRecDepth 100000 in
set_option maxHeartbeats 4000000 in
theorem ok18 : CfOk Tryz.prog T18 := by
  refine cfOk_add ok17 fun args s r s' h1 h2 h3 => ?_
  unfold s125 at h3; split at h3
  · rename_i h; exact callOk ok17 Tryz.func125 h1 h2 h (lfOkF_no _ _).body (e125 _) rfl h3
  · exact ok17 _ _ _ _ _ h1 h2 h3

/-- impl.NumberText -/
noncomputable def r84 (x0 : Nat) : Nat × ByteArray :=
 cond (!feq .f32 x0 x0)
  (0, (ByteArray.mk #[55, 102, 99, 48, 48, 48, 48, 48]))
  (cond (Nat.beq ((r125 ((x0 : Nat) : Int)).1) 0)
   (0, ((r125 ((x0 : Nat) : Int)).2))
   (1, ByteArray.empty))
noncomputable def a84 (x0 : Nat) (p : Nat × ByteArray) : Res := firstT [((Nat.beq (p.1) 0), .string (p.2), st0)]
noncomputable def w84 (x0 : Nat) : Res :=
 (cond (!feq .f32 x0 x0)
 (a84 x0 (0, (ByteArray.mk #[55, 102, 99, 48, 48, 48, 48, 48])))
 (cond (!isN .f32 x0)
  (cond (Nat.beq ((r125 ((x0 : Nat) : Int)).1) 0)
   (a84 x0 (0, ((r125 ((x0 : Nat) : Int)).2)))
   none)
  none))
set_option maxRecDepth 100000 in
set_option maxHeartbeats 4000000 in
theorem e84 (x0 : Nat) : evFn Tryz.prog ext T18 noL 200 Tryz.f84 [vf x0] st0 = firstT [((Nat.beq ((r84 x0).1) 0), .string ((r84 x0).2), st0)] :=
 (show evFn Tryz.prog ext T18 noL 200 Tryz.f84 [vf x0] st0 = w84 x0 from by kernel_rfl).trans
 (show w84 x0 = a84 x0 (r84 x0) from by unfold w84 r84; exact (cond_both (a84 x0) _ (fun h0 => rfl) (fun h0 => (cond_t (ev_not1 (ev_eq1 (ev_notf h0))) (cond_app (a84 x0) _ rfl rfl)))))
noncomputable def s84 (args : List Value) (s : St) : List (Bool × Value × St) :=
 match args, s.h with
 | [.float .f32 x0], [] => [((Nat.beq ((r84 x0).1) 0), .string ((r84 x0).2), st0)]
 | _, _ => T18 84 args s
noncomputable def T19 : CallF := addF T18 84 s84
set_option maxRecDepth 100000 in
set_option maxHeartbeats 4000000 in
theorem ok19 : CfOk Tryz.prog T19 := by
  refine cfOk_add ok18 fun args s r s' h1 h2 h3 => ?_
  unfold s84 at h3; split at h3
  · rename_i h; exact callOk ok18 Tryz.func84 h1 h2 h (lfOkF_no _ _).body (e84 _) rfl h3
  · exact ok18 _ _ _ _ _ h1 h2 h3

/-- impl.sideText -/
noncomputable def w85 {α : Type} (x0 : Int) (k : (Nat × ByteArray) → α) : α :=
 cond ((x0 : Int) == (-1))
  (k (0, (ByteArray.mk #[45])))
  (cond (decide ((0 : Int) ≤ x0) && decide (x0 < 100))
   (k (0, (digB x0)))
   (k (1, ByteArray.empty)))
noncomputable def r85 (x0 : Int) : Nat × ByteArray := w85 x0 (fun p => p)
noncomputable def g85 (x0 : Int) (p : Nat × ByteArray) : List (Bool × Value × St) := [((Nat.beq (p.1) 0), .string (p.2), st0)]
theorem p85 {α : Type} (x0 : Int) (f : (Nat × ByteArray) → α) : w85 x0 f = f (w85 x0 (fun p => p)) := by unfold w85; exact (cond_app f _ rfl (cond_app f _ rfl rfl))
set_option maxRecDepth 100000 in
set_option maxHeartbeats 4000000 in
theorem e85 (x0 : Int) : evFn Tryz.prog ext T19 noL 200 Tryz.f85 [vi x0] st0 = firstT (g85 x0 (r85 x0)) :=
 Eq.trans (by kernel_rfl) (p85 x0 (fun p => firstT (g85 x0 p)))
noncomputable def s85 (args : List Value) (s : St) : List (Bool × Value × St) :=
 match args, s.h with
 | [.int .i64 x0], [] => (g85 x0 (r85 x0))
 | _, _ => T19 85 args s
noncomputable def T20 : CallF := addF T19 85 s85
set_option maxRecDepth 100000 in
set_option maxHeartbeats 4000000 in
theorem ok20 : CfOk Tryz.prog T20 := by
  refine cfOk_add ok19 fun args s r s' h1 h2 h3 => ?_
  unfold s85 at h3; split at h3
  · rename_i h; exact callOk ok19 Tryz.func85 h1 h2 h (lfOkF_no _ _).body (e85 _) rfl h3
  · exact ok19 _ _ _ _ _ h1 h2 h3

/-- impl.chimneyText, loop 0: one round -/
noncomputable def b40l0 (ih : ByteArray → Int → Int → List (List Int) → (Nat × ByteArray)) (x0 : ByteArray) (x1 x2 : Int) (x3 : List (List Int)) : Nat × ByteArray :=
 let c112 := (r84 (Int.toNat ((x3.getD (Int.toNat x2) []).getD 0 0)))
 let c113 := (r84 (Int.toNat ((x3.getD (Int.toNat x2) []).getD 1 0)))
 let c114 := (r84 (Int.toNat ((x3.getD (Int.toNat x2) []).getD 2 0)))
 let c115 := (r84 (Int.toNat ((x3.getD (Int.toNat x2) []).getD 3 0)))
 let c116 := (r85 ((x3.getD (Int.toNat x2) []).getD 4 0))
 cond (decide ((x2 : Int) < x1))
  (cond ((decide ((0 : Int) ≤ x2)) && (Nat.blt (Int.toNat x2) x3.length))
   (cond (Nat.beq (c112.1) 0)
    (cond (Nat.beq (c113.1) 0)
     (cond (Nat.beq (c114.1) 0)
      (cond (Nat.beq (c115.1) 0)
       (cond (Nat.beq (c116.1) 0)
        (cond (joinOk ([(c112.2), (c113.2), (c114.2), (c115.2), (c116.2)] : List ByteArray) (ByteArray.mk #[32]))
         (cond (decide ((joinB ([(c112.2), (c113.2), (c114.2), (c115.2), (c116.2)] : List ByteArray) (ByteArray.mk #[32])).size + 1 ≤ strMax))
          (cond (decide (x0.size + ((joinB ([(c112.2), (c113.2), (c114.2), (c115.2), (c116.2)] : List ByteArray) (ByteArray.mk #[32])) ++ (ByteArray.mk #[10])).size ≤ strMax))
           (ih (x0 ++ ((joinB ([(c112.2), (c113.2), (c114.2), (c115.2), (c116.2)] : List ByteArray) (ByteArray.mk #[32])) ++ (ByteArray.mk #[10]))) x1 (IntKind.i64.wrap (x2 + 1)) x3)
           (1, ByteArray.empty))
          (1, ByteArray.empty))
         (1, ByteArray.empty))
        (1, ByteArray.empty))
       (1, ByteArray.empty))
      (1, ByteArray.empty))
     (1, ByteArray.empty))
    (1, ByteArray.empty))
   (1, ByteArray.empty))
  (0, x0)
noncomputable def r40l0 : Nat → ByteArray → Int → Int → List (List Int) → (Nat × ByteArray)
 | 0 => fun _ _ _ _ => (1, ByteArray.empty)
 | m + 1 => b40l0 (r40l0 m)
noncomputable def a40l0 (x0 : ByteArray) (x1 x2 : Int) (x3 : List (List Int)) (p : Nat × ByteArray) : Option (Fin' × List Value × St) := firstT ([((Nat.beq (p.1) 0), .exit 0, [.string (p.2)], ⟨[⟨true, (some (.tab sc0 x3))⟩], 1, []⟩)].map fun (b, x) => (b, (x.1, frameOf 34 [3] x.2.1, x.2.2)))
noncomputable def u40l0 (x0 : ByteArray) (x1 x2 : Int) (x3 : List (List Int)) (p : Nat × ByteArray) : Option (Fin' × List Value × St) := alts ([((Nat.beq (p.1) 0), .exit 0, [.string (p.2)], ⟨[⟨true, (some (.tab sc0 x3))⟩], 1, []⟩)].map fun (b, x) => (b, (x.1, frameOf 34 [3] x.2.1, x.2.2))) some
theorem v40l0 (x0 : ByteArray) (x1 x2 : Int) (x3 : List (List Int)) (p : Nat × ByteArray) : u40l0 x0 x1 x2 x3 p = a40l0 x0 x1 x2 x3 p := alts_first _
noncomputable def q40l0 (m : Nat) : SumK := fun vals s =>
 match vals, s.h with
 | [.string x0, .iface f0 .nilIface, .int .i64 x1, .int .i64 x2], [⟨true, some (.tab [.fl .f32, .fl .f32, .fl .f32, .fl .f32, .int .i64] x3)⟩] => if f0 = 0 then [((Nat.beq ((r40l0 m x0 x1 x2 x3).1) 0), .exit 0, [.string ((r40l0 m x0 x1 x2 x3).2)], ⟨[⟨true, (some (.tab sc0 x3))⟩], 1, []⟩)] else noQ vals s
 | _, _ => noQ vals s
noncomputable def w40l0 (ih : ByteArray → Int → Int → List (List Int) → (Nat × ByteArray)) (x0 : ByteArray) (x1 x2 : Int) (x3 : List (List Int)) : Option (Fin' × List Value × St) :=
 let c112 := (r84 (Int.toNat ((x3.getD (Int.toNat x2) []).getD 0 0)))
 let c113 := (r84 (Int.toNat ((x3.getD (Int.toNat x2) []).getD 1 0)))
 let c114 := (r84 (Int.toNat ((x3.getD (Int.toNat x2) []).getD 2 0)))
 let c115 := (r84 (Int.toNat ((x3.getD (Int.toNat x2) []).getD 3 0)))
 let c116 := (r85 ((x3.getD (Int.toNat x2) []).getD 4 0))
 (cond (decide ((x2 : Int) < x1))
 (cond ((decide ((0 : Int) ≤ x2)) && (Nat.blt (Int.toNat x2) x3.length))
  (cond (Nat.blt (Int.toNat x2) x3.length)
   (cond (Nat.beq (c112.1) 0)
    (cond (Nat.beq (c113.1) 0)
     (cond (Nat.beq (c114.1) 0)
      (cond (Nat.beq (c115.1) 0)
       (cond (Nat.beq (c116.1) 0)
        (cond (joinOk ([(c112.2), (c113.2), (c114.2), (c115.2), (c116.2)] : List ByteArray) (ByteArray.mk #[32]))
         (cond (decide ((joinB ([(c112.2), (c113.2), (c114.2), (c115.2), (c116.2)] : List ByteArray) (ByteArray.mk #[32])).size + 1 ≤ strMax))
          (cond (decide (x0.size + ((joinB ([(c112.2), (c113.2), (c114.2), (c115.2), (c116.2)] : List ByteArray) (ByteArray.mk #[32])) ++ (ByteArray.mk #[10])).size ≤ strMax))
           (u40l0 x0 x1 x2 x3 (ih (x0 ++ ((joinB ([(c112.2), (c113.2), (c114.2), (c115.2), (c116.2)] : List ByteArray) (ByteArray.mk #[32])) ++ (ByteArray.mk #[10]))) x1 (IntKind.i64.wrap (x2 + 1)) x3))
           none)
          none)
         none)
        none)
       none)
      none)
     none)
    none)
   none)
  none)
 (a40l0 x0 x1 x2 x3 (0, x0)))
set_option maxRecDepth 100000 in
set_option maxHeartbeats 4000000 in
theorem e40l0 (m : Nat) (x0 : ByteArray) (x1 x2 : Int) (x3 : List (List Int)) : evC Tryz.prog ext T20 noL 200 (loopN Tryz.f40 0) (loopTail ([3, 6, 7, 8], []) [3] [] (sumK 34 [3, 6, 7, 8] [3] (q40l0 m))) (frameOf 34 [3, 6, 7, 8] [.string x0, wsl 0, vi x1, vi x2]) ⟨[⟨true, (some (.tab sc0 x3))⟩], 1, []⟩ = firstT ([((Nat.beq ((r40l0 (m + 1) x0 x1 x2 x3).1) 0), .exit 0, [.string ((r40l0 (m + 1) x0 x1 x2 x3).2)], ⟨[⟨true, (some (.tab sc0 x3))⟩], 1, []⟩)].map fun (b, x) => (b, (x.1, frameOf 34 [3] x.2.1, x.2.2))) :=
 (show evC Tryz.prog ext T20 noL 200 (loopN Tryz.f40 0) (loopTail ([3, 6, 7, 8], []) [3] [] (sumK 34 [3, 6, 7, 8] [3] (q40l0 m))) (frameOf 34 [3, 6, 7, 8] [.string x0, wsl 0, vi x1, vi x2]) ⟨[⟨true, (some (.tab sc0 x3))⟩], 1, []⟩ = w40l0 (r40l0 m) x0 x1 x2 x3 from by kernel_rfl).trans
 (show w40l0 (r40l0 m) x0 x1 x2 x3 = a40l0 x0 x1 x2 x3 (r40l0 (m + 1) x0 x1 x2 x3) from by unfold w40l0; show _ = a40l0 x0 x1 x2 x3 (b40l0 (r40l0 m) x0 x1 x2 x3); unfold b40l0; exact (cond_both (a40l0 x0 x1 x2 x3) _ (fun h0 => (cond_both (a40l0 x0 x1 x2 x3) _ (fun h1 => (cond_t (ev_and2 h1) (cond_app (a40l0 x0 x1 x2 x3) _ (cond_app (a40l0 x0 x1 x2 x3) _ (cond_app (a40l0 x0 x1 x2 x3) _ (cond_app (a40l0 x0 x1 x2 x3) _ (cond_app (a40l0 x0 x1 x2 x3) _ (cond_app (a40l0 x0 x1 x2 x3) _ (cond_app (a40l0 x0 x1 x2 x3) _ (cond_app (a40l0 x0 x1 x2 x3) _ (v40l0 x0 x1 x2 x3 ((r40l0 m) (x0 ++ ((joinB ([((r84 (Int.toNat ((x3.getD (Int.toNat x2) []).getD 0 0))).2), ((r84 (Int.toNat ((x3.getD (Int.toNat x2) []).getD 1 0))).2), ((r84 (Int.toNat ((x3.getD (Int.toNat x2) []).getD 2 0))).2), ((r84 (Int.toNat ((x3.getD (Int.toNat x2) []).getD 3 0))).2), ((r85 ((x3.getD (Int.toNat x2) []).getD 4 0)).2)] : List ByteArray) (ByteArray.mk #[32])) ++ (ByteArray.mk #[10]))) x1 (IntKind.i64.wrap (x2 + 1)) x3)) rfl) rfl) rfl) rfl) rfl) rfl) rfl) rfl))) (fun h1 => rfl))) (fun h0 => rfl)))
set_option maxRecDepth 100000 in
set_option maxHeartbeats 4000000 in
theorem qm40l0 : ∀ m, SumKOk Tryz.prog (loopN Tryz.f40 0) 34 [3, 6, 7, 8] [3] (q40l0 m) := by
  intro m
  induction m with
  | zero =>
    intro vals s x h1 h2 h3
    unfold q40l0 at h3; split at h3
    · rename_i h; split at h3
      · rename_i hc; obtain ⟨rfl⟩ := hc; exact absurd h3 (by simp [r40l0, firstT, Nat.beq])
      · exact noQ_ok _ _ _ h1 h2 h3
    · exact noQ_ok _ _ _ h1 h2 h3
  | succ m ih =>
    intro vals s x h1 h2 h3
    unfold q40l0 at h3; split at h3
    · rename_i h; split at h3
      · rename_i hc; obtain ⟨rfl⟩ := hc; exact sum_step ok20 extOk mixed ((lfOkF_no _ _).inner (by kernel_rfl)) ih h1 h2 h (e40l0 m _ _ _ _) rfl h3
      · exact noQ_ok _ _ _ h1 h2 h3
    · exact noQ_ok _ _ _ h1 h2 h3
noncomputable def Q40l0 : SumK := fun vals s => q40l0 (fuelOf vals s.h) vals s
theorem qok40l0 : SumKOk Tryz.prog (loopN Tryz.f40 0) 34 [3, 6, 7, 8] [3] Q40l0 := fuel_ok qm40l0 fuelOf
noncomputable def L40_1 : LoopT := addL noL 4 ([3, 6, 7, 8], []) (sumK 34 [3, 6, 7, 8] [3] Q40l0)
theorem lok40_1 : LfOkF Tryz.prog L40_1 Tryz.f40 := lfOkF_add (lfOkF_no _ _) qok40l0 (by kernel_rfl) (by kernel_rfl) (by kernel_rfl)

/-- impl.chimneyText -/
noncomputable def w40 {α : Type} (x0 : List (List Int)) (k : (Nat × ByteArray) → α) : α :=
 let c117 := (r40l0 (1000 + x0.length + 0) (ByteArray.mk #[]) ((x0.length : Nat) : Int) 0 x0)
 cond (Nat.beq (c117.1) 0)
  (k (0, (c117.2)))
  (k (1, ByteArray.empty))
noncomputable def r40 (x0 : List (List Int)) : Nat × ByteArray := w40 x0 (fun p => p)
noncomputable def g40 (x0 : List (List Int)) (p : Nat × ByteArray) : List (Bool × Value × St) := [((Nat.beq (p.1) 0), .string (p.2), ⟨[⟨true, (some (.tab sc0 x0))⟩], 1, []⟩)]
theorem p40 {α : Type} (x0 : List (List Int)) (f : (Nat × ByteArray) → α) : w40 x0 f = f (w40 x0 (fun p => p)) := by unfold w40; exact (cond_app f _ rfl rfl)
set_option maxRecDepth 100000 in
set_option maxHeartbeats 4000000 in
theorem e40 (x0 : List (List Int)) : evFn Tryz.prog ext T20 L40_1 200 Tryz.f40 [wsl 0] ⟨[⟨true, (some (.tab sc0 x0))⟩], 1, []⟩ = firstT (g40 x0 (r40 x0)) :=
 Eq.trans (by kernel_rfl) (p40 x0 (fun p => firstT (g40 x0 p)))
noncomputable def s40 (args : List Value) (s : St) : List (Bool × Value × St) :=
 match args, s.h with
 | [.iface f0 .nilIface], [⟨true, some (.tab [.fl .f32, .fl .f32, .fl .f32, .fl .f32, .int .i64] x0)⟩] => if f0 = 0 then (g40 x0 (r40 x0)) else T20 40 args s
 | _, _ => T20 40 args s
noncomputable def T21 : CallF := addF T20 40 s40
set_option maxRecDepth 100000 in
set_option maxHeartbeats 4000000 in
theorem ok21 : CfOk Tryz.prog T21 := by
  refine cfOk_add ok20 fun args s r s' h1 h2 h3 => ?_
  unfold s40 at h3; split at h3
  · rename_i h; split at h3
    · rename_i hc; obtain ⟨rfl⟩ := hc; exact callOk ok20 Tryz.func40 h1 h2 h lok40_1.body (e40 _) rfl h3
    · exact ok20 _ _ _ _ _ h1 h2 h3
  · exact ok20 _ _ _ _ _ h1 h2 h3

/-- impl.ChimneyText -/
noncomputable def w13 {α : Type} (x0 : List (List Int)) (k : (Nat × ByteArray) → α) : α :=
 cond (Nat.beq ((r16 x0).1) 0)
  (cond (!((r16 x0).2))
   (k (0, (ByteArray.mk #[])))
   (cond (Nat.beq ((r40 x0).1) 0)
    (k (0, ((r40 x0).2)))
    (k (1, ByteArray.empty))))
  (k (1, ByteArray.empty))
noncomputable def r13 (x0 : List (List Int)) : Nat × ByteArray := w13 x0 (fun p => p)
noncomputable def g13 (x0 : List (List Int)) (p : Nat × ByteArray) : List (Bool × Value × St) := [((Nat.beq (p.1) 0), .string (p.2), ⟨[⟨true, (some (.tab sc0 x0))⟩], 1, []⟩)]
theorem p13 {α : Type} (x0 : List (List Int)) (f : (Nat × ByteArray) → α) : w13 x0 f = f (w13 x0 (fun p => p)) := by unfold w13; exact (cond_app f _ (cond_app f _ rfl (cond_app f _ rfl rfl)) rfl)
set_option maxRecDepth 100000 in
set_option maxHeartbeats 4000000 in
theorem e13 (x0 : List (List Int)) : evFn Tryz.prog ext T21 noL 200 Tryz.f13 [wsl 0] ⟨[⟨true, (some (.tab sc0 x0))⟩], 1, []⟩ = firstT (g13 x0 (r13 x0)) :=
 Eq.trans (by kernel_rfl) (p13 x0 (fun p => firstT (g13 x0 p)))
noncomputable def s13 (args : List Value) (s : St) : List (Bool × Value × St) :=
 match args, s.h with
 | [.iface f0 .nilIface], [⟨true, some (.tab [.fl .f32, .fl .f32, .fl .f32, .fl .f32, .int .i64] x0)⟩] => if f0 = 0 then (g13 x0 (r13 x0)) else T21 13 args s
 | _, _ => T21 13 args s
noncomputable def T22 : CallF := addF T21 13 s13
set_option maxRecDepth 100000 in
set_option maxHeartbeats 4000000 in
theorem ok22 : CfOk Tryz.prog T22 := by
  refine cfOk_add ok21 fun args s r s' h1 h2 h3 => ?_
  unfold s13 at h3; split at h3
  · rename_i h; split at h3
    · rename_i hc; obtain ⟨rfl⟩ := hc; exact callOk ok21 Tryz.func13 h1 h2 h (lfOkF_no _ _).body (e13 _) rfl h3
    · exact ok21 _ _ _ _ _ h1 h2 h3
  · exact ok21 _ _ _ _ _ h1 h2 h3

/-- impl.linesOf -/
noncomputable def w35 {α : Type} (x0 : ByteArray) (k : (Nat × Nat × Bool × List ByteArray) → α) : α :=
 cond (x0.toList == (ByteArray.mk #[]).toList)
  (k (0, 0, false, []))
  (cond (Nat.blt (x0.size) 4294967281)
   (cond (((decide ((0 : Int) ≤ (IntKind.i64.wrap ((((splB 10 x0).length : Nat) : Int) - 1)))) && (Nat.ble 0 (Int.toNat (IntKind.i64.wrap ((((splB 10 x0).length : Nat) : Int) - 1))))) && (Nat.ble (Int.toNat (IntKind.i64.wrap ((((splB 10 x0).length : Nat) : Int) - 1))) ((splB 10 x0).length)))
    (cond ((decide ((0 : Int) ≤ (IntKind.i64.wrap ((((splB 10 x0).length : Nat) : Int) - 1)))) && (Nat.blt (Int.toNat (IntKind.i64.wrap ((((splB 10 x0).length : Nat) : Int) - 1))) ((splB 10 x0).length)))
     (cond (Nat.blt (0 + (Int.toNat (IntKind.i64.wrap ((((splB 10 x0).length : Nat) : Int) - 1)))) ((splB 10 x0).length))
      (k (1, (Int.toNat (IntKind.i64.wrap ((((splB 10 x0).length : Nat) : Int) - 1))), (((splB 10 x0).getD (0 + (Int.toNat (IntKind.i64.wrap ((((splB 10 x0).length : Nat) : Int) - 1)))) .empty).toList == (ByteArray.mk #[]).toList), (splB 10 x0)))
      (k (2, 0, false, [])))
     (k (2, 0, false, [])))
    (k (2, 0, false, [])))
   (k (2, 0, false, [])))
noncomputable def r35 (x0 : ByteArray) : Nat × Nat × Bool × List ByteArray := w35 x0 (fun p => p)
noncomputable def g35 (x0 : ByteArray) (p : Nat × Nat × Bool × List ByteArray) : List (Bool × Value × St) := [((Nat.beq (p.1) 0), .tuple #[.slice none 0 0, .bool true], st0), ((Nat.beq (p.1) 1), .tuple #[rsl ⟨0, 0, some 0⟩ (p.2.1), .bool (p.2.2.1)], ⟨[⟨true, (some (.strs (p.2.2.2)))⟩], 0, []⟩)]
theorem p35 {α : Type} (x0 : ByteArray) (f : (Nat × Nat × Bool × List ByteArray) → α) : w35 x0 f = f (w35 x0 (fun p => p)) := by unfold w35; repeat' (first | refine cond_app f _ ?_ ?_ | rfl)
set_option maxRecDepth 100000 in
set_option maxHeartbeats 4000000 in
theorem e35 (x0 : ByteArray) : evFn Tryz.prog ext T22 noL 200 Tryz.f35 [.string x0] st0 = firstT (g35 x0 (r35 x0)) :=
 Eq.trans (by kernel_rfl) (p35 x0 (fun p => firstT (g35 x0 p)))
noncomputable def s35 (args : List Value) (s : St) : List (Bool × Value × St) :=
 match args, s.h with
 | [.string x0], [] => (g35 x0 (r35 x0))
 | _, _ => T22 35 args s
noncomputable def T23 : CallF := addF T22 35 s35
set_option maxRecDepth 100000 in
set_option maxHeartbeats 4000000 in
theorem ok23 : CfOk Tryz.prog T23 := by
  refine cfOk_add ok22 fun args s r s' h1 h2 h3 => ?_
  unfold s35 at h3; split at h3
  · rename_i h; exact callOk ok22 Tryz.func35 h1 h2 h (lfOkF_no _ _).body (e35 _) rfl h3
  · exact ok22 _ _ _ _ _ h1 h2 h3

/-- impl.ReadChimney, loop 0 -/
noncomputable def w7l0 {α : Type} (x0 : ByteArray) (k : Unit → α) : α :=
 k ()
noncomputable def r7l0 (x0 : ByteArray) : Unit := w7l0 x0 (fun p => p)
noncomputable def g7l0 (x0 : ByteArray) (p : Unit) : List (Bool × (Fin' × List Value × St)) := [(true, .exit 0, [.string x0, anyV, anyV, wsl 0], ⟨[⟨true, (some (.tab sc0 ([] : List (List Int))))⟩], 1, []⟩)]
theorem p7l0 {α : Type} (x0 : ByteArray) (f : Unit → α) : w7l0 x0 f = f (w7l0 x0 (fun p => p)) := by unfold w7l0; exact rfl
set_option maxRecDepth 100000 in
set_option maxHeartbeats 4000000 in
theorem e7l0 (x0 : ByteArray) : evC Tryz.prog ext T23 noL 200 (loopN Tryz.f7 0) (loopTail ([0, 6, 24, 25, 26], []) [0, 2, 3, 6] [] (sumK 62 [0, 6, 24, 25, 26] [0, 2, 3, 6] noQ)) (frameOf 62 [0, 6, 24, 25, 26] [.string x0, wsl 0, .slice none 0 0, vi 0, vi 0]) ⟨[⟨true, (some (.tab sc0 ([] : List (List Int))))⟩], 1, []⟩ = firstT ((g7l0 x0 (r7l0 x0)).map fun (b, x) => (b, (x.1, frameOf 62 [0, 2, 3, 6] x.2.1, x.2.2))) :=
 Eq.trans (by kernel_rfl) (p7l0 x0 (fun p => firstT ((g7l0 x0 p).map fun (b, x) => (b, (x.1, frameOf 62 [0, 2, 3, 6] x.2.1, x.2.2)))))
noncomputable def Q7l0 : SumK := fun vals s =>
 match vals, s.h with
 | [.string x0, .iface f0 .nilIface, .slice none f1 f2, .int .i64 f3, .int .i64 f4], [⟨true, some (.tab [.fl .f32, .fl .f32, .fl .f32, .fl .f32, .int .i64] [])⟩] => if f0 = 0 ∧ f1 = 0 ∧ f2 = 0 ∧ f3 = 0 ∧ f4 = 0 then (g7l0 x0 (r7l0 x0)) else noQ vals s
 | _, _ => noQ vals s
set_option maxRecDepth 100000 in
set_option maxHeartbeats 4000000 in
theorem qok7l0 : SumKOk Tryz.prog (loopN Tryz.f7 0) 62 [0, 6, 24, 25, 26] [0, 2, 3, 6] Q7l0 := by
  intro vals s x h1 h2 h3
  unfold Q7l0 at h3; split at h3
  · rename_i h; split at h3
    · rename_i hc; obtain ⟨rfl, rfl, rfl, rfl, rfl⟩ := hc; exact sum_step ok23 extOk mixed ((lfOkF_no _ _).inner (by kernel_rfl)) noQ_ok h1 h2 h (e7l0 _) rfl h3
    · exact noQ_ok _ _ _ h1 h2 h3
  · exact noQ_ok _ _ _ h1 h2 h3
noncomputable def L7_1 : LoopT := addL noL 7 ([0, 6, 24, 25, 26], []) (sumK 62 [0, 6, 24, 25, 26] [0, 2, 3, 6] Q7l0)
theorem lok7_1 : LfOkF Tryz.prog L7_1 Tryz.f7 := lfOkF_add (lfOkF_no _ _) qok7l0 (by kernel_rfl) (by kernel_rfl) (by kernel_rfl)

/-- impl.split -/
noncomputable def w36 {α : Type} (x0 : ByteArray) (k : (Nat × Nat × List ByteArray) → α) : α :=
 cond (Nat.blt (x0.size) 4294967281)
  (k (0, (splB 32 x0).length, (splB 32 x0)))
  (k (1, 0, []))
noncomputable def r36 (x0 : ByteArray) : Nat × Nat × List ByteArray := w36 x0 (fun p => p)
noncomputable def g36 (x0 : ByteArray) (p : Nat × Nat × List ByteArray) : List (Bool × Value × St) := [((Nat.beq (p.1) 0), vp 0, ⟨[⟨true, (some (.cells [rsl ⟨1, 0, some 0⟩ (p.2.1), .bool false]))⟩, ⟨true, (some (.strs (p.2.2)))⟩], 0, []⟩)]
theorem p36 {α : Type} (x0 : ByteArray) (f : (Nat × Nat × List ByteArray) → α) : w36 x0 f = f (w36 x0 (fun p => p)) := by unfold w36; exact (cond_app f _ rfl rfl)
set_option maxRecDepth 100000 in
set_option maxHeartbeats 4000000 in
theorem e36 (x0 : ByteArray) : evFn Tryz.prog ext T23 noL 200 Tryz.f36 [.string x0] st0 = firstT (g36 x0 (r36 x0)) :=
 Eq.trans (by kernel_rfl) (p36 x0 (fun p => firstT (g36 x0 p)))
noncomputable def s36 (args : List Value) (s : St) : List (Bool × Value × St) :=
 match args, s.h with
 | [.string x0], [] => (g36 x0 (r36 x0))
 | _, _ => T23 36 args s
noncomputable def T24 : CallF := addF T23 36 s36
set_option maxRecDepth 100000 in
set_option maxHeartbeats 4000000 in
theorem ok24 : CfOk Tryz.prog T24 := by
  refine cfOk_add ok23 fun args s r s' h1 h2 h3 => ?_
  unfold s36 at h3; split at h3
  · rename_i h; exact callOk ok23 Tryz.func36 h1 h2 h (lfOkF_no _ _).body (e36 _) rfl h3
  · exact ok23 _ _ _ _ _ h1 h2 h3

/-- (*impl.words).next -/
noncomputable def w81 {α : Type} (x0 x1 : Nat) (x2 : Bool) (x3 : List ByteArray) (k : (Nat × ByteArray × Nat × Nat × Bool) → α) : α :=
 cond ((((x1 : Nat) : Int) : Int) == 0)
  (k (0, (ByteArray.mk #[]), x0, x1, true))
  (cond (Nat.blt 0 x1)
   (cond (Nat.blt (x0 + 0) x3.length)
    (cond ((Nat.ble 1 x1) && (Nat.ble x1 x1))
     (k (0, (x3.getD (x0 + 0) .empty), (x0 + 1), (x1 - 1), x2))
     (k (1, ByteArray.empty, 0, 0, false)))
    (k (1, ByteArray.empty, 0, 0, false)))
   (k (1, ByteArray.empty, 0, 0, false)))
noncomputable def r81 (x0 x1 : Nat) (x2 : Bool) (x3 : List ByteArray) : Nat × ByteArray × Nat × Nat × Bool := w81 x0 x1 x2 x3 (fun p => p)
noncomputable def g81 (x0 x1 : Nat) (x2 : Bool) (x3 : List ByteArray) (p : Nat × ByteArray × Nat × Nat × Bool) : List (Bool × Value × St) := [((Nat.beq (p.1) 0), .string (p.2.1), ⟨[⟨true, (some (.cells [rsl ⟨1, (p.2.2.1), some 0⟩ (p.2.2.2.1), .bool (p.2.2.2.2)]))⟩, ⟨true, (some (.strs x3))⟩], 2, [0]⟩)]
theorem p81 {α : Type} (x0 x1 : Nat) (x2 : Bool) (x3 : List ByteArray) (f : (Nat × ByteArray × Nat × Nat × Bool) → α) : w81 x0 x1 x2 x3 f = f (w81 x0 x1 x2 x3 (fun p => p)) := by unfold w81; exact (cond_app f _ rfl (cond_app f _ (cond_app f _ (cond_app f _ rfl rfl) rfl) rfl))
set_option maxRecDepth 100000 in
set_option maxHeartbeats 4000000 in
theorem e81 (x0 x1 : Nat) (x2 : Bool) (x3 : List ByteArray) : evFn Tryz.prog ext T24 noL 200 Tryz.f81 [vp 0] ⟨[⟨true, (some (.cells [rsl ⟨1, x0, some 0⟩ x1, .bool x2]))⟩, ⟨true, (some (.strs x3))⟩], 2, []⟩ = firstT (g81 x0 x1 x2 x3 (r81 x0 x1 x2 x3)) :=
 Eq.trans (by kernel_rfl) (p81 x0 x1 x2 x3 (fun p => firstT (g81 x0 x1 x2 x3 p)))
noncomputable def s81 (args : List Value) (s : St) : List (Bool × Value × St) :=
 match args, s.h with
 | [.pointer (some ⟨f0, f1, some f2⟩)], [⟨true, some (.cells [.iface x1 (.pointer (some ⟨f3, x0, some f4⟩)), .bool x2])⟩, ⟨true, some (.strs x3)⟩] => if f0 = 0 ∧ f1 = 0 ∧ f2 = 0 ∧ f3 = 1 ∧ f4 = 0 then (g81 x0 x1 x2 x3 (r81 x0 x1 x2 x3)) else T24 81 args s
 | _, _ => T24 81 args s
noncomputable def T25 : CallF := addF T24 81 s81
set_option maxRecDepth 100000 in
set_option maxHeartbeats 4000000 in
theorem ok25 : CfOk Tryz.prog T25 := by
  refine cfOk_add ok24 fun args s r s' h1 h2 h3 => ?_
  unfold s81 at h3; split at h3
  · rename_i h; split at h3
    · rename_i hc; obtain ⟨rfl, rfl, rfl, rfl, rfl⟩ := hc; exact callOk ok24 Tryz.func81 h1 h2 h (lfOkF_no _ _).body (e81 _ _ _ _) rfl h3
    · exact ok24 _ _ _ _ _ h1 h2 h3
  · exact ok24 _ _ _ _ _ h1 h2 h3

/-- impl.unhex, loop 0: one round -/
noncomputable def w120l0 {α : Type} (ih : ByteArray → Int → Int → Int → (Nat × Int × Int)) (x0 : ByteArray) (x1 x2 x3 : Int) (k k2 : (Nat × Int × Int) → α) : α :=
 cond (decide ((x3 : Int) < x2))
  (cond ((decide ((0 : Int) ≤ x3)) && (Nat.blt (Int.toNat x3) (x0.size)))
   (cond (decide (((ixB (ByteArray.mk #[48, 49, 50, 51, 52, 53, 54, 55, 56, 57, 97, 98, 99, 100, 101, 102]) ((UInt8.toNat (List.getD (ByteArray.data x0).toList (Int.toNat x3) 0) : Nat) : Int)) : Int) < 0))
    (k (0, x1, 0))
    (k2 (ih x0 (bits .or .u32 (IntKind.u32.wrap (x1 * 2 ^ (min (4 : Int).toNat (IntKind.bits .u32)))) (IntKind.u32.wrap (ixB (ByteArray.mk #[48, 49, 50, 51, 52, 53, 54, 55, 56, 57, 97, 98, 99, 100, 101, 102]) ((UInt8.toNat (List.getD (ByteArray.data x0).toList (Int.toNat x3) 0) : Nat) : Int)))) x2 (IntKind.i64.wrap (x3 + 1)))))
   (k (2, 0, 0)))
  (k (1, 0, x1))
noncomputable def b120l0 (ih : ByteArray → Int → Int → Int → (Nat × Int × Int)) (x0 : ByteArray) (x1 x2 x3 : Int) : Nat × Int × Int := w120l0 ih x0 x1 x2 x3 (fun p => p) (fun p => p)
noncomputable def r120l0 : Nat → ByteArray → Int → Int → Int → (Nat × Int × Int)
 | 0 => fun _ _ _ _ => (2, 0, 0)
 | m + 1 => b120l0 (r120l0 m)
noncomputable def g120l0 (x0 : ByteArray) (x1 x2 x3 : Int) (p : Nat × Int × Int) : List (Bool × (Fin' × List Value × St)) := [((Nat.beq (p.1) 0), .ret, [.int .u32 0, .bool false, .int .u32 (p.2.1)], st0), ((Nat.beq (p.1) 1), .exit 0, [anyV, anyV, .int .u32 (p.2.2)], st0)]
noncomputable def a120l0 (x0 : ByteArray) (x1 x2 x3 : Int) (p : Nat × Int × Int) : Option (Fin' × List Value × St) := firstT ((g120l0 x0 x1 x2 x3 p).map fun (b, x) => (b, (x.1, frameOf 28 [2, 3, 4] x.2.1, x.2.2)))
noncomputable def u120l0 (x0 : ByteArray) (x1 x2 x3 : Int) (p : Nat × Int × Int) : Option (Fin' × List Value × St) := alts ((g120l0 x0 x1 x2 x3 p).map fun (b, x) => (b, (x.1, frameOf 28 [2, 3, 4] x.2.1, x.2.2))) some
theorem v120l0 (x0 : ByteArray) (x1 x2 x3 : Int) (p : Nat × Int × Int) : u120l0 x0 x1 x2 x3 p = a120l0 x0 x1 x2 x3 p := alts_first _
noncomputable def q120l0 (m : Nat) : SumK := fun vals s =>
 match vals, s.h with
 | [.string x0, .int .u32 x1, .int .i64 x2, .int .i64 x3], [] => (g120l0 x0 x1 x2 x3 (r120l0 m x0 x1 x2 x3))
 | _, _ => noQ vals s
theorem p120l0 {α : Type} (ih : ByteArray → Int → Int → Int → (Nat × Int × Int)) (x0 : ByteArray) (x1 x2 x3 : Int) (f : (Nat × Int × Int) → α) (u : (Nat × Int × Int) → α) (h : ∀ p, u p = f p) : w120l0 ih x0 x1 x2 x3 f u = f (w120l0 ih x0 x1 x2 x3 (fun p => p) (fun p => p)) := by unfold w120l0; repeat' (first | refine cond_app f _ ?_ ?_ | rfl | exact h _)
set_option maxRecDepth 100000 in
set_option maxHeartbeats 4000000 in
theorem e120l0 (m : Nat) (x0 : ByteArray) (x1 x2 x3 : Int) : evC Tryz.prog ext T25 noL 200 (loopN Tryz.f120 0) (loopTail ([0, 4, 11, 12], []) [2, 3, 4] [] (sumK 28 [0, 4, 11, 12] [2, 3, 4] (q120l0 m))) (frameOf 28 [0, 4, 11, 12] [.string x0, .int .u32 x1, vi x2, vi x3]) ⟨[], 0, []⟩ = firstT ((g120l0 x0 x1 x2 x3 (r120l0 (m + 1) x0 x1 x2 x3)).map fun (b, x) => (b, (x.1, frameOf 28 [2, 3, 4] x.2.1, x.2.2))) :=
 Eq.trans (by kernel_rfl) (p120l0 (r120l0 m) x0 x1 x2 x3 (a120l0 x0 x1 x2 x3) (u120l0 x0 x1 x2 x3) (v120l0 x0 x1 x2 x3))
set_option maxRecDepth 100000 in
set_option maxHeartbeats 4000000 in
theorem qm120l0 : ∀ m, SumKOk Tryz.prog (loopN Tryz.f120 0) 28 [0, 4, 11, 12] [2, 3, 4] (q120l0 m) := by
  intro m
  induction m with
  | zero =>
    intro vals s x h1 h2 h3
    unfold q120l0 at h3; split at h3
    · rename_i h; exact absurd h3 (by simp [r120l0, g120l0, firstT, Nat.beq])
    · exact noQ_ok _ _ _ h1 h2 h3
  | succ m ih =>
    intro vals s x h1 h2 h3
    unfold q120l0 at h3; split at h3
    · rename_i h; exact sum_step ok25 extOk mixed ((lfOkF_no _ _).inner (by kernel_rfl)) ih h1 h2 h (e120l0 m _ _ _ _) rfl h3
    · exact noQ_ok _ _ _ h1 h2 h3
noncomputable def Q120l0 : SumK := fun vals s => q120l0 (fuelOf vals s.h) vals s
theorem qok120l0 : SumKOk Tryz.prog (loopN Tryz.f120 0) 28 [0, 4, 11, 12] [2, 3, 4] Q120l0 := fuel_ok qm120l0 fuelOf
noncomputable def L120_1 : LoopT := addL noL 6 ([0, 4, 11, 12], []) (sumK 28 [0, 4, 11, 12] [2, 3, 4] Q120l0)
theorem lok120_1 : LfOkF Tryz.prog L120_1 Tryz.f120 := lfOkF_add (lfOkF_no _ _) qok120l0 (by kernel_rfl) (by kernel_rfl) (by kernel_rfl)

/-- impl.unhex -/
noncomputable def w120 {α : Type} (x0 : ByteArray) (k : (Nat × Int × Bool) → α) : α :=
 let c118 := (r120l0 (1000 + (x0.size)) x0 0 (((x0.size) : Nat) : Int) 0)
 cond (((((x0.size) : Nat) : Int) : Int) != 8)
  (k (0, 0, false))
  (cond (Nat.beq (c118.1) 0)
   (k (0, 0, false))
   (cond (Nat.beq (c118.1) 1)
    (k (0, (c118.2.2), true))
    (k (1, 0, false))))
noncomputable def r120 (x0 : ByteArray) : Nat × Int × Bool := w120 x0 (fun p => p)
noncomputable def g120 (x0 : ByteArray) (p : Nat × Int × Bool) : List (Bool × Value × St) := [((Nat.beq (p.1) 0), .tuple #[.int .u32 (p.2.1), .bool (p.2.2)], st0)]
theorem p120 {α : Type} (x0 : ByteArray) (f : (Nat × Int × Bool) → α) : w120 x0 f = f (w120 x0 (fun p => p)) := by unfold w120; exact (cond_app f _ rfl (cond_app f _ rfl (cond_app f _ rfl rfl)))
set_option maxRecDepth 100000 in
set_option maxHeartbeats 4000000 in
theorem e120 (x0 : ByteArray) : evFn Tryz.prog ext T25 L120_1 200 Tryz.f120 [.string x0] st0 = firstT (g120 x0 (r120 x0)) :=
 Eq.trans (by kernel_rfl) (p120 x0 (fun p => firstT (g120 x0 p)))
noncomputable def s120 (args : List Value) (s : St) : List (Bool × Value × St) :=
 match args, s.h with
 | [.string x0], [] => (g120 x0 (r120 x0))
 | _, _ => T25 120 args s
noncomputable def T26 : CallF := addF T25 120 s120
set_option maxRecDepth 100000 in
set_option maxHeartbeats 4000000 in
theorem ok26 : CfOk Tryz.prog T26 := by
  refine cfOk_add ok25 fun args s r s' h1 h2 h3 => ?_
  unfold s120 at h3; split at h3
  · rename_i h; exact callOk ok25 Tryz.func120 h1 h2 h lok120_1.body (e120 _) rfl h3
  · exact ok25 _ _ _ _ _ h1 h2 h3

/-- impl.ReadNumber -/
noncomputable def w80 {α : Type} (x0 : ByteArray) (k : (Nat × Nat × Int) → α) : α :=
 cond (Nat.beq ((r120 x0).1) 0)
  (cond (!((r120 x0).2.2))
   (k (0, 0, 5))
   (cond (Nat.beq ((r84 (Int.toNat ((r120 x0).2.1))).1) 0)
    (cond (!(((r84 (Int.toNat ((r120 x0).2.1))).2).toList == x0.toList))
     (k (0, 0, 5))
     (k (0, (Int.toNat ((r120 x0).2.1)), 0)))
    (k (1, 0, 0))))
  (k (1, 0, 0))
noncomputable def r80 (x0 : ByteArray) : Nat × Nat × Int := w80 x0 (fun p => p)
noncomputable def g80 (x0 : ByteArray) (p : Nat × Nat × Int) : List (Bool × Value × St) := [((Nat.beq (p.1) 0), .tuple #[vf (p.2.1), vi (p.2.2)], st0)]
theorem p80 {α : Type} (x0 : ByteArray) (f : (Nat × Nat × Int) → α) : w80 x0 f = f (w80 x0 (fun p => p)) := by unfold w80; exact (cond_app f _ (cond_app f _ rfl (cond_app f _ (cond_app f _ rfl rfl) rfl)) rfl)
set_option maxRecDepth 100000 in
set_option maxHeartbeats 4000000 in
theorem e80 (x0 : ByteArray) : evFn Tryz.prog ext T26 noL 200 Tryz.f80 [.string x0] st0 = firstT (g80 x0 (r80 x0)) :=
 Eq.trans (by kernel_rfl) (p80 x0 (fun p => firstT (g80 x0 p)))
noncomputable def s80 (args : List Value) (s : St) : List (Bool × Value × St) :=
 match args, s.h with
 | [.string x0], [] => (g80 x0 (r80 x0))
 | _, _ => T26 80 args s
noncomputable def T27 : CallF := addF T26 80 s80
set_option maxRecDepth 100000 in
set_option maxHeartbeats 4000000 in
theorem ok27 : CfOk Tryz.prog T27 := by
  refine cfOk_add ok26 fun args s r s' h1 h2 h3 => ?_
  unfold s80 at h3; split at h3
  · rename_i h; exact callOk ok26 Tryz.func80 h1 h2 h (lfOkF_no _ _).body (e80 _) rfl h3
  · exact ok26 _ _ _ _ _ h1 h2 h3

/-- (*impl.words).number -/
noncomputable def w37 {α : Type} (x0 x1 : Nat) (x2 : Bool) (x3 : List ByteArray) (k : (Nat × Nat × Nat × Nat × Bool) → α) : α :=
 cond (Nat.beq ((r81 x0 x1 x2 x3).1) 0)
  (cond (Nat.beq ((r80 ((r81 x0 x1 x2 x3).2.1)).1) 0)
   (cond ((r81 x0 x1 x2 x3).2.2.2.2)
    (k (0, ((r80 ((r81 x0 x1 x2 x3).2.1)).2.1), ((r81 x0 x1 x2 x3).2.2.1), ((r81 x0 x1 x2 x3).2.2.2.1), true))
    (k (0, ((r80 ((r81 x0 x1 x2 x3).2.1)).2.1), ((r81 x0 x1 x2 x3).2.2.1), ((r81 x0 x1 x2 x3).2.2.2.1), ((((r80 ((r81 x0 x1 x2 x3).2.1)).2.2) : Int) != 0))))
   (k (1, 0, 0, 0, false)))
  (k (1, 0, 0, 0, false))
noncomputable def r37 (x0 x1 : Nat) (x2 : Bool) (x3 : List ByteArray) : Nat × Nat × Nat × Nat × Bool := w37 x0 x1 x2 x3 (fun p => p)
noncomputable def g37 (x0 x1 : Nat) (x2 : Bool) (x3 : List ByteArray) (p : Nat × Nat × Nat × Nat × Bool) : List (Bool × Value × St) := [((Nat.beq (p.1) 0), vf (p.2.1), ⟨[⟨true, (some (.cells [rsl ⟨1, (p.2.2.1), some 0⟩ (p.2.2.2.1), .bool (p.2.2.2.2)]))⟩, ⟨true, (some (.strs x3))⟩], 2, [0]⟩)]
theorem p37 {α : Type} (x0 x1 : Nat) (x2 : Bool) (x3 : List ByteArray) (f : (Nat × Nat × Nat × Nat × Bool) → α) : w37 x0 x1 x2 x3 f = f (w37 x0 x1 x2 x3 (fun p => p)) := by unfold w37; exact (cond_app f _ (cond_app f _ (cond_app f _ rfl rfl) rfl) rfl)
set_option maxRecDepth 100000 in
set_option maxHeartbeats 4000000 in
theorem e37 (x0 x1 : Nat) (x2 : Bool) (x3 : List ByteArray) : evFn Tryz.prog ext T27 noL 200 Tryz.f37 [vp 0] ⟨[⟨true, (some (.cells [rsl ⟨1, x0, some 0⟩ x1, .bool x2]))⟩, ⟨true, (some (.strs x3))⟩], 2, []⟩ = firstT (g37 x0 x1 x2 x3 (r37 x0 x1 x2 x3)) :=
 Eq.trans (by kernel_rfl) (p37 x0 x1 x2 x3 (fun p => firstT (g37 x0 x1 x2 x3 p)))
noncomputable def s37 (args : List Value) (s : St) : List (Bool × Value × St) :=
 match args, s.h with
 | [.pointer (some ⟨f0, f1, some f2⟩)], [⟨true, some (.cells [.iface x1 (.pointer (some ⟨f3, x0, some f4⟩)), .bool x2])⟩, ⟨true, some (.strs x3)⟩] => if f0 = 0 ∧ f1 = 0 ∧ f2 = 0 ∧ f3 = 1 ∧ f4 = 0 then (g37 x0 x1 x2 x3 (r37 x0 x1 x2 x3)) else T27 37 args s
 | _, _ => T27 37 args s
noncomputable def T28 : CallF := addF T27 37 s37
set_option maxRecDepth 100000 in
set_option maxHeartbeats 4000000 in
theorem ok28 : CfOk Tryz.prog T28 := by
  refine cfOk_add ok27 fun args s r s' h1 h2 h3 => ?_
  unfold s37 at h3; split at h3
  · rename_i h; split at h3
    · rename_i hc; obtain ⟨rfl, rfl, rfl, rfl, rfl⟩ := hc; exact callOk ok27 Tryz.func37 h1 h2 h (lfOkF_no _ _).body (e37 _ _ _ _) rfl h3
    · exact ok27 _ _ _ _ _ h1 h2 h3
  · exact ok27 _ _ _ _ _ h1 h2 h3

/-- (*impl.words).integer -/
noncomputable def w82 {α : Type} (x0 x1 : Nat) (x2 : Bool) (x3 : List ByteArray) (k : (Nat × Int × Nat × Nat × Bool) → α) : α :=
 cond (Nat.beq ((r81 x0 x1 x2 x3).1) 0)
  (cond (Nat.ble (((r81 x0 x1 x2 x3).2.1).size) 281474976710656)
   (cond ((r81 x0 x1 x2 x3).2.2.2.2)
    (k (0, (pInt ((r81 x0 x1 x2 x3).2.1)), ((r81 x0 x1 x2 x3).2.2.1), ((r81 x0 x1 x2 x3).2.2.2.1), true))
    (k (0, (pInt ((r81 x0 x1 x2 x3).2.1)), ((r81 x0 x1 x2 x3).2.2.1), ((r81 x0 x1 x2 x3).2.2.2.1), (!(pOk ((r81 x0 x1 x2 x3).2.1))))))
   (k (1, 0, 0, 0, false)))
  (k (1, 0, 0, 0, false))
noncomputable def r82 (x0 x1 : Nat) (x2 : Bool) (x3 : List ByteArray) : Nat × Int × Nat × Nat × Bool := w82 x0 x1 x2 x3 (fun p => p)
noncomputable def g82 (x0 x1 : Nat) (x2 : Bool) (x3 : List ByteArray) (p : Nat × Int × Nat × Nat × Bool) : List (Bool × Value × St) := [((Nat.beq (p.1) 0), vi (p.2.1), ⟨[⟨true, (some (.cells [rsl ⟨1, (p.2.2.1), some 0⟩ (p.2.2.2.1), .bool (p.2.2.2.2)]))⟩, ⟨true, (some (.strs x3))⟩], 2, [0]⟩)]
theorem p82 {α : Type} (x0 x1 : Nat) (x2 : Bool) (x3 : List ByteArray) (f : (Nat × Int × Nat × Nat × Bool) → α) : w82 x0 x1 x2 x3 f = f (w82 x0 x1 x2 x3 (fun p => p)) := by unfold w82; exact (cond_app f _ (cond_app f _ (cond_app f _ rfl rfl) rfl) rfl)
set_option maxRecDepth 100000 in
set_option maxHeartbeats 4000000 in
theorem e82 (x0 x1 : Nat) (x2 : Bool) (x3 : List ByteArray) : evFn Tryz.prog ext T28 noL 200 Tryz.f82 [vp 0] ⟨[⟨true, (some (.cells [rsl ⟨1, x0, some 0⟩ x1, .bool x2]))⟩, ⟨true, (some (.strs x3))⟩], 2, []⟩ = firstT (g82 x0 x1 x2 x3 (r82 x0 x1 x2 x3)) :=
 Eq.trans (by kernel_rfl) (p82 x0 x1 x2 x3 (fun p => firstT (g82 x0 x1 x2 x3 p)))
noncomputable def s82 (args : List Value) (s : St) : List (Bool × Value × St) :=
 match args, s.h with
 | [.pointer (some ⟨f0, f1, some f2⟩)], [⟨true, some (.cells [.iface x1 (.pointer (some ⟨f3, x0, some f4⟩)), .bool x2])⟩, ⟨true, some (.strs x3)⟩] => if f0 = 0 ∧ f1 = 0 ∧ f2 = 0 ∧ f3 = 1 ∧ f4 = 0 then (g82 x0 x1 x2 x3 (r82 x0 x1 x2 x3)) else T28 82 args s
 | _, _ => T28 82 args s
noncomputable def T29 : CallF := addF T28 82 s82
set_option maxRecDepth 100000 in
set_option maxHeartbeats 4000000 in
theorem ok29 : CfOk Tryz.prog T29 := by
  refine cfOk_add ok28 fun args s r s' h1 h2 h3 => ?_
  unfold s82 at h3; split at h3
  · rename_i h; split at h3
    · rename_i hc; obtain ⟨rfl, rfl, rfl, rfl, rfl⟩ := hc; exact callOk ok28 Tryz.func82 h1 h2 h (lfOkF_no _ _).body (e82 _ _ _ _) rfl h3
    · exact ok28 _ _ _ _ _ h1 h2 h3
  · exact ok28 _ _ _ _ _ h1 h2 h3

/-- (*impl.words).side -/
noncomputable def w38 {α : Type} (x0 x1 : Nat) (x2 : Bool) (x3 : List ByteArray) (k : (Nat × Int × Nat × Nat × Bool) → α) : α :=
 cond (decide ((((x1 : Nat) : Int) : Int) > 0))
  (cond (Nat.blt 0 x1)
   (cond (Nat.blt (x0 + 0) x3.length)
    (cond ((x3.getD (x0 + 0) .empty).toList == (ByteArray.mk #[45]).toList)
     (cond (Nat.beq ((r81 x0 x1 x2 x3).1) 0)
      (k (0, (-1), ((r81 x0 x1 x2 x3).2.2.1), ((r81 x0 x1 x2 x3).2.2.2.1), ((r81 x0 x1 x2 x3).2.2.2.2)))
      (k (1, 0, 0, 0, false)))
     (cond (Nat.beq ((r82 x0 x1 x2 x3).1) 0)
      (k (0, ((r82 x0 x1 x2 x3).2.1), ((r82 x0 x1 x2 x3).2.2.1), ((r82 x0 x1 x2 x3).2.2.2.1), ((r82 x0 x1 x2 x3).2.2.2.2)))
      (k (1, 0, 0, 0, false))))
    (k (1, 0, 0, 0, false)))
   (k (1, 0, 0, 0, false)))
  (cond (Nat.beq ((r82 x0 x1 x2 x3).1) 0)
   (k (0, ((r82 x0 x1 x2 x3).2.1), ((r82 x0 x1 x2 x3).2.2.1), ((r82 x0 x1 x2 x3).2.2.2.1), ((r82 x0 x1 x2 x3).2.2.2.2)))
   (k (1, 0, 0, 0, false)))
noncomputable def r38 (x0 x1 : Nat) (x2 : Bool) (x3 : List ByteArray) : Nat × Int × Nat × Nat × Bool := w38 x0 x1 x2 x3 (fun p => p)
noncomputable def g38 (x0 x1 : Nat) (x2 : Bool) (x3 : List ByteArray) (p : Nat × Int × Nat × Nat × Bool) : List (Bool × Value × St) := [((Nat.beq (p.1) 0), vi (p.2.1), ⟨[⟨true, (some (.cells [rsl ⟨1, (p.2.2.1), some 0⟩ (p.2.2.2.1), .bool (p.2.2.2.2)]))⟩, ⟨true, (some (.strs x3))⟩], 2, [0]⟩)]
theorem p38 {α : Type} (x0 x1 : Nat) (x2 : Bool) (x3 : List ByteArray) (f : (Nat × Int × Nat × Nat × Bool) → α) : w38 x0 x1 x2 x3 f = f (w38 x0 x1 x2 x3 (fun p => p)) := by unfold w38; repeat' (first | refine cond_app f _ ?_ ?_ | rfl)
set_option maxRecDepth 100000 in
set_option maxHeartbeats 4000000 in
theorem e38 (x0 x1 : Nat) (x2 : Bool) (x3 : List ByteArray) : evFn Tryz.prog ext T29 noL 200 Tryz.f38 [vp 0] ⟨[⟨true, (some (.cells [rsl ⟨1, x0, some 0⟩ x1, .bool x2]))⟩, ⟨true, (some (.strs x3))⟩], 2, []⟩ = firstT (g38 x0 x1 x2 x3 (r38 x0 x1 x2 x3)) :=
 Eq.trans (by kernel_rfl) (p38 x0 x1 x2 x3 (fun p => firstT (g38 x0 x1 x2 x3 p)))
noncomputable def s38 (args : List Value) (s : St) : List (Bool × Value × St) :=
 match args, s.h with
 | [.pointer (some ⟨f0, f1, some f2⟩)], [⟨true, some (.cells [.iface x1 (.pointer (some ⟨f3, x0, some f4⟩)), .bool x2])⟩, ⟨true, some (.strs x3)⟩] => if f0 = 0 ∧ f1 = 0 ∧ f2 = 0 ∧ f3 = 1 ∧ f4 = 0 then (g38 x0 x1 x2 x3 (r38 x0 x1 x2 x3)) else T29 38 args s
 | _, _ => T29 38 args s
noncomputable def T30 : CallF := addF T29 38 s38
set_option maxRecDepth 100000 in
set_option maxHeartbeats 4000000 in
theorem ok30 : CfOk Tryz.prog T30 := by
  refine cfOk_add ok29 fun args s r s' h1 h2 h3 => ?_
  unfold s38 at h3; split at h3
  · rename_i h; split at h3
    · rename_i hc; obtain ⟨rfl, rfl, rfl, rfl, rfl⟩ := hc; exact callOk ok29 Tryz.func38 h1 h2 h (lfOkF_no _ _).body (e38 _ _ _ _) rfl h3
    · exact ok29 _ _ _ _ _ h1 h2 h3
  · exact ok29 _ _ _ _ _ h1 h2 h3

/-- (*impl.words).done -/
noncomputable def w39 {α : Type} (x0 x1 : Nat) (x2 : Bool) (x3 : List ByteArray) (k : Bool → α) : α :=
 cond (!x2)
  (k (((((x1 : Nat) : Int) : Int) == 0)))
  (k (false))
noncomputable def r39 (x0 x1 : Nat) (x2 : Bool) (x3 : List ByteArray) : Bool := w39 x0 x1 x2 x3 (fun p => p)
noncomputable def g39 (x0 x1 : Nat) (x2 : Bool) (x3 : List ByteArray) (p : Bool) : List (Bool × Value × St) := [(true, .bool p, ⟨[⟨true, (some (.cells [rsl ⟨1, x0, some 0⟩ x1, .bool x2]))⟩, ⟨true, (some (.strs x3))⟩], 2, []⟩)]
theorem p39 {α : Type} (x0 x1 : Nat) (x2 : Bool) (x3 : List ByteArray) (f : Bool → α) : w39 x0 x1 x2 x3 f = f (w39 x0 x1 x2 x3 (fun p => p)) := by unfold w39; exact (cond_app f _ rfl rfl)
set_option maxRecDepth 100000 in
set_option maxHeartbeats 4000000 in
theorem e39 (x0 x1 : Nat) (x2 : Bool) (x3 : List ByteArray) : evFn Tryz.prog ext T30 noL 200 Tryz.f39 [vp 0] ⟨[⟨true, (some (.cells [rsl ⟨1, x0, some 0⟩ x1, .bool x2]))⟩, ⟨true, (some (.strs x3))⟩], 2, []⟩ = firstT (g39 x0 x1 x2 x3 (r39 x0 x1 x2 x3)) :=
 Eq.trans (by kernel_rfl) (p39 x0 x1 x2 x3 (fun p => firstT (g39 x0 x1 x2 x3 p)))
noncomputable def s39 (args : List Value) (s : St) : List (Bool × Value × St) :=
 match args, s.h with
 | [.pointer (some ⟨f0, f1, some f2⟩)], [⟨true, some (.cells [.iface x1 (.pointer (some ⟨f3, x0, some f4⟩)), .bool x2])⟩, ⟨true, some (.strs x3)⟩] => if f0 = 0 ∧ f1 = 0 ∧ f2 = 0 ∧ f3 = 1 ∧ f4 = 0 then (g39 x0 x1 x2 x3 (r39 x0 x1 x2 x3)) else T30 39 args s
 | _, _ => T30 39 args s
noncomputable def T31 : CallF := addF T30 39 s39
set_option maxRecDepth 100000 in
set_option maxHeartbeats 4000000 in
theorem ok31 : CfOk Tryz.prog T31 := by
  refine cfOk_add ok30 fun args s r s' h1 h2 h3 => ?_
  unfold s39 at h3; split at h3
  · rename_i h; split at h3
    · rename_i hc; obtain ⟨rfl, rfl, rfl, rfl, rfl⟩ := hc; exact callOk ok30 Tryz.func39 h1 h2 h (lfOkF_no _ _).body (e39 _ _ _ _) rfl h3
    · exact ok30 _ _ _ _ _ h1 h2 h3
  · exact ok30 _ _ _ _ _ h1 h2 h3

/-- impl.ReadChimney, loop 0: one round -/
noncomputable def w7l0b {α : Type} (ih : ByteArray → Nat → Nat → Int → Int → List (List Int) → List ByteArray → (Nat × List (List Int) × List (List Int))) (x0 : ByteArray) (x1 x2 : Nat) (x3 x4 : Int) (x5 : List (List Int)) (x6 : List ByteArray) (k : (Nat × List (List Int) × List (List Int)) → α) : α :=
 let c215 := (r36 (x6.getD (x1 + (Int.toNat x4)) .empty))
 let c216 := (r37 ((r37 0 (c215.2.1) false (c215.2.2)).2.2.1) ((r37 0 (c215.2.1) false (c215.2.2)).2.2.2.1) ((r37 0 (c215.2.1) false (c215.2.2)).2.2.2.2) (c215.2.2))
 let c217 := (r37 (c216.2.2.1) (c216.2.2.2.1) (c216.2.2.2.2) (c215.2.2))
 let c218 := (r37 (c217.2.2.1) (c217.2.2.2.1) (c217.2.2.2.2) (c215.2.2))
 let c219 := (r38 (c218.2.2.1) (c218.2.2.2.1) (c218.2.2.2.2) (c215.2.2))
 let c220 := (r39 (c219.2.2.1) (c219.2.2.2.1) (c219.2.2.2.2) (c215.2.2))
 cond (decide ((x4 : Int) < x3))
  (cond ((decide ((0 : Int) ≤ x4)) && (Nat.blt (Int.toNat x4) x2))
   (cond (Nat.blt (x1 + (Int.toNat x4)) x6.length)
    (cond (Nat.beq (c215.1) 0)
     (cond (Nat.beq ((r37 0 (c215.2.1) false (c215.2.2)).1) 0)
      (cond (Nat.beq (c216.1) 0)
       (cond (Nat.beq (c217.1) 0)
        (cond (Nat.beq (c218.1) 0)
         (cond (Nat.beq (c219.1) 0)
          (cond (!c220)
           (k (0, [], []))
           (cond (Nat.ble ((x5.length + 1) * 25) 140737488355328)
            (cond (Nat.beq ((ih x0 x1 x2 x3 (IntKind.i64.wrap (x4 + 1)) (((x5.drop 0).take x5.length) ++ ([[((((r37 0 (c215.2.1) false (c215.2.2)).2.1) : Nat) : Int), (((c216.2.1) : Nat) : Int), (((c217.2.1) : Nat) : Int), (((c218.2.1) : Nat) : Int), (c219.2.1)]] : List (List Int))) x6).1) 0)
             (k (1, (((x5.drop 0).take x5.length) ++ ([[((((r37 0 (c215.2.1) false (c215.2.2)).2.1) : Nat) : Int), (((c216.2.1) : Nat) : Int), (((c217.2.1) : Nat) : Int), (((c218.2.1) : Nat) : Int), (c219.2.1)]] : List (List Int))), []))
             (cond (Nat.beq ((ih x0 x1 x2 x3 (IntKind.i64.wrap (x4 + 1)) (((x5.drop 0).take x5.length) ++ ([[((((r37 0 (c215.2.1) false (c215.2.2)).2.1) : Nat) : Int), (((c216.2.1) : Nat) : Int), (((c217.2.1) : Nat) : Int), (((c218.2.1) : Nat) : Int), (c219.2.1)]] : List (List Int))) x6).1) 1)
              (k (1, ((ih x0 x1 x2 x3 (IntKind.i64.wrap (x4 + 1)) (((x5.drop 0).take x5.length) ++ ([[((((r37 0 (c215.2.1) false (c215.2.2)).2.1) : Nat) : Int), (((c216.2.1) : Nat) : Int), (((c217.2.1) : Nat) : Int), (((c218.2.1) : Nat) : Int), (c219.2.1)]] : List (List Int))) x6).2.1), []))
              (cond (Nat.beq ((ih x0 x1 x2 x3 (IntKind.i64.wrap (x4 + 1)) (((x5.drop 0).take x5.length) ++ ([[((((r37 0 (c215.2.1) false (c215.2.2)).2.1) : Nat) : Int), (((c216.2.1) : Nat) : Int), (((c217.2.1) : Nat) : Int), (((c218.2.1) : Nat) : Int), (c219.2.1)]] : List (List Int))) x6).1) 2)
               (k (2, [], ((ih x0 x1 x2 x3 (IntKind.i64.wrap (x4 + 1)) (((x5.drop 0).take x5.length) ++ ([[((((r37 0 (c215.2.1) false (c215.2.2)).2.1) : Nat) : Int), (((c216.2.1) : Nat) : Int), (((c217.2.1) : Nat) : Int), (((c218.2.1) : Nat) : Int), (c219.2.1)]] : List (List Int))) x6).2.2)))
               (cond (Nat.beq ((ih x0 x1 x2 x3 (IntKind.i64.wrap (x4 + 1)) (((x5.drop 0).take x5.length) ++ ([[((((r37 0 (c215.2.1) false (c215.2.2)).2.1) : Nat) : Int), (((c216.2.1) : Nat) : Int), (((c217.2.1) : Nat) : Int), (((c218.2.1) : Nat) : Int), (c219.2.1)]] : List (List Int))) x6).1) 3)
                (k (2, [], (((x5.drop 0).take x5.length) ++ ([[((((r37 0 (c215.2.1) false (c215.2.2)).2.1) : Nat) : Int), (((c216.2.1) : Nat) : Int), (((c217.2.1) : Nat) : Int), (((c218.2.1) : Nat) : Int), (c219.2.1)]] : List (List Int)))))
                (k (4, [], []))))))
            (k (4, [], []))))
          (k (4, [], [])))
         (k (4, [], [])))
        (k (4, [], [])))
       (k (4, [], [])))
      (k (4, [], [])))
     (k (4, [], [])))
    (k (4, [], [])))
   (k (4, [], [])))
  (k (3, [], []))
noncomputable def b7l0b (ih : ByteArray → Nat → Nat → Int → Int → List (List Int) → List ByteArray → (Nat × List (List Int) × List (List Int))) (x0 : ByteArray) (x1 x2 : Nat) (x3 x4 : Int) (x5 : List (List Int)) (x6 : List ByteArray) : Nat × List (List Int) × List (List Int) := w7l0b ih x0 x1 x2 x3 x4 x5 x6 (fun p => p)
noncomputable def r7l0b : Nat → ByteArray → Nat → Nat → Int → Int → List (List Int) → List ByteArray → (Nat × List (List Int) × List (List Int))
 | 0 => fun _ _ _ _ _ _ _ => (4, [], [])
 | m + 1 => b7l0b (r7l0b m)
noncomputable def g7l0b (x0 : ByteArray) (x1 x2 : Nat) (x3 x4 : Int) (x5 : List (List Int)) (x6 : List ByteArray) (p : Nat × List (List Int) × List (List Int)) : List (Bool × (Fin' × List Value × St)) := [((Nat.beq (p.1) 0), .ret, [.string x0, .slice none 0 0, vi 5, wsl 0], ⟨[⟨true, (some (.tab sc0 x5))⟩, ⟨true, (some (.strs x6))⟩], 2, [0]⟩), ((Nat.beq (p.1) 1), .ret, [.string x0, .slice none 0 0, vi 5, wsl 2], ⟨[⟨true, none⟩, ⟨true, (some (.strs x6))⟩, ⟨true, (some (.tab sc0 (p.2.1)))⟩], 2, [0]⟩), ((Nat.beq (p.1) 2), .exit 0, [.string x0, anyV, anyV, wsl 2], ⟨[⟨true, none⟩, ⟨true, (some (.strs x6))⟩, ⟨true, (some (.tab sc0 (p.2.2)))⟩], 2, [0]⟩), ((Nat.beq (p.1) 3), .exit 0, [.string x0, anyV, anyV, wsl 0], ⟨[⟨true, (some (.tab sc0 x5))⟩, ⟨true, (some (.strs x6))⟩], 2, [0]⟩)]
noncomputable def a7l0b (x0 : ByteArray) (x1 x2 : Nat) (x3 x4 : Int) (x5 : List (List Int)) (x6 : List ByteArray) (p : Nat × List (List Int) × List (List Int)) : Option (Fin' × List Value × St) := firstT ((g7l0b x0 x1 x2 x3 x4 x5 x6 p).map fun (b, x) => (b, (x.1, frameOf 62 [0, 2, 3, 6] x.2.1, x.2.2)))
noncomputable def u7l0b (x0 : ByteArray) (x1 x2 : Nat) (x3 x4 : Int) (x5 : List (List Int)) (x6 : List ByteArray) (p : Nat × List (List Int) × List (List Int)) : Option (Fin' × List Value × St) := alts ((g7l0b x0 x1 x2 x3 x4 x5 x6 p).map fun (b, x) => (b, (x.1, frameOf 62 [0, 2, 3, 6] x.2.1, x.2.2))) some
theorem v7l0b (x0 : ByteArray) (x1 x2 : Nat) (x3 x4 : Int) (x5 : List (List Int)) (x6 : List ByteArray) (p : Nat × List (List Int) × List (List Int)) : u7l0b x0 x1 x2 x3 x4 x5 x6 p = a7l0b x0 x1 x2 x3 x4 x5 x6 p := alts_first _
noncomputable def q7l0b (m : Nat) : SumK := fun vals s =>
 match vals, s.h with
 | [.string x0, .iface f0 .nilIface, .iface x2 (.pointer (some ⟨f1, x1, some f2⟩)), .int .i64 x3, .int .i64 x4], [⟨true, some (.tab [.fl .f32, .fl .f32, .fl .f32, .fl .f32, .int .i64] x5)⟩, ⟨true, some (.strs x6)⟩] => if f0 = 0 ∧ f1 = 1 ∧ f2 = 0 then (g7l0b x0 x1 x2 x3 x4 x5 x6 (r7l0b m x0 x1 x2 x3 x4 x5 x6)) else Q7l0 vals s
 | _, _ => Q7l0 vals s
theorem p7l0b {α : Type} (ih : ByteArray → Nat → Nat → Int → Int → List (List Int) → List ByteArray → (Nat × List (List Int) × List (List Int))) (x0 : ByteArray) (x1 x2 : Nat) (x3 x4 : Int) (x5 : List (List Int)) (x6 : List ByteArray) (f : (Nat × List (List Int) × List (List Int)) → α) : w7l0b ih x0 x1 x2 x3 x4 x5 x6 f = f (w7l0b ih x0 x1 x2 x3 x4 x5 x6 (fun p => p)) := by unfold w7l0b; repeat' (first | refine cond_app f _ ?_ ?_ | rfl)
set_option maxRecDepth 100000 in
set_option maxHeartbeats 4000000 in
theorem e7l0b (m : Nat) (x0 : ByteArray) (x1 x2 : Nat) (x3 x4 : Int) (x5 : List (List Int)) (x6 : List ByteArray) : evC Tryz.prog ext T31 L7_1 200 (loopN Tryz.f7 0) (loopTail ([0, 6, 24, 25, 26], []) [0, 2, 3, 6] [0] (sumK 62 [0, 6, 24, 25, 26] [0, 2, 3, 6] (q7l0b m))) (frameOf 62 [0, 6, 24, 25, 26] [.string x0, wsl 0, rsl ⟨1, x1, some 0⟩ x2, vi x3, vi x4]) ⟨[⟨true, (some (.tab sc0 x5))⟩, ⟨true, (some (.strs x6))⟩], 2, []⟩ = firstT ((g7l0b x0 x1 x2 x3 x4 x5 x6 (r7l0b (m + 1) x0 x1 x2 x3 x4 x5 x6)).map fun (b, x) => (b, (x.1, frameOf 62 [0, 2, 3, 6] x.2.1, x.2.2))) :=
 Eq.trans (by kernel_rfl) (p7l0b (r7l0b m) x0 x1 x2 x3 x4 x5 x6 (fun p => firstT ((g7l0b x0 x1 x2 x3 x4 x5 x6 p).map fun (b, x) => (b, (x.1, frameOf 62 [0, 2, 3, 6] x.2.1, x.2.2)))))
set_option maxRecDepth 100000 in
set_option maxHeartbeats 4000000 in
theorem qm7l0b : ∀ m, SumKOk Tryz.prog (loopN Tryz.f7 0) 62 [0, 6, 24, 25, 26] [0, 2, 3, 6] (q7l0b m) := by
  intro m
  induction m with
  | zero =>
    intro vals s x h1 h2 h3
    unfold q7l0b at h3; split at h3
    · rename_i h; split at h3
      · rename_i hc; obtain ⟨rfl, rfl, rfl⟩ := hc; exact absurd h3 (by simp [r7l0b, g7l0b, firstT, Nat.beq])
      · exact qok7l0 _ _ _ h1 h2 h3
    · exact qok7l0 _ _ _ h1 h2 h3
  | succ m ih =>
    intro vals s x h1 h2 h3
    unfold q7l0b at h3; split at h3
    · rename_i h; split at h3
      · rename_i hc; obtain ⟨rfl, rfl, rfl⟩ := hc; exact sum_step ok31 extOk mixed (lok7_1.inner (by kernel_rfl)) ih h1 h2 h (e7l0b m _ _ _ _ _ _ _) rfl h3
      · exact qok7l0 _ _ _ h1 h2 h3
    · exact qok7l0 _ _ _ h1 h2 h3
noncomputable def Q7l0b : SumK := fun vals s => q7l0b (fuelOf vals s.h) vals s
theorem qok7l0b : SumKOk Tryz.prog (loopN Tryz.f7 0) 62 [0, 6, 24, 25, 26] [0, 2, 3, 6] Q7l0b := fuel_ok qm7l0b fuelOf
noncomputable def L7_2 : LoopT := addL L7_1 7 ([0, 6, 24, 25, 26], []) (sumK 62 [0, 6, 24, 25, 26] [0, 2, 3, 6] Q7l0b)
theorem lok7_2 : LfOkF Tryz.prog L7_2 Tryz.f7 := lfOkF_add lok7_1 qok7l0b (by kernel_rfl) (by kernel_rfl) (by kernel_rfl)

/-- impl.ReadChimney -/
noncomputable def w7 {α : Type} (x0 : ByteArray) (k : (Nat × List (List Int)) → α) : α :=
 let c221 := (r7l0b (1000 + ((r35 x0).2.2.2).length + 0 + (x0.size)) x0 0 ((r35 x0).2.1) ((((r35 x0).2.1) : Nat) : Int) 0 ([] : List (List Int)) ((r35 x0).2.2.2))
 cond (Nat.beq ((r35 x0).1) 0)
  (cond (Nat.beq ((r16 ([] : List (List Int))).1) 0)
   (cond (!((r16 ([] : List (List Int))).2))
    (k (0, []))
    (cond (Nat.beq ((r40 ([] : List (List Int))).1) 0)
     (cond (!(((r40 ([] : List (List Int))).2).toList == x0.toList))
      (k (0, []))
      (k (1, ([] : List (List Int)))))
     (k (2, []))))
   (k (2, [])))
  (cond (Nat.beq ((r35 x0).1) 1)
   (cond (!((r35 x0).2.2.1))
    (k (0, []))
    (cond (decide ((((((r35 x0).2.1) : Nat) : Int) : Int) > 6))
     (k (0, []))
     (cond (Nat.beq (c221.1) 0)
      (k (0, []))
      (cond (Nat.beq (c221.1) 1)
       (k (0, []))
       (cond (Nat.beq (c221.1) 2)
        (cond (Nat.beq ((r16 (c221.2.2)).1) 0)
         (cond (!((r16 (c221.2.2)).2))
          (k (0, []))
          (cond (Nat.beq ((r40 (c221.2.2)).1) 0)
           (cond (!(((r40 (c221.2.2)).2).toList == x0.toList))
            (k (0, []))
            (k (1, (c221.2.2))))
           (k (2, []))))
         (k (2, [])))
        (cond (Nat.beq (c221.1) 3)
         (cond (Nat.beq ((r16 ([] : List (List Int))).1) 0)
          (cond (!((r16 ([] : List (List Int))).2))
           (k (0, []))
           (cond (Nat.beq ((r40 ([] : List (List Int))).1) 0)
            (cond (!(((r40 ([] : List (List Int))).2).toList == x0.toList))
             (k (0, []))
             (k (1, ([] : List (List Int)))))
            (k (2, []))))
          (k (2, [])))
         (k (2, []))))))))
   (k (2, [])))
noncomputable def r7 (x0 : ByteArray) : Nat × List (List Int) := w7 x0 (fun p => p)
noncomputable def g7 (x0 : ByteArray) (p : Nat × List (List Int)) : List (Bool × Value × St) := [((Nat.beq (p.1) 0), .tuple #[.slice none 0 0, vi 5], st0), ((Nat.beq (p.1) 1), .tuple #[wsl 0, vi 0], ⟨[⟨true, (some (.tab sc0 (p.2)))⟩], 0, []⟩)]
theorem p7 {α : Type} (x0 : ByteArray) (f : (Nat × List (List Int)) → α) : w7 x0 f = f (w7 x0 (fun p => p)) := by unfold w7; repeat' (first | refine cond_app f _ ?_ ?_ | rfl)
set_option maxRecDepth 100000 in
set_option maxHeartbeats 4000000 in
theorem e7 (x0 : ByteArray) : evFn Tryz.prog ext T31 L7_2 200 Tryz.f7 [.string x0] st0 = firstT (g7 x0 (r7 x0)) :=
 Eq.trans (by kernel_rfl) (p7 x0 (fun p => firstT (g7 x0 p)))
noncomputable def s7 (args : List Value) (s : St) : List (Bool × Value × St) :=
 match args, s.h with
 | [.string x0], [] => (g7 x0 (r7 x0))
 | _, _ => T31 7 args s
noncomputable def T32 : CallF := addF T31 7 s7
set_option maxRecDepth 100000 in
set_option maxHeartbeats 4000000 in
theorem ok32 : CfOk Tryz.prog T32 := by
  refine cfOk_add ok31 fun args s r s' h1 h2 h3 => ?_
  unfold s7 at h3; split at h3
  · rename_i h; exact callOk ok31 Tryz.func7 h1 h2 h lok7_2.body (e7 _) rfl h3
  · exact ok31 _ _ _ _ _ h1 h2 h3

/-- spec.l01Same -/
noncomputable def r89 (x0 x1 : Nat) : Bool :=
 cond (!feq .f32 x0 x0)
  ((!feq .f32 x1 x1))
  (cond (!feq .f32 x1 x1)
   (false)
   (((((x0 : Nat) : Int) : Int) == ((x1 : Nat) : Int))))
noncomputable def a89 (x0 x1 : Nat) (p : Bool) : Res := firstT [(true, .bool p, st0)]
noncomputable def w89 (x0 x1 : Nat) : Res :=
 (cond (!feq .f32 x0 x0)
 (cond (!feq .f32 x0 x0)
  (a89 x0 x1 ((!feq .f32 x1 x1)))
  (some (.bool false, st0)))
 (cond (!feq .f32 x1 x1)
  (cond (!feq .f32 x0 x0)
   (some (.bool (!feq .f32 x1 x1), st0))
   (a89 x0 x1 (false)))
  (cond (!isN .f32 x0)
   (cond (!isN .f32 x1)
    (a89 x0 x1 (((((x0 : Nat) : Int) : Int) == ((x1 : Nat) : Int))))
    none)
   (cond (!isN .f32 x1)
    (cond (decide ((0 : Int) ≤ ((x1 : Nat) : Int)) && (!isN .f32 x1))
     (some (.bool false, st0))
     none)
    none))))
set_option maxRecDepth 100000 in
set_option maxHeartbeats 4000000 in
theorem e89 (x0 x1 : Nat) : evFn Tryz.prog ext T32 noL 200 Tryz.f89 [vf x0, vf x1] st0 = firstT [(true, .bool (r89 x0 x1), st0)] :=
 (show evFn Tryz.prog ext T32 noL 200 Tryz.f89 [vf x0, vf x1] st0 = w89 x0 x1 from by kernel_rfl).trans
 (show w89 x0 x1 = a89 x0 x1 (r89 x0 x1) from by unfold w89 r89; exact (cond_both (a89 x0 x1) _ (fun h0 => (cond_t (ev_not1 (ev_nott h0)) rfl)) (fun h0 => (cond_both (a89 x0 x1) _ (fun h1 => (cond_f (ev_not0 (ev_notf h0)) rfl)) (fun h1 => (cond_t (ev_not1 (ev_eq1 (ev_notf h0))) (cond_t (ev_not1 (ev_eq1 (ev_notf h1))) rfl)))))))
noncomputable def s89 (args : List Value) (s : St) : List (Bool × Value × St) :=
 match args, s.h with
 | [.float .f32 x0, .float .f32 x1], [] => [(true, .bool (r89 x0 x1), st0)]
 | _, _ => T32 89 args s
noncomputable def T33 : CallF := addF T32 89 s89
set_option maxRecDepth 100000 in
set_option maxHeartbeats 4000000 in
theorem ok33 : CfOk Tryz.prog T33 := by
  refine cfOk_add ok32 fun args s r s' h1 h2 h3 => ?_
  unfold s89 at h3; split at h3
  · rename_i h; exact callOk ok32 Tryz.func89 h1 h2 h (lfOkF_no _ _).body (e89 _ _) rfl h3
  · exact ok32 _ _ _ _ _ h1 h2 h3
end Go.Proofs.YtffpnkkhcgjmfaaGreatDoor
