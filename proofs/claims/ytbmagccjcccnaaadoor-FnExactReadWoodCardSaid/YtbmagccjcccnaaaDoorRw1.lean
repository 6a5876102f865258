/- What the functions that the statements reach answer, part 1. -/
import Derived.Test.YtbmagccjcccnaaaDoorA37
import Derived.KernelRfl
import Derived.Test.YtbmagccjcccnaaaDoorChecked
namespace Go.Proofs.YtbmagccjcccnaaaDoor
open Go.Ab
set_option maxHeartbeats 4000000
set_option maxRecDepth 100000

def ext : FuncId → Option Ext := fun g => (cond (Nat.beq g 30) (some .f32from) (cond (Nat.beq g 33) (some .f32bits) (cond (Nat.beq g 62) (some .f64from) (cond (Nat.beq g 63) (some .f64bits) none))))
theorem ext_case {g : FuncId} {e : Ext} (h : ext g = some e) : g = 30 ∧ e = .f32from ∨ g = 33 ∧ e = .f32bits ∨ g = 62 ∧ e = .f64from ∨ g = 63 ∧ e = .f64bits := by
  unfold ext at h
  cases h0 : Nat.beq g 30 with
  | true => rw [h0] at h; cases h; exact .inl ⟨Nat.eq_of_beq_eq_true h0, rfl⟩
  | false =>
    rw [h0] at h
    cases h1 : Nat.beq g 33 with
    | true => rw [h1] at h; cases h; exact .inr (.inl ⟨Nat.eq_of_beq_eq_true h1, rfl⟩)
    | false =>
      rw [h1] at h
      cases h2 : Nat.beq g 62 with
      | true => rw [h2] at h; cases h; exact .inr (.inr (.inl ⟨Nat.eq_of_beq_eq_true h2, rfl⟩))
      | false =>
        rw [h2] at h
        cases h3 : Nat.beq g 63 with
        | true => rw [h3] at h; cases h; exact .inr (.inr (.inr (⟨Nat.eq_of_beq_eq_true h3, rfl⟩)))
        | false =>
          rw [h3] at h
          cases h
theorem extOk : ExtOk Tryd.prog ext := by
  intro g e h
  rcases ext_case h with ⟨rfl, rfl⟩ | ⟨rfl, rfl⟩ | ⟨rfl, rfl⟩ | ⟨rfl, rfl⟩
  · exact ⟨Tryd.f30, Tryd.func30, by kernel_rfl, by kernel_rfl, by kernel_rfl, by kernel_rfl⟩
  · exact ⟨Tryd.f33, Tryd.func33, by kernel_rfl, by kernel_rfl, by kernel_rfl, by kernel_rfl⟩
  · exact ⟨Tryd.f62, Tryd.func62, by kernel_rfl, by kernel_rfl, by kernel_rfl, by kernel_rfl⟩
  · exact ⟨Tryd.f63, Tryd.func63, by kernel_rfl, by kernel_rfl, by kernel_rfl, by kernel_rfl⟩
theorem mixed : Tryd.prog.follows .mixedOrders = true := by kernel_rfl
theorem callOk {cf : CallF} (hcf : CfOk Tryd.prog cf) {lf : LoopT} {N : Nat} {f : FuncId} {fn : Func} (hf : Tryd.prog.funcs[f]? = some fn) {args : List Value} {s : St} {l : List Blk} {n : Nat} {L : List (Bool × Value × St)} {r' : Value} {s' : St} (h1 : s.lo = s.h.length) (h2 : s.wr = []) (h : s.h = l) (hl : ∀ c, fn.body = some c → LfOk Tryd.prog lf (loopsOf c)) (he : evFn Tryd.prog ext cf lf N fn args ⟨l, n, []⟩ = firstT L) (hn : n = l.length) (h3 : firstT L = some (r', s')) : CallsOK Tryd.prog f args s r' s' :=
  call_ok extOk mixed hcf hf h1 h2 h hl he hn h3
def lays156_ren : Go.Shelf.Ren := ⟨fun | 156 => 24 | 165 => 34 | 166 => 35 | 169 => 36 | 240 => 44 | 241 => 45 | 276 => 53 | 277 => 54 | n => n, fun | 31 => 40 | 9 => 9 | 3 => 3 | 4 => 4 | 0 => 0 | 20 => 20 | 72 => 72 | 76 => 76 | 70 => 69 | 37 => 70 | 75 => 75 | 127 => 83 | 164 => 89 | 5 => 5 | 80 => 50 | n => n, fun | n => n⟩
theorem lays156 : Go.Proofs.Lays.n156 Tryd.prog lays156_ren := {
  mixed := by kernel_rfl
  f156 := Tryd.func24.trans (congrArg some (by kernel_rfl))
  f165 := Tryd.func34.trans (congrArg some (by kernel_rfl))
  f166 := Tryd.func35.trans (congrArg some (by kernel_rfl))
  f169 := Tryd.func36.trans (congrArg some (by kernel_rfl))
  f240 := Tryd.func44.trans (congrArg some (by kernel_rfl))
  f241 := Tryd.func45.trans (congrArg some (by kernel_rfl))
  f276 := Tryd.func53.trans (congrArg some (by kernel_rfl))
  f277 := Tryd.func54.trans (congrArg some (by kernel_rfl))
  t0 := Tryd.underlying0
  a0 := Tryd.isAgg0
  z0 := Tryd.sizeOf0
  v0 := Tryd.zeroValue0
  t3 := Tryd.underlying3
  a3 := Tryd.isAgg3
  z3 := Tryd.sizeOf3
  v3 := Tryd.zeroValue3
  t4 := Tryd.underlying4
  a4 := Tryd.isAgg4
  z4 := Tryd.sizeOf4
  v4 := Tryd.zeroValue4
  t9 := Tryd.underlying9
  a9 := Tryd.isAgg9
  z9 := Tryd.sizeOf9
  v9 := Tryd.zeroValue9
  t20 := Tryd.underlying20
  a20 := Tryd.isAgg20
  z20 := Tryd.sizeOf20
  v20 := Tryd.zeroValue20
  t31 := Tryd.underlying40
  a31 := Tryd.isAgg40
  z31 := Tryd.sizeOf40
  v31 := Tryd.zeroValue40
  t37 := Tryd.underlying70
  a37 := Tryd.isAgg70
  z37 := Tryd.sizeOf70
  v37 := Tryd.zeroValue70
  t70 := Tryd.underlying69
  a70 := Tryd.isAgg69
  z70 := Tryd.sizeOf69
  v70 := Tryd.zeroValue69
  t72 := Tryd.underlying72
  a72 := Tryd.isAgg72
  z72 := Tryd.sizeOf72
  v72 := Tryd.zeroValue72
  t75 := Tryd.underlying75
  a75 := Tryd.isAgg75
  z75 := Tryd.sizeOf75
  v75 := Tryd.zeroValue75
  t76 := Tryd.underlying76
  a76 := Tryd.isAgg76
  z76 := Tryd.sizeOf76
  v76 := Tryd.zeroValue76
  t127 := Tryd.underlying83
  a127 := Tryd.isAgg83
  z127 := Tryd.sizeOf83
  v127 := Tryd.zeroValue83
  t164 := Tryd.underlying89
  a164 := Tryd.isAgg89
  z164 := Tryd.sizeOf89
  v164 := Tryd.zeroValue89 }
def lays146_ren : Go.Shelf.Ren := ⟨fun | 146 => 18 | 221 => 28 | 268 => 39 | 138 => 40 | 143 => 41 | 195 => 46 | 197 => 47 | 218 => 48 | 219 => 49 | 260 => 55 | 217 => 50 | 225 => 56 | 224 => 57 | 267 => 58 | 266 => 59 | 314 => 61 | n => n, fun | 9 => 9 | 31 => 40 | 3 => 3 | 4 => 4 | 0 => 0 | 105 => 85 | 21 => 21 | 5 => 5 | 46 => 81 | 119 => 94 | 139 => 97 | 138 => 96 | 146 => 98 | 51 => 63 | n => n, fun | 1 => 1 | 3 => 2 | 4 => 3 | n => n⟩
theorem lays146 : Go.Proofs.Lays.n146 Tryd.prog lays146_ren := {
  mixed := by kernel_rfl
  f138 := Tryd.func40.trans (congrArg some (by kernel_rfl))
  f143 := Tryd.func41.trans (congrArg some (by kernel_rfl))
  f146 := Tryd.func18.trans (congrArg some (by kernel_rfl))
  f195 := Tryd.func46.trans (congrArg some (by kernel_rfl))
  f197 := Tryd.func47.trans (congrArg some (by kernel_rfl))
  f217 := Tryd.func50.trans (congrArg some (by kernel_rfl))
  f218 := Tryd.func48.trans (congrArg some (by kernel_rfl))
  f219 := Tryd.func49.trans (congrArg some (by kernel_rfl))
  f221 := Tryd.func28.trans (congrArg some (by kernel_rfl))
  f224 := Tryd.func57.trans (congrArg some (by kernel_rfl))
  f225 := Tryd.func56.trans (congrArg some (by kernel_rfl))
  f260 := Tryd.func55.trans (congrArg some (by kernel_rfl))
  f266 := Tryd.func59.trans (congrArg some (by kernel_rfl))
  f267 := Tryd.func58.trans (congrArg some (by kernel_rfl))
  f268 := Tryd.func39.trans (congrArg some (by kernel_rfl))
  f314 := Tryd.func61.trans (congrArg some (by kernel_rfl))
  t0 := Tryd.underlying0
  a0 := Tryd.isAgg0
  z0 := Tryd.sizeOf0
  v0 := Tryd.zeroValue0
  t3 := Tryd.underlying3
  a3 := Tryd.isAgg3
  z3 := Tryd.sizeOf3
  v3 := Tryd.zeroValue3
  t4 := Tryd.underlying4
  a4 := Tryd.isAgg4
  z4 := Tryd.sizeOf4
  v4 := Tryd.zeroValue4
  t5 := Tryd.underlying5
  a5 := Tryd.isAgg5
  z5 := Tryd.sizeOf5
  v5 := Tryd.zeroValue5
  t9 := Tryd.underlying9
  a9 := Tryd.isAgg9
  z9 := Tryd.sizeOf9
  v9 := Tryd.zeroValue9
  t21 := Tryd.underlying21
  a21 := Tryd.isAgg21
  z21 := Tryd.sizeOf21
  v21 := Tryd.zeroValue21
  t31 := Tryd.underlying40
  a31 := Tryd.isAgg40
  z31 := Tryd.sizeOf40
  v31 := Tryd.zeroValue40
  t46 := Tryd.underlying81
  a46 := Tryd.isAgg81
  z46 := Tryd.sizeOf81
  v46 := Tryd.zeroValue81
  t51 := Tryd.underlying63
  a51 := Tryd.isAgg63
  z51 := Tryd.sizeOf63
  v51 := Tryd.zeroValue63
  t105 := Tryd.underlying85
  a105 := Tryd.isAgg85
  z105 := Tryd.sizeOf85
  v105 := Tryd.zeroValue85
  t119 := Tryd.underlying94
  a119 := Tryd.isAgg94
  z119 := Tryd.sizeOf94
  t138 := Tryd.underlying96
  a138 := Tryd.isAgg96
  z138 := Tryd.sizeOf96
  v138 := Tryd.zeroValue96
  t139 := Tryd.underlying97
  a139 := Tryd.isAgg97
  z139 := Tryd.sizeOf97
  v139 := Tryd.zeroValue97
  t146 := Tryd.underlying98
  a146 := Tryd.isAgg98
  z146 := Tryd.sizeOf98
  v146 := Tryd.zeroValue98
  g1 := by kernel_rfl
  g3 := by kernel_rfl
  g4 := by kernel_rfl }
def lays137_ren : Go.Shelf.Ren := ⟨fun | 137 => 42 | 217 => 50 | 266 => 59 | n => n, fun | 9 => 9 | 5 => 5 | 3 => 3 | n => n, fun | n => n⟩
theorem lays137 : Go.Proofs.Lays.n137 Tryd.prog lays137_ren := {
  mixed := by kernel_rfl
  f137 := Tryd.func42.trans (congrArg some (by kernel_rfl))
  f217 := Tryd.func50.trans (congrArg some (by kernel_rfl))
  f266 := Tryd.func59.trans (congrArg some (by kernel_rfl))
  t3 := Tryd.underlying3
  a3 := Tryd.isAgg3
  z3 := Tryd.sizeOf3
  v3 := Tryd.zeroValue3
  t5 := Tryd.underlying5
  a5 := Tryd.isAgg5
  z5 := Tryd.sizeOf5
  v5 := Tryd.zeroValue5
  t9 := Tryd.underlying9
  a9 := Tryd.isAgg9
  z9 := Tryd.sizeOf9
  v9 := Tryd.zeroValue9 }
theorem hi9 : (Tryd.prog.info? (lays146_ren.t 9)).map (fun i => (i.zero, i.size, i.bytes)) = some (some (.string ByteArray.empty), 1, 16) := by kernel_rfl
theorem bx : Go.Proofs.Builder.Extra Tryd.prog lays156_ren := {
  sizeBuilder := by kernel_rfl
  liesBuilder := by kernel_rfl
  t5 := Tryd.underlying5
  a5 := Tryd.isAgg5
  z5 := Tryd.sizeOf5
  v5 := Tryd.zeroValue5
  infoByte := by kernel_rfl
  cellsByte := by kernel_rfl
  sizeByte := by kernel_rfl
  neB5 := by decide }
theorem fn18 : Fn? Tryd.prog 18 := ⟨Tryd.f18, Tryd.func18, by kernel_rfl, by kernel_rfl⟩
def S1 : CallF := addF noF 18 sSplit
theorem okS1 : CfOk Tryd.prog S1 := cfOk_add (cfOk_no _) fun args s r s' _ _ h => split_calls lays146 hi9 fn18 args s r s' h
theorem fn24 : Fn? Tryd.prog 24 := ⟨Tryd.f24, Tryd.func24, by kernel_rfl, by kernel_rfl⟩
def S2 : CallF := addF S1 24 sJoin
theorem okS2 : CfOk Tryd.prog S2 := cfOk_add okS1 fun args s r s' _ _ h => join_calls lays156 bx fn24 args s r s' h
theorem fn42 : Fn? Tryd.prog 42 := ⟨Tryd.f42, Tryd.func42, by kernel_rfl, by kernel_rfl⟩
def S3 : CallF := addF S2 42 sIndexByte
theorem okS3 : CfOk Tryd.prog S3 := cfOk_add okS2 fun args s r s' _ _ h => indexByte_calls lays137 fn42 args s r s' h
def T0 : CallF := S3
theorem ok0 : CfOk Tryd.prog T0 := okS3

/-- spec.l01Split, loop 0: one round -/
noncomputable def b15l0 (ih : ByteArray → Int → Int → Int → List ByteArray → (Nat × Int × List ByteArray)) (x0 : ByteArray) (x1 x2 x3 : Int) (x4 : List ByteArray) : Nat × Int × List ByteArray :=
 cond (decide ((x3 : Int) < (((x0.size) : Nat) : Int)))
  (cond ((decide ((0 : Int) ≤ x3)) && (Nat.blt (Int.toNat x3) (x0.size)))
   (cond ((((UInt8.toNat (List.getD (ByteArray.data x0).toList (Int.toNat x3) 0) : Nat) : Int) : Int) == x1)
    (cond ((((decide ((0 : Int) ≤ x2)) && (decide ((0 : Int) ≤ x3))) && (Nat.ble (Int.toNat x2) (Int.toNat x3))) && (Nat.ble (Int.toNat x3) (x0.size)))
     (cond (Nat.ble ((x4.length + 1) * 17) 140737488355328)
      (cond (Nat.beq ((ih x0 x1 (IntKind.i64.wrap (x3 + 1)) (IntKind.i64.wrap (x3 + 1)) (((x4.drop 0).take x4.length) ++ ([(ByteArray.extract x0 (Int.toNat x2) (Int.toNat x3))] : List ByteArray))).1) 0)
       (0, ((ih x0 x1 (IntKind.i64.wrap (x3 + 1)) (IntKind.i64.wrap (x3 + 1)) (((x4.drop 0).take x4.length) ++ ([(ByteArray.extract x0 (Int.toNat x2) (Int.toNat x3))] : List ByteArray))).2.1), ((ih x0 x1 (IntKind.i64.wrap (x3 + 1)) (IntKind.i64.wrap (x3 + 1)) (((x4.drop 0).take x4.length) ++ ([(ByteArray.extract x0 (Int.toNat x2) (Int.toNat x3))] : List ByteArray))).2.2))
       (cond (Nat.beq ((ih x0 x1 (IntKind.i64.wrap (x3 + 1)) (IntKind.i64.wrap (x3 + 1)) (((x4.drop 0).take x4.length) ++ ([(ByteArray.extract x0 (Int.toNat x2) (Int.toNat x3))] : List ByteArray))).1) 1)
        (0, (IntKind.i64.wrap (x3 + 1)), (((x4.drop 0).take x4.length) ++ ([(ByteArray.extract x0 (Int.toNat x2) (Int.toNat x3))] : List ByteArray)))
        (2, 0, [])))
      (2, 0, []))
     (2, 0, []))
    (ih x0 x1 x2 (IntKind.i64.wrap (x3 + 1)) x4))
   (2, 0, []))
  (1, 0, [])
noncomputable def r15l0 : Nat → ByteArray → Int → Int → Int → List ByteArray → (Nat × Int × List ByteArray)
 | 0 => fun _ _ _ _ _ => (2, 0, [])
 | m + 1 => b15l0 (r15l0 m)
noncomputable def a15l0 (x0 : ByteArray) (x1 x2 x3 : Int) (x4 : List ByteArray) (p : Nat × Int × List ByteArray) : Option (Fin' × List Value × St) := firstT ([((Nat.beq (p.1) 0), .exit 0, [.string x0, wsl 1, .int .i64 (p.2.1)], ⟨[⟨true, none⟩, ⟨true, (some (.strs (p.2.2)))⟩], 1, [0]⟩), ((Nat.beq (p.1) 1), .exit 0, [.string x0, wsl 0, .int .i64 x2], ⟨[⟨true, (some (.strs x4))⟩], 1, [0]⟩)].map fun (b, x) => (b, (x.1, frameOf 35 [0, 5, 6] x.2.1, x.2.2)))
noncomputable def u15l0 (x0 : ByteArray) (x1 x2 x3 : Int) (x4 : List ByteArray) (p : Nat × Int × List ByteArray) : Option (Fin' × List Value × St) := alts ([((Nat.beq (p.1) 0), .exit 0, [.string x0, wsl 1, .int .i64 (p.2.1)], ⟨[⟨true, none⟩, ⟨true, (some (.strs (p.2.2)))⟩], 1, [0]⟩), ((Nat.beq (p.1) 1), .exit 0, [.string x0, wsl 0, .int .i64 x2], ⟨[⟨true, (some (.strs x4))⟩], 1, [0]⟩)].map fun (b, x) => (b, (x.1, frameOf 35 [0, 5, 6] x.2.1, x.2.2))) some
theorem v15l0 (x0 : ByteArray) (x1 x2 x3 : Int) (x4 : List ByteArray) (p : Nat × Int × List ByteArray) : u15l0 x0 x1 x2 x3 x4 p = a15l0 x0 x1 x2 x3 x4 p := alts_first _
noncomputable def q15l0 (m : Nat) : SumK := fun vals s =>
 match vals, s.h with
 | [.string x0, .int .u8 x1, .iface f0 .nilIface, .int .i64 x2, .int .i64 x3], [⟨true, some (.strs x4)⟩] => if f0 = 0 then [((Nat.beq ((r15l0 m x0 x1 x2 x3 x4).1) 0), .exit 0, [.string x0, wsl 1, .int .i64 ((r15l0 m x0 x1 x2 x3 x4).2.1)], ⟨[⟨true, none⟩, ⟨true, (some (.strs ((r15l0 m x0 x1 x2 x3 x4).2.2)))⟩], 1, [0]⟩), ((Nat.beq ((r15l0 m x0 x1 x2 x3 x4).1) 1), .exit 0, [.string x0, wsl 0, .int .i64 x2], ⟨[⟨true, (some (.strs x4))⟩], 1, [0]⟩)] else noQ vals s
 | _, _ => noQ vals s
noncomputable def w15l0 (ih : ByteArray → Int → Int → Int → List ByteArray → (Nat × Int × List ByteArray)) (x0 : ByteArray) (x1 x2 x3 : Int) (x4 : List ByteArray) : Option (Fin' × List Value × St) :=
 (cond (decide ((x3 : Int) < (((x0.size) : Nat) : Int)))
 (cond ((decide ((0 : Int) ≤ x3)) && (Nat.blt (Int.toNat x3) (x0.size)))
  (cond ((((UInt8.toNat (List.getD (ByteArray.data x0).toList (Int.toNat x3) 0) : Nat) : Int) : Int) == x1)
   (cond ((((decide ((0 : Int) ≤ x2)) && (decide ((0 : Int) ≤ x3))) && (Nat.ble (Int.toNat x2) (Int.toNat x3))) && (Nat.ble (Int.toNat x3) (x0.size)))
    (cond (Nat.ble ((x4.length + 1) * 17) 140737488355328)
     (cond (Nat.beq ((ih x0 x1 (IntKind.i64.wrap (x3 + 1)) (IntKind.i64.wrap (x3 + 1)) (((x4.drop 0).take x4.length) ++ ([(ByteArray.extract x0 (Int.toNat x2) (Int.toNat x3))] : List ByteArray))).1) 0)
      (a15l0 x0 x1 x2 x3 x4 (0, ((ih x0 x1 (IntKind.i64.wrap (x3 + 1)) (IntKind.i64.wrap (x3 + 1)) (((x4.drop 0).take x4.length) ++ ([(ByteArray.extract x0 (Int.toNat x2) (Int.toNat x3))] : List ByteArray))).2.1), ((ih x0 x1 (IntKind.i64.wrap (x3 + 1)) (IntKind.i64.wrap (x3 + 1)) (((x4.drop 0).take x4.length) ++ ([(ByteArray.extract x0 (Int.toNat x2) (Int.toNat x3))] : List ByteArray))).2.2)))
      (cond (Nat.beq ((ih x0 x1 (IntKind.i64.wrap (x3 + 1)) (IntKind.i64.wrap (x3 + 1)) (((x4.drop 0).take x4.length) ++ ([(ByteArray.extract x0 (Int.toNat x2) (Int.toNat x3))] : List ByteArray))).1) 1)
       (a15l0 x0 x1 x2 x3 x4 (0, (IntKind.i64.wrap (x3 + 1)), (((x4.drop 0).take x4.length) ++ ([(ByteArray.extract x0 (Int.toNat x2) (Int.toNat x3))] : List ByteArray))))
       none))
     none)
    none)
   (u15l0 x0 x1 x2 x3 x4 (ih x0 x1 x2 (IntKind.i64.wrap (x3 + 1)) x4)))
  none)
 (a15l0 x0 x1 x2 x3 x4 (1, 0, [])))
set_option maxRecDepth 100000 in
set_option maxHeartbeats 4000000 in
theorem e15l0 (m : Nat) (x0 : ByteArray) (x1 x2 x3 : Int) (x4 : List ByteArray) : evC Tryd.prog ext T0 noL 200 (loopN Tryd.f15 0) (loopTail ([0, 1, 5, 6, 7], []) [0, 5, 6] [0] (sumK 35 [0, 1, 5, 6, 7] [0, 5, 6] (q15l0 m))) (frameOf 35 [0, 1, 5, 6, 7] [.string x0, .int .u8 x1, wsl 0, .int .i64 x2, .int .i64 x3]) ⟨[⟨true, (some (.strs x4))⟩], 1, []⟩ = firstT ([((Nat.beq ((r15l0 (m + 1) x0 x1 x2 x3 x4).1) 0), .exit 0, [.string x0, wsl 1, .int .i64 ((r15l0 (m + 1) x0 x1 x2 x3 x4).2.1)], ⟨[⟨true, none⟩, ⟨true, (some (.strs ((r15l0 (m + 1) x0 x1 x2 x3 x4).2.2)))⟩], 1, [0]⟩), ((Nat.beq ((r15l0 (m + 1) x0 x1 x2 x3 x4).1) 1), .exit 0, [.string x0, wsl 0, .int .i64 x2], ⟨[⟨true, (some (.strs x4))⟩], 1, [0]⟩)].map fun (b, x) => (b, (x.1, frameOf 35 [0, 5, 6] x.2.1, x.2.2))) :=
 (show evC Tryd.prog ext T0 noL 200 (loopN Tryd.f15 0) (loopTail ([0, 1, 5, 6, 7], []) [0, 5, 6] [0] (sumK 35 [0, 1, 5, 6, 7] [0, 5, 6] (q15l0 m))) (frameOf 35 [0, 1, 5, 6, 7] [.string x0, .int .u8 x1, wsl 0, .int .i64 x2, .int .i64 x3]) ⟨[⟨true, (some (.strs x4))⟩], 1, []⟩ = w15l0 (r15l0 m) x0 x1 x2 x3 x4 from by kernel_rfl).trans
 (show w15l0 (r15l0 m) x0 x1 x2 x3 x4 = a15l0 x0 x1 x2 x3 x4 (r15l0 (m + 1) x0 x1 x2 x3 x4) from by unfold w15l0; show _ = a15l0 x0 x1 x2 x3 x4 (b15l0 (r15l0 m) x0 x1 x2 x3 x4); unfold b15l0; exact (cond_app (a15l0 x0 x1 x2 x3 x4) _ (cond_app (a15l0 x0 x1 x2 x3 x4) _ (cond_app (a15l0 x0 x1 x2 x3 x4) _ (cond_app (a15l0 x0 x1 x2 x3 x4) _ (cond_app (a15l0 x0 x1 x2 x3 x4) _ (cond_app (a15l0 x0 x1 x2 x3 x4) _ rfl (cond_app (a15l0 x0 x1 x2 x3 x4) _ rfl rfl)) rfl) rfl) (v15l0 x0 x1 x2 x3 x4 ((r15l0 m) x0 x1 x2 (IntKind.i64.wrap (x3 + 1)) x4))) rfl) rfl))
set_option maxRecDepth 100000 in
set_option maxHeartbeats 4000000 in
theorem qm15l0 : ∀ m, SumKOk Tryd.prog (loopN Tryd.f15 0) 35 [0, 1, 5, 6, 7] [0, 5, 6] (q15l0 m) := by
  intro m
  induction m with
  | zero =>
    intro vals s x h1 h2 h3
    unfold q15l0 at h3; split at h3
    · rename_i h; split at h3
      · rename_i hc; obtain ⟨rfl⟩ := hc; exact absurd h3 (by simp [r15l0, firstT, Nat.beq])
      · exact noQ_ok _ _ _ h1 h2 h3
    · exact noQ_ok _ _ _ h1 h2 h3
  | succ m ih =>
    intro vals s x h1 h2 h3
    unfold q15l0 at h3; split at h3
    · rename_i h; split at h3
      · rename_i hc; obtain ⟨rfl⟩ := hc; exact sum_step ok0 extOk mixed ((lfOkF_no _ _).inner (by kernel_rfl)) ih h1 h2 h (e15l0 m _ _ _ _ _) rfl h3
      · exact noQ_ok _ _ _ h1 h2 h3
    · exact noQ_ok _ _ _ h1 h2 h3
noncomputable def Q15l0 : SumK := fun vals s => q15l0 (fuelOf vals s.h) vals s
theorem qok15l0 : SumKOk Tryd.prog (loopN Tryd.f15 0) 35 [0, 1, 5, 6, 7] [0, 5, 6] Q15l0 := fuel_ok qm15l0 fuelOf
noncomputable def L15_1 : LoopT := addL noL 5 ([0, 1, 5, 6, 7], []) (sumK 35 [0, 1, 5, 6, 7] [0, 5, 6] Q15l0)
theorem lok15_1 : LfOkF Tryd.prog L15_1 Tryd.f15 := lfOkF_add (lfOkF_no _ _) qok15l0 (by kernel_rfl) (by kernel_rfl) (by kernel_rfl)

/-- spec.l01Split -/
noncomputable def r15 (x0 : ByteArray) (x1 : Int) : Nat × List ByteArray × ByteArray :=
 cond (Nat.beq ((r15l0 (1000 + 0 + (x0.size)) x0 x1 0 0 ([] : List ByteArray)).1) 0)
  (cond (((decide ((0 : Int) ≤ ((r15l0 (1000 + 0 + (x0.size)) x0 x1 0 0 ([] : List ByteArray)).2.1))) && (Nat.ble (Int.toNat ((r15l0 (1000 + 0 + (x0.size)) x0 x1 0 0 ([] : List ByteArray)).2.1)) (x0.size))) && (Nat.ble (x0.size) (x0.size)))
   (cond (Nat.ble ((((r15l0 (1000 + 0 + (x0.size)) x0 x1 0 0 ([] : List ByteArray)).2.2).length + 1) * 17) 140737488355328)
    (0, (((((r15l0 (1000 + 0 + (x0.size)) x0 x1 0 0 ([] : List ByteArray)).2.2).drop 0).take (((r15l0 (1000 + 0 + (x0.size)) x0 x1 0 0 ([] : List ByteArray)).2.2).length)) ++ ([(ByteArray.extract x0 (Int.toNat ((r15l0 (1000 + 0 + (x0.size)) x0 x1 0 0 ([] : List ByteArray)).2.1)) (x0.size))] : List ByteArray)), ByteArray.empty)
    (2, [], ByteArray.empty))
   (2, [], ByteArray.empty))
  (cond (Nat.beq ((r15l0 (1000 + 0 + (x0.size)) x0 x1 0 0 ([] : List ByteArray)).1) 1)
   (cond ((Nat.ble 0 (x0.size)) && (Nat.ble (x0.size) (x0.size)))
    (1, [], (ByteArray.extract x0 0 (x0.size)))
    (2, [], ByteArray.empty))
   (2, [], ByteArray.empty))
noncomputable def a15 (x0 : ByteArray) (x1 : Int) (p : Nat × List ByteArray × ByteArray) : Res := firstT [((Nat.beq (p.1) 0), wsl 0, ⟨[⟨true, (some (.strs (p.2.1)))⟩], 0, []⟩), ((Nat.beq (p.1) 1), wsl 0, ⟨[⟨true, (some (.strs ([(p.2.2)] : List ByteArray)))⟩], 0, []⟩)]
noncomputable def w15 (x0 : ByteArray) (x1 : Int) : Res :=
 (cond (Nat.beq ((r15l0 (1000 + 0 + (x0.size)) x0 x1 0 0 ([] : List ByteArray)).1) 0)
 (cond (((decide ((0 : Int) ≤ ((r15l0 (1000 + 0 + (x0.size)) x0 x1 0 0 ([] : List ByteArray)).2.1))) && (Nat.ble (Int.toNat ((r15l0 (1000 + 0 + (x0.size)) x0 x1 0 0 ([] : List ByteArray)).2.1)) (x0.size))) && (Nat.ble (x0.size) (x0.size)))
  (cond (Nat.ble ((((r15l0 (1000 + 0 + (x0.size)) x0 x1 0 0 ([] : List ByteArray)).2.2).length + 1) * 17) 140737488355328)
   (a15 x0 x1 (0, (((((r15l0 (1000 + 0 + (x0.size)) x0 x1 0 0 ([] : List ByteArray)).2.2).drop 0).take (((r15l0 (1000 + 0 + (x0.size)) x0 x1 0 0 ([] : List ByteArray)).2.2).length)) ++ ([(ByteArray.extract x0 (Int.toNat ((r15l0 (1000 + 0 + (x0.size)) x0 x1 0 0 ([] : List ByteArray)).2.1)) (x0.size))] : List ByteArray)), ByteArray.empty))
   none)
  none)
 (cond (Nat.beq ((r15l0 (1000 + 0 + (x0.size)) x0 x1 0 0 ([] : List ByteArray)).1) 1)
  (cond ((Nat.ble 0 (x0.size)) && (Nat.ble (x0.size) (x0.size)))
   (a15 x0 x1 (1, [], (ByteArray.extract x0 0 (x0.size))))
   none)
  none))
set_option maxRecDepth 100000 in
set_option maxHeartbeats 4000000 in
theorem e15 (x0 : ByteArray) (x1 : Int) : evFn Tryd.prog ext T0 L15_1 200 Tryd.f15 [.string x0, .int .u8 x1] st0 = firstT [((Nat.beq ((r15 x0 x1).1) 0), wsl 0, ⟨[⟨true, (some (.strs ((r15 x0 x1).2.1)))⟩], 0, []⟩), ((Nat.beq ((r15 x0 x1).1) 1), wsl 0, ⟨[⟨true, (some (.strs ([((r15 x0 x1).2.2)] : List ByteArray)))⟩], 0, []⟩)] :=
 (show evFn Tryd.prog ext T0 L15_1 200 Tryd.f15 [.string x0, .int .u8 x1] st0 = w15 x0 x1 from by kernel_rfl).trans
 (show w15 x0 x1 = a15 x0 x1 (r15 x0 x1) from by unfold w15 r15; exact (cond_app (a15 x0 x1) _ (cond_app (a15 x0 x1) _ (cond_app (a15 x0 x1) _ rfl rfl) rfl) (cond_app (a15 x0 x1) _ (cond_app (a15 x0 x1) _ rfl rfl) rfl)))
noncomputable def s15 (args : List Value) (s : St) : List (Bool × Value × St) :=
 match args, s.h with
 | [.string x0, .int .u8 x1], [] => [((Nat.beq ((r15 x0 x1).1) 0), wsl 0, ⟨[⟨true, (some (.strs ((r15 x0 x1).2.1)))⟩], 0, []⟩), ((Nat.beq ((r15 x0 x1).1) 1), wsl 0, ⟨[⟨true, (some (.strs ([((r15 x0 x1).2.2)] : List ByteArray)))⟩], 0, []⟩)]
 | _, _ => T0 15 args s
noncomputable def T1 : CallF := addF T0 15 s15
set_option maxRecDepth 100000 in
set_option maxHeartbeats 4000000 in
theorem ok1 : CfOk Tryd.prog T1 := by
  refine cfOk_add ok0 fun args s r s' h1 h2 h3 => ?_
  unfold s15 at h3; split at h3
  · rename_i h; exact callOk ok0 Tryd.func15 h1 h2 h lok15_1.body (e15 _ _) rfl h3
  · exact ok0 _ _ _ _ _ h1 h2 h3

/-- spec.l01Read, loop 0 -/
noncomputable def r26l0 (x0 : ByteArray) (x1 : Int) : Unit :=
 ()
noncomputable def a26l0 (x0 : ByteArray) (x1 : Int) (p : Unit) : Option (Fin' × List Value × St) := firstT ([(true, .exit 0, [anyV, anyV, .int .u32 x1], st0)].map fun (b, x) => (b, (x.1, frameOf 52 [2, 3, 4] x.2.1, x.2.2)))
noncomputable def w26l0 (x0 : ByteArray) (x1 : Int) : Option (Fin' × List Value × St) :=
 (a26l0 x0 x1 ())
set_option maxRecDepth 100000 in
set_option maxHeartbeats 4000000 in
theorem e26l0 (x0 : ByteArray) (x1 : Int) : evC Tryd.prog ext T1 noL 200 (loopN Tryd.f26 0) (loopTail ([0, 4, 5], []) [2, 3, 4] [] (sumK 52 [0, 4, 5] [2, 3, 4] noQ)) (frameOf 52 [0, 4, 5] [.string x0, .int .u32 x1, .int .i64 8]) ⟨[], 0, []⟩ = firstT ([(true, .exit 0, [anyV, anyV, .int .u32 x1], st0)].map fun (b, x) => (b, (x.1, frameOf 52 [2, 3, 4] x.2.1, x.2.2))) :=
 (show evC Tryd.prog ext T1 noL 200 (loopN Tryd.f26 0) (loopTail ([0, 4, 5], []) [2, 3, 4] [] (sumK 52 [0, 4, 5] [2, 3, 4] noQ)) (frameOf 52 [0, 4, 5] [.string x0, .int .u32 x1, .int .i64 8]) ⟨[], 0, []⟩ = w26l0 x0 x1 from by kernel_rfl).trans
 (show w26l0 x0 x1 = a26l0 x0 x1 (r26l0 x0 x1) from by unfold w26l0 r26l0; exact rfl)
noncomputable def Q26l0 : SumK := fun vals s =>
 match vals, s.h with
 | [.string x0, .int .u32 x1, .int .i64 f0], [] => if f0 = 8 then [(true, .exit 0, [anyV, anyV, .int .u32 x1], st0)] else noQ vals s
 | _, _ => noQ vals s
set_option maxRecDepth 100000 in
set_option maxHeartbeats 4000000 in
theorem qok26l0 : SumKOk Tryd.prog (loopN Tryd.f26 0) 52 [0, 4, 5] [2, 3, 4] Q26l0 := by
  intro vals s x h1 h2 h3
  unfold Q26l0 at h3; split at h3
  · rename_i h; split at h3
    · rename_i hc; obtain ⟨rfl⟩ := hc; exact sum_step ok1 extOk mixed ((lfOkF_no _ _).inner (by kernel_rfl)) noQ_ok h1 h2 h (e26l0 _ _) rfl h3
    · exact noQ_ok _ _ _ h1 h2 h3
  · exact noQ_ok _ _ _ h1 h2 h3
noncomputable def L26_1 : LoopT := addL noL 6 ([0, 4, 5], []) (sumK 52 [0, 4, 5] [2, 3, 4] Q26l0)
theorem lok26_1 : LfOkF Tryd.prog L26_1 Tryd.f26 := lfOkF_add (lfOkF_no _ _) qok26l0 (by kernel_rfl) (by kernel_rfl) (by kernel_rfl)

/-- spec.l01Read, loop 0 -/
noncomputable def r26l0b (x0 : ByteArray) (x1 : Int) : Nat × Int :=
 cond (Nat.blt 7 (x0.size))
  (cond (decide ((((UInt8.toNat (List.getD (ByteArray.data x0).toList 7 0) : Nat) : Int) : Int) ≥ 48))
   (cond (decide ((((UInt8.toNat (List.getD (ByteArray.data x0).toList 7 0) : Nat) : Int) : Int) ≤ 57))
    (0, (IntKind.u32.wrap ((IntKind.u32.wrap (x1 * 16)) + (IntKind.u32.wrap (IntKind.u8.wrap (((UInt8.toNat (List.getD (ByteArray.data x0).toList 7 0) : Nat) : Int) - 48))))))
    (cond (decide ((((UInt8.toNat (List.getD (ByteArray.data x0).toList 7 0) : Nat) : Int) : Int) ≥ 97))
     (cond (decide ((((UInt8.toNat (List.getD (ByteArray.data x0).toList 7 0) : Nat) : Int) : Int) ≤ 102))
      (0, (IntKind.u32.wrap ((IntKind.u32.wrap ((IntKind.u32.wrap (x1 * 16)) + (IntKind.u32.wrap (IntKind.u8.wrap (((UInt8.toNat (List.getD (ByteArray.data x0).toList 7 0) : Nat) : Int) - 97))))) + 10)))
      (1, 0))
     (1, 0)))
   (cond (decide ((((UInt8.toNat (List.getD (ByteArray.data x0).toList 7 0) : Nat) : Int) : Int) ≥ 97))
    (cond (decide ((((UInt8.toNat (List.getD (ByteArray.data x0).toList 7 0) : Nat) : Int) : Int) ≤ 102))
     (0, (IntKind.u32.wrap ((IntKind.u32.wrap ((IntKind.u32.wrap (x1 * 16)) + (IntKind.u32.wrap (IntKind.u8.wrap (((UInt8.toNat (List.getD (ByteArray.data x0).toList 7 0) : Nat) : Int) - 97))))) + 10)))
     (1, 0))
    (1, 0)))
  (2, 0)
noncomputable def a26l0b (x0 : ByteArray) (x1 : Int) (p : Nat × Int) : Option (Fin' × List Value × St) := firstT ([((Nat.beq (p.1) 0), .exit 0, [anyV, anyV, .int .u32 (p.2)], st0), ((Nat.beq (p.1) 1), .ret, [.float .f32 0, .bool false, .int .u32 x1], st0)].map fun (b, x) => (b, (x.1, frameOf 52 [2, 3, 4] x.2.1, x.2.2)))
noncomputable def w26l0b (x0 : ByteArray) (x1 : Int) : Option (Fin' × List Value × St) :=
 (cond (Nat.blt 7 (x0.size))
 (cond (decide ((((UInt8.toNat (List.getD (ByteArray.data x0).toList 7 0) : Nat) : Int) : Int) ≥ 48))
  (cond (decide ((((UInt8.toNat (List.getD (ByteArray.data x0).toList 7 0) : Nat) : Int) : Int) ≤ 57))
   (a26l0b x0 x1 (0, (IntKind.u32.wrap ((IntKind.u32.wrap (x1 * 16)) + (IntKind.u32.wrap (IntKind.u8.wrap (((UInt8.toNat (List.getD (ByteArray.data x0).toList 7 0) : Nat) : Int) - 48)))))))
   (cond (decide ((((UInt8.toNat (List.getD (ByteArray.data x0).toList 7 0) : Nat) : Int) : Int) ≥ 97))
    (cond (decide ((((UInt8.toNat (List.getD (ByteArray.data x0).toList 7 0) : Nat) : Int) : Int) ≤ 102))
     (a26l0b x0 x1 (0, (IntKind.u32.wrap ((IntKind.u32.wrap ((IntKind.u32.wrap (x1 * 16)) + (IntKind.u32.wrap (IntKind.u8.wrap (((UInt8.toNat (List.getD (ByteArray.data x0).toList 7 0) : Nat) : Int) - 97))))) + 10))))
     (a26l0b x0 x1 (1, 0)))
    (a26l0b x0 x1 (1, 0))))
  (cond (decide ((((UInt8.toNat (List.getD (ByteArray.data x0).toList 7 0) : Nat) : Int) : Int) ≥ 97))
   (cond (decide ((((UInt8.toNat (List.getD (ByteArray.data x0).toList 7 0) : Nat) : Int) : Int) ≤ 102))
    (a26l0b x0 x1 (0, (IntKind.u32.wrap ((IntKind.u32.wrap ((IntKind.u32.wrap (x1 * 16)) + (IntKind.u32.wrap (IntKind.u8.wrap (((UInt8.toNat (List.getD (ByteArray.data x0).toList 7 0) : Nat) : Int) - 97))))) + 10))))
    (a26l0b x0 x1 (1, 0)))
   (a26l0b x0 x1 (1, 0))))
 none)
set_option maxRecDepth 100000 in
set_option maxHeartbeats 4000000 in
theorem e26l0b (x0 : ByteArray) (x1 : Int) : evC Tryd.prog ext T1 L26_1 200 (loopN Tryd.f26 0) (loopTail ([0, 4, 5], []) [2, 3, 4] [] (sumK 52 [0, 4, 5] [2, 3, 4] Q26l0)) (frameOf 52 [0, 4, 5] [.string x0, .int .u32 x1, .int .i64 7]) ⟨[], 0, []⟩ = firstT ([((Nat.beq ((r26l0b x0 x1).1) 0), .exit 0, [anyV, anyV, .int .u32 ((r26l0b x0 x1).2)], st0), ((Nat.beq ((r26l0b x0 x1).1) 1), .ret, [.float .f32 0, .bool false, .int .u32 x1], st0)].map fun (b, x) => (b, (x.1, frameOf 52 [2, 3, 4] x.2.1, x.2.2))) :=
 (show evC Tryd.prog ext T1 L26_1 200 (loopN Tryd.f26 0) (loopTail ([0, 4, 5], []) [2, 3, 4] [] (sumK 52 [0, 4, 5] [2, 3, 4] Q26l0)) (frameOf 52 [0, 4, 5] [.string x0, .int .u32 x1, .int .i64 7]) ⟨[], 0, []⟩ = w26l0b x0 x1 from by kernel_rfl).trans
 (show w26l0b x0 x1 = a26l0b x0 x1 (r26l0b x0 x1) from by unfold w26l0b r26l0b; exact (cond_app (a26l0b x0 x1) _ (cond_app (a26l0b x0 x1) _ (cond_app (a26l0b x0 x1) _ rfl (cond_app (a26l0b x0 x1) _ (cond_app (a26l0b x0 x1) _ rfl rfl) rfl)) (cond_app (a26l0b x0 x1) _ (cond_app (a26l0b x0 x1) _ rfl rfl) rfl)) rfl))
noncomputable def Q26l0b : SumK := fun vals s =>
 match vals, s.h with
 | [.string x0, .int .u32 x1, .int .i64 f0], [] => if f0 = 7 then [((Nat.beq ((r26l0b x0 x1).1) 0), .exit 0, [anyV, anyV, .int .u32 ((r26l0b x0 x1).2)], st0), ((Nat.beq ((r26l0b x0 x1).1) 1), .ret, [.float .f32 0, .bool false, .int .u32 x1], st0)] else Q26l0 vals s
 | _, _ => Q26l0 vals s
set_option maxRecDepth 100000 in
set_option maxHeartbeats 4000000 in
theorem qok26l0b : SumKOk Tryd.prog (loopN Tryd.f26 0) 52 [0, 4, 5] [2, 3, 4] Q26l0b := by
  intro vals s x h1 h2 h3
  unfold Q26l0b at h3; split at h3
  · rename_i h; split at h3
    · rename_i hc; obtain ⟨rfl⟩ := hc; exact sum_step ok1 extOk mixed (lok26_1.inner (by kernel_rfl)) qok26l0 h1 h2 h (e26l0b _ _) rfl h3
    · exact qok26l0 _ _ _ h1 h2 h3
  · exact qok26l0 _ _ _ h1 h2 h3
noncomputable def L26_2 : LoopT := addL L26_1 6 ([0, 4, 5], []) (sumK 52 [0, 4, 5] [2, 3, 4] Q26l0b)
theorem lok26_2 : LfOkF Tryd.prog L26_2 Tryd.f26 := lfOkF_add lok26_1 qok26l0b (by kernel_rfl) (by kernel_rfl) (by kernel_rfl)

/-- spec.l01Read, loop 0 -/
noncomputable def r26l0c (x0 : ByteArray) (x1 : Int) : Nat × Int × Int :=
 let c2 := (r26l0b x0 (IntKind.u32.wrap ((IntKind.u32.wrap (x1 * 16)) + (IntKind.u32.wrap (IntKind.u8.wrap (((UInt8.toNat (List.getD (ByteArray.data x0).toList 6 0) : Nat) : Int) - 48))))))
 let c3 := (r26l0b x0 (IntKind.u32.wrap ((IntKind.u32.wrap ((IntKind.u32.wrap (x1 * 16)) + (IntKind.u32.wrap (IntKind.u8.wrap (((UInt8.toNat (List.getD (ByteArray.data x0).toList 6 0) : Nat) : Int) - 97))))) + 10)))
 cond (Nat.blt 6 (x0.size))
  (cond (decide ((((UInt8.toNat (List.getD (ByteArray.data x0).toList 6 0) : Nat) : Int) : Int) ≥ 48))
   (cond (decide ((((UInt8.toNat (List.getD (ByteArray.data x0).toList 6 0) : Nat) : Int) : Int) ≤ 57))
    (cond (Nat.beq (c2.1) 0)
     (0, (c2.2), 0)
     (cond (Nat.beq (c2.1) 1)
      (1, 0, (IntKind.u32.wrap ((IntKind.u32.wrap (x1 * 16)) + (IntKind.u32.wrap (IntKind.u8.wrap (((UInt8.toNat (List.getD (ByteArray.data x0).toList 6 0) : Nat) : Int) - 48))))))
      (2, 0, 0)))
    (cond (decide ((((UInt8.toNat (List.getD (ByteArray.data x0).toList 6 0) : Nat) : Int) : Int) ≥ 97))
     (cond (decide ((((UInt8.toNat (List.getD (ByteArray.data x0).toList 6 0) : Nat) : Int) : Int) ≤ 102))
      (cond (Nat.beq (c3.1) 0)
       (0, (c3.2), 0)
       (cond (Nat.beq (c3.1) 1)
        (1, 0, (IntKind.u32.wrap ((IntKind.u32.wrap ((IntKind.u32.wrap (x1 * 16)) + (IntKind.u32.wrap (IntKind.u8.wrap (((UInt8.toNat (List.getD (ByteArray.data x0).toList 6 0) : Nat) : Int) - 97))))) + 10)))
        (2, 0, 0)))
      (1, 0, x1))
     (1, 0, x1)))
   (cond (decide ((((UInt8.toNat (List.getD (ByteArray.data x0).toList 6 0) : Nat) : Int) : Int) ≥ 97))
    (cond (decide ((((UInt8.toNat (List.getD (ByteArray.data x0).toList 6 0) : Nat) : Int) : Int) ≤ 102))
     (cond (Nat.beq (c3.1) 0)
      (0, (c3.2), 0)
      (cond (Nat.beq (c3.1) 1)
       (1, 0, (IntKind.u32.wrap ((IntKind.u32.wrap ((IntKind.u32.wrap (x1 * 16)) + (IntKind.u32.wrap (IntKind.u8.wrap (((UInt8.toNat (List.getD (ByteArray.data x0).toList 6 0) : Nat) : Int) - 97))))) + 10)))
       (2, 0, 0)))
     (1, 0, x1))
    (1, 0, x1)))
  (2, 0, 0)
noncomputable def a26l0c (x0 : ByteArray) (x1 : Int) (p : Nat × Int × Int) : Option (Fin' × List Value × St) := firstT ([((Nat.beq (p.1) 0), .exit 0, [anyV, anyV, .int .u32 (p.2.1)], st0), ((Nat.beq (p.1) 1), .ret, [.float .f32 0, .bool false, .int .u32 (p.2.2)], st0)].map fun (b, x) => (b, (x.1, frameOf 52 [2, 3, 4] x.2.1, x.2.2)))
noncomputable def w26l0c (x0 : ByteArray) (x1 : Int) : Option (Fin' × List Value × St) :=
 let c2 := (r26l0b x0 (IntKind.u32.wrap ((IntKind.u32.wrap (x1 * 16)) + (IntKind.u32.wrap (IntKind.u8.wrap (((UInt8.toNat (List.getD (ByteArray.data x0).toList 6 0) : Nat) : Int) - 48))))))
 let c3 := (r26l0b x0 (IntKind.u32.wrap ((IntKind.u32.wrap ((IntKind.u32.wrap (x1 * 16)) + (IntKind.u32.wrap (IntKind.u8.wrap (((UInt8.toNat (List.getD (ByteArray.data x0).toList 6 0) : Nat) : Int) - 97))))) + 10)))
 (cond (Nat.blt 6 (x0.size))
 (cond (decide ((((UInt8.toNat (List.getD (ByteArray.data x0).toList 6 0) : Nat) : Int) : Int) ≥ 48))
  (cond (decide ((((UInt8.toNat (List.getD (ByteArray.data x0).toList 6 0) : Nat) : Int) : Int) ≤ 57))
   (cond (Nat.beq (c2.1) 0)
    (a26l0c x0 x1 (0, (c2.2), 0))
    (cond (Nat.beq (c2.1) 1)
     (a26l0c x0 x1 (1, 0, (IntKind.u32.wrap ((IntKind.u32.wrap (x1 * 16)) + (IntKind.u32.wrap (IntKind.u8.wrap (((UInt8.toNat (List.getD (ByteArray.data x0).toList 6 0) : Nat) : Int) - 48)))))))
     none))
   (cond (decide ((((UInt8.toNat (List.getD (ByteArray.data x0).toList 6 0) : Nat) : Int) : Int) ≥ 97))
    (cond (decide ((((UInt8.toNat (List.getD (ByteArray.data x0).toList 6 0) : Nat) : Int) : Int) ≤ 102))
     (cond (Nat.beq (c3.1) 0)
      (a26l0c x0 x1 (0, (c3.2), 0))
      (cond (Nat.beq (c3.1) 1)
       (a26l0c x0 x1 (1, 0, (IntKind.u32.wrap ((IntKind.u32.wrap ((IntKind.u32.wrap (x1 * 16)) + (IntKind.u32.wrap (IntKind.u8.wrap (((UInt8.toNat (List.getD (ByteArray.data x0).toList 6 0) : Nat) : Int) - 97))))) + 10))))
       none))
     (a26l0c x0 x1 (1, 0, x1)))
    (a26l0c x0 x1 (1, 0, x1))))
  (cond (decide ((((UInt8.toNat (List.getD (ByteArray.data x0).toList 6 0) : Nat) : Int) : Int) ≥ 97))
   (cond (decide ((((UInt8.toNat (List.getD (ByteArray.data x0).toList 6 0) : Nat) : Int) : Int) ≤ 102))
    (cond (Nat.beq (c3.1) 0)
     (a26l0c x0 x1 (0, (c3.2), 0))
     (cond (Nat.beq (c3.1) 1)
      (a26l0c x0 x1 (1, 0, (IntKind.u32.wrap ((IntKind.u32.wrap ((IntKind.u32.wrap (x1 * 16)) + (IntKind.u32.wrap (IntKind.u8.wrap (((UInt8.toNat (List.getD (ByteArray.data x0).toList 6 0) : Nat) : Int) - 97))))) + 10))))
      none))
    (a26l0c x0 x1 (1, 0, x1)))
   (a26l0c x0 x1 (1, 0, x1))))
 none)
set_option maxRecDepth 100000 in
set_option maxHeartbeats 4000000 in
theorem e26l0c (x0 : ByteArray) (x1 : Int) : evC Tryd.prog ext T1 L26_2 200 (loopN Tryd.f26 0) (loopTail ([0, 4, 5], []) [2, 3, 4] [] (sumK 52 [0, 4, 5] [2, 3, 4] Q26l0b)) (frameOf 52 [0, 4, 5] [.string x0, .int .u32 x1, .int .i64 6]) ⟨[], 0, []⟩ = firstT ([((Nat.beq ((r26l0c x0 x1).1) 0), .exit 0, [anyV, anyV, .int .u32 ((r26l0c x0 x1).2.1)], st0), ((Nat.beq ((r26l0c x0 x1).1) 1), .ret, [.float .f32 0, .bool false, .int .u32 ((r26l0c x0 x1).2.2)], st0)].map fun (b, x) => (b, (x.1, frameOf 52 [2, 3, 4] x.2.1, x.2.2))) :=
 (show evC Tryd.prog ext T1 L26_2 200 (loopN Tryd.f26 0) (loopTail ([0, 4, 5], []) [2, 3, 4] [] (sumK 52 [0, 4, 5] [2, 3, 4] Q26l0b)) (frameOf 52 [0, 4, 5] [.string x0, .int .u32 x1, .int .i64 6]) ⟨[], 0, []⟩ = w26l0c x0 x1 from by kernel_rfl).trans
 (show w26l0c x0 x1 = a26l0c x0 x1 (r26l0c x0 x1) from by unfold w26l0c r26l0c; exact (cond_app (a26l0c x0 x1) _ (cond_app (a26l0c x0 x1) _ (cond_app (a26l0c x0 x1) _ (cond_app (a26l0c x0 x1) _ rfl (cond_app (a26l0c x0 x1) _ rfl rfl)) (cond_app (a26l0c x0 x1) _ (cond_app (a26l0c x0 x1) _ (cond_app (a26l0c x0 x1) _ rfl (cond_app (a26l0c x0 x1) _ rfl rfl)) rfl) rfl)) (cond_app (a26l0c x0 x1) _ (cond_app (a26l0c x0 x1) _ (cond_app (a26l0c x0 x1) _ rfl (cond_app (a26l0c x0 x1) _ rfl rfl)) rfl) rfl)) rfl))
noncomputable def Q26l0c : SumK := fun vals s =>
 match vals, s.h with
 | [.string x0, .int .u32 x1, .int .i64 f0], [] => if f0 = 6 then [((Nat.beq ((r26l0c x0 x1).1) 0), .exit 0, [anyV, anyV, .int .u32 ((r26l0c x0 x1).2.1)], st0), ((Nat.beq ((r26l0c x0 x1).1) 1), .ret, [.float .f32 0, .bool false, .int .u32 ((r26l0c x0 x1).2.2)], st0)] else Q26l0b vals s
 | _, _ => Q26l0b vals s
set_option maxRecDepth 100000 in
set_option maxHeartbeats 4000000 in
theorem qok26l0c : SumKOk Tryd.prog (loopN Tryd.f26 0) 52 [0, 4, 5] [2, 3, 4] Q26l0c := by
  intro vals s x h1 h2 h3
  unfold Q26l0c at h3; split at h3
  · rename_i h; split at h3
    · rename_i hc; obtain ⟨rfl⟩ := hc; exact sum_step ok1 extOk mixed (lok26_2.inner (by kernel_rfl)) qok26l0b h1 h2 h (e26l0c _ _) rfl h3
    · exact qok26l0b _ _ _ h1 h2 h3
  · exact qok26l0b _ _ _ h1 h2 h3
noncomputable def L26_3 : LoopT := addL L26_2 6 ([0, 4, 5], []) (sumK 52 [0, 4, 5] [2, 3, 4] Q26l0c)
theorem lok26_3 : LfOkF Tryd.prog L26_3 Tryd.f26 := lfOkF_add lok26_2 qok26l0c (by kernel_rfl) (by kernel_rfl) (by kernel_rfl)

/-- spec.l01Read, loop 0 -/
noncomputable def r26l0d (x0 : ByteArray) (x1 : Int) : Nat × Int × Int :=
 let c4 := (r26l0c x0 (IntKind.u32.wrap ((IntKind.u32.wrap (x1 * 16)) + (IntKind.u32.wrap (IntKind.u8.wrap (((UInt8.toNat (List.getD (ByteArray.data x0).toList 5 0) : Nat) : Int) - 48))))))
 let c5 := (r26l0c x0 (IntKind.u32.wrap ((IntKind.u32.wrap ((IntKind.u32.wrap (x1 * 16)) + (IntKind.u32.wrap (IntKind.u8.wrap (((UInt8.toNat (List.getD (ByteArray.data x0).toList 5 0) : Nat) : Int) - 97))))) + 10)))
 cond (Nat.blt 5 (x0.size))
  (cond (decide ((((UInt8.toNat (List.getD (ByteArray.data x0).toList 5 0) : Nat) : Int) : Int) ≥ 48))
   (cond (decide ((((UInt8.toNat (List.getD (ByteArray.data x0).toList 5 0) : Nat) : Int) : Int) ≤ 57))
    (cond (Nat.beq (c4.1) 0)
     (0, (c4.2.1), 0)
     (cond (Nat.beq (c4.1) 1)
      (1, 0, (c4.2.2))
      (2, 0, 0)))
    (cond (decide ((((UInt8.toNat (List.getD (ByteArray.data x0).toList 5 0) : Nat) : Int) : Int) ≥ 97))
     (cond (decide ((((UInt8.toNat (List.getD (ByteArray.data x0).toList 5 0) : Nat) : Int) : Int) ≤ 102))
      (cond (Nat.beq (c5.1) 0)
       (0, (c5.2.1), 0)
       (cond (Nat.beq (c5.1) 1)
        (1, 0, (c5.2.2))
        (2, 0, 0)))
      (1, 0, x1))
     (1, 0, x1)))
   (cond (decide ((((UInt8.toNat (List.getD (ByteArray.data x0).toList 5 0) : Nat) : Int) : Int) ≥ 97))
    (cond (decide ((((UInt8.toNat (List.getD (ByteArray.data x0).toList 5 0) : Nat) : Int) : Int) ≤ 102))
     (cond (Nat.beq (c5.1) 0)
      (0, (c5.2.1), 0)
      (cond (Nat.beq (c5.1) 1)
       (1, 0, (c5.2.2))
       (2, 0, 0)))
     (1, 0, x1))
    (1, 0, x1)))
  (2, 0, 0)
noncomputable def a26l0d (x0 : ByteArray) (x1 : Int) (p : Nat × Int × Int) : Option (Fin' × List Value × St) := firstT ([((Nat.beq (p.1) 0), .exit 0, [anyV, anyV, .int .u32 (p.2.1)], st0), ((Nat.beq (p.1) 1), .ret, [.float .f32 0, .bool false, .int .u32 (p.2.2)], st0)].map fun (b, x) => (b, (x.1, frameOf 52 [2, 3, 4] x.2.1, x.2.2)))
noncomputable def w26l0d (x0 : ByteArray) (x1 : Int) : Option (Fin' × List Value × St) :=
 let c4 := (r26l0c x0 (IntKind.u32.wrap ((IntKind.u32.wrap (x1 * 16)) + (IntKind.u32.wrap (IntKind.u8.wrap (((UInt8.toNat (List.getD (ByteArray.data x0).toList 5 0) : Nat) : Int) - 48))))))
 let c5 := (r26l0c x0 (IntKind.u32.wrap ((IntKind.u32.wrap ((IntKind.u32.wrap (x1 * 16)) + (IntKind.u32.wrap (IntKind.u8.wrap (((UInt8.toNat (List.getD (ByteArray.data x0).toList 5 0) : Nat) : Int) - 97))))) + 10)))
 (cond (Nat.blt 5 (x0.size))
 (cond (decide ((((UInt8.toNat (List.getD (ByteArray.data x0).toList 5 0) : Nat) : Int) : Int) ≥ 48))
  (cond (decide ((((UInt8.toNat (List.getD (ByteArray.data x0).toList 5 0) : Nat) : Int) : Int) ≤ 57))
   (cond (Nat.beq (c4.1) 0)
    (a26l0d x0 x1 (0, (c4.2.1), 0))
    (cond (Nat.beq (c4.1) 1)
     (a26l0d x0 x1 (1, 0, (c4.2.2)))
     none))
   (cond (decide ((((UInt8.toNat (List.getD (ByteArray.data x0).toList 5 0) : Nat) : Int) : Int) ≥ 97))
    (cond (decide ((((UInt8.toNat (List.getD (ByteArray.data x0).toList 5 0) : Nat) : Int) : Int) ≤ 102))
     (cond (Nat.beq (c5.1) 0)
      (a26l0d x0 x1 (0, (c5.2.1), 0))
      (cond (Nat.beq (c5.1) 1)
       (a26l0d x0 x1 (1, 0, (c5.2.2)))
       none))
     (a26l0d x0 x1 (1, 0, x1)))
    (a26l0d x0 x1 (1, 0, x1))))
  (cond (decide ((((UInt8.toNat (List.getD (ByteArray.data x0).toList 5 0) : Nat) : Int) : Int) ≥ 97))
   (cond (decide ((((UInt8.toNat (List.getD (ByteArray.data x0).toList 5 0) : Nat) : Int) : Int) ≤ 102))
    (cond (Nat.beq (c5.1) 0)
     (a26l0d x0 x1 (0, (c5.2.1), 0))
     (cond (Nat.beq (c5.1) 1)
      (a26l0d x0 x1 (1, 0, (c5.2.2)))
      none))
    (a26l0d x0 x1 (1, 0, x1)))
   (a26l0d x0 x1 (1, 0, x1))))
 none)
set_option maxRecDepth 100000 in
set_option maxHeartbeats 4000000 in
theorem e26l0d (x0 : ByteArray) (x1 : Int) : evC Tryd.prog ext T1 L26_3 200 (loopN Tryd.f26 0) (loopTail ([0, 4, 5], []) [2, 3, 4] [] (sumK 52 [0, 4, 5] [2, 3, 4] Q26l0c)) (frameOf 52 [0, 4, 5] [.string x0, .int .u32 x1, .int .i64 5]) ⟨[], 0, []⟩ = firstT ([((Nat.beq ((r26l0d x0 x1).1) 0), .exit 0, [anyV, anyV, .int .u32 ((r26l0d x0 x1).2.1)], st0), ((Nat.beq ((r26l0d x0 x1).1) 1), .ret, [.float .f32 0, .bool false, .int .u32 ((r26l0d x0 x1).2.2)], st0)].map fun (b, x) => (b, (x.1, frameOf 52 [2, 3, 4] x.2.1, x.2.2))) :=
 (show evC Tryd.prog ext T1 L26_3 200 (loopN Tryd.f26 0) (loopTail ([0, 4, 5], []) [2, 3, 4] [] (sumK 52 [0, 4, 5] [2, 3, 4] Q26l0c)) (frameOf 52 [0, 4, 5] [.string x0, .int .u32 x1, .int .i64 5]) ⟨[], 0, []⟩ = w26l0d x0 x1 from by kernel_rfl).trans
 (show w26l0d x0 x1 = a26l0d x0 x1 (r26l0d x0 x1) from by unfold w26l0d r26l0d; exact (cond_app (a26l0d x0 x1) _ (cond_app (a26l0d x0 x1) _ (cond_app (a26l0d x0 x1) _ (cond_app (a26l0d x0 x1) _ rfl (cond_app (a26l0d x0 x1) _ rfl rfl)) (cond_app (a26l0d x0 x1) _ (cond_app (a26l0d x0 x1) _ (cond_app (a26l0d x0 x1) _ rfl (cond_app (a26l0d x0 x1) _ rfl rfl)) rfl) rfl)) (cond_app (a26l0d x0 x1) _ (cond_app (a26l0d x0 x1) _ (cond_app (a26l0d x0 x1) _ rfl (cond_app (a26l0d x0 x1) _ rfl rfl)) rfl) rfl)) rfl))
noncomputable def Q26l0d : SumK := fun vals s =>
 match vals, s.h with
 | [.string x0, .int .u32 x1, .int .i64 f0], [] => if f0 = 5 then [((Nat.beq ((r26l0d x0 x1).1) 0), .exit 0, [anyV, anyV, .int .u32 ((r26l0d x0 x1).2.1)], st0), ((Nat.beq ((r26l0d x0 x1).1) 1), .ret, [.float .f32 0, .bool false, .int .u32 ((r26l0d x0 x1).2.2)], st0)] else Q26l0c vals s
 | _, _ => Q26l0c vals s
set_option maxRecDepth 100000 in
set_option maxHeartbeats 4000000 in
theorem qok26l0d : SumKOk Tryd.prog (loopN Tryd.f26 0) 52 [0, 4, 5] [2, 3, 4] Q26l0d := by
  intro vals s x h1 h2 h3
  unfold Q26l0d at h3; split at h3
  · rename_i h; split at h3
    · rename_i hc; obtain ⟨rfl⟩ := hc; exact sum_step ok1 extOk mixed (lok26_3.inner (by kernel_rfl)) qok26l0c h1 h2 h (e26l0d _ _) rfl h3
    · exact qok26l0c _ _ _ h1 h2 h3
  · exact qok26l0c _ _ _ h1 h2 h3
noncomputable def L26_4 : LoopT := addL L26_3 6 ([0, 4, 5], []) (sumK 52 [0, 4, 5] [2, 3, 4] Q26l0d)
theorem lok26_4 : LfOkF Tryd.prog L26_4 Tryd.f26 := lfOkF_add lok26_3 qok26l0d (by kernel_rfl) (by kernel_rfl) (by kernel_rfl)

/-- spec.l01Read, loop 0 -/
noncomputable def r26l0e (x0 : ByteArray) (x1 : Int) : Nat × Int × Int :=
 let c6 := (r26l0d x0 (IntKind.u32.wrap ((IntKind.u32.wrap (x1 * 16)) + (IntKind.u32.wrap (IntKind.u8.wrap (((UInt8.toNat (List.getD (ByteArray.data x0).toList 4 0) : Nat) : Int) - 48))))))
 let c7 := (r26l0d x0 (IntKind.u32.wrap ((IntKind.u32.wrap ((IntKind.u32.wrap (x1 * 16)) + (IntKind.u32.wrap (IntKind.u8.wrap (((UInt8.toNat (List.getD (ByteArray.data x0).toList 4 0) : Nat) : Int) - 97))))) + 10)))
 cond (Nat.blt 4 (x0.size))
  (cond (decide ((((UInt8.toNat (List.getD (ByteArray.data x0).toList 4 0) : Nat) : Int) : Int) ≥ 48))
   (cond (decide ((((UInt8.toNat (List.getD (ByteArray.data x0).toList 4 0) : Nat) : Int) : Int) ≤ 57))
    (cond (Nat.beq (c6.1) 0)
     (0, (c6.2.1), 0)
     (cond (Nat.beq (c6.1) 1)
      (1, 0, (c6.2.2))
      (2, 0, 0)))
    (cond (decide ((((UInt8.toNat (List.getD (ByteArray.data x0).toList 4 0) : Nat) : Int) : Int) ≥ 97))
     (cond (decide ((((UInt8.toNat (List.getD (ByteArray.data x0).toList 4 0) : Nat) : Int) : Int) ≤ 102))
      (cond (Nat.beq (c7.1) 0)
       (0, (c7.2.1), 0)
       (cond (Nat.beq (c7.1) 1)
        (1, 0, (c7.2.2))
        (2, 0, 0)))
      (1, 0, x1))
     (1, 0, x1)))
   (cond (decide ((((UInt8.toNat (List.getD (ByteArray.data x0).toList 4 0) : Nat) : Int) : Int) ≥ 97))
    (cond (decide ((((UInt8.toNat (List.getD (ByteArray.data x0).toList 4 0) : Nat) : Int) : Int) ≤ 102))
     (cond (Nat.beq (c7.1) 0)
      (0, (c7.2.1), 0)
      (cond (Nat.beq (c7.1) 1)
       (1, 0, (c7.2.2))
       (2, 0, 0)))
     (1, 0, x1))
    (1, 0, x1)))
  (2, 0, 0)
noncomputable def a26l0e (x0 : ByteArray) (x1 : Int) (p : Nat × Int × Int) : Option (Fin' × List Value × St) := firstT ([((Nat.beq (p.1) 0), .exit 0, [anyV, anyV, .int .u32 (p.2.1)], st0), ((Nat.beq (p.1) 1), .ret, [.float .f32 0, .bool false, .int .u32 (p.2.2)], st0)].map fun (b, x) => (b, (x.1, frameOf 52 [2, 3, 4] x.2.1, x.2.2)))
noncomputable def w26l0e (x0 : ByteArray) (x1 : Int) : Option (Fin' × List Value × St) :=
 let c6 := (r26l0d x0 (IntKind.u32.wrap ((IntKind.u32.wrap (x1 * 16)) + (IntKind.u32.wrap (IntKind.u8.wrap (((UInt8.toNat (List.getD (ByteArray.data x0).toList 4 0) : Nat) : Int) - 48))))))
 let c7 := (r26l0d x0 (IntKind.u32.wrap ((IntKind.u32.wrap ((IntKind.u32.wrap (x1 * 16)) + (IntKind.u32.wrap (IntKind.u8.wrap (((UInt8.toNat (List.getD (ByteArray.data x0).toList 4 0) : Nat) : Int) - 97))))) + 10)))
 (cond (Nat.blt 4 (x0.size))
 (cond (decide ((((UInt8.toNat (List.getD (ByteArray.data x0).toList 4 0) : Nat) : Int) : Int) ≥ 48))
  (cond (decide ((((UInt8.toNat (List.getD (ByteArray.data x0).toList 4 0) : Nat) : Int) : Int) ≤ 57))
   (cond (Nat.beq (c6.1) 0)
    (a26l0e x0 x1 (0, (c6.2.1), 0))
    (cond (Nat.beq (c6.1) 1)
     (a26l0e x0 x1 (1, 0, (c6.2.2)))
     none))
   (cond (decide ((((UInt8.toNat (List.getD (ByteArray.data x0).toList 4 0) : Nat) : Int) : Int) ≥ 97))
    (cond (decide ((((UInt8.toNat (List.getD (ByteArray.data x0).toList 4 0) : Nat) : Int) : Int) ≤ 102))
     (cond (Nat.beq (c7.1) 0)
      (a26l0e x0 x1 (0, (c7.2.1), 0))
      (cond (Nat.beq (c7.1) 1)
       (a26l0e x0 x1 (1, 0, (c7.2.2)))
       none))
     (a26l0e x0 x1 (1, 0, x1)))
    (a26l0e x0 x1 (1, 0, x1))))
  (cond (decide ((((UInt8.toNat (List.getD (ByteArray.data x0).toList 4 0) : Nat) : Int) : Int) ≥ 97))
   (cond (decide ((((UInt8.toNat (List.getD (ByteArray.data x0).toList 4 0) : Nat) : Int) : Int) ≤ 102))
    (cond (Nat.beq (c7.1) 0)
     (a26l0e x0 x1 (0, (c7.2.1), 0))
     (cond (Nat.beq (c7.1) 1)
      (a26l0e x0 x1 (1, 0, (c7.2.2)))
      none))
    (a26l0e x0 x1 (1, 0, x1)))
   (a26l0e x0 x1 (1, 0, x1))))
 none)
set_option maxRecDepth 100000 in
set_option maxHeartbeats 4000000 in
theorem e26l0e (x0 : ByteArray) (x1 : Int) : evC Tryd.prog ext T1 L26_4 200 (loopN Tryd.f26 0) (loopTail ([0, 4, 5], []) [2, 3, 4] [] (sumK 52 [0, 4, 5] [2, 3, 4] Q26l0d)) (frameOf 52 [0, 4, 5] [.string x0, .int .u32 x1, .int .i64 4]) ⟨[], 0, []⟩ = firstT ([((Nat.beq ((r26l0e x0 x1).1) 0), .exit 0, [anyV, anyV, .int .u32 ((r26l0e x0 x1).2.1)], st0), ((Nat.beq ((r26l0e x0 x1).1) 1), .ret, [.float .f32 0, .bool false, .int .u32 ((r26l0e x0 x1).2.2)], st0)].map fun (b, x) => (b, (x.1, frameOf 52 [2, 3, 4] x.2.1, x.2.2))) :=
 (show evC Tryd.prog ext T1 L26_4 200 (loopN Tryd.f26 0) (loopTail ([0, 4, 5], []) [2, 3, 4] [] (sumK 52 [0, 4, 5] [2, 3, 4] Q26l0d)) (frameOf 52 [0, 4, 5] [.string x0, .int .u32 x1, .int .i64 4]) ⟨[], 0, []⟩ = w26l0e x0 x1 from by kernel_rfl).trans
 (show w26l0e x0 x1 = a26l0e x0 x1 (r26l0e x0 x1) from by unfold w26l0e r26l0e; exact (cond_app (a26l0e x0 x1) _ (cond_app (a26l0e x0 x1) _ (cond_app (a26l0e x0 x1) _ (cond_app (a26l0e x0 x1) _ rfl (cond_app (a26l0e x0 x1) _ rfl rfl)) (cond_app (a26l0e x0 x1) _ (cond_app (a26l0e x0 x1) _ (cond_app (a26l0e x0 x1) _ rfl (cond_app (a26l0e x0 x1) _ rfl rfl)) rfl) rfl)) (cond_app (a26l0e x0 x1) _ (cond_app (a26l0e x0 x1) _ (cond_app (a26l0e x0 x1) _ rfl (cond_app (a26l0e x0 x1) _ rfl rfl)) rfl) rfl)) rfl))
noncomputable def Q26l0e : SumK := fun vals s =>
 match vals, s.h with
 | [.string x0, .int .u32 x1, .int .i64 f0], [] => if f0 = 4 then [((Nat.beq ((r26l0e x0 x1).1) 0), .exit 0, [anyV, anyV, .int .u32 ((r26l0e x0 x1).2.1)], st0), ((Nat.beq ((r26l0e x0 x1).1) 1), .ret, [.float .f32 0, .bool false, .int .u32 ((r26l0e x0 x1).2.2)], st0)] else Q26l0d vals s
 | _, _ => Q26l0d vals s
set_option maxRecDepth 100000 in
set_option maxHeartbeats 4000000 in
theorem qok26l0e : SumKOk Tryd.prog (loopN Tryd.f26 0) 52 [0, 4, 5] [2, 3, 4] Q26l0e := by
  intro vals s x h1 h2 h3
  unfold Q26l0e at h3; split at h3
  · rename_i h; split at h3
    · rename_i hc; obtain ⟨rfl⟩ := hc; exact sum_step ok1 extOk mixed (lok26_4.inner (by kernel_rfl)) qok26l0d h1 h2 h (e26l0e _ _) rfl h3
    · exact qok26l0d _ _ _ h1 h2 h3
  · exact qok26l0d _ _ _ h1 h2 h3
noncomputable def L26_5 : LoopT := addL L26_4 6 ([0, 4, 5], []) (sumK 52 [0, 4, 5] [2, 3, 4] Q26l0e)
theorem lok26_5 : LfOkF Tryd.prog L26_5 Tryd.f26 := lfOkF_add lok26_4 qok26l0e (by kernel_rfl) (by kernel_rfl) (by kernel_rfl)

/-- spec.l01Read, loop 0 -/
noncomputable def r26l0f (x0 : ByteArray) (x1 : Int) : Nat × Int × Int :=
 let c8 := (r26l0e x0 (IntKind.u32.wrap ((IntKind.u32.wrap (x1 * 16)) + (IntKind.u32.wrap (IntKind.u8.wrap (((UInt8.toNat (List.getD (ByteArray.data x0).toList 3 0) : Nat) : Int) - 48))))))
 let c9 := (r26l0e x0 (IntKind.u32.wrap ((IntKind.u32.wrap ((IntKind.u32.wrap (x1 * 16)) + (IntKind.u32.wrap (IntKind.u8.wrap (((UInt8.toNat (List.getD (ByteArray.data x0).toList 3 0) : Nat) : Int) - 97))))) + 10)))
 cond (Nat.blt 3 (x0.size))
  (cond (decide ((((UInt8.toNat (List.getD (ByteArray.data x0).toList 3 0) : Nat) : Int) : Int) ≥ 48))
   (cond (decide ((((UInt8.toNat (List.getD (ByteArray.data x0).toList 3 0) : Nat) : Int) : Int) ≤ 57))
    (cond (Nat.beq (c8.1) 0)
     (0, (c8.2.1), 0)
     (cond (Nat.beq (c8.1) 1)
      (1, 0, (c8.2.2))
      (2, 0, 0)))
    (cond (decide ((((UInt8.toNat (List.getD (ByteArray.data x0).toList 3 0) : Nat) : Int) : Int) ≥ 97))
     (cond (decide ((((UInt8.toNat (List.getD (ByteArray.data x0).toList 3 0) : Nat) : Int) : Int) ≤ 102))
      (cond (Nat.beq (c9.1) 0)
       (0, (c9.2.1), 0)
       (cond (Nat.beq (c9.1) 1)
        (1, 0, (c9.2.2))
        (2, 0, 0)))
      (1, 0, x1))
     (1, 0, x1)))
   (cond (decide ((((UInt8.toNat (List.getD (ByteArray.data x0).toList 3 0) : Nat) : Int) : Int) ≥ 97))
    (cond (decide ((((UInt8.toNat (List.getD (ByteArray.data x0).toList 3 0) : Nat) : Int) : Int) ≤ 102))
     (cond (Nat.beq (c9.1) 0)
      (0, (c9.2.1), 0)
      (cond (Nat.beq (c9.1) 1)
       (1, 0, (c9.2.2))
       (2, 0, 0)))
     (1, 0, x1))
    (1, 0, x1)))
  (2, 0, 0)
noncomputable def a26l0f (x0 : ByteArray) (x1 : Int) (p : Nat × Int × Int) : Option (Fin' × List Value × St) := firstT ([((Nat.beq (p.1) 0), .exit 0, [anyV, anyV, .int .u32 (p.2.1)], st0), ((Nat.beq (p.1) 1), .ret, [.float .f32 0, .bool false, .int .u32 (p.2.2)], st0)].map fun (b, x) => (b, (x.1, frameOf 52 [2, 3, 4] x.2.1, x.2.2)))
noncomputable def w26l0f (x0 : ByteArray) (x1 : Int) : Option (Fin' × List Value × St) :=
 let c8 := (r26l0e x0 (IntKind.u32.wrap ((IntKind.u32.wrap (x1 * 16)) + (IntKind.u32.wrap (IntKind.u8.wrap (((UInt8.toNat (List.getD (ByteArray.data x0).toList 3 0) : Nat) : Int) - 48))))))
 let c9 := (r26l0e x0 (IntKind.u32.wrap ((IntKind.u32.wrap ((IntKind.u32.wrap (x1 * 16)) + (IntKind.u32.wrap (IntKind.u8.wrap (((UInt8.toNat (List.getD (ByteArray.data x0).toList 3 0) : Nat) : Int) - 97))))) + 10)))
 (cond (Nat.blt 3 (x0.size))
 (cond (decide ((((UInt8.toNat (List.getD (ByteArray.data x0).toList 3 0) : Nat) : Int) : Int) ≥ 48))
  (cond (decide ((((UInt8.toNat (List.getD (ByteArray.data x0).toList 3 0) : Nat) : Int) : Int) ≤ 57))
   (cond (Nat.beq (c8.1) 0)
    (a26l0f x0 x1 (0, (c8.2.1), 0))
    (cond (Nat.beq (c8.1) 1)
     (a26l0f x0 x1 (1, 0, (c8.2.2)))
     none))
   (cond (decide ((((UInt8.toNat (List.getD (ByteArray.data x0).toList 3 0) : Nat) : Int) : Int) ≥ 97))
    (cond (decide ((((UInt8.toNat (List.getD (ByteArray.data x0).toList 3 0) : Nat) : Int) : Int) ≤ 102))
     (cond (Nat.beq (c9.1) 0)
      (a26l0f x0 x1 (0, (c9.2.1), 0))
      (cond (Nat.beq (c9.1) 1)
       (a26l0f x0 x1 (1, 0, (c9.2.2)))
       none))
     (a26l0f x0 x1 (1, 0, x1)))
    (a26l0f x0 x1 (1, 0, x1))))
  (cond (decide ((((UInt8.toNat (List.getD (ByteArray.data x0).toList 3 0) : Nat) : Int) : Int) ≥ 97))
   (cond (decide ((((UInt8.toNat (List.getD (ByteArray.data x0).toList 3 0) : Nat) : Int) : Int) ≤ 102))
    (cond (Nat.beq (c9.1) 0)
     (a26l0f x0 x1 (0, (c9.2.1), 0))
     (cond (Nat.beq (c9.1) 1)
      (a26l0f x0 x1 (1, 0, (c9.2.2)))
      none))
    (a26l0f x0 x1 (1, 0, x1)))
   (a26l0f x0 x1 (1, 0, x1))))
 none)
set_option maxRecDepth 100000 in
set_option maxHeartbeats 4000000 in
theorem e26l0f (x0 : ByteArray) (x1 : Int) : evC Tryd.prog ext T1 L26_5 200 (loopN Tryd.f26 0) (loopTail ([0, 4, 5], []) [2, 3, 4] [] (sumK 52 [0, 4, 5] [2, 3, 4] Q26l0e)) (frameOf 52 [0, 4, 5] [.string x0, .int .u32 x1, .int .i64 3]) ⟨[], 0, []⟩ = firstT ([((Nat.beq ((r26l0f x0 x1).1) 0), .exit 0, [anyV, anyV, .int .u32 ((r26l0f x0 x1).2.1)], st0), ((Nat.beq ((r26l0f x0 x1).1) 1), .ret, [.float .f32 0, .bool false, .int .u32 ((r26l0f x0 x1).2.2)], st0)].map fun (b, x) => (b, (x.1, frameOf 52 [2, 3, 4] x.2.1, x.2.2))) :=
 (show evC Tryd.prog ext T1 L26_5 200 (loopN Tryd.f26 0) (loopTail ([0, 4, 5], []) [2, 3, 4] [] (sumK 52 [0, 4, 5] [2, 3, 4] Q26l0e)) (frameOf 52 [0, 4, 5] [.string x0, .int .u32 x1, .int .i64 3]) ⟨[], 0, []⟩ = w26l0f x0 x1 from by kernel_rfl).trans
 (show w26l0f x0 x1 = a26l0f x0 x1 (r26l0f x0 x1) from by unfold w26l0f r26l0f; exact (cond_app (a26l0f x0 x1) _ (cond_app (a26l0f x0 x1) _ (cond_app (a26l0f x0 x1) _ (cond_app (a26l0f x0 x1) _ rfl (cond_app (a26l0f x0 x1) _ rfl rfl)) (cond_app (a26l0f x0 x1) _ (cond_app (a26l0f x0 x1) _ (cond_app (a26l0f x0 x1) _ rfl (cond_app (a26l0f x0 x1) _ rfl rfl)) rfl) rfl)) (cond_app (a26l0f x0 x1) _ (cond_app (a26l0f x0 x1) _ (cond_app (a26l0f x0 x1) _ rfl (cond_app (a26l0f x0 x1) _ rfl rfl)) rfl) rfl)) rfl))
noncomputable def Q26l0f : SumK := fun vals s =>
 match vals, s.h with
 | [.string x0, .int .u32 x1, .int .i64 f0], [] => if f0 = 3 then [((Nat.beq ((r26l0f x0 x1).1) 0), .exit 0, [anyV, anyV, .int .u32 ((r26l0f x0 x1).2.1)], st0), ((Nat.beq ((r26l0f x0 x1).1) 1), .ret, [.float .f32 0, .bool false, .int .u32 ((r26l0f x0 x1).2.2)], st0)] else Q26l0e vals s
 | _, _ => Q26l0e vals s
set_option maxRecDepth 100000 in
set_option maxHeartbeats 4000000 in
theorem qok26l0f : SumKOk Tryd.prog (loopN Tryd.f26 0) 52 [0, 4, 5] [2, 3, 4] Q26l0f := by
  intro vals s x h1 h2 h3
  unfold Q26l0f at h3; split at h3
  · rename_i h; split at h3
    · rename_i hc; obtain ⟨rfl⟩ := hc; exact sum_step ok1 extOk mixed (lok26_5.inner (by kernel_rfl)) qok26l0e h1 h2 h (e26l0f _ _) rfl h3
    · exact qok26l0e _ _ _ h1 h2 h3
  · exact qok26l0e _ _ _ h1 h2 h3
noncomputable def L26_6 : LoopT := addL L26_5 6 ([0, 4, 5], []) (sumK 52 [0, 4, 5] [2, 3, 4] Q26l0f)
theorem lok26_6 : LfOkF Tryd.prog L26_6 Tryd.f26 := lfOkF_add lok26_5 qok26l0f (by kernel_rfl) (by kernel_rfl) (by kernel_rfl)

/-- spec.l01Read, loop 0 -/
noncomputable def r26l0g (x0 : ByteArray) (x1 : Int) : Nat × Int × Int :=
 let c10 := (r26l0f x0 (IntKind.u32.wrap ((IntKind.u32.wrap (x1 * 16)) + (IntKind.u32.wrap (IntKind.u8.wrap (((UInt8.toNat (List.getD (ByteArray.data x0).toList 2 0) : Nat) : Int) - 48))))))
 let c11 := (r26l0f x0 (IntKind.u32.wrap ((IntKind.u32.wrap ((IntKind.u32.wrap (x1 * 16)) + (IntKind.u32.wrap (IntKind.u8.wrap (((UInt8.toNat (List.getD (ByteArray.data x0).toList 2 0) : Nat) : Int) - 97))))) + 10)))
 cond (Nat.blt 2 (x0.size))
  (cond (decide ((((UInt8.toNat (List.getD (ByteArray.data x0).toList 2 0) : Nat) : Int) : Int) ≥ 48))
   (cond (decide ((((UInt8.toNat (List.getD (ByteArray.data x0).toList 2 0) : Nat) : Int) : Int) ≤ 57))
    (cond (Nat.beq (c10.1) 0)
     (0, (c10.2.1), 0)
     (cond (Nat.beq (c10.1) 1)
      (1, 0, (c10.2.2))
      (2, 0, 0)))
    (cond (decide ((((UInt8.toNat (List.getD (ByteArray.data x0).toList 2 0) : Nat) : Int) : Int) ≥ 97))
     (cond (decide ((((UInt8.toNat (List.getD (ByteArray.data x0).toList 2 0) : Nat) : Int) : Int) ≤ 102))
      (cond (Nat.beq (c11.1) 0)
       (0, (c11.2.1), 0)
       (cond (Nat.beq (c11.1) 1)
        (1, 0, (c11.2.2))
        (2, 0, 0)))
      (1, 0, x1))
     (1, 0, x1)))
   (cond (decide ((((UInt8.toNat (List.getD (ByteArray.data x0).toList 2 0) : Nat) : Int) : Int) ≥ 97))
    (cond (decide ((((UInt8.toNat (List.getD (ByteArray.data x0).toList 2 0) : Nat) : Int) : Int) ≤ 102))
     (cond (Nat.beq (c11.1) 0)
      (0, (c11.2.1), 0)
      (cond (Nat.beq (c11.1) 1)
       (1, 0, (c11.2.2))
       (2, 0, 0)))
     (1, 0, x1))
    (1, 0, x1)))
  (2, 0, 0)
noncomputable def a26l0g (x0 : ByteArray) (x1 : Int) (p : Nat × Int × Int) : Option (Fin' × List Value × St) := firstT ([((Nat.beq (p.1) 0), .exit 0, [anyV, anyV, .int .u32 (p.2.1)], st0), ((Nat.beq (p.1) 1), .ret, [.float .f32 0, .bool false, .int .u32 (p.2.2)], st0)].map fun (b, x) => (b, (x.1, frameOf 52 [2, 3, 4] x.2.1, x.2.2)))
noncomputable def w26l0g (x0 : ByteArray) (x1 : Int) : Option (Fin' × List Value × St) :=
 let c10 := (r26l0f x0 (IntKind.u32.wrap ((IntKind.u32.wrap (x1 * 16)) + (IntKind.u32.wrap (IntKind.u8.wrap (((UInt8.toNat (List.getD (ByteArray.data x0).toList 2 0) : Nat) : Int) - 48))))))
 let c11 := (r26l0f x0 (IntKind.u32.wrap ((IntKind.u32.wrap ((IntKind.u32.wrap (x1 * 16)) + (IntKind.u32.wrap (IntKind.u8.wrap (((UInt8.toNat (List.getD (ByteArray.data x0).toList 2 0) : Nat) : Int) - 97))))) + 10)))
 (cond (Nat.blt 2 (x0.size))
 (cond (decide ((((UInt8.toNat (List.getD (ByteArray.data x0).toList 2 0) : Nat) : Int) : Int) ≥ 48))
  (cond (decide ((((UInt8.toNat (List.getD (ByteArray.data x0).toList 2 0) : Nat) : Int) : Int) ≤ 57))
   (cond (Nat.beq (c10.1) 0)
    (a26l0g x0 x1 (0, (c10.2.1), 0))
    (cond (Nat.beq (c10.1) 1)
     (a26l0g x0 x1 (1, 0, (c10.2.2)))
     none))
   (cond (decide ((((UInt8.toNat (List.getD (ByteArray.data x0).toList 2 0) : Nat) : Int) : Int) ≥ 97))
    (cond (decide ((((UInt8.toNat (List.getD (ByteArray.data x0).toList 2 0) : Nat) : Int) : Int) ≤ 102))
     (cond (Nat.beq (c11.1) 0)
      (a26l0g x0 x1 (0, (c11.2.1), 0))
      (cond (Nat.beq (c11.1) 1)
       (a26l0g x0 x1 (1, 0, (c11.2.2)))
       none))
     (a26l0g x0 x1 (1, 0, x1)))
    (a26l0g x0 x1 (1, 0, x1))))
  (cond (decide ((((UInt8.toNat (List.getD (ByteArray.data x0).toList 2 0) : Nat) : Int) : Int) ≥ 97))
   (cond (decide ((((UInt8.toNat (List.getD (ByteArray.data x0).toList 2 0) : Nat) : Int) : Int) ≤ 102))
    (cond (Nat.beq (c11.1) 0)
     (a26l0g x0 x1 (0, (c11.2.1), 0))
     (cond (Nat.beq (c11.1) 1)
      (a26l0g x0 x1 (1, 0, (c11.2.2)))
      none))
    (a26l0g x0 x1 (1, 0, x1)))
   (a26l0g x0 x1 (1, 0, x1))))
 none)
set_option maxRecDepth 100000 in
set_option maxHeartbeats 4000000 in
theorem e26l0g (x0 : ByteArray) (x1 : Int) : evC Tryd.prog ext T1 L26_6 200 (loopN Tryd.f26 0) (loopTail ([0, 4, 5], []) [2, 3, 4] [] (sumK 52 [0, 4, 5] [2, 3, 4] Q26l0f)) (frameOf 52 [0, 4, 5] [.string x0, .int .u32 x1, .int .i64 2]) ⟨[], 0, []⟩ = firstT ([((Nat.beq ((r26l0g x0 x1).1) 0), .exit 0, [anyV, anyV, .int .u32 ((r26l0g x0 x1).2.1)], st0), ((Nat.beq ((r26l0g x0 x1).1) 1), .ret, [.float .f32 0, .bool false, .int .u32 ((r26l0g x0 x1).2.2)], st0)].map fun (b, x) => (b, (x.1, frameOf 52 [2, 3, 4] x.2.1, x.2.2))) :=
 (show evC Tryd.prog ext T1 L26_6 200 (loopN Tryd.f26 0) (loopTail ([0, 4, 5], []) [2, 3, 4] [] (sumK 52 [0, 4, 5] [2, 3, 4] Q26l0f)) (frameOf 52 [0, 4, 5] [.string x0, .int .u32 x1, .int .i64 2]) ⟨[], 0, []⟩ = w26l0g x0 x1 from by kernel_rfl).trans
 (show w26l0g x0 x1 = a26l0g x0 x1 (r26l0g x0 x1) from by unfold w26l0g r26l0g; exact (cond_app (a26l0g x0 x1) _ (cond_app (a26l0g x0 x1) _ (cond_app (a26l0g x0 x1) _ (cond_app (a26l0g x0 x1) _ rfl (cond_app (a26l0g x0 x1) _ rfl rfl)) (cond_app (a26l0g x0 x1) _ (cond_app (a26l0g x0 x1) _ (cond_app (a26l0g x0 x1) _ rfl (cond_app (a26l0g x0 x1) _ rfl rfl)) rfl) rfl)) (cond_app (a26l0g x0 x1) _ (cond_app (a26l0g x0 x1) _ (cond_app (a26l0g x0 x1) _ rfl (cond_app (a26l0g x0 x1) _ rfl rfl)) rfl) rfl)) rfl))
noncomputable def Q26l0g : SumK := fun vals s =>
 match vals, s.h with
 | [.string x0, .int .u32 x1, .int .i64 f0], [] => if f0 = 2 then [((Nat.beq ((r26l0g x0 x1).1) 0), .exit 0, [anyV, anyV, .int .u32 ((r26l0g x0 x1).2.1)], st0), ((Nat.beq ((r26l0g x0 x1).1) 1), .ret, [.float .f32 0, .bool false, .int .u32 ((r26l0g x0 x1).2.2)], st0)] else Q26l0f vals s
 | _, _ => Q26l0f vals s
set_option maxRecDepth 100000 in
set_option maxHeartbeats 4000000 in
theorem qok26l0g : SumKOk Tryd.prog (loopN Tryd.f26 0) 52 [0, 4, 5] [2, 3, 4] Q26l0g := by
  intro vals s x h1 h2 h3
  unfold Q26l0g at h3; split at h3
  · rename_i h; split at h3
    · rename_i hc; obtain ⟨rfl⟩ := hc; exact sum_step ok1 extOk mixed (lok26_6.inner (by kernel_rfl)) qok26l0f h1 h2 h (e26l0g _ _) rfl h3
    · exact qok26l0f _ _ _ h1 h2 h3
  · exact qok26l0f _ _ _ h1 h2 h3
noncomputable def L26_7 : LoopT := addL L26_6 6 ([0, 4, 5], []) (sumK 52 [0, 4, 5] [2, 3, 4] Q26l0g)
theorem lok26_7 : LfOkF Tryd.prog L26_7 Tryd.f26 := lfOkF_add lok26_6 qok26l0g (by kernel_rfl) (by kernel_rfl) (by kernel_rfl)

/-- spec.l01Read, loop 0 -/
noncomputable def r26l0h (x0 : ByteArray) (x1 : Int) : Nat × Int × Int :=
 let c12 := (r26l0g x0 (IntKind.u32.wrap ((IntKind.u32.wrap (x1 * 16)) + (IntKind.u32.wrap (IntKind.u8.wrap (((UInt8.toNat (List.getD (ByteArray.data x0).toList 1 0) : Nat) : Int) - 48))))))
 let c13 := (r26l0g x0 (IntKind.u32.wrap ((IntKind.u32.wrap ((IntKind.u32.wrap (x1 * 16)) + (IntKind.u32.wrap (IntKind.u8.wrap (((UInt8.toNat (List.getD (ByteArray.data x0).toList 1 0) : Nat) : Int) - 97))))) + 10)))
 cond (Nat.blt 1 (x0.size))
  (cond (decide ((((UInt8.toNat (List.getD (ByteArray.data x0).toList 1 0) : Nat) : Int) : Int) ≥ 48))
   (cond (decide ((((UInt8.toNat (List.getD (ByteArray.data x0).toList 1 0) : Nat) : Int) : Int) ≤ 57))
    (cond (Nat.beq (c12.1) 0)
     (0, (c12.2.1), 0)
     (cond (Nat.beq (c12.1) 1)
      (1, 0, (c12.2.2))
      (2, 0, 0)))
    (cond (decide ((((UInt8.toNat (List.getD (ByteArray.data x0).toList 1 0) : Nat) : Int) : Int) ≥ 97))
     (cond (decide ((((UInt8.toNat (List.getD (ByteArray.data x0).toList 1 0) : Nat) : Int) : Int) ≤ 102))
      (cond (Nat.beq (c13.1) 0)
       (0, (c13.2.1), 0)
       (cond (Nat.beq (c13.1) 1)
        (1, 0, (c13.2.2))
        (2, 0, 0)))
      (1, 0, x1))
     (1, 0, x1)))
   (cond (decide ((((UInt8.toNat (List.getD (ByteArray.data x0).toList 1 0) : Nat) : Int) : Int) ≥ 97))
    (cond (decide ((((UInt8.toNat (List.getD (ByteArray.data x0).toList 1 0) : Nat) : Int) : Int) ≤ 102))
     (cond (Nat.beq (c13.1) 0)
      (0, (c13.2.1), 0)
      (cond (Nat.beq (c13.1) 1)
       (1, 0, (c13.2.2))
       (2, 0, 0)))
     (1, 0, x1))
    (1, 0, x1)))
  (2, 0, 0)
noncomputable def a26l0h (x0 : ByteArray) (x1 : Int) (p : Nat × Int × Int) : Option (Fin' × List Value × St) := firstT ([((Nat.beq (p.1) 0), .exit 0, [anyV, anyV, .int .u32 (p.2.1)], st0), ((Nat.beq (p.1) 1), .ret, [.float .f32 0, .bool false, .int .u32 (p.2.2)], st0)].map fun (b, x) => (b, (x.1, frameOf 52 [2, 3, 4] x.2.1, x.2.2)))
noncomputable def w26l0h (x0 : ByteArray) (x1 : Int) : Option (Fin' × List Value × St) :=
 let c12 := (r26l0g x0 (IntKind.u32.wrap ((IntKind.u32.wrap (x1 * 16)) + (IntKind.u32.wrap (IntKind.u8.wrap (((UInt8.toNat (List.getD (ByteArray.data x0).toList 1 0) : Nat) : Int) - 48))))))
 let c13 := (r26l0g x0 (IntKind.u32.wrap ((IntKind.u32.wrap ((IntKind.u32.wrap (x1 * 16)) + (IntKind.u32.wrap (IntKind.u8.wrap (((UInt8.toNat (List.getD (ByteArray.data x0).toList 1 0) : Nat) : Int) - 97))))) + 10)))
 (cond (Nat.blt 1 (x0.size))
 (cond (decide ((((UInt8.toNat (List.getD (ByteArray.data x0).toList 1 0) : Nat) : Int) : Int) ≥ 48))
  (cond (decide ((((UInt8.toNat (List.getD (ByteArray.data x0).toList 1 0) : Nat) : Int) : Int) ≤ 57))
   (cond (Nat.beq (c12.1) 0)
    (a26l0h x0 x1 (0, (c12.2.1), 0))
    (cond (Nat.beq (c12.1) 1)
     (a26l0h x0 x1 (1, 0, (c12.2.2)))
     none))
   (cond (decide ((((UInt8.toNat (List.getD (ByteArray.data x0).toList 1 0) : Nat) : Int) : Int) ≥ 97))
    (cond (decide ((((UInt8.toNat (List.getD (ByteArray.data x0).toList 1 0) : Nat) : Int) : Int) ≤ 102))
     (cond (Nat.beq (c13.1) 0)
      (a26l0h x0 x1 (0, (c13.2.1), 0))
      (cond (Nat.beq (c13.1) 1)
       (a26l0h x0 x1 (1, 0, (c13.2.2)))
       none))
     (a26l0h x0 x1 (1, 0, x1)))
    (a26l0h x0 x1 (1, 0, x1))))
  (cond (decide ((((UInt8.toNat (List.getD (ByteArray.data x0).toList 1 0) : Nat) : Int) : Int) ≥ 97))
   (cond (decide ((((UInt8.toNat (List.getD (ByteArray.data x0).toList 1 0) : Nat) : Int) : Int) ≤ 102))
    (cond (Nat.beq (c13.1) 0)
     (a26l0h x0 x1 (0, (c13.2.1), 0))
     (cond (Nat.beq (c13.1) 1)
      (a26l0h x0 x1 (1, 0, (c13.2.2)))
      none))
    (a26l0h x0 x1 (1, 0, x1)))
   (a26l0h x0 x1 (1, 0, x1))))
 none)
set_option maxRecDepth 100000 in
set_option maxHeartbeats 4000000 in
theorem e26l0h (x0 : ByteArray) (x1 : Int) : evC Tryd.prog ext T1 L26_7 200 (loopN Tryd.f26 0) (loopTail ([0, 4, 5], []) [2, 3, 4] [] (sumK 52 [0, 4, 5] [2, 3, 4] Q26l0g)) (frameOf 52 [0, 4, 5] [.string x0, .int .u32 x1, .int .i64 1]) ⟨[], 0, []⟩ = firstT ([((Nat.beq ((r26l0h x0 x1).1) 0), .exit 0, [anyV, anyV, .int .u32 ((r26l0h x0 x1).2.1)], st0), ((Nat.beq ((r26l0h x0 x1).1) 1), .ret, [.float .f32 0, .bool false, .int .u32 ((r26l0h x0 x1).2.2)], st0)].map fun (b, x) => (b, (x.1, frameOf 52 [2, 3, 4] x.2.1, x.2.2))) :=
 (show evC Tryd.prog ext T1 L26_7 200 (loopN Tryd.f26 0) (loopTail ([0, 4, 5], []) [2, 3, 4] [] (sumK 52 [0, 4, 5] [2, 3, 4] Q26l0g)) (frameOf 52 [0, 4, 5] [.string x0, .int .u32 x1, .int .i64 1]) ⟨[], 0, []⟩ = w26l0h x0 x1 from by kernel_rfl).trans
 (show w26l0h x0 x1 = a26l0h x0 x1 (r26l0h x0 x1) from by unfold w26l0h r26l0h; exact (cond_app (a26l0h x0 x1) _ (cond_app (a26l0h x0 x1) _ (cond_app (a26l0h x0 x1) _ (cond_app (a26l0h x0 x1) _ rfl (cond_app (a26l0h x0 x1) _ rfl rfl)) (cond_app (a26l0h x0 x1) _ (cond_app (a26l0h x0 x1) _ (cond_app (a26l0h x0 x1) _ rfl (cond_app (a26l0h x0 x1) _ rfl rfl)) rfl) rfl)) (cond_app (a26l0h x0 x1) _ (cond_app (a26l0h x0 x1) _ (cond_app (a26l0h x0 x1) _ rfl (cond_app (a26l0h x0 x1) _ rfl rfl)) rfl) rfl)) rfl))
noncomputable def Q26l0h : SumK := fun vals s =>
 match vals, s.h with
 | [.string x0, .int .u32 x1, .int .i64 f0], [] => if f0 = 1 then [((Nat.beq ((r26l0h x0 x1).1) 0), .exit 0, [anyV, anyV, .int .u32 ((r26l0h x0 x1).2.1)], st0), ((Nat.beq ((r26l0h x0 x1).1) 1), .ret, [.float .f32 0, .bool false, .int .u32 ((r26l0h x0 x1).2.2)], st0)] else Q26l0g vals s
 | _, _ => Q26l0g vals s
set_option maxRecDepth 100000 in
set_option maxHeartbeats 4000000 in
theorem qok26l0h : SumKOk Tryd.prog (loopN Tryd.f26 0) 52 [0, 4, 5] [2, 3, 4] Q26l0h := by
  intro vals s x h1 h2 h3
  unfold Q26l0h at h3; split at h3
  · rename_i h; split at h3
    · rename_i hc; obtain ⟨rfl⟩ := hc; exact sum_step ok1 extOk mixed (lok26_7.inner (by kernel_rfl)) qok26l0g h1 h2 h (e26l0h _ _) rfl h3
    · exact qok26l0g _ _ _ h1 h2 h3
  · exact qok26l0g _ _ _ h1 h2 h3
noncomputable def L26_8 : LoopT := addL L26_7 6 ([0, 4, 5], []) (sumK 52 [0, 4, 5] [2, 3, 4] Q26l0h)
theorem lok26_8 : LfOkF Tryd.prog L26_8 Tryd.f26 := lfOkF_add lok26_7 qok26l0h (by kernel_rfl) (by kernel_rfl) (by kernel_rfl)

/-- spec.l01Read, loop 0 -/
noncomputable def r26l0i (x0 : ByteArray) : Nat × Int × Int :=
 let c14 := (r26l0h x0 (IntKind.u32.wrap (0 + (IntKind.u32.wrap (IntKind.u8.wrap (((UInt8.toNat (List.getD (ByteArray.data x0).toList 0 0) : Nat) : Int) - 48))))))
 let c15 := (r26l0h x0 (IntKind.u32.wrap ((IntKind.u32.wrap (0 + (IntKind.u32.wrap (IntKind.u8.wrap (((UInt8.toNat (List.getD (ByteArray.data x0).toList 0 0) : Nat) : Int) - 97))))) + 10)))
 cond (Nat.blt 0 (x0.size))
  (cond (decide ((((UInt8.toNat (List.getD (ByteArray.data x0).toList 0 0) : Nat) : Int) : Int) ≥ 48))
   (cond (decide ((((UInt8.toNat (List.getD (ByteArray.data x0).toList 0 0) : Nat) : Int) : Int) ≤ 57))
    (cond (Nat.beq (c14.1) 0)
     (0, (c14.2.1), 0)
     (cond (Nat.beq (c14.1) 1)
      (1, 0, (c14.2.2))
      (2, 0, 0)))
    (cond (decide ((((UInt8.toNat (List.getD (ByteArray.data x0).toList 0 0) : Nat) : Int) : Int) ≥ 97))
     (cond (decide ((((UInt8.toNat (List.getD (ByteArray.data x0).toList 0 0) : Nat) : Int) : Int) ≤ 102))
      (cond (Nat.beq (c15.1) 0)
       (0, (c15.2.1), 0)
       (cond (Nat.beq (c15.1) 1)
        (1, 0, (c15.2.2))
        (2, 0, 0)))
      (1, 0, 0))
     (1, 0, 0)))
   (cond (decide ((((UInt8.toNat (List.getD (ByteArray.data x0).toList 0 0) : Nat) : Int) : Int) ≥ 97))
    (cond (decide ((((UInt8.toNat (List.getD (ByteArray.data x0).toList 0 0) : Nat) : Int) : Int) ≤ 102))
     (cond (Nat.beq (c15.1) 0)
      (0, (c15.2.1), 0)
      (cond (Nat.beq (c15.1) 1)
       (1, 0, (c15.2.2))
       (2, 0, 0)))
     (1, 0, 0))
    (1, 0, 0)))
  (2, 0, 0)
noncomputable def a26l0i (x0 : ByteArray) (p : Nat × Int × Int) : Option (Fin' × List Value × St) := firstT ([((Nat.beq (p.1) 0), .exit 0, [anyV, anyV, .int .u32 (p.2.1)], st0), ((Nat.beq (p.1) 1), .ret, [.float .f32 0, .bool false, .int .u32 (p.2.2)], st0)].map fun (b, x) => (b, (x.1, frameOf 52 [2, 3, 4] x.2.1, x.2.2)))
noncomputable def w26l0i (x0 : ByteArray) : Option (Fin' × List Value × St) :=
 let c14 := (r26l0h x0 (IntKind.u32.wrap (0 + (IntKind.u32.wrap (IntKind.u8.wrap (((UInt8.toNat (List.getD (ByteArray.data x0).toList 0 0) : Nat) : Int) - 48))))))
 let c15 := (r26l0h x0 (IntKind.u32.wrap ((IntKind.u32.wrap (0 + (IntKind.u32.wrap (IntKind.u8.wrap (((UInt8.toNat (List.getD (ByteArray.data x0).toList 0 0) : Nat) : Int) - 97))))) + 10)))
 (cond (Nat.blt 0 (x0.size))
 (cond (decide ((((UInt8.toNat (List.getD (ByteArray.data x0).toList 0 0) : Nat) : Int) : Int) ≥ 48))
  (cond (decide ((((UInt8.toNat (List.getD (ByteArray.data x0).toList 0 0) : Nat) : Int) : Int) ≤ 57))
   (cond (Nat.beq (c14.1) 0)
    (a26l0i x0 (0, (c14.2.1), 0))
    (cond (Nat.beq (c14.1) 1)
     (a26l0i x0 (1, 0, (c14.2.2)))
     none))
   (cond (decide ((((UInt8.toNat (List.getD (ByteArray.data x0).toList 0 0) : Nat) : Int) : Int) ≥ 97))
    (cond (decide ((((UInt8.toNat (List.getD (ByteArray.data x0).toList 0 0) : Nat) : Int) : Int) ≤ 102))
     (cond (Nat.beq (c15.1) 0)
      (a26l0i x0 (0, (c15.2.1), 0))
      (cond (Nat.beq (c15.1) 1)
       (a26l0i x0 (1, 0, (c15.2.2)))
       none))
     (a26l0i x0 (1, 0, 0)))
    (a26l0i x0 (1, 0, 0))))
  (cond (decide ((((UInt8.toNat (List.getD (ByteArray.data x0).toList 0 0) : Nat) : Int) : Int) ≥ 97))
   (cond (decide ((((UInt8.toNat (List.getD (ByteArray.data x0).toList 0 0) : Nat) : Int) : Int) ≤ 102))
    (cond (Nat.beq (c15.1) 0)
     (a26l0i x0 (0, (c15.2.1), 0))
     (cond (Nat.beq (c15.1) 1)
      (a26l0i x0 (1, 0, (c15.2.2)))
      none))
    (a26l0i x0 (1, 0, 0)))
   (a26l0i x0 (1, 0, 0))))
 none)
set_option maxRecDepth 100000 in
set_option maxHeartbeats 4000000 in
theorem e26l0i (x0 : ByteArray) : evC Tryd.prog ext T1 L26_8 200 (loopN Tryd.f26 0) (loopTail ([0, 4, 5], []) [2, 3, 4] [] (sumK 52 [0, 4, 5] [2, 3, 4] Q26l0h)) (frameOf 52 [0, 4, 5] [.string x0, .int .u32 0, .int .i64 0]) ⟨[], 0, []⟩ = firstT ([((Nat.beq ((r26l0i x0).1) 0), .exit 0, [anyV, anyV, .int .u32 ((r26l0i x0).2.1)], st0), ((Nat.beq ((r26l0i x0).1) 1), .ret, [.float .f32 0, .bool false, .int .u32 ((r26l0i x0).2.2)], st0)].map fun (b, x) => (b, (x.1, frameOf 52 [2, 3, 4] x.2.1, x.2.2))) :=
 (show evC Tryd.prog ext T1 L26_8 200 (loopN Tryd.f26 0) (loopTail ([0, 4, 5], []) [2, 3, 4] [] (sumK 52 [0, 4, 5] [2, 3, 4] Q26l0h)) (frameOf 52 [0, 4, 5] [.string x0, .int .u32 0, .int .i64 0]) ⟨[], 0, []⟩ = w26l0i x0 from by kernel_rfl).trans
 (show w26l0i x0 = a26l0i x0 (r26l0i x0) from by unfold w26l0i r26l0i; exact (cond_app (a26l0i x0) _ (cond_app (a26l0i x0) _ (cond_app (a26l0i x0) _ (cond_app (a26l0i x0) _ rfl (cond_app (a26l0i x0) _ rfl rfl)) (cond_app (a26l0i x0) _ (cond_app (a26l0i x0) _ (cond_app (a26l0i x0) _ rfl (cond_app (a26l0i x0) _ rfl rfl)) rfl) rfl)) (cond_app (a26l0i x0) _ (cond_app (a26l0i x0) _ (cond_app (a26l0i x0) _ rfl (cond_app (a26l0i x0) _ rfl rfl)) rfl) rfl)) rfl))
noncomputable def Q26l0i : SumK := fun vals s =>
 match vals, s.h with
 | [.string x0, .int .u32 f0, .int .i64 f1], [] => if f0 = 0 ∧ f1 = 0 then [((Nat.beq ((r26l0i x0).1) 0), .exit 0, [anyV, anyV, .int .u32 ((r26l0i x0).2.1)], st0), ((Nat.beq ((r26l0i x0).1) 1), .ret, [.float .f32 0, .bool false, .int .u32 ((r26l0i x0).2.2)], st0)] else Q26l0h vals s
 | _, _ => Q26l0h vals s
set_option maxRecDepth 100000 in
set_option maxHeartbeats 4000000 in
theorem qok26l0i : SumKOk Tryd.prog (loopN Tryd.f26 0) 52 [0, 4, 5] [2, 3, 4] Q26l0i := by
  intro vals s x h1 h2 h3
  unfold Q26l0i at h3; split at h3
  · rename_i h; split at h3
    · rename_i hc; obtain ⟨rfl, rfl⟩ := hc; exact sum_step ok1 extOk mixed (lok26_8.inner (by kernel_rfl)) qok26l0h h1 h2 h (e26l0i _) rfl h3
    · exact qok26l0h _ _ _ h1 h2 h3
  · exact qok26l0h _ _ _ h1 h2 h3
noncomputable def L26_9 : LoopT := addL L26_8 6 ([0, 4, 5], []) (sumK 52 [0, 4, 5] [2, 3, 4] Q26l0i)
theorem lok26_9 : LfOkF Tryd.prog L26_9 Tryd.f26 := lfOkF_add lok26_8 qok26l0i (by kernel_rfl) (by kernel_rfl) (by kernel_rfl)

/-- spec.l01Bits -/
noncomputable def r37 (x0 : Nat) : Int :=
 cond (!feq .f32 x0 x0)
  (2143289344)
  (((x0 : Nat) : Int))
noncomputable def a37 (x0 : Nat) (p : Int) : Res := firstT [(true, .int .u32 p, st0)]
noncomputable def w37 (x0 : Nat) : Res :=
 (cond (!feq .f32 x0 x0)
 (a37 x0 (2143289344))
 (cond (!isN .f32 x0)
  (a37 x0 (((x0 : Nat) : Int)))
  (some (nanBits .f32, st0))))
set_option maxRecDepth 100000 in
set_option maxHeartbeats 4000000 in
theorem e37 (x0 : Nat) : evFn Tryd.prog ext T1 noL 200 Tryd.f37 [.float .f32 x0] st0 = firstT [(true, .int .u32 (r37 x0), st0)] :=
 (show evFn Tryd.prog ext T1 noL 200 Tryd.f37 [.float .f32 x0] st0 = w37 x0 from by kernel_rfl).trans
 (show w37 x0 = a37 x0 (r37 x0) from by unfold w37 r37; exact (cond_both (a37 x0) _ (fun h0 => rfl) (fun h0 => (cond_t (ev_not1 (ev_eq1 (ev_notf h0))) rfl))))
noncomputable def s37 (args : List Value) (s : St) : List (Bool × Value × St) :=
 match args, s.h with
 | [.float .f32 x0], [] => [(true, .int .u32 (r37 x0), st0)]
 | _, _ => T1 37 args s
noncomputable def T2 : CallF := addF T1 37 s37
set_option maxRecDepth 100000 in
set_option maxHeartbeats 4000000 in
theorem ok2 : CfOk Tryd.prog T2 := by
  refine cfOk_add ok1 fun args s r s' h1 h2 h3 => ?_
  unfold s37 at h3; split at h3
  · rename_i h; exact callOk ok1 Tryd.func37 h1 h2 h (lfOkF_no _ _).body (e37 _) rfl h3
  · exact ok1 _ _ _ _ _ h1 h2 h3

/-- spec.l01Read -/
noncomputable def r26 (x0 : ByteArray) : Nat × Nat × Bool :=
 cond (((((x0.size) : Nat) : Int) : Int) != 8)
  (0, 0, false)
  (cond (Nat.beq ((r26l0i x0).1) 0)
   (0, (Int.toNat ((r26l0i x0).2.1)), (((r37 (Int.toNat ((r26l0i x0).2.1))) : Int) == ((r26l0i x0).2.1)))
   (cond (Nat.beq ((r26l0i x0).1) 1)
    (0, 0, false)
    (1, 0, false)))
noncomputable def a26 (x0 : ByteArray) (p : Nat × Nat × Bool) : Res := firstT [((Nat.beq (p.1) 0), .tuple #[.float .f32 (p.2.1), .bool (p.2.2)], st0)]
noncomputable def w26 (x0 : ByteArray) : Res :=
 (cond (((((x0.size) : Nat) : Int) : Int) != 8)
 (a26 x0 (0, 0, false))
 (cond (Nat.beq ((r26l0i x0).1) 0)
  (a26 x0 (0, (Int.toNat ((r26l0i x0).2.1)), (((r37 (Int.toNat ((r26l0i x0).2.1))) : Int) == ((r26l0i x0).2.1))))
  (cond (Nat.beq ((r26l0i x0).1) 1)
   (a26 x0 (0, 0, false))
   none)))
set_option maxRecDepth 100000 in
set_option maxHeartbeats 4000000 in
theorem e26 (x0 : ByteArray) : evFn Tryd.prog ext T2 L26_9 200 Tryd.f26 [.string x0] st0 = firstT [((Nat.beq ((r26 x0).1) 0), .tuple #[.float .f32 ((r26 x0).2.1), .bool ((r26 x0).2.2)], st0)] :=
 (show evFn Tryd.prog ext T2 L26_9 200 Tryd.f26 [.string x0] st0 = w26 x0 from by kernel_rfl).trans
 (show w26 x0 = a26 x0 (r26 x0) from by unfold w26 r26; exact (cond_app (a26 x0) _ rfl (cond_app (a26 x0) _ rfl (cond_app (a26 x0) _ rfl rfl))))
noncomputable def s26 (args : List Value) (s : St) : List (Bool × Value × St) :=
 match args, s.h with
 | [.string x0], [] => [((Nat.beq ((r26 x0).1) 0), .tuple #[.float .f32 ((r26 x0).2.1), .bool ((r26 x0).2.2)], st0)]
 | _, _ => T2 26 args s
noncomputable def T3 : CallF := addF T2 26 s26
set_option maxRecDepth 100000 in
set_option maxHeartbeats 4000000 in
theorem ok3 : CfOk Tryd.prog T3 := by
  refine cfOk_add ok2 fun args s r s' h1 h2 h3 => ?_
  unfold s26 at h3; split at h3
  · rename_i h; exact callOk ok2 Tryd.func26 h1 h2 h lok26_9.body (e26 _) rfl h3
  · exact ok2 _ _ _ _ _ h1 h2 h3

/-- spec.l01Numbers, loop 0: one round -/
noncomputable def b16l0 (ih : Nat → Nat → Int → List ByteArray → List (List Int) → (Nat × List (List Int) × List (List Int))) (x0 x1 : Nat) (x2 : Int) (x3 : List ByteArray) (x4 : List (List Int)) : Nat × List (List Int) × List (List Int) :=
 cond (decide ((x2 : Int) < ((x1 : Nat) : Int)))
  (cond ((decide ((0 : Int) ≤ x2)) && (Nat.blt (Int.toNat x2) x1))
   (cond (Nat.blt (x0 + (Int.toNat x2)) x3.length)
    (cond (Nat.beq ((r26 (x3.getD (x0 + (Int.toNat x2)) .empty)).1) 0)
     (cond (!((r26 (x3.getD (x0 + (Int.toNat x2)) .empty)).2.2))
      (0, [], [])
      (cond (Nat.ble ((x4.length + 1) * 5) 140737488355328)
       (cond (Nat.beq ((ih x0 x1 (IntKind.i64.wrap (x2 + 1)) x3 (((x4.drop 0).take x4.length) ++ ([[((((r26 (x3.getD (x0 + (Int.toNat x2)) .empty)).2.1) : Nat) : Int)]] : List (List Int)))).1) 0)
        (1, (((x4.drop 0).take x4.length) ++ ([[((((r26 (x3.getD (x0 + (Int.toNat x2)) .empty)).2.1) : Nat) : Int)]] : List (List Int))), [])
        (cond (Nat.beq ((ih x0 x1 (IntKind.i64.wrap (x2 + 1)) x3 (((x4.drop 0).take x4.length) ++ ([[((((r26 (x3.getD (x0 + (Int.toNat x2)) .empty)).2.1) : Nat) : Int)]] : List (List Int)))).1) 1)
         (1, ((ih x0 x1 (IntKind.i64.wrap (x2 + 1)) x3 (((x4.drop 0).take x4.length) ++ ([[((((r26 (x3.getD (x0 + (Int.toNat x2)) .empty)).2.1) : Nat) : Int)]] : List (List Int)))).2.1), [])
         (cond (Nat.beq ((ih x0 x1 (IntKind.i64.wrap (x2 + 1)) x3 (((x4.drop 0).take x4.length) ++ ([[((((r26 (x3.getD (x0 + (Int.toNat x2)) .empty)).2.1) : Nat) : Int)]] : List (List Int)))).1) 2)
          (2, [], ((ih x0 x1 (IntKind.i64.wrap (x2 + 1)) x3 (((x4.drop 0).take x4.length) ++ ([[((((r26 (x3.getD (x0 + (Int.toNat x2)) .empty)).2.1) : Nat) : Int)]] : List (List Int)))).2.2))
          (cond (Nat.beq ((ih x0 x1 (IntKind.i64.wrap (x2 + 1)) x3 (((x4.drop 0).take x4.length) ++ ([[((((r26 (x3.getD (x0 + (Int.toNat x2)) .empty)).2.1) : Nat) : Int)]] : List (List Int)))).1) 3)
           (2, [], (((x4.drop 0).take x4.length) ++ ([[((((r26 (x3.getD (x0 + (Int.toNat x2)) .empty)).2.1) : Nat) : Int)]] : List (List Int))))
           (4, [], [])))))
       (4, [], [])))
     (4, [], []))
    (4, [], []))
   (4, [], []))
  (3, [], [])
noncomputable def r16l0 : Nat → Nat → Nat → Int → List ByteArray → List (List Int) → (Nat × List (List Int) × List (List Int))
 | 0 => fun _ _ _ _ _ => (4, [], [])
 | m + 1 => b16l0 (r16l0 m)
noncomputable def a16l0 (x0 x1 : Nat) (x2 : Int) (x3 : List ByteArray) (x4 : List (List Int)) (p : Nat × List (List Int) × List (List Int)) : Option (Fin' × List Value × St) := firstT ([((Nat.beq (p.1) 0), .ret, [wsl 2, .bool false, wsl 1], ⟨[⟨true, (some (.strs x3))⟩, ⟨true, (some (.tab [.fl .f32] x4))⟩, ⟨true, (some (.tab [.fl .f32] ([] : List (List Int))))⟩], 2, [1]⟩), ((Nat.beq (p.1) 1), .ret, [wsl 2, .bool false, wsl 3], ⟨[⟨true, (some (.strs x3))⟩, ⟨true, none⟩, ⟨true, (some (.tab [.fl .f32] ([] : List (List Int))))⟩, ⟨true, (some (.tab [.fl .f32] (p.2.1)))⟩], 2, [1]⟩), ((Nat.beq (p.1) 2), .exit 0, [anyV, anyV, wsl 2], ⟨[⟨true, (some (.strs x3))⟩, ⟨true, none⟩, ⟨true, (some (.tab [.fl .f32] (p.2.2)))⟩], 2, [1]⟩), ((Nat.beq (p.1) 3), .exit 0, [anyV, anyV, wsl 1], ⟨[⟨true, (some (.strs x3))⟩, ⟨true, (some (.tab [.fl .f32] x4))⟩], 2, [1]⟩)].map fun (b, x) => (b, (x.1, frameOf 31 [2, 3, 4] x.2.1, x.2.2)))
noncomputable def u16l0 (x0 x1 : Nat) (x2 : Int) (x3 : List ByteArray) (x4 : List (List Int)) (p : Nat × List (List Int) × List (List Int)) : Option (Fin' × List Value × St) := alts ([((Nat.beq (p.1) 0), .ret, [wsl 2, .bool false, wsl 1], ⟨[⟨true, (some (.strs x3))⟩, ⟨true, (some (.tab [.fl .f32] x4))⟩, ⟨true, (some (.tab [.fl .f32] ([] : List (List Int))))⟩], 2, [1]⟩), ((Nat.beq (p.1) 1), .ret, [wsl 2, .bool false, wsl 3], ⟨[⟨true, (some (.strs x3))⟩, ⟨true, none⟩, ⟨true, (some (.tab [.fl .f32] ([] : List (List Int))))⟩, ⟨true, (some (.tab [.fl .f32] (p.2.1)))⟩], 2, [1]⟩), ((Nat.beq (p.1) 2), .exit 0, [anyV, anyV, wsl 2], ⟨[⟨true, (some (.strs x3))⟩, ⟨true, none⟩, ⟨true, (some (.tab [.fl .f32] (p.2.2)))⟩], 2, [1]⟩), ((Nat.beq (p.1) 3), .exit 0, [anyV, anyV, wsl 1], ⟨[⟨true, (some (.strs x3))⟩, ⟨true, (some (.tab [.fl .f32] x4))⟩], 2, [1]⟩)].map fun (b, x) => (b, (x.1, frameOf 31 [2, 3, 4] x.2.1, x.2.2))) some
theorem v16l0 (x0 x1 : Nat) (x2 : Int) (x3 : List ByteArray) (x4 : List (List Int)) (p : Nat × List (List Int) × List (List Int)) : u16l0 x0 x1 x2 x3 x4 p = a16l0 x0 x1 x2 x3 x4 p := alts_first _
noncomputable def q16l0 (m : Nat) : SumK := fun vals s =>
 match vals, s.h with
 | [.iface x1 (.pointer (some ⟨f0, x0, some f1⟩)), .iface f2 .nilIface, .int .i64 x2], [⟨true, some (.strs x3)⟩, ⟨true, some (.tab [.fl .f32] x4)⟩] => if f0 = 0 ∧ f1 = 0 ∧ f2 = 1 then [((Nat.beq ((r16l0 m x0 x1 x2 x3 x4).1) 0), .ret, [wsl 2, .bool false, wsl 1], ⟨[⟨true, (some (.strs x3))⟩, ⟨true, (some (.tab [.fl .f32] x4))⟩, ⟨true, (some (.tab [.fl .f32] ([] : List (List Int))))⟩], 2, [1]⟩), ((Nat.beq ((r16l0 m x0 x1 x2 x3 x4).1) 1), .ret, [wsl 2, .bool false, wsl 3], ⟨[⟨true, (some (.strs x3))⟩, ⟨true, none⟩, ⟨true, (some (.tab [.fl .f32] ([] : List (List Int))))⟩, ⟨true, (some (.tab [.fl .f32] ((r16l0 m x0 x1 x2 x3 x4).2.1)))⟩], 2, [1]⟩), ((Nat.beq ((r16l0 m x0 x1 x2 x3 x4).1) 2), .exit 0, [anyV, anyV, wsl 2], ⟨[⟨true, (some (.strs x3))⟩, ⟨true, none⟩, ⟨true, (some (.tab [.fl .f32] ((r16l0 m x0 x1 x2 x3 x4).2.2)))⟩], 2, [1]⟩), ((Nat.beq ((r16l0 m x0 x1 x2 x3 x4).1) 3), .exit 0, [anyV, anyV, wsl 1], ⟨[⟨true, (some (.strs x3))⟩, ⟨true, (some (.tab [.fl .f32] x4))⟩], 2, [1]⟩)] else noQ vals s
 | _, _ => noQ vals s
noncomputable def w16l0 (ih : Nat → Nat → Int → List ByteArray → List (List Int) → (Nat × List (List Int) × List (List Int))) (x0 x1 : Nat) (x2 : Int) (x3 : List ByteArray) (x4 : List (List Int)) : Option (Fin' × List Value × St) :=
 (cond (decide ((x2 : Int) < ((x1 : Nat) : Int)))
 (cond ((decide ((0 : Int) ≤ x2)) && (Nat.blt (Int.toNat x2) x1))
  (cond (Nat.blt (x0 + (Int.toNat x2)) x3.length)
   (cond (Nat.beq ((r26 (x3.getD (x0 + (Int.toNat x2)) .empty)).1) 0)
    (cond (!((r26 (x3.getD (x0 + (Int.toNat x2)) .empty)).2.2))
     (a16l0 x0 x1 x2 x3 x4 (0, [], []))
     (cond (Nat.ble ((x4.length + 1) * 5) 140737488355328)
      (cond (Nat.beq ((ih x0 x1 (IntKind.i64.wrap (x2 + 1)) x3 (((x4.drop 0).take x4.length) ++ ([[((((r26 (x3.getD (x0 + (Int.toNat x2)) .empty)).2.1) : Nat) : Int)]] : List (List Int)))).1) 0)
       (a16l0 x0 x1 x2 x3 x4 (1, (((x4.drop 0).take x4.length) ++ ([[((((r26 (x3.getD (x0 + (Int.toNat x2)) .empty)).2.1) : Nat) : Int)]] : List (List Int))), []))
       (cond (Nat.beq ((ih x0 x1 (IntKind.i64.wrap (x2 + 1)) x3 (((x4.drop 0).take x4.length) ++ ([[((((r26 (x3.getD (x0 + (Int.toNat x2)) .empty)).2.1) : Nat) : Int)]] : List (List Int)))).1) 1)
        (a16l0 x0 x1 x2 x3 x4 (1, ((ih x0 x1 (IntKind.i64.wrap (x2 + 1)) x3 (((x4.drop 0).take x4.length) ++ ([[((((r26 (x3.getD (x0 + (Int.toNat x2)) .empty)).2.1) : Nat) : Int)]] : List (List Int)))).2.1), []))
        (cond (Nat.beq ((ih x0 x1 (IntKind.i64.wrap (x2 + 1)) x3 (((x4.drop 0).take x4.length) ++ ([[((((r26 (x3.getD (x0 + (Int.toNat x2)) .empty)).2.1) : Nat) : Int)]] : List (List Int)))).1) 2)
         (a16l0 x0 x1 x2 x3 x4 (2, [], ((ih x0 x1 (IntKind.i64.wrap (x2 + 1)) x3 (((x4.drop 0).take x4.length) ++ ([[((((r26 (x3.getD (x0 + (Int.toNat x2)) .empty)).2.1) : Nat) : Int)]] : List (List Int)))).2.2)))
         (cond (Nat.beq ((ih x0 x1 (IntKind.i64.wrap (x2 + 1)) x3 (((x4.drop 0).take x4.length) ++ ([[((((r26 (x3.getD (x0 + (Int.toNat x2)) .empty)).2.1) : Nat) : Int)]] : List (List Int)))).1) 3)
          (a16l0 x0 x1 x2 x3 x4 (2, [], (((x4.drop 0).take x4.length) ++ ([[((((r26 (x3.getD (x0 + (Int.toNat x2)) .empty)).2.1) : Nat) : Int)]] : List (List Int)))))
          none))))
      none))
    none)
   none)
  none)
 (a16l0 x0 x1 x2 x3 x4 (3, [], [])))
set_option maxRecDepth 100000 in
set_option maxHeartbeats 4000000 in
theorem e16l0 (m : Nat) (x0 x1 : Nat) (x2 : Int) (x3 : List ByteArray) (x4 : List (List Int)) : evC Tryd.prog ext T3 noL 200 (loopN Tryd.f16 0) (loopTail ([0, 4, 5], []) [2, 3, 4] [1] (sumK 31 [0, 4, 5] [2, 3, 4] (q16l0 m))) (frameOf 31 [0, 4, 5] [rsl ⟨0, x0, some 0⟩ x1, wsl 1, .int .i64 x2]) ⟨[⟨true, (some (.strs x3))⟩, ⟨true, (some (.tab [.fl .f32] x4))⟩], 2, []⟩ = firstT ([((Nat.beq ((r16l0 (m + 1) x0 x1 x2 x3 x4).1) 0), .ret, [wsl 2, .bool false, wsl 1], ⟨[⟨true, (some (.strs x3))⟩, ⟨true, (some (.tab [.fl .f32] x4))⟩, ⟨true, (some (.tab [.fl .f32] ([] : List (List Int))))⟩], 2, [1]⟩), ((Nat.beq ((r16l0 (m + 1) x0 x1 x2 x3 x4).1) 1), .ret, [wsl 2, .bool false, wsl 3], ⟨[⟨true, (some (.strs x3))⟩, ⟨true, none⟩, ⟨true, (some (.tab [.fl .f32] ([] : List (List Int))))⟩, ⟨true, (some (.tab [.fl .f32] ((r16l0 (m + 1) x0 x1 x2 x3 x4).2.1)))⟩], 2, [1]⟩), ((Nat.beq ((r16l0 (m + 1) x0 x1 x2 x3 x4).1) 2), .exit 0, [anyV, anyV, wsl 2], ⟨[⟨true, (some (.strs x3))⟩, ⟨true, none⟩, ⟨true, (some (.tab [.fl .f32] ((r16l0 (m + 1) x0 x1 x2 x3 x4).2.2)))⟩], 2, [1]⟩), ((Nat.beq ((r16l0 (m + 1) x0 x1 x2 x3 x4).1) 3), .exit 0, [anyV, anyV, wsl 1], ⟨[⟨true, (some (.strs x3))⟩, ⟨true, (some (.tab [.fl .f32] x4))⟩], 2, [1]⟩)].map fun (b, x) => (b, (x.1, frameOf 31 [2, 3, 4] x.2.1, x.2.2))) :=
 (show evC Tryd.prog ext T3 noL 200 (loopN Tryd.f16 0) (loopTail ([0, 4, 5], []) [2, 3, 4] [1] (sumK 31 [0, 4, 5] [2, 3, 4] (q16l0 m))) (frameOf 31 [0, 4, 5] [rsl ⟨0, x0, some 0⟩ x1, wsl 1, .int .i64 x2]) ⟨[⟨true, (some (.strs x3))⟩, ⟨true, (some (.tab [.fl .f32] x4))⟩], 2, []⟩ = w16l0 (r16l0 m) x0 x1 x2 x3 x4 from by kernel_rfl).trans
 (show w16l0 (r16l0 m) x0 x1 x2 x3 x4 = a16l0 x0 x1 x2 x3 x4 (r16l0 (m + 1) x0 x1 x2 x3 x4) from by unfold w16l0; show _ = a16l0 x0 x1 x2 x3 x4 (b16l0 (r16l0 m) x0 x1 x2 x3 x4); unfold b16l0; exact (cond_app (a16l0 x0 x1 x2 x3 x4) _ (cond_app (a16l0 x0 x1 x2 x3 x4) _ (cond_app (a16l0 x0 x1 x2 x3 x4) _ (cond_app (a16l0 x0 x1 x2 x3 x4) _ (cond_app (a16l0 x0 x1 x2 x3 x4) _ rfl (cond_app (a16l0 x0 x1 x2 x3 x4) _ (cond_app (a16l0 x0 x1 x2 x3 x4) _ rfl (cond_app (a16l0 x0 x1 x2 x3 x4) _ rfl (cond_app (a16l0 x0 x1 x2 x3 x4) _ rfl (cond_app (a16l0 x0 x1 x2 x3 x4) _ rfl rfl)))) rfl)) rfl) rfl) rfl) rfl))
set_option maxRecDepth 100000 in
set_option maxHeartbeats 4000000 in
theorem qm16l0 : ∀ m, SumKOk Tryd.prog (loopN Tryd.f16 0) 31 [0, 4, 5] [2, 3, 4] (q16l0 m) := by
  intro m
  induction m with
  | zero =>
    intro vals s x h1 h2 h3
    unfold q16l0 at h3; split at h3
    · rename_i h; split at h3
      · rename_i hc; obtain ⟨rfl, rfl, rfl⟩ := hc; exact absurd h3 (by simp [r16l0, firstT, Nat.beq])
      · exact noQ_ok _ _ _ h1 h2 h3
    · exact noQ_ok _ _ _ h1 h2 h3
  | succ m ih =>
    intro vals s x h1 h2 h3
    unfold q16l0 at h3; split at h3
    · rename_i h; split at h3
      · rename_i hc; obtain ⟨rfl, rfl, rfl⟩ := hc; exact sum_step ok3 extOk mixed ((lfOkF_no _ _).inner (by kernel_rfl)) ih h1 h2 h (e16l0 m _ _ _ _ _) rfl h3
      · exact noQ_ok _ _ _ h1 h2 h3
    · exact noQ_ok _ _ _ h1 h2 h3
noncomputable def Q16l0 : SumK := fun vals s => q16l0 (fuelOf vals s.h) vals s
theorem qok16l0 : SumKOk Tryd.prog (loopN Tryd.f16 0) 31 [0, 4, 5] [2, 3, 4] Q16l0 := fuel_ok qm16l0 fuelOf
noncomputable def L16_1 : LoopT := addL noL 4 ([0, 4, 5], []) (sumK 31 [0, 4, 5] [2, 3, 4] Q16l0)
theorem lok16_1 : LfOkF Tryd.prog L16_1 Tryd.f16 := lfOkF_add (lfOkF_no _ _) qok16l0 (by kernel_rfl) (by kernel_rfl) (by kernel_rfl)

/-- spec.l01Numbers -/
noncomputable def r16 (x0 x1 : Nat) (x2 : List ByteArray) : Nat × Bool × List (List Int) :=
 cond (Nat.beq ((r16l0 (1000 + 0 + x2.length) x0 x1 0 x2 ([] : List (List Int))).1) 0)
  (0, false, ([] : List (List Int)))
  (cond (Nat.beq ((r16l0 (1000 + 0 + x2.length) x0 x1 0 x2 ([] : List (List Int))).1) 1)
   (0, false, ([] : List (List Int)))
   (cond (Nat.beq ((r16l0 (1000 + 0 + x2.length) x0 x1 0 x2 ([] : List (List Int))).1) 2)
    (0, true, ((r16l0 (1000 + 0 + x2.length) x0 x1 0 x2 ([] : List (List Int))).2.2))
    (cond (Nat.beq ((r16l0 (1000 + 0 + x2.length) x0 x1 0 x2 ([] : List (List Int))).1) 3)
     (0, true, ([] : List (List Int)))
     (1, false, []))))
noncomputable def a16 (x0 x1 : Nat) (x2 : List ByteArray) (p : Nat × Bool × List (List Int)) : Res := firstT [((Nat.beq (p.1) 0), .tuple #[wsl 1, .bool (p.2.1)], ⟨[⟨true, (some (.strs x2))⟩, ⟨true, (some (.tab [.fl .f32] (p.2.2)))⟩], 1, []⟩)]
noncomputable def w16 (x0 x1 : Nat) (x2 : List ByteArray) : Res :=
 (cond (Nat.beq ((r16l0 (1000 + 0 + x2.length) x0 x1 0 x2 ([] : List (List Int))).1) 0)
 (a16 x0 x1 x2 (0, false, ([] : List (List Int))))
 (cond (Nat.beq ((r16l0 (1000 + 0 + x2.length) x0 x1 0 x2 ([] : List (List Int))).1) 1)
  (a16 x0 x1 x2 (0, false, ([] : List (List Int))))
  (cond (Nat.beq ((r16l0 (1000 + 0 + x2.length) x0 x1 0 x2 ([] : List (List Int))).1) 2)
   (a16 x0 x1 x2 (0, true, ((r16l0 (1000 + 0 + x2.length) x0 x1 0 x2 ([] : List (List Int))).2.2)))
   (cond (Nat.beq ((r16l0 (1000 + 0 + x2.length) x0 x1 0 x2 ([] : List (List Int))).1) 3)
    (a16 x0 x1 x2 (0, true, ([] : List (List Int))))
    none))))
set_option maxRecDepth 100000 in
set_option maxHeartbeats 4000000 in
theorem e16 (x0 x1 : Nat) (x2 : List ByteArray) : evFn Tryd.prog ext T3 L16_1 200 Tryd.f16 [rsl ⟨0, x0, some 0⟩ x1] ⟨[⟨true, (some (.strs x2))⟩], 1, []⟩ = firstT [((Nat.beq ((r16 x0 x1 x2).1) 0), .tuple #[wsl 1, .bool ((r16 x0 x1 x2).2.1)], ⟨[⟨true, (some (.strs x2))⟩, ⟨true, (some (.tab [.fl .f32] ((r16 x0 x1 x2).2.2)))⟩], 1, []⟩)] :=
 (show evFn Tryd.prog ext T3 L16_1 200 Tryd.f16 [rsl ⟨0, x0, some 0⟩ x1] ⟨[⟨true, (some (.strs x2))⟩], 1, []⟩ = w16 x0 x1 x2 from by kernel_rfl).trans
 (show w16 x0 x1 x2 = a16 x0 x1 x2 (r16 x0 x1 x2) from by unfold w16 r16; exact (cond_app (a16 x0 x1 x2) _ rfl (cond_app (a16 x0 x1 x2) _ rfl (cond_app (a16 x0 x1 x2) _ rfl (cond_app (a16 x0 x1 x2) _ rfl rfl)))))
noncomputable def s16 (args : List Value) (s : St) : List (Bool × Value × St) :=
 match args, s.h with
 | [.iface x1 (.pointer (some ⟨f0, x0, some f1⟩))], [⟨true, some (.strs x2)⟩] => if f0 = 0 ∧ f1 = 0 then [((Nat.beq ((r16 x0 x1 x2).1) 0), .tuple #[wsl 1, .bool ((r16 x0 x1 x2).2.1)], ⟨[⟨true, (some (.strs x2))⟩, ⟨true, (some (.tab [.fl .f32] ((r16 x0 x1 x2).2.2)))⟩], 1, []⟩)] else T3 16 args s
 | _, _ => T3 16 args s
noncomputable def T4 : CallF := addF T3 16 s16
set_option maxRecDepth 100000 in
set_option maxHeartbeats 4000000 in
theorem ok4 : CfOk Tryd.prog T4 := by
  refine cfOk_add ok3 fun args s r s' h1 h2 h3 => ?_
  unfold s16 at h3; split at h3
  · rename_i h; split at h3
    · rename_i hc; obtain ⟨rfl, rfl⟩ := hc; exact callOk ok3 Tryd.func16 h1 h2 h lok16_1.body (e16 _ _ _) rfl h3
    · exact ok3 _ _ _ _ _ h1 h2 h3
  · exact ok3 _ _ _ _ _ h1 h2 h3

/-- spec.l01Finite -/
noncomputable def r38 (x0 : Nat) : Bool :=
 ((feq .f32 (fsub .f32 x0 x0) 0))
noncomputable def a38 (x0 : Nat) (p : Bool) : Res := firstT [(true, .bool p, st0)]
noncomputable def w38 (x0 : Nat) : Res :=
 (a38 x0 ((feq .f32 (fsub .f32 x0 x0) 0)))
set_option maxRecDepth 100000 in
set_option maxHeartbeats 4000000 in
theorem e38 (x0 : Nat) : evFn Tryd.prog ext T4 noL 200 Tryd.f38 [.float .f32 x0] st0 = firstT [(true, .bool (r38 x0), st0)] :=
 (show evFn Tryd.prog ext T4 noL 200 Tryd.f38 [.float .f32 x0] st0 = w38 x0 from by kernel_rfl).trans
 (show w38 x0 = a38 x0 (r38 x0) from by unfold w38 r38; exact rfl)
noncomputable def s38 (args : List Value) (s : St) : List (Bool × Value × St) :=
 match args, s.h with
 | [.float .f32 x0], [] => [(true, .bool (r38 x0), st0)]
 | _, _ => T4 38 args s
noncomputable def T5 : CallF := addF T4 38 s38
set_option maxRecDepth 100000 in
set_option maxHeartbeats 4000000 in
theorem ok5 : CfOk Tryd.prog T5 := by
  refine cfOk_add ok4 fun args s r s' h1 h2 h3 => ?_
  unfold s38 at h3; split at h3
  · rename_i h; exact callOk ok4 Tryd.func38 h1 h2 h (lfOkF_no _ _).body (e38 _) rfl h3
  · exact ok4 _ _ _ _ _ h1 h2 h3

/-- spec.l01Amount -/
noncomputable def r27 (x0 : Nat) : Bool :=
 cond (r38 x0)
  (cond (fgt .f32 x0 0)
   (true)
   (cond (!isN .f32 x0)
    (((((x0 : Nat) : Int) : Int) == 0))
    (false)))
  (false)
noncomputable def a27 (x0 : Nat) (p : Bool) : Res := firstT [(true, .bool p, st0)]
noncomputable def w27 (x0 : Nat) : Res :=
 (cond (r38 x0)
 (cond (fgt .f32 x0 0)
  (a27 x0 (true))
  (cond (!isN .f32 x0)
   (a27 x0 (((((x0 : Nat) : Int) : Int) == 0)))
   (a27 x0 (false))))
 (a27 x0 (false)))
set_option maxRecDepth 100000 in
set_option maxHeartbeats 4000000 in
theorem e27 (x0 : Nat) : evFn Tryd.prog ext T5 noL 200 Tryd.f27 [.float .f32 x0] st0 = firstT [(true, .bool (r27 x0), st0)] :=
 (show evFn Tryd.prog ext T5 noL 200 Tryd.f27 [.float .f32 x0] st0 = w27 x0 from by kernel_rfl).trans
 (show w27 x0 = a27 x0 (r27 x0) from by unfold w27 r27; exact (cond_app (a27 x0) _ (cond_app (a27 x0) _ rfl (cond_app (a27 x0) _ rfl rfl)) rfl))
noncomputable def s27 (args : List Value) (s : St) : List (Bool × Value × St) :=
 match args, s.h with
 | [.float .f32 x0], [] => [(true, .bool (r27 x0), st0)]
 | _, _ => T5 27 args s
noncomputable def T6 : CallF := addF T5 27 s27
set_option maxRecDepth 100000 in
set_option maxHeartbeats 4000000 in
theorem ok6 : CfOk Tryd.prog T6 := by
  refine cfOk_add ok5 fun args s r s' h1 h2 h3 => ?_
  unfold s27 at h3; split at h3
  · rename_i h; exact callOk ok5 Tryd.func27 h1 h2 h (lfOkF_no _ _).body (e27 _) rfl h3
  · exact ok5 _ _ _ _ _ h1 h2 h3

/-- spec.l01Ok -/
noncomputable def r17 (x0 x1 x2 x3 x4 x5 x6 x7 x8 x9 x10 x11 x12 x13 x14 x15 x16 x17 : Nat) : Bool :=
 cond (!(r27 x0))
  (false)
  (cond (fgt .f32 x0 1092616192)
   (false)
   (cond (!(r27 x12))
    (false)
    (cond (fgt .f32 x12 1092616192)
     (false)
     (cond (fgt .f32 x6 3262119936 || feq .f32 x6 3262119936)
      (cond (!(flt .f32 x6 1153138688 || feq .f32 x6 1153138688))
       (false)
       (cond (!(r27 x1))
        (false)
        (cond (fgt .f32 x1 1092616192)
         (false)
         (cond (!(r27 x13))
          (false)
          (cond (fgt .f32 x13 1092616192)
           (false)
           (cond (fgt .f32 x7 3262119936 || feq .f32 x7 3262119936)
            (cond (!(flt .f32 x7 1153138688 || feq .f32 x7 1153138688))
             (false)
             (cond (!(r27 x2))
              (false)
              (cond (fgt .f32 x2 1092616192)
               (false)
               (cond (!(r27 x14))
                (false)
                (cond (fgt .f32 x14 1092616192)
                 (false)
                 (cond (fgt .f32 x8 3262119936 || feq .f32 x8 3262119936)
                  (cond (!(flt .f32 x8 1153138688 || feq .f32 x8 1153138688))
                   (false)
                   (cond (!(r27 x3))
                    (false)
                    (cond (fgt .f32 x3 1092616192)
                     (false)
                     (cond (!(r27 x15))
                      (false)
                      (cond (fgt .f32 x15 1092616192)
                       (false)
                       (cond (fgt .f32 x9 3262119936 || feq .f32 x9 3262119936)
                        (cond (!(flt .f32 x9 1153138688 || feq .f32 x9 1153138688))
                         (false)
                         (cond (!(r27 x4))
                          (false)
                          (cond (fgt .f32 x4 1092616192)
                           (false)
                           (cond (!(r27 x16))
                            (false)
                            (cond (fgt .f32 x16 1092616192)
                             (false)
                             (cond (fgt .f32 x10 3262119936 || feq .f32 x10 3262119936)
                              (cond (!(flt .f32 x10 1153138688 || feq .f32 x10 1153138688))
                               (false)
                               (cond (!(r27 x5))
                                (false)
                                (cond (fgt .f32 x5 1092616192)
                                 (false)
                                 (cond (!(r27 x17))
                                  (false)
                                  (cond (fgt .f32 x17 1092616192)
                                   (false)
                                   (cond (fgt .f32 x11 3262119936 || feq .f32 x11 3262119936)
                                    (cond (!(flt .f32 x11 1153138688 || feq .f32 x11 1153138688))
                                     (false)
                                     (true))
                                    (false)))))))
                              (false)))))))
                        (false)))))))
                  (false)))))))
            (false)))))))
      (false)))))
noncomputable def a17 (x0 x1 x2 x3 x4 x5 x6 x7 x8 x9 x10 x11 x12 x13 x14 x15 x16 x17 : Nat) (p : Bool) : Res := firstT [(true, .bool p, ⟨[⟨true, (some (.cells [.float .f32 x0, .float .f32 x1, .float .f32 x2, .float .f32 x3, .float .f32 x4, .float .f32 x5, .float .f32 x6, .float .f32 x7, .float .f32 x8, .float .f32 x9, .float .f32 x10, .float .f32 x11, .float .f32 x12, .float .f32 x13, .float .f32 x14, .float .f32 x15, .float .f32 x16, .float .f32 x17]))⟩], 1, []⟩)]
noncomputable def w17 (x0 x1 x2 x3 x4 x5 x6 x7 x8 x9 x10 x11 x12 x13 x14 x15 x16 x17 : Nat) : Res :=
 (cond (!(r27 x0))
 (a17 x0 x1 x2 x3 x4 x5 x6 x7 x8 x9 x10 x11 x12 x13 x14 x15 x16 x17 (false))
 (cond (fgt .f32 x0 1092616192)
  (a17 x0 x1 x2 x3 x4 x5 x6 x7 x8 x9 x10 x11 x12 x13 x14 x15 x16 x17 (false))
  (cond (!(r27 x12))
   (a17 x0 x1 x2 x3 x4 x5 x6 x7 x8 x9 x10 x11 x12 x13 x14 x15 x16 x17 (false))
   (cond (fgt .f32 x12 1092616192)
    (a17 x0 x1 x2 x3 x4 x5 x6 x7 x8 x9 x10 x11 x12 x13 x14 x15 x16 x17 (false))
    (cond (fgt .f32 x6 3262119936 || feq .f32 x6 3262119936)
     (cond (!(flt .f32 x6 1153138688 || feq .f32 x6 1153138688))
      (a17 x0 x1 x2 x3 x4 x5 x6 x7 x8 x9 x10 x11 x12 x13 x14 x15 x16 x17 (false))
      (cond (!(r27 x1))
       (a17 x0 x1 x2 x3 x4 x5 x6 x7 x8 x9 x10 x11 x12 x13 x14 x15 x16 x17 (false))
       (cond (fgt .f32 x1 1092616192)
        (a17 x0 x1 x2 x3 x4 x5 x6 x7 x8 x9 x10 x11 x12 x13 x14 x15 x16 x17 (false))
        (cond (!(r27 x13))
         (a17 x0 x1 x2 x3 x4 x5 x6 x7 x8 x9 x10 x11 x12 x13 x14 x15 x16 x17 (false))
         (cond (fgt .f32 x13 1092616192)
          (a17 x0 x1 x2 x3 x4 x5 x6 x7 x8 x9 x10 x11 x12 x13 x14 x15 x16 x17 (false))
          (cond (fgt .f32 x7 3262119936 || feq .f32 x7 3262119936)
           (cond (!(flt .f32 x7 1153138688 || feq .f32 x7 1153138688))
            (a17 x0 x1 x2 x3 x4 x5 x6 x7 x8 x9 x10 x11 x12 x13 x14 x15 x16 x17 (false))
            (cond (!(r27 x2))
             (a17 x0 x1 x2 x3 x4 x5 x6 x7 x8 x9 x10 x11 x12 x13 x14 x15 x16 x17 (false))
             (cond (fgt .f32 x2 1092616192)
              (a17 x0 x1 x2 x3 x4 x5 x6 x7 x8 x9 x10 x11 x12 x13 x14 x15 x16 x17 (false))
              (cond (!(r27 x14))
               (a17 x0 x1 x2 x3 x4 x5 x6 x7 x8 x9 x10 x11 x12 x13 x14 x15 x16 x17 (false))
               (cond (fgt .f32 x14 1092616192)
                (a17 x0 x1 x2 x3 x4 x5 x6 x7 x8 x9 x10 x11 x12 x13 x14 x15 x16 x17 (false))
                (cond (fgt .f32 x8 3262119936 || feq .f32 x8 3262119936)
                 (cond (!(flt .f32 x8 1153138688 || feq .f32 x8 1153138688))
                  (a17 x0 x1 x2 x3 x4 x5 x6 x7 x8 x9 x10 x11 x12 x13 x14 x15 x16 x17 (false))
                  (cond (!(r27 x3))
                   (a17 x0 x1 x2 x3 x4 x5 x6 x7 x8 x9 x10 x11 x12 x13 x14 x15 x16 x17 (false))
                   (cond (fgt .f32 x3 1092616192)
                    (a17 x0 x1 x2 x3 x4 x5 x6 x7 x8 x9 x10 x11 x12 x13 x14 x15 x16 x17 (false))
                    (cond (!(r27 x15))
                     (a17 x0 x1 x2 x3 x4 x5 x6 x7 x8 x9 x10 x11 x12 x13 x14 x15 x16 x17 (false))
                     (cond (fgt .f32 x15 1092616192)
                      (a17 x0 x1 x2 x3 x4 x5 x6 x7 x8 x9 x10 x11 x12 x13 x14 x15 x16 x17 (false))
                      (cond (fgt .f32 x9 3262119936 || feq .f32 x9 3262119936)
                       (cond (!(flt .f32 x9 1153138688 || feq .f32 x9 1153138688))
                        (a17 x0 x1 x2 x3 x4 x5 x6 x7 x8 x9 x10 x11 x12 x13 x14 x15 x16 x17 (false))
                        (cond (!(r27 x4))
                         (a17 x0 x1 x2 x3 x4 x5 x6 x7 x8 x9 x10 x11 x12 x13 x14 x15 x16 x17 (false))
                         (cond (fgt .f32 x4 1092616192)
                          (a17 x0 x1 x2 x3 x4 x5 x6 x7 x8 x9 x10 x11 x12 x13 x14 x15 x16 x17 (false))
                          (cond (!(r27 x16))
                           (a17 x0 x1 x2 x3 x4 x5 x6 x7 x8 x9 x10 x11 x12 x13 x14 x15 x16 x17 (false))
                           (cond (fgt .f32 x16 1092616192)
                            (a17 x0 x1 x2 x3 x4 x5 x6 x7 x8 x9 x10 x11 x12 x13 x14 x15 x16 x17 (false))
                            (cond (fgt .f32 x10 3262119936 || feq .f32 x10 3262119936)
                             (cond (!(flt .f32 x10 1153138688 || feq .f32 x10 1153138688))
                              (a17 x0 x1 x2 x3 x4 x5 x6 x7 x8 x9 x10 x11 x12 x13 x14 x15 x16 x17 (false))
                              (cond (!(r27 x5))
                               (a17 x0 x1 x2 x3 x4 x5 x6 x7 x8 x9 x10 x11 x12 x13 x14 x15 x16 x17 (false))
                               (cond (fgt .f32 x5 1092616192)
                                (a17 x0 x1 x2 x3 x4 x5 x6 x7 x8 x9 x10 x11 x12 x13 x14 x15 x16 x17 (false))
                                (cond (!(r27 x17))
                                 (a17 x0 x1 x2 x3 x4 x5 x6 x7 x8 x9 x10 x11 x12 x13 x14 x15 x16 x17 (false))
                                 (cond (fgt .f32 x17 1092616192)
                                  (a17 x0 x1 x2 x3 x4 x5 x6 x7 x8 x9 x10 x11 x12 x13 x14 x15 x16 x17 (false))
                                  (cond (fgt .f32 x11 3262119936 || feq .f32 x11 3262119936)
                                   (cond (!(flt .f32 x11 1153138688 || feq .f32 x11 1153138688))
                                    (a17 x0 x1 x2 x3 x4 x5 x6 x7 x8 x9 x10 x11 x12 x13 x14 x15 x16 x17 (false))
                                    (a17 x0 x1 x2 x3 x4 x5 x6 x7 x8 x9 x10 x11 x12 x13 x14 x15 x16 x17 (true)))
                                   (a17 x0 x1 x2 x3 x4 x5 x6 x7 x8 x9 x10 x11 x12 x13 x14 x15 x16 x17 (false))))))))
                             (a17 x0 x1 x2 x3 x4 x5 x6 x7 x8 x9 x10 x11 x12 x13 x14 x15 x16 x17 (false))))))))
                       (a17 x0 x1 x2 x3 x4 x5 x6 x7 x8 x9 x10 x11 x12 x13 x14 x15 x16 x17 (false))))))))
                 (a17 x0 x1 x2 x3 x4 x5 x6 x7 x8 x9 x10 x11 x12 x13 x14 x15 x16 x17 (false))))))))
           (a17 x0 x1 x2 x3 x4 x5 x6 x7 x8 x9 x10 x11 x12 x13 x14 x15 x16 x17 (false))))))))
     (a17 x0 x1 x2 x3 x4 x5 x6 x7 x8 x9 x10 x11 x12 x13 x14 x15 x16 x17 (false)))))))
set_option maxRecDepth 100000 in
set_option maxHeartbeats 4000000 in
theorem e17 (x0 x1 x2 x3 x4 x5 x6 x7 x8 x9 x10 x11 x12 x13 x14 x15 x16 x17 : Nat) : evFn Tryd.prog ext T6 noL 200 Tryd.f17 [.pointer (some ⟨0, 0, some 0⟩)] ⟨[⟨true, (some (.cells [.float .f32 x0, .float .f32 x1, .float .f32 x2, .float .f32 x3, .float .f32 x4, .float .f32 x5, .float .f32 x6, .float .f32 x7, .float .f32 x8, .float .f32 x9, .float .f32 x10, .float .f32 x11, .float .f32 x12, .float .f32 x13, .float .f32 x14, .float .f32 x15, .float .f32 x16, .float .f32 x17]))⟩], 1, []⟩ = firstT [(true, .bool (r17 x0 x1 x2 x3 x4 x5 x6 x7 x8 x9 x10 x11 x12 x13 x14 x15 x16 x17), ⟨[⟨true, (some (.cells [.float .f32 x0, .float .f32 x1, .float .f32 x2, .float .f32 x3, .float .f32 x4, .float .f32 x5, .float .f32 x6, .float .f32 x7, .float .f32 x8, .float .f32 x9, .float .f32 x10, .float .f32 x11, .float .f32 x12, .float .f32 x13, .float .f32 x14, .float .f32 x15, .float .f32 x16, .float .f32 x17]))⟩], 1, []⟩)] :=
 (show evFn Tryd.prog ext T6 noL 200 Tryd.f17 [.pointer (some ⟨0, 0, some 0⟩)] ⟨[⟨true, (some (.cells [.float .f32 x0, .float .f32 x1, .float .f32 x2, .float .f32 x3, .float .f32 x4, .float .f32 x5, .float .f32 x6, .float .f32 x7, .float .f32 x8, .float .f32 x9, .float .f32 x10, .float .f32 x11, .float .f32 x12, .float .f32 x13, .float .f32 x14, .float .f32 x15, .float .f32 x16, .float .f32 x17]))⟩], 1, []⟩ = w17 x0 x1 x2 x3 x4 x5 x6 x7 x8 x9 x10 x11 x12 x13 x14 x15 x16 x17 from by kernel_rfl).trans
 (show w17 x0 x1 x2 x3 x4 x5 x6 x7 x8 x9 x10 x11 x12 x13 x14 x15 x16 x17 = a17 x0 x1 x2 x3 x4 x5 x6 x7 x8 x9 x10 x11 x12 x13 x14 x15 x16 x17 (r17 x0 x1 x2 x3 x4 x5 x6 x7 x8 x9 x10 x11 x12 x13 x14 x15 x16 x17) from by unfold w17 r17; exact (cond_app (a17 x0 x1 x2 x3 x4 x5 x6 x7 x8 x9 x10 x11 x12 x13 x14 x15 x16 x17) _ rfl (cond_app (a17 x0 x1 x2 x3 x4 x5 x6 x7 x8 x9 x10 x11 x12 x13 x14 x15 x16 x17) _ rfl (cond_app (a17 x0 x1 x2 x3 x4 x5 x6 x7 x8 x9 x10 x11 x12 x13 x14 x15 x16 x17) _ rfl (cond_app (a17 x0 x1 x2 x3 x4 x5 x6 x7 x8 x9 x10 x11 x12 x13 x14 x15 x16 x17) _ rfl (cond_app (a17 x0 x1 x2 x3 x4 x5 x6 x7 x8 x9 x10 x11 x12 x13 x14 x15 x16 x17) _ (cond_app (a17 x0 x1 x2 x3 x4 x5 x6 x7 x8 x9 x10 x11 x12 x13 x14 x15 x16 x17) _ rfl (cond_app (a17 x0 x1 x2 x3 x4 x5 x6 x7 x8 x9 x10 x11 x12 x13 x14 x15 x16 x17) _ rfl (cond_app (a17 x0 x1 x2 x3 x4 x5 x6 x7 x8 x9 x10 x11 x12 x13 x14 x15 x16 x17) _ rfl (cond_app (a17 x0 x1 x2 x3 x4 x5 x6 x7 x8 x9 x10 x11 x12 x13 x14 x15 x16 x17) _ rfl (cond_app (a17 x0 x1 x2 x3 x4 x5 x6 x7 x8 x9 x10 x11 x12 x13 x14 x15 x16 x17) _ rfl (cond_app (a17 x0 x1 x2 x3 x4 x5 x6 x7 x8 x9 x10 x11 x12 x13 x14 x15 x16 x17) _ (cond_app (a17 x0 x1 x2 x3 x4 x5 x6 x7 x8 x9 x10 x11 x12 x13 x14 x15 x16 x17) _ rfl (cond_app (a17 x0 x1 x2 x3 x4 x5 x6 x7 x8 x9 x10 x11 x12 x13 x14 x15 x16 x17) _ rfl (cond_app (a17 x0 x1 x2 x3 x4 x5 x6 x7 x8 x9 x10 x11 x12 x13 x14 x15 x16 x17) _ rfl (cond_app (a17 x0 x1 x2 x3 x4 x5 x6 x7 x8 x9 x10 x11 x12 x13 x14 x15 x16 x17) _ rfl (cond_app (a17 x0 x1 x2 x3 x4 x5 x6 x7 x8 x9 x10 x11 x12 x13 x14 x15 x16 x17) _ rfl (cond_app (a17 x0 x1 x2 x3 x4 x5 x6 x7 x8 x9 x10 x11 x12 x13 x14 x15 x16 x17) _ (cond_app (a17 x0 x1 x2 x3 x4 x5 x6 x7 x8 x9 x10 x11 x12 x13 x14 x15 x16 x17) _ rfl (cond_app (a17 x0 x1 x2 x3 x4 x5 x6 x7 x8 x9 x10 x11 x12 x13 x14 x15 x16 x17) _ rfl (cond_app (a17 x0 x1 x2 x3 x4 x5 x6 x7 x8 x9 x10 x11 x12 x13 x14 x15 x16 x17) _ rfl (cond_app (a17 x0 x1 x2 x3 x4 x5 x6 x7 x8 x9 x10 x11 x12 x13 x14 x15 x16 x17) _ rfl (cond_app (a17 x0 x1 x2 x3 x4 x5 x6 x7 x8 x9 x10 x11 x12 x13 x14 x15 x16 x17) _ rfl (cond_app (a17 x0 x1 x2 x3 x4 x5 x6 x7 x8 x9 x10 x11 x12 x13 x14 x15 x16 x17) _ (cond_app (a17 x0 x1 x2 x3 x4 x5 x6 x7 x8 x9 x10 x11 x12 x13 x14 x15 x16 x17) _ rfl (cond_app (a17 x0 x1 x2 x3 x4 x5 x6 x7 x8 x9 x10 x11 x12 x13 x14 x15 x16 x17) _ rfl (cond_app (a17 x0 x1 x2 x3 x4 x5 x6 x7 x8 x9 x10 x11 x12 x13 x14 x15 x16 x17) _ rfl (cond_app (a17 x0 x1 x2 x3 x4 x5 x6 x7 x8 x9 x10 x11 x12 x13 x14 x15 x16 x17) _ rfl (cond_app (a17 x0 x1 x2 x3 x4 x5 x6 x7 x8 x9 x10 x11 x12 x13 x14 x15 x16 x17) _ rfl (cond_app (a17 x0 x1 x2 x3 x4 x5 x6 x7 x8 x9 x10 x11 x12 x13 x14 x15 x16 x17) _ (cond_app (a17 x0 x1 x2 x3 x4 x5 x6 x7 x8 x9 x10 x11 x12 x13 x14 x15 x16 x17) _ rfl (cond_app (a17 x0 x1 x2 x3 x4 x5 x6 x7 x8 x9 x10 x11 x12 x13 x14 x15 x16 x17) _ rfl (cond_app (a17 x0 x1 x2 x3 x4 x5 x6 x7 x8 x9 x10 x11 x12 x13 x14 x15 x16 x17) _ rfl (cond_app (a17 x0 x1 x2 x3 x4 x5 x6 x7 x8 x9 x10 x11 x12 x13 x14 x15 x16 x17) _ rfl (cond_app (a17 x0 x1 x2 x3 x4 x5 x6 x7 x8 x9 x10 x11 x12 x13 x14 x15 x16 x17) _ rfl (cond_app (a17 x0 x1 x2 x3 x4 x5 x6 x7 x8 x9 x10 x11 x12 x13 x14 x15 x16 x17) _ (cond_app (a17 x0 x1 x2 x3 x4 x5 x6 x7 x8 x9 x10 x11 x12 x13 x14 x15 x16 x17) _ rfl rfl) rfl)))))) rfl)))))) rfl)))))) rfl)))))) rfl)))))) rfl))))))
noncomputable def s17 (args : List Value) (s : St) : List (Bool × Value × St) :=
 match args, s.h with
 | [.pointer (some ⟨f0, f1, some f2⟩)], [⟨true, some (.cells [.float .f32 x0, .float .f32 x1, .float .f32 x2, .float .f32 x3, .float .f32 x4, .float .f32 x5, .float .f32 x6, .float .f32 x7, .float .f32 x8, .float .f32 x9, .float .f32 x10, .float .f32 x11, .float .f32 x12, .float .f32 x13, .float .f32 x14, .float .f32 x15, .float .f32 x16, .float .f32 x17])⟩] => if f0 = 0 ∧ f1 = 0 ∧ f2 = 0 then [(true, .bool (r17 x0 x1 x2 x3 x4 x5 x6 x7 x8 x9 x10 x11 x12 x13 x14 x15 x16 x17), ⟨[⟨true, (some (.cells [.float .f32 x0, .float .f32 x1, .float .f32 x2, .float .f32 x3, .float .f32 x4, .float .f32 x5, .float .f32 x6, .float .f32 x7, .float .f32 x8, .float .f32 x9, .float .f32 x10, .float .f32 x11, .float .f32 x12, .float .f32 x13, .float .f32 x14, .float .f32 x15, .float .f32 x16, .float .f32 x17]))⟩], 1, []⟩)] else T6 17 args s
 | _, _ => T6 17 args s
noncomputable def T7 : CallF := addF T6 17 s17
set_option maxRecDepth 100000 in
set_option maxHeartbeats 4000000 in
theorem ok7 : CfOk Tryd.prog T7 := by
  refine cfOk_add ok6 fun args s r s' h1 h2 h3 => ?_
  unfold s17 at h3; split at h3
  · rename_i h; split at h3
    · rename_i hc; obtain ⟨rfl, rfl, rfl⟩ := hc; exact callOk ok6 Tryd.func17 h1 h2 h (lfOkF_no _ _).body (e17 _ _ _ _ _ _ _ _ _ _ _ _ _ _ _ _ _ _) rfl h3
    · exact ok6 _ _ _ _ _ h1 h2 h3
  · exact ok6 _ _ _ _ _ h1 h2 h3
end Go.Proofs.YtbmagccjcccnaaaDoor
