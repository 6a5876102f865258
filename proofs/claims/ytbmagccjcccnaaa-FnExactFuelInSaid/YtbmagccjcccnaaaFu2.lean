/- What the functions that the statements reach answer, part 2. -/
import Derived.Test.YtbmagccjcccnaaaFu1
namespace Go.Proofs.Ytbmagccjcccnaaa
open Go.Ab

/-- impl.ValidStove, loop 0: one round -/
def b64l0 (ih : Int → Int → Nat → Nat → Int → Int → Nat → List (List Int) → Nat) (x0 x1 : Int) (x2 x3 : Nat) (x4 x5 : Int) (x6 : Nat) (x7 : List (List Int)) : Nat :=
 let c34 := (r38 (Int.toNat ((x7.getD (Int.toNat x1) []).getD 0 0)) (Int.toNat ((x7.getD (Int.toNat x1) []).getD 1 0)) (Int.toNat ((x7.getD (Int.toNat x1) []).getD 2 0)) (Int.toNat ((x7.getD (Int.toNat x1) []).getD 3 0)) (Int.toNat ((x7.getD (Int.toNat x1) []).getD 4 0)) (Int.toNat ((x7.getD (Int.toNat x1) []).getD 5 0)) (Int.toNat ((x7.getD (Int.toNat x1) []).getD 6 0)) (Int.toNat ((x7.getD (Int.toNat x1) []).getD 7 0)) (Int.toNat ((x7.getD (Int.toNat x1) []).getD 8 0)) (Int.toNat ((x7.getD (Int.toNat x1) []).getD 9 0)) (Int.toNat ((x7.getD (Int.toNat x1) []).getD 10 0)) (Int.toNat ((x7.getD (Int.toNat x1) []).getD 11 0)) (Int.toNat ((x7.getD (Int.toNat x1) []).getD 12 0)) (Int.toNat ((x7.getD (Int.toNat x1) []).getD 13 0)) (Int.toNat ((x7.getD (Int.toNat x1) []).getD 14 0)) (Int.toNat ((x7.getD (Int.toNat x1) []).getD 15 0)) (Int.toNat ((x7.getD (Int.toNat x1) []).getD 16 0)) (Int.toNat ((x7.getD (Int.toNat x1) []).getD 17 0)))
 cond (decide ((x1 : Int) < x0))
  (cond ((decide ((0 : Int) ≤ x1)) && (Nat.blt (Int.toNat x1) x7.length))
   (cond (!c34)
    (0)
    (ih x0 (IntKind.i64.wrap (x1 + 1)) x2 x3 x4 x5 x6 x7))
   (2))
  (1)
def r64l0 : Nat → Int → Int → Nat → Nat → Int → Int → Nat → List (List Int) → Nat
 | 0, _, _, _, _, _, _, _, _ => (2)
 | m + 1, x0, x1, x2, x3, x4, x5, x6, x7 => b64l0 (r64l0 m) x0 x1 x2 x3 x4 x5 x6 x7
def a64l0 (x0 x1 : Int) (x2 x3 : Nat) (x4 x5 : Int) (x6 : Nat) (x7 : List (List Int)) (p : Nat) : Option (Fin' × List Value × St) := firstT ([((Nat.beq p 0), .ret, [.pointer (some ⟨0, 0, some 0⟩), .bool false], ⟨[⟨true, (some (.cells [wsl 1, .float .f32 x2, .float .f32 x3, .int .i8 x4, .int .i64 x5, .float .f32 x6]))⟩, ⟨true, (some (.tab sc0 x7))⟩], 2, false⟩), ((Nat.beq p 1), .exit 0, [.pointer (some ⟨0, 0, some 0⟩), anyV], ⟨[⟨true, (some (.cells [wsl 1, .float .f32 x2, .float .f32 x3, .int .i8 x4, .int .i64 x5, .float .f32 x6]))⟩, ⟨true, (some (.tab sc0 x7))⟩], 2, false⟩)].map fun (b, x) => (b, (x.1, frameOf 58 [1, 2] x.2.1, x.2.2)))
theorem v64l0 (x0 x1 : Int) (x2 x3 : Nat) (x4 x5 : Int) (x6 : Nat) (x7 : List (List Int)) (p : Nat) : alts ([((Nat.beq p 0), .ret, [.pointer (some ⟨0, 0, some 0⟩), .bool false], ⟨[⟨true, (some (.cells [wsl 1, .float .f32 x2, .float .f32 x3, .int .i8 x4, .int .i64 x5, .float .f32 x6]))⟩, ⟨true, (some (.tab sc0 x7))⟩], 2, false⟩), ((Nat.beq p 1), .exit 0, [.pointer (some ⟨0, 0, some 0⟩), anyV], ⟨[⟨true, (some (.cells [wsl 1, .float .f32 x2, .float .f32 x3, .int .i8 x4, .int .i64 x5, .float .f32 x6]))⟩, ⟨true, (some (.tab sc0 x7))⟩], 2, false⟩)].map fun (b, x) => (b, (x.1, frameOf 58 [1, 2] x.2.1, x.2.2))) some = a64l0 x0 x1 x2 x3 x4 x5 x6 x7 p := alts_first _
def q64l0 (m : Nat) : SumK := fun vals s =>
 match vals, s.h with
 | [.pointer (some ⟨f0, f1, some f2⟩), .iface f3 .nilIface, .int .i64 x0, .int .i64 x1], [⟨true, some (.cells [.iface f4 .nilIface, .float .f32 x2, .float .f32 x3, .int .i8 x4, .int .i64 x5, .float .f32 x6])⟩, ⟨true, some (.tab [.fl .f32, .fl .f32, .fl .f32, .fl .f32, .fl .f32, .fl .f32, .fl .f32, .fl .f32, .fl .f32, .fl .f32, .fl .f32, .fl .f32, .fl .f32, .fl .f32, .fl .f32, .fl .f32, .fl .f32, .fl .f32] x7)⟩] => if f0 = 0 ∧ f1 = 0 ∧ f2 = 0 ∧ f3 = 1 ∧ f4 = 1 then [((Nat.beq (r64l0 m x0 x1 x2 x3 x4 x5 x6 x7) 0), .ret, [.pointer (some ⟨0, 0, some 0⟩), .bool false], ⟨[⟨true, (some (.cells [wsl 1, .float .f32 x2, .float .f32 x3, .int .i8 x4, .int .i64 x5, .float .f32 x6]))⟩, ⟨true, (some (.tab sc0 x7))⟩], 2, false⟩), ((Nat.beq (r64l0 m x0 x1 x2 x3 x4 x5 x6 x7) 1), .exit 0, [.pointer (some ⟨0, 0, some 0⟩), anyV], ⟨[⟨true, (some (.cells [wsl 1, .float .f32 x2, .float .f32 x3, .int .i8 x4, .int .i64 x5, .float .f32 x6]))⟩, ⟨true, (some (.tab sc0 x7))⟩], 2, false⟩)] else noQ vals s
 | _, _ => noQ vals s
def t64l0 (ih : Int → Int → Nat → Nat → Int → Int → Nat → List (List Int) → Nat) (x0 x1 : Int) (x2 x3 : Nat) (x4 x5 : Int) (x6 : Nat) (x7 : List (List Int)) : Option (Fin' × List Value × St) :=
 let c34 := (r38 (Int.toNat ((x7.getD (Int.toNat x1) []).getD 0 0)) (Int.toNat ((x7.getD (Int.toNat x1) []).getD 1 0)) (Int.toNat ((x7.getD (Int.toNat x1) []).getD 2 0)) (Int.toNat ((x7.getD (Int.toNat x1) []).getD 3 0)) (Int.toNat ((x7.getD (Int.toNat x1) []).getD 4 0)) (Int.toNat ((x7.getD (Int.toNat x1) []).getD 5 0)) (Int.toNat ((x7.getD (Int.toNat x1) []).getD 6 0)) (Int.toNat ((x7.getD (Int.toNat x1) []).getD 7 0)) (Int.toNat ((x7.getD (Int.toNat x1) []).getD 8 0)) (Int.toNat ((x7.getD (Int.toNat x1) []).getD 9 0)) (Int.toNat ((x7.getD (Int.toNat x1) []).getD 10 0)) (Int.toNat ((x7.getD (Int.toNat x1) []).getD 11 0)) (Int.toNat ((x7.getD (Int.toNat x1) []).getD 12 0)) (Int.toNat ((x7.getD (Int.toNat x1) []).getD 13 0)) (Int.toNat ((x7.getD (Int.toNat x1) []).getD 14 0)) (Int.toNat ((x7.getD (Int.toNat x1) []).getD 15 0)) (Int.toNat ((x7.getD (Int.toNat x1) []).getD 16 0)) (Int.toNat ((x7.getD (Int.toNat x1) []).getD 17 0)))
 (cond (decide ((x1 : Int) < x0))
 (cond ((decide ((0 : Int) ≤ x1)) && (Nat.blt (Int.toNat x1) x7.length))
  (cond (!c34)
   (some (.ret, frameOf 58 [1, 2] [.pointer (some ⟨0, 0, some 0⟩), .bool false], ⟨[⟨true, (some (.cells [wsl 1, .float .f32 x2, .float .f32 x3, .int .i8 x4, .int .i64 x5, .float .f32 x6]))⟩, ⟨true, (some (.tab sc0 x7))⟩], 2, false⟩))
   (cond (Nat.beq (ih x0 (IntKind.i64.wrap (x1 + 1)) x2 x3 x4 x5 x6 x7) 0)
    (some (.ret, frameOf 58 [1, 2] [.pointer (some ⟨0, 0, some 0⟩), .bool false], ⟨[⟨true, (some (.cells [wsl 1, .float .f32 x2, .float .f32 x3, .int .i8 x4, .int .i64 x5, .float .f32 x6]))⟩, ⟨true, (some (.tab sc0 x7))⟩], 2, false⟩))
    (cond (Nat.beq (ih x0 (IntKind.i64.wrap (x1 + 1)) x2 x3 x4 x5 x6 x7) 1)
     (some (.exit 0, frameOf 58 [1, 2] [.pointer (some ⟨0, 0, some 0⟩), anyV], ⟨[⟨true, (some (.cells [wsl 1, .float .f32 x2, .float .f32 x3, .int .i8 x4, .int .i64 x5, .float .f32 x6]))⟩, ⟨true, (some (.tab sc0 x7))⟩], 2, false⟩))
     none)))
  none)
 (some (.exit 0, frameOf 58 [1, 2] [.pointer (some ⟨0, 0, some 0⟩), anyV], ⟨[⟨true, (some (.cells [wsl 1, .float .f32 x2, .float .f32 x3, .int .i8 x4, .int .i64 x5, .float .f32 x6]))⟩, ⟨true, (some (.tab sc0 x7))⟩], 2, false⟩)))
def w64l0 (ih : Int → Int → Nat → Nat → Int → Int → Nat → List (List Int) → Nat) (x0 x1 : Int) (x2 x3 : Nat) (x4 x5 : Int) (x6 : Nat) (x7 : List (List Int)) : Option (Fin' × List Value × St) :=
 let c34 := (r38 (Int.toNat ((x7.getD (Int.toNat x1) []).getD 0 0)) (Int.toNat ((x7.getD (Int.toNat x1) []).getD 1 0)) (Int.toNat ((x7.getD (Int.toNat x1) []).getD 2 0)) (Int.toNat ((x7.getD (Int.toNat x1) []).getD 3 0)) (Int.toNat ((x7.getD (Int.toNat x1) []).getD 4 0)) (Int.toNat ((x7.getD (Int.toNat x1) []).getD 5 0)) (Int.toNat ((x7.getD (Int.toNat x1) []).getD 6 0)) (Int.toNat ((x7.getD (Int.toNat x1) []).getD 7 0)) (Int.toNat ((x7.getD (Int.toNat x1) []).getD 8 0)) (Int.toNat ((x7.getD (Int.toNat x1) []).getD 9 0)) (Int.toNat ((x7.getD (Int.toNat x1) []).getD 10 0)) (Int.toNat ((x7.getD (Int.toNat x1) []).getD 11 0)) (Int.toNat ((x7.getD (Int.toNat x1) []).getD 12 0)) (Int.toNat ((x7.getD (Int.toNat x1) []).getD 13 0)) (Int.toNat ((x7.getD (Int.toNat x1) []).getD 14 0)) (Int.toNat ((x7.getD (Int.toNat x1) []).getD 15 0)) (Int.toNat ((x7.getD (Int.toNat x1) []).getD 16 0)) (Int.toNat ((x7.getD (Int.toNat x1) []).getD 17 0)))
 (cond (decide ((x1 : Int) < x0))
 (cond ((decide ((0 : Int) ≤ x1)) && (Nat.blt (Int.toNat x1) x7.length))
  (cond (Nat.blt (Int.toNat x1) x7.length)
   (cond (!c34)
    (some (.ret, frameOf 58 [1, 2] [.pointer (some ⟨0, 0, some 0⟩), .bool false], ⟨[⟨true, (some (.cells [wsl 1, .float .f32 x2, .float .f32 x3, .int .i8 x4, .int .i64 x5, .float .f32 x6]))⟩, ⟨true, (some (.tab sc0 x7))⟩], 2, false⟩))
    (cond (Nat.beq (ih x0 (IntKind.i64.wrap (x1 + 1)) x2 x3 x4 x5 x6 x7) 0)
     (some (.ret, frameOf 58 [1, 2] [.pointer (some ⟨0, 0, some 0⟩), .bool false], ⟨[⟨true, (some (.cells [wsl 1, .float .f32 x2, .float .f32 x3, .int .i8 x4, .int .i64 x5, .float .f32 x6]))⟩, ⟨true, (some (.tab sc0 x7))⟩], 2, false⟩))
     (cond (Nat.beq (ih x0 (IntKind.i64.wrap (x1 + 1)) x2 x3 x4 x5 x6 x7) 1)
      (some (.exit 0, frameOf 58 [1, 2] [.pointer (some ⟨0, 0, some 0⟩), anyV], ⟨[⟨true, (some (.cells [wsl 1, .float .f32 x2, .float .f32 x3, .int .i8 x4, .int .i64 x5, .float .f32 x6]))⟩, ⟨true, (some (.tab sc0 x7))⟩], 2, false⟩))
      none)))
   none)
  none)
 (some (.exit 0, frameOf 58 [1, 2] [.pointer (some ⟨0, 0, some 0⟩), anyV], ⟨[⟨true, (some (.cells [wsl 1, .float .f32 x2, .float .f32 x3, .int .i8 x4, .int .i64 x5, .float .f32 x6]))⟩, ⟨true, (some (.tab sc0 x7))⟩], 2, false⟩)))
set_option maxRecDepth 100000 in
theorem e64l0 (m : Nat) (x0 x1 : Int) (x2 x3 : Nat) (x4 x5 : Int) (x6 : Nat) (x7 : List (List Int)) : evC Try.prog ext T22 noL 200 (loopN Try.f64 0) (loopTail [1, 10, 11, 12] [1, 2] false (sumK 58 [1, 10, 11, 12] [1, 2] (q64l0 m))) (frameOf 58 [1, 10, 11, 12] [.pointer (some ⟨0, 0, some 0⟩), wsl 1, .int .i64 x0, .int .i64 x1]) ⟨[⟨true, (some (.cells [wsl 1, .float .f32 x2, .float .f32 x3, .int .i8 x4, .int .i64 x5, .float .f32 x6]))⟩, ⟨true, (some (.tab sc0 x7))⟩], 2, false⟩ = firstT ([((Nat.beq (r64l0 (m + 1) x0 x1 x2 x3 x4 x5 x6 x7) 0), .ret, [.pointer (some ⟨0, 0, some 0⟩), .bool false], ⟨[⟨true, (some (.cells [wsl 1, .float .f32 x2, .float .f32 x3, .int .i8 x4, .int .i64 x5, .float .f32 x6]))⟩, ⟨true, (some (.tab sc0 x7))⟩], 2, false⟩), ((Nat.beq (r64l0 (m + 1) x0 x1 x2 x3 x4 x5 x6 x7) 1), .exit 0, [.pointer (some ⟨0, 0, some 0⟩), anyV], ⟨[⟨true, (some (.cells [wsl 1, .float .f32 x2, .float .f32 x3, .int .i8 x4, .int .i64 x5, .float .f32 x6]))⟩, ⟨true, (some (.tab sc0 x7))⟩], 2, false⟩)].map fun (b, x) => (b, (x.1, frameOf 58 [1, 2] x.2.1, x.2.2))) :=
 (show evC Try.prog ext T22 noL 200 (loopN Try.f64 0) (loopTail [1, 10, 11, 12] [1, 2] false (sumK 58 [1, 10, 11, 12] [1, 2] (q64l0 m))) (frameOf 58 [1, 10, 11, 12] [.pointer (some ⟨0, 0, some 0⟩), wsl 1, .int .i64 x0, .int .i64 x1]) ⟨[⟨true, (some (.cells [wsl 1, .float .f32 x2, .float .f32 x3, .int .i8 x4, .int .i64 x5, .float .f32 x6]))⟩, ⟨true, (some (.tab sc0 x7))⟩], 2, false⟩ = w64l0 (r64l0 m) x0 x1 x2 x3 x4 x5 x6 x7 from by kernel_rfl).trans
 ((show w64l0 (r64l0 m) x0 x1 x2 x3 x4 x5 x6 x7 = t64l0 (r64l0 m) x0 x1 x2 x3 x4 x5 x6 x7 from (cond_cong _ (fun h0 => (cond_cong _ (fun h1 => (cond_t (ev_and2 h1) rfl)) (fun h1 => rfl))) (fun h0 => rfl))).trans
 (show t64l0 (r64l0 m) x0 x1 x2 x3 x4 x5 x6 x7 = a64l0 x0 x1 x2 x3 x4 x5 x6 x7 (r64l0 (m + 1) x0 x1 x2 x3 x4 x5 x6 x7) from (cond_app (a64l0 x0 x1 x2 x3 x4 x5 x6 x7) _ (cond_app (a64l0 x0 x1 x2 x3 x4 x5 x6 x7) _ (cond_app (a64l0 x0 x1 x2 x3 x4 x5 x6 x7) _ rfl (v64l0 x0 x1 x2 x3 x4 x5 x6 x7 ((r64l0 m) x0 (IntKind.i64.wrap (x1 + 1)) x2 x3 x4 x5 x6 x7))) rfl) rfl)))
set_option maxRecDepth 100000 in
theorem qm64l0 : ∀ m, SumKOk Try.prog (loopN Try.f64 0) 58 [1, 10, 11, 12] [1, 2] (q64l0 m) := by
  intro m
  induction m with
  | zero =>
    intro vals s x h1 h2 h3
    unfold q64l0 at h3; split at h3
    · rename_i h; split at h3
      · rename_i hc; obtain ⟨rfl, rfl, rfl, rfl, rfl⟩ := hc; exact absurd h3 (by simp [r64l0, firstT, Nat.beq])
      · exact noQ_ok _ _ _ h1 h2 h3
    · exact noQ_ok _ _ _ h1 h2 h3
  | succ m ih =>
    intro vals s x h1 h2 h3
    unfold q64l0 at h3; split at h3
    · rename_i h; split at h3
      · rename_i hc; obtain ⟨rfl, rfl, rfl, rfl, rfl⟩ := hc; exact sum_step ok22 extOk mixed ((lfOkF_no _ _).inner (by kernel_rfl)) ih h1 h2 h (e64l0 m _ _ _ _ _ _ _ _) rfl h3
      · exact noQ_ok _ _ _ h1 h2 h3
    · exact noQ_ok _ _ _ h1 h2 h3
def Q64l0 : SumK := fun vals s => q64l0 (fuelOf vals s.h) vals s
theorem qok64l0 : SumKOk Try.prog (loopN Try.f64 0) 58 [1, 10, 11, 12] [1, 2] Q64l0 := fuel_ok qm64l0 fuelOf
def L64_1 : LoopT := addL noL 5 [1, 10, 11, 12] (sumK 58 [1, 10, 11, 12] [1, 2] Q64l0)
theorem lok64_1 : LfOkF Try.prog L64_1 Try.f64 := lfOkF_add (lfOkF_no _ _) qok64l0 (by kernel_rfl) (by kernel_rfl) (by kernel_rfl)

/-- impl.IsShare -/
def r77 (x0 : Nat) : Bool :=
 cond (r91 x0)
  ((flt .f32 x0 1065353216 || feq .f32 x0 1065353216))
  (false)
def a77 (x0 : Nat) (p : Bool) : Res := firstT [(true, .bool p, st0)]
def t77 (x0 : Nat) : Res :=
 (cond (r91 x0)
 (some (.bool (flt .f32 x0 1065353216 || feq .f32 x0 1065353216), st0))
 (some (.bool false, st0)))
set_option maxRecDepth 100000 in
theorem e77 (x0 : Nat) : evFn Try.prog ext T22 noL 200 Try.f77 [.float .f32 x0] st0 = firstT [(true, .bool (r77 x0), st0)] :=
 (show evFn Try.prog ext T22 noL 200 Try.f77 [.float .f32 x0] st0 = t77 x0 from by kernel_rfl).trans
 (show t77 x0 = a77 x0 (r77 x0) from (cond_app (a77 x0) _ rfl rfl))
def s77 (args : List Value) (s : St) : List (Bool × Value × St) :=
 match args, s.h with
 | [.float .f32 x0], [] => [(true, .bool (r77 x0), st0)]
 | _, _ => T22 77 args s
def T23 : CallF := addF T22 77 s77
set_option maxRecDepth 100000 in
theorem ok23 : CfOk Try.prog T23 := by
  refine cfOk_add ok22 fun args s r s' h1 h2 h3 => ?_
  unfold s77 at h3; split at h3
  · rename_i h; exact callOk ok22 Try.func77 h1 h2 h (lfOkF_no _ _).body (e77 _) rfl h3
  · exact ok22 _ _ _ _ _ h1 h2 h3

/-- impl.ValidStove -/
def r64 (x0 x1 : Nat) (x2 x3 : Int) (x4 : Nat) (x5 : List (List Int)) : Nat × Bool :=
 cond (decide ((((x5.length : Nat) : Int) : Int) > 6))
  (0, false)
  (cond (Nat.beq (r64l0 (1000 + x5.length) ((x5.length : Nat) : Int) 0 x0 x1 x2 x3 x4 x5) 0)
   (0, false)
   (cond (Nat.beq (r64l0 (1000 + x5.length) ((x5.length : Nat) : Int) 0 x0 x1 x2 x3 x4 x5) 1)
    (cond (r86 x0 3262119936 1153138688)
     (cond (r77 x1)
      (cond (decide ((x2 : Int) ≥ 0))
       (cond (decide ((x2 : Int) ≤ 3))
        (cond (decide ((x3 : Int) ≥ 0))
         (cond (decide ((x3 : Int) ≤ 1000000))
          (cond (r91 x4)
           (0, (flt .f32 x4 1065353216))
           (0, false))
          (0, false))
         (0, false))
        (0, false))
       (0, false))
      (0, false))
     (0, false))
    (1, false)))
def a64 (x0 x1 : Nat) (x2 x3 : Int) (x4 : Nat) (x5 : List (List Int)) (p : Nat × Bool) : Res := firstT [((Nat.beq (p.1) 0), .bool (p.2), ⟨[⟨true, (some (.tab sc0 x5))⟩], 1, false⟩)]
def t64 (x0 x1 : Nat) (x2 x3 : Int) (x4 : Nat) (x5 : List (List Int)) : Res :=
 (cond (decide ((((x5.length : Nat) : Int) : Int) > 6))
 (some (.bool false, ⟨[⟨true, (some (.tab sc0 x5))⟩], 1, false⟩))
 (cond (Nat.beq (r64l0 (1000 + x5.length) ((x5.length : Nat) : Int) 0 x0 x1 x2 x3 x4 x5) 0)
  (some (.bool false, ⟨[⟨true, (some (.tab sc0 x5))⟩], 1, false⟩))
  (cond (Nat.beq (r64l0 (1000 + x5.length) ((x5.length : Nat) : Int) 0 x0 x1 x2 x3 x4 x5) 1)
   (cond (r86 x0 3262119936 1153138688)
    (cond (r77 x1)
     (cond (decide ((x2 : Int) ≥ 0))
      (cond (decide ((x2 : Int) ≤ 3))
       (cond (decide ((x3 : Int) ≥ 0))
        (cond (decide ((x3 : Int) ≤ 1000000))
         (cond (r91 x4)
          (some (.bool (flt .f32 x4 1065353216), ⟨[⟨true, (some (.tab sc0 x5))⟩], 1, false⟩))
          (some (.bool false, ⟨[⟨true, (some (.tab sc0 x5))⟩], 1, false⟩)))
         (some (.bool false, ⟨[⟨true, (some (.tab sc0 x5))⟩], 1, false⟩)))
        (some (.bool false, ⟨[⟨true, (some (.tab sc0 x5))⟩], 1, false⟩)))
       (some (.bool false, ⟨[⟨true, (some (.tab sc0 x5))⟩], 1, false⟩)))
      (some (.bool false, ⟨[⟨true, (some (.tab sc0 x5))⟩], 1, false⟩)))
     (some (.bool false, ⟨[⟨true, (some (.tab sc0 x5))⟩], 1, false⟩)))
    (some (.bool false, ⟨[⟨true, (some (.tab sc0 x5))⟩], 1, false⟩)))
   none)))
set_option maxRecDepth 100000 in
theorem e64 (x0 x1 : Nat) (x2 x3 : Int) (x4 : Nat) (x5 : List (List Int)) : evFn Try.prog ext T23 L64_1 200 Try.f64 [.agg #[wsl 0, .float .f32 x0, .float .f32 x1, .int .i8 x2, .int .i64 x3, .float .f32 x4]] ⟨[⟨true, (some (.tab sc0 x5))⟩], 1, false⟩ = firstT [((Nat.beq ((r64 x0 x1 x2 x3 x4 x5).1) 0), .bool ((r64 x0 x1 x2 x3 x4 x5).2), ⟨[⟨true, (some (.tab sc0 x5))⟩], 1, false⟩)] :=
 (show evFn Try.prog ext T23 L64_1 200 Try.f64 [.agg #[wsl 0, .float .f32 x0, .float .f32 x1, .int .i8 x2, .int .i64 x3, .float .f32 x4]] ⟨[⟨true, (some (.tab sc0 x5))⟩], 1, false⟩ = t64 x0 x1 x2 x3 x4 x5 from by kernel_rfl).trans
 (show t64 x0 x1 x2 x3 x4 x5 = a64 x0 x1 x2 x3 x4 x5 (r64 x0 x1 x2 x3 x4 x5) from (cond_app (a64 x0 x1 x2 x3 x4 x5) _ rfl (cond_app (a64 x0 x1 x2 x3 x4 x5) _ rfl (cond_app (a64 x0 x1 x2 x3 x4 x5) _ (cond_app (a64 x0 x1 x2 x3 x4 x5) _ (cond_app (a64 x0 x1 x2 x3 x4 x5) _ (cond_app (a64 x0 x1 x2 x3 x4 x5) _ (cond_app (a64 x0 x1 x2 x3 x4 x5) _ (cond_app (a64 x0 x1 x2 x3 x4 x5) _ (cond_app (a64 x0 x1 x2 x3 x4 x5) _ (cond_app (a64 x0 x1 x2 x3 x4 x5) _ rfl rfl) rfl) rfl) rfl) rfl) rfl) rfl) rfl))))
def s64 (args : List Value) (s : St) : List (Bool × Value × St) :=
 match args, s.h with
 | [.agg ⟨[.iface f0 .nilIface, .float .f32 x0, .float .f32 x1, .int .i8 x2, .int .i64 x3, .float .f32 x4]⟩], [⟨true, some (.tab [.fl .f32, .fl .f32, .fl .f32, .fl .f32, .fl .f32, .fl .f32, .fl .f32, .fl .f32, .fl .f32, .fl .f32, .fl .f32, .fl .f32, .fl .f32, .fl .f32, .fl .f32, .fl .f32, .fl .f32, .fl .f32] x5)⟩] => if f0 = 0 then [((Nat.beq ((r64 x0 x1 x2 x3 x4 x5).1) 0), .bool ((r64 x0 x1 x2 x3 x4 x5).2), ⟨[⟨true, (some (.tab sc0 x5))⟩], 1, false⟩)] else T23 64 args s
 | _, _ => T23 64 args s
def T24 : CallF := addF T23 64 s64
set_option maxRecDepth 100000 in
theorem ok24 : CfOk Try.prog T24 := by
  refine cfOk_add ok23 fun args s r s' h1 h2 h3 => ?_
  unfold s64 at h3; split at h3
  · rename_i h; split at h3
    · rename_i hc; obtain ⟨rfl⟩ := hc; exact callOk ok23 Try.func64 h1 h2 h lok64_1.body (e64 _ _ _ _ _ _) rfl h3
    · exact ok23 _ _ _ _ _ h1 h2 h3
  · exact ok23 _ _ _ _ _ h1 h2 h3

/-- impl.sum -/
def r60 (x0 x1 x2 x3 x4 x5 x6 x7 x8 x9 x10 x11 x12 x13 x14 x15 x16 x17 : Nat) : Nat :=
 ((fadd .f32 (fadd .f32 (fadd .f32 (fadd .f32 (fadd .f32 x12 x13) x14) x15) x16) x17))
def a60 (x0 x1 x2 x3 x4 x5 x6 x7 x8 x9 x10 x11 x12 x13 x14 x15 x16 x17 : Nat) (p : Nat) : Res := firstT [(true, .float .f32 p, ⟨[⟨true, (some (.cells [.float .f32 x0, .float .f32 x1, .float .f32 x2, .float .f32 x3, .float .f32 x4, .float .f32 x5, .float .f32 x6, .float .f32 x7, .float .f32 x8, .float .f32 x9, .float .f32 x10, .float .f32 x11, .float .f32 x12, .float .f32 x13, .float .f32 x14, .float .f32 x15, .float .f32 x16, .float .f32 x17]))⟩], 1, false⟩)]
def t60 (x0 x1 x2 x3 x4 x5 x6 x7 x8 x9 x10 x11 x12 x13 x14 x15 x16 x17 : Nat) : Res :=
 (some (.float .f32 (fadd .f32 (fadd .f32 (fadd .f32 (fadd .f32 (fadd .f32 x12 x13) x14) x15) x16) x17), ⟨[⟨true, (some (.cells [.float .f32 x0, .float .f32 x1, .float .f32 x2, .float .f32 x3, .float .f32 x4, .float .f32 x5, .float .f32 x6, .float .f32 x7, .float .f32 x8, .float .f32 x9, .float .f32 x10, .float .f32 x11, .float .f32 x12, .float .f32 x13, .float .f32 x14, .float .f32 x15, .float .f32 x16, .float .f32 x17]))⟩], 1, false⟩))
set_option maxRecDepth 100000 in
theorem e60 (x0 x1 x2 x3 x4 x5 x6 x7 x8 x9 x10 x11 x12 x13 x14 x15 x16 x17 : Nat) : evFn Try.prog ext T24 noL 200 Try.f60 [xsl ⟨0, 0, some 12⟩ 6 6] ⟨[⟨true, (some (.cells [.float .f32 x0, .float .f32 x1, .float .f32 x2, .float .f32 x3, .float .f32 x4, .float .f32 x5, .float .f32 x6, .float .f32 x7, .float .f32 x8, .float .f32 x9, .float .f32 x10, .float .f32 x11, .float .f32 x12, .float .f32 x13, .float .f32 x14, .float .f32 x15, .float .f32 x16, .float .f32 x17]))⟩], 1, false⟩ = firstT [(true, .float .f32 (r60 x0 x1 x2 x3 x4 x5 x6 x7 x8 x9 x10 x11 x12 x13 x14 x15 x16 x17), ⟨[⟨true, (some (.cells [.float .f32 x0, .float .f32 x1, .float .f32 x2, .float .f32 x3, .float .f32 x4, .float .f32 x5, .float .f32 x6, .float .f32 x7, .float .f32 x8, .float .f32 x9, .float .f32 x10, .float .f32 x11, .float .f32 x12, .float .f32 x13, .float .f32 x14, .float .f32 x15, .float .f32 x16, .float .f32 x17]))⟩], 1, false⟩)] :=
 (show evFn Try.prog ext T24 noL 200 Try.f60 [xsl ⟨0, 0, some 12⟩ 6 6] ⟨[⟨true, (some (.cells [.float .f32 x0, .float .f32 x1, .float .f32 x2, .float .f32 x3, .float .f32 x4, .float .f32 x5, .float .f32 x6, .float .f32 x7, .float .f32 x8, .float .f32 x9, .float .f32 x10, .float .f32 x11, .float .f32 x12, .float .f32 x13, .float .f32 x14, .float .f32 x15, .float .f32 x16, .float .f32 x17]))⟩], 1, false⟩ = t60 x0 x1 x2 x3 x4 x5 x6 x7 x8 x9 x10 x11 x12 x13 x14 x15 x16 x17 from by kernel_rfl).trans
 (show t60 x0 x1 x2 x3 x4 x5 x6 x7 x8 x9 x10 x11 x12 x13 x14 x15 x16 x17 = a60 x0 x1 x2 x3 x4 x5 x6 x7 x8 x9 x10 x11 x12 x13 x14 x15 x16 x17 (r60 x0 x1 x2 x3 x4 x5 x6 x7 x8 x9 x10 x11 x12 x13 x14 x15 x16 x17) from rfl)
def s60 (args : List Value) (s : St) : List (Bool × Value × St) :=
 match args, s.h with
 | [.iface f5 (.slice (some ⟨f0, f1, some f2⟩) f3 f4)], [⟨true, some (.cells [.float .f32 x0, .float .f32 x1, .float .f32 x2, .float .f32 x3, .float .f32 x4, .float .f32 x5, .float .f32 x6, .float .f32 x7, .float .f32 x8, .float .f32 x9, .float .f32 x10, .float .f32 x11, .float .f32 x12, .float .f32 x13, .float .f32 x14, .float .f32 x15, .float .f32 x16, .float .f32 x17])⟩] => if f0 = 0 ∧ f1 = 0 ∧ f2 = 12 ∧ f3 = 6 ∧ f4 = 6 ∧ f5 = 0 then [(true, .float .f32 (r60 x0 x1 x2 x3 x4 x5 x6 x7 x8 x9 x10 x11 x12 x13 x14 x15 x16 x17), ⟨[⟨true, (some (.cells [.float .f32 x0, .float .f32 x1, .float .f32 x2, .float .f32 x3, .float .f32 x4, .float .f32 x5, .float .f32 x6, .float .f32 x7, .float .f32 x8, .float .f32 x9, .float .f32 x10, .float .f32 x11, .float .f32 x12, .float .f32 x13, .float .f32 x14, .float .f32 x15, .float .f32 x16, .float .f32 x17]))⟩], 1, false⟩)] else T24 60 args s
 | _, _ => T24 60 args s
def T25 : CallF := addF T24 60 s60
set_option maxRecDepth 100000 in
theorem ok25 : CfOk Try.prog T25 := by
  refine cfOk_add ok24 fun args s r s' h1 h2 h3 => ?_
  unfold s60 at h3; split at h3
  · rename_i h; split at h3
    · rename_i hc; obtain ⟨rfl, rfl, rfl, rfl, rfl, rfl⟩ := hc; exact callOk ok24 Try.func60 h1 h2 h (lfOkF_no _ _).body (e60 _ _ _ _ _ _ _ _ _ _ _ _ _ _ _ _ _ _) rfl h3
    · exact ok24 _ _ _ _ _ h1 h2 h3
  · exact ok24 _ _ _ _ _ h1 h2 h3

/-- impl.fuelIn, loop 0: one round -/
def b65l0 (ih : Nat → Int → Int → List (List Int) → (Nat × Nat)) (x0 : Nat) (x1 x2 : Int) (x3 : List (List Int)) : Nat × Nat :=
 let c51 := (r60 (Int.toNat ((x3.getD (Int.toNat x2) []).getD 0 0)) (Int.toNat ((x3.getD (Int.toNat x2) []).getD 1 0)) (Int.toNat ((x3.getD (Int.toNat x2) []).getD 2 0)) (Int.toNat ((x3.getD (Int.toNat x2) []).getD 3 0)) (Int.toNat ((x3.getD (Int.toNat x2) []).getD 4 0)) (Int.toNat ((x3.getD (Int.toNat x2) []).getD 5 0)) (Int.toNat ((x3.getD (Int.toNat x2) []).getD 6 0)) (Int.toNat ((x3.getD (Int.toNat x2) []).getD 7 0)) (Int.toNat ((x3.getD (Int.toNat x2) []).getD 8 0)) (Int.toNat ((x3.getD (Int.toNat x2) []).getD 9 0)) (Int.toNat ((x3.getD (Int.toNat x2) []).getD 10 0)) (Int.toNat ((x3.getD (Int.toNat x2) []).getD 11 0)) (Int.toNat ((x3.getD (Int.toNat x2) []).getD 12 0)) (Int.toNat ((x3.getD (Int.toNat x2) []).getD 13 0)) (Int.toNat ((x3.getD (Int.toNat x2) []).getD 14 0)) (Int.toNat ((x3.getD (Int.toNat x2) []).getD 15 0)) (Int.toNat ((x3.getD (Int.toNat x2) []).getD 16 0)) (Int.toNat ((x3.getD (Int.toNat x2) []).getD 17 0)))
 cond (decide ((x2 : Int) < x1))
  (cond ((decide ((0 : Int) ≤ x2)) && (Nat.blt (Int.toNat x2) x3.length))
   (ih (fadd .f32 x0 c51) x1 (IntKind.i64.wrap (x2 + 1)) x3)
   (1, 0))
  (0, x0)
def r65l0 : Nat → Nat → Int → Int → List (List Int) → (Nat × Nat)
 | 0, _, _, _, _ => (1, 0)
 | m + 1, x0, x1, x2, x3 => b65l0 (r65l0 m) x0 x1 x2 x3
def a65l0 (x0 : Nat) (x1 x2 : Int) (x3 : List (List Int)) (p : Nat × Nat) : Option (Fin' × List Value × St) := firstT ([((Nat.beq (p.1) 0), .exit 0, [.float .f32 (p.2)], ⟨[⟨true, (some (.tab sc0 x3))⟩], 1, false⟩)].map fun (b, x) => (b, (x.1, frameOf 20 [3] x.2.1, x.2.2)))
theorem v65l0 (x0 : Nat) (x1 x2 : Int) (x3 : List (List Int)) (p : Nat × Nat) : alts ([((Nat.beq (p.1) 0), .exit 0, [.float .f32 (p.2)], ⟨[⟨true, (some (.tab sc0 x3))⟩], 1, false⟩)].map fun (b, x) => (b, (x.1, frameOf 20 [3] x.2.1, x.2.2))) some = a65l0 x0 x1 x2 x3 p := alts_first _
def q65l0 (m : Nat) : SumK := fun vals s =>
 match vals, s.h with
 | [.float .f32 x0, .iface f0 .nilIface, .int .i64 x1, .int .i64 x2], [⟨true, some (.tab [.fl .f32, .fl .f32, .fl .f32, .fl .f32, .fl .f32, .fl .f32, .fl .f32, .fl .f32, .fl .f32, .fl .f32, .fl .f32, .fl .f32, .fl .f32, .fl .f32, .fl .f32, .fl .f32, .fl .f32, .fl .f32] x3)⟩] => if f0 = 0 then [((Nat.beq ((r65l0 m x0 x1 x2 x3).1) 0), .exit 0, [.float .f32 ((r65l0 m x0 x1 x2 x3).2)], ⟨[⟨true, (some (.tab sc0 x3))⟩], 1, false⟩)] else noQ vals s
 | _, _ => noQ vals s
def t65l0 (ih : Nat → Int → Int → List (List Int) → (Nat × Nat)) (x0 : Nat) (x1 x2 : Int) (x3 : List (List Int)) : Option (Fin' × List Value × St) :=
 let c51 := (r60 (Int.toNat ((x3.getD (Int.toNat x2) []).getD 0 0)) (Int.toNat ((x3.getD (Int.toNat x2) []).getD 1 0)) (Int.toNat ((x3.getD (Int.toNat x2) []).getD 2 0)) (Int.toNat ((x3.getD (Int.toNat x2) []).getD 3 0)) (Int.toNat ((x3.getD (Int.toNat x2) []).getD 4 0)) (Int.toNat ((x3.getD (Int.toNat x2) []).getD 5 0)) (Int.toNat ((x3.getD (Int.toNat x2) []).getD 6 0)) (Int.toNat ((x3.getD (Int.toNat x2) []).getD 7 0)) (Int.toNat ((x3.getD (Int.toNat x2) []).getD 8 0)) (Int.toNat ((x3.getD (Int.toNat x2) []).getD 9 0)) (Int.toNat ((x3.getD (Int.toNat x2) []).getD 10 0)) (Int.toNat ((x3.getD (Int.toNat x2) []).getD 11 0)) (Int.toNat ((x3.getD (Int.toNat x2) []).getD 12 0)) (Int.toNat ((x3.getD (Int.toNat x2) []).getD 13 0)) (Int.toNat ((x3.getD (Int.toNat x2) []).getD 14 0)) (Int.toNat ((x3.getD (Int.toNat x2) []).getD 15 0)) (Int.toNat ((x3.getD (Int.toNat x2) []).getD 16 0)) (Int.toNat ((x3.getD (Int.toNat x2) []).getD 17 0)))
 (cond (decide ((x2 : Int) < x1))
 (cond ((decide ((0 : Int) ≤ x2)) && (Nat.blt (Int.toNat x2) x3.length))
  (cond (Nat.beq ((ih (fadd .f32 x0 c51) x1 (IntKind.i64.wrap (x2 + 1)) x3).1) 0)
   (some (.exit 0, frameOf 20 [3] [.float .f32 ((ih (fadd .f32 x0 c51) x1 (IntKind.i64.wrap (x2 + 1)) x3).2)], ⟨[⟨true, (some (.tab sc0 x3))⟩], 1, false⟩))
   none)
  none)
 (some (.exit 0, frameOf 20 [3] [.float .f32 x0], ⟨[⟨true, (some (.tab sc0 x3))⟩], 1, false⟩)))
def w65l0 (ih : Nat → Int → Int → List (List Int) → (Nat × Nat)) (x0 : Nat) (x1 x2 : Int) (x3 : List (List Int)) : Option (Fin' × List Value × St) :=
 let c51 := (r60 (Int.toNat ((x3.getD (Int.toNat x2) []).getD 0 0)) (Int.toNat ((x3.getD (Int.toNat x2) []).getD 1 0)) (Int.toNat ((x3.getD (Int.toNat x2) []).getD 2 0)) (Int.toNat ((x3.getD (Int.toNat x2) []).getD 3 0)) (Int.toNat ((x3.getD (Int.toNat x2) []).getD 4 0)) (Int.toNat ((x3.getD (Int.toNat x2) []).getD 5 0)) (Int.toNat ((x3.getD (Int.toNat x2) []).getD 6 0)) (Int.toNat ((x3.getD (Int.toNat x2) []).getD 7 0)) (Int.toNat ((x3.getD (Int.toNat x2) []).getD 8 0)) (Int.toNat ((x3.getD (Int.toNat x2) []).getD 9 0)) (Int.toNat ((x3.getD (Int.toNat x2) []).getD 10 0)) (Int.toNat ((x3.getD (Int.toNat x2) []).getD 11 0)) (Int.toNat ((x3.getD (Int.toNat x2) []).getD 12 0)) (Int.toNat ((x3.getD (Int.toNat x2) []).getD 13 0)) (Int.toNat ((x3.getD (Int.toNat x2) []).getD 14 0)) (Int.toNat ((x3.getD (Int.toNat x2) []).getD 15 0)) (Int.toNat ((x3.getD (Int.toNat x2) []).getD 16 0)) (Int.toNat ((x3.getD (Int.toNat x2) []).getD 17 0)))
 (cond (decide ((x2 : Int) < x1))
 (cond ((decide ((0 : Int) ≤ x2)) && (Nat.blt (Int.toNat x2) x3.length))
  (cond (Nat.blt (Int.toNat x2) x3.length)
   (cond (Nat.beq ((ih (fadd .f32 x0 c51) x1 (IntKind.i64.wrap (x2 + 1)) x3).1) 0)
    (some (.exit 0, frameOf 20 [3] [.float .f32 ((ih (fadd .f32 x0 c51) x1 (IntKind.i64.wrap (x2 + 1)) x3).2)], ⟨[⟨true, (some (.tab sc0 x3))⟩], 1, false⟩))
    none)
   none)
  none)
 (some (.exit 0, frameOf 20 [3] [.float .f32 x0], ⟨[⟨true, (some (.tab sc0 x3))⟩], 1, false⟩)))
set_option maxRecDepth 100000 in
theorem e65l0 (m : Nat) (x0 : Nat) (x1 x2 : Int) (x3 : List (List Int)) : evC Try.prog ext T25 noL 200 (loopN Try.f65 0) (loopTail [3, 7, 8, 9] [3] false (sumK 20 [3, 7, 8, 9] [3] (q65l0 m))) (frameOf 20 [3, 7, 8, 9] [.float .f32 x0, wsl 0, .int .i64 x1, .int .i64 x2]) ⟨[⟨true, (some (.tab sc0 x3))⟩], 1, false⟩ = firstT ([((Nat.beq ((r65l0 (m + 1) x0 x1 x2 x3).1) 0), .exit 0, [.float .f32 ((r65l0 (m + 1) x0 x1 x2 x3).2)], ⟨[⟨true, (some (.tab sc0 x3))⟩], 1, false⟩)].map fun (b, x) => (b, (x.1, frameOf 20 [3] x.2.1, x.2.2))) :=
 (show evC Try.prog ext T25 noL 200 (loopN Try.f65 0) (loopTail [3, 7, 8, 9] [3] false (sumK 20 [3, 7, 8, 9] [3] (q65l0 m))) (frameOf 20 [3, 7, 8, 9] [.float .f32 x0, wsl 0, .int .i64 x1, .int .i64 x2]) ⟨[⟨true, (some (.tab sc0 x3))⟩], 1, false⟩ = w65l0 (r65l0 m) x0 x1 x2 x3 from by kernel_rfl).trans
 ((show w65l0 (r65l0 m) x0 x1 x2 x3 = t65l0 (r65l0 m) x0 x1 x2 x3 from (cond_cong _ (fun h0 => (cond_cong _ (fun h1 => (cond_t (ev_and2 h1) rfl)) (fun h1 => rfl))) (fun h0 => rfl))).trans
 (show t65l0 (r65l0 m) x0 x1 x2 x3 = a65l0 x0 x1 x2 x3 (r65l0 (m + 1) x0 x1 x2 x3) from (cond_app (a65l0 x0 x1 x2 x3) _ (cond_app (a65l0 x0 x1 x2 x3) _ (v65l0 x0 x1 x2 x3 ((r65l0 m) (fadd .f32 x0 (r60 (Int.toNat ((x3.getD (Int.toNat x2) []).getD 0 0)) (Int.toNat ((x3.getD (Int.toNat x2) []).getD 1 0)) (Int.toNat ((x3.getD (Int.toNat x2) []).getD 2 0)) (Int.toNat ((x3.getD (Int.toNat x2) []).getD 3 0)) (Int.toNat ((x3.getD (Int.toNat x2) []).getD 4 0)) (Int.toNat ((x3.getD (Int.toNat x2) []).getD 5 0)) (Int.toNat ((x3.getD (Int.toNat x2) []).getD 6 0)) (Int.toNat ((x3.getD (Int.toNat x2) []).getD 7 0)) (Int.toNat ((x3.getD (Int.toNat x2) []).getD 8 0)) (Int.toNat ((x3.getD (Int.toNat x2) []).getD 9 0)) (Int.toNat ((x3.getD (Int.toNat x2) []).getD 10 0)) (Int.toNat ((x3.getD (Int.toNat x2) []).getD 11 0)) (Int.toNat ((x3.getD (Int.toNat x2) []).getD 12 0)) (Int.toNat ((x3.getD (Int.toNat x2) []).getD 13 0)) (Int.toNat ((x3.getD (Int.toNat x2) []).getD 14 0)) (Int.toNat ((x3.getD (Int.toNat x2) []).getD 15 0)) (Int.toNat ((x3.getD (Int.toNat x2) []).getD 16 0)) (Int.toNat ((x3.getD (Int.toNat x2) []).getD 17 0)))) x1 (IntKind.i64.wrap (x2 + 1)) x3)) rfl) rfl)))
set_option maxRecDepth 100000 in
theorem qm65l0 : ∀ m, SumKOk Try.prog (loopN Try.f65 0) 20 [3, 7, 8, 9] [3] (q65l0 m) := by
  intro m
  induction m with
  | zero =>
    intro vals s x h1 h2 h3
    unfold q65l0 at h3; split at h3
    · rename_i h; split at h3
      · rename_i hc; obtain ⟨rfl⟩ := hc; exact absurd h3 (by simp [r65l0, firstT, Nat.beq])
      · exact noQ_ok _ _ _ h1 h2 h3
    · exact noQ_ok _ _ _ h1 h2 h3
  | succ m ih =>
    intro vals s x h1 h2 h3
    unfold q65l0 at h3; split at h3
    · rename_i h; split at h3
      · rename_i hc; obtain ⟨rfl⟩ := hc; exact sum_step ok25 extOk mixed ((lfOkF_no _ _).inner (by kernel_rfl)) ih h1 h2 h (e65l0 m _ _ _ _) rfl h3
      · exact noQ_ok _ _ _ h1 h2 h3
    · exact noQ_ok _ _ _ h1 h2 h3
def Q65l0 : SumK := fun vals s => q65l0 (fuelOf vals s.h) vals s
theorem qok65l0 : SumKOk Try.prog (loopN Try.f65 0) 20 [3, 7, 8, 9] [3] Q65l0 := fuel_ok qm65l0 fuelOf
def L65_1 : LoopT := addL noL 4 [3, 7, 8, 9] (sumK 20 [3, 7, 8, 9] [3] Q65l0)
theorem lok65_1 : LfOkF Try.prog L65_1 Try.f65 := lfOkF_add (lfOkF_no _ _) qok65l0 (by kernel_rfl) (by kernel_rfl) (by kernel_rfl)

/-- impl.fuelIn -/
def r65 (x0 x1 : Nat) (x2 x3 : Int) (x4 : Nat) (x5 : List (List Int)) : Nat × Nat :=
 cond (Nat.beq ((r65l0 (1000 + x5.length) 0 ((x5.length : Nat) : Int) 0 x5).1) 0)
  (0, ((r65l0 (1000 + x5.length) 0 ((x5.length : Nat) : Int) 0 x5).2))
  (1, 0)
def a65 (x0 x1 : Nat) (x2 x3 : Int) (x4 : Nat) (x5 : List (List Int)) (p : Nat × Nat) : Res := firstT [((Nat.beq (p.1) 0), .float .f32 (p.2), ⟨[⟨true, (some (.tab sc0 x5))⟩], 1, false⟩)]
def t65 (x0 x1 : Nat) (x2 x3 : Int) (x4 : Nat) (x5 : List (List Int)) : Res :=
 (cond (Nat.beq ((r65l0 (1000 + x5.length) 0 ((x5.length : Nat) : Int) 0 x5).1) 0)
 (some (.float .f32 ((r65l0 (1000 + x5.length) 0 ((x5.length : Nat) : Int) 0 x5).2), ⟨[⟨true, (some (.tab sc0 x5))⟩], 1, false⟩))
 none)
set_option maxRecDepth 100000 in
theorem e65 (x0 x1 : Nat) (x2 x3 : Int) (x4 : Nat) (x5 : List (List Int)) : evFn Try.prog ext T25 L65_1 200 Try.f65 [.agg #[wsl 0, .float .f32 x0, .float .f32 x1, .int .i8 x2, .int .i64 x3, .float .f32 x4]] ⟨[⟨true, (some (.tab sc0 x5))⟩], 1, false⟩ = firstT [((Nat.beq ((r65 x0 x1 x2 x3 x4 x5).1) 0), .float .f32 ((r65 x0 x1 x2 x3 x4 x5).2), ⟨[⟨true, (some (.tab sc0 x5))⟩], 1, false⟩)] :=
 (show evFn Try.prog ext T25 L65_1 200 Try.f65 [.agg #[wsl 0, .float .f32 x0, .float .f32 x1, .int .i8 x2, .int .i64 x3, .float .f32 x4]] ⟨[⟨true, (some (.tab sc0 x5))⟩], 1, false⟩ = t65 x0 x1 x2 x3 x4 x5 from by kernel_rfl).trans
 (show t65 x0 x1 x2 x3 x4 x5 = a65 x0 x1 x2 x3 x4 x5 (r65 x0 x1 x2 x3 x4 x5) from (cond_app (a65 x0 x1 x2 x3 x4 x5) _ rfl rfl))
def s65 (args : List Value) (s : St) : List (Bool × Value × St) :=
 match args, s.h with
 | [.agg ⟨[.iface f0 .nilIface, .float .f32 x0, .float .f32 x1, .int .i8 x2, .int .i64 x3, .float .f32 x4]⟩], [⟨true, some (.tab [.fl .f32, .fl .f32, .fl .f32, .fl .f32, .fl .f32, .fl .f32, .fl .f32, .fl .f32, .fl .f32, .fl .f32, .fl .f32, .fl .f32, .fl .f32, .fl .f32, .fl .f32, .fl .f32, .fl .f32, .fl .f32] x5)⟩] => if f0 = 0 then [((Nat.beq ((r65 x0 x1 x2 x3 x4 x5).1) 0), .float .f32 ((r65 x0 x1 x2 x3 x4 x5).2), ⟨[⟨true, (some (.tab sc0 x5))⟩], 1, false⟩)] else T25 65 args s
 | _, _ => T25 65 args s
def T26 : CallF := addF T25 65 s65
set_option maxRecDepth 100000 in
theorem ok26 : CfOk Try.prog T26 := by
  refine cfOk_add ok25 fun args s r s' h1 h2 h3 => ?_
  unfold s65 at h3; split at h3
  · rename_i h; split at h3
    · rename_i hc; obtain ⟨rfl⟩ := hc; exact callOk ok25 Try.func65 h1 h2 h lok65_1.body (e65 _ _ _ _ _ _) rfl h3
    · exact ok25 _ _ _ _ _ h1 h2 h3
  · exact ok25 _ _ _ _ _ h1 h2 h3

/-- impl.FuelIn -/
def r22 (x0 x1 : Nat) (x2 x3 : Int) (x4 : Nat) (x5 : List (List Int)) : Nat × Nat × Int :=
 cond (Nat.beq ((r64 x0 x1 x2 x3 x4 x5).1) 0)
  (cond (!((r64 x0 x1 x2 x3 x4 x5).2))
   (0, 0, 1)
   (cond (Nat.beq ((r65 x0 x1 x2 x3 x4 x5).1) 0)
    (0, ((r65 x0 x1 x2 x3 x4 x5).2), 0)
    (1, 0, 0)))
  (1, 0, 0)
def a22 (x0 x1 : Nat) (x2 x3 : Int) (x4 : Nat) (x5 : List (List Int)) (p : Nat × Nat × Int) : Res := firstT [((Nat.beq (p.1) 0), .tuple #[.float .f32 (p.2.1), .int .i64 (p.2.2)], ⟨[⟨true, (some (.tab sc0 x5))⟩], 1, false⟩)]
def t22 (x0 x1 : Nat) (x2 x3 : Int) (x4 : Nat) (x5 : List (List Int)) : Res :=
 (cond (Nat.beq ((r64 x0 x1 x2 x3 x4 x5).1) 0)
 (cond (!((r64 x0 x1 x2 x3 x4 x5).2))
  (some (.tuple #[.float .f32 0, .int .i64 1], ⟨[⟨true, (some (.tab sc0 x5))⟩], 1, false⟩))
  (cond (Nat.beq ((r65 x0 x1 x2 x3 x4 x5).1) 0)
   (some (.tuple #[.float .f32 ((r65 x0 x1 x2 x3 x4 x5).2), .int .i64 0], ⟨[⟨true, (some (.tab sc0 x5))⟩], 1, false⟩))
   none))
 none)
set_option maxRecDepth 100000 in
theorem e22 (x0 x1 : Nat) (x2 x3 : Int) (x4 : Nat) (x5 : List (List Int)) : evFn Try.prog ext T26 noL 200 Try.f22 [.agg #[wsl 0, .float .f32 x0, .float .f32 x1, .int .i8 x2, .int .i64 x3, .float .f32 x4]] ⟨[⟨true, (some (.tab sc0 x5))⟩], 1, false⟩ = firstT [((Nat.beq ((r22 x0 x1 x2 x3 x4 x5).1) 0), .tuple #[.float .f32 ((r22 x0 x1 x2 x3 x4 x5).2.1), .int .i64 ((r22 x0 x1 x2 x3 x4 x5).2.2)], ⟨[⟨true, (some (.tab sc0 x5))⟩], 1, false⟩)] :=
 (show evFn Try.prog ext T26 noL 200 Try.f22 [.agg #[wsl 0, .float .f32 x0, .float .f32 x1, .int .i8 x2, .int .i64 x3, .float .f32 x4]] ⟨[⟨true, (some (.tab sc0 x5))⟩], 1, false⟩ = t22 x0 x1 x2 x3 x4 x5 from by kernel_rfl).trans
 (show t22 x0 x1 x2 x3 x4 x5 = a22 x0 x1 x2 x3 x4 x5 (r22 x0 x1 x2 x3 x4 x5) from (cond_app (a22 x0 x1 x2 x3 x4 x5) _ (cond_app (a22 x0 x1 x2 x3 x4 x5) _ rfl (cond_app (a22 x0 x1 x2 x3 x4 x5) _ rfl rfl)) rfl))
def s22 (args : List Value) (s : St) : List (Bool × Value × St) :=
 match args, s.h with
 | [.agg ⟨[.iface f0 .nilIface, .float .f32 x0, .float .f32 x1, .int .i8 x2, .int .i64 x3, .float .f32 x4]⟩], [⟨true, some (.tab [.fl .f32, .fl .f32, .fl .f32, .fl .f32, .fl .f32, .fl .f32, .fl .f32, .fl .f32, .fl .f32, .fl .f32, .fl .f32, .fl .f32, .fl .f32, .fl .f32, .fl .f32, .fl .f32, .fl .f32, .fl .f32] x5)⟩] => if f0 = 0 then [((Nat.beq ((r22 x0 x1 x2 x3 x4 x5).1) 0), .tuple #[.float .f32 ((r22 x0 x1 x2 x3 x4 x5).2.1), .int .i64 ((r22 x0 x1 x2 x3 x4 x5).2.2)], ⟨[⟨true, (some (.tab sc0 x5))⟩], 1, false⟩)] else T26 22 args s
 | _, _ => T26 22 args s
def T27 : CallF := addF T26 22 s22
set_option maxRecDepth 100000 in
theorem ok27 : CfOk Try.prog T27 := by
  refine cfOk_add ok26 fun args s r s' h1 h2 h3 => ?_
  unfold s22 at h3; split at h3
  · rename_i h; split at h3
    · rename_i hc; obtain ⟨rfl⟩ := hc; exact callOk ok26 Try.func22 h1 h2 h (lfOkF_no _ _).body (e22 _ _ _ _ _ _) rfl h3
    · exact ok26 _ _ _ _ _ h1 h2 h3
  · exact ok26 _ _ _ _ _ h1 h2 h3

/-- laws.sameFloat -/
def r14 (x0 x1 : Nat) : Bool :=
 cond (!feq .f64 x0 x0)
  ((!feq .f64 x1 x1))
  (cond (!feq .f64 x1 x1)
   (false)
   (cond (feq .f64 x0 0)
    (cond (feq .f64 x1 0)
     (((fgt .f64 (fdiv .f64 4607182418800017408 x0) 0) == (fgt .f64 (fdiv .f64 4607182418800017408 x1) 0)))
     ((feq .f64 x0 x1)))
    ((feq .f64 x0 x1))))
def a14 (x0 x1 : Nat) (p : Bool) : Res := firstT [(true, .bool p, st0)]
def t14 (x0 x1 : Nat) : Res :=
 (cond (!feq .f64 x0 x0)
 (some (.bool (!feq .f64 x1 x1), st0))
 (cond (!feq .f64 x1 x1)
  (some (.bool false, st0))
  (cond (feq .f64 x0 0)
   (cond (feq .f64 x1 0)
    (some (.bool ((fgt .f64 (fdiv .f64 4607182418800017408 x0) 0) == (fgt .f64 (fdiv .f64 4607182418800017408 x1) 0)), st0))
    (some (.bool (feq .f64 x0 x1), st0)))
   (some (.bool (feq .f64 x0 x1), st0)))))
def w14 (x0 x1 : Nat) : Res :=
 (cond (!feq .f64 x0 x0)
 (cond (!feq .f64 x0 x0)
  (some (.bool (!feq .f64 x1 x1), st0))
  (some (.bool false, st0)))
 (cond (!feq .f64 x1 x1)
  (cond (!feq .f64 x0 x0)
   (some (.bool (!feq .f64 x1 x1), st0))
   (some (.bool false, st0)))
  (cond (feq .f64 x0 0)
   (cond (feq .f64 x1 0)
    (some (.bool ((fgt .f64 (fdiv .f64 4607182418800017408 x0) 0) == (fgt .f64 (fdiv .f64 4607182418800017408 x1) 0)), st0))
    (some (.bool (feq .f64 x0 x1), st0)))
   (some (.bool (feq .f64 x0 x1), st0)))))
set_option maxRecDepth 100000 in
theorem e14 (x0 x1 : Nat) : evFn Try.prog ext T27 noL 200 Try.f14 [.float .f64 x0, .float .f64 x1] st0 = firstT [(true, .bool (r14 x0 x1), st0)] :=
 (show evFn Try.prog ext T27 noL 200 Try.f14 [.float .f64 x0, .float .f64 x1] st0 = w14 x0 x1 from by kernel_rfl).trans
 ((show w14 x0 x1 = t14 x0 x1 from (cond_cong _ (fun h0 => (cond_t (ev_not1 (ev_nott h0)) rfl)) (fun h0 => (cond_cong _ (fun h1 => (cond_f (ev_not0 (ev_notf h0)) rfl)) (fun h1 => rfl))))).trans
 (show t14 x0 x1 = a14 x0 x1 (r14 x0 x1) from (cond_app (a14 x0 x1) _ rfl (cond_app (a14 x0 x1) _ rfl (cond_app (a14 x0 x1) _ (cond_app (a14 x0 x1) _ rfl rfl) rfl)))))
def s14 (args : List Value) (s : St) : List (Bool × Value × St) :=
 match args, s.h with
 | [.float .f64 x0, .float .f64 x1], [] => [(true, .bool (r14 x0 x1), st0)]
 | _, _ => T27 14 args s
def T28 : CallF := addF T27 14 s14
set_option maxRecDepth 100000 in
theorem ok28 : CfOk Try.prog T28 := by
  refine cfOk_add ok27 fun args s r s' h1 h2 h3 => ?_
  unfold s14 at h3; split at h3
  · rename_i h; exact callOk ok27 Try.func14 h1 h2 h (lfOkF_no _ _).body (e14 _ _) rfl h3
  · exact ok27 _ _ _ _ _ h1 h2 h3

/-- laws.eqFloat32A6 -/
def r120 (x0 x1 x2 x3 x4 x5 x6 x7 x8 x9 x10 x11 : Nat) : Bool :=
 cond (!(r14 (widen x0) (widen x6)))
  (false)
  (cond (!(r14 (widen x1) (widen x7)))
   (false)
   (cond (!(r14 (widen x2) (widen x8)))
    (false)
    (cond (!(r14 (widen x3) (widen x9)))
     (false)
     (cond (!(r14 (widen x4) (widen x10)))
      (false)
      (cond (!(r14 (widen x5) (widen x11)))
       (false)
       (true))))))
def a120 (x0 x1 x2 x3 x4 x5 x6 x7 x8 x9 x10 x11 : Nat) (p : Bool) : Res := firstT [(true, .bool p, st0)]
def t120 (x0 x1 x2 x3 x4 x5 x6 x7 x8 x9 x10 x11 : Nat) : Res :=
 (cond (!(r14 (widen x0) (widen x6)))
 (some (.bool false, st0))
 (cond (!(r14 (widen x1) (widen x7)))
  (some (.bool false, st0))
  (cond (!(r14 (widen x2) (widen x8)))
   (some (.bool false, st0))
   (cond (!(r14 (widen x3) (widen x9)))
    (some (.bool false, st0))
    (cond (!(r14 (widen x4) (widen x10)))
     (some (.bool false, st0))
     (cond (!(r14 (widen x5) (widen x11)))
      (some (.bool false, st0))
      (some (.bool true, st0))))))))
set_option maxRecDepth 100000 in
theorem e120 (x0 x1 x2 x3 x4 x5 x6 x7 x8 x9 x10 x11 : Nat) : evFn Try.prog ext T28 noL 200 Try.f120 [.agg #[.float .f32 x0, .float .f32 x1, .float .f32 x2, .float .f32 x3, .float .f32 x4, .float .f32 x5], .agg #[.float .f32 x6, .float .f32 x7, .float .f32 x8, .float .f32 x9, .float .f32 x10, .float .f32 x11]] st0 = firstT [(true, .bool (r120 x0 x1 x2 x3 x4 x5 x6 x7 x8 x9 x10 x11), st0)] :=
 (show evFn Try.prog ext T28 noL 200 Try.f120 [.agg #[.float .f32 x0, .float .f32 x1, .float .f32 x2, .float .f32 x3, .float .f32 x4, .float .f32 x5], .agg #[.float .f32 x6, .float .f32 x7, .float .f32 x8, .float .f32 x9, .float .f32 x10, .float .f32 x11]] st0 = t120 x0 x1 x2 x3 x4 x5 x6 x7 x8 x9 x10 x11 from by kernel_rfl).trans
 (show t120 x0 x1 x2 x3 x4 x5 x6 x7 x8 x9 x10 x11 = a120 x0 x1 x2 x3 x4 x5 x6 x7 x8 x9 x10 x11 (r120 x0 x1 x2 x3 x4 x5 x6 x7 x8 x9 x10 x11) from (cond_app (a120 x0 x1 x2 x3 x4 x5 x6 x7 x8 x9 x10 x11) _ rfl (cond_app (a120 x0 x1 x2 x3 x4 x5 x6 x7 x8 x9 x10 x11) _ rfl (cond_app (a120 x0 x1 x2 x3 x4 x5 x6 x7 x8 x9 x10 x11) _ rfl (cond_app (a120 x0 x1 x2 x3 x4 x5 x6 x7 x8 x9 x10 x11) _ rfl (cond_app (a120 x0 x1 x2 x3 x4 x5 x6 x7 x8 x9 x10 x11) _ rfl (cond_app (a120 x0 x1 x2 x3 x4 x5 x6 x7 x8 x9 x10 x11) _ rfl rfl)))))))
def s120 (args : List Value) (s : St) : List (Bool × Value × St) :=
 match args, s.h with
 | [.agg ⟨[.float .f32 x0, .float .f32 x1, .float .f32 x2, .float .f32 x3, .float .f32 x4, .float .f32 x5]⟩, .agg ⟨[.float .f32 x6, .float .f32 x7, .float .f32 x8, .float .f32 x9, .float .f32 x10, .float .f32 x11]⟩], [] => [(true, .bool (r120 x0 x1 x2 x3 x4 x5 x6 x7 x8 x9 x10 x11), st0)]
 | _, _ => T28 120 args s
def T29 : CallF := addF T28 120 s120
set_option maxRecDepth 100000 in
theorem ok29 : CfOk Try.prog T29 := by
  refine cfOk_add ok28 fun args s r s' h1 h2 h3 => ?_
  unfold s120 at h3; split at h3
  · rename_i h; exact callOk ok28 Try.func120 h1 h2 h (lfOkF_no _ _).body (e120 _ _ _ _ _ _ _ _ _ _ _ _) rfl h3
  · exact ok28 _ _ _ _ _ h1 h2 h3

/-- laws.eqWood -/
def r101 (x0 x1 x2 x3 x4 x5 x6 x7 x8 x9 x10 x11 x12 x13 x14 x15 x16 x17 x18 x19 x20 x21 x22 x23 x24 x25 x26 x27 x28 x29 x30 x31 x32 x33 x34 x35 : Nat) : Bool :=
 cond (!(r120 x0 x1 x2 x3 x4 x5 x18 x19 x20 x21 x22 x23))
  (false)
  (cond (!(r120 x6 x7 x8 x9 x10 x11 x24 x25 x26 x27 x28 x29))
   (false)
   (cond (!(r120 x12 x13 x14 x15 x16 x17 x30 x31 x32 x33 x34 x35))
    (false)
    (true)))
def a101 (x0 x1 x2 x3 x4 x5 x6 x7 x8 x9 x10 x11 x12 x13 x14 x15 x16 x17 x18 x19 x20 x21 x22 x23 x24 x25 x26 x27 x28 x29 x30 x31 x32 x33 x34 x35 : Nat) (p : Bool) : Res := firstT [(true, .bool p, st0)]
def t101 (x0 x1 x2 x3 x4 x5 x6 x7 x8 x9 x10 x11 x12 x13 x14 x15 x16 x17 x18 x19 x20 x21 x22 x23 x24 x25 x26 x27 x28 x29 x30 x31 x32 x33 x34 x35 : Nat) : Res :=
 (cond (!(r120 x0 x1 x2 x3 x4 x5 x18 x19 x20 x21 x22 x23))
 (some (.bool false, st0))
 (cond (!(r120 x6 x7 x8 x9 x10 x11 x24 x25 x26 x27 x28 x29))
  (some (.bool false, st0))
  (cond (!(r120 x12 x13 x14 x15 x16 x17 x30 x31 x32 x33 x34 x35))
   (some (.bool false, st0))
   (some (.bool true, st0)))))
set_option maxRecDepth 100000 in
theorem e101 (x0 x1 x2 x3 x4 x5 x6 x7 x8 x9 x10 x11 x12 x13 x14 x15 x16 x17 x18 x19 x20 x21 x22 x23 x24 x25 x26 x27 x28 x29 x30 x31 x32 x33 x34 x35 : Nat) : evFn Try.prog ext T29 noL 200 Try.f101 [.agg #[.float .f32 x0, .float .f32 x1, .float .f32 x2, .float .f32 x3, .float .f32 x4, .float .f32 x5, .float .f32 x6, .float .f32 x7, .float .f32 x8, .float .f32 x9, .float .f32 x10, .float .f32 x11, .float .f32 x12, .float .f32 x13, .float .f32 x14, .float .f32 x15, .float .f32 x16, .float .f32 x17], .agg #[.float .f32 x18, .float .f32 x19, .float .f32 x20, .float .f32 x21, .float .f32 x22, .float .f32 x23, .float .f32 x24, .float .f32 x25, .float .f32 x26, .float .f32 x27, .float .f32 x28, .float .f32 x29, .float .f32 x30, .float .f32 x31, .float .f32 x32, .float .f32 x33, .float .f32 x34, .float .f32 x35]] st0 = firstT [(true, .bool (r101 x0 x1 x2 x3 x4 x5 x6 x7 x8 x9 x10 x11 x12 x13 x14 x15 x16 x17 x18 x19 x20 x21 x22 x23 x24 x25 x26 x27 x28 x29 x30 x31 x32 x33 x34 x35), st0)] :=
 (show evFn Try.prog ext T29 noL 200 Try.f101 [.agg #[.float .f32 x0, .float .f32 x1, .float .f32 x2, .float .f32 x3, .float .f32 x4, .float .f32 x5, .float .f32 x6, .float .f32 x7, .float .f32 x8, .float .f32 x9, .float .f32 x10, .float .f32 x11, .float .f32 x12, .float .f32 x13, .float .f32 x14, .float .f32 x15, .float .f32 x16, .float .f32 x17], .agg #[.float .f32 x18, .float .f32 x19, .float .f32 x20, .float .f32 x21, .float .f32 x22, .float .f32 x23, .float .f32 x24, .float .f32 x25, .float .f32 x26, .float .f32 x27, .float .f32 x28, .float .f32 x29, .float .f32 x30, .float .f32 x31, .float .f32 x32, .float .f32 x33, .float .f32 x34, .float .f32 x35]] st0 = t101 x0 x1 x2 x3 x4 x5 x6 x7 x8 x9 x10 x11 x12 x13 x14 x15 x16 x17 x18 x19 x20 x21 x22 x23 x24 x25 x26 x27 x28 x29 x30 x31 x32 x33 x34 x35 from by kernel_rfl).trans
 (show t101 x0 x1 x2 x3 x4 x5 x6 x7 x8 x9 x10 x11 x12 x13 x14 x15 x16 x17 x18 x19 x20 x21 x22 x23 x24 x25 x26 x27 x28 x29 x30 x31 x32 x33 x34 x35 = a101 x0 x1 x2 x3 x4 x5 x6 x7 x8 x9 x10 x11 x12 x13 x14 x15 x16 x17 x18 x19 x20 x21 x22 x23 x24 x25 x26 x27 x28 x29 x30 x31 x32 x33 x34 x35 (r101 x0 x1 x2 x3 x4 x5 x6 x7 x8 x9 x10 x11 x12 x13 x14 x15 x16 x17 x18 x19 x20 x21 x22 x23 x24 x25 x26 x27 x28 x29 x30 x31 x32 x33 x34 x35) from (cond_app (a101 x0 x1 x2 x3 x4 x5 x6 x7 x8 x9 x10 x11 x12 x13 x14 x15 x16 x17 x18 x19 x20 x21 x22 x23 x24 x25 x26 x27 x28 x29 x30 x31 x32 x33 x34 x35) _ rfl (cond_app (a101 x0 x1 x2 x3 x4 x5 x6 x7 x8 x9 x10 x11 x12 x13 x14 x15 x16 x17 x18 x19 x20 x21 x22 x23 x24 x25 x26 x27 x28 x29 x30 x31 x32 x33 x34 x35) _ rfl (cond_app (a101 x0 x1 x2 x3 x4 x5 x6 x7 x8 x9 x10 x11 x12 x13 x14 x15 x16 x17 x18 x19 x20 x21 x22 x23 x24 x25 x26 x27 x28 x29 x30 x31 x32 x33 x34 x35) _ rfl rfl))))
def s101 (args : List Value) (s : St) : List (Bool × Value × St) :=
 match args, s.h with
 | [.agg ⟨[.float .f32 x0, .float .f32 x1, .float .f32 x2, .float .f32 x3, .float .f32 x4, .float .f32 x5, .float .f32 x6, .float .f32 x7, .float .f32 x8, .float .f32 x9, .float .f32 x10, .float .f32 x11, .float .f32 x12, .float .f32 x13, .float .f32 x14, .float .f32 x15, .float .f32 x16, .float .f32 x17]⟩, .agg ⟨[.float .f32 x18, .float .f32 x19, .float .f32 x20, .float .f32 x21, .float .f32 x22, .float .f32 x23, .float .f32 x24, .float .f32 x25, .float .f32 x26, .float .f32 x27, .float .f32 x28, .float .f32 x29, .float .f32 x30, .float .f32 x31, .float .f32 x32, .float .f32 x33, .float .f32 x34, .float .f32 x35]⟩], [] => [(true, .bool (r101 x0 x1 x2 x3 x4 x5 x6 x7 x8 x9 x10 x11 x12 x13 x14 x15 x16 x17 x18 x19 x20 x21 x22 x23 x24 x25 x26 x27 x28 x29 x30 x31 x32 x33 x34 x35), st0)]
 | _, _ => T29 101 args s
def T30 : CallF := addF T29 101 s101
set_option maxRecDepth 100000 in
theorem ok30 : CfOk Try.prog T30 := by
  refine cfOk_add ok29 fun args s r s' h1 h2 h3 => ?_
  unfold s101 at h3; split at h3
  · rename_i h; exact callOk ok29 Try.func101 h1 h2 h (lfOkF_no _ _).body (e101 _ _ _ _ _ _ _ _ _ _ _ _ _ _ _ _ _ _ _ _ _ _ _ _ _ _ _ _ _ _ _ _ _ _ _ _) rfl h3
  · exact ok29 _ _ _ _ _ h1 h2 h3

/-- laws.eqWoodS, loop 0: one round -/
def b66l0 (ih : Int → List (List Int) → List (List Int) → Nat) (x0 : Int) (x1 x2 : List (List Int)) : Nat :=
 let c69 := (r101 (Int.toNat ((x1.getD (Int.toNat x0) []).getD 0 0)) (Int.toNat ((x1.getD (Int.toNat x0) []).getD 1 0)) (Int.toNat ((x1.getD (Int.toNat x0) []).getD 2 0)) (Int.toNat ((x1.getD (Int.toNat x0) []).getD 3 0)) (Int.toNat ((x1.getD (Int.toNat x0) []).getD 4 0)) (Int.toNat ((x1.getD (Int.toNat x0) []).getD 5 0)) (Int.toNat ((x1.getD (Int.toNat x0) []).getD 6 0)) (Int.toNat ((x1.getD (Int.toNat x0) []).getD 7 0)) (Int.toNat ((x1.getD (Int.toNat x0) []).getD 8 0)) (Int.toNat ((x1.getD (Int.toNat x0) []).getD 9 0)) (Int.toNat ((x1.getD (Int.toNat x0) []).getD 10 0)) (Int.toNat ((x1.getD (Int.toNat x0) []).getD 11 0)) (Int.toNat ((x1.getD (Int.toNat x0) []).getD 12 0)) (Int.toNat ((x1.getD (Int.toNat x0) []).getD 13 0)) (Int.toNat ((x1.getD (Int.toNat x0) []).getD 14 0)) (Int.toNat ((x1.getD (Int.toNat x0) []).getD 15 0)) (Int.toNat ((x1.getD (Int.toNat x0) []).getD 16 0)) (Int.toNat ((x1.getD (Int.toNat x0) []).getD 17 0)) (Int.toNat ((x2.getD (Int.toNat x0) []).getD 0 0)) (Int.toNat ((x2.getD (Int.toNat x0) []).getD 1 0)) (Int.toNat ((x2.getD (Int.toNat x0) []).getD 2 0)) (Int.toNat ((x2.getD (Int.toNat x0) []).getD 3 0)) (Int.toNat ((x2.getD (Int.toNat x0) []).getD 4 0)) (Int.toNat ((x2.getD (Int.toNat x0) []).getD 5 0)) (Int.toNat ((x2.getD (Int.toNat x0) []).getD 6 0)) (Int.toNat ((x2.getD (Int.toNat x0) []).getD 7 0)) (Int.toNat ((x2.getD (Int.toNat x0) []).getD 8 0)) (Int.toNat ((x2.getD (Int.toNat x0) []).getD 9 0)) (Int.toNat ((x2.getD (Int.toNat x0) []).getD 10 0)) (Int.toNat ((x2.getD (Int.toNat x0) []).getD 11 0)) (Int.toNat ((x2.getD (Int.toNat x0) []).getD 12 0)) (Int.toNat ((x2.getD (Int.toNat x0) []).getD 13 0)) (Int.toNat ((x2.getD (Int.toNat x0) []).getD 14 0)) (Int.toNat ((x2.getD (Int.toNat x0) []).getD 15 0)) (Int.toNat ((x2.getD (Int.toNat x0) []).getD 16 0)) (Int.toNat ((x2.getD (Int.toNat x0) []).getD 17 0)))
 cond (decide ((x0 : Int) < ((x1.length : Nat) : Int)))
  (cond ((decide ((0 : Int) ≤ x0)) && (Nat.blt (Int.toNat x0) x1.length))
   (cond ((decide ((0 : Int) ≤ x0)) && (Nat.blt (Int.toNat x0) x2.length))
    (cond (!c69)
     (0)
     (ih (IntKind.i64.wrap (x0 + 1)) x1 x2))
    (2))
   (2))
  (1)
def r66l0 : Nat → Int → List (List Int) → List (List Int) → Nat
 | 0, _, _, _ => (2)
 | m + 1, x0, x1, x2 => b66l0 (r66l0 m) x0 x1 x2
def a66l0 (x0 : Int) (x1 x2 : List (List Int)) (p : Nat) : Option (Fin' × List Value × St) := firstT ([((Nat.beq p 0), .ret, [.bool false], ⟨[⟨true, (some (.tab sc0 x1))⟩, ⟨true, (some (.tab sc0 x2))⟩], 2, false⟩), ((Nat.beq p 1), .exit 0, [anyV], ⟨[⟨true, (some (.tab sc0 x1))⟩, ⟨true, (some (.tab sc0 x2))⟩], 2, false⟩)].map fun (b, x) => (b, (x.1, frameOf 27 [4] x.2.1, x.2.2)))
theorem v66l0 (x0 : Int) (x1 x2 : List (List Int)) (p : Nat) : alts ([((Nat.beq p 0), .ret, [.bool false], ⟨[⟨true, (some (.tab sc0 x1))⟩, ⟨true, (some (.tab sc0 x2))⟩], 2, false⟩), ((Nat.beq p 1), .exit 0, [anyV], ⟨[⟨true, (some (.tab sc0 x1))⟩, ⟨true, (some (.tab sc0 x2))⟩], 2, false⟩)].map fun (b, x) => (b, (x.1, frameOf 27 [4] x.2.1, x.2.2))) some = a66l0 x0 x1 x2 p := alts_first _
def q66l0 (m : Nat) : SumK := fun vals s =>
 match vals, s.h with
 | [.iface f0 .nilIface, .iface f1 .nilIface, .int .i64 x0], [⟨true, some (.tab [.fl .f32, .fl .f32, .fl .f32, .fl .f32, .fl .f32, .fl .f32, .fl .f32, .fl .f32, .fl .f32, .fl .f32, .fl .f32, .fl .f32, .fl .f32, .fl .f32, .fl .f32, .fl .f32, .fl .f32, .fl .f32] x1)⟩, ⟨true, some (.tab [.fl .f32, .fl .f32, .fl .f32, .fl .f32, .fl .f32, .fl .f32, .fl .f32, .fl .f32, .fl .f32, .fl .f32, .fl .f32, .fl .f32, .fl .f32, .fl .f32, .fl .f32, .fl .f32, .fl .f32, .fl .f32] x2)⟩] => if f0 = 0 ∧ f1 = 1 then [((Nat.beq (r66l0 m x0 x1 x2) 0), .ret, [.bool false], ⟨[⟨true, (some (.tab sc0 x1))⟩, ⟨true, (some (.tab sc0 x2))⟩], 2, false⟩), ((Nat.beq (r66l0 m x0 x1 x2) 1), .exit 0, [anyV], ⟨[⟨true, (some (.tab sc0 x1))⟩, ⟨true, (some (.tab sc0 x2))⟩], 2, false⟩)] else noQ vals s
 | _, _ => noQ vals s
def t66l0 (ih : Int → List (List Int) → List (List Int) → Nat) (x0 : Int) (x1 x2 : List (List Int)) : Option (Fin' × List Value × St) :=
 let c69 := (r101 (Int.toNat ((x1.getD (Int.toNat x0) []).getD 0 0)) (Int.toNat ((x1.getD (Int.toNat x0) []).getD 1 0)) (Int.toNat ((x1.getD (Int.toNat x0) []).getD 2 0)) (Int.toNat ((x1.getD (Int.toNat x0) []).getD 3 0)) (Int.toNat ((x1.getD (Int.toNat x0) []).getD 4 0)) (Int.toNat ((x1.getD (Int.toNat x0) []).getD 5 0)) (Int.toNat ((x1.getD (Int.toNat x0) []).getD 6 0)) (Int.toNat ((x1.getD (Int.toNat x0) []).getD 7 0)) (Int.toNat ((x1.getD (Int.toNat x0) []).getD 8 0)) (Int.toNat ((x1.getD (Int.toNat x0) []).getD 9 0)) (Int.toNat ((x1.getD (Int.toNat x0) []).getD 10 0)) (Int.toNat ((x1.getD (Int.toNat x0) []).getD 11 0)) (Int.toNat ((x1.getD (Int.toNat x0) []).getD 12 0)) (Int.toNat ((x1.getD (Int.toNat x0) []).getD 13 0)) (Int.toNat ((x1.getD (Int.toNat x0) []).getD 14 0)) (Int.toNat ((x1.getD (Int.toNat x0) []).getD 15 0)) (Int.toNat ((x1.getD (Int.toNat x0) []).getD 16 0)) (Int.toNat ((x1.getD (Int.toNat x0) []).getD 17 0)) (Int.toNat ((x2.getD (Int.toNat x0) []).getD 0 0)) (Int.toNat ((x2.getD (Int.toNat x0) []).getD 1 0)) (Int.toNat ((x2.getD (Int.toNat x0) []).getD 2 0)) (Int.toNat ((x2.getD (Int.toNat x0) []).getD 3 0)) (Int.toNat ((x2.getD (Int.toNat x0) []).getD 4 0)) (Int.toNat ((x2.getD (Int.toNat x0) []).getD 5 0)) (Int.toNat ((x2.getD (Int.toNat x0) []).getD 6 0)) (Int.toNat ((x2.getD (Int.toNat x0) []).getD 7 0)) (Int.toNat ((x2.getD (Int.toNat x0) []).getD 8 0)) (Int.toNat ((x2.getD (Int.toNat x0) []).getD 9 0)) (Int.toNat ((x2.getD (Int.toNat x0) []).getD 10 0)) (Int.toNat ((x2.getD (Int.toNat x0) []).getD 11 0)) (Int.toNat ((x2.getD (Int.toNat x0) []).getD 12 0)) (Int.toNat ((x2.getD (Int.toNat x0) []).getD 13 0)) (Int.toNat ((x2.getD (Int.toNat x0) []).getD 14 0)) (Int.toNat ((x2.getD (Int.toNat x0) []).getD 15 0)) (Int.toNat ((x2.getD (Int.toNat x0) []).getD 16 0)) (Int.toNat ((x2.getD (Int.toNat x0) []).getD 17 0)))
 (cond (decide ((x0 : Int) < ((x1.length : Nat) : Int)))
 (cond ((decide ((0 : Int) ≤ x0)) && (Nat.blt (Int.toNat x0) x1.length))
  (cond ((decide ((0 : Int) ≤ x0)) && (Nat.blt (Int.toNat x0) x2.length))
   (cond (!c69)
    (some (.ret, frameOf 27 [4] [.bool false], ⟨[⟨true, (some (.tab sc0 x1))⟩, ⟨true, (some (.tab sc0 x2))⟩], 2, false⟩))
    (cond (Nat.beq (ih (IntKind.i64.wrap (x0 + 1)) x1 x2) 0)
     (some (.ret, frameOf 27 [4] [.bool false], ⟨[⟨true, (some (.tab sc0 x1))⟩, ⟨true, (some (.tab sc0 x2))⟩], 2, false⟩))
     (cond (Nat.beq (ih (IntKind.i64.wrap (x0 + 1)) x1 x2) 1)
      (some (.exit 0, frameOf 27 [4] [anyV], ⟨[⟨true, (some (.tab sc0 x1))⟩, ⟨true, (some (.tab sc0 x2))⟩], 2, false⟩))
      none)))
   none)
  none)
 (some (.exit 0, frameOf 27 [4] [anyV], ⟨[⟨true, (some (.tab sc0 x1))⟩, ⟨true, (some (.tab sc0 x2))⟩], 2, false⟩)))
def w66l0 (ih : Int → List (List Int) → List (List Int) → Nat) (x0 : Int) (x1 x2 : List (List Int)) : Option (Fin' × List Value × St) :=
 let c69 := (r101 (Int.toNat ((x1.getD (Int.toNat x0) []).getD 0 0)) (Int.toNat ((x1.getD (Int.toNat x0) []).getD 1 0)) (Int.toNat ((x1.getD (Int.toNat x0) []).getD 2 0)) (Int.toNat ((x1.getD (Int.toNat x0) []).getD 3 0)) (Int.toNat ((x1.getD (Int.toNat x0) []).getD 4 0)) (Int.toNat ((x1.getD (Int.toNat x0) []).getD 5 0)) (Int.toNat ((x1.getD (Int.toNat x0) []).getD 6 0)) (Int.toNat ((x1.getD (Int.toNat x0) []).getD 7 0)) (Int.toNat ((x1.getD (Int.toNat x0) []).getD 8 0)) (Int.toNat ((x1.getD (Int.toNat x0) []).getD 9 0)) (Int.toNat ((x1.getD (Int.toNat x0) []).getD 10 0)) (Int.toNat ((x1.getD (Int.toNat x0) []).getD 11 0)) (Int.toNat ((x1.getD (Int.toNat x0) []).getD 12 0)) (Int.toNat ((x1.getD (Int.toNat x0) []).getD 13 0)) (Int.toNat ((x1.getD (Int.toNat x0) []).getD 14 0)) (Int.toNat ((x1.getD (Int.toNat x0) []).getD 15 0)) (Int.toNat ((x1.getD (Int.toNat x0) []).getD 16 0)) (Int.toNat ((x1.getD (Int.toNat x0) []).getD 17 0)) (Int.toNat ((x2.getD (Int.toNat x0) []).getD 0 0)) (Int.toNat ((x2.getD (Int.toNat x0) []).getD 1 0)) (Int.toNat ((x2.getD (Int.toNat x0) []).getD 2 0)) (Int.toNat ((x2.getD (Int.toNat x0) []).getD 3 0)) (Int.toNat ((x2.getD (Int.toNat x0) []).getD 4 0)) (Int.toNat ((x2.getD (Int.toNat x0) []).getD 5 0)) (Int.toNat ((x2.getD (Int.toNat x0) []).getD 6 0)) (Int.toNat ((x2.getD (Int.toNat x0) []).getD 7 0)) (Int.toNat ((x2.getD (Int.toNat x0) []).getD 8 0)) (Int.toNat ((x2.getD (Int.toNat x0) []).getD 9 0)) (Int.toNat ((x2.getD (Int.toNat x0) []).getD 10 0)) (Int.toNat ((x2.getD (Int.toNat x0) []).getD 11 0)) (Int.toNat ((x2.getD (Int.toNat x0) []).getD 12 0)) (Int.toNat ((x2.getD (Int.toNat x0) []).getD 13 0)) (Int.toNat ((x2.getD (Int.toNat x0) []).getD 14 0)) (Int.toNat ((x2.getD (Int.toNat x0) []).getD 15 0)) (Int.toNat ((x2.getD (Int.toNat x0) []).getD 16 0)) (Int.toNat ((x2.getD (Int.toNat x0) []).getD 17 0)))
 (cond (decide ((x0 : Int) < ((x1.length : Nat) : Int)))
 (cond ((decide ((0 : Int) ≤ x0)) && (Nat.blt (Int.toNat x0) x1.length))
  (cond (Nat.blt (Int.toNat x0) x1.length)
   (cond ((decide ((0 : Int) ≤ x0)) && (Nat.blt (Int.toNat x0) x2.length))
    (cond (Nat.blt (Int.toNat x0) x2.length)
     (cond (!c69)
      (some (.ret, frameOf 27 [4] [.bool false], ⟨[⟨true, (some (.tab sc0 x1))⟩, ⟨true, (some (.tab sc0 x2))⟩], 2, false⟩))
      (cond (Nat.beq (ih (IntKind.i64.wrap (x0 + 1)) x1 x2) 0)
       (some (.ret, frameOf 27 [4] [.bool false], ⟨[⟨true, (some (.tab sc0 x1))⟩, ⟨true, (some (.tab sc0 x2))⟩], 2, false⟩))
       (cond (Nat.beq (ih (IntKind.i64.wrap (x0 + 1)) x1 x2) 1)
        (some (.exit 0, frameOf 27 [4] [anyV], ⟨[⟨true, (some (.tab sc0 x1))⟩, ⟨true, (some (.tab sc0 x2))⟩], 2, false⟩))
        none)))
     none)
    none)
   none)
  none)
 (some (.exit 0, frameOf 27 [4] [anyV], ⟨[⟨true, (some (.tab sc0 x1))⟩, ⟨true, (some (.tab sc0 x2))⟩], 2, false⟩)))
set_option maxRecDepth 100000 in
theorem e66l0 (m : Nat) (x0 : Int) (x1 x2 : List (List Int)) : evC Try.prog ext T30 noL 200 (loopN Try.f66 0) (loopTail [0, 1, 5] [4] false (sumK 27 [0, 1, 5] [4] (q66l0 m))) (frameOf 27 [0, 1, 5] [wsl 0, wsl 1, .int .i64 x0]) ⟨[⟨true, (some (.tab sc0 x1))⟩, ⟨true, (some (.tab sc0 x2))⟩], 2, false⟩ = firstT ([((Nat.beq (r66l0 (m + 1) x0 x1 x2) 0), .ret, [.bool false], ⟨[⟨true, (some (.tab sc0 x1))⟩, ⟨true, (some (.tab sc0 x2))⟩], 2, false⟩), ((Nat.beq (r66l0 (m + 1) x0 x1 x2) 1), .exit 0, [anyV], ⟨[⟨true, (some (.tab sc0 x1))⟩, ⟨true, (some (.tab sc0 x2))⟩], 2, false⟩)].map fun (b, x) => (b, (x.1, frameOf 27 [4] x.2.1, x.2.2))) :=
 (show evC Try.prog ext T30 noL 200 (loopN Try.f66 0) (loopTail [0, 1, 5] [4] false (sumK 27 [0, 1, 5] [4] (q66l0 m))) (frameOf 27 [0, 1, 5] [wsl 0, wsl 1, .int .i64 x0]) ⟨[⟨true, (some (.tab sc0 x1))⟩, ⟨true, (some (.tab sc0 x2))⟩], 2, false⟩ = w66l0 (r66l0 m) x0 x1 x2 from by kernel_rfl).trans
 ((show w66l0 (r66l0 m) x0 x1 x2 = t66l0 (r66l0 m) x0 x1 x2 from (cond_cong _ (fun h0 => (cond_cong _ (fun h1 => (cond_t (ev_and2 h1) (cond_cong _ (fun h2 => (cond_t (ev_and2 h2) rfl)) (fun h2 => rfl)))) (fun h1 => rfl))) (fun h0 => rfl))).trans
 (show t66l0 (r66l0 m) x0 x1 x2 = a66l0 x0 x1 x2 (r66l0 (m + 1) x0 x1 x2) from (cond_app (a66l0 x0 x1 x2) _ (cond_app (a66l0 x0 x1 x2) _ (cond_app (a66l0 x0 x1 x2) _ (cond_app (a66l0 x0 x1 x2) _ rfl (v66l0 x0 x1 x2 ((r66l0 m) (IntKind.i64.wrap (x0 + 1)) x1 x2))) rfl) rfl) rfl)))
set_option maxRecDepth 100000 in
theorem qm66l0 : ∀ m, SumKOk Try.prog (loopN Try.f66 0) 27 [0, 1, 5] [4] (q66l0 m) := by
  intro m
  induction m with
  | zero =>
    intro vals s x h1 h2 h3
    unfold q66l0 at h3; split at h3
    · rename_i h; split at h3
      · rename_i hc; obtain ⟨rfl, rfl⟩ := hc; exact absurd h3 (by simp [r66l0, firstT, Nat.beq])
      · exact noQ_ok _ _ _ h1 h2 h3
    · exact noQ_ok _ _ _ h1 h2 h3
  | succ m ih =>
    intro vals s x h1 h2 h3
    unfold q66l0 at h3; split at h3
    · rename_i h; split at h3
      · rename_i hc; obtain ⟨rfl, rfl⟩ := hc; exact sum_step ok30 extOk mixed ((lfOkF_no _ _).inner (by kernel_rfl)) ih h1 h2 h (e66l0 m _ _ _) rfl h3
      · exact noQ_ok _ _ _ h1 h2 h3
    · exact noQ_ok _ _ _ h1 h2 h3
def Q66l0 : SumK := fun vals s => q66l0 (fuelOf vals s.h) vals s
theorem qok66l0 : SumKOk Try.prog (loopN Try.f66 0) 27 [0, 1, 5] [4] Q66l0 := fuel_ok qm66l0 fuelOf
def L66_1 : LoopT := addL noL 5 [0, 1, 5] (sumK 27 [0, 1, 5] [4] Q66l0)
theorem lok66_1 : LfOkF Try.prog L66_1 Try.f66 := lfOkF_add (lfOkF_no _ _) qok66l0 (by kernel_rfl) (by kernel_rfl) (by kernel_rfl)

/-- laws.eqWoodS -/
def r66 (x0 x1 : List (List Int)) : Nat × Bool :=
 cond ((((x0.length : Nat) : Int) : Int) != ((x1.length : Nat) : Int))
  (0, false)
  (cond (Nat.beq (r66l0 (1000 + x1.length + x0.length) 0 x0 x1) 0)
   (0, false)
   (cond (Nat.beq (r66l0 (1000 + x1.length + x0.length) 0 x0 x1) 1)
    (0, true)
    (1, false)))
def a66 (x0 x1 : List (List Int)) (p : Nat × Bool) : Res := firstT [((Nat.beq (p.1) 0), .bool (p.2), ⟨[⟨true, (some (.tab sc0 x0))⟩, ⟨true, (some (.tab sc0 x1))⟩], 2, false⟩)]
def t66 (x0 x1 : List (List Int)) : Res :=
 (cond ((((x0.length : Nat) : Int) : Int) != ((x1.length : Nat) : Int))
 (some (.bool false, ⟨[⟨true, (some (.tab sc0 x0))⟩, ⟨true, (some (.tab sc0 x1))⟩], 2, false⟩))
 (cond (Nat.beq (r66l0 (1000 + x1.length + x0.length) 0 x0 x1) 0)
  (some (.bool false, ⟨[⟨true, (some (.tab sc0 x0))⟩, ⟨true, (some (.tab sc0 x1))⟩], 2, false⟩))
  (cond (Nat.beq (r66l0 (1000 + x1.length + x0.length) 0 x0 x1) 1)
   (some (.bool true, ⟨[⟨true, (some (.tab sc0 x0))⟩, ⟨true, (some (.tab sc0 x1))⟩], 2, false⟩))
   none)))
set_option maxRecDepth 100000 in
theorem e66 (x0 x1 : List (List Int)) : evFn Try.prog ext T30 L66_1 200 Try.f66 [wsl 0, wsl 1] ⟨[⟨true, (some (.tab sc0 x0))⟩, ⟨true, (some (.tab sc0 x1))⟩], 2, false⟩ = firstT [((Nat.beq ((r66 x0 x1).1) 0), .bool ((r66 x0 x1).2), ⟨[⟨true, (some (.tab sc0 x0))⟩, ⟨true, (some (.tab sc0 x1))⟩], 2, false⟩)] :=
 (show evFn Try.prog ext T30 L66_1 200 Try.f66 [wsl 0, wsl 1] ⟨[⟨true, (some (.tab sc0 x0))⟩, ⟨true, (some (.tab sc0 x1))⟩], 2, false⟩ = t66 x0 x1 from by kernel_rfl).trans
 (show t66 x0 x1 = a66 x0 x1 (r66 x0 x1) from (cond_app (a66 x0 x1) _ rfl (cond_app (a66 x0 x1) _ rfl (cond_app (a66 x0 x1) _ rfl rfl))))
def s66 (args : List Value) (s : St) : List (Bool × Value × St) :=
 match args, s.h with
 | [.iface f0 .nilIface, .iface f1 .nilIface], [⟨true, some (.tab [.fl .f32, .fl .f32, .fl .f32, .fl .f32, .fl .f32, .fl .f32, .fl .f32, .fl .f32, .fl .f32, .fl .f32, .fl .f32, .fl .f32, .fl .f32, .fl .f32, .fl .f32, .fl .f32, .fl .f32, .fl .f32] x0)⟩, ⟨true, some (.tab [.fl .f32, .fl .f32, .fl .f32, .fl .f32, .fl .f32, .fl .f32, .fl .f32, .fl .f32, .fl .f32, .fl .f32, .fl .f32, .fl .f32, .fl .f32, .fl .f32, .fl .f32, .fl .f32, .fl .f32, .fl .f32] x1)⟩] => if f0 = 0 ∧ f1 = 1 then [((Nat.beq ((r66 x0 x1).1) 0), .bool ((r66 x0 x1).2), ⟨[⟨true, (some (.tab sc0 x0))⟩, ⟨true, (some (.tab sc0 x1))⟩], 2, false⟩)] else T30 66 args s
 | _, _ => T30 66 args s
def T31 : CallF := addF T30 66 s66
set_option maxRecDepth 100000 in
theorem ok31 : CfOk Try.prog T31 := by
  refine cfOk_add ok30 fun args s r s' h1 h2 h3 => ?_
  unfold s66 at h3; split at h3
  · rename_i h; split at h3
    · rename_i hc; obtain ⟨rfl, rfl⟩ := hc; exact callOk ok30 Try.func66 h1 h2 h lok66_1.body (e66 _ _) rfl h3
    · exact ok30 _ _ _ _ _ h1 h2 h3
  · exact ok30 _ _ _ _ _ h1 h2 h3

/-- laws.eqStove -/
def r23 (x0 x1 : Nat) (x2 x3 : Int) (x4 x5 x6 : Nat) (x7 x8 : Int) (x9 : Nat) (x10 x11 : List (List Int)) : Nat × Bool :=
 cond (Nat.beq ((r66 x10 x11).1) 0)
  (cond (!((r66 x10 x11).2))
   (0, false)
   (cond (!(r14 (widen x0) (widen x5)))
    (0, false)
    (cond (!(r14 (widen x1) (widen x6)))
     (0, false)
     (cond ((x2 : Int) != x7)
      (0, false)
      (cond ((x3 : Int) != x8)
       (0, false)
       (cond (!(r14 (widen x4) (widen x9)))
        (0, false)
        (0, true)))))))
  (1, false)
def a23 (x0 x1 : Nat) (x2 x3 : Int) (x4 x5 x6 : Nat) (x7 x8 : Int) (x9 : Nat) (x10 x11 : List (List Int)) (p : Nat × Bool) : Res := firstT [((Nat.beq (p.1) 0), .bool (p.2), ⟨[⟨true, (some (.tab sc0 x10))⟩, ⟨true, (some (.tab sc0 x11))⟩], 2, false⟩)]
def t23 (x0 x1 : Nat) (x2 x3 : Int) (x4 x5 x6 : Nat) (x7 x8 : Int) (x9 : Nat) (x10 x11 : List (List Int)) : Res :=
 (cond (Nat.beq ((r66 x10 x11).1) 0)
 (cond (!((r66 x10 x11).2))
  (some (.bool false, ⟨[⟨true, (some (.tab sc0 x10))⟩, ⟨true, (some (.tab sc0 x11))⟩], 2, false⟩))
  (cond (!(r14 (widen x0) (widen x5)))
   (some (.bool false, ⟨[⟨true, (some (.tab sc0 x10))⟩, ⟨true, (some (.tab sc0 x11))⟩], 2, false⟩))
   (cond (!(r14 (widen x1) (widen x6)))
    (some (.bool false, ⟨[⟨true, (some (.tab sc0 x10))⟩, ⟨true, (some (.tab sc0 x11))⟩], 2, false⟩))
    (cond ((x2 : Int) != x7)
     (some (.bool false, ⟨[⟨true, (some (.tab sc0 x10))⟩, ⟨true, (some (.tab sc0 x11))⟩], 2, false⟩))
     (cond ((x3 : Int) != x8)
      (some (.bool false, ⟨[⟨true, (some (.tab sc0 x10))⟩, ⟨true, (some (.tab sc0 x11))⟩], 2, false⟩))
      (cond (!(r14 (widen x4) (widen x9)))
       (some (.bool false, ⟨[⟨true, (some (.tab sc0 x10))⟩, ⟨true, (some (.tab sc0 x11))⟩], 2, false⟩))
       (some (.bool true, ⟨[⟨true, (some (.tab sc0 x10))⟩, ⟨true, (some (.tab sc0 x11))⟩], 2, false⟩))))))))
 none)
set_option maxRecDepth 100000 in
theorem e23 (x0 x1 : Nat) (x2 x3 : Int) (x4 x5 x6 : Nat) (x7 x8 : Int) (x9 : Nat) (x10 x11 : List (List Int)) : evFn Try.prog ext T31 noL 200 Try.f23 [.agg #[wsl 0, .float .f32 x0, .float .f32 x1, .int .i8 x2, .int .i64 x3, .float .f32 x4], .agg #[wsl 1, .float .f32 x5, .float .f32 x6, .int .i8 x7, .int .i64 x8, .float .f32 x9]] ⟨[⟨true, (some (.tab sc0 x10))⟩, ⟨true, (some (.tab sc0 x11))⟩], 2, false⟩ = firstT [((Nat.beq ((r23 x0 x1 x2 x3 x4 x5 x6 x7 x8 x9 x10 x11).1) 0), .bool ((r23 x0 x1 x2 x3 x4 x5 x6 x7 x8 x9 x10 x11).2), ⟨[⟨true, (some (.tab sc0 x10))⟩, ⟨true, (some (.tab sc0 x11))⟩], 2, false⟩)] :=
 (show evFn Try.prog ext T31 noL 200 Try.f23 [.agg #[wsl 0, .float .f32 x0, .float .f32 x1, .int .i8 x2, .int .i64 x3, .float .f32 x4], .agg #[wsl 1, .float .f32 x5, .float .f32 x6, .int .i8 x7, .int .i64 x8, .float .f32 x9]] ⟨[⟨true, (some (.tab sc0 x10))⟩, ⟨true, (some (.tab sc0 x11))⟩], 2, false⟩ = t23 x0 x1 x2 x3 x4 x5 x6 x7 x8 x9 x10 x11 from by kernel_rfl).trans
 (show t23 x0 x1 x2 x3 x4 x5 x6 x7 x8 x9 x10 x11 = a23 x0 x1 x2 x3 x4 x5 x6 x7 x8 x9 x10 x11 (r23 x0 x1 x2 x3 x4 x5 x6 x7 x8 x9 x10 x11) from (cond_app (a23 x0 x1 x2 x3 x4 x5 x6 x7 x8 x9 x10 x11) _ (cond_app (a23 x0 x1 x2 x3 x4 x5 x6 x7 x8 x9 x10 x11) _ rfl (cond_app (a23 x0 x1 x2 x3 x4 x5 x6 x7 x8 x9 x10 x11) _ rfl (cond_app (a23 x0 x1 x2 x3 x4 x5 x6 x7 x8 x9 x10 x11) _ rfl (cond_app (a23 x0 x1 x2 x3 x4 x5 x6 x7 x8 x9 x10 x11) _ rfl (cond_app (a23 x0 x1 x2 x3 x4 x5 x6 x7 x8 x9 x10 x11) _ rfl (cond_app (a23 x0 x1 x2 x3 x4 x5 x6 x7 x8 x9 x10 x11) _ rfl rfl)))))) rfl))
def s23 (args : List Value) (s : St) : List (Bool × Value × St) :=
 match args, s.h with
 | [.agg ⟨[.iface f0 .nilIface, .float .f32 x0, .float .f32 x1, .int .i8 x2, .int .i64 x3, .float .f32 x4]⟩, .agg ⟨[.iface f1 .nilIface, .float .f32 x5, .float .f32 x6, .int .i8 x7, .int .i64 x8, .float .f32 x9]⟩], [⟨true, some (.tab [.fl .f32, .fl .f32, .fl .f32, .fl .f32, .fl .f32, .fl .f32, .fl .f32, .fl .f32, .fl .f32, .fl .f32, .fl .f32, .fl .f32, .fl .f32, .fl .f32, .fl .f32, .fl .f32, .fl .f32, .fl .f32] x10)⟩, ⟨true, some (.tab [.fl .f32, .fl .f32, .fl .f32, .fl .f32, .fl .f32, .fl .f32, .fl .f32, .fl .f32, .fl .f32, .fl .f32, .fl .f32, .fl .f32, .fl .f32, .fl .f32, .fl .f32, .fl .f32, .fl .f32, .fl .f32] x11)⟩] => if f0 = 0 ∧ f1 = 1 then [((Nat.beq ((r23 x0 x1 x2 x3 x4 x5 x6 x7 x8 x9 x10 x11).1) 0), .bool ((r23 x0 x1 x2 x3 x4 x5 x6 x7 x8 x9 x10 x11).2), ⟨[⟨true, (some (.tab sc0 x10))⟩, ⟨true, (some (.tab sc0 x11))⟩], 2, false⟩)] else T31 23 args s
 | _, _ => T31 23 args s
def T32 : CallF := addF T31 23 s23
set_option maxRecDepth 100000 in
theorem ok32 : CfOk Try.prog T32 := by
  refine cfOk_add ok31 fun args s r s' h1 h2 h3 => ?_
  unfold s23 at h3; split at h3
  · rename_i h; split at h3
    · rename_i hc; obtain ⟨rfl, rfl⟩ := hc; exact callOk ok31 Try.func23 h1 h2 h (lfOkF_no _ _).body (e23 _ _ _ _ _ _ _ _ _ _ _ _) rfl h3
    · exact ok31 _ _ _ _ _ h1 h2 h3
  · exact ok31 _ _ _ _ _ h1 h2 h3

/-- laws.FnExactFuelIn -/
def r6 (x0 x1 : Nat) (x2 x3 : Int) (x4 : Nat) (x5 : List (List Int)) : Nat × Bool :=
 let c52 := (r14 (widen ((r22 x0 x1 x2 x3 x4 ((r21 x0 x1 x2 x3 x4 x5).2)).2.1)) (widen ((r20 x0 x1 x2 x3 x4 ((r21 x0 x1 x2 x3 x4 x5).2)).2.1)))
 cond (decide (((r19 x0 x1 x2 x3 x4 1048576 x5) : Int) < 0))
  (0, true)
  (cond (Nat.beq ((r21 x0 x1 x2 x3 x4 x5).1) 0)
   (cond (Nat.beq ((r20 x0 x1 x2 x3 x4 ((r21 x0 x1 x2 x3 x4 x5).2)).1) 0)
    (cond (Nat.beq ((r22 x0 x1 x2 x3 x4 ((r21 x0 x1 x2 x3 x4 x5).2)).1) 0)
     (cond (!c52)
      (0, false)
      (cond ((((r22 x0 x1 x2 x3 x4 ((r21 x0 x1 x2 x3 x4 x5).2)).2.2) : Int) != ((r20 x0 x1 x2 x3 x4 ((r21 x0 x1 x2 x3 x4 x5).2)).2.2))
       (0, false)
       (cond (Nat.beq ((r23 x0 x1 x2 x3 x4 x0 x1 x2 x3 x4 ((r21 x0 x1 x2 x3 x4 x5).2) ((r21 x0 x1 x2 x3 x4 x5).2)).1) 0)
        (cond (!((r23 x0 x1 x2 x3 x4 x0 x1 x2 x3 x4 ((r21 x0 x1 x2 x3 x4 x5).2) ((r21 x0 x1 x2 x3 x4 x5).2)).2))
         (0, false)
         (0, true))
        (1, false))))
     (1, false))
    (1, false))
   (1, false))
def a6 (x0 x1 : Nat) (x2 x3 : Int) (x4 : Nat) (x5 : List (List Int)) (p : Nat × Bool) : Res := firstT [((Nat.beq (p.1) 0), .bool (p.2), ⟨[⟨false, (some (.tab sc0 x5))⟩], 1, false⟩)]
def t6 (x0 x1 : Nat) (x2 x3 : Int) (x4 : Nat) (x5 : List (List Int)) : Res :=
 let c52 := (r14 (widen ((r22 x0 x1 x2 x3 x4 ((r21 x0 x1 x2 x3 x4 x5).2)).2.1)) (widen ((r20 x0 x1 x2 x3 x4 ((r21 x0 x1 x2 x3 x4 x5).2)).2.1)))
 (cond (decide (((r19 x0 x1 x2 x3 x4 1048576 x5) : Int) < 0))
 (some (.bool true, ⟨[⟨false, (some (.tab sc0 x5))⟩], 1, false⟩))
 (cond (Nat.beq ((r21 x0 x1 x2 x3 x4 x5).1) 0)
  (cond (Nat.beq ((r20 x0 x1 x2 x3 x4 ((r21 x0 x1 x2 x3 x4 x5).2)).1) 0)
   (cond (Nat.beq ((r22 x0 x1 x2 x3 x4 ((r21 x0 x1 x2 x3 x4 x5).2)).1) 0)
    (cond (!c52)
     (some (.bool false, ⟨[⟨false, (some (.tab sc0 x5))⟩], 1, false⟩))
     (cond ((((r22 x0 x1 x2 x3 x4 ((r21 x0 x1 x2 x3 x4 x5).2)).2.2) : Int) != ((r20 x0 x1 x2 x3 x4 ((r21 x0 x1 x2 x3 x4 x5).2)).2.2))
      (some (.bool false, ⟨[⟨false, (some (.tab sc0 x5))⟩], 1, false⟩))
      (cond (Nat.beq ((r23 x0 x1 x2 x3 x4 x0 x1 x2 x3 x4 ((r21 x0 x1 x2 x3 x4 x5).2) ((r21 x0 x1 x2 x3 x4 x5).2)).1) 0)
       (cond (!((r23 x0 x1 x2 x3 x4 x0 x1 x2 x3 x4 ((r21 x0 x1 x2 x3 x4 x5).2) ((r21 x0 x1 x2 x3 x4 x5).2)).2))
        (some (.bool false, ⟨[⟨false, (some (.tab sc0 x5))⟩], 1, false⟩))
        (some (.bool true, ⟨[⟨false, (some (.tab sc0 x5))⟩], 1, false⟩)))
       none)))
    none)
   none)
  none))
def w6 (x0 x1 : Nat) (x2 x3 : Int) (x4 : Nat) (x5 : List (List Int)) : Res :=
 let c52 := (r14 (widen ((r22 x0 x1 x2 x3 x4 ((r21 x0 x1 x2 x3 x4 x5).2)).2.1)) (widen ((r20 x0 x1 x2 x3 x4 ((r21 x0 x1 x2 x3 x4 x5).2)).2.1)))
 (cond (decide (((r19 x0 x1 x2 x3 x4 1048576 x5) : Int) < 0))
 (some (.bool true, ⟨[⟨false, (some (.tab sc0 x5))⟩], 1, false⟩))
 (cond (Nat.beq ((r21 x0 x1 x2 x3 x4 x5).1) 0)
  (cond (Nat.beq ((r20 x0 x1 x2 x3 x4 ((r21 x0 x1 x2 x3 x4 x5).2)).1) 0)
   (cond (Nat.beq ((r21 x0 x1 x2 x3 x4 x5).1) 0)
    (cond (Nat.beq ((r22 x0 x1 x2 x3 x4 ((r21 x0 x1 x2 x3 x4 x5).2)).1) 0)
     (cond (!c52)
      (some (.bool false, ⟨[⟨false, (some (.tab sc0 x5))⟩], 1, false⟩))
      (cond ((((r22 x0 x1 x2 x3 x4 ((r21 x0 x1 x2 x3 x4 x5).2)).2.2) : Int) != ((r20 x0 x1 x2 x3 x4 ((r21 x0 x1 x2 x3 x4 x5).2)).2.2))
       (some (.bool false, ⟨[⟨false, (some (.tab sc0 x5))⟩], 1, false⟩))
       (cond (Nat.beq ((r21 x0 x1 x2 x3 x4 x5).1) 0)
        (cond (Nat.beq ((r23 x0 x1 x2 x3 x4 x0 x1 x2 x3 x4 ((r21 x0 x1 x2 x3 x4 x5).2) ((r21 x0 x1 x2 x3 x4 x5).2)).1) 0)
         (cond (!((r23 x0 x1 x2 x3 x4 x0 x1 x2 x3 x4 ((r21 x0 x1 x2 x3 x4 x5).2) ((r21 x0 x1 x2 x3 x4 x5).2)).2))
          (some (.bool false, ⟨[⟨false, (some (.tab sc0 x5))⟩], 1, false⟩))
          (some (.bool true, ⟨[⟨false, (some (.tab sc0 x5))⟩], 1, false⟩)))
         none)
        none)))
     none)
    none)
   none)
  none))
set_option maxRecDepth 100000 in
theorem e6 (x0 x1 : Nat) (x2 x3 : Int) (x4 : Nat) (x5 : List (List Int)) : evFn Try.prog ext T32 noL 200 Try.f6 [.agg #[wsl 0, .float .f32 x0, .float .f32 x1, .int .i8 x2, .int .i64 x3, .float .f32 x4]] ⟨[⟨false, (some (.tab sc0 x5))⟩], 1, false⟩ = firstT [((Nat.beq ((r6 x0 x1 x2 x3 x4 x5).1) 0), .bool ((r6 x0 x1 x2 x3 x4 x5).2), ⟨[⟨false, (some (.tab sc0 x5))⟩], 1, false⟩)] :=
 (show evFn Try.prog ext T32 noL 200 Try.f6 [.agg #[wsl 0, .float .f32 x0, .float .f32 x1, .int .i8 x2, .int .i64 x3, .float .f32 x4]] ⟨[⟨false, (some (.tab sc0 x5))⟩], 1, false⟩ = w6 x0 x1 x2 x3 x4 x5 from by kernel_rfl).trans
 ((show w6 x0 x1 x2 x3 x4 x5 = t6 x0 x1 x2 x3 x4 x5 from (cond_cong _ (fun h0 => rfl) (fun h0 => (cond_cong _ (fun h1 => (cond_cong _ (fun h2 => (cond_t h1 (cond_cong _ (fun h3 => (cond_cong _ (fun h4 => rfl) (fun h4 => (cond_cong _ (fun h5 => rfl) (fun h5 => (cond_t h1 rfl)))))) (fun h3 => rfl)))) (fun h2 => rfl))) (fun h1 => rfl))))).trans
 (show t6 x0 x1 x2 x3 x4 x5 = a6 x0 x1 x2 x3 x4 x5 (r6 x0 x1 x2 x3 x4 x5) from (cond_app (a6 x0 x1 x2 x3 x4 x5) _ rfl (cond_app (a6 x0 x1 x2 x3 x4 x5) _ (cond_app (a6 x0 x1 x2 x3 x4 x5) _ (cond_app (a6 x0 x1 x2 x3 x4 x5) _ (cond_app (a6 x0 x1 x2 x3 x4 x5) _ rfl (cond_app (a6 x0 x1 x2 x3 x4 x5) _ rfl (cond_app (a6 x0 x1 x2 x3 x4 x5) _ (cond_app (a6 x0 x1 x2 x3 x4 x5) _ rfl rfl) rfl))) rfl) rfl) rfl))))
def s6 (args : List Value) (s : St) : List (Bool × Value × St) :=
 match args, s.h with
 | [.agg ⟨[.iface f0 .nilIface, .float .f32 x0, .float .f32 x1, .int .i8 x2, .int .i64 x3, .float .f32 x4]⟩], [⟨false, some (.tab [.fl .f32, .fl .f32, .fl .f32, .fl .f32, .fl .f32, .fl .f32, .fl .f32, .fl .f32, .fl .f32, .fl .f32, .fl .f32, .fl .f32, .fl .f32, .fl .f32, .fl .f32, .fl .f32, .fl .f32, .fl .f32] x5)⟩] => if f0 = 0 then [((Nat.beq ((r6 x0 x1 x2 x3 x4 x5).1) 0), .bool ((r6 x0 x1 x2 x3 x4 x5).2), ⟨[⟨false, (some (.tab sc0 x5))⟩], 1, false⟩)] else T32 6 args s
 | _, _ => T32 6 args s
def T33 : CallF := addF T32 6 s6
set_option maxRecDepth 100000 in
theorem ok33 : CfOk Try.prog T33 := by
  refine cfOk_add ok32 fun args s r s' h1 h2 h3 => ?_
  unfold s6 at h3; split at h3
  · rename_i h; split at h3
    · rename_i hc; obtain ⟨rfl⟩ := hc; exact callOk ok32 Try.func6 h1 h2 h (lfOkF_no _ _).body (e6 _ _ _ _ _ _) rfl h3
    · exact ok32 _ _ _ _ _ h1 h2 h3
  · exact ok32 _ _ _ _ _ h1 h2 h3
end Go.Proofs.Ytbmagccjcccnaaa
