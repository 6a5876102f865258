/- What the functions that the statements reach answer, part 6. -/
import Derived.Test.YtbmagccjcccnaaaGreatDoorRt5
namespace Go.Proofs.YtbmagccjcccnaaaGreatDoor
open Go.Ab
set_option maxHeartbeats 4000000
set_option maxRecDepth 100000

/-- laws.eqFloat32A6 -/
noncomputable def w119 {α : Type} (x0 x1 x2 x3 x4 x5 x6 x7 x8 x9 x10 x11 : Nat) (k : Bool → α) : α :=
 cond (!(r75 (widen x0) (widen x6))) (k (false)) (cond (!(r75 (widen x1) (widen x7))) (k (false)) (cond (!(r75 (widen x2) (widen x8))) (k (false)) (cond (!(r75 (widen x3) (widen x9))) (k (false)) (cond (!(r75 (widen x4) (widen x10))) (k (false)) (cond (!(r75 (widen x5) (widen x11))) (k (false)) (k (true)))))))
noncomputable def r119 (x0 x1 x2 x3 x4 x5 x6 x7 x8 x9 x10 x11 : Nat) : Bool := w119 x0 x1 x2 x3 x4 x5 x6 x7 x8 x9 x10 x11 (fun p => p)
noncomputable def g119 (x0 x1 x2 x3 x4 x5 x6 x7 x8 x9 x10 x11 : Nat) (p : Bool) : List (Bool × Value × St) := [(true, .bool p, st0)]
theorem p119 {α : Type} (x0 x1 x2 x3 x4 x5 x6 x7 x8 x9 x10 x11 : Nat) (f : Bool → α) : w119 x0 x1 x2 x3 x4 x5 x6 x7 x8 x9 x10 x11 f = f (w119 x0 x1 x2 x3 x4 x5 x6 x7 x8 x9 x10 x11 (fun p => p)) := by unfold w119; repeat' (first | refine cond_app f _ ?_ ?_ | rfl)
set_option maxRecDepth 100000 in
set_option maxHeartbeats 4000000 in
theorem e119 (x0 x1 x2 x3 x4 x5 x6 x7 x8 x9 x10 x11 : Nat) : evFn Tryz.prog ext T61 noL 200 Tryz.f119 [.agg #[vf x0, vf x1, vf x2, vf x3, vf x4, vf x5], .agg #[vf x6, vf x7, vf x8, vf x9, vf x10, vf x11]] st0 = firstT (g119 x0 x1 x2 x3 x4 x5 x6 x7 x8 x9 x10 x11 (r119 x0 x1 x2 x3 x4 x5 x6 x7 x8 x9 x10 x11)) :=
 Eq.trans (by kernel_rfl) (p119 x0 x1 x2 x3 x4 x5 x6 x7 x8 x9 x10 x11 (fun p => firstT (g119 x0 x1 x2 x3 x4 x5 x6 x7 x8 x9 x10 x11 p)))
noncomputable def s119 (args : List Value) (s : St) : List (Bool × Value × St) :=
 match args, s.h with
 | [.agg ⟨[.float .f32 x0, .float .f32 x1, .float .f32 x2, .float .f32 x3, .float .f32 x4, .float .f32 x5]⟩, .agg ⟨[.float .f32 x6, .float .f32 x7, .float .f32 x8, .float .f32 x9, .float .f32 x10, .float .f32 x11]⟩], [] => (g119 x0 x1 x2 x3 x4 x5 x6 x7 x8 x9 x10 x11 (r119 x0 x1 x2 x3 x4 x5 x6 x7 x8 x9 x10 x11))
 | _, _ => T61 119 args s
noncomputable def T62 : CallF := addF T61 119 s119
set_option maxRecDepth 100000 in
set_option maxHeartbeats 4000000 in
theorem ok62 : CfOk Tryz.prog T62 := by
  refine cfOk_add ok61 fun args s r s' h1 h2 h3 => ?_
  unfold s119 at h3; split at h3
  · rename_i h; exact callOk ok61 Tryz.func119 h1 h2 h (lfOkF_no _ _).body (e119 _ _ _ _ _ _ _ _ _ _ _ _) rfl h3
  · exact ok61 _ _ _ _ _ h1 h2 h3

/-- laws.eqWood -/
noncomputable def w104 {α : Type} (x0 x1 x2 x3 x4 x5 x6 x7 x8 x9 x10 x11 x12 x13 x14 x15 x16 x17 x18 x19 x20 x21 x22 x23 x24 x25 x26 x27 x28 x29 x30 x31 x32 x33 x34 x35 : Nat) (k : Bool → α) : α :=
 let c493 := (r119 x0 x1 x2 x3 x4 x5 x18 x19 x20 x21 x22 x23)
 let c494 := (r119 x6 x7 x8 x9 x10 x11 x24 x25 x26 x27 x28 x29)
 let c495 := (r119 x12 x13 x14 x15 x16 x17 x30 x31 x32 x33 x34 x35)
 cond (!c493) (k (false)) (cond (!c494) (k (false)) (cond (!c495) (k (false)) (k (true))))
noncomputable def r104 (x0 x1 x2 x3 x4 x5 x6 x7 x8 x9 x10 x11 x12 x13 x14 x15 x16 x17 x18 x19 x20 x21 x22 x23 x24 x25 x26 x27 x28 x29 x30 x31 x32 x33 x34 x35 : Nat) : Bool := w104 x0 x1 x2 x3 x4 x5 x6 x7 x8 x9 x10 x11 x12 x13 x14 x15 x16 x17 x18 x19 x20 x21 x22 x23 x24 x25 x26 x27 x28 x29 x30 x31 x32 x33 x34 x35 (fun p => p)
noncomputable def g104 (x0 x1 x2 x3 x4 x5 x6 x7 x8 x9 x10 x11 x12 x13 x14 x15 x16 x17 x18 x19 x20 x21 x22 x23 x24 x25 x26 x27 x28 x29 x30 x31 x32 x33 x34 x35 : Nat) (p : Bool) : List (Bool × Value × St) := [(true, .bool p, st0)]
theorem p104 {α : Type} (x0 x1 x2 x3 x4 x5 x6 x7 x8 x9 x10 x11 x12 x13 x14 x15 x16 x17 x18 x19 x20 x21 x22 x23 x24 x25 x26 x27 x28 x29 x30 x31 x32 x33 x34 x35 : Nat) (f : Bool → α) : w104 x0 x1 x2 x3 x4 x5 x6 x7 x8 x9 x10 x11 x12 x13 x14 x15 x16 x17 x18 x19 x20 x21 x22 x23 x24 x25 x26 x27 x28 x29 x30 x31 x32 x33 x34 x35 f = f (w104 x0 x1 x2 x3 x4 x5 x6 x7 x8 x9 x10 x11 x12 x13 x14 x15 x16 x17 x18 x19 x20 x21 x22 x23 x24 x25 x26 x27 x28 x29 x30 x31 x32 x33 x34 x35 (fun p => p)) := by unfold w104; exact (cond_app f _ rfl (cond_app f _ rfl (cond_app f _ rfl rfl)))
set_option maxRecDepth 100000 in
set_option maxHeartbeats 4000000 in
theorem e104 (x0 x1 x2 x3 x4 x5 x6 x7 x8 x9 x10 x11 x12 x13 x14 x15 x16 x17 x18 x19 x20 x21 x22 x23 x24 x25 x26 x27 x28 x29 x30 x31 x32 x33 x34 x35 : Nat) : evFn Tryz.prog ext T62 noL 200 Tryz.f104 [.agg #[vf x0, vf x1, vf x2, vf x3, vf x4, vf x5, vf x6, vf x7, vf x8, vf x9, vf x10, vf x11, vf x12, vf x13, vf x14, vf x15, vf x16, vf x17], .agg #[vf x18, vf x19, vf x20, vf x21, vf x22, vf x23, vf x24, vf x25, vf x26, vf x27, vf x28, vf x29, vf x30, vf x31, vf x32, vf x33, vf x34, vf x35]] st0 = firstT (g104 x0 x1 x2 x3 x4 x5 x6 x7 x8 x9 x10 x11 x12 x13 x14 x15 x16 x17 x18 x19 x20 x21 x22 x23 x24 x25 x26 x27 x28 x29 x30 x31 x32 x33 x34 x35 (r104 x0 x1 x2 x3 x4 x5 x6 x7 x8 x9 x10 x11 x12 x13 x14 x15 x16 x17 x18 x19 x20 x21 x22 x23 x24 x25 x26 x27 x28 x29 x30 x31 x32 x33 x34 x35)) :=
 Eq.trans (by kernel_rfl) (p104 x0 x1 x2 x3 x4 x5 x6 x7 x8 x9 x10 x11 x12 x13 x14 x15 x16 x17 x18 x19 x20 x21 x22 x23 x24 x25 x26 x27 x28 x29 x30 x31 x32 x33 x34 x35 (fun p => firstT (g104 x0 x1 x2 x3 x4 x5 x6 x7 x8 x9 x10 x11 x12 x13 x14 x15 x16 x17 x18 x19 x20 x21 x22 x23 x24 x25 x26 x27 x28 x29 x30 x31 x32 x33 x34 x35 p)))
noncomputable def s104 (args : List Value) (s : St) : List (Bool × Value × St) :=
 match args, s.h with
 | [.agg ⟨[.float .f32 x0, .float .f32 x1, .float .f32 x2, .float .f32 x3, .float .f32 x4, .float .f32 x5, .float .f32 x6, .float .f32 x7, .float .f32 x8, .float .f32 x9, .float .f32 x10, .float .f32 x11, .float .f32 x12, .float .f32 x13, .float .f32 x14, .float .f32 x15, .float .f32 x16, .float .f32 x17]⟩, .agg ⟨[.float .f32 x18, .float .f32 x19, .float .f32 x20, .float .f32 x21, .float .f32 x22, .float .f32 x23, .float .f32 x24, .float .f32 x25, .float .f32 x26, .float .f32 x27, .float .f32 x28, .float .f32 x29, .float .f32 x30, .float .f32 x31, .float .f32 x32, .float .f32 x33, .float .f32 x34, .float .f32 x35]⟩], [] => (g104 x0 x1 x2 x3 x4 x5 x6 x7 x8 x9 x10 x11 x12 x13 x14 x15 x16 x17 x18 x19 x20 x21 x22 x23 x24 x25 x26 x27 x28 x29 x30 x31 x32 x33 x34 x35 (r104 x0 x1 x2 x3 x4 x5 x6 x7 x8 x9 x10 x11 x12 x13 x14 x15 x16 x17 x18 x19 x20 x21 x22 x23 x24 x25 x26 x27 x28 x29 x30 x31 x32 x33 x34 x35))
 | _, _ => T62 104 args s
noncomputable def T63 : CallF := addF T62 104 s104
set_option maxRecDepth 100000 in
set_option maxHeartbeats 4000000 in
theorem ok63 : CfOk Tryz.prog T63 := by
  refine cfOk_add ok62 fun args s r s' h1 h2 h3 => ?_
  unfold s104 at h3; split at h3
  · rename_i h; exact callOk ok62 Tryz.func104 h1 h2 h (lfOkF_no _ _).body (e104 _ _ _ _ _ _ _ _ _ _ _ _ _ _ _ _ _ _ _ _ _ _ _ _ _ _ _ _ _ _ _ _ _ _ _ _) rfl h3
  · exact ok62 _ _ _ _ _ h1 h2 h3

/-- laws.eqWoodS, loop 0: one round -/
noncomputable def b74l0d (ih : Int → List (List Int) → List (List Int) → Nat) (x0 : Int) (x1 x2 : List (List Int)) : Nat :=
 let c512 := (r104 (Int.toNat ((x1.getD (Int.toNat x0) []).getD 0 0)) (Int.toNat ((x1.getD (Int.toNat x0) []).getD 1 0)) (Int.toNat ((x1.getD (Int.toNat x0) []).getD 2 0)) (Int.toNat ((x1.getD (Int.toNat x0) []).getD 3 0)) (Int.toNat ((x1.getD (Int.toNat x0) []).getD 4 0)) (Int.toNat ((x1.getD (Int.toNat x0) []).getD 5 0)) (Int.toNat ((x1.getD (Int.toNat x0) []).getD 6 0)) (Int.toNat ((x1.getD (Int.toNat x0) []).getD 7 0)) (Int.toNat ((x1.getD (Int.toNat x0) []).getD 8 0)) (Int.toNat ((x1.getD (Int.toNat x0) []).getD 9 0)) (Int.toNat ((x1.getD (Int.toNat x0) []).getD 10 0)) (Int.toNat ((x1.getD (Int.toNat x0) []).getD 11 0)) (Int.toNat ((x1.getD (Int.toNat x0) []).getD 12 0)) (Int.toNat ((x1.getD (Int.toNat x0) []).getD 13 0)) (Int.toNat ((x1.getD (Int.toNat x0) []).getD 14 0)) (Int.toNat ((x1.getD (Int.toNat x0) []).getD 15 0)) (Int.toNat ((x1.getD (Int.toNat x0) []).getD 16 0)) (Int.toNat ((x1.getD (Int.toNat x0) []).getD 17 0)) (Int.toNat ((x2.getD (Int.toNat x0) []).getD 0 0)) (Int.toNat ((x2.getD (Int.toNat x0) []).getD 1 0)) (Int.toNat ((x2.getD (Int.toNat x0) []).getD 2 0)) (Int.toNat ((x2.getD (Int.toNat x0) []).getD 3 0)) (Int.toNat ((x2.getD (Int.toNat x0) []).getD 4 0)) (Int.toNat ((x2.getD (Int.toNat x0) []).getD 5 0)) (Int.toNat ((x2.getD (Int.toNat x0) []).getD 6 0)) (Int.toNat ((x2.getD (Int.toNat x0) []).getD 7 0)) (Int.toNat ((x2.getD (Int.toNat x0) []).getD 8 0)) (Int.toNat ((x2.getD (Int.toNat x0) []).getD 9 0)) (Int.toNat ((x2.getD (Int.toNat x0) []).getD 10 0)) (Int.toNat ((x2.getD (Int.toNat x0) []).getD 11 0)) (Int.toNat ((x2.getD (Int.toNat x0) []).getD 12 0)) (Int.toNat ((x2.getD (Int.toNat x0) []).getD 13 0)) (Int.toNat ((x2.getD (Int.toNat x0) []).getD 14 0)) (Int.toNat ((x2.getD (Int.toNat x0) []).getD 15 0)) (Int.toNat ((x2.getD (Int.toNat x0) []).getD 16 0)) (Int.toNat ((x2.getD (Int.toNat x0) []).getD 17 0)))
 cond (decide ((x0 : Int) < ((x1.length : Nat) : Int))) (cond ((decide ((0 : Int) ≤ x0)) && (Nat.blt (Int.toNat x0) x1.length)) (cond ((decide ((0 : Int) ≤ x0)) && (Nat.blt (Int.toNat x0) x2.length)) (cond (!c512) (0) (ih (IntKind.i64.wrap (x0 + 1)) x1 x2)) (2)) (2)) (1)
noncomputable def r74l0d : Nat → Int → List (List Int) → List (List Int) → Nat
 | 0 => fun _ _ _ => (2)
 | m + 1 => b74l0d (r74l0d m)
noncomputable def a74l0d (x0 : Int) (x1 x2 : List (List Int)) (p : Nat) : Option (Fin' × List Value × St) := firstT ([((Nat.beq p 0), .ret, [.bool false], ⟨[⟨true, (some (.tab sc0 x1))⟩, ⟨true, (some (.tab sc0 x2))⟩], 2, []⟩), ((Nat.beq p 1), .exit 0, [anyV], ⟨[⟨true, (some (.tab sc0 x1))⟩, ⟨true, (some (.tab sc0 x2))⟩], 2, []⟩)].map fun (b, x) => (b, (x.1, frameOf 27 [4] x.2.1, x.2.2)))
noncomputable def u74l0d (x0 : Int) (x1 x2 : List (List Int)) (p : Nat) : Option (Fin' × List Value × St) := alts ([((Nat.beq p 0), .ret, [.bool false], ⟨[⟨true, (some (.tab sc0 x1))⟩, ⟨true, (some (.tab sc0 x2))⟩], 2, []⟩), ((Nat.beq p 1), .exit 0, [anyV], ⟨[⟨true, (some (.tab sc0 x1))⟩, ⟨true, (some (.tab sc0 x2))⟩], 2, []⟩)].map fun (b, x) => (b, (x.1, frameOf 27 [4] x.2.1, x.2.2))) some
theorem v74l0d (x0 : Int) (x1 x2 : List (List Int)) (p : Nat) : u74l0d x0 x1 x2 p = a74l0d x0 x1 x2 p := alts_first _
noncomputable def q74l0d (m : Nat) : SumK := fun vals s =>
 match vals, s.h with
 | [.iface f0 .nilIface, .iface f1 .nilIface, .int .i64 x0], [⟨true, some (.tab [.fl .f32, .fl .f32, .fl .f32, .fl .f32, .fl .f32, .fl .f32, .fl .f32, .fl .f32, .fl .f32, .fl .f32, .fl .f32, .fl .f32, .fl .f32, .fl .f32, .fl .f32, .fl .f32, .fl .f32, .fl .f32] x1)⟩, ⟨true, some (.tab [.fl .f32, .fl .f32, .fl .f32, .fl .f32, .fl .f32, .fl .f32, .fl .f32, .fl .f32, .fl .f32, .fl .f32, .fl .f32, .fl .f32, .fl .f32, .fl .f32, .fl .f32, .fl .f32, .fl .f32, .fl .f32] x2)⟩] => if f0 = 0 ∧ f1 = 1 then [((Nat.beq (r74l0d m x0 x1 x2) 0), .ret, [.bool false], ⟨[⟨true, (some (.tab sc0 x1))⟩, ⟨true, (some (.tab sc0 x2))⟩], 2, []⟩), ((Nat.beq (r74l0d m x0 x1 x2) 1), .exit 0, [anyV], ⟨[⟨true, (some (.tab sc0 x1))⟩, ⟨true, (some (.tab sc0 x2))⟩], 2, []⟩)] else Q74l0c vals s
 | _, _ => Q74l0c vals s
noncomputable def w74l0d (ih : Int → List (List Int) → List (List Int) → Nat) (x0 : Int) (x1 x2 : List (List Int)) : Option (Fin' × List Value × St) :=
 let c512 := (r104 (Int.toNat ((x1.getD (Int.toNat x0) []).getD 0 0)) (Int.toNat ((x1.getD (Int.toNat x0) []).getD 1 0)) (Int.toNat ((x1.getD (Int.toNat x0) []).getD 2 0)) (Int.toNat ((x1.getD (Int.toNat x0) []).getD 3 0)) (Int.toNat ((x1.getD (Int.toNat x0) []).getD 4 0)) (Int.toNat ((x1.getD (Int.toNat x0) []).getD 5 0)) (Int.toNat ((x1.getD (Int.toNat x0) []).getD 6 0)) (Int.toNat ((x1.getD (Int.toNat x0) []).getD 7 0)) (Int.toNat ((x1.getD (Int.toNat x0) []).getD 8 0)) (Int.toNat ((x1.getD (Int.toNat x0) []).getD 9 0)) (Int.toNat ((x1.getD (Int.toNat x0) []).getD 10 0)) (Int.toNat ((x1.getD (Int.toNat x0) []).getD 11 0)) (Int.toNat ((x1.getD (Int.toNat x0) []).getD 12 0)) (Int.toNat ((x1.getD (Int.toNat x0) []).getD 13 0)) (Int.toNat ((x1.getD (Int.toNat x0) []).getD 14 0)) (Int.toNat ((x1.getD (Int.toNat x0) []).getD 15 0)) (Int.toNat ((x1.getD (Int.toNat x0) []).getD 16 0)) (Int.toNat ((x1.getD (Int.toNat x0) []).getD 17 0)) (Int.toNat ((x2.getD (Int.toNat x0) []).getD 0 0)) (Int.toNat ((x2.getD (Int.toNat x0) []).getD 1 0)) (Int.toNat ((x2.getD (Int.toNat x0) []).getD 2 0)) (Int.toNat ((x2.getD (Int.toNat x0) []).getD 3 0)) (Int.toNat ((x2.getD (Int.toNat x0) []).getD 4 0)) (Int.toNat ((x2.getD (Int.toNat x0) []).getD 5 0)) (Int.toNat ((x2.getD (Int.toNat x0) []).getD 6 0)) (Int.toNat ((x2.getD (Int.toNat x0) []).getD 7 0)) (Int.toNat ((x2.getD (Int.toNat x0) []).getD 8 0)) (Int.toNat ((x2.getD (Int.toNat x0) []).getD 9 0)) (Int.toNat ((x2.getD (Int.toNat x0) []).getD 10 0)) (Int.toNat ((x2.getD (Int.toNat x0) []).getD 11 0)) (Int.toNat ((x2.getD (Int.toNat x0) []).getD 12 0)) (Int.toNat ((x2.getD (Int.toNat x0) []).getD 13 0)) (Int.toNat ((x2.getD (Int.toNat x0) []).getD 14 0)) (Int.toNat ((x2.getD (Int.toNat x0) []).getD 15 0)) (Int.toNat ((x2.getD (Int.toNat x0) []).getD 16 0)) (Int.toNat ((x2.getD (Int.toNat x0) []).getD 17 0)))
 (cond (decide ((x0 : Int) < ((x1.length : Nat) : Int)))
 (cond ((decide ((0 : Int) ≤ x0)) && (Nat.blt (Int.toNat x0) x1.length)) (cond (Nat.blt (Int.toNat x0) x1.length) (cond ((decide ((0 : Int) ≤ x0)) && (Nat.blt (Int.toNat x0) x2.length)) (cond (Nat.blt (Int.toNat x0) x2.length) (cond (!c512) (a74l0d x0 x1 x2 (0)) (u74l0d x0 x1 x2 (ih (IntKind.i64.wrap (x0 + 1)) x1 x2))) none) none) none) none)
 (a74l0d x0 x1 x2 (1)))
set_option maxRecDepth 100000 in
set_option maxHeartbeats 4000000 in
theorem e74l0d (m : Nat) (x0 : Int) (x1 x2 : List (List Int)) : evC Tryz.prog ext T63 L74_3 200 (loopN Tryz.f74 0) (loopTail ([0, 1, 5], []) [4] [] (sumK 27 [0, 1, 5] [4] (q74l0d m))) (frameOf 27 [0, 1, 5] [wsl 0, wsl 1, vi x0]) ⟨[⟨true, (some (.tab sc0 x1))⟩, ⟨true, (some (.tab sc0 x2))⟩], 2, []⟩ = firstT ([((Nat.beq (r74l0d (m + 1) x0 x1 x2) 0), .ret, [.bool false], ⟨[⟨true, (some (.tab sc0 x1))⟩, ⟨true, (some (.tab sc0 x2))⟩], 2, []⟩), ((Nat.beq (r74l0d (m + 1) x0 x1 x2) 1), .exit 0, [anyV], ⟨[⟨true, (some (.tab sc0 x1))⟩, ⟨true, (some (.tab sc0 x2))⟩], 2, []⟩)].map fun (b, x) => (b, (x.1, frameOf 27 [4] x.2.1, x.2.2))) :=
 (show _ = w74l0d (r74l0d m) x0 x1 x2 from by kernel_rfl).trans
 (show w74l0d (r74l0d m) x0 x1 x2 = a74l0d x0 x1 x2 (r74l0d (m + 1) x0 x1 x2) from by unfold w74l0d; show _ = a74l0d x0 x1 x2 (b74l0d (r74l0d m) x0 x1 x2); unfold b74l0d; exact (cond_both (a74l0d x0 x1 x2) _ (fun h0 => (cond_both (a74l0d x0 x1 x2) _ (fun h1 => (cond_t (ev_and2 h1) (cond_both (a74l0d x0 x1 x2) _ (fun h2 => (cond_t (ev_and2 h2) (cond_app (a74l0d x0 x1 x2) _ rfl (v74l0d x0 x1 x2 ((r74l0d m) (IntKind.i64.wrap (x0 + 1)) x1 x2))))) (fun h2 => rfl)))) (fun h1 => rfl))) (fun h0 => rfl)))
set_option maxRecDepth 100000 in
set_option maxHeartbeats 4000000 in
theorem qm74l0d : ∀ m, SumKOk Tryz.prog (loopN Tryz.f74 0) 27 [0, 1, 5] [4] (q74l0d m) := by
  intro m
  induction m with
  | zero =>
    intro vals s x h1 h2 h3
    unfold q74l0d at h3; split at h3
    · rename_i h; split at h3
      · rename_i hc; obtain ⟨rfl, rfl⟩ := hc; exact absurd h3 (by simp [r74l0d, firstT, Nat.beq])
      · exact qok74l0c _ _ _ h1 h2 h3
    · exact qok74l0c _ _ _ h1 h2 h3
  | succ m ih =>
    intro vals s x h1 h2 h3
    unfold q74l0d at h3; split at h3
    · rename_i h; split at h3
      · rename_i hc; obtain ⟨rfl, rfl⟩ := hc; exact sum_step ok63 extOk mixed (lok74_3.inner (by kernel_rfl)) ih h1 h2 h (e74l0d m _ _ _) rfl h3
      · exact qok74l0c _ _ _ h1 h2 h3
    · exact qok74l0c _ _ _ h1 h2 h3
noncomputable def Q74l0d : SumK := fun vals s => q74l0d (fuelOf vals s.h) vals s
theorem qok74l0d : SumKOk Tryz.prog (loopN Tryz.f74 0) 27 [0, 1, 5] [4] Q74l0d := fuel_ok qm74l0d fuelOf
noncomputable def L74_4 : LoopT := addL L74_3 5 ([0, 1, 5], []) (sumK 27 [0, 1, 5] [4] Q74l0d)
theorem lok74_4 : LfOkF Tryz.prog L74_4 Tryz.f74 := lfOkF_add lok74_3 qok74l0d (by kernel_rfl) (by kernel_rfl) (by kernel_rfl)

/-- laws.eqWoodS -/
noncomputable def w74d {α : Type} (x0 x1 : List (List Int)) (k : (Nat × Bool) → α) : α :=
 let c513 := (r74l0d (1000 + x1.length + x0.length) 0 x0 x1)
 cond ((((x0.length : Nat) : Int) : Int) != ((x1.length : Nat) : Int)) (k (0, false)) (cond (Nat.beq c513 0) (k (0, false)) (cond (Nat.beq c513 1) (k (0, true)) (k (1, false))))
noncomputable def r74d (x0 x1 : List (List Int)) : Nat × Bool := w74d x0 x1 (fun p => p)
noncomputable def g74d (x0 x1 : List (List Int)) (p : Nat × Bool) : List (Bool × Value × St) := [((Nat.beq (p.1) 0), .bool (p.2), ⟨[⟨true, (some (.tab sc0 x0))⟩, ⟨true, (some (.tab sc0 x1))⟩], 2, []⟩)]
theorem p74d {α : Type} (x0 x1 : List (List Int)) (f : (Nat × Bool) → α) : w74d x0 x1 f = f (w74d x0 x1 (fun p => p)) := by unfold w74d; exact (cond_app f _ rfl (cond_app f _ rfl (cond_app f _ rfl rfl)))
set_option maxRecDepth 100000 in
set_option maxHeartbeats 4000000 in
theorem e74d (x0 x1 : List (List Int)) : evFn Tryz.prog ext T63 L74_4 200 Tryz.f74 [wsl 0, wsl 1] ⟨[⟨true, (some (.tab sc0 x0))⟩, ⟨true, (some (.tab sc0 x1))⟩], 2, []⟩ = firstT (g74d x0 x1 (r74d x0 x1)) :=
 Eq.trans (by kernel_rfl) (p74d x0 x1 (fun p => firstT (g74d x0 x1 p)))
noncomputable def s74d (args : List Value) (s : St) : List (Bool × Value × St) :=
 match args, s.h with
 | [.iface f0 .nilIface, .iface f1 .nilIface], [⟨true, some (.tab [.fl .f32, .fl .f32, .fl .f32, .fl .f32, .fl .f32, .fl .f32, .fl .f32, .fl .f32, .fl .f32, .fl .f32, .fl .f32, .fl .f32, .fl .f32, .fl .f32, .fl .f32, .fl .f32, .fl .f32, .fl .f32] x0)⟩, ⟨true, some (.tab [.fl .f32, .fl .f32, .fl .f32, .fl .f32, .fl .f32, .fl .f32, .fl .f32, .fl .f32, .fl .f32, .fl .f32, .fl .f32, .fl .f32, .fl .f32, .fl .f32, .fl .f32, .fl .f32, .fl .f32, .fl .f32] x1)⟩] => if f0 = 0 ∧ f1 = 1 then (g74d x0 x1 (r74d x0 x1)) else T63 74 args s
 | _, _ => T63 74 args s
noncomputable def T64 : CallF := addF T63 74 s74d
set_option maxRecDepth 100000 in
set_option maxHeartbeats 4000000 in
theorem ok64 : CfOk Tryz.prog T64 := by
  refine cfOk_add ok63 fun args s r s' h1 h2 h3 => ?_
  unfold s74d at h3; split at h3
  · rename_i h; split at h3
    · rename_i hc; obtain ⟨rfl, rfl⟩ := hc; exact callOk ok63 Tryz.func74 h1 h2 h lok74_4.body (e74d _ _) rfl h3
    · exact ok63 _ _ _ _ _ h1 h2 h3
  · exact ok63 _ _ _ _ _ h1 h2 h3

/-- laws.eqStove -/
noncomputable def w35d {α : Type} (x0 x1 : Nat) (x2 x3 : Int) (x4 x5 x6 : Nat) (x7 x8 : Int) (x9 : Nat) (x10 x11 : List (List Int)) (k : (Nat × Bool) → α) : α :=
 cond (Nat.beq ((r74d x10 x11).1) 0) (cond (!((r74d x10 x11).2)) (k (0, false)) (cond (!(r75 (widen x0) (widen x5))) (k (0, false)) (cond (!(r75 (widen x1) (widen x6))) (k (0, false)) (cond ((x2 : Int) != x7) (k (0, false)) (cond ((x3 : Int) != x8) (k (0, false)) (cond (!(r75 (widen x4) (widen x9))) (k (0, false)) (k (0, true)))))))) (k (1, false))
noncomputable def r35d (x0 x1 : Nat) (x2 x3 : Int) (x4 x5 x6 : Nat) (x7 x8 : Int) (x9 : Nat) (x10 x11 : List (List Int)) : Nat × Bool := w35d x0 x1 x2 x3 x4 x5 x6 x7 x8 x9 x10 x11 (fun p => p)
noncomputable def g35d (x0 x1 : Nat) (x2 x3 : Int) (x4 x5 x6 : Nat) (x7 x8 : Int) (x9 : Nat) (x10 x11 : List (List Int)) (p : Nat × Bool) : List (Bool × Value × St) := [((Nat.beq (p.1) 0), .bool (p.2), ⟨[⟨true, (some (.tab sc0 x10))⟩, ⟨true, (some (.tab sc0 x11))⟩], 2, []⟩)]
theorem p35d {α : Type} (x0 x1 : Nat) (x2 x3 : Int) (x4 x5 x6 : Nat) (x7 x8 : Int) (x9 : Nat) (x10 x11 : List (List Int)) (f : (Nat × Bool) → α) : w35d x0 x1 x2 x3 x4 x5 x6 x7 x8 x9 x10 x11 f = f (w35d x0 x1 x2 x3 x4 x5 x6 x7 x8 x9 x10 x11 (fun p => p)) := by unfold w35d; repeat' (first | refine cond_app f _ ?_ ?_ | rfl)
set_option maxRecDepth 100000 in
set_option maxHeartbeats 4000000 in
theorem e35d (x0 x1 : Nat) (x2 x3 : Int) (x4 x5 x6 : Nat) (x7 x8 : Int) (x9 : Nat) (x10 x11 : List (List Int)) : evFn Tryz.prog ext T64 noL 200 Tryz.f35 [.agg #[wsl 0, vf x0, vf x1, .int .i8 x2, vi x3, vf x4], .agg #[wsl 1, vf x5, vf x6, .int .i8 x7, vi x8, vf x9]] ⟨[⟨true, (some (.tab sc0 x10))⟩, ⟨true, (some (.tab sc0 x11))⟩], 2, []⟩ = firstT (g35d x0 x1 x2 x3 x4 x5 x6 x7 x8 x9 x10 x11 (r35d x0 x1 x2 x3 x4 x5 x6 x7 x8 x9 x10 x11)) :=
 Eq.trans (by kernel_rfl) (p35d x0 x1 x2 x3 x4 x5 x6 x7 x8 x9 x10 x11 (fun p => firstT (g35d x0 x1 x2 x3 x4 x5 x6 x7 x8 x9 x10 x11 p)))
noncomputable def s35d (args : List Value) (s : St) : List (Bool × Value × St) :=
 match args, s.h with
 | [.agg ⟨[.iface f0 .nilIface, .float .f32 x0, .float .f32 x1, .int .i8 x2, .int .i64 x3, .float .f32 x4]⟩, .agg ⟨[.iface f1 .nilIface, .float .f32 x5, .float .f32 x6, .int .i8 x7, .int .i64 x8, .float .f32 x9]⟩], [⟨true, some (.tab [.fl .f32, .fl .f32, .fl .f32, .fl .f32, .fl .f32, .fl .f32, .fl .f32, .fl .f32, .fl .f32, .fl .f32, .fl .f32, .fl .f32, .fl .f32, .fl .f32, .fl .f32, .fl .f32, .fl .f32, .fl .f32] x10)⟩, ⟨true, some (.tab [.fl .f32, .fl .f32, .fl .f32, .fl .f32, .fl .f32, .fl .f32, .fl .f32, .fl .f32, .fl .f32, .fl .f32, .fl .f32, .fl .f32, .fl .f32, .fl .f32, .fl .f32, .fl .f32, .fl .f32, .fl .f32] x11)⟩] => if f0 = 0 ∧ f1 = 1 then (g35d x0 x1 x2 x3 x4 x5 x6 x7 x8 x9 x10 x11 (r35d x0 x1 x2 x3 x4 x5 x6 x7 x8 x9 x10 x11)) else T64 35 args s
 | _, _ => T64 35 args s
noncomputable def T65 : CallF := addF T64 35 s35d
set_option maxRecDepth 100000 in
set_option maxHeartbeats 4000000 in
theorem ok65 : CfOk Tryz.prog T65 := by
  refine cfOk_add ok64 fun args s r s' h1 h2 h3 => ?_
  unfold s35d at h3; split at h3
  · rename_i h; split at h3
    · rename_i hc; obtain ⟨rfl, rfl⟩ := hc; exact callOk ok64 Tryz.func35 h1 h2 h (lfOkF_no _ _).body (e35d _ _ _ _ _ _ _ _ _ _ _ _) rfl h3
    · exact ok64 _ _ _ _ _ h1 h2 h3
  · exact ok64 _ _ _ _ _ h1 h2 h3

/-- laws.FnExactReadStove -/
noncomputable def r4 (x0 : ByteArray) : Nat × Bool :=
 let c297 := (r35 ((r34 x0).2.1) ((r34 x0).2.2.1) ((r34 x0).2.2.2.1) ((r34 x0).2.2.2.2.1) ((r34 x0).2.2.2.2.2.1) ((r33 x0).2.1) ((r33 x0).2.2.1) ((r33 x0).2.2.2.1) ((r33 x0).2.2.2.2.1) ((r33 x0).2.2.2.2.2.1))
 let c298 := (r36 ((r34 x0).2.1) ((r34 x0).2.2.1) ((r34 x0).2.2.2.1) ((r34 x0).2.2.2.2.1) ((r34 x0).2.2.2.2.2.1) 1)
 let c299 := (r37 ((r34 x0).2.1) ((r34 x0).2.2.1) ((r34 x0).2.2.2.1) ((r34 x0).2.2.2.2.1) ((r34 x0).2.2.2.2.2.1) 1)
 let c300 := (r35b ((r34 x0).2.2.2.2.2.2.2.1) ((r34 x0).2.2.2.2.2.2.2.2.1) ((r34 x0).2.2.2.2.2.2.2.2.2.1) ((r34 x0).2.2.2.2.2.2.2.2.2.2.1) ((r34 x0).2.2.2.2.2.2.2.2.2.2.2.1) ((r33 x0).2.1) ((r33 x0).2.2.1) ((r33 x0).2.2.2.1) ((r33 x0).2.2.2.2.1) ((r33 x0).2.2.2.2.2.1) ((r34 x0).2.2.2.2.2.2.2.2.2.2.2.2))
 let c391 := (r36b ((r34 x0).2.2.2.2.2.2.2.1) ((r34 x0).2.2.2.2.2.2.2.2.1) ((r34 x0).2.2.2.2.2.2.2.2.2.1) ((r34 x0).2.2.2.2.2.2.2.2.2.2.1) ((r34 x0).2.2.2.2.2.2.2.2.2.2.2.1) 1 ((r34 x0).2.2.2.2.2.2.2.2.2.2.2.2))
 let c491 := (r37b ((r34 x0).2.2.2.2.2.2.2.1) ((r34 x0).2.2.2.2.2.2.2.2.1) ((r34 x0).2.2.2.2.2.2.2.2.2.1) ((r34 x0).2.2.2.2.2.2.2.2.2.2.1) ((r34 x0).2.2.2.2.2.2.2.2.2.2.2.1) 1 (c391.2.2))
 let c492 := (r35c ((r34 x0).2.1) ((r34 x0).2.2.1) ((r34 x0).2.2.2.1) ((r34 x0).2.2.2.2.1) ((r34 x0).2.2.2.2.2.1) ((r33 x0).2.2.2.2.2.2.2.1) ((r33 x0).2.2.2.2.2.2.2.2.1) ((r33 x0).2.2.2.2.2.2.2.2.2.1) ((r33 x0).2.2.2.2.2.2.2.2.2.2.1) ((r33 x0).2.2.2.2.2.2.2.2.2.2.2.1) ((r33 x0).2.2.2.2.2.2.2.2.2.2.2.2))
 let c514 := (r35d ((r34 x0).2.2.2.2.2.2.2.1) ((r34 x0).2.2.2.2.2.2.2.2.1) ((r34 x0).2.2.2.2.2.2.2.2.2.1) ((r34 x0).2.2.2.2.2.2.2.2.2.2.1) ((r34 x0).2.2.2.2.2.2.2.2.2.2.2.1) ((r33 x0).2.2.2.2.2.2.2.1) ((r33 x0).2.2.2.2.2.2.2.2.1) ((r33 x0).2.2.2.2.2.2.2.2.2.1) ((r33 x0).2.2.2.2.2.2.2.2.2.2.1) ((r33 x0).2.2.2.2.2.2.2.2.2.2.2.1) ((r34 x0).2.2.2.2.2.2.2.2.2.2.2.2) ((r33 x0).2.2.2.2.2.2.2.2.2.2.2.2))
 cond (decide (((((x0.size) : Nat) : Int) : Int) > 1048576)) (0, true) (cond (Nat.beq ((r33 x0).1) 0) (cond (Nat.beq ((r34 x0).1) 0) (cond (!c297) (0, false) (cond ((((r34 x0).2.2.2.2.2.2.1) : Int) != ((r33 x0).2.2.2.2.2.2.1)) (0, false) (cond (decide ((c299 : Int) < 0)) (0, false) (cond ((c299 : Int) != c298) (0, false) (0, true))))) (cond (Nat.beq ((r34 x0).1) 1) (cond (Nat.beq (c300.1) 0) (cond (!(c300.2)) (0, false) (cond ((0 : Int) != ((r33 x0).2.2.2.2.2.2.1)) (0, false) (cond (Nat.beq (c391.1) 0) (cond (Nat.beq (c491.1) 0) (cond (decide (((c491.2) : Int) < 0)) (0, false) (cond (((c491.2) : Int) != (c391.2.1)) (0, false) (0, true))) (1, false)) (1, false)))) (1, false)) (1, false))) (cond (Nat.beq ((r33 x0).1) 1) (cond (Nat.beq ((r34 x0).1) 0) (cond (!c492) (0, false) (cond ((((r34 x0).2.2.2.2.2.2.1) : Int) != 0) (0, false) (cond (decide ((c299 : Int) < 0)) (0, false) (cond ((c299 : Int) != c298) (0, false) (0, true))))) (cond (Nat.beq ((r34 x0).1) 1) (cond (Nat.beq (c514.1) 0) (cond (!(c514.2)) (0, false) (cond (Nat.beq (c391.1) 0) (cond (Nat.beq (c491.1) 0) (cond (decide (((c491.2) : Int) < 0)) (0, false) (cond (((c491.2) : Int) != (c391.2.1)) (0, false) (0, true))) (1, false)) (1, false))) (1, false)) (1, false))) (1, false)))
noncomputable def a4 (x0 : ByteArray) (p : Nat × Bool) : Res := firstT [((Nat.beq (p.1) 0), .bool (p.2), st0)]
noncomputable def w4 (x0 : ByteArray) : Res :=
 let c297 := (r35 ((r34 x0).2.1) ((r34 x0).2.2.1) ((r34 x0).2.2.2.1) ((r34 x0).2.2.2.2.1) ((r34 x0).2.2.2.2.2.1) ((r33 x0).2.1) ((r33 x0).2.2.1) ((r33 x0).2.2.2.1) ((r33 x0).2.2.2.2.1) ((r33 x0).2.2.2.2.2.1))
 let c298 := (r36 ((r34 x0).2.1) ((r34 x0).2.2.1) ((r34 x0).2.2.2.1) ((r34 x0).2.2.2.2.1) ((r34 x0).2.2.2.2.2.1) 1)
 let c299 := (r37 ((r34 x0).2.1) ((r34 x0).2.2.1) ((r34 x0).2.2.2.1) ((r34 x0).2.2.2.2.1) ((r34 x0).2.2.2.2.2.1) 1)
 let c300 := (r35b ((r34 x0).2.2.2.2.2.2.2.1) ((r34 x0).2.2.2.2.2.2.2.2.1) ((r34 x0).2.2.2.2.2.2.2.2.2.1) ((r34 x0).2.2.2.2.2.2.2.2.2.2.1) ((r34 x0).2.2.2.2.2.2.2.2.2.2.2.1) ((r33 x0).2.1) ((r33 x0).2.2.1) ((r33 x0).2.2.2.1) ((r33 x0).2.2.2.2.1) ((r33 x0).2.2.2.2.2.1) ((r34 x0).2.2.2.2.2.2.2.2.2.2.2.2))
 let c391 := (r36b ((r34 x0).2.2.2.2.2.2.2.1) ((r34 x0).2.2.2.2.2.2.2.2.1) ((r34 x0).2.2.2.2.2.2.2.2.2.1) ((r34 x0).2.2.2.2.2.2.2.2.2.2.1) ((r34 x0).2.2.2.2.2.2.2.2.2.2.2.1) 1 ((r34 x0).2.2.2.2.2.2.2.2.2.2.2.2))
 let c491 := (r37b ((r34 x0).2.2.2.2.2.2.2.1) ((r34 x0).2.2.2.2.2.2.2.2.1) ((r34 x0).2.2.2.2.2.2.2.2.2.1) ((r34 x0).2.2.2.2.2.2.2.2.2.2.1) ((r34 x0).2.2.2.2.2.2.2.2.2.2.2.1) 1 (c391.2.2))
 let c492 := (r35c ((r34 x0).2.1) ((r34 x0).2.2.1) ((r34 x0).2.2.2.1) ((r34 x0).2.2.2.2.1) ((r34 x0).2.2.2.2.2.1) ((r33 x0).2.2.2.2.2.2.2.1) ((r33 x0).2.2.2.2.2.2.2.2.1) ((r33 x0).2.2.2.2.2.2.2.2.2.1) ((r33 x0).2.2.2.2.2.2.2.2.2.2.1) ((r33 x0).2.2.2.2.2.2.2.2.2.2.2.1) ((r33 x0).2.2.2.2.2.2.2.2.2.2.2.2))
 let c514 := (r35d ((r34 x0).2.2.2.2.2.2.2.1) ((r34 x0).2.2.2.2.2.2.2.2.1) ((r34 x0).2.2.2.2.2.2.2.2.2.1) ((r34 x0).2.2.2.2.2.2.2.2.2.2.1) ((r34 x0).2.2.2.2.2.2.2.2.2.2.2.1) ((r33 x0).2.2.2.2.2.2.2.1) ((r33 x0).2.2.2.2.2.2.2.2.1) ((r33 x0).2.2.2.2.2.2.2.2.2.1) ((r33 x0).2.2.2.2.2.2.2.2.2.2.1) ((r33 x0).2.2.2.2.2.2.2.2.2.2.2.1) ((r34 x0).2.2.2.2.2.2.2.2.2.2.2.2) ((r33 x0).2.2.2.2.2.2.2.2.2.2.2.2))
 (cond (decide (((((x0.size) : Nat) : Int) : Int) > 1048576))
 (a4 x0 (0, true))
 (cond (Nat.beq ((r33 x0).1) 0) (cond (Nat.beq ((r34 x0).1) 0) (cond (!c297) (a4 x0 (0, false)) (cond ((((r34 x0).2.2.2.2.2.2.1) : Int) != ((r33 x0).2.2.2.2.2.2.1)) (a4 x0 (0, false)) (cond (decide ((c299 : Int) < 0)) (a4 x0 (0, false)) (cond ((c299 : Int) != c298) (a4 x0 (0, false)) (cond (Nat.beq ((r34 x0).1) 0) (cond (!c297) (some (.bool false, st0)) (cond ((((r34 x0).2.2.2.2.2.2.1) : Int) != ((r33 x0).2.2.2.2.2.2.1)) (some (.bool false, st0)) (cond (decide ((c299 : Int) < 0)) (some (.bool false, st0)) (cond ((c299 : Int) != c298) (some (.bool false, st0)) (a4 x0 (0, true)))))) (cond (Nat.beq ((r34 x0).1) 1) (cond (Nat.beq (c300.1) 0) (cond (!(c300.2)) (some (.bool false, st0)) (cond ((0 : Int) != ((r33 x0).2.2.2.2.2.2.1)) (some (.bool false, st0)) (cond (decide ((c299 : Int) < 0)) (some (.bool false, st0)) (cond ((c299 : Int) != c298) (some (.bool false, st0)) (some (.bool true, st0)))))) none) none)))))) (cond (Nat.beq ((r34 x0).1) 1) (cond (Nat.beq (c300.1) 0) (cond (!(c300.2)) (a4 x0 (0, false)) (cond ((0 : Int) != ((r33 x0).2.2.2.2.2.2.1)) (a4 x0 (0, false)) (cond (Nat.beq (c391.1) 0) (cond (Nat.beq (c491.1) 0) (cond (decide (((c491.2) : Int) < 0)) (a4 x0 (0, false)) (cond (((c491.2) : Int) != (c391.2.1)) (a4 x0 (0, false)) (cond (Nat.beq ((r34 x0).1) 0) (cond (!c297) (some (.bool false, st0)) (cond ((((r34 x0).2.2.2.2.2.2.1) : Int) != ((r33 x0).2.2.2.2.2.2.1)) (some (.bool false, st0)) (cond (Nat.beq (c491.1) 0) (cond (decide (((c491.2) : Int) < 0)) (some (.bool false, st0)) (cond (((c491.2) : Int) != (c391.2.1)) (some (.bool false, st0)) (some (.bool true, st0)))) none))) (cond (Nat.beq ((r34 x0).1) 1) (cond (Nat.beq (c300.1) 0) (cond (!(c300.2)) (some (.bool false, st0)) (cond ((0 : Int) != ((r33 x0).2.2.2.2.2.2.1)) (some (.bool false, st0)) (cond (Nat.beq (c491.1) 0) (cond (decide (((c491.2) : Int) < 0)) (some (.bool false, st0)) (cond (((c491.2) : Int) != (c391.2.1)) (some (.bool false, st0)) (a4 x0 (0, true)))) none))) none) none)))) none) none))) none) none)) (cond (Nat.beq ((r33 x0).1) 1) (cond (Nat.beq ((r34 x0).1) 0) (cond (!c492) (a4 x0 (0, false)) (cond ((((r34 x0).2.2.2.2.2.2.1) : Int) != 0) (a4 x0 (0, false)) (cond (decide ((c299 : Int) < 0)) (a4 x0 (0, false)) (cond ((c299 : Int) != c298) (a4 x0 (0, false)) (cond (Nat.beq ((r34 x0).1) 0) (cond (!c492) (some (.bool false, st0)) (cond ((((r34 x0).2.2.2.2.2.2.1) : Int) != 0) (some (.bool false, st0)) (cond (decide ((c299 : Int) < 0)) (some (.bool false, st0)) (cond ((c299 : Int) != c298) (some (.bool false, st0)) (a4 x0 (0, true)))))) (cond (Nat.beq ((r34 x0).1) 1) (cond (Nat.beq (c514.1) 0) (cond (!(c514.2)) (some (.bool false, st0)) (cond (decide ((c299 : Int) < 0)) (some (.bool false, st0)) (cond ((c299 : Int) != c298) (some (.bool false, st0)) (some (.bool true, st0))))) none) none)))))) (cond (Nat.beq ((r34 x0).1) 1) (cond (Nat.beq (c514.1) 0) (cond (!(c514.2)) (a4 x0 (0, false)) (cond (Nat.beq (c391.1) 0) (cond (Nat.beq (c491.1) 0) (cond (decide (((c491.2) : Int) < 0)) (a4 x0 (0, false)) (cond (((c491.2) : Int) != (c391.2.1)) (a4 x0 (0, false)) (cond (Nat.beq ((r34 x0).1) 0) (cond (!c492) (some (.bool false, st0)) (cond ((((r34 x0).2.2.2.2.2.2.1) : Int) != 0) (some (.bool false, st0)) (cond (Nat.beq (c491.1) 0) (cond (decide (((c491.2) : Int) < 0)) (some (.bool false, st0)) (cond (((c491.2) : Int) != (c391.2.1)) (some (.bool false, st0)) (some (.bool true, st0)))) none))) (cond (Nat.beq ((r34 x0).1) 1) (cond (Nat.beq (c514.1) 0) (cond (!(c514.2)) (some (.bool false, st0)) (cond (Nat.beq (c491.1) 0) (cond (decide (((c491.2) : Int) < 0)) (some (.bool false, st0)) (cond (((c491.2) : Int) != (c391.2.1)) (some (.bool false, st0)) (a4 x0 (0, true)))) none)) none) none)))) none) none)) none) none)) none)))
set_option maxRecDepth 100000 in
set_option maxHeartbeats 4000000 in
theorem e4 (x0 : ByteArray) : evFn Tryz.prog ext T65 noL 200 Tryz.f4 [.string x0] st0 = firstT [((Nat.beq ((r4 x0).1) 0), .bool ((r4 x0).2), st0)] :=
 (show _ = w4 x0 from by kernel_rfl).trans
 (show w4 x0 = a4 x0 (r4 x0) from by unfold w4 r4; exact (cond_both (a4 x0) _ (fun h0 => rfl) (fun h0 => (cond_both (a4 x0) _ (fun h1 => (cond_both (a4 x0) _ (fun h2 => (cond_both (a4 x0) _ (fun h3 => rfl) (fun h3 => (cond_both (a4 x0) _ (fun h4 => rfl) (fun h4 => (cond_both (a4 x0) _ (fun h5 => rfl) (fun h5 => (cond_both (a4 x0) _ (fun h6 => rfl) (fun h6 => (cond_t h2 (cond_f (ev_not0 (ev_notf h3)) (cond_f h4 (cond_f h5 (cond_f h6 rfl)))))))))))))) (fun h2 => (cond_both (a4 x0) _ (fun h3 => (cond_both (a4 x0) _ (fun h4 => (cond_both (a4 x0) _ (fun h5 => rfl) (fun h5 => (cond_both (a4 x0) _ (fun h6 => rfl) (fun h6 => (cond_both (a4 x0) _ (fun h7 => (cond_both (a4 x0) _ (fun h8 => (cond_both (a4 x0) _ (fun h9 => rfl) (fun h9 => (cond_both (a4 x0) _ (fun h10 => rfl) (fun h10 => (cond_f h2 (cond_t h3 (cond_t h4 (cond_f (ev_not0 (ev_notf h5)) (cond_f h6 (cond_t h8 (cond_f h9 (cond_f h10 rfl))))))))))))) (fun h8 => rfl))) (fun h7 => rfl))))))) (fun h4 => rfl))) (fun h3 => rfl))))) (fun h1 => (cond_both (a4 x0) _ (fun h2 => (cond_both (a4 x0) _ (fun h3 => (cond_both (a4 x0) _ (fun h4 => rfl) (fun h4 => (cond_both (a4 x0) _ (fun h5 => rfl) (fun h5 => (cond_both (a4 x0) _ (fun h6 => rfl) (fun h6 => (cond_both (a4 x0) _ (fun h7 => rfl) (fun h7 => (cond_t h3 (cond_f (ev_not0 (ev_notf h4)) (cond_f h5 (cond_f h6 (cond_f h7 rfl)))))))))))))) (fun h3 => (cond_both (a4 x0) _ (fun h4 => (cond_both (a4 x0) _ (fun h5 => (cond_both (a4 x0) _ (fun h6 => rfl) (fun h6 => (cond_both (a4 x0) _ (fun h7 => (cond_both (a4 x0) _ (fun h8 => (cond_both (a4 x0) _ (fun h9 => rfl) (fun h9 => (cond_both (a4 x0) _ (fun h10 => rfl) (fun h10 => (cond_f h3 (cond_t h4 (cond_t h5 (cond_f (ev_not0 (ev_notf h6)) (cond_t h8 (cond_f h9 (cond_f h10 rfl)))))))))))) (fun h8 => rfl))) (fun h7 => rfl))))) (fun h5 => rfl))) (fun h4 => rfl))))) (fun h2 => rfl)))))))
noncomputable def s4 (args : List Value) (s : St) : List (Bool × Value × St) :=
 match args, s.h with
 | [.string x0], [] => [((Nat.beq ((r4 x0).1) 0), .bool ((r4 x0).2), st0)]
 | _, _ => T65 4 args s
noncomputable def T66 : CallF := addF T65 4 s4
set_option maxRecDepth 100000 in
set_option maxHeartbeats 4000000 in
theorem ok66 : CfOk Tryz.prog T66 := by
  refine cfOk_add ok65 fun args s r s' h1 h2 h3 => ?_
  unfold s4 at h3; split at h3
  · rename_i h; exact callOk ok65 Tryz.func4 h1 h2 h (lfOkF_no _ _).body (e4 _) rfl h3
  · exact ok65 _ _ _ _ _ h1 h2 h3
end Go.Proofs.YtbmagccjcccnaaaGreatDoor
