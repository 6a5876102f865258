/- What the functions that the statements reach answer, part 3. -/
import Derived.Test.YtbmagccjcccnaaaGreatDoorRt2
namespace Go.Proofs.YtbmagccjcccnaaaGreatDoor
open Go.Ab
set_option maxHeartbeats 4000000
set_option maxRecDepth 100000

/-- (*impl.words).next -/
noncomputable def w69 {α : Type} (x0 x1 : Nat) (x2 : Bool) (x3 : List ByteArray) (k : (Nat × ByteArray × Nat × Nat × Bool) → α) : α :=
 cond ((((x1 : Nat) : Int) : Int) == 0) (k (0, (ByteArray.mk #[]), x0, x1, true)) (cond (Nat.blt 0 x1) (cond (Nat.blt (x0 + 0) x3.length) (cond ((Nat.ble 1 x1) && (Nat.ble x1 x1)) (k (0, (x3.getD (x0 + 0) .empty), (x0 + 1), (x1 - 1), x2)) (k (1, ByteArray.empty, 0, 0, false))) (k (1, ByteArray.empty, 0, 0, false))) (k (1, ByteArray.empty, 0, 0, false)))
noncomputable def r69 (x0 x1 : Nat) (x2 : Bool) (x3 : List ByteArray) : Nat × ByteArray × Nat × Nat × Bool := w69 x0 x1 x2 x3 (fun p => p)
noncomputable def g69 (x0 x1 : Nat) (x2 : Bool) (x3 : List ByteArray) (p : Nat × ByteArray × Nat × Nat × Bool) : List (Bool × Value × St) := [((Nat.beq (p.1) 0), .string (p.2.1), ⟨[⟨true, (some (.cells [rsl ⟨1, (p.2.2.1), some 0⟩ (p.2.2.2.1), .bool (p.2.2.2.2)]))⟩, ⟨true, (some (.strs x3))⟩], 2, [0]⟩)]
theorem p69 {α : Type} (x0 x1 : Nat) (x2 : Bool) (x3 : List ByteArray) (f : (Nat × ByteArray × Nat × Nat × Bool) → α) : w69 x0 x1 x2 x3 f = f (w69 x0 x1 x2 x3 (fun p => p)) := by unfold w69; exact (cond_app f _ rfl (cond_app f _ (cond_app f _ (cond_app f _ rfl rfl) rfl) rfl))
set_option maxRecDepth 100000 in
set_option maxHeartbeats 4000000 in
theorem e69 (x0 x1 : Nat) (x2 : Bool) (x3 : List ByteArray) : evFn Tryz.prog ext T19 noL 200 Tryz.f69 [vp 0] ⟨[⟨true, (some (.cells [rsl ⟨1, x0, some 0⟩ x1, .bool x2]))⟩, ⟨true, (some (.strs x3))⟩], 2, []⟩ = firstT (g69 x0 x1 x2 x3 (r69 x0 x1 x2 x3)) :=
 Eq.trans (by kernel_rfl) (p69 x0 x1 x2 x3 (fun p => firstT (g69 x0 x1 x2 x3 p)))
noncomputable def s69 (args : List Value) (s : St) : List (Bool × Value × St) :=
 match args, s.h with
 | [.pointer (some ⟨f0, f1, some f2⟩)], [⟨true, some (.cells [.iface x1 (.pointer (some ⟨f3, x0, some f4⟩)), .bool x2])⟩, ⟨true, some (.strs x3)⟩] => if f0 = 0 ∧ f1 = 0 ∧ f2 = 0 ∧ f3 = 1 ∧ f4 = 0 then (g69 x0 x1 x2 x3 (r69 x0 x1 x2 x3)) else T19 69 args s
 | _, _ => T19 69 args s
noncomputable def T20 : CallF := addF T19 69 s69
set_option maxRecDepth 100000 in
set_option maxHeartbeats 4000000 in
theorem ok20 : CfOk Tryz.prog T20 := by
  refine cfOk_add ok19 fun args s r s' h1 h2 h3 => ?_
  unfold s69 at h3; split at h3
  · rename_i h; split at h3
    · rename_i hc; obtain ⟨rfl, rfl, rfl, rfl, rfl⟩ := hc; exact callOk ok19 Tryz.func69 h1 h2 h (lfOkF_no _ _).body (e69 _ _ _ _) rfl h3
    · exact ok19 _ _ _ _ _ h1 h2 h3
  · exact ok19 _ _ _ _ _ h1 h2 h3

/-- (*impl.words).is -/
noncomputable def w41 {α : Type} (x0 : ByteArray) (x1 x2 : Nat) (x3 : Bool) (x4 : List ByteArray) (k : (Nat × Nat × Nat × Bool) → α) : α :=
 cond (Nat.beq ((r69 x1 x2 x3 x4).1) 0) (cond (!(((r69 x1 x2 x3 x4).2.1).toList == x0.toList)) (k (0, ((r69 x1 x2 x3 x4).2.2.1), ((r69 x1 x2 x3 x4).2.2.2.1), true)) (k (0, ((r69 x1 x2 x3 x4).2.2.1), ((r69 x1 x2 x3 x4).2.2.2.1), ((r69 x1 x2 x3 x4).2.2.2.2)))) (k (1, 0, 0, false))
noncomputable def r41 (x0 : ByteArray) (x1 x2 : Nat) (x3 : Bool) (x4 : List ByteArray) : Nat × Nat × Nat × Bool := w41 x0 x1 x2 x3 x4 (fun p => p)
noncomputable def g41 (x0 : ByteArray) (x1 x2 : Nat) (x3 : Bool) (x4 : List ByteArray) (p : Nat × Nat × Nat × Bool) : List (Bool × Value × St) := [((Nat.beq (p.1) 0), .tuple #[], ⟨[⟨true, (some (.cells [rsl ⟨1, (p.2.1), some 0⟩ (p.2.2.1), .bool (p.2.2.2)]))⟩, ⟨true, (some (.strs x4))⟩], 2, [0]⟩)]
theorem p41 {α : Type} (x0 : ByteArray) (x1 x2 : Nat) (x3 : Bool) (x4 : List ByteArray) (f : (Nat × Nat × Nat × Bool) → α) : w41 x0 x1 x2 x3 x4 f = f (w41 x0 x1 x2 x3 x4 (fun p => p)) := by unfold w41; exact (cond_app f _ (cond_app f _ rfl rfl) rfl)
set_option maxRecDepth 100000 in
set_option maxHeartbeats 4000000 in
theorem e41 (x0 : ByteArray) (x1 x2 : Nat) (x3 : Bool) (x4 : List ByteArray) : evFn Tryz.prog ext T20 noL 200 Tryz.f41 [vp 0, .string x0] ⟨[⟨true, (some (.cells [rsl ⟨1, x1, some 0⟩ x2, .bool x3]))⟩, ⟨true, (some (.strs x4))⟩], 2, []⟩ = firstT (g41 x0 x1 x2 x3 x4 (r41 x0 x1 x2 x3 x4)) :=
 Eq.trans (by kernel_rfl) (p41 x0 x1 x2 x3 x4 (fun p => firstT (g41 x0 x1 x2 x3 x4 p)))
noncomputable def s41 (args : List Value) (s : St) : List (Bool × Value × St) :=
 match args, s.h with
 | [.pointer (some ⟨f0, f1, some f2⟩), .string x0], [⟨true, some (.cells [.iface x2 (.pointer (some ⟨f3, x1, some f4⟩)), .bool x3])⟩, ⟨true, some (.strs x4)⟩] => if f0 = 0 ∧ f1 = 0 ∧ f2 = 0 ∧ f3 = 1 ∧ f4 = 0 then (g41 x0 x1 x2 x3 x4 (r41 x0 x1 x2 x3 x4)) else T20 41 args s
 | _, _ => T20 41 args s
noncomputable def T21 : CallF := addF T20 41 s41
set_option maxRecDepth 100000 in
set_option maxHeartbeats 4000000 in
theorem ok21 : CfOk Tryz.prog T21 := by
  refine cfOk_add ok20 fun args s r s' h1 h2 h3 => ?_
  unfold s41 at h3; split at h3
  · rename_i h; split at h3
    · rename_i hc; obtain ⟨rfl, rfl, rfl, rfl, rfl⟩ := hc; exact callOk ok20 Tryz.func41 h1 h2 h (lfOkF_no _ _).body (e41 _ _ _ _ _) rfl h3
    · exact ok20 _ _ _ _ _ h1 h2 h3
  · exact ok20 _ _ _ _ _ h1 h2 h3

/-- impl.unhex, loop 0: one round -/
noncomputable def w46l0 {α : Type} (ih : ByteArray → Int → Int → Int → (Nat × Int × Int)) (x0 : ByteArray) (x1 x2 x3 : Int) (k k2 : (Nat × Int × Int) → α) : α :=
 cond (decide ((x3 : Int) < x2)) (cond ((decide ((0 : Int) ≤ x3)) && (Nat.blt (Int.toNat x3) (x0.size))) (cond (decide (((ixB (ByteArray.mk #[48, 49, 50, 51, 52, 53, 54, 55, 56, 57, 97, 98, 99, 100, 101, 102]) ((UInt8.toNat (List.getD (ByteArray.data x0).toList (Int.toNat x3) 0) : Nat) : Int)) : Int) < 0)) (k (0, x1, 0)) (k2 (ih x0 (bits .or .u32 (IntKind.u32.wrap (x1 * 2 ^ (min (4 : Int).toNat (IntKind.bits .u32)))) (IntKind.u32.wrap (ixB (ByteArray.mk #[48, 49, 50, 51, 52, 53, 54, 55, 56, 57, 97, 98, 99, 100, 101, 102]) ((UInt8.toNat (List.getD (ByteArray.data x0).toList (Int.toNat x3) 0) : Nat) : Int)))) x2 (IntKind.i64.wrap (x3 + 1))))) (k (2, 0, 0))) (k (1, 0, x1))
noncomputable def b46l0 (ih : ByteArray → Int → Int → Int → (Nat × Int × Int)) (x0 : ByteArray) (x1 x2 x3 : Int) : Nat × Int × Int := w46l0 ih x0 x1 x2 x3 (fun p => p) (fun p => p)
noncomputable def r46l0 : Nat → ByteArray → Int → Int → Int → (Nat × Int × Int)
 | 0 => fun _ _ _ _ => (2, 0, 0)
 | m + 1 => b46l0 (r46l0 m)
noncomputable def g46l0 (x0 : ByteArray) (x1 x2 x3 : Int) (p : Nat × Int × Int) : List (Bool × (Fin' × List Value × St)) := [((Nat.beq (p.1) 0), .ret, [.int .u32 0, .bool false, .int .u32 (p.2.1)], st0), ((Nat.beq (p.1) 1), .exit 0, [anyV, anyV, .int .u32 (p.2.2)], st0)]
noncomputable def a46l0 (x0 : ByteArray) (x1 x2 x3 : Int) (p : Nat × Int × Int) : Option (Fin' × List Value × St) := firstT ((g46l0 x0 x1 x2 x3 p).map fun (b, x) => (b, (x.1, frameOf 28 [2, 3, 4] x.2.1, x.2.2)))
noncomputable def u46l0 (x0 : ByteArray) (x1 x2 x3 : Int) (p : Nat × Int × Int) : Option (Fin' × List Value × St) := alts ((g46l0 x0 x1 x2 x3 p).map fun (b, x) => (b, (x.1, frameOf 28 [2, 3, 4] x.2.1, x.2.2))) some
theorem v46l0 (x0 : ByteArray) (x1 x2 x3 : Int) (p : Nat × Int × Int) : u46l0 x0 x1 x2 x3 p = a46l0 x0 x1 x2 x3 p := alts_first _
noncomputable def q46l0 (m : Nat) : SumK := fun vals s =>
 match vals, s.h with
 | [.string x0, .int .u32 x1, .int .i64 x2, .int .i64 x3], [] => (g46l0 x0 x1 x2 x3 (r46l0 m x0 x1 x2 x3))
 | _, _ => noQ vals s
theorem p46l0 {α : Type} (ih : ByteArray → Int → Int → Int → (Nat × Int × Int)) (x0 : ByteArray) (x1 x2 x3 : Int) (f : (Nat × Int × Int) → α) (u : (Nat × Int × Int) → α) (h : ∀ p, u p = f p) : w46l0 ih x0 x1 x2 x3 f u = f (w46l0 ih x0 x1 x2 x3 (fun p => p) (fun p => p)) := by unfold w46l0; repeat' (first | refine cond_app f _ ?_ ?_ | rfl | exact h _)
set_option maxRecDepth 100000 in
set_option maxHeartbeats 4000000 in
theorem e46l0 (m : Nat) (x0 : ByteArray) (x1 x2 x3 : Int) : evC Tryz.prog ext T21 noL 200 (loopN Tryz.f46 0) (loopTail ([0, 4, 11, 12], []) [2, 3, 4] [] (sumK 28 [0, 4, 11, 12] [2, 3, 4] (q46l0 m))) (frameOf 28 [0, 4, 11, 12] [.string x0, .int .u32 x1, vi x2, vi x3]) ⟨[], 0, []⟩ = firstT ((g46l0 x0 x1 x2 x3 (r46l0 (m + 1) x0 x1 x2 x3)).map fun (b, x) => (b, (x.1, frameOf 28 [2, 3, 4] x.2.1, x.2.2))) :=
 Eq.trans (by kernel_rfl) (p46l0 (r46l0 m) x0 x1 x2 x3 (a46l0 x0 x1 x2 x3) (u46l0 x0 x1 x2 x3) (v46l0 x0 x1 x2 x3))
set_option maxRecDepth 100000 in
set_option maxHeartbeats 4000000 in
theorem qm46l0 : ∀ m, SumKOk Tryz.prog (loopN Tryz.f46 0) 28 [0, 4, 11, 12] [2, 3, 4] (q46l0 m) := by
  intro m
  induction m with
  | zero =>
    intro vals s x h1 h2 h3
    unfold q46l0 at h3; split at h3
    · rename_i h; exact absurd h3 (by simp [r46l0, g46l0, firstT, Nat.beq])
    · exact noQ_ok _ _ _ h1 h2 h3
  | succ m ih =>
    intro vals s x h1 h2 h3
    unfold q46l0 at h3; split at h3
    · rename_i h; exact sum_step ok21 extOk mixed ((lfOkF_no _ _).inner (by kernel_rfl)) ih h1 h2 h (e46l0 m _ _ _ _) rfl h3
    · exact noQ_ok _ _ _ h1 h2 h3
noncomputable def Q46l0 : SumK := fun vals s => q46l0 (fuelOf vals s.h) vals s
theorem qok46l0 : SumKOk Tryz.prog (loopN Tryz.f46 0) 28 [0, 4, 11, 12] [2, 3, 4] Q46l0 := fuel_ok qm46l0 fuelOf
noncomputable def L46_1 : LoopT := addL noL 6 ([0, 4, 11, 12], []) (sumK 28 [0, 4, 11, 12] [2, 3, 4] Q46l0)
theorem lok46_1 : LfOkF Tryz.prog L46_1 Tryz.f46 := lfOkF_add (lfOkF_no _ _) qok46l0 (by kernel_rfl) (by kernel_rfl) (by kernel_rfl)

/-- impl.unhex -/
noncomputable def w46 {α : Type} (x0 : ByteArray) (k : (Nat × Int × Bool) → α) : α :=
 let c222 := (r46l0 (1000 + (x0.size)) x0 0 (((x0.size) : Nat) : Int) 0)
 cond (((((x0.size) : Nat) : Int) : Int) != 8) (k (0, 0, false)) (cond (Nat.beq (c222.1) 0) (k (0, 0, false)) (cond (Nat.beq (c222.1) 1) (k (0, (c222.2.2), true)) (k (1, 0, false))))
noncomputable def r46 (x0 : ByteArray) : Nat × Int × Bool := w46 x0 (fun p => p)
noncomputable def g46 (x0 : ByteArray) (p : Nat × Int × Bool) : List (Bool × Value × St) := [((Nat.beq (p.1) 0), .tuple #[.int .u32 (p.2.1), .bool (p.2.2)], st0)]
theorem p46 {α : Type} (x0 : ByteArray) (f : (Nat × Int × Bool) → α) : w46 x0 f = f (w46 x0 (fun p => p)) := by unfold w46; exact (cond_app f _ rfl (cond_app f _ rfl (cond_app f _ rfl rfl)))
set_option maxRecDepth 100000 in
set_option maxHeartbeats 4000000 in
theorem e46 (x0 : ByteArray) : evFn Tryz.prog ext T21 L46_1 200 Tryz.f46 [.string x0] st0 = firstT (g46 x0 (r46 x0)) :=
 Eq.trans (by kernel_rfl) (p46 x0 (fun p => firstT (g46 x0 p)))
noncomputable def s46 (args : List Value) (s : St) : List (Bool × Value × St) :=
 match args, s.h with
 | [.string x0], [] => (g46 x0 (r46 x0))
 | _, _ => T21 46 args s
noncomputable def T22 : CallF := addF T21 46 s46
set_option maxRecDepth 100000 in
set_option maxHeartbeats 4000000 in
theorem ok22 : CfOk Tryz.prog T22 := by
  refine cfOk_add ok21 fun args s r s' h1 h2 h3 => ?_
  unfold s46 at h3; split at h3
  · rename_i h; exact callOk ok21 Tryz.func46 h1 h2 h lok46_1.body (e46 _) rfl h3
  · exact ok21 _ _ _ _ _ h1 h2 h3

/-- impl.hex -/
noncomputable def w48 {α : Type} (x0 : Int) (k : (Nat × ByteArray) → α) : α :=
 cond ((decide ((0 : Int) ≤ (bits .and .u32 (Int.fdiv x0 (2 ^ (min (28 : Int).toNat (IntKind.bits .u32)))) 15))) && (Nat.blt (Int.toNat (bits .and .u32 (Int.fdiv x0 (2 ^ (min (28 : Int).toNat (IntKind.bits .u32)))) 15)) 16)) (cond ((decide ((0 : Int) ≤ (bits .and .u32 (Int.fdiv x0 (2 ^ (min (24 : Int).toNat (IntKind.bits .u32)))) 15))) && (Nat.blt (Int.toNat (bits .and .u32 (Int.fdiv x0 (2 ^ (min (24 : Int).toNat (IntKind.bits .u32)))) 15)) 16)) (cond ((decide ((0 : Int) ≤ (bits .and .u32 (Int.fdiv x0 (2 ^ (min (20 : Int).toNat (IntKind.bits .u32)))) 15))) && (Nat.blt (Int.toNat (bits .and .u32 (Int.fdiv x0 (2 ^ (min (20 : Int).toNat (IntKind.bits .u32)))) 15)) 16)) (cond ((decide ((0 : Int) ≤ (bits .and .u32 (Int.fdiv x0 (2 ^ (min (16 : Int).toNat (IntKind.bits .u32)))) 15))) && (Nat.blt (Int.toNat (bits .and .u32 (Int.fdiv x0 (2 ^ (min (16 : Int).toNat (IntKind.bits .u32)))) 15)) 16)) (cond ((decide ((0 : Int) ≤ (bits .and .u32 (Int.fdiv x0 (2 ^ (min (12 : Int).toNat (IntKind.bits .u32)))) 15))) && (Nat.blt (Int.toNat (bits .and .u32 (Int.fdiv x0 (2 ^ (min (12 : Int).toNat (IntKind.bits .u32)))) 15)) 16)) (cond ((decide ((0 : Int) ≤ (bits .and .u32 (Int.fdiv x0 (2 ^ (min (8 : Int).toNat (IntKind.bits .u32)))) 15))) && (Nat.blt (Int.toNat (bits .and .u32 (Int.fdiv x0 (2 ^ (min (8 : Int).toNat (IntKind.bits .u32)))) 15)) 16)) (cond ((decide ((0 : Int) ≤ (bits .and .u32 (Int.fdiv x0 (2 ^ (min (4 : Int).toNat (IntKind.bits .u32)))) 15))) && (Nat.blt (Int.toNat (bits .and .u32 (Int.fdiv x0 (2 ^ (min (4 : Int).toNat (IntKind.bits .u32)))) 15)) 16)) (cond ((decide ((0 : Int) ≤ (bits .and .u32 (Int.fdiv x0 (2 ^ (min (0 : Int).toNat (IntKind.bits .u32)))) 15))) && (Nat.blt (Int.toNat (bits .and .u32 (Int.fdiv x0 (2 ^ (min (0 : Int).toNat (IntKind.bits .u32)))) 15)) 16)) (k (0, (bytesOf ([[((UInt8.toNat (List.getD (ByteArray.data (ByteArray.mk #[48, 49, 50, 51, 52, 53, 54, 55, 56, 57, 97, 98, 99, 100, 101, 102])).toList (Int.toNat (bits .and .u32 (Int.fdiv x0 (2 ^ (min (28 : Int).toNat (IntKind.bits .u32)))) 15)) 0) : Nat) : Int)], [((UInt8.toNat (List.getD (ByteArray.data (ByteArray.mk #[48, 49, 50, 51, 52, 53, 54, 55, 56, 57, 97, 98, 99, 100, 101, 102])).toList (Int.toNat (bits .and .u32 (Int.fdiv x0 (2 ^ (min (24 : Int).toNat (IntKind.bits .u32)))) 15)) 0) : Nat) : Int)], [((UInt8.toNat (List.getD (ByteArray.data (ByteArray.mk #[48, 49, 50, 51, 52, 53, 54, 55, 56, 57, 97, 98, 99, 100, 101, 102])).toList (Int.toNat (bits .and .u32 (Int.fdiv x0 (2 ^ (min (20 : Int).toNat (IntKind.bits .u32)))) 15)) 0) : Nat) : Int)], [((UInt8.toNat (List.getD (ByteArray.data (ByteArray.mk #[48, 49, 50, 51, 52, 53, 54, 55, 56, 57, 97, 98, 99, 100, 101, 102])).toList (Int.toNat (bits .and .u32 (Int.fdiv x0 (2 ^ (min (16 : Int).toNat (IntKind.bits .u32)))) 15)) 0) : Nat) : Int)], [((UInt8.toNat (List.getD (ByteArray.data (ByteArray.mk #[48, 49, 50, 51, 52, 53, 54, 55, 56, 57, 97, 98, 99, 100, 101, 102])).toList (Int.toNat (bits .and .u32 (Int.fdiv x0 (2 ^ (min (12 : Int).toNat (IntKind.bits .u32)))) 15)) 0) : Nat) : Int)], [((UInt8.toNat (List.getD (ByteArray.data (ByteArray.mk #[48, 49, 50, 51, 52, 53, 54, 55, 56, 57, 97, 98, 99, 100, 101, 102])).toList (Int.toNat (bits .and .u32 (Int.fdiv x0 (2 ^ (min (8 : Int).toNat (IntKind.bits .u32)))) 15)) 0) : Nat) : Int)], [((UInt8.toNat (List.getD (ByteArray.data (ByteArray.mk #[48, 49, 50, 51, 52, 53, 54, 55, 56, 57, 97, 98, 99, 100, 101, 102])).toList (Int.toNat (bits .and .u32 (Int.fdiv x0 (2 ^ (min (4 : Int).toNat (IntKind.bits .u32)))) 15)) 0) : Nat) : Int)], [((UInt8.toNat (List.getD (ByteArray.data (ByteArray.mk #[48, 49, 50, 51, 52, 53, 54, 55, 56, 57, 97, 98, 99, 100, 101, 102])).toList (Int.toNat (bits .and .u32 (Int.fdiv x0 (2 ^ (min (0 : Int).toNat (IntKind.bits .u32)))) 15)) 0) : Nat) : Int)]] : List (List Int))))) (k (1, ByteArray.empty))) (k (1, ByteArray.empty))) (k (1, ByteArray.empty))) (k (1, ByteArray.empty))) (k (1, ByteArray.empty))) (k (1, ByteArray.empty))) (k (1, ByteArray.empty))) (k (1, ByteArray.empty))
noncomputable def r48 (x0 : Int) : Nat × ByteArray := w48 x0 (fun p => p)
noncomputable def g48 (x0 : Int) (p : Nat × ByteArray) : List (Bool × Value × St) := [((Nat.beq (p.1) 0), .string (p.2), st0)]
theorem p48 {α : Type} (x0 : Int) (f : (Nat × ByteArray) → α) : w48 x0 f = f (w48 x0 (fun p => p)) := by unfold w48; repeat' (first | refine cond_app f _ ?_ ?_ | rfl)
set_option maxRecDepth 100000 in
set_option maxHeartbeats 4000000 in
theorem e48 (x0 : Int) : evFn Tryz.prog ext T22 noL 200 Tryz.f48 [.int .u32 x0] st0 = firstT (g48 x0 (r48 x0)) :=
 Eq.trans (by kernel_rfl) (p48 x0 (fun p => firstT (g48 x0 p)))
noncomputable def s48 (args : List Value) (s : St) : List (Bool × Value × St) :=
 match args, s.h with
 | [.int .u32 x0], [] => (g48 x0 (r48 x0))
 | _, _ => T22 48 args s
noncomputable def T23 : CallF := addF T22 48 s48
set_option maxRecDepth 100000 in
set_option maxHeartbeats 4000000 in
theorem ok23 : CfOk Tryz.prog T23 := by
  refine cfOk_add ok22 fun args s r s' h1 h2 h3 => ?_
  unfold s48 at h3; split at h3
  · rename_i h; exact callOk ok22 Tryz.func48 h1 h2 h (lfOkF_no _ _).body (e48 _) rfl h3
  · exact ok22 _ _ _ _ _ h1 h2 h3

/-- impl.NumberText -/
noncomputable def r11 (x0 : Nat) : Nat × ByteArray :=
 cond (!feq .f32 x0 x0) (0, (ByteArray.mk #[55, 102, 99, 48, 48, 48, 48, 48])) (cond (Nat.beq ((r48 ((x0 : Nat) : Int)).1) 0) (0, ((r48 ((x0 : Nat) : Int)).2)) (1, ByteArray.empty))
noncomputable def a11 (x0 : Nat) (p : Nat × ByteArray) : Res := firstT [((Nat.beq (p.1) 0), .string (p.2), st0)]
noncomputable def w11 (x0 : Nat) : Res :=
 (cond (!feq .f32 x0 x0)
 (a11 x0 (0, (ByteArray.mk #[55, 102, 99, 48, 48, 48, 48, 48])))
 (cond (!isN .f32 x0) (cond (Nat.beq ((r48 ((x0 : Nat) : Int)).1) 0) (a11 x0 (0, ((r48 ((x0 : Nat) : Int)).2))) none) none))
set_option maxRecDepth 100000 in
set_option maxHeartbeats 4000000 in
theorem e11 (x0 : Nat) : evFn Tryz.prog ext T23 noL 200 Tryz.f11 [vf x0] st0 = firstT [((Nat.beq ((r11 x0).1) 0), .string ((r11 x0).2), st0)] :=
 (show _ = w11 x0 from by kernel_rfl).trans
 (show w11 x0 = a11 x0 (r11 x0) from by unfold w11 r11; exact (cond_both (a11 x0) _ (fun h0 => rfl) (fun h0 => (cond_t (ev_not1 (ev_eq1 (ev_notf h0))) (cond_app (a11 x0) _ rfl rfl)))))
noncomputable def s11 (args : List Value) (s : St) : List (Bool × Value × St) :=
 match args, s.h with
 | [.float .f32 x0], [] => [((Nat.beq ((r11 x0).1) 0), .string ((r11 x0).2), st0)]
 | _, _ => T23 11 args s
noncomputable def T24 : CallF := addF T23 11 s11
set_option maxRecDepth 100000 in
set_option maxHeartbeats 4000000 in
theorem ok24 : CfOk Tryz.prog T24 := by
  refine cfOk_add ok23 fun args s r s' h1 h2 h3 => ?_
  unfold s11 at h3; split at h3
  · rename_i h; exact callOk ok23 Tryz.func11 h1 h2 h (lfOkF_no _ _).body (e11 _) rfl h3
  · exact ok23 _ _ _ _ _ h1 h2 h3

/-- impl.ReadNumber -/
noncomputable def w10 {α : Type} (x0 : ByteArray) (k : (Nat × Nat × Int) → α) : α :=
 cond (Nat.beq ((r46 x0).1) 0) (cond (!((r46 x0).2.2)) (k (0, 0, 5)) (cond (Nat.beq ((r11 (Int.toNat ((r46 x0).2.1))).1) 0) (cond (!(((r11 (Int.toNat ((r46 x0).2.1))).2).toList == x0.toList)) (k (0, 0, 5)) (k (0, (Int.toNat ((r46 x0).2.1)), 0))) (k (1, 0, 0)))) (k (1, 0, 0))
noncomputable def r10 (x0 : ByteArray) : Nat × Nat × Int := w10 x0 (fun p => p)
noncomputable def g10 (x0 : ByteArray) (p : Nat × Nat × Int) : List (Bool × Value × St) := [((Nat.beq (p.1) 0), .tuple #[vf (p.2.1), vi (p.2.2)], st0)]
theorem p10 {α : Type} (x0 : ByteArray) (f : (Nat × Nat × Int) → α) : w10 x0 f = f (w10 x0 (fun p => p)) := by unfold w10; exact (cond_app f _ (cond_app f _ rfl (cond_app f _ (cond_app f _ rfl rfl) rfl)) rfl)
set_option maxRecDepth 100000 in
set_option maxHeartbeats 4000000 in
theorem e10 (x0 : ByteArray) : evFn Tryz.prog ext T24 noL 200 Tryz.f10 [.string x0] st0 = firstT (g10 x0 (r10 x0)) :=
 Eq.trans (by kernel_rfl) (p10 x0 (fun p => firstT (g10 x0 p)))
noncomputable def s10 (args : List Value) (s : St) : List (Bool × Value × St) :=
 match args, s.h with
 | [.string x0], [] => (g10 x0 (r10 x0))
 | _, _ => T24 10 args s
noncomputable def T25 : CallF := addF T24 10 s10
set_option maxRecDepth 100000 in
set_option maxHeartbeats 4000000 in
theorem ok25 : CfOk Tryz.prog T25 := by
  refine cfOk_add ok24 fun args s r s' h1 h2 h3 => ?_
  unfold s10 at h3; split at h3
  · rename_i h; exact callOk ok24 Tryz.func10 h1 h2 h (lfOkF_no _ _).body (e10 _) rfl h3
  · exact ok24 _ _ _ _ _ h1 h2 h3

/-- (*impl.words).number -/
noncomputable def w42 {α : Type} (x0 x1 : Nat) (x2 : Bool) (x3 : List ByteArray) (k : (Nat × Nat × Nat × Nat × Bool) → α) : α :=
 cond (Nat.beq ((r69 x0 x1 x2 x3).1) 0) (cond (Nat.beq ((r10 ((r69 x0 x1 x2 x3).2.1)).1) 0) (cond ((r69 x0 x1 x2 x3).2.2.2.2) (k (0, ((r10 ((r69 x0 x1 x2 x3).2.1)).2.1), ((r69 x0 x1 x2 x3).2.2.1), ((r69 x0 x1 x2 x3).2.2.2.1), true)) (k (0, ((r10 ((r69 x0 x1 x2 x3).2.1)).2.1), ((r69 x0 x1 x2 x3).2.2.1), ((r69 x0 x1 x2 x3).2.2.2.1), ((((r10 ((r69 x0 x1 x2 x3).2.1)).2.2) : Int) != 0)))) (k (1, 0, 0, 0, false))) (k (1, 0, 0, 0, false))
noncomputable def r42 (x0 x1 : Nat) (x2 : Bool) (x3 : List ByteArray) : Nat × Nat × Nat × Nat × Bool := w42 x0 x1 x2 x3 (fun p => p)
noncomputable def g42 (x0 x1 : Nat) (x2 : Bool) (x3 : List ByteArray) (p : Nat × Nat × Nat × Nat × Bool) : List (Bool × Value × St) := [((Nat.beq (p.1) 0), vf (p.2.1), ⟨[⟨true, (some (.cells [rsl ⟨1, (p.2.2.1), some 0⟩ (p.2.2.2.1), .bool (p.2.2.2.2)]))⟩, ⟨true, (some (.strs x3))⟩], 2, [0]⟩)]
theorem p42 {α : Type} (x0 x1 : Nat) (x2 : Bool) (x3 : List ByteArray) (f : (Nat × Nat × Nat × Nat × Bool) → α) : w42 x0 x1 x2 x3 f = f (w42 x0 x1 x2 x3 (fun p => p)) := by unfold w42; exact (cond_app f _ (cond_app f _ (cond_app f _ rfl rfl) rfl) rfl)
set_option maxRecDepth 100000 in
set_option maxHeartbeats 4000000 in
theorem e42 (x0 x1 : Nat) (x2 : Bool) (x3 : List ByteArray) : evFn Tryz.prog ext T25 noL 200 Tryz.f42 [vp 0] ⟨[⟨true, (some (.cells [rsl ⟨1, x0, some 0⟩ x1, .bool x2]))⟩, ⟨true, (some (.strs x3))⟩], 2, []⟩ = firstT (g42 x0 x1 x2 x3 (r42 x0 x1 x2 x3)) :=
 Eq.trans (by kernel_rfl) (p42 x0 x1 x2 x3 (fun p => firstT (g42 x0 x1 x2 x3 p)))
noncomputable def s42 (args : List Value) (s : St) : List (Bool × Value × St) :=
 match args, s.h with
 | [.pointer (some ⟨f0, f1, some f2⟩)], [⟨true, some (.cells [.iface x1 (.pointer (some ⟨f3, x0, some f4⟩)), .bool x2])⟩, ⟨true, some (.strs x3)⟩] => if f0 = 0 ∧ f1 = 0 ∧ f2 = 0 ∧ f3 = 1 ∧ f4 = 0 then (g42 x0 x1 x2 x3 (r42 x0 x1 x2 x3)) else T25 42 args s
 | _, _ => T25 42 args s
noncomputable def T26 : CallF := addF T25 42 s42
set_option maxRecDepth 100000 in
set_option maxHeartbeats 4000000 in
theorem ok26 : CfOk Tryz.prog T26 := by
  refine cfOk_add ok25 fun args s r s' h1 h2 h3 => ?_
  unfold s42 at h3; split at h3
  · rename_i h; split at h3
    · rename_i hc; obtain ⟨rfl, rfl, rfl, rfl, rfl⟩ := hc; exact callOk ok25 Tryz.func42 h1 h2 h (lfOkF_no _ _).body (e42 _ _ _ _) rfl h3
    · exact ok25 _ _ _ _ _ h1 h2 h3
  · exact ok25 _ _ _ _ _ h1 h2 h3

/-- impl.stateNames -/
noncomputable def w70 {α : Type} (k : Unit → α) : α :=
 k ()
noncomputable def r70 : Unit := w70 (fun p => p)
noncomputable def g70 (p : Unit) : List (Bool × Value × St) := [(true, .slice (some ⟨0, 0, some 0⟩) 4 4, ⟨[⟨true, (some (.strs ([(ByteArray.mk #[99, 111, 108, 100]), (ByteArray.mk #[107, 105, 110, 100, 108, 101, 100]), (ByteArray.mk #[98, 117, 114, 110, 105, 110, 103]), (ByteArray.mk #[101, 109, 98, 101, 114, 115])] : List ByteArray)))⟩], 0, []⟩)]
theorem p70 {α : Type} (f : Unit → α) : w70 f = f (w70 (fun p => p)) := by unfold w70; exact rfl
set_option maxRecDepth 100000 in
set_option maxHeartbeats 4000000 in
theorem e70 : evFn Tryz.prog ext T26 noL 200 Tryz.f70 [] st0 = firstT (g70 r70) :=
 Eq.trans (by kernel_rfl) (p70 (fun p => firstT (g70 p)))
noncomputable def s70 (args : List Value) (s : St) : List (Bool × Value × St) :=
 match args, s.h with
 | [], [] => (g70 r70)
 | _, _ => T26 70 args s
noncomputable def T27 : CallF := addF T26 70 s70
set_option maxRecDepth 100000 in
set_option maxHeartbeats 4000000 in
theorem ok27 : CfOk Tryz.prog T27 := by
  refine cfOk_add ok26 fun args s r s' h1 h2 h3 => ?_
  unfold s70 at h3; split at h3
  · rename_i h; exact callOk ok26 Tryz.func70 h1 h2 h (lfOkF_no _ _).body (e70) rfl h3
  · exact ok26 _ _ _ _ _ h1 h2 h3

/-- impl.ReadStove, loop 0: one round -/
noncomputable def b34l0 (ih : ByteArray → Nat → Nat → ByteArray → Int → Nat → Nat → Nat → List ByteArray → Nat → Nat → Bool → Nat → Nat → Int → Nat → ByteArray → ByteArray → ByteArray → ByteArray → List ByteArray → (Nat × Int)) (x0 : ByteArray) (x1 x2 : Nat) (x3 : ByteArray) (x4 : Int) (x5 x6 x7 : Nat) (x8 : List ByteArray) (x9 x10 : Nat) (x11 : Bool) (x12 x13 : Nat) (x14 : Int) (x15 : Nat) (x16 x17 x18 x19 : ByteArray) (x20 : List ByteArray) : Nat × Int :=
 cond (decide ((x4 : Int) < 4)) (cond ((decide ((0 : Int) ≤ x4)) && (Nat.blt (Int.toNat x4) 4)) (cond ((([x16, x17, x18, x19] : List ByteArray).getD (Int.toNat x4) .empty).toList == x3.toList) (ih x0 x1 x2 x3 (IntKind.i64.wrap (x4 + 1)) x5 x6 x7 x8 x9 x10 x11 x12 x13 (IntKind.i8.wrap x4) x15 x16 x17 x18 x19 x20) (ih x0 x1 x2 x3 (IntKind.i64.wrap (x4 + 1)) x5 x6 x7 x8 x9 x10 x11 x12 x13 x14 x15 x16 x17 x18 x19 x20)) (1, 0)) (0, x14)
noncomputable def r34l0 : Nat → ByteArray → Nat → Nat → ByteArray → Int → Nat → Nat → Nat → List ByteArray → Nat → Nat → Bool → Nat → Nat → Int → Nat → ByteArray → ByteArray → ByteArray → ByteArray → List ByteArray → (Nat × Int)
 | 0 => fun _ _ _ _ _ _ _ _ _ _ _ _ _ _ _ _ _ _ _ _ _ => (1, 0)
 | m + 1 => b34l0 (r34l0 m)
noncomputable def a34l0 (x0 : ByteArray) (x1 x2 : Nat) (x3 : ByteArray) (x4 : Int) (x5 x6 x7 : Nat) (x8 : List ByteArray) (x9 x10 : Nat) (x11 : Bool) (x12 x13 : Nat) (x14 : Int) (x15 : Nat) (x16 x17 x18 x19 : ByteArray) (x20 : List ByteArray) (p : Nat × Int) : Option (Fin' × List Value × St) := firstT ([((Nat.beq (p.1) 0), .exit 0, [.string x0, vp 0, rsl ⟨1, x1, some 0⟩ x2, vp 2, vp 3], ⟨[⟨true, (some (.cells [.slice none 0 0, vf x5, vf x6, .int .i8 0, vi 0, vf x7]))⟩, ⟨true, (some (.strs x8))⟩, ⟨true, (some (.cells [rsl ⟨5, x9, some 0⟩ x10, .bool x11]))⟩, ⟨true, (some (.cells [.slice none 0 0, vf x12, vf x13, .int .i8 (p.2), vi 0, vf x15]))⟩, ⟨true, (some (.strs ([x16, x17, x18, x19] : List ByteArray)))⟩, ⟨true, (some (.strs x20))⟩], 6, [3]⟩)].map fun (b, x) => (b, (x.1, frameOf 105 [0, 2, 4, 6, 7] x.2.1, x.2.2)))
noncomputable def u34l0 (x0 : ByteArray) (x1 x2 : Nat) (x3 : ByteArray) (x4 : Int) (x5 x6 x7 : Nat) (x8 : List ByteArray) (x9 x10 : Nat) (x11 : Bool) (x12 x13 : Nat) (x14 : Int) (x15 : Nat) (x16 x17 x18 x19 : ByteArray) (x20 : List ByteArray) (p : Nat × Int) : Option (Fin' × List Value × St) := alts ([((Nat.beq (p.1) 0), .exit 0, [.string x0, vp 0, rsl ⟨1, x1, some 0⟩ x2, vp 2, vp 3], ⟨[⟨true, (some (.cells [.slice none 0 0, vf x5, vf x6, .int .i8 0, vi 0, vf x7]))⟩, ⟨true, (some (.strs x8))⟩, ⟨true, (some (.cells [rsl ⟨5, x9, some 0⟩ x10, .bool x11]))⟩, ⟨true, (some (.cells [.slice none 0 0, vf x12, vf x13, .int .i8 (p.2), vi 0, vf x15]))⟩, ⟨true, (some (.strs ([x16, x17, x18, x19] : List ByteArray)))⟩, ⟨true, (some (.strs x20))⟩], 6, [3]⟩)].map fun (b, x) => (b, (x.1, frameOf 105 [0, 2, 4, 6, 7] x.2.1, x.2.2))) some
theorem v34l0 (x0 : ByteArray) (x1 x2 : Nat) (x3 : ByteArray) (x4 : Int) (x5 x6 x7 : Nat) (x8 : List ByteArray) (x9 x10 : Nat) (x11 : Bool) (x12 x13 : Nat) (x14 : Int) (x15 : Nat) (x16 x17 x18 x19 : ByteArray) (x20 : List ByteArray) (p : Nat × Int) : u34l0 x0 x1 x2 x3 x4 x5 x6 x7 x8 x9 x10 x11 x12 x13 x14 x15 x16 x17 x18 x19 x20 p = a34l0 x0 x1 x2 x3 x4 x5 x6 x7 x8 x9 x10 x11 x12 x13 x14 x15 x16 x17 x18 x19 x20 p := alts_first _
noncomputable def q34l0 (m : Nat) : SumK := fun vals s =>
 match vals, s.h with
 | [.string x0, .pointer (some ⟨f0, f1, some f2⟩), .iface x2 (.pointer (some ⟨f3, x1, some f4⟩)), .pointer (some ⟨f5, f6, some f7⟩), .pointer (some ⟨f8, f9, some f10⟩), .string x3, .iface f11 .nilIface, .int .i64 f12, .int .i64 x4], [⟨true, some (.cells [.slice none f13 f14, .float .f32 x5, .float .f32 x6, .int .i8 f15, .int .i64 f16, .float .f32 x7])⟩, ⟨true, some (.strs x8)⟩, ⟨true, some (.cells [.iface x10 (.pointer (some ⟨f17, x9, some f18⟩)), .bool x11])⟩, ⟨true, some (.cells [.slice none f19 f20, .float .f32 x12, .float .f32 x13, .int .i8 x14, .int .i64 f21, .float .f32 x15])⟩, ⟨true, some (.strs ([x16, x17, x18, x19] : List ByteArray))⟩, ⟨true, some (.strs x20)⟩] => if f0 = 0 ∧ f1 = 0 ∧ f2 = 0 ∧ f3 = 1 ∧ f4 = 0 ∧ f5 = 2 ∧ f6 = 0 ∧ f7 = 0 ∧ f8 = 3 ∧ f9 = 0 ∧ f10 = 0 ∧ f11 = 4 ∧ f12 = 4 ∧ f13 = 0 ∧ f14 = 0 ∧ f15 = 0 ∧ f16 = 0 ∧ f17 = 5 ∧ f18 = 0 ∧ f19 = 0 ∧ f20 = 0 ∧ f21 = 0 then [((Nat.beq ((r34l0 m x0 x1 x2 x3 x4 x5 x6 x7 x8 x9 x10 x11 x12 x13 x14 x15 x16 x17 x18 x19 x20).1) 0), .exit 0, [.string x0, vp 0, rsl ⟨1, x1, some 0⟩ x2, vp 2, vp 3], ⟨[⟨true, (some (.cells [.slice none 0 0, vf x5, vf x6, .int .i8 0, vi 0, vf x7]))⟩, ⟨true, (some (.strs x8))⟩, ⟨true, (some (.cells [rsl ⟨5, x9, some 0⟩ x10, .bool x11]))⟩, ⟨true, (some (.cells [.slice none 0 0, vf x12, vf x13, .int .i8 ((r34l0 m x0 x1 x2 x3 x4 x5 x6 x7 x8 x9 x10 x11 x12 x13 x14 x15 x16 x17 x18 x19 x20).2), vi 0, vf x15]))⟩, ⟨true, (some (.strs ([x16, x17, x18, x19] : List ByteArray)))⟩, ⟨true, (some (.strs x20))⟩], 6, [3]⟩)] else noQ vals s
 | _, _ => noQ vals s
noncomputable def w34l0 (ih : ByteArray → Nat → Nat → ByteArray → Int → Nat → Nat → Nat → List ByteArray → Nat → Nat → Bool → Nat → Nat → Int → Nat → ByteArray → ByteArray → ByteArray → ByteArray → List ByteArray → (Nat × Int)) (x0 : ByteArray) (x1 x2 : Nat) (x3 : ByteArray) (x4 : Int) (x5 x6 x7 : Nat) (x8 : List ByteArray) (x9 x10 : Nat) (x11 : Bool) (x12 x13 : Nat) (x14 : Int) (x15 : Nat) (x16 x17 x18 x19 : ByteArray) (x20 : List ByteArray) : Option (Fin' × List Value × St) :=
 (cond (decide ((x4 : Int) < 4))
 (cond ((decide ((0 : Int) ≤ x4)) && (Nat.blt (Int.toNat x4) 4)) (cond (Nat.blt (Int.toNat x4) 4) (cond ((([x16, x17, x18, x19] : List ByteArray).getD (Int.toNat x4) .empty).toList == x3.toList) (u34l0 x0 x1 x2 x3 x4 x5 x6 x7 x8 x9 x10 x11 x12 x13 x14 x15 x16 x17 x18 x19 x20 (ih x0 x1 x2 x3 (IntKind.i64.wrap (x4 + 1)) x5 x6 x7 x8 x9 x10 x11 x12 x13 (IntKind.i8.wrap x4) x15 x16 x17 x18 x19 x20)) (u34l0 x0 x1 x2 x3 x4 x5 x6 x7 x8 x9 x10 x11 x12 x13 x14 x15 x16 x17 x18 x19 x20 (ih x0 x1 x2 x3 (IntKind.i64.wrap (x4 + 1)) x5 x6 x7 x8 x9 x10 x11 x12 x13 x14 x15 x16 x17 x18 x19 x20))) none) none)
 (a34l0 x0 x1 x2 x3 x4 x5 x6 x7 x8 x9 x10 x11 x12 x13 x14 x15 x16 x17 x18 x19 x20 (0, x14)))
set_option maxRecDepth 100000 in
set_option maxHeartbeats 4000000 in
theorem e34l0 (m : Nat) (x0 : ByteArray) (x1 x2 : Nat) (x3 : ByteArray) (x4 : Int) (x5 x6 x7 : Nat) (x8 : List ByteArray) (x9 x10 : Nat) (x11 : Bool) (x12 x13 : Nat) (x14 : Int) (x15 : Nat) (x16 x17 x18 x19 : ByteArray) (x20 : List ByteArray) : evC Tryz.prog ext T27 noL 200 (loopN Tryz.f34 0) (loopTail ([0, 2, 4, 6, 7, 8, 51, 52, 53], [51]) [0, 2, 4, 6, 7] [3] (sumK 105 [0, 2, 4, 6, 7, 8, 51, 52, 53] [0, 2, 4, 6, 7] (q34l0 m))) (frameOf 105 [0, 2, 4, 6, 7, 8, 51, 52, 53] [.string x0, vp 0, rsl ⟨1, x1, some 0⟩ x2, vp 2, vp 3, .string x3, wsl 4, vi 4, vi x4]) ⟨[⟨true, (some (.cells [.slice none 0 0, vf x5, vf x6, .int .i8 0, vi 0, vf x7]))⟩, ⟨true, (some (.strs x8))⟩, ⟨true, (some (.cells [rsl ⟨5, x9, some 0⟩ x10, .bool x11]))⟩, ⟨true, (some (.cells [.slice none 0 0, vf x12, vf x13, .int .i8 x14, vi 0, vf x15]))⟩, ⟨true, (some (.strs ([x16, x17, x18, x19] : List ByteArray)))⟩, ⟨true, (some (.strs x20))⟩], 6, []⟩ = firstT ([((Nat.beq ((r34l0 (m + 1) x0 x1 x2 x3 x4 x5 x6 x7 x8 x9 x10 x11 x12 x13 x14 x15 x16 x17 x18 x19 x20).1) 0), .exit 0, [.string x0, vp 0, rsl ⟨1, x1, some 0⟩ x2, vp 2, vp 3], ⟨[⟨true, (some (.cells [.slice none 0 0, vf x5, vf x6, .int .i8 0, vi 0, vf x7]))⟩, ⟨true, (some (.strs x8))⟩, ⟨true, (some (.cells [rsl ⟨5, x9, some 0⟩ x10, .bool x11]))⟩, ⟨true, (some (.cells [.slice none 0 0, vf x12, vf x13, .int .i8 ((r34l0 (m + 1) x0 x1 x2 x3 x4 x5 x6 x7 x8 x9 x10 x11 x12 x13 x14 x15 x16 x17 x18 x19 x20).2), vi 0, vf x15]))⟩, ⟨true, (some (.strs ([x16, x17, x18, x19] : List ByteArray)))⟩, ⟨true, (some (.strs x20))⟩], 6, [3]⟩)].map fun (b, x) => (b, (x.1, frameOf 105 [0, 2, 4, 6, 7] x.2.1, x.2.2))) :=
 (show _ = w34l0 (r34l0 m) x0 x1 x2 x3 x4 x5 x6 x7 x8 x9 x10 x11 x12 x13 x14 x15 x16 x17 x18 x19 x20 from by kernel_rfl).trans
 (show w34l0 (r34l0 m) x0 x1 x2 x3 x4 x5 x6 x7 x8 x9 x10 x11 x12 x13 x14 x15 x16 x17 x18 x19 x20 = a34l0 x0 x1 x2 x3 x4 x5 x6 x7 x8 x9 x10 x11 x12 x13 x14 x15 x16 x17 x18 x19 x20 (r34l0 (m + 1) x0 x1 x2 x3 x4 x5 x6 x7 x8 x9 x10 x11 x12 x13 x14 x15 x16 x17 x18 x19 x20) from by unfold w34l0; show _ = a34l0 x0 x1 x2 x3 x4 x5 x6 x7 x8 x9 x10 x11 x12 x13 x14 x15 x16 x17 x18 x19 x20 (b34l0 (r34l0 m) x0 x1 x2 x3 x4 x5 x6 x7 x8 x9 x10 x11 x12 x13 x14 x15 x16 x17 x18 x19 x20); unfold b34l0; exact (cond_both (a34l0 x0 x1 x2 x3 x4 x5 x6 x7 x8 x9 x10 x11 x12 x13 x14 x15 x16 x17 x18 x19 x20) _ (fun h0 => (cond_both (a34l0 x0 x1 x2 x3 x4 x5 x6 x7 x8 x9 x10 x11 x12 x13 x14 x15 x16 x17 x18 x19 x20) _ (fun h1 => (cond_t (ev_and2 h1) (cond_app (a34l0 x0 x1 x2 x3 x4 x5 x6 x7 x8 x9 x10 x11 x12 x13 x14 x15 x16 x17 x18 x19 x20) _ (v34l0 x0 x1 x2 x3 x4 x5 x6 x7 x8 x9 x10 x11 x12 x13 x14 x15 x16 x17 x18 x19 x20 ((r34l0 m) x0 x1 x2 x3 (IntKind.i64.wrap (x4 + 1)) x5 x6 x7 x8 x9 x10 x11 x12 x13 (IntKind.i8.wrap x4) x15 x16 x17 x18 x19 x20)) (v34l0 x0 x1 x2 x3 x4 x5 x6 x7 x8 x9 x10 x11 x12 x13 x14 x15 x16 x17 x18 x19 x20 ((r34l0 m) x0 x1 x2 x3 (IntKind.i64.wrap (x4 + 1)) x5 x6 x7 x8 x9 x10 x11 x12 x13 x14 x15 x16 x17 x18 x19 x20))))) (fun h1 => rfl))) (fun h0 => rfl)))
set_option maxRecDepth 100000 in
set_option maxHeartbeats 4000000 in
theorem qm34l0 : ∀ m, SumKOk Tryz.prog (loopN Tryz.f34 0) 105 [0, 2, 4, 6, 7, 8, 51, 52, 53] [0, 2, 4, 6, 7] (q34l0 m) := by
  intro m
  induction m with
  | zero =>
    intro vals s x h1 h2 h3
    unfold q34l0 at h3; split at h3
    · rename_i h; split at h3
      · rename_i hc; obtain ⟨rfl, rfl, rfl, rfl, rfl, rfl, rfl, rfl, rfl, rfl, rfl, rfl, rfl, rfl, rfl, rfl, rfl, rfl, rfl, rfl, rfl, rfl⟩ := hc; exact absurd h3 (by simp [r34l0, firstT, Nat.beq])
      · exact noQ_ok _ _ _ h1 h2 h3
    · exact noQ_ok _ _ _ h1 h2 h3
  | succ m ih =>
    intro vals s x h1 h2 h3
    unfold q34l0 at h3; split at h3
    · rename_i h; split at h3
      · rename_i hc; obtain ⟨rfl, rfl, rfl, rfl, rfl, rfl, rfl, rfl, rfl, rfl, rfl, rfl, rfl, rfl, rfl, rfl, rfl, rfl, rfl, rfl, rfl, rfl⟩ := hc; exact sum_step ok27 extOk mixed ((lfOkF_no _ _).inner (by kernel_rfl)) ih h1 h2 h (e34l0 m _ _ _ _ _ _ _ _ _ _ _ _ _ _ _ _ _ _ _ _ _) rfl h3
      · exact noQ_ok _ _ _ h1 h2 h3
    · exact noQ_ok _ _ _ h1 h2 h3
noncomputable def Q34l0 : SumK := fun vals s => q34l0 (fuelOf vals s.h) vals s
theorem qok34l0 : SumKOk Tryz.prog (loopN Tryz.f34 0) 105 [0, 2, 4, 6, 7, 8, 51, 52, 53] [0, 2, 4, 6, 7] Q34l0 := fuel_ok qm34l0 fuelOf
noncomputable def L34_1 : LoopT := addL noL 12 ([0, 2, 4, 6, 7, 8, 51, 52, 53], [51]) (sumK 105 [0, 2, 4, 6, 7, 8, 51, 52, 53] [0, 2, 4, 6, 7] Q34l0)
theorem lok34_1 : LfOkF Tryz.prog L34_1 Tryz.f34 := lfOkF_add (lfOkF_no _ _) qok34l0 (by kernel_rfl) (by kernel_rfl) (by kernel_rfl)

/-- (*impl.words).integer -/
noncomputable def w71 {α : Type} (x0 x1 : Nat) (x2 : Bool) (x3 : List ByteArray) (k : (Nat × Int × Nat × Nat × Bool) → α) : α :=
 cond (Nat.beq ((r69 x0 x1 x2 x3).1) 0) (cond (Nat.ble (((r69 x0 x1 x2 x3).2.1).size) 281474976710656) (cond ((r69 x0 x1 x2 x3).2.2.2.2) (k (0, (pInt ((r69 x0 x1 x2 x3).2.1)), ((r69 x0 x1 x2 x3).2.2.1), ((r69 x0 x1 x2 x3).2.2.2.1), true)) (k (0, (pInt ((r69 x0 x1 x2 x3).2.1)), ((r69 x0 x1 x2 x3).2.2.1), ((r69 x0 x1 x2 x3).2.2.2.1), (!(pOk ((r69 x0 x1 x2 x3).2.1)))))) (k (1, 0, 0, 0, false))) (k (1, 0, 0, 0, false))
noncomputable def r71 (x0 x1 : Nat) (x2 : Bool) (x3 : List ByteArray) : Nat × Int × Nat × Nat × Bool := w71 x0 x1 x2 x3 (fun p => p)
noncomputable def g71 (x0 x1 : Nat) (x2 : Bool) (x3 : List ByteArray) (p : Nat × Int × Nat × Nat × Bool) : List (Bool × Value × St) := [((Nat.beq (p.1) 0), vi (p.2.1), ⟨[⟨true, (some (.cells [rsl ⟨1, (p.2.2.1), some 0⟩ (p.2.2.2.1), .bool (p.2.2.2.2)]))⟩, ⟨true, (some (.strs x3))⟩], 2, [0]⟩)]
theorem p71 {α : Type} (x0 x1 : Nat) (x2 : Bool) (x3 : List ByteArray) (f : (Nat × Int × Nat × Nat × Bool) → α) : w71 x0 x1 x2 x3 f = f (w71 x0 x1 x2 x3 (fun p => p)) := by unfold w71; exact (cond_app f _ (cond_app f _ (cond_app f _ rfl rfl) rfl) rfl)
set_option maxRecDepth 100000 in
set_option maxHeartbeats 4000000 in
theorem e71 (x0 x1 : Nat) (x2 : Bool) (x3 : List ByteArray) : evFn Tryz.prog ext T27 noL 200 Tryz.f71 [vp 0] ⟨[⟨true, (some (.cells [rsl ⟨1, x0, some 0⟩ x1, .bool x2]))⟩, ⟨true, (some (.strs x3))⟩], 2, []⟩ = firstT (g71 x0 x1 x2 x3 (r71 x0 x1 x2 x3)) :=
 Eq.trans (by kernel_rfl) (p71 x0 x1 x2 x3 (fun p => firstT (g71 x0 x1 x2 x3 p)))
noncomputable def s71 (args : List Value) (s : St) : List (Bool × Value × St) :=
 match args, s.h with
 | [.pointer (some ⟨f0, f1, some f2⟩)], [⟨true, some (.cells [.iface x1 (.pointer (some ⟨f3, x0, some f4⟩)), .bool x2])⟩, ⟨true, some (.strs x3)⟩] => if f0 = 0 ∧ f1 = 0 ∧ f2 = 0 ∧ f3 = 1 ∧ f4 = 0 then (g71 x0 x1 x2 x3 (r71 x0 x1 x2 x3)) else T27 71 args s
 | _, _ => T27 71 args s
noncomputable def T28 : CallF := addF T27 71 s71
set_option maxRecDepth 100000 in
set_option maxHeartbeats 4000000 in
theorem ok28 : CfOk Tryz.prog T28 := by
  refine cfOk_add ok27 fun args s r s' h1 h2 h3 => ?_
  unfold s71 at h3; split at h3
  · rename_i h; split at h3
    · rename_i hc; obtain ⟨rfl, rfl, rfl, rfl, rfl⟩ := hc; exact callOk ok27 Tryz.func71 h1 h2 h (lfOkF_no _ _).body (e71 _ _ _ _) rfl h3
    · exact ok27 _ _ _ _ _ h1 h2 h3
  · exact ok27 _ _ _ _ _ h1 h2 h3

/-- (*impl.words).done -/
noncomputable def w43 {α : Type} (x0 x1 : Nat) (x2 : Bool) (x3 : List ByteArray) (k : Bool → α) : α :=
 cond (!x2) (k (((((x1 : Nat) : Int) : Int) == 0))) (k (false))
noncomputable def r43 (x0 x1 : Nat) (x2 : Bool) (x3 : List ByteArray) : Bool := w43 x0 x1 x2 x3 (fun p => p)
noncomputable def g43 (x0 x1 : Nat) (x2 : Bool) (x3 : List ByteArray) (p : Bool) : List (Bool × Value × St) := [(true, .bool p, ⟨[⟨true, (some (.cells [rsl ⟨1, x0, some 0⟩ x1, .bool x2]))⟩, ⟨true, (some (.strs x3))⟩], 2, []⟩)]
theorem p43 {α : Type} (x0 x1 : Nat) (x2 : Bool) (x3 : List ByteArray) (f : Bool → α) : w43 x0 x1 x2 x3 f = f (w43 x0 x1 x2 x3 (fun p => p)) := by unfold w43; exact (cond_app f _ rfl rfl)
set_option maxRecDepth 100000 in
set_option maxHeartbeats 4000000 in
theorem e43 (x0 x1 : Nat) (x2 : Bool) (x3 : List ByteArray) : evFn Tryz.prog ext T28 noL 200 Tryz.f43 [vp 0] ⟨[⟨true, (some (.cells [rsl ⟨1, x0, some 0⟩ x1, .bool x2]))⟩, ⟨true, (some (.strs x3))⟩], 2, []⟩ = firstT (g43 x0 x1 x2 x3 (r43 x0 x1 x2 x3)) :=
 Eq.trans (by kernel_rfl) (p43 x0 x1 x2 x3 (fun p => firstT (g43 x0 x1 x2 x3 p)))
noncomputable def s43 (args : List Value) (s : St) : List (Bool × Value × St) :=
 match args, s.h with
 | [.pointer (some ⟨f0, f1, some f2⟩)], [⟨true, some (.cells [.iface x1 (.pointer (some ⟨f3, x0, some f4⟩)), .bool x2])⟩, ⟨true, some (.strs x3)⟩] => if f0 = 0 ∧ f1 = 0 ∧ f2 = 0 ∧ f3 = 1 ∧ f4 = 0 then (g43 x0 x1 x2 x3 (r43 x0 x1 x2 x3)) else T28 43 args s
 | _, _ => T28 43 args s
noncomputable def T29 : CallF := addF T28 43 s43
set_option maxRecDepth 100000 in
set_option maxHeartbeats 4000000 in
theorem ok29 : CfOk Tryz.prog T29 := by
  refine cfOk_add ok28 fun args s r s' h1 h2 h3 => ?_
  unfold s43 at h3; split at h3
  · rename_i h; split at h3
    · rename_i hc; obtain ⟨rfl, rfl, rfl, rfl, rfl⟩ := hc; exact callOk ok28 Tryz.func43 h1 h2 h (lfOkF_no _ _).body (e43 _ _ _ _) rfl h3
    · exact ok28 _ _ _ _ _ h1 h2 h3
  · exact ok28 _ _ _ _ _ h1 h2 h3

/-- math.IsNaN -/
noncomputable def w87 {α : Type} (x0 : Nat) (k : Bool → α) : α :=
 k ((!feq .f64 x0 x0))
noncomputable def r87 (x0 : Nat) : Bool := w87 x0 (fun p => p)
noncomputable def g87 (x0 : Nat) (p : Bool) : List (Bool × Value × St) := [(true, .bool p, st0)]
theorem p87 {α : Type} (x0 : Nat) (f : Bool → α) : w87 x0 f = f (w87 x0 (fun p => p)) := by unfold w87; exact rfl
set_option maxRecDepth 100000 in
set_option maxHeartbeats 4000000 in
theorem e87 (x0 : Nat) : evFn Tryz.prog ext T29 noL 200 Tryz.f87 [.float .f64 x0] st0 = firstT (g87 x0 (r87 x0)) :=
 Eq.trans (by kernel_rfl) (p87 x0 (fun p => firstT (g87 x0 p)))
noncomputable def s87 (args : List Value) (s : St) : List (Bool × Value × St) :=
 match args, s.h with
 | [.float .f64 x0], [] => (g87 x0 (r87 x0))
 | _, _ => T29 87 args s
noncomputable def T30 : CallF := addF T29 87 s87
set_option maxRecDepth 100000 in
set_option maxHeartbeats 4000000 in
theorem ok30 : CfOk Tryz.prog T30 := by
  refine cfOk_add ok29 fun args s r s' h1 h2 h3 => ?_
  unfold s87 at h3; split at h3
  · rename_i h; exact callOk ok29 Tryz.func87 h1 h2 h (lfOkF_no _ _).body (e87 _) rfl h3
  · exact ok29 _ _ _ _ _ h1 h2 h3

/-- math.Abs -/
noncomputable def w112 {α : Type} (x0 : Nat) (k : Nat → α) : α :=
 cond (!isN .f64 x0) (k ((Int.toNat (bits .andNot .u64 ((x0 : Nat) : Int) 9223372036854775808)))) (k (9221120237041090560))
noncomputable def r112 (x0 : Nat) : Nat := w112 x0 (fun p => p)
noncomputable def g112 (x0 : Nat) (p : Nat) : List (Bool × Value × St) := [(true, .float .f64 p, st0)]
theorem p112 {α : Type} (x0 : Nat) (f : Nat → α) : w112 x0 f = f (w112 x0 (fun p => p)) := by unfold w112; exact (cond_app f _ rfl rfl)
set_option maxRecDepth 100000 in
set_option maxHeartbeats 4000000 in
theorem e112 (x0 : Nat) : evFn Tryz.prog ext T30 noL 200 Tryz.f112 [.float .f64 x0] st0 = firstT (g112 x0 (r112 x0)) :=
 Eq.trans (by kernel_rfl) (p112 x0 (fun p => firstT (g112 x0 p)))
noncomputable def s112 (args : List Value) (s : St) : List (Bool × Value × St) :=
 match args, s.h with
 | [.float .f64 x0], [] => (g112 x0 (r112 x0))
 | _, _ => T30 112 args s
noncomputable def T31 : CallF := addF T30 112 s112
set_option maxRecDepth 100000 in
set_option maxHeartbeats 4000000 in
theorem ok31 : CfOk Tryz.prog T31 := by
  refine cfOk_add ok30 fun args s r s' h1 h2 h3 => ?_
  unfold s112 at h3; split at h3
  · rename_i h; exact callOk ok30 Tryz.func112 h1 h2 h (lfOkF_no _ _).body (e112 _) rfl h3
  · exact ok30 _ _ _ _ _ h1 h2 h3

/-- math.IsInf -/
noncomputable def w88 {α : Type} (x0 : Nat) (x1 : Int) (k : Bool → α) : α :=
 cond ((x1 : Int) == 0) (k ((fgt .f64 (r112 x0) 9218868437227405311))) (cond (decide ((x1 : Int) < 0)) (k ((fgt .f64 (fneg .f64 x0) 9218868437227405311))) (k ((fgt .f64 x0 9218868437227405311))))
noncomputable def r88 (x0 : Nat) (x1 : Int) : Bool := w88 x0 x1 (fun p => p)
noncomputable def g88 (x0 : Nat) (x1 : Int) (p : Bool) : List (Bool × Value × St) := [(true, .bool p, st0)]
theorem p88 {α : Type} (x0 : Nat) (x1 : Int) (f : Bool → α) : w88 x0 x1 f = f (w88 x0 x1 (fun p => p)) := by unfold w88; exact (cond_app f _ rfl (cond_app f _ rfl rfl))
set_option maxRecDepth 100000 in
set_option maxHeartbeats 4000000 in
theorem e88 (x0 : Nat) (x1 : Int) : evFn Tryz.prog ext T31 noL 200 Tryz.f88 [.float .f64 x0, vi x1] st0 = firstT (g88 x0 x1 (r88 x0 x1)) :=
 Eq.trans (by kernel_rfl) (p88 x0 x1 (fun p => firstT (g88 x0 x1 p)))
noncomputable def s88 (args : List Value) (s : St) : List (Bool × Value × St) :=
 match args, s.h with
 | [.float .f64 x0, .int .i64 x1], [] => (g88 x0 x1 (r88 x0 x1))
 | _, _ => T31 88 args s
noncomputable def T32 : CallF := addF T31 88 s88
set_option maxRecDepth 100000 in
set_option maxHeartbeats 4000000 in
theorem ok32 : CfOk Tryz.prog T32 := by
  refine cfOk_add ok31 fun args s r s' h1 h2 h3 => ?_
  unfold s88 at h3; split at h3
  · rename_i h; exact callOk ok31 Tryz.func88 h1 h2 h (lfOkF_no _ _).body (e88 _ _) rfl h3
  · exact ok31 _ _ _ _ _ h1 h2 h3

/-- impl.isFinite -/
noncomputable def w56 {α : Type} (x0 : Nat) (k : Bool → α) : α :=
 cond (r87 (widen x0)) (k (false)) (cond (r88 (widen x0) 0) (k (false)) (k (true)))
noncomputable def r56 (x0 : Nat) : Bool := w56 x0 (fun p => p)
noncomputable def g56 (x0 : Nat) (p : Bool) : List (Bool × Value × St) := [(true, .bool p, ⟨[⟨true, (some (.tab [.fl .f32] ([[((x0 : Nat) : Int)]] : List (List Int))))⟩], 1, []⟩)]
theorem p56 {α : Type} (x0 : Nat) (f : Bool → α) : w56 x0 f = f (w56 x0 (fun p => p)) := by unfold w56; exact (cond_app f _ rfl (cond_app f _ rfl rfl))
set_option maxRecDepth 100000 in
set_option maxHeartbeats 4000000 in
theorem e56 (x0 : Nat) : evFn Tryz.prog ext T32 noL 200 Tryz.f56 [.slice (some ⟨0, 0, some 0⟩) 1 1] ⟨[⟨true, (some (.tab [.fl .f32] ([[((x0 : Nat) : Int)]] : List (List Int))))⟩], 1, []⟩ = firstT (g56 x0 (r56 x0)) :=
 Eq.trans (by kernel_rfl) (p56 x0 (fun p => firstT (g56 x0 p)))
noncomputable def s56 (args : List Value) (s : St) : List (Bool × Value × St) :=
 match args, s.h with
 | [.slice (some ⟨f0, f1, some f2⟩) f3 f4], [⟨true, some (.tab [.fl .f32] [[.ofNat x0]])⟩] => if f0 = 0 ∧ f1 = 0 ∧ f2 = 0 ∧ f3 = 1 ∧ f4 = 1 then (g56 x0 (r56 x0)) else T32 56 args s
 | _, _ => T32 56 args s
noncomputable def T33 : CallF := addF T32 56 s56
set_option maxRecDepth 100000 in
set_option maxHeartbeats 4000000 in
theorem ok33 : CfOk Tryz.prog T33 := by
  refine cfOk_add ok32 fun args s r s' h1 h2 h3 => ?_
  unfold s56 at h3; split at h3
  · rename_i h; split at h3
    · rename_i hc; obtain ⟨rfl, rfl, rfl, rfl, rfl⟩ := hc; exact callOk ok32 Tryz.func56 h1 h2 h (lfOkF_no _ _).body (e56 _) rfl h3
    · exact ok32 _ _ _ _ _ h1 h2 h3
  · exact ok32 _ _ _ _ _ h1 h2 h3

/-- impl.IsAmount -/
noncomputable def r19 (x0 : Nat) : Bool :=
 cond (r56 x0) (cond (fgt .f32 x0 0 || feq .f32 x0 0) ((((Int.fdiv ((x0 : Nat) : Int) (2 ^ (min (31 : Int).toNat (IntKind.bits .u32)))) : Int) == 0)) (false)) (false)
noncomputable def a19 (x0 : Nat) (p : Bool) : Res := firstT [(true, .bool p, st0)]
noncomputable def w19 (x0 : Nat) : Res :=
 (cond (r56 x0)
 (cond (fgt .f32 x0 0 || feq .f32 x0 0) (cond (!isN .f32 x0) (a19 x0 ((((Int.fdiv ((x0 : Nat) : Int) (2 ^ (min (31 : Int).toNat (IntKind.bits .u32)))) : Int) == 0))) none) (a19 x0 (false)))
 (a19 x0 (false)))
set_option maxRecDepth 100000 in
set_option maxHeartbeats 4000000 in
theorem e19 (x0 : Nat) : evFn Tryz.prog ext T33 noL 200 Tryz.f19 [vf x0] st0 = firstT [(true, .bool (r19 x0), st0)] :=
 (show _ = w19 x0 from by kernel_rfl).trans
 (show w19 x0 = a19 x0 (r19 x0) from by unfold w19 r19; exact (cond_both (a19 x0) _ (fun h0 => (cond_both (a19 x0) _ (fun h1 => (cond_t (ev_not1 (ev_or h1 (fun hq0 => (ev_gt1 hq0)) (fun hq0 => (ev_eq1 hq0)))) rfl)) (fun h1 => rfl))) (fun h0 => rfl)))
noncomputable def s19 (args : List Value) (s : St) : List (Bool × Value × St) :=
 match args, s.h with
 | [.float .f32 x0], [] => [(true, .bool (r19 x0), st0)]
 | _, _ => T33 19 args s
noncomputable def T34 : CallF := addF T33 19 s19
set_option maxRecDepth 100000 in
set_option maxHeartbeats 4000000 in
theorem ok34 : CfOk Tryz.prog T34 := by
  refine cfOk_add ok33 fun args s r s' h1 h2 h3 => ?_
  unfold s19 at h3; split at h3
  · rename_i h; exact callOk ok33 Tryz.func19 h1 h2 h (lfOkF_no _ _).body (e19 _) rfl h3
  · exact ok33 _ _ _ _ _ h1 h2 h3

/-- impl.isUpTo -/
noncomputable def w52 {α : Type} (x0 x1 : Nat) (k : Bool → α) : α :=
 cond (r19 x0) (k ((flt .f32 x0 x1 || feq .f32 x0 x1))) (k (false))
noncomputable def r52 (x0 x1 : Nat) : Bool := w52 x0 x1 (fun p => p)
noncomputable def g52 (x0 x1 : Nat) (p : Bool) : List (Bool × Value × St) := [(true, .bool p, st0)]
theorem p52 {α : Type} (x0 x1 : Nat) (f : Bool → α) : w52 x0 x1 f = f (w52 x0 x1 (fun p => p)) := by unfold w52; exact (cond_app f _ rfl rfl)
set_option maxRecDepth 100000 in
set_option maxHeartbeats 4000000 in
theorem e52 (x0 x1 : Nat) : evFn Tryz.prog ext T34 noL 200 Tryz.f52 [vf x0, vf x1] st0 = firstT (g52 x0 x1 (r52 x0 x1)) :=
 Eq.trans (by kernel_rfl) (p52 x0 x1 (fun p => firstT (g52 x0 x1 p)))
noncomputable def s52 (args : List Value) (s : St) : List (Bool × Value × St) :=
 match args, s.h with
 | [.float .f32 x0, .float .f32 x1], [] => (g52 x0 x1 (r52 x0 x1))
 | _, _ => T34 52 args s
noncomputable def T35 : CallF := addF T34 52 s52
set_option maxRecDepth 100000 in
set_option maxHeartbeats 4000000 in
theorem ok35 : CfOk Tryz.prog T35 := by
  refine cfOk_add ok34 fun args s r s' h1 h2 h3 => ?_
  unfold s52 at h3; split at h3
  · rename_i h; exact callOk ok34 Tryz.func52 h1 h2 h (lfOkF_no _ _).body (e52 _ _) rfl h3
  · exact ok34 _ _ _ _ _ h1 h2 h3

/-- impl.between -/
noncomputable def w53 {α : Type} (x0 x1 x2 : Nat) (k : Bool → α) : α :=
 cond (fgt .f32 x0 x1 || feq .f32 x0 x1) (k ((flt .f32 x0 x2 || feq .f32 x0 x2))) (k (false))
noncomputable def r53 (x0 x1 x2 : Nat) : Bool := w53 x0 x1 x2 (fun p => p)
noncomputable def g53 (x0 x1 x2 : Nat) (p : Bool) : List (Bool × Value × St) := [(true, .bool p, st0)]
theorem p53 {α : Type} (x0 x1 x2 : Nat) (f : Bool → α) : w53 x0 x1 x2 f = f (w53 x0 x1 x2 (fun p => p)) := by unfold w53; exact (cond_app f _ rfl rfl)
set_option maxRecDepth 100000 in
set_option maxHeartbeats 4000000 in
theorem e53 (x0 x1 x2 : Nat) : evFn Tryz.prog ext T35 noL 200 Tryz.f53 [vf x0, vf x1, vf x2] st0 = firstT (g53 x0 x1 x2 (r53 x0 x1 x2)) :=
 Eq.trans (by kernel_rfl) (p53 x0 x1 x2 (fun p => firstT (g53 x0 x1 x2 p)))
noncomputable def s53 (args : List Value) (s : St) : List (Bool × Value × St) :=
 match args, s.h with
 | [.float .f32 x0, .float .f32 x1, .float .f32 x2], [] => (g53 x0 x1 x2 (r53 x0 x1 x2))
 | _, _ => T35 53 args s
noncomputable def T36 : CallF := addF T35 53 s53
set_option maxRecDepth 100000 in
set_option maxHeartbeats 4000000 in
theorem ok36 : CfOk Tryz.prog T36 := by
  refine cfOk_add ok35 fun args s r s' h1 h2 h3 => ?_
  unfold s53 at h3; split at h3
  · rename_i h; exact callOk ok35 Tryz.func53 h1 h2 h (lfOkF_no _ _).body (e53 _ _ _) rfl h3
  · exact ok35 _ _ _ _ _ h1 h2 h3

/-- impl.ValidWood -/
noncomputable def w14 {α : Type} (x0 x1 x2 x3 x4 x5 x6 x7 x8 x9 x10 x11 x12 x13 x14 x15 x16 x17 : Nat) (k : Bool → α) : α :=
 cond (!(r52 x0 1092616192)) (k (false)) (cond (!(r52 x12 1092616192)) (k (false)) (cond (!(r53 x6 3262119936 1153138688)) (k (false)) (cond (!(r52 x1 1092616192)) (k (false)) (cond (!(r52 x13 1092616192)) (k (false)) (cond (!(r53 x7 3262119936 1153138688)) (k (false)) (cond (!(r52 x2 1092616192)) (k (false)) (cond (!(r52 x14 1092616192)) (k (false)) (cond (!(r53 x8 3262119936 1153138688)) (k (false)) (cond (!(r52 x3 1092616192)) (k (false)) (cond (!(r52 x15 1092616192)) (k (false)) (cond (!(r53 x9 3262119936 1153138688)) (k (false)) (cond (!(r52 x4 1092616192)) (k (false)) (cond (!(r52 x16 1092616192)) (k (false)) (cond (!(r53 x10 3262119936 1153138688)) (k (false)) (cond (!(r52 x5 1092616192)) (k (false)) (cond (!(r52 x17 1092616192)) (k (false)) (cond (!(r53 x11 3262119936 1153138688)) (k (false)) (k (true)))))))))))))))))))
noncomputable def r14 (x0 x1 x2 x3 x4 x5 x6 x7 x8 x9 x10 x11 x12 x13 x14 x15 x16 x17 : Nat) : Bool := w14 x0 x1 x2 x3 x4 x5 x6 x7 x8 x9 x10 x11 x12 x13 x14 x15 x16 x17 (fun p => p)
noncomputable def g14 (x0 x1 x2 x3 x4 x5 x6 x7 x8 x9 x10 x11 x12 x13 x14 x15 x16 x17 : Nat) (p : Bool) : List (Bool × Value × St) := [(true, .bool p, st0)]
theorem p14 {α : Type} (x0 x1 x2 x3 x4 x5 x6 x7 x8 x9 x10 x11 x12 x13 x14 x15 x16 x17 : Nat) (f : Bool → α) : w14 x0 x1 x2 x3 x4 x5 x6 x7 x8 x9 x10 x11 x12 x13 x14 x15 x16 x17 f = f (w14 x0 x1 x2 x3 x4 x5 x6 x7 x8 x9 x10 x11 x12 x13 x14 x15 x16 x17 (fun p => p)) := by unfold w14; repeat' (first | refine cond_app f _ ?_ ?_ | rfl)
set_option maxRecDepth 100000 in
set_option maxHeartbeats 4000000 in
theorem e14 (x0 x1 x2 x3 x4 x5 x6 x7 x8 x9 x10 x11 x12 x13 x14 x15 x16 x17 : Nat) : evFn Tryz.prog ext T36 noL 200 Tryz.f14 [.agg #[vf x0, vf x1, vf x2, vf x3, vf x4, vf x5, vf x6, vf x7, vf x8, vf x9, vf x10, vf x11, vf x12, vf x13, vf x14, vf x15, vf x16, vf x17]] st0 = firstT (g14 x0 x1 x2 x3 x4 x5 x6 x7 x8 x9 x10 x11 x12 x13 x14 x15 x16 x17 (r14 x0 x1 x2 x3 x4 x5 x6 x7 x8 x9 x10 x11 x12 x13 x14 x15 x16 x17)) :=
 Eq.trans (by kernel_rfl) (p14 x0 x1 x2 x3 x4 x5 x6 x7 x8 x9 x10 x11 x12 x13 x14 x15 x16 x17 (fun p => firstT (g14 x0 x1 x2 x3 x4 x5 x6 x7 x8 x9 x10 x11 x12 x13 x14 x15 x16 x17 p)))
noncomputable def s14 (args : List Value) (s : St) : List (Bool × Value × St) :=
 match args, s.h with
 | [.agg ⟨[.float .f32 x0, .float .f32 x1, .float .f32 x2, .float .f32 x3, .float .f32 x4, .float .f32 x5, .float .f32 x6, .float .f32 x7, .float .f32 x8, .float .f32 x9, .float .f32 x10, .float .f32 x11, .float .f32 x12, .float .f32 x13, .float .f32 x14, .float .f32 x15, .float .f32 x16, .float .f32 x17]⟩], [] => (g14 x0 x1 x2 x3 x4 x5 x6 x7 x8 x9 x10 x11 x12 x13 x14 x15 x16 x17 (r14 x0 x1 x2 x3 x4 x5 x6 x7 x8 x9 x10 x11 x12 x13 x14 x15 x16 x17))
 | _, _ => T36 14 args s
noncomputable def T37 : CallF := addF T36 14 s14
set_option maxRecDepth 100000 in
set_option maxHeartbeats 4000000 in
theorem ok37 : CfOk Tryz.prog T37 := by
  refine cfOk_add ok36 fun args s r s' h1 h2 h3 => ?_
  unfold s14 at h3; split at h3
  · rename_i h; exact callOk ok36 Tryz.func14 h1 h2 h (lfOkF_no _ _).body (e14 _ _ _ _ _ _ _ _ _ _ _ _ _ _ _ _ _ _) rfl h3
  · exact ok36 _ _ _ _ _ h1 h2 h3

/-- impl.woodText -/
noncomputable def w44 {α : Type} (x0 x1 x2 x3 x4 x5 x6 x7 x8 x9 x10 x11 x12 x13 x14 x15 x16 x17 : Nat) (k : (Nat × ByteArray) → α) : α :=
 cond (Nat.beq ((r11 x0).1) 0) (cond (Nat.beq ((r11 x6).1) 0) (cond (Nat.beq ((r11 x12).1) 0) (cond (Nat.beq ((r11 x1).1) 0) (cond (Nat.beq ((r11 x7).1) 0) (cond (Nat.beq ((r11 x13).1) 0) (cond (Nat.beq ((r11 x2).1) 0) (cond (Nat.beq ((r11 x8).1) 0) (cond (Nat.beq ((r11 x14).1) 0) (cond (Nat.beq ((r11 x3).1) 0) (cond (Nat.beq ((r11 x9).1) 0) (cond (Nat.beq ((r11 x15).1) 0) (cond (Nat.beq ((r11 x4).1) 0) (cond (Nat.beq ((r11 x10).1) 0) (cond (Nat.beq ((r11 x16).1) 0) (cond (Nat.beq ((r11 x5).1) 0) (cond (Nat.beq ((r11 x11).1) 0) (cond (Nat.beq ((r11 x17).1) 0) (cond (joinOk ([(ByteArray.mk #[108, 111, 103]), ((r11 x0).2), ((r11 x6).2), ((r11 x12).2), ((r11 x1).2), ((r11 x7).2), ((r11 x13).2), ((r11 x2).2), ((r11 x8).2), ((r11 x14).2), ((r11 x3).2), ((r11 x9).2), ((r11 x15).2), ((r11 x4).2), ((r11 x10).2), ((r11 x16).2), ((r11 x5).2), ((r11 x11).2), ((r11 x17).2)] : List ByteArray) (ByteArray.mk #[32])) (k (0, (joinB ([(ByteArray.mk #[108, 111, 103]), ((r11 x0).2), ((r11 x6).2), ((r11 x12).2), ((r11 x1).2), ((r11 x7).2), ((r11 x13).2), ((r11 x2).2), ((r11 x8).2), ((r11 x14).2), ((r11 x3).2), ((r11 x9).2), ((r11 x15).2), ((r11 x4).2), ((r11 x10).2), ((r11 x16).2), ((r11 x5).2), ((r11 x11).2), ((r11 x17).2)] : List ByteArray) (ByteArray.mk #[32])))) (k (1, ByteArray.empty))) (k (1, ByteArray.empty))) (k (1, ByteArray.empty))) (k (1, ByteArray.empty))) (k (1, ByteArray.empty))) (k (1, ByteArray.empty))) (k (1, ByteArray.empty))) (k (1, ByteArray.empty))) (k (1, ByteArray.empty))) (k (1, ByteArray.empty))) (k (1, ByteArray.empty))) (k (1, ByteArray.empty))) (k (1, ByteArray.empty))) (k (1, ByteArray.empty))) (k (1, ByteArray.empty))) (k (1, ByteArray.empty))) (k (1, ByteArray.empty))) (k (1, ByteArray.empty))) (k (1, ByteArray.empty))
noncomputable def r44 (x0 x1 x2 x3 x4 x5 x6 x7 x8 x9 x10 x11 x12 x13 x14 x15 x16 x17 : Nat) : Nat × ByteArray := w44 x0 x1 x2 x3 x4 x5 x6 x7 x8 x9 x10 x11 x12 x13 x14 x15 x16 x17 (fun p => p)
noncomputable def g44 (x0 x1 x2 x3 x4 x5 x6 x7 x8 x9 x10 x11 x12 x13 x14 x15 x16 x17 : Nat) (p : Nat × ByteArray) : List (Bool × Value × St) := [((Nat.beq (p.1) 0), .string (p.2), st0)]
theorem p44 {α : Type} (x0 x1 x2 x3 x4 x5 x6 x7 x8 x9 x10 x11 x12 x13 x14 x15 x16 x17 : Nat) (f : (Nat × ByteArray) → α) : w44 x0 x1 x2 x3 x4 x5 x6 x7 x8 x9 x10 x11 x12 x13 x14 x15 x16 x17 f = f (w44 x0 x1 x2 x3 x4 x5 x6 x7 x8 x9 x10 x11 x12 x13 x14 x15 x16 x17 (fun p => p)) := by unfold w44; repeat' (first | refine cond_app f _ ?_ ?_ | rfl)
set_option maxRecDepth 100000 in
set_option maxHeartbeats 4000000 in
theorem e44 (x0 x1 x2 x3 x4 x5 x6 x7 x8 x9 x10 x11 x12 x13 x14 x15 x16 x17 : Nat) : evFn Tryz.prog ext T37 noL 200 Tryz.f44 [.agg #[vf x0, vf x1, vf x2, vf x3, vf x4, vf x5, vf x6, vf x7, vf x8, vf x9, vf x10, vf x11, vf x12, vf x13, vf x14, vf x15, vf x16, vf x17]] st0 = firstT (g44 x0 x1 x2 x3 x4 x5 x6 x7 x8 x9 x10 x11 x12 x13 x14 x15 x16 x17 (r44 x0 x1 x2 x3 x4 x5 x6 x7 x8 x9 x10 x11 x12 x13 x14 x15 x16 x17)) :=
 Eq.trans (by kernel_rfl) (p44 x0 x1 x2 x3 x4 x5 x6 x7 x8 x9 x10 x11 x12 x13 x14 x15 x16 x17 (fun p => firstT (g44 x0 x1 x2 x3 x4 x5 x6 x7 x8 x9 x10 x11 x12 x13 x14 x15 x16 x17 p)))
noncomputable def s44 (args : List Value) (s : St) : List (Bool × Value × St) :=
 match args, s.h with
 | [.agg ⟨[.float .f32 x0, .float .f32 x1, .float .f32 x2, .float .f32 x3, .float .f32 x4, .float .f32 x5, .float .f32 x6, .float .f32 x7, .float .f32 x8, .float .f32 x9, .float .f32 x10, .float .f32 x11, .float .f32 x12, .float .f32 x13, .float .f32 x14, .float .f32 x15, .float .f32 x16, .float .f32 x17]⟩], [] => (g44 x0 x1 x2 x3 x4 x5 x6 x7 x8 x9 x10 x11 x12 x13 x14 x15 x16 x17 (r44 x0 x1 x2 x3 x4 x5 x6 x7 x8 x9 x10 x11 x12 x13 x14 x15 x16 x17))
 | _, _ => T37 44 args s
noncomputable def T38 : CallF := addF T37 44 s44
set_option maxRecDepth 100000 in
set_option maxHeartbeats 4000000 in
theorem ok38 : CfOk Tryz.prog T38 := by
  refine cfOk_add ok37 fun args s r s' h1 h2 h3 => ?_
  unfold s44 at h3; split at h3
  · rename_i h; exact callOk ok37 Tryz.func44 h1 h2 h (lfOkF_no _ _).body (e44 _ _ _ _ _ _ _ _ _ _ _ _ _ _ _ _ _ _) rfl h3
  · exact ok37 _ _ _ _ _ h1 h2 h3

/-- impl.ReadWood -/
noncomputable def w7 {α : Type} (x0 : ByteArray) (k : (Nat × Nat × Nat × Nat × Nat × Nat × Nat × Nat × Nat × Nat × Nat × Nat × Nat × Nat × Nat × Nat × Nat × Nat × Nat × Int) → α) : α :=
 let c230 := (r41 (ByteArray.mk #[108, 111, 103]) 0 ((r40 x0).2.1) false ((r40 x0).2.2))
 let c231 := (r42 (c230.2.1) (c230.2.2.1) (c230.2.2.2) ((r40 x0).2.2))
 let c232 := (r42 (c231.2.2.1) (c231.2.2.2.1) (c231.2.2.2.2) ((r40 x0).2.2))
 let c233 := (r42 (c232.2.2.1) (c232.2.2.2.1) (c232.2.2.2.2) ((r40 x0).2.2))
 let c234 := (r42 (c233.2.2.1) (c233.2.2.2.1) (c233.2.2.2.2) ((r40 x0).2.2))
 let c235 := (r42 (c234.2.2.1) (c234.2.2.2.1) (c234.2.2.2.2) ((r40 x0).2.2))
 let c236 := (r42 (c235.2.2.1) (c235.2.2.2.1) (c235.2.2.2.2) ((r40 x0).2.2))
 let c237 := (r42 (c236.2.2.1) (c236.2.2.2.1) (c236.2.2.2.2) ((r40 x0).2.2))
 let c238 := (r42 (c237.2.2.1) (c237.2.2.2.1) (c237.2.2.2.2) ((r40 x0).2.2))
 let c239 := (r42 (c238.2.2.1) (c238.2.2.2.1) (c238.2.2.2.2) ((r40 x0).2.2))
 let c240 := (r42 (c239.2.2.1) (c239.2.2.2.1) (c239.2.2.2.2) ((r40 x0).2.2))
 let c241 := (r42 (c240.2.2.1) (c240.2.2.2.1) (c240.2.2.2.2) ((r40 x0).2.2))
 let c242 := (r42 (c241.2.2.1) (c241.2.2.2.1) (c241.2.2.2.2) ((r40 x0).2.2))
 let c243 := (r42 (c242.2.2.1) (c242.2.2.2.1) (c242.2.2.2.2) ((r40 x0).2.2))
 let c244 := (r42 (c243.2.2.1) (c243.2.2.2.1) (c243.2.2.2.2) ((r40 x0).2.2))
 let c245 := (r42 (c244.2.2.1) (c244.2.2.2.1) (c244.2.2.2.2) ((r40 x0).2.2))
 let c246 := (r42 (c245.2.2.1) (c245.2.2.2.1) (c245.2.2.2.2) ((r40 x0).2.2))
 let c247 := (r42 (c246.2.2.1) (c246.2.2.2.1) (c246.2.2.2.2) ((r40 x0).2.2))
 let c248 := (r42 (c247.2.2.1) (c247.2.2.2.1) (c247.2.2.2.2) ((r40 x0).2.2))
 let c249 := (r43 (c248.2.2.1) (c248.2.2.2.1) (c248.2.2.2.2) ((r40 x0).2.2))
 let c250 := (r14 (c231.2.1) (c234.2.1) (c237.2.1) (c240.2.1) (c243.2.1) (c246.2.1) (c232.2.1) (c235.2.1) (c238.2.1) (c241.2.1) (c244.2.1) (c247.2.1) (c233.2.1) (c236.2.1) (c239.2.1) (c242.2.1) (c245.2.1) (c248.2.1))
 let c251 := (r44 (c231.2.1) (c234.2.1) (c237.2.1) (c240.2.1) (c243.2.1) (c246.2.1) (c232.2.1) (c235.2.1) (c238.2.1) (c241.2.1) (c244.2.1) (c247.2.1) (c233.2.1) (c236.2.1) (c239.2.1) (c242.2.1) (c245.2.1) (c248.2.1))
 cond (Nat.beq ((r40 x0).1) 0) (cond (Nat.beq (c230.1) 0) (cond (Nat.beq (c231.1) 0) (cond (Nat.beq (c232.1) 0) (cond (Nat.beq (c233.1) 0) (cond (Nat.beq (c234.1) 0) (cond (Nat.beq (c235.1) 0) (cond (Nat.beq (c236.1) 0) (cond (Nat.beq (c237.1) 0) (cond (Nat.beq (c238.1) 0) (cond (Nat.beq (c239.1) 0) (cond (Nat.beq (c240.1) 0) (cond (Nat.beq (c241.1) 0) (cond (Nat.beq (c242.1) 0) (cond (Nat.beq (c243.1) 0) (cond (Nat.beq (c244.1) 0) (cond (Nat.beq (c245.1) 0) (cond (Nat.beq (c246.1) 0) (cond (Nat.beq (c247.1) 0) (cond (Nat.beq (c248.1) 0) (cond (!c249) (k (0, 0, 0, 0, 0, 0, 0, 0, 0, 0, 0, 0, 0, 0, 0, 0, 0, 0, 0, 5)) (cond (!c250) (k (0, 0, 0, 0, 0, 0, 0, 0, 0, 0, 0, 0, 0, 0, 0, 0, 0, 0, 0, 5)) (cond (Nat.beq (c251.1) 0) (cond (!((c251.2).toList == x0.toList)) (k (0, 0, 0, 0, 0, 0, 0, 0, 0, 0, 0, 0, 0, 0, 0, 0, 0, 0, 0, 5)) (k (0, (c231.2.1), (c234.2.1), (c237.2.1), (c240.2.1), (c243.2.1), (c246.2.1), (c232.2.1), (c235.2.1), (c238.2.1), (c241.2.1), (c244.2.1), (c247.2.1), (c233.2.1), (c236.2.1), (c239.2.1), (c242.2.1), (c245.2.1), (c248.2.1), 0))) (k (1, 0, 0, 0, 0, 0, 0, 0, 0, 0, 0, 0, 0, 0, 0, 0, 0, 0, 0, 0))))) (k (1, 0, 0, 0, 0, 0, 0, 0, 0, 0, 0, 0, 0, 0, 0, 0, 0, 0, 0, 0))) (k (1, 0, 0, 0, 0, 0, 0, 0, 0, 0, 0, 0, 0, 0, 0, 0, 0, 0, 0, 0))) (k (1, 0, 0, 0, 0, 0, 0, 0, 0, 0, 0, 0, 0, 0, 0, 0, 0, 0, 0, 0))) (k (1, 0, 0, 0, 0, 0, 0, 0, 0, 0, 0, 0, 0, 0, 0, 0, 0, 0, 0, 0))) (k (1, 0, 0, 0, 0, 0, 0, 0, 0, 0, 0, 0, 0, 0, 0, 0, 0, 0, 0, 0))) (k (1, 0, 0, 0, 0, 0, 0, 0, 0, 0, 0, 0, 0, 0, 0, 0, 0, 0, 0, 0))) (k (1, 0, 0, 0, 0, 0, 0, 0, 0, 0, 0, 0, 0, 0, 0, 0, 0, 0, 0, 0))) (k (1, 0, 0, 0, 0, 0, 0, 0, 0, 0, 0, 0, 0, 0, 0, 0, 0, 0, 0, 0))) (k (1, 0, 0, 0, 0, 0, 0, 0, 0, 0, 0, 0, 0, 0, 0, 0, 0, 0, 0, 0))) (k (1, 0, 0, 0, 0, 0, 0, 0, 0, 0, 0, 0, 0, 0, 0, 0, 0, 0, 0, 0))) (k (1, 0, 0, 0, 0, 0, 0, 0, 0, 0, 0, 0, 0, 0, 0, 0, 0, 0, 0, 0))) (k (1, 0, 0, 0, 0, 0, 0, 0, 0, 0, 0, 0, 0, 0, 0, 0, 0, 0, 0, 0))) (k (1, 0, 0, 0, 0, 0, 0, 0, 0, 0, 0, 0, 0, 0, 0, 0, 0, 0, 0, 0))) (k (1, 0, 0, 0, 0, 0, 0, 0, 0, 0, 0, 0, 0, 0, 0, 0, 0, 0, 0, 0))) (k (1, 0, 0, 0, 0, 0, 0, 0, 0, 0, 0, 0, 0, 0, 0, 0, 0, 0, 0, 0))) (k (1, 0, 0, 0, 0, 0, 0, 0, 0, 0, 0, 0, 0, 0, 0, 0, 0, 0, 0, 0))) (k (1, 0, 0, 0, 0, 0, 0, 0, 0, 0, 0, 0, 0, 0, 0, 0, 0, 0, 0, 0))) (k (1, 0, 0, 0, 0, 0, 0, 0, 0, 0, 0, 0, 0, 0, 0, 0, 0, 0, 0, 0))) (k (1, 0, 0, 0, 0, 0, 0, 0, 0, 0, 0, 0, 0, 0, 0, 0, 0, 0, 0, 0))) (k (1, 0, 0, 0, 0, 0, 0, 0, 0, 0, 0, 0, 0, 0, 0, 0, 0, 0, 0, 0))
noncomputable def r7 (x0 : ByteArray) : Nat × Nat × Nat × Nat × Nat × Nat × Nat × Nat × Nat × Nat × Nat × Nat × Nat × Nat × Nat × Nat × Nat × Nat × Nat × Int := w7 x0 (fun p => p)
noncomputable def g7 (x0 : ByteArray) (p : Nat × Nat × Nat × Nat × Nat × Nat × Nat × Nat × Nat × Nat × Nat × Nat × Nat × Nat × Nat × Nat × Nat × Nat × Nat × Int) : List (Bool × Value × St) := [((Nat.beq (p.1) 0), .tuple #[.agg #[vf (p.2.1), vf (p.2.2.1), vf (p.2.2.2.1), vf (p.2.2.2.2.1), vf (p.2.2.2.2.2.1), vf (p.2.2.2.2.2.2.1), vf (p.2.2.2.2.2.2.2.1), vf (p.2.2.2.2.2.2.2.2.1), vf (p.2.2.2.2.2.2.2.2.2.1), vf (p.2.2.2.2.2.2.2.2.2.2.1), vf (p.2.2.2.2.2.2.2.2.2.2.2.1), vf (p.2.2.2.2.2.2.2.2.2.2.2.2.1), vf (p.2.2.2.2.2.2.2.2.2.2.2.2.2.1), vf (p.2.2.2.2.2.2.2.2.2.2.2.2.2.2.1), vf (p.2.2.2.2.2.2.2.2.2.2.2.2.2.2.2.1), vf (p.2.2.2.2.2.2.2.2.2.2.2.2.2.2.2.2.1), vf (p.2.2.2.2.2.2.2.2.2.2.2.2.2.2.2.2.2.1), vf (p.2.2.2.2.2.2.2.2.2.2.2.2.2.2.2.2.2.2.1)], vi (p.2.2.2.2.2.2.2.2.2.2.2.2.2.2.2.2.2.2.2)], st0)]
theorem p7 {α : Type} (x0 : ByteArray) (f : (Nat × Nat × Nat × Nat × Nat × Nat × Nat × Nat × Nat × Nat × Nat × Nat × Nat × Nat × Nat × Nat × Nat × Nat × Nat × Int) → α) : w7 x0 f = f (w7 x0 (fun p => p)) := by unfold w7; repeat' (first | refine cond_app f _ ?_ ?_ | rfl)
set_option maxRecDepth 100000 in
set_option maxHeartbeats 4000000 in
theorem e7 (x0 : ByteArray) : evFn Tryz.prog ext T38 noL 200 Tryz.f7 [.string x0] st0 = firstT (g7 x0 (r7 x0)) :=
 Eq.trans (by kernel_rfl) (p7 x0 (fun p => firstT (g7 x0 p)))
noncomputable def s7 (args : List Value) (s : St) : List (Bool × Value × St) :=
 match args, s.h with
 | [.string x0], [] => (g7 x0 (r7 x0))
 | _, _ => T38 7 args s
noncomputable def T39 : CallF := addF T38 7 s7
set_option maxRecDepth 100000 in
set_option maxHeartbeats 4000000 in
theorem ok39 : CfOk Tryz.prog T39 := by
  refine cfOk_add ok38 fun args s r s' h1 h2 h3 => ?_
  unfold s7 at h3; split at h3
  · rename_i h; exact callOk ok38 Tryz.func7 h1 h2 h (lfOkF_no _ _).body (e7 _) rfl h3
  · exact ok38 _ _ _ _ _ h1 h2 h3

/-- impl.ReadStove, loop 1: one round -/
noncomputable def w34l1 {α : Type} (ih : ByteArray → Nat → Nat → Int → Int → Nat → Nat → Nat → Nat → Nat → Int → Int → Nat → List ByteArray → List (List Int) → (Nat × List (List Int) × List (List Int))) (x0 : ByteArray) (x1 x2 : Nat) (x3 x4 : Int) (x5 x6 x7 x8 x9 : Nat) (x10 x11 : Int) (x12 : Nat) (x13 : List ByteArray) (x14 : List (List Int)) (k : (Nat × List (List Int) × List (List Int)) → α) : α :=
 let c253 := (r7 (x13.getD (x1 + (Int.toNat x4)) .empty))
 cond (decide ((x4 : Int) < x3)) (cond ((decide ((0 : Int) ≤ x4)) && (Nat.blt (Int.toNat x4) x2)) (cond (Nat.blt (x1 + (Int.toNat x4)) x13.length) (cond (Nat.beq (c253.1) 0) (cond (((c253.2.2.2.2.2.2.2.2.2.2.2.2.2.2.2.2.2.2.2) : Int) != 0) (k (0, [], [])) (cond (Nat.ble ((x14.length + 1) * 73) 140737488355328) (cond (Nat.beq ((ih x0 x1 x2 x3 (IntKind.i64.wrap (x4 + 1)) x5 x6 x7 x8 x9 x10 x11 x12 x13 (((x14.drop 0).take x14.length) ++ ([[(((c253.2.1) : Nat) : Int), (((c253.2.2.1) : Nat) : Int), (((c253.2.2.2.1) : Nat) : Int), (((c253.2.2.2.2.1) : Nat) : Int), (((c253.2.2.2.2.2.1) : Nat) : Int), (((c253.2.2.2.2.2.2.1) : Nat) : Int), (((c253.2.2.2.2.2.2.2.1) : Nat) : Int), (((c253.2.2.2.2.2.2.2.2.1) : Nat) : Int), (((c253.2.2.2.2.2.2.2.2.2.1) : Nat) : Int), (((c253.2.2.2.2.2.2.2.2.2.2.1) : Nat) : Int), (((c253.2.2.2.2.2.2.2.2.2.2.2.1) : Nat) : Int), (((c253.2.2.2.2.2.2.2.2.2.2.2.2.1) : Nat) : Int), (((c253.2.2.2.2.2.2.2.2.2.2.2.2.2.1) : Nat) : Int), (((c253.2.2.2.2.2.2.2.2.2.2.2.2.2.2.1) : Nat) : Int), (((c253.2.2.2.2.2.2.2.2.2.2.2.2.2.2.2.1) : Nat) : Int), (((c253.2.2.2.2.2.2.2.2.2.2.2.2.2.2.2.2.1) : Nat) : Int), (((c253.2.2.2.2.2.2.2.2.2.2.2.2.2.2.2.2.2.1) : Nat) : Int), (((c253.2.2.2.2.2.2.2.2.2.2.2.2.2.2.2.2.2.2.1) : Nat) : Int)]] : List (List Int)))).1) 0) (k (1, (((x14.drop 0).take x14.length) ++ ([[(((c253.2.1) : Nat) : Int), (((c253.2.2.1) : Nat) : Int), (((c253.2.2.2.1) : Nat) : Int), (((c253.2.2.2.2.1) : Nat) : Int), (((c253.2.2.2.2.2.1) : Nat) : Int), (((c253.2.2.2.2.2.2.1) : Nat) : Int), (((c253.2.2.2.2.2.2.2.1) : Nat) : Int), (((c253.2.2.2.2.2.2.2.2.1) : Nat) : Int), (((c253.2.2.2.2.2.2.2.2.2.1) : Nat) : Int), (((c253.2.2.2.2.2.2.2.2.2.2.1) : Nat) : Int), (((c253.2.2.2.2.2.2.2.2.2.2.2.1) : Nat) : Int), (((c253.2.2.2.2.2.2.2.2.2.2.2.2.1) : Nat) : Int), (((c253.2.2.2.2.2.2.2.2.2.2.2.2.2.1) : Nat) : Int), (((c253.2.2.2.2.2.2.2.2.2.2.2.2.2.2.1) : Nat) : Int), (((c253.2.2.2.2.2.2.2.2.2.2.2.2.2.2.2.1) : Nat) : Int), (((c253.2.2.2.2.2.2.2.2.2.2.2.2.2.2.2.2.1) : Nat) : Int), (((c253.2.2.2.2.2.2.2.2.2.2.2.2.2.2.2.2.2.1) : Nat) : Int), (((c253.2.2.2.2.2.2.2.2.2.2.2.2.2.2.2.2.2.2.1) : Nat) : Int)]] : List (List Int))), [])) (cond (Nat.beq ((ih x0 x1 x2 x3 (IntKind.i64.wrap (x4 + 1)) x5 x6 x7 x8 x9 x10 x11 x12 x13 (((x14.drop 0).take x14.length) ++ ([[(((c253.2.1) : Nat) : Int), (((c253.2.2.1) : Nat) : Int), (((c253.2.2.2.1) : Nat) : Int), (((c253.2.2.2.2.1) : Nat) : Int), (((c253.2.2.2.2.2.1) : Nat) : Int), (((c253.2.2.2.2.2.2.1) : Nat) : Int), (((c253.2.2.2.2.2.2.2.1) : Nat) : Int), (((c253.2.2.2.2.2.2.2.2.1) : Nat) : Int), (((c253.2.2.2.2.2.2.2.2.2.1) : Nat) : Int), (((c253.2.2.2.2.2.2.2.2.2.2.1) : Nat) : Int), (((c253.2.2.2.2.2.2.2.2.2.2.2.1) : Nat) : Int), (((c253.2.2.2.2.2.2.2.2.2.2.2.2.1) : Nat) : Int), (((c253.2.2.2.2.2.2.2.2.2.2.2.2.2.1) : Nat) : Int), (((c253.2.2.2.2.2.2.2.2.2.2.2.2.2.2.1) : Nat) : Int), (((c253.2.2.2.2.2.2.2.2.2.2.2.2.2.2.2.1) : Nat) : Int), (((c253.2.2.2.2.2.2.2.2.2.2.2.2.2.2.2.2.1) : Nat) : Int), (((c253.2.2.2.2.2.2.2.2.2.2.2.2.2.2.2.2.2.1) : Nat) : Int), (((c253.2.2.2.2.2.2.2.2.2.2.2.2.2.2.2.2.2.2.1) : Nat) : Int)]] : List (List Int)))).1) 1) (k (1, ((ih x0 x1 x2 x3 (IntKind.i64.wrap (x4 + 1)) x5 x6 x7 x8 x9 x10 x11 x12 x13 (((x14.drop 0).take x14.length) ++ ([[(((c253.2.1) : Nat) : Int), (((c253.2.2.1) : Nat) : Int), (((c253.2.2.2.1) : Nat) : Int), (((c253.2.2.2.2.1) : Nat) : Int), (((c253.2.2.2.2.2.1) : Nat) : Int), (((c253.2.2.2.2.2.2.1) : Nat) : Int), (((c253.2.2.2.2.2.2.2.1) : Nat) : Int), (((c253.2.2.2.2.2.2.2.2.1) : Nat) : Int), (((c253.2.2.2.2.2.2.2.2.2.1) : Nat) : Int), (((c253.2.2.2.2.2.2.2.2.2.2.1) : Nat) : Int), (((c253.2.2.2.2.2.2.2.2.2.2.2.1) : Nat) : Int), (((c253.2.2.2.2.2.2.2.2.2.2.2.2.1) : Nat) : Int), (((c253.2.2.2.2.2.2.2.2.2.2.2.2.2.1) : Nat) : Int), (((c253.2.2.2.2.2.2.2.2.2.2.2.2.2.2.1) : Nat) : Int), (((c253.2.2.2.2.2.2.2.2.2.2.2.2.2.2.2.1) : Nat) : Int), (((c253.2.2.2.2.2.2.2.2.2.2.2.2.2.2.2.2.1) : Nat) : Int), (((c253.2.2.2.2.2.2.2.2.2.2.2.2.2.2.2.2.2.1) : Nat) : Int), (((c253.2.2.2.2.2.2.2.2.2.2.2.2.2.2.2.2.2.2.1) : Nat) : Int)]] : List (List Int)))).2.1), [])) (cond (Nat.beq ((ih x0 x1 x2 x3 (IntKind.i64.wrap (x4 + 1)) x5 x6 x7 x8 x9 x10 x11 x12 x13 (((x14.drop 0).take x14.length) ++ ([[(((c253.2.1) : Nat) : Int), (((c253.2.2.1) : Nat) : Int), (((c253.2.2.2.1) : Nat) : Int), (((c253.2.2.2.2.1) : Nat) : Int), (((c253.2.2.2.2.2.1) : Nat) : Int), (((c253.2.2.2.2.2.2.1) : Nat) : Int), (((c253.2.2.2.2.2.2.2.1) : Nat) : Int), (((c253.2.2.2.2.2.2.2.2.1) : Nat) : Int), (((c253.2.2.2.2.2.2.2.2.2.1) : Nat) : Int), (((c253.2.2.2.2.2.2.2.2.2.2.1) : Nat) : Int), (((c253.2.2.2.2.2.2.2.2.2.2.2.1) : Nat) : Int), (((c253.2.2.2.2.2.2.2.2.2.2.2.2.1) : Nat) : Int), (((c253.2.2.2.2.2.2.2.2.2.2.2.2.2.1) : Nat) : Int), (((c253.2.2.2.2.2.2.2.2.2.2.2.2.2.2.1) : Nat) : Int), (((c253.2.2.2.2.2.2.2.2.2.2.2.2.2.2.2.1) : Nat) : Int), (((c253.2.2.2.2.2.2.2.2.2.2.2.2.2.2.2.2.1) : Nat) : Int), (((c253.2.2.2.2.2.2.2.2.2.2.2.2.2.2.2.2.2.1) : Nat) : Int), (((c253.2.2.2.2.2.2.2.2.2.2.2.2.2.2.2.2.2.2.1) : Nat) : Int)]] : List (List Int)))).1) 2) (k (2, [], ((ih x0 x1 x2 x3 (IntKind.i64.wrap (x4 + 1)) x5 x6 x7 x8 x9 x10 x11 x12 x13 (((x14.drop 0).take x14.length) ++ ([[(((c253.2.1) : Nat) : Int), (((c253.2.2.1) : Nat) : Int), (((c253.2.2.2.1) : Nat) : Int), (((c253.2.2.2.2.1) : Nat) : Int), (((c253.2.2.2.2.2.1) : Nat) : Int), (((c253.2.2.2.2.2.2.1) : Nat) : Int), (((c253.2.2.2.2.2.2.2.1) : Nat) : Int), (((c253.2.2.2.2.2.2.2.2.1) : Nat) : Int), (((c253.2.2.2.2.2.2.2.2.2.1) : Nat) : Int), (((c253.2.2.2.2.2.2.2.2.2.2.1) : Nat) : Int), (((c253.2.2.2.2.2.2.2.2.2.2.2.1) : Nat) : Int), (((c253.2.2.2.2.2.2.2.2.2.2.2.2.1) : Nat) : Int), (((c253.2.2.2.2.2.2.2.2.2.2.2.2.2.1) : Nat) : Int), (((c253.2.2.2.2.2.2.2.2.2.2.2.2.2.2.1) : Nat) : Int), (((c253.2.2.2.2.2.2.2.2.2.2.2.2.2.2.2.1) : Nat) : Int), (((c253.2.2.2.2.2.2.2.2.2.2.2.2.2.2.2.2.1) : Nat) : Int), (((c253.2.2.2.2.2.2.2.2.2.2.2.2.2.2.2.2.2.1) : Nat) : Int), (((c253.2.2.2.2.2.2.2.2.2.2.2.2.2.2.2.2.2.2.1) : Nat) : Int)]] : List (List Int)))).2.2))) (cond (Nat.beq ((ih x0 x1 x2 x3 (IntKind.i64.wrap (x4 + 1)) x5 x6 x7 x8 x9 x10 x11 x12 x13 (((x14.drop 0).take x14.length) ++ ([[(((c253.2.1) : Nat) : Int), (((c253.2.2.1) : Nat) : Int), (((c253.2.2.2.1) : Nat) : Int), (((c253.2.2.2.2.1) : Nat) : Int), (((c253.2.2.2.2.2.1) : Nat) : Int), (((c253.2.2.2.2.2.2.1) : Nat) : Int), (((c253.2.2.2.2.2.2.2.1) : Nat) : Int), (((c253.2.2.2.2.2.2.2.2.1) : Nat) : Int), (((c253.2.2.2.2.2.2.2.2.2.1) : Nat) : Int), (((c253.2.2.2.2.2.2.2.2.2.2.1) : Nat) : Int), (((c253.2.2.2.2.2.2.2.2.2.2.2.1) : Nat) : Int), (((c253.2.2.2.2.2.2.2.2.2.2.2.2.1) : Nat) : Int), (((c253.2.2.2.2.2.2.2.2.2.2.2.2.2.1) : Nat) : Int), (((c253.2.2.2.2.2.2.2.2.2.2.2.2.2.2.1) : Nat) : Int), (((c253.2.2.2.2.2.2.2.2.2.2.2.2.2.2.2.1) : Nat) : Int), (((c253.2.2.2.2.2.2.2.2.2.2.2.2.2.2.2.2.1) : Nat) : Int), (((c253.2.2.2.2.2.2.2.2.2.2.2.2.2.2.2.2.2.1) : Nat) : Int), (((c253.2.2.2.2.2.2.2.2.2.2.2.2.2.2.2.2.2.2.1) : Nat) : Int)]] : List (List Int)))).1) 3) (k (2, [], (((x14.drop 0).take x14.length) ++ ([[(((c253.2.1) : Nat) : Int), (((c253.2.2.1) : Nat) : Int), (((c253.2.2.2.1) : Nat) : Int), (((c253.2.2.2.2.1) : Nat) : Int), (((c253.2.2.2.2.2.1) : Nat) : Int), (((c253.2.2.2.2.2.2.1) : Nat) : Int), (((c253.2.2.2.2.2.2.2.1) : Nat) : Int), (((c253.2.2.2.2.2.2.2.2.1) : Nat) : Int), (((c253.2.2.2.2.2.2.2.2.2.1) : Nat) : Int), (((c253.2.2.2.2.2.2.2.2.2.2.1) : Nat) : Int), (((c253.2.2.2.2.2.2.2.2.2.2.2.1) : Nat) : Int), (((c253.2.2.2.2.2.2.2.2.2.2.2.2.1) : Nat) : Int), (((c253.2.2.2.2.2.2.2.2.2.2.2.2.2.1) : Nat) : Int), (((c253.2.2.2.2.2.2.2.2.2.2.2.2.2.2.1) : Nat) : Int), (((c253.2.2.2.2.2.2.2.2.2.2.2.2.2.2.2.1) : Nat) : Int), (((c253.2.2.2.2.2.2.2.2.2.2.2.2.2.2.2.2.1) : Nat) : Int), (((c253.2.2.2.2.2.2.2.2.2.2.2.2.2.2.2.2.2.1) : Nat) : Int), (((c253.2.2.2.2.2.2.2.2.2.2.2.2.2.2.2.2.2.2.1) : Nat) : Int)]] : List (List Int))))) (k (4, [], [])))))) (k (4, [], [])))) (k (4, [], []))) (k (4, [], []))) (k (4, [], []))) (k (3, [], []))
noncomputable def b34l1 (ih : ByteArray → Nat → Nat → Int → Int → Nat → Nat → Nat → Nat → Nat → Int → Int → Nat → List ByteArray → List (List Int) → (Nat × List (List Int) × List (List Int))) (x0 : ByteArray) (x1 x2 : Nat) (x3 x4 : Int) (x5 x6 x7 x8 x9 : Nat) (x10 x11 : Int) (x12 : Nat) (x13 : List ByteArray) (x14 : List (List Int)) : Nat × List (List Int) × List (List Int) := w34l1 ih x0 x1 x2 x3 x4 x5 x6 x7 x8 x9 x10 x11 x12 x13 x14 (fun p => p)
noncomputable def r34l1 : Nat → ByteArray → Nat → Nat → Int → Int → Nat → Nat → Nat → Nat → Nat → Int → Int → Nat → List ByteArray → List (List Int) → (Nat × List (List Int) × List (List Int))
 | 0 => fun _ _ _ _ _ _ _ _ _ _ _ _ _ _ _ => (4, [], [])
 | m + 1 => b34l1 (r34l1 m)
noncomputable def g34l1 (x0 : ByteArray) (x1 x2 : Nat) (x3 x4 : Int) (x5 x6 x7 x8 x9 : Nat) (x10 x11 : Int) (x12 : Nat) (x13 : List ByteArray) (x14 : List (List Int)) (p : Nat × List (List Int) × List (List Int)) : List (Bool × (Fin' × List Value × St)) := [((Nat.beq (p.1) 0), .ret, [.string x0, vp 0, vi 5, vp 1], ⟨[⟨true, (some (.cells [.slice none 0 0, vf 0, vf 0, .int .i8 0, vi 0, vf 0]))⟩, ⟨true, (some (.cells [wsl 3, vf x8, vf x9, .int .i8 x10, vi x11, vf x12]))⟩, ⟨true, (some (.strs x13))⟩, ⟨true, (some (.tab sc0 x14))⟩], 4, [0, 1, 3]⟩), ((Nat.beq (p.1) 1), .ret, [.string x0, vp 0, vi 5, vp 1], ⟨[⟨true, (some (.cells [.slice none 0 0, vf 0, vf 0, .int .i8 0, vi 0, vf 0]))⟩, ⟨true, (some (.cells [wsl 4, vf x8, vf x9, .int .i8 x10, vi x11, vf x12]))⟩, ⟨true, (some (.strs x13))⟩, ⟨true, none⟩, ⟨true, (some (.tab sc0 (p.2.1)))⟩], 4, [0, 1, 3]⟩), ((Nat.beq (p.1) 2), .exit 2, [.string x0, vp 0, anyV, vp 1], ⟨[⟨true, (some (.cells [.slice none 0 0, vf x5, vf x6, .int .i8 0, vi 0, vf x7]))⟩, ⟨true, (some (.cells [wsl 4, vf x8, vf x9, .int .i8 x10, vi x11, vf x12]))⟩, ⟨true, (some (.strs x13))⟩, ⟨true, none⟩, ⟨true, (some (.tab sc0 (p.2.2)))⟩], 4, [0, 1, 3]⟩), ((Nat.beq (p.1) 3), .exit 2, [.string x0, vp 0, anyV, vp 1], ⟨[⟨true, (some (.cells [.slice none 0 0, vf x5, vf x6, .int .i8 0, vi 0, vf x7]))⟩, ⟨true, (some (.cells [wsl 3, vf x8, vf x9, .int .i8 x10, vi x11, vf x12]))⟩, ⟨true, (some (.strs x13))⟩, ⟨true, (some (.tab sc0 x14))⟩], 4, [0, 1, 3]⟩)]
noncomputable def a34l1 (x0 : ByteArray) (x1 x2 : Nat) (x3 x4 : Int) (x5 x6 x7 x8 x9 : Nat) (x10 x11 : Int) (x12 : Nat) (x13 : List ByteArray) (x14 : List (List Int)) (p : Nat × List (List Int) × List (List Int)) : Option (Fin' × List Value × St) := firstT ((g34l1 x0 x1 x2 x3 x4 x5 x6 x7 x8 x9 x10 x11 x12 x13 x14 p).map fun (b, x) => (b, (x.1, frameOf 105 [0, 2, 3, 7] x.2.1, x.2.2)))
noncomputable def u34l1 (x0 : ByteArray) (x1 x2 : Nat) (x3 x4 : Int) (x5 x6 x7 x8 x9 : Nat) (x10 x11 : Int) (x12 : Nat) (x13 : List ByteArray) (x14 : List (List Int)) (p : Nat × List (List Int) × List (List Int)) : Option (Fin' × List Value × St) := alts ((g34l1 x0 x1 x2 x3 x4 x5 x6 x7 x8 x9 x10 x11 x12 x13 x14 p).map fun (b, x) => (b, (x.1, frameOf 105 [0, 2, 3, 7] x.2.1, x.2.2))) some
theorem v34l1 (x0 : ByteArray) (x1 x2 : Nat) (x3 x4 : Int) (x5 x6 x7 x8 x9 : Nat) (x10 x11 : Int) (x12 : Nat) (x13 : List ByteArray) (x14 : List (List Int)) (p : Nat × List (List Int) × List (List Int)) : u34l1 x0 x1 x2 x3 x4 x5 x6 x7 x8 x9 x10 x11 x12 x13 x14 p = a34l1 x0 x1 x2 x3 x4 x5 x6 x7 x8 x9 x10 x11 x12 x13 x14 p := alts_first _
noncomputable def q34l1 (m : Nat) : SumK := fun vals s =>
 match vals, s.h with
 | [.string x0, .pointer (some ⟨f0, f1, some f2⟩), .pointer (some ⟨f3, f4, some f5⟩), .iface x2 (.pointer (some ⟨f6, x1, some f7⟩)), .int .i64 x3, .int .i64 x4], [⟨true, some (.cells [.slice none f8 f9, .float .f32 x5, .float .f32 x6, .int .i8 f10, .int .i64 f11, .float .f32 x7])⟩, ⟨true, some (.cells [.iface f12 .nilIface, .float .f32 x8, .float .f32 x9, .int .i8 x10, .int .i64 x11, .float .f32 x12])⟩, ⟨true, some (.strs x13)⟩, ⟨true, some (.tab [.fl .f32, .fl .f32, .fl .f32, .fl .f32, .fl .f32, .fl .f32, .fl .f32, .fl .f32, .fl .f32, .fl .f32, .fl .f32, .fl .f32, .fl .f32, .fl .f32, .fl .f32, .fl .f32, .fl .f32, .fl .f32] x14)⟩] => if f0 = 0 ∧ f1 = 0 ∧ f2 = 0 ∧ f3 = 1 ∧ f4 = 0 ∧ f5 = 0 ∧ f6 = 2 ∧ f7 = 0 ∧ f8 = 0 ∧ f9 = 0 ∧ f10 = 0 ∧ f11 = 0 ∧ f12 = 3 then (g34l1 x0 x1 x2 x3 x4 x5 x6 x7 x8 x9 x10 x11 x12 x13 x14 (r34l1 m x0 x1 x2 x3 x4 x5 x6 x7 x8 x9 x10 x11 x12 x13 x14)) else noQ vals s
 | _, _ => noQ vals s
theorem p34l1 {α : Type} (ih : ByteArray → Nat → Nat → Int → Int → Nat → Nat → Nat → Nat → Nat → Int → Int → Nat → List ByteArray → List (List Int) → (Nat × List (List Int) × List (List Int))) (x0 : ByteArray) (x1 x2 : Nat) (x3 x4 : Int) (x5 x6 x7 x8 x9 : Nat) (x10 x11 : Int) (x12 : Nat) (x13 : List ByteArray) (x14 : List (List Int)) (f : (Nat × List (List Int) × List (List Int)) → α) : w34l1 ih x0 x1 x2 x3 x4 x5 x6 x7 x8 x9 x10 x11 x12 x13 x14 f = f (w34l1 ih x0 x1 x2 x3 x4 x5 x6 x7 x8 x9 x10 x11 x12 x13 x14 (fun p => p)) := by unfold w34l1; repeat' (first | refine cond_app f _ ?_ ?_ | rfl)
set_option maxRecDepth 100000 in
set_option maxHeartbeats 4000000 in
theorem e34l1 (m : Nat) (x0 : ByteArray) (x1 x2 : Nat) (x3 x4 : Int) (x5 x6 x7 x8 x9 : Nat) (x10 x11 : Int) (x12 : Nat) (x13 : List ByteArray) (x14 : List (List Int)) : evC Tryz.prog ext T39 L34_1 200 (loopN Tryz.f34 1) (loopTail ([0, 2, 7, 73, 74, 75], []) [0, 2, 3, 7] [0, 1, 3] (sumK 105 [0, 2, 7, 73, 74, 75] [0, 2, 3, 7] (q34l1 m))) (frameOf 105 [0, 2, 7, 73, 74, 75] [.string x0, vp 0, vp 1, rsl ⟨2, x1, some 0⟩ x2, vi x3, vi x4]) ⟨[⟨true, (some (.cells [.slice none 0 0, vf x5, vf x6, .int .i8 0, vi 0, vf x7]))⟩, ⟨true, (some (.cells [wsl 3, vf x8, vf x9, .int .i8 x10, vi x11, vf x12]))⟩, ⟨true, (some (.strs x13))⟩, ⟨true, (some (.tab sc0 x14))⟩], 4, []⟩ = firstT ((g34l1 x0 x1 x2 x3 x4 x5 x6 x7 x8 x9 x10 x11 x12 x13 x14 (r34l1 (m + 1) x0 x1 x2 x3 x4 x5 x6 x7 x8 x9 x10 x11 x12 x13 x14)).map fun (b, x) => (b, (x.1, frameOf 105 [0, 2, 3, 7] x.2.1, x.2.2))) :=
 Eq.trans (by kernel_rfl) (p34l1 (r34l1 m) x0 x1 x2 x3 x4 x5 x6 x7 x8 x9 x10 x11 x12 x13 x14 (fun p => firstT ((g34l1 x0 x1 x2 x3 x4 x5 x6 x7 x8 x9 x10 x11 x12 x13 x14 p).map fun (b, x) => (b, (x.1, frameOf 105 [0, 2, 3, 7] x.2.1, x.2.2)))))
set_option maxRecDepth 100000 in
set_option maxHeartbeats 4000000 in
theorem qm34l1 : ∀ m, SumKOk Tryz.prog (loopN Tryz.f34 1) 105 [0, 2, 7, 73, 74, 75] [0, 2, 3, 7] (q34l1 m) := by
  intro m
  induction m with
  | zero =>
    intro vals s x h1 h2 h3
    unfold q34l1 at h3; split at h3
    · rename_i h; split at h3
      · rename_i hc; obtain ⟨rfl, rfl, rfl, rfl, rfl, rfl, rfl, rfl, rfl, rfl, rfl, rfl, rfl⟩ := hc; exact absurd h3 (by simp [r34l1, g34l1, firstT, Nat.beq])
      · exact noQ_ok _ _ _ h1 h2 h3
    · exact noQ_ok _ _ _ h1 h2 h3
  | succ m ih =>
    intro vals s x h1 h2 h3
    unfold q34l1 at h3; split at h3
    · rename_i h; split at h3
      · rename_i hc; obtain ⟨rfl, rfl, rfl, rfl, rfl, rfl, rfl, rfl, rfl, rfl, rfl, rfl, rfl⟩ := hc; exact sum_step ok39 extOk mixed (lok34_1.inner (by kernel_rfl)) ih h1 h2 h (e34l1 m _ _ _ _ _ _ _ _ _ _ _ _ _ _ _) rfl h3
      · exact noQ_ok _ _ _ h1 h2 h3
    · exact noQ_ok _ _ _ h1 h2 h3
noncomputable def Q34l1 : SumK := fun vals s => q34l1 (fuelOf vals s.h) vals s
theorem qok34l1 : SumKOk Tryz.prog (loopN Tryz.f34 1) 105 [0, 2, 7, 73, 74, 75] [0, 2, 3, 7] Q34l1 := fuel_ok qm34l1 fuelOf
noncomputable def L34_2 : LoopT := addL L34_1 21 ([0, 2, 7, 73, 74, 75], []) (sumK 105 [0, 2, 7, 73, 74, 75] [0, 2, 3, 7] Q34l1)
theorem lok34_2 : LfOkF Tryz.prog L34_2 Tryz.f34 := lfOkF_add lok34_1 qok34l1 (by kernel_rfl) (by kernel_rfl) (by kernel_rfl)

/-- impl.ReadStove, loop 1 -/
noncomputable def w34l1b {α : Type} (x0 : ByteArray) (x1 x2 : Nat) (x3 : Int) (x4 x5 x6 x7 x8 : Nat) (x9 x10 : Int) (x11 : Nat) (x12 : List ByteArray) (k : (Nat × List (List Int) × List (List Int)) → α) : α :=
 let c254 := (r34l1 (1000 + ([[((((r7 (x12.getD (x1 + 0) .empty)).2.1) : Nat) : Int), ((((r7 (x12.getD (x1 + 0) .empty)).2.2.1) : Nat) : Int), ((((r7 (x12.getD (x1 + 0) .empty)).2.2.2.1) : Nat) : Int), ((((r7 (x12.getD (x1 + 0) .empty)).2.2.2.2.1) : Nat) : Int), ((((r7 (x12.getD (x1 + 0) .empty)).2.2.2.2.2.1) : Nat) : Int), ((((r7 (x12.getD (x1 + 0) .empty)).2.2.2.2.2.2.1) : Nat) : Int), ((((r7 (x12.getD (x1 + 0) .empty)).2.2.2.2.2.2.2.1) : Nat) : Int), ((((r7 (x12.getD (x1 + 0) .empty)).2.2.2.2.2.2.2.2.1) : Nat) : Int), ((((r7 (x12.getD (x1 + 0) .empty)).2.2.2.2.2.2.2.2.2.1) : Nat) : Int), ((((r7 (x12.getD (x1 + 0) .empty)).2.2.2.2.2.2.2.2.2.2.1) : Nat) : Int), ((((r7 (x12.getD (x1 + 0) .empty)).2.2.2.2.2.2.2.2.2.2.2.1) : Nat) : Int), ((((r7 (x12.getD (x1 + 0) .empty)).2.2.2.2.2.2.2.2.2.2.2.2.1) : Nat) : Int), ((((r7 (x12.getD (x1 + 0) .empty)).2.2.2.2.2.2.2.2.2.2.2.2.2.1) : Nat) : Int), ((((r7 (x12.getD (x1 + 0) .empty)).2.2.2.2.2.2.2.2.2.2.2.2.2.2.1) : Nat) : Int), ((((r7 (x12.getD (x1 + 0) .empty)).2.2.2.2.2.2.2.2.2.2.2.2.2.2.2.1) : Nat) : Int), ((((r7 (x12.getD (x1 + 0) .empty)).2.2.2.2.2.2.2.2.2.2.2.2.2.2.2.2.1) : Nat) : Int), ((((r7 (x12.getD (x1 + 0) .empty)).2.2.2.2.2.2.2.2.2.2.2.2.2.2.2.2.2.1) : Nat) : Int), ((((r7 (x12.getD (x1 + 0) .empty)).2.2.2.2.2.2.2.2.2.2.2.2.2.2.2.2.2.2.1) : Nat) : Int)]] : List (List Int)).length + x12.length + (x0.size)) x0 x1 x2 x3 1 x4 x5 x6 x7 x8 x9 x10 x11 x12 ([[((((r7 (x12.getD (x1 + 0) .empty)).2.1) : Nat) : Int), ((((r7 (x12.getD (x1 + 0) .empty)).2.2.1) : Nat) : Int), ((((r7 (x12.getD (x1 + 0) .empty)).2.2.2.1) : Nat) : Int), ((((r7 (x12.getD (x1 + 0) .empty)).2.2.2.2.1) : Nat) : Int), ((((r7 (x12.getD (x1 + 0) .empty)).2.2.2.2.2.1) : Nat) : Int), ((((r7 (x12.getD (x1 + 0) .empty)).2.2.2.2.2.2.1) : Nat) : Int), ((((r7 (x12.getD (x1 + 0) .empty)).2.2.2.2.2.2.2.1) : Nat) : Int), ((((r7 (x12.getD (x1 + 0) .empty)).2.2.2.2.2.2.2.2.1) : Nat) : Int), ((((r7 (x12.getD (x1 + 0) .empty)).2.2.2.2.2.2.2.2.2.1) : Nat) : Int), ((((r7 (x12.getD (x1 + 0) .empty)).2.2.2.2.2.2.2.2.2.2.1) : Nat) : Int), ((((r7 (x12.getD (x1 + 0) .empty)).2.2.2.2.2.2.2.2.2.2.2.1) : Nat) : Int), ((((r7 (x12.getD (x1 + 0) .empty)).2.2.2.2.2.2.2.2.2.2.2.2.1) : Nat) : Int), ((((r7 (x12.getD (x1 + 0) .empty)).2.2.2.2.2.2.2.2.2.2.2.2.2.1) : Nat) : Int), ((((r7 (x12.getD (x1 + 0) .empty)).2.2.2.2.2.2.2.2.2.2.2.2.2.2.1) : Nat) : Int), ((((r7 (x12.getD (x1 + 0) .empty)).2.2.2.2.2.2.2.2.2.2.2.2.2.2.2.1) : Nat) : Int), ((((r7 (x12.getD (x1 + 0) .empty)).2.2.2.2.2.2.2.2.2.2.2.2.2.2.2.2.1) : Nat) : Int), ((((r7 (x12.getD (x1 + 0) .empty)).2.2.2.2.2.2.2.2.2.2.2.2.2.2.2.2.2.1) : Nat) : Int), ((((r7 (x12.getD (x1 + 0) .empty)).2.2.2.2.2.2.2.2.2.2.2.2.2.2.2.2.2.2.1) : Nat) : Int)]] : List (List Int)))
 cond (decide ((0 : Int) < x3)) (cond (Nat.blt 0 x2) (cond (Nat.blt (x1 + 0) x12.length) (cond (Nat.beq ((r7 (x12.getD (x1 + 0) .empty)).1) 0) (cond ((((r7 (x12.getD (x1 + 0) .empty)).2.2.2.2.2.2.2.2.2.2.2.2.2.2.2.2.2.2.2) : Int) != 0) (k (0, [], [])) (cond (Nat.beq (c254.1) 0) (k (1, ([[((((r7 (x12.getD (x1 + 0) .empty)).2.1) : Nat) : Int), ((((r7 (x12.getD (x1 + 0) .empty)).2.2.1) : Nat) : Int), ((((r7 (x12.getD (x1 + 0) .empty)).2.2.2.1) : Nat) : Int), ((((r7 (x12.getD (x1 + 0) .empty)).2.2.2.2.1) : Nat) : Int), ((((r7 (x12.getD (x1 + 0) .empty)).2.2.2.2.2.1) : Nat) : Int), ((((r7 (x12.getD (x1 + 0) .empty)).2.2.2.2.2.2.1) : Nat) : Int), ((((r7 (x12.getD (x1 + 0) .empty)).2.2.2.2.2.2.2.1) : Nat) : Int), ((((r7 (x12.getD (x1 + 0) .empty)).2.2.2.2.2.2.2.2.1) : Nat) : Int), ((((r7 (x12.getD (x1 + 0) .empty)).2.2.2.2.2.2.2.2.2.1) : Nat) : Int), ((((r7 (x12.getD (x1 + 0) .empty)).2.2.2.2.2.2.2.2.2.2.1) : Nat) : Int), ((((r7 (x12.getD (x1 + 0) .empty)).2.2.2.2.2.2.2.2.2.2.2.1) : Nat) : Int), ((((r7 (x12.getD (x1 + 0) .empty)).2.2.2.2.2.2.2.2.2.2.2.2.1) : Nat) : Int), ((((r7 (x12.getD (x1 + 0) .empty)).2.2.2.2.2.2.2.2.2.2.2.2.2.1) : Nat) : Int), ((((r7 (x12.getD (x1 + 0) .empty)).2.2.2.2.2.2.2.2.2.2.2.2.2.2.1) : Nat) : Int), ((((r7 (x12.getD (x1 + 0) .empty)).2.2.2.2.2.2.2.2.2.2.2.2.2.2.2.1) : Nat) : Int), ((((r7 (x12.getD (x1 + 0) .empty)).2.2.2.2.2.2.2.2.2.2.2.2.2.2.2.2.1) : Nat) : Int), ((((r7 (x12.getD (x1 + 0) .empty)).2.2.2.2.2.2.2.2.2.2.2.2.2.2.2.2.2.1) : Nat) : Int), ((((r7 (x12.getD (x1 + 0) .empty)).2.2.2.2.2.2.2.2.2.2.2.2.2.2.2.2.2.2.1) : Nat) : Int)]] : List (List Int)), [])) (cond (Nat.beq (c254.1) 1) (k (1, (c254.2.1), [])) (cond (Nat.beq (c254.1) 2) (k (2, [], (c254.2.2))) (cond (Nat.beq (c254.1) 3) (k (2, [], ([[((((r7 (x12.getD (x1 + 0) .empty)).2.1) : Nat) : Int), ((((r7 (x12.getD (x1 + 0) .empty)).2.2.1) : Nat) : Int), ((((r7 (x12.getD (x1 + 0) .empty)).2.2.2.1) : Nat) : Int), ((((r7 (x12.getD (x1 + 0) .empty)).2.2.2.2.1) : Nat) : Int), ((((r7 (x12.getD (x1 + 0) .empty)).2.2.2.2.2.1) : Nat) : Int), ((((r7 (x12.getD (x1 + 0) .empty)).2.2.2.2.2.2.1) : Nat) : Int), ((((r7 (x12.getD (x1 + 0) .empty)).2.2.2.2.2.2.2.1) : Nat) : Int), ((((r7 (x12.getD (x1 + 0) .empty)).2.2.2.2.2.2.2.2.1) : Nat) : Int), ((((r7 (x12.getD (x1 + 0) .empty)).2.2.2.2.2.2.2.2.2.1) : Nat) : Int), ((((r7 (x12.getD (x1 + 0) .empty)).2.2.2.2.2.2.2.2.2.2.1) : Nat) : Int), ((((r7 (x12.getD (x1 + 0) .empty)).2.2.2.2.2.2.2.2.2.2.2.1) : Nat) : Int), ((((r7 (x12.getD (x1 + 0) .empty)).2.2.2.2.2.2.2.2.2.2.2.2.1) : Nat) : Int), ((((r7 (x12.getD (x1 + 0) .empty)).2.2.2.2.2.2.2.2.2.2.2.2.2.1) : Nat) : Int), ((((r7 (x12.getD (x1 + 0) .empty)).2.2.2.2.2.2.2.2.2.2.2.2.2.2.1) : Nat) : Int), ((((r7 (x12.getD (x1 + 0) .empty)).2.2.2.2.2.2.2.2.2.2.2.2.2.2.2.1) : Nat) : Int), ((((r7 (x12.getD (x1 + 0) .empty)).2.2.2.2.2.2.2.2.2.2.2.2.2.2.2.2.1) : Nat) : Int), ((((r7 (x12.getD (x1 + 0) .empty)).2.2.2.2.2.2.2.2.2.2.2.2.2.2.2.2.2.1) : Nat) : Int), ((((r7 (x12.getD (x1 + 0) .empty)).2.2.2.2.2.2.2.2.2.2.2.2.2.2.2.2.2.2.1) : Nat) : Int)]] : List (List Int)))) (k (4, [], []))))))) (k (4, [], []))) (k (4, [], []))) (k (4, [], []))) (k (3, [], []))
noncomputable def r34l1b (x0 : ByteArray) (x1 x2 : Nat) (x3 : Int) (x4 x5 x6 x7 x8 : Nat) (x9 x10 : Int) (x11 : Nat) (x12 : List ByteArray) : Nat × List (List Int) × List (List Int) := w34l1b x0 x1 x2 x3 x4 x5 x6 x7 x8 x9 x10 x11 x12 (fun p => p)
noncomputable def g34l1b (x0 : ByteArray) (x1 x2 : Nat) (x3 : Int) (x4 x5 x6 x7 x8 : Nat) (x9 x10 : Int) (x11 : Nat) (x12 : List ByteArray) (p : Nat × List (List Int) × List (List Int)) : List (Bool × (Fin' × List Value × St)) := [((Nat.beq (p.1) 0), .ret, [.string x0, vp 0, vi 5, vp 1], ⟨[⟨true, (some (.cells [.slice none 0 0, vf 0, vf 0, .int .i8 0, vi 0, vf 0]))⟩, ⟨true, (some (.cells [.slice none 0 0, vf x7, vf x8, .int .i8 x9, vi x10, vf x11]))⟩, ⟨true, (some (.strs x12))⟩], 3, [0, 1]⟩), ((Nat.beq (p.1) 1), .ret, [.string x0, vp 0, vi 5, vp 1], ⟨[⟨true, (some (.cells [.slice none 0 0, vf 0, vf 0, .int .i8 0, vi 0, vf 0]))⟩, ⟨true, (some (.cells [wsl 3, vf x7, vf x8, .int .i8 x9, vi x10, vf x11]))⟩, ⟨true, (some (.strs x12))⟩, ⟨true, (some (.tab sc0 (p.2.1)))⟩], 3, [0, 1]⟩), ((Nat.beq (p.1) 2), .exit 2, [.string x0, vp 0, anyV, vp 1], ⟨[⟨true, (some (.cells [.slice none 0 0, vf x4, vf x5, .int .i8 0, vi 0, vf x6]))⟩, ⟨true, (some (.cells [wsl 3, vf x7, vf x8, .int .i8 x9, vi x10, vf x11]))⟩, ⟨true, (some (.strs x12))⟩, ⟨true, (some (.tab sc0 (p.2.2)))⟩], 3, [0, 1]⟩), ((Nat.beq (p.1) 3), .exit 2, [.string x0, vp 0, anyV, vp 1], ⟨[⟨true, (some (.cells [.slice none 0 0, vf x4, vf x5, .int .i8 0, vi 0, vf x6]))⟩, ⟨true, (some (.cells [.slice none 0 0, vf x7, vf x8, .int .i8 x9, vi x10, vf x11]))⟩, ⟨true, (some (.strs x12))⟩], 3, [0, 1]⟩)]
theorem p34l1b {α : Type} (x0 : ByteArray) (x1 x2 : Nat) (x3 : Int) (x4 x5 x6 x7 x8 : Nat) (x9 x10 : Int) (x11 : Nat) (x12 : List ByteArray) (f : (Nat × List (List Int) × List (List Int)) → α) : w34l1b x0 x1 x2 x3 x4 x5 x6 x7 x8 x9 x10 x11 x12 f = f (w34l1b x0 x1 x2 x3 x4 x5 x6 x7 x8 x9 x10 x11 x12 (fun p => p)) := by unfold w34l1b; repeat' (first | refine cond_app f _ ?_ ?_ | rfl)
set_option maxRecDepth 100000 in
set_option maxHeartbeats 4000000 in
theorem e34l1b (x0 : ByteArray) (x1 x2 : Nat) (x3 : Int) (x4 x5 x6 x7 x8 : Nat) (x9 x10 : Int) (x11 : Nat) (x12 : List ByteArray) : evC Tryz.prog ext T39 L34_2 200 (loopN Tryz.f34 1) (loopTail ([0, 2, 7, 73, 74, 75], []) [0, 2, 3, 7] [0, 1] (sumK 105 [0, 2, 7, 73, 74, 75] [0, 2, 3, 7] Q34l1)) (frameOf 105 [0, 2, 7, 73, 74, 75] [.string x0, vp 0, vp 1, rsl ⟨2, x1, some 0⟩ x2, vi x3, vi 0]) ⟨[⟨true, (some (.cells [.slice none 0 0, vf x4, vf x5, .int .i8 0, vi 0, vf x6]))⟩, ⟨true, (some (.cells [.slice none 0 0, vf x7, vf x8, .int .i8 x9, vi x10, vf x11]))⟩, ⟨true, (some (.strs x12))⟩], 3, []⟩ = firstT ((g34l1b x0 x1 x2 x3 x4 x5 x6 x7 x8 x9 x10 x11 x12 (r34l1b x0 x1 x2 x3 x4 x5 x6 x7 x8 x9 x10 x11 x12)).map fun (b, x) => (b, (x.1, frameOf 105 [0, 2, 3, 7] x.2.1, x.2.2))) :=
 Eq.trans (by kernel_rfl) (p34l1b x0 x1 x2 x3 x4 x5 x6 x7 x8 x9 x10 x11 x12 (fun p => firstT ((g34l1b x0 x1 x2 x3 x4 x5 x6 x7 x8 x9 x10 x11 x12 p).map fun (b, x) => (b, (x.1, frameOf 105 [0, 2, 3, 7] x.2.1, x.2.2)))))
noncomputable def Q34l1b : SumK := fun vals s =>
 match vals, s.h with
 | [.string x0, .pointer (some ⟨f0, f1, some f2⟩), .pointer (some ⟨f3, f4, some f5⟩), .iface x2 (.pointer (some ⟨f6, x1, some f7⟩)), .int .i64 x3, .int .i64 f8], [⟨true, some (.cells [.slice none f9 f10, .float .f32 x4, .float .f32 x5, .int .i8 f11, .int .i64 f12, .float .f32 x6])⟩, ⟨true, some (.cells [.slice none f13 f14, .float .f32 x7, .float .f32 x8, .int .i8 x9, .int .i64 x10, .float .f32 x11])⟩, ⟨true, some (.strs x12)⟩] => if f0 = 0 ∧ f1 = 0 ∧ f2 = 0 ∧ f3 = 1 ∧ f4 = 0 ∧ f5 = 0 ∧ f6 = 2 ∧ f7 = 0 ∧ f8 = 0 ∧ f9 = 0 ∧ f10 = 0 ∧ f11 = 0 ∧ f12 = 0 ∧ f13 = 0 ∧ f14 = 0 then (g34l1b x0 x1 x2 x3 x4 x5 x6 x7 x8 x9 x10 x11 x12 (r34l1b x0 x1 x2 x3 x4 x5 x6 x7 x8 x9 x10 x11 x12)) else Q34l1 vals s
 | _, _ => Q34l1 vals s
set_option maxRecDepth 100000 in
set_option maxHeartbeats 4000000 in
theorem qok34l1b : SumKOk Tryz.prog (loopN Tryz.f34 1) 105 [0, 2, 7, 73, 74, 75] [0, 2, 3, 7] Q34l1b := by
  intro vals s x h1 h2 h3
  unfold Q34l1b at h3; split at h3
  · rename_i h; split at h3
    · rename_i hc; obtain ⟨rfl, rfl, rfl, rfl, rfl, rfl, rfl, rfl, rfl, rfl, rfl, rfl, rfl, rfl, rfl⟩ := hc; exact sum_step ok39 extOk mixed (lok34_2.inner (by kernel_rfl)) qok34l1 h1 h2 h (e34l1b _ _ _ _ _ _ _ _ _ _ _ _ _) rfl h3
    · exact qok34l1 _ _ _ h1 h2 h3
  · exact qok34l1 _ _ _ h1 h2 h3
noncomputable def L34_3 : LoopT := addL L34_2 21 ([0, 2, 7, 73, 74, 75], []) (sumK 105 [0, 2, 7, 73, 74, 75] [0, 2, 3, 7] Q34l1b)
theorem lok34_3 : LfOkF Tryz.prog L34_3 Tryz.f34 := lfOkF_add lok34_2 qok34l1b (by kernel_rfl) (by kernel_rfl) (by kernel_rfl)

/-- impl.ValidStove, loop 0: one round -/
noncomputable def b72l0 (ih : Int → Int → Nat → Nat → Int → Int → Nat → List (List Int) → Nat) (x0 x1 : Int) (x2 x3 : Nat) (x4 x5 : Int) (x6 : Nat) (x7 : List (List Int)) : Nat :=
 let c272 := (r14 (Int.toNat ((x7.getD (Int.toNat x1) []).getD 0 0)) (Int.toNat ((x7.getD (Int.toNat x1) []).getD 1 0)) (Int.toNat ((x7.getD (Int.toNat x1) []).getD 2 0)) (Int.toNat ((x7.getD (Int.toNat x1) []).getD 3 0)) (Int.toNat ((x7.getD (Int.toNat x1) []).getD 4 0)) (Int.toNat ((x7.getD (Int.toNat x1) []).getD 5 0)) (Int.toNat ((x7.getD (Int.toNat x1) []).getD 6 0)) (Int.toNat ((x7.getD (Int.toNat x1) []).getD 7 0)) (Int.toNat ((x7.getD (Int.toNat x1) []).getD 8 0)) (Int.toNat ((x7.getD (Int.toNat x1) []).getD 9 0)) (Int.toNat ((x7.getD (Int.toNat x1) []).getD 10 0)) (Int.toNat ((x7.getD (Int.toNat x1) []).getD 11 0)) (Int.toNat ((x7.getD (Int.toNat x1) []).getD 12 0)) (Int.toNat ((x7.getD (Int.toNat x1) []).getD 13 0)) (Int.toNat ((x7.getD (Int.toNat x1) []).getD 14 0)) (Int.toNat ((x7.getD (Int.toNat x1) []).getD 15 0)) (Int.toNat ((x7.getD (Int.toNat x1) []).getD 16 0)) (Int.toNat ((x7.getD (Int.toNat x1) []).getD 17 0)))
 cond (decide ((x1 : Int) < x0)) (cond ((decide ((0 : Int) ≤ x1)) && (Nat.blt (Int.toNat x1) x7.length)) (cond (!c272) (0) (ih x0 (IntKind.i64.wrap (x1 + 1)) x2 x3 x4 x5 x6 x7)) (2)) (1)
noncomputable def r72l0 : Nat → Int → Int → Nat → Nat → Int → Int → Nat → List (List Int) → Nat
 | 0 => fun _ _ _ _ _ _ _ _ => (2)
 | m + 1 => b72l0 (r72l0 m)
noncomputable def a72l0 (x0 x1 : Int) (x2 x3 : Nat) (x4 x5 : Int) (x6 : Nat) (x7 : List (List Int)) (p : Nat) : Option (Fin' × List Value × St) := firstT ([((Nat.beq p 0), .ret, [vp 0, .bool false], ⟨[⟨true, (some (.cells [wsl 1, vf x2, vf x3, .int .i8 x4, vi x5, vf x6]))⟩, ⟨true, (some (.tab sc0 x7))⟩], 2, []⟩), ((Nat.beq p 1), .exit 0, [vp 0, anyV], ⟨[⟨true, (some (.cells [wsl 1, vf x2, vf x3, .int .i8 x4, vi x5, vf x6]))⟩, ⟨true, (some (.tab sc0 x7))⟩], 2, []⟩)].map fun (b, x) => (b, (x.1, frameOf 58 [1, 2] x.2.1, x.2.2)))
noncomputable def u72l0 (x0 x1 : Int) (x2 x3 : Nat) (x4 x5 : Int) (x6 : Nat) (x7 : List (List Int)) (p : Nat) : Option (Fin' × List Value × St) := alts ([((Nat.beq p 0), .ret, [vp 0, .bool false], ⟨[⟨true, (some (.cells [wsl 1, vf x2, vf x3, .int .i8 x4, vi x5, vf x6]))⟩, ⟨true, (some (.tab sc0 x7))⟩], 2, []⟩), ((Nat.beq p 1), .exit 0, [vp 0, anyV], ⟨[⟨true, (some (.cells [wsl 1, vf x2, vf x3, .int .i8 x4, vi x5, vf x6]))⟩, ⟨true, (some (.tab sc0 x7))⟩], 2, []⟩)].map fun (b, x) => (b, (x.1, frameOf 58 [1, 2] x.2.1, x.2.2))) some
theorem v72l0 (x0 x1 : Int) (x2 x3 : Nat) (x4 x5 : Int) (x6 : Nat) (x7 : List (List Int)) (p : Nat) : u72l0 x0 x1 x2 x3 x4 x5 x6 x7 p = a72l0 x0 x1 x2 x3 x4 x5 x6 x7 p := alts_first _
noncomputable def q72l0 (m : Nat) : SumK := fun vals s =>
 match vals, s.h with
 | [.pointer (some ⟨f0, f1, some f2⟩), .iface f3 .nilIface, .int .i64 x0, .int .i64 x1], [⟨true, some (.cells [.iface f4 .nilIface, .float .f32 x2, .float .f32 x3, .int .i8 x4, .int .i64 x5, .float .f32 x6])⟩, ⟨true, some (.tab [.fl .f32, .fl .f32, .fl .f32, .fl .f32, .fl .f32, .fl .f32, .fl .f32, .fl .f32, .fl .f32, .fl .f32, .fl .f32, .fl .f32, .fl .f32, .fl .f32, .fl .f32, .fl .f32, .fl .f32, .fl .f32] x7)⟩] => if f0 = 0 ∧ f1 = 0 ∧ f2 = 0 ∧ f3 = 1 ∧ f4 = 1 then [((Nat.beq (r72l0 m x0 x1 x2 x3 x4 x5 x6 x7) 0), .ret, [vp 0, .bool false], ⟨[⟨true, (some (.cells [wsl 1, vf x2, vf x3, .int .i8 x4, vi x5, vf x6]))⟩, ⟨true, (some (.tab sc0 x7))⟩], 2, []⟩), ((Nat.beq (r72l0 m x0 x1 x2 x3 x4 x5 x6 x7) 1), .exit 0, [vp 0, anyV], ⟨[⟨true, (some (.cells [wsl 1, vf x2, vf x3, .int .i8 x4, vi x5, vf x6]))⟩, ⟨true, (some (.tab sc0 x7))⟩], 2, []⟩)] else noQ vals s
 | _, _ => noQ vals s
noncomputable def w72l0 (ih : Int → Int → Nat → Nat → Int → Int → Nat → List (List Int) → Nat) (x0 x1 : Int) (x2 x3 : Nat) (x4 x5 : Int) (x6 : Nat) (x7 : List (List Int)) : Option (Fin' × List Value × St) :=
 let c272 := (r14 (Int.toNat ((x7.getD (Int.toNat x1) []).getD 0 0)) (Int.toNat ((x7.getD (Int.toNat x1) []).getD 1 0)) (Int.toNat ((x7.getD (Int.toNat x1) []).getD 2 0)) (Int.toNat ((x7.getD (Int.toNat x1) []).getD 3 0)) (Int.toNat ((x7.getD (Int.toNat x1) []).getD 4 0)) (Int.toNat ((x7.getD (Int.toNat x1) []).getD 5 0)) (Int.toNat ((x7.getD (Int.toNat x1) []).getD 6 0)) (Int.toNat ((x7.getD (Int.toNat x1) []).getD 7 0)) (Int.toNat ((x7.getD (Int.toNat x1) []).getD 8 0)) (Int.toNat ((x7.getD (Int.toNat x1) []).getD 9 0)) (Int.toNat ((x7.getD (Int.toNat x1) []).getD 10 0)) (Int.toNat ((x7.getD (Int.toNat x1) []).getD 11 0)) (Int.toNat ((x7.getD (Int.toNat x1) []).getD 12 0)) (Int.toNat ((x7.getD (Int.toNat x1) []).getD 13 0)) (Int.toNat ((x7.getD (Int.toNat x1) []).getD 14 0)) (Int.toNat ((x7.getD (Int.toNat x1) []).getD 15 0)) (Int.toNat ((x7.getD (Int.toNat x1) []).getD 16 0)) (Int.toNat ((x7.getD (Int.toNat x1) []).getD 17 0)))
 (cond (decide ((x1 : Int) < x0))
 (cond ((decide ((0 : Int) ≤ x1)) && (Nat.blt (Int.toNat x1) x7.length)) (cond (Nat.blt (Int.toNat x1) x7.length) (cond (!c272) (a72l0 x0 x1 x2 x3 x4 x5 x6 x7 (0)) (u72l0 x0 x1 x2 x3 x4 x5 x6 x7 (ih x0 (IntKind.i64.wrap (x1 + 1)) x2 x3 x4 x5 x6 x7))) none) none)
 (a72l0 x0 x1 x2 x3 x4 x5 x6 x7 (1)))
set_option maxRecDepth 100000 in
set_option maxHeartbeats 4000000 in
theorem e72l0 (m : Nat) (x0 x1 : Int) (x2 x3 : Nat) (x4 x5 : Int) (x6 : Nat) (x7 : List (List Int)) : evC Tryz.prog ext T39 noL 200 (loopN Tryz.f72 0) (loopTail ([1, 10, 11, 12], []) [1, 2] [] (sumK 58 [1, 10, 11, 12] [1, 2] (q72l0 m))) (frameOf 58 [1, 10, 11, 12] [vp 0, wsl 1, vi x0, vi x1]) ⟨[⟨true, (some (.cells [wsl 1, vf x2, vf x3, .int .i8 x4, vi x5, vf x6]))⟩, ⟨true, (some (.tab sc0 x7))⟩], 2, []⟩ = firstT ([((Nat.beq (r72l0 (m + 1) x0 x1 x2 x3 x4 x5 x6 x7) 0), .ret, [vp 0, .bool false], ⟨[⟨true, (some (.cells [wsl 1, vf x2, vf x3, .int .i8 x4, vi x5, vf x6]))⟩, ⟨true, (some (.tab sc0 x7))⟩], 2, []⟩), ((Nat.beq (r72l0 (m + 1) x0 x1 x2 x3 x4 x5 x6 x7) 1), .exit 0, [vp 0, anyV], ⟨[⟨true, (some (.cells [wsl 1, vf x2, vf x3, .int .i8 x4, vi x5, vf x6]))⟩, ⟨true, (some (.tab sc0 x7))⟩], 2, []⟩)].map fun (b, x) => (b, (x.1, frameOf 58 [1, 2] x.2.1, x.2.2))) :=
 (show _ = w72l0 (r72l0 m) x0 x1 x2 x3 x4 x5 x6 x7 from by kernel_rfl).trans
 (show w72l0 (r72l0 m) x0 x1 x2 x3 x4 x5 x6 x7 = a72l0 x0 x1 x2 x3 x4 x5 x6 x7 (r72l0 (m + 1) x0 x1 x2 x3 x4 x5 x6 x7) from by unfold w72l0; show _ = a72l0 x0 x1 x2 x3 x4 x5 x6 x7 (b72l0 (r72l0 m) x0 x1 x2 x3 x4 x5 x6 x7); unfold b72l0; exact (cond_both (a72l0 x0 x1 x2 x3 x4 x5 x6 x7) _ (fun h0 => (cond_both (a72l0 x0 x1 x2 x3 x4 x5 x6 x7) _ (fun h1 => (cond_t (ev_and2 h1) (cond_app (a72l0 x0 x1 x2 x3 x4 x5 x6 x7) _ rfl (v72l0 x0 x1 x2 x3 x4 x5 x6 x7 ((r72l0 m) x0 (IntKind.i64.wrap (x1 + 1)) x2 x3 x4 x5 x6 x7))))) (fun h1 => rfl))) (fun h0 => rfl)))
set_option maxRecDepth 100000 in
set_option maxHeartbeats 4000000 in
theorem qm72l0 : ∀ m, SumKOk Tryz.prog (loopN Tryz.f72 0) 58 [1, 10, 11, 12] [1, 2] (q72l0 m) := by
  intro m
  induction m with
  | zero =>
    intro vals s x h1 h2 h3
    unfold q72l0 at h3; split at h3
    · rename_i h; split at h3
      · rename_i hc; obtain ⟨rfl, rfl, rfl, rfl, rfl⟩ := hc; exact absurd h3 (by simp [r72l0, firstT, Nat.beq])
      · exact noQ_ok _ _ _ h1 h2 h3
    · exact noQ_ok _ _ _ h1 h2 h3
  | succ m ih =>
    intro vals s x h1 h2 h3
    unfold q72l0 at h3; split at h3
    · rename_i h; split at h3
      · rename_i hc; obtain ⟨rfl, rfl, rfl, rfl, rfl⟩ := hc; exact sum_step ok39 extOk mixed ((lfOkF_no _ _).inner (by kernel_rfl)) ih h1 h2 h (e72l0 m _ _ _ _ _ _ _ _) rfl h3
      · exact noQ_ok _ _ _ h1 h2 h3
    · exact noQ_ok _ _ _ h1 h2 h3
noncomputable def Q72l0 : SumK := fun vals s => q72l0 (fuelOf vals s.h) vals s
theorem qok72l0 : SumKOk Tryz.prog (loopN Tryz.f72 0) 58 [1, 10, 11, 12] [1, 2] Q72l0 := fuel_ok qm72l0 fuelOf
noncomputable def L72_1 : LoopT := addL noL 5 ([1, 10, 11, 12], []) (sumK 58 [1, 10, 11, 12] [1, 2] Q72l0)
theorem lok72_1 : LfOkF Tryz.prog L72_1 Tryz.f72 := lfOkF_add (lfOkF_no _ _) qok72l0 (by kernel_rfl) (by kernel_rfl) (by kernel_rfl)

/-- impl.IsShare -/
noncomputable def w17 {α : Type} (x0 : Nat) (k : Bool → α) : α :=
 cond (r19 x0) (k ((flt .f32 x0 1065353216 || feq .f32 x0 1065353216))) (k (false))
noncomputable def r17 (x0 : Nat) : Bool := w17 x0 (fun p => p)
noncomputable def g17 (x0 : Nat) (p : Bool) : List (Bool × Value × St) := [(true, .bool p, st0)]
theorem p17 {α : Type} (x0 : Nat) (f : Bool → α) : w17 x0 f = f (w17 x0 (fun p => p)) := by unfold w17; exact (cond_app f _ rfl rfl)
set_option maxRecDepth 100000 in
set_option maxHeartbeats 4000000 in
theorem e17 (x0 : Nat) : evFn Tryz.prog ext T39 noL 200 Tryz.f17 [vf x0] st0 = firstT (g17 x0 (r17 x0)) :=
 Eq.trans (by kernel_rfl) (p17 x0 (fun p => firstT (g17 x0 p)))
noncomputable def s17 (args : List Value) (s : St) : List (Bool × Value × St) :=
 match args, s.h with
 | [.float .f32 x0], [] => (g17 x0 (r17 x0))
 | _, _ => T39 17 args s
noncomputable def T40 : CallF := addF T39 17 s17
set_option maxRecDepth 100000 in
set_option maxHeartbeats 4000000 in
theorem ok40 : CfOk Tryz.prog T40 := by
  refine cfOk_add ok39 fun args s r s' h1 h2 h3 => ?_
  unfold s17 at h3; split at h3
  · rename_i h; exact callOk ok39 Tryz.func17 h1 h2 h (lfOkF_no _ _).body (e17 _) rfl h3
  · exact ok39 _ _ _ _ _ h1 h2 h3

/-- impl.ValidStove -/
noncomputable def w72 {α : Type} (x0 x1 : Nat) (x2 x3 : Int) (x4 : Nat) (x5 : List (List Int)) (k : (Nat × Bool) → α) : α :=
 let c273 := (r72l0 (1000 + x5.length) ((x5.length : Nat) : Int) 0 x0 x1 x2 x3 x4 x5)
 cond (decide ((((x5.length : Nat) : Int) : Int) > 6)) (k (0, false)) (cond (Nat.beq c273 0) (k (0, false)) (cond (Nat.beq c273 1) (cond (r53 x0 3262119936 1153138688) (cond (r17 x1) (cond (decide ((x2 : Int) ≥ 0)) (cond (decide ((x2 : Int) ≤ 3)) (cond (decide ((x3 : Int) ≥ 0)) (cond (decide ((x3 : Int) ≤ 1000000)) (cond (r19 x4) (k (0, (flt .f32 x4 1065353216))) (k (0, false))) (k (0, false))) (k (0, false))) (k (0, false))) (k (0, false))) (k (0, false))) (k (0, false))) (k (1, false))))
noncomputable def r72 (x0 x1 : Nat) (x2 x3 : Int) (x4 : Nat) (x5 : List (List Int)) : Nat × Bool := w72 x0 x1 x2 x3 x4 x5 (fun p => p)
noncomputable def g72 (x0 x1 : Nat) (x2 x3 : Int) (x4 : Nat) (x5 : List (List Int)) (p : Nat × Bool) : List (Bool × Value × St) := [((Nat.beq (p.1) 0), .bool (p.2), ⟨[⟨true, (some (.tab sc0 x5))⟩], 1, []⟩)]
theorem p72 {α : Type} (x0 x1 : Nat) (x2 x3 : Int) (x4 : Nat) (x5 : List (List Int)) (f : (Nat × Bool) → α) : w72 x0 x1 x2 x3 x4 x5 f = f (w72 x0 x1 x2 x3 x4 x5 (fun p => p)) := by unfold w72; repeat' (first | refine cond_app f _ ?_ ?_ | rfl)
set_option maxRecDepth 100000 in
set_option maxHeartbeats 4000000 in
theorem e72 (x0 x1 : Nat) (x2 x3 : Int) (x4 : Nat) (x5 : List (List Int)) : evFn Tryz.prog ext T40 L72_1 200 Tryz.f72 [.agg #[wsl 0, vf x0, vf x1, .int .i8 x2, vi x3, vf x4]] ⟨[⟨true, (some (.tab sc0 x5))⟩], 1, []⟩ = firstT (g72 x0 x1 x2 x3 x4 x5 (r72 x0 x1 x2 x3 x4 x5)) :=
 Eq.trans (by kernel_rfl) (p72 x0 x1 x2 x3 x4 x5 (fun p => firstT (g72 x0 x1 x2 x3 x4 x5 p)))
noncomputable def s72 (args : List Value) (s : St) : List (Bool × Value × St) :=
 match args, s.h with
 | [.agg ⟨[.iface f0 .nilIface, .float .f32 x0, .float .f32 x1, .int .i8 x2, .int .i64 x3, .float .f32 x4]⟩], [⟨true, some (.tab [.fl .f32, .fl .f32, .fl .f32, .fl .f32, .fl .f32, .fl .f32, .fl .f32, .fl .f32, .fl .f32, .fl .f32, .fl .f32, .fl .f32, .fl .f32, .fl .f32, .fl .f32, .fl .f32, .fl .f32, .fl .f32] x5)⟩] => if f0 = 0 then (g72 x0 x1 x2 x3 x4 x5 (r72 x0 x1 x2 x3 x4 x5)) else T40 72 args s
 | _, _ => T40 72 args s
noncomputable def T41 : CallF := addF T40 72 s72
set_option maxRecDepth 100000 in
set_option maxHeartbeats 4000000 in
theorem ok41 : CfOk Tryz.prog T41 := by
  refine cfOk_add ok40 fun args s r s' h1 h2 h3 => ?_
  unfold s72 at h3; split at h3
  · rename_i h; split at h3
    · rename_i hc; obtain ⟨rfl⟩ := hc; exact callOk ok40 Tryz.func72 h1 h2 h lok72_1.body (e72 _ _ _ _ _ _) rfl h3
    · exact ok40 _ _ _ _ _ h1 h2 h3
  · exact ok40 _ _ _ _ _ h1 h2 h3

/-- impl.StateName -/
noncomputable def w102 {α : Type} (x0 : Int) (k : (Nat × ByteArray) → α) : α :=
 cond (decide ((x0 : Int) < 0)) (k (0, (ByteArray.mk #[]))) (cond (decide (((IntKind.i64.wrap x0) : Int) ≥ 4)) (k (0, (ByteArray.mk #[]))) (cond ((decide ((0 : Int) ≤ x0)) && (Nat.blt (Int.toNat x0) 4)) (cond (Nat.blt (0 + (Int.toNat x0)) 4) (k (0, (([(ByteArray.mk #[99, 111, 108, 100]), (ByteArray.mk #[107, 105, 110, 100, 108, 101, 100]), (ByteArray.mk #[98, 117, 114, 110, 105, 110, 103]), (ByteArray.mk #[101, 109, 98, 101, 114, 115])] : List ByteArray).getD (0 + (Int.toNat x0)) .empty))) (k (1, ByteArray.empty))) (k (1, ByteArray.empty))))
noncomputable def r102 (x0 : Int) : Nat × ByteArray := w102 x0 (fun p => p)
noncomputable def g102 (x0 : Int) (p : Nat × ByteArray) : List (Bool × Value × St) := [((Nat.beq (p.1) 0), .string (p.2), st0)]
theorem p102 {α : Type} (x0 : Int) (f : (Nat × ByteArray) → α) : w102 x0 f = f (w102 x0 (fun p => p)) := by unfold w102; exact (cond_app f _ rfl (cond_app f _ rfl (cond_app f _ (cond_app f _ rfl rfl) rfl)))
set_option maxRecDepth 100000 in
set_option maxHeartbeats 4000000 in
theorem e102 (x0 : Int) : evFn Tryz.prog ext T41 noL 200 Tryz.f102 [.int .i8 x0] st0 = firstT (g102 x0 (r102 x0)) :=
 Eq.trans (by kernel_rfl) (p102 x0 (fun p => firstT (g102 x0 p)))
noncomputable def s102 (args : List Value) (s : St) : List (Bool × Value × St) :=
 match args, s.h with
 | [.int .i8 x0], [] => (g102 x0 (r102 x0))
 | _, _ => T41 102 args s
noncomputable def T42 : CallF := addF T41 102 s102
set_option maxRecDepth 100000 in
set_option maxHeartbeats 4000000 in
theorem ok42 : CfOk Tryz.prog T42 := by
  refine cfOk_add ok41 fun args s r s' h1 h2 h3 => ?_
  unfold s102 at h3; split at h3
  · rename_i h; exact callOk ok41 Tryz.func102 h1 h2 h (lfOkF_no _ _).body (e102 _) rfl h3
  · exact ok41 _ _ _ _ _ h1 h2 h3

/-- impl.stoveText, loop 0: one round -/
noncomputable def b73l0 (ih : ByteArray → Int → Int → List (List Int) → (Nat × ByteArray)) (x0 : ByteArray) (x1 x2 : Int) (x3 : List (List Int)) : Nat × ByteArray :=
 let c291 := (r44 (Int.toNat ((x3.getD (Int.toNat x2) []).getD 0 0)) (Int.toNat ((x3.getD (Int.toNat x2) []).getD 1 0)) (Int.toNat ((x3.getD (Int.toNat x2) []).getD 2 0)) (Int.toNat ((x3.getD (Int.toNat x2) []).getD 3 0)) (Int.toNat ((x3.getD (Int.toNat x2) []).getD 4 0)) (Int.toNat ((x3.getD (Int.toNat x2) []).getD 5 0)) (Int.toNat ((x3.getD (Int.toNat x2) []).getD 6 0)) (Int.toNat ((x3.getD (Int.toNat x2) []).getD 7 0)) (Int.toNat ((x3.getD (Int.toNat x2) []).getD 8 0)) (Int.toNat ((x3.getD (Int.toNat x2) []).getD 9 0)) (Int.toNat ((x3.getD (Int.toNat x2) []).getD 10 0)) (Int.toNat ((x3.getD (Int.toNat x2) []).getD 11 0)) (Int.toNat ((x3.getD (Int.toNat x2) []).getD 12 0)) (Int.toNat ((x3.getD (Int.toNat x2) []).getD 13 0)) (Int.toNat ((x3.getD (Int.toNat x2) []).getD 14 0)) (Int.toNat ((x3.getD (Int.toNat x2) []).getD 15 0)) (Int.toNat ((x3.getD (Int.toNat x2) []).getD 16 0)) (Int.toNat ((x3.getD (Int.toNat x2) []).getD 17 0)))
 cond (decide ((x2 : Int) < x1)) (cond ((decide ((0 : Int) ≤ x2)) && (Nat.blt (Int.toNat x2) x3.length)) (cond (Nat.beq (c291.1) 0) (cond (decide ((c291.2).size + 1 ≤ strMax)) (cond (decide (x0.size + ((c291.2) ++ (ByteArray.mk #[10])).size ≤ strMax)) (ih (x0 ++ ((c291.2) ++ (ByteArray.mk #[10]))) x1 (IntKind.i64.wrap (x2 + 1)) x3) (1, ByteArray.empty)) (1, ByteArray.empty)) (1, ByteArray.empty)) (1, ByteArray.empty)) (0, x0)
noncomputable def r73l0 : Nat → ByteArray → Int → Int → List (List Int) → (Nat × ByteArray)
 | 0 => fun _ _ _ _ => (1, ByteArray.empty)
 | m + 1 => b73l0 (r73l0 m)
noncomputable def a73l0 (x0 : ByteArray) (x1 x2 : Int) (x3 : List (List Int)) (p : Nat × ByteArray) : Option (Fin' × List Value × St) := firstT ([((Nat.beq (p.1) 0), .exit 0, [.string (p.2)], ⟨[⟨true, (some (.tab sc0 x3))⟩], 1, []⟩)].map fun (b, x) => (b, (x.1, frameOf 38 [3] x.2.1, x.2.2)))
noncomputable def u73l0 (x0 : ByteArray) (x1 x2 : Int) (x3 : List (List Int)) (p : Nat × ByteArray) : Option (Fin' × List Value × St) := alts ([((Nat.beq (p.1) 0), .exit 0, [.string (p.2)], ⟨[⟨true, (some (.tab sc0 x3))⟩], 1, []⟩)].map fun (b, x) => (b, (x.1, frameOf 38 [3] x.2.1, x.2.2))) some
theorem v73l0 (x0 : ByteArray) (x1 x2 : Int) (x3 : List (List Int)) (p : Nat × ByteArray) : u73l0 x0 x1 x2 x3 p = a73l0 x0 x1 x2 x3 p := alts_first _
noncomputable def q73l0 (m : Nat) : SumK := fun vals s =>
 match vals, s.h with
 | [.string x0, .iface f0 .nilIface, .int .i64 x1, .int .i64 x2], [⟨true, some (.tab [.fl .f32, .fl .f32, .fl .f32, .fl .f32, .fl .f32, .fl .f32, .fl .f32, .fl .f32, .fl .f32, .fl .f32, .fl .f32, .fl .f32, .fl .f32, .fl .f32, .fl .f32, .fl .f32, .fl .f32, .fl .f32] x3)⟩] => if f0 = 0 then [((Nat.beq ((r73l0 m x0 x1 x2 x3).1) 0), .exit 0, [.string ((r73l0 m x0 x1 x2 x3).2)], ⟨[⟨true, (some (.tab sc0 x3))⟩], 1, []⟩)] else noQ vals s
 | _, _ => noQ vals s
noncomputable def w73l0 (ih : ByteArray → Int → Int → List (List Int) → (Nat × ByteArray)) (x0 : ByteArray) (x1 x2 : Int) (x3 : List (List Int)) : Option (Fin' × List Value × St) :=
 let c291 := (r44 (Int.toNat ((x3.getD (Int.toNat x2) []).getD 0 0)) (Int.toNat ((x3.getD (Int.toNat x2) []).getD 1 0)) (Int.toNat ((x3.getD (Int.toNat x2) []).getD 2 0)) (Int.toNat ((x3.getD (Int.toNat x2) []).getD 3 0)) (Int.toNat ((x3.getD (Int.toNat x2) []).getD 4 0)) (Int.toNat ((x3.getD (Int.toNat x2) []).getD 5 0)) (Int.toNat ((x3.getD (Int.toNat x2) []).getD 6 0)) (Int.toNat ((x3.getD (Int.toNat x2) []).getD 7 0)) (Int.toNat ((x3.getD (Int.toNat x2) []).getD 8 0)) (Int.toNat ((x3.getD (Int.toNat x2) []).getD 9 0)) (Int.toNat ((x3.getD (Int.toNat x2) []).getD 10 0)) (Int.toNat ((x3.getD (Int.toNat x2) []).getD 11 0)) (Int.toNat ((x3.getD (Int.toNat x2) []).getD 12 0)) (Int.toNat ((x3.getD (Int.toNat x2) []).getD 13 0)) (Int.toNat ((x3.getD (Int.toNat x2) []).getD 14 0)) (Int.toNat ((x3.getD (Int.toNat x2) []).getD 15 0)) (Int.toNat ((x3.getD (Int.toNat x2) []).getD 16 0)) (Int.toNat ((x3.getD (Int.toNat x2) []).getD 17 0)))
 (cond (decide ((x2 : Int) < x1))
 (cond ((decide ((0 : Int) ≤ x2)) && (Nat.blt (Int.toNat x2) x3.length)) (cond (Nat.blt (Int.toNat x2) x3.length) (cond (Nat.beq (c291.1) 0) (cond (decide ((c291.2).size + 1 ≤ strMax)) (cond (decide (x0.size + ((c291.2) ++ (ByteArray.mk #[10])).size ≤ strMax)) (u73l0 x0 x1 x2 x3 (ih (x0 ++ ((c291.2) ++ (ByteArray.mk #[10]))) x1 (IntKind.i64.wrap (x2 + 1)) x3)) none) none) none) none) none)
 (a73l0 x0 x1 x2 x3 (0, x0)))
set_option maxRecDepth 100000 in
set_option maxHeartbeats 4000000 in
theorem e73l0 (m : Nat) (x0 : ByteArray) (x1 x2 : Int) (x3 : List (List Int)) : evC Tryz.prog ext T42 noL 200 (loopN Tryz.f73 0) (loopTail ([3, 25, 26, 27], []) [3] [] (sumK 38 [3, 25, 26, 27] [3] (q73l0 m))) (frameOf 38 [3, 25, 26, 27] [.string x0, wsl 0, vi x1, vi x2]) ⟨[⟨true, (some (.tab sc0 x3))⟩], 1, []⟩ = firstT ([((Nat.beq ((r73l0 (m + 1) x0 x1 x2 x3).1) 0), .exit 0, [.string ((r73l0 (m + 1) x0 x1 x2 x3).2)], ⟨[⟨true, (some (.tab sc0 x3))⟩], 1, []⟩)].map fun (b, x) => (b, (x.1, frameOf 38 [3] x.2.1, x.2.2))) :=
 (show _ = w73l0 (r73l0 m) x0 x1 x2 x3 from by kernel_rfl).trans
 (show w73l0 (r73l0 m) x0 x1 x2 x3 = a73l0 x0 x1 x2 x3 (r73l0 (m + 1) x0 x1 x2 x3) from by unfold w73l0; show _ = a73l0 x0 x1 x2 x3 (b73l0 (r73l0 m) x0 x1 x2 x3); unfold b73l0; exact (cond_both (a73l0 x0 x1 x2 x3) _ (fun h0 => (cond_both (a73l0 x0 x1 x2 x3) _ (fun h1 => (cond_t (ev_and2 h1) (cond_app (a73l0 x0 x1 x2 x3) _ (cond_app (a73l0 x0 x1 x2 x3) _ (cond_app (a73l0 x0 x1 x2 x3) _ (v73l0 x0 x1 x2 x3 ((r73l0 m) (x0 ++ (((r44 (Int.toNat ((x3.getD (Int.toNat x2) []).getD 0 0)) (Int.toNat ((x3.getD (Int.toNat x2) []).getD 1 0)) (Int.toNat ((x3.getD (Int.toNat x2) []).getD 2 0)) (Int.toNat ((x3.getD (Int.toNat x2) []).getD 3 0)) (Int.toNat ((x3.getD (Int.toNat x2) []).getD 4 0)) (Int.toNat ((x3.getD (Int.toNat x2) []).getD 5 0)) (Int.toNat ((x3.getD (Int.toNat x2) []).getD 6 0)) (Int.toNat ((x3.getD (Int.toNat x2) []).getD 7 0)) (Int.toNat ((x3.getD (Int.toNat x2) []).getD 8 0)) (Int.toNat ((x3.getD (Int.toNat x2) []).getD 9 0)) (Int.toNat ((x3.getD (Int.toNat x2) []).getD 10 0)) (Int.toNat ((x3.getD (Int.toNat x2) []).getD 11 0)) (Int.toNat ((x3.getD (Int.toNat x2) []).getD 12 0)) (Int.toNat ((x3.getD (Int.toNat x2) []).getD 13 0)) (Int.toNat ((x3.getD (Int.toNat x2) []).getD 14 0)) (Int.toNat ((x3.getD (Int.toNat x2) []).getD 15 0)) (Int.toNat ((x3.getD (Int.toNat x2) []).getD 16 0)) (Int.toNat ((x3.getD (Int.toNat x2) []).getD 17 0))).2) ++ (ByteArray.mk #[10]))) x1 (IntKind.i64.wrap (x2 + 1)) x3)) rfl) rfl) rfl))) (fun h1 => rfl))) (fun h0 => rfl)))
set_option maxRecDepth 100000 in
set_option maxHeartbeats 4000000 in
theorem qm73l0 : ∀ m, SumKOk Tryz.prog (loopN Tryz.f73 0) 38 [3, 25, 26, 27] [3] (q73l0 m) := by
  intro m
  induction m with
  | zero =>
    intro vals s x h1 h2 h3
    unfold q73l0 at h3; split at h3
    · rename_i h; split at h3
      · rename_i hc; obtain ⟨rfl⟩ := hc; exact absurd h3 (by simp [r73l0, firstT, Nat.beq])
      · exact noQ_ok _ _ _ h1 h2 h3
    · exact noQ_ok _ _ _ h1 h2 h3
  | succ m ih =>
    intro vals s x h1 h2 h3
    unfold q73l0 at h3; split at h3
    · rename_i h; split at h3
      · rename_i hc; obtain ⟨rfl⟩ := hc; exact sum_step ok42 extOk mixed ((lfOkF_no _ _).inner (by kernel_rfl)) ih h1 h2 h (e73l0 m _ _ _ _) rfl h3
      · exact noQ_ok _ _ _ h1 h2 h3
    · exact noQ_ok _ _ _ h1 h2 h3
noncomputable def Q73l0 : SumK := fun vals s => q73l0 (fuelOf vals s.h) vals s
theorem qok73l0 : SumKOk Tryz.prog (loopN Tryz.f73 0) 38 [3, 25, 26, 27] [3] Q73l0 := fuel_ok qm73l0 fuelOf
noncomputable def L73_1 : LoopT := addL noL 4 ([3, 25, 26, 27], []) (sumK 38 [3, 25, 26, 27] [3] Q73l0)
theorem lok73_1 : LfOkF Tryz.prog L73_1 Tryz.f73 := lfOkF_add (lfOkF_no _ _) qok73l0 (by kernel_rfl) (by kernel_rfl) (by kernel_rfl)
end Go.Proofs.YtbmagccjcccnaaaGreatDoor
