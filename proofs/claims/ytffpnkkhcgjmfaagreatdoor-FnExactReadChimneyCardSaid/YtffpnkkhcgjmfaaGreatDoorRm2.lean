/- What the functions that the statements reach answer, part 2. -/
import Derived.Test.YtffpnkkhcgjmfaaGreatDoorRm1
namespace Go.Proofs.YtffpnkkhcgjmfaaGreatDoor
open Go.Ab
set_option maxHeartbeats 4000000
set_option maxRecDepth 100000

/-- impl.IsShare -/
noncomputable def w92 {α : Type} (x0 : Nat) (k : Bool → α) : α :=
 cond (r91 x0)
  (k ((flt .f32 x0 1065353216 || feq .f32 x0 1065353216)))
  (k (false))
noncomputable def r92 (x0 : Nat) : Bool := w92 x0 (fun p => p)
noncomputable def g92 (x0 : Nat) (p : Bool) : List (Bool × Value × St) := [(true, .bool p, st0)]
theorem p92 {α : Type} (x0 : Nat) (f : Bool → α) : w92 x0 f = f (w92 x0 (fun p => p)) := by unfold w92; exact (cond_app f _ rfl rfl)
set_option maxRecDepth 100000 in
set_option maxHeartbeats 4000000 in
theorem e92 (x0 : Nat) : evFn Tryz.prog ext T21 noL 200 Tryz.f92 [vf x0] st0 = firstT (g92 x0 (r92 x0)) :=
 Eq.trans (by kernel_rfl) (p92 x0 (fun p => firstT (g92 x0 p)))
noncomputable def s92 (args : List Value) (s : St) : List (Bool × Value × St) :=
 match args, s.h with
 | [.float .f32 x0], [] => (g92 x0 (r92 x0))
 | _, _ => T21 92 args s
noncomputable def T22 : CallF := addF T21 92 s92
set_option maxRecDepth 100000 in
set_option maxHeartbeats 4000000 in
theorem ok22 : CfOk Tryz.prog T22 := by
  refine cfOk_add ok21 fun args s r s' h1 h2 h3 => ?_
  unfold s92 at h3; split at h3
  · rename_i h; exact callOk ok21 Tryz.func92 h1 h2 h (lfOkF_no _ _).body (e92 _) rfl h3
  · exact ok21 _ _ _ _ _ h1 h2 h3

/-- impl.validFlue -/
noncomputable def w46 {α : Type} (x0 x1 x2 x3 : Nat) (x4 : Int) (k : Bool → α) : α :=
 cond (r91 x0)
  (cond (r48 x0 1031798784 1106247680)
   (cond (r91 x1)
    (cond (r48 x1 1015021568 1082130432)
     (cond (r48 x2 3262119936 1153138688)
      (k ((r92 x3)))
      (k (false)))
     (k (false)))
    (k (false)))
   (k (false)))
  (k (false))
noncomputable def r46 (x0 x1 x2 x3 : Nat) (x4 : Int) : Bool := w46 x0 x1 x2 x3 x4 (fun p => p)
noncomputable def g46 (x0 x1 x2 x3 : Nat) (x4 : Int) (p : Bool) : List (Bool × Value × St) := [(true, .bool p, st0)]
theorem p46 {α : Type} (x0 x1 x2 x3 : Nat) (x4 : Int) (f : Bool → α) : w46 x0 x1 x2 x3 x4 f = f (w46 x0 x1 x2 x3 x4 (fun p => p)) := by unfold w46; repeat' (first | refine cond_app f _ ?_ ?_ | rfl)
set_option maxRecDepth 100000 in
set_option maxHeartbeats 4000000 in
theorem e46 (x0 x1 x2 x3 : Nat) (x4 : Int) : evFn Tryz.prog ext T22 noL 200 Tryz.f46 [.agg #[vf x0, vf x1, vf x2, vf x3, vi x4]] st0 = firstT (g46 x0 x1 x2 x3 x4 (r46 x0 x1 x2 x3 x4)) :=
 Eq.trans (by kernel_rfl) (p46 x0 x1 x2 x3 x4 (fun p => firstT (g46 x0 x1 x2 x3 x4 p)))
noncomputable def s46 (args : List Value) (s : St) : List (Bool × Value × St) :=
 match args, s.h with
 | [.agg ⟨[.float .f32 x0, .float .f32 x1, .float .f32 x2, .float .f32 x3, .int .i64 x4]⟩], [] => (g46 x0 x1 x2 x3 x4 (r46 x0 x1 x2 x3 x4))
 | _, _ => T22 46 args s
noncomputable def T23 : CallF := addF T22 46 s46
set_option maxRecDepth 100000 in
set_option maxHeartbeats 4000000 in
theorem ok23 : CfOk Tryz.prog T23 := by
  refine cfOk_add ok22 fun args s r s' h1 h2 h3 => ?_
  unfold s46 at h3; split at h3
  · rename_i h; exact callOk ok22 Tryz.func46 h1 h2 h (lfOkF_no _ _).body (e46 _ _ _ _ _) rfl h3
  · exact ok22 _ _ _ _ _ h1 h2 h3

/-- impl.ValidChimney, loop 0: one round -/
noncomputable def b16l0 (ih : Int → Int → List (List Int) → Nat) (x0 x1 : Int) (x2 : List (List Int)) : Nat :=
 let c133 := (r46 (Int.toNat ((x2.getD (Int.toNat x1) []).getD 0 0)) (Int.toNat ((x2.getD (Int.toNat x1) []).getD 1 0)) (Int.toNat ((x2.getD (Int.toNat x1) []).getD 2 0)) (Int.toNat ((x2.getD (Int.toNat x1) []).getD 3 0)) ((x2.getD (Int.toNat x1) []).getD 4 0))
 cond (decide ((x1 : Int) < x0))
  (cond ((decide ((0 : Int) ≤ x1)) && (Nat.blt (Int.toNat x1) x2.length))
   (cond (!c133)
    (0)
    (cond ((((x2.getD (Int.toNat x1) []).getD 4 0) : Int) == (-1))
     (ih x0 (IntKind.i64.wrap (x1 + 1)) x2)
     (cond (decide ((((x2.getD (Int.toNat x1) []).getD 4 0) : Int) < 0))
      (0)
      (cond (decide ((((x2.getD (Int.toNat x1) []).getD 4 0) : Int) ≥ ((x2.length : Nat) : Int)))
       (0)
       (cond ((((x2.getD (Int.toNat x1) []).getD 4 0) : Int) == x1)
        (0)
        (cond ((decide ((0 : Int) ≤ ((x2.getD (Int.toNat x1) []).getD 4 0))) && (Nat.blt (Int.toNat ((x2.getD (Int.toNat x1) []).getD 4 0)) x2.length))
         (cond ((((x2.getD (Int.toNat ((x2.getD (Int.toNat x1) []).getD 4 0)) []).getD 4 0) : Int) != (-1))
          (0)
          (ih x0 (IntKind.i64.wrap (x1 + 1)) x2))
         (2)))))))
   (2))
  (1)
noncomputable def r16l0 : Nat → Int → Int → List (List Int) → Nat
 | 0 => fun _ _ _ => (2)
 | m + 1 => b16l0 (r16l0 m)
noncomputable def a16l0 (x0 x1 : Int) (x2 : List (List Int)) (p : Nat) : Option (Fin' × List Value × St) := firstT ([((Nat.beq p 0), .ret, [.bool false], ⟨[⟨true, (some (.tab sc0 x2))⟩], 1, []⟩), ((Nat.beq p 1), .exit 0, [anyV], ⟨[⟨true, (some (.tab sc0 x2))⟩], 1, []⟩)].map fun (b, x) => (b, (x.1, frameOf 52 [2] x.2.1, x.2.2)))
noncomputable def u16l0 (x0 x1 : Int) (x2 : List (List Int)) (p : Nat) : Option (Fin' × List Value × St) := alts ([((Nat.beq p 0), .ret, [.bool false], ⟨[⟨true, (some (.tab sc0 x2))⟩], 1, []⟩), ((Nat.beq p 1), .exit 0, [anyV], ⟨[⟨true, (some (.tab sc0 x2))⟩], 1, []⟩)].map fun (b, x) => (b, (x.1, frameOf 52 [2] x.2.1, x.2.2))) some
theorem v16l0 (x0 x1 : Int) (x2 : List (List Int)) (p : Nat) : u16l0 x0 x1 x2 p = a16l0 x0 x1 x2 p := alts_first _
noncomputable def q16l0 (m : Nat) : SumK := fun vals s =>
 match vals, s.h with
 | [.iface f0 .nilIface, .iface f1 .nilIface, .int .i64 x0, .int .i64 x1], [⟨true, some (.tab [.fl .f32, .fl .f32, .fl .f32, .fl .f32, .int .i64] x2)⟩] => if f0 = 0 ∧ f1 = 0 then [((Nat.beq (r16l0 m x0 x1 x2) 0), .ret, [.bool false], ⟨[⟨true, (some (.tab sc0 x2))⟩], 1, []⟩), ((Nat.beq (r16l0 m x0 x1 x2) 1), .exit 0, [anyV], ⟨[⟨true, (some (.tab sc0 x2))⟩], 1, []⟩)] else noQ vals s
 | _, _ => noQ vals s
noncomputable def w16l0 (ih : Int → Int → List (List Int) → Nat) (x0 x1 : Int) (x2 : List (List Int)) : Option (Fin' × List Value × St) :=
 let c133 := (r46 (Int.toNat ((x2.getD (Int.toNat x1) []).getD 0 0)) (Int.toNat ((x2.getD (Int.toNat x1) []).getD 1 0)) (Int.toNat ((x2.getD (Int.toNat x1) []).getD 2 0)) (Int.toNat ((x2.getD (Int.toNat x1) []).getD 3 0)) ((x2.getD (Int.toNat x1) []).getD 4 0))
 (cond (decide ((x1 : Int) < x0))
 (cond ((decide ((0 : Int) ≤ x1)) && (Nat.blt (Int.toNat x1) x2.length))
  (cond (Nat.blt (Int.toNat x1) x2.length)
   (cond (!c133)
    (a16l0 x0 x1 x2 (0))
    (cond ((((x2.getD (Int.toNat x1) []).getD 4 0) : Int) == (-1))
     (u16l0 x0 x1 x2 (ih x0 (IntKind.i64.wrap (x1 + 1)) x2))
     (cond (decide ((((x2.getD (Int.toNat x1) []).getD 4 0) : Int) < 0))
      (a16l0 x0 x1 x2 (0))
      (cond (decide ((((x2.getD (Int.toNat x1) []).getD 4 0) : Int) ≥ ((x2.length : Nat) : Int)))
       (a16l0 x0 x1 x2 (0))
       (cond ((((x2.getD (Int.toNat x1) []).getD 4 0) : Int) == x1)
        (a16l0 x0 x1 x2 (0))
        (cond ((decide ((0 : Int) ≤ ((x2.getD (Int.toNat x1) []).getD 4 0))) && (Nat.blt (Int.toNat ((x2.getD (Int.toNat x1) []).getD 4 0)) x2.length))
         (cond (Nat.blt (Int.toNat ((x2.getD (Int.toNat x1) []).getD 4 0)) x2.length)
          (cond ((((x2.getD (Int.toNat ((x2.getD (Int.toNat x1) []).getD 4 0)) []).getD 4 0) : Int) != (-1))
           (a16l0 x0 x1 x2 (0))
           (u16l0 x0 x1 x2 (ih x0 (IntKind.i64.wrap (x1 + 1)) x2)))
          none)
         none))))))
   none)
  none)
 (a16l0 x0 x1 x2 (1)))
set_option maxRecDepth 100000 in
set_option maxHeartbeats 4000000 in
theorem e16l0 (m : Nat) (x0 x1 : Int) (x2 : List (List Int)) : evC Tryz.prog ext T23 noL 200 (loopN Tryz.f16 0) (loopTail ([0, 13, 14, 15], []) [2] [] (sumK 52 [0, 13, 14, 15] [2] (q16l0 m))) (frameOf 52 [0, 13, 14, 15] [wsl 0, wsl 0, vi x0, vi x1]) ⟨[⟨true, (some (.tab sc0 x2))⟩], 1, []⟩ = firstT ([((Nat.beq (r16l0 (m + 1) x0 x1 x2) 0), .ret, [.bool false], ⟨[⟨true, (some (.tab sc0 x2))⟩], 1, []⟩), ((Nat.beq (r16l0 (m + 1) x0 x1 x2) 1), .exit 0, [anyV], ⟨[⟨true, (some (.tab sc0 x2))⟩], 1, []⟩)].map fun (b, x) => (b, (x.1, frameOf 52 [2] x.2.1, x.2.2))) :=
 (show evC Tryz.prog ext T23 noL 200 (loopN Tryz.f16 0) (loopTail ([0, 13, 14, 15], []) [2] [] (sumK 52 [0, 13, 14, 15] [2] (q16l0 m))) (frameOf 52 [0, 13, 14, 15] [wsl 0, wsl 0, vi x0, vi x1]) ⟨[⟨true, (some (.tab sc0 x2))⟩], 1, []⟩ = w16l0 (r16l0 m) x0 x1 x2 from by kernel_rfl).trans
 (show w16l0 (r16l0 m) x0 x1 x2 = a16l0 x0 x1 x2 (r16l0 (m + 1) x0 x1 x2) from by unfold w16l0; show _ = a16l0 x0 x1 x2 (b16l0 (r16l0 m) x0 x1 x2); unfold b16l0; exact (cond_both (a16l0 x0 x1 x2) _ (fun h0 => (cond_both (a16l0 x0 x1 x2) _ (fun h1 => (cond_t (ev_and2 h1) (cond_both (a16l0 x0 x1 x2) _ (fun h2 => rfl) (fun h2 => (cond_both (a16l0 x0 x1 x2) _ (fun h3 => (v16l0 x0 x1 x2 ((r16l0 m) x0 (IntKind.i64.wrap (x1 + 1)) x2))) (fun h3 => (cond_both (a16l0 x0 x1 x2) _ (fun h4 => rfl) (fun h4 => (cond_both (a16l0 x0 x1 x2) _ (fun h5 => rfl) (fun h5 => (cond_both (a16l0 x0 x1 x2) _ (fun h6 => rfl) (fun h6 => (cond_both (a16l0 x0 x1 x2) _ (fun h7 => (cond_t (ev_and2 h7) (cond_app (a16l0 x0 x1 x2) _ rfl (v16l0 x0 x1 x2 ((r16l0 m) x0 (IntKind.i64.wrap (x1 + 1)) x2))))) (fun h7 => rfl)))))))))))))) (fun h1 => rfl))) (fun h0 => rfl)))
set_option maxRecDepth 100000 in
set_option maxHeartbeats 4000000 in
theorem qm16l0 : ∀ m, SumKOk Tryz.prog (loopN Tryz.f16 0) 52 [0, 13, 14, 15] [2] (q16l0 m) := by
  intro m
  induction m with
  | zero =>
    intro vals s x h1 h2 h3
    unfold q16l0 at h3; split at h3
    · rename_i h; split at h3
      · rename_i hc; obtain ⟨rfl, rfl⟩ := hc; exact absurd h3 (by simp [r16l0, firstT, Nat.beq])
      · exact noQ_ok _ _ _ h1 h2 h3
    · exact noQ_ok _ _ _ h1 h2 h3
  | succ m ih =>
    intro vals s x h1 h2 h3
    unfold q16l0 at h3; split at h3
    · rename_i h; split at h3
      · rename_i hc; obtain ⟨rfl, rfl⟩ := hc; exact sum_step ok23 extOk mixed ((lfOkF_no _ _).inner (by kernel_rfl)) ih h1 h2 h (e16l0 m _ _ _) rfl h3
      · exact noQ_ok _ _ _ h1 h2 h3
    · exact noQ_ok _ _ _ h1 h2 h3
noncomputable def Q16l0 : SumK := fun vals s => q16l0 (fuelOf vals s.h) vals s
theorem qok16l0 : SumKOk Tryz.prog (loopN Tryz.f16 0) 52 [0, 13, 14, 15] [2] Q16l0 := fuel_ok qm16l0 fuelOf
noncomputable def L16_1 : LoopT := addL noL 5 ([0, 13, 14, 15], []) (sumK 52 [0, 13, 14, 15] [2] Q16l0)
theorem lok16_1 : LfOkF Tryz.prog L16_1 Tryz.f16 := lfOkF_add (lfOkF_no _ _) qok16l0 (by kernel_rfl) (by kernel_rfl) (by kernel_rfl)

/-- impl.ValidChimney -/
noncomputable def w16 {α : Type} (x0 : List (List Int)) (k : (Nat × Bool) → α) : α :=
 let c134 := (r16l0 (1000 + x0.length) ((x0.length : Nat) : Int) 0 x0)
 cond (decide ((((x0.length : Nat) : Int) : Int) < 1))
  (k (0, false))
  (cond (decide ((((x0.length : Nat) : Int) : Int) > 6))
   (k (0, false))
   (cond (Nat.beq c134 0)
    (k (0, false))
    (cond (Nat.beq c134 1)
     (k (0, true))
     (k (1, false)))))
noncomputable def r16 (x0 : List (List Int)) : Nat × Bool := w16 x0 (fun p => p)
noncomputable def g16 (x0 : List (List Int)) (p : Nat × Bool) : List (Bool × Value × St) := [((Nat.beq (p.1) 0), .bool (p.2), ⟨[⟨true, (some (.tab sc0 x0))⟩], 1, []⟩)]
theorem p16 {α : Type} (x0 : List (List Int)) (f : (Nat × Bool) → α) : w16 x0 f = f (w16 x0 (fun p => p)) := by unfold w16; exact (cond_app f _ rfl (cond_app f _ rfl (cond_app f _ rfl (cond_app f _ rfl rfl))))
set_option maxRecDepth 100000 in
set_option maxHeartbeats 4000000 in
theorem e16 (x0 : List (List Int)) : evFn Tryz.prog ext T23 L16_1 200 Tryz.f16 [wsl 0] ⟨[⟨true, (some (.tab sc0 x0))⟩], 1, []⟩ = firstT (g16 x0 (r16 x0)) :=
 Eq.trans (by kernel_rfl) (p16 x0 (fun p => firstT (g16 x0 p)))
noncomputable def s16 (args : List Value) (s : St) : List (Bool × Value × St) :=
 match args, s.h with
 | [.iface f0 .nilIface], [⟨true, some (.tab [.fl .f32, .fl .f32, .fl .f32, .fl .f32, .int .i64] x0)⟩] => if f0 = 0 then (g16 x0 (r16 x0)) else T23 16 args s
 | _, _ => T23 16 args s
noncomputable def T24 : CallF := addF T23 16 s16
set_option maxRecDepth 100000 in
set_option maxHeartbeats 4000000 in
theorem ok24 : CfOk Tryz.prog T24 := by
  refine cfOk_add ok23 fun args s r s' h1 h2 h3 => ?_
  unfold s16 at h3; split at h3
  · rename_i h; split at h3
    · rename_i hc; obtain ⟨rfl⟩ := hc; exact callOk ok23 Tryz.func16 h1 h2 h lok16_1.body (e16 _) rfl h3
    · exact ok23 _ _ _ _ _ h1 h2 h3
  · exact ok23 _ _ _ _ _ h1 h2 h3

/-- impl.hex -/
noncomputable def w125 {α : Type} (x0 : Int) (k : (Nat × ByteArray) → α) : α :=
 cond ((decide ((0 : Int) ≤ (bits .and .u32 (Int.fdiv x0 (2 ^ (min (28 : Int).toNat (IntKind.bits .u32)))) 15))) && (Nat.blt (Int.toNat (bits .and .u32 (Int.fdiv x0 (2 ^ (min (28 : Int).toNat (IntKind.bits .u32)))) 15)) 16))
  (cond ((decide ((0 : Int) ≤ (bits .and .u32 (Int.fdiv x0 (2 ^ (min (24 : Int).toNat (IntKind.bits .u32)))) 15))) && (Nat.blt (Int.toNat (bits .and .u32 (Int.fdiv x0 (2 ^ (min (24 : Int).toNat (IntKind.bits .u32)))) 15)) 16))
   (cond ((decide ((0 : Int) ≤ (bits .and .u32 (Int.fdiv x0 (2 ^ (min (20 : Int).toNat (IntKind.bits .u32)))) 15))) && (Nat.blt (Int.toNat (bits .and .u32 (Int.fdiv x0 (2 ^ (min (20 : Int).toNat (IntKind.bits .u32)))) 15)) 16))
    (cond ((decide ((0 : Int) ≤ (bits .and .u32 (Int.fdiv x0 (2 ^ (min (16 : Int).toNat (IntKind.bits .u32)))) 15))) && (Nat.blt (Int.toNat (bits .and .u32 (Int.fdiv x0 (2 ^ (min (16 : Int).toNat (IntKind.bits .u32)))) 15)) 16))
     (cond ((decide ((0 : Int) ≤ (bits .and .u32 (Int.fdiv x0 (2 ^ (min (12 : Int).toNat (IntKind.bits .u32)))) 15))) && (Nat.blt (Int.toNat (bits .and .u32 (Int.fdiv x0 (2 ^ (min (12 : Int).toNat (IntKind.bits .u32)))) 15)) 16))
      (cond ((decide ((0 : Int) ≤ (bits .and .u32 (Int.fdiv x0 (2 ^ (min (8 : Int).toNat (IntKind.bits .u32)))) 15))) && (Nat.blt (Int.toNat (bits .and .u32 (Int.fdiv x0 (2 ^ (min (8 : Int).toNat (IntKind.bits .u32)))) 15)) 16))
       (cond ((decide ((0 : Int) ≤ (bits .and .u32 (Int.fdiv x0 (2 ^ (min (4 : Int).toNat (IntKind.bits .u32)))) 15))) && (Nat.blt (Int.toNat (bits .and .u32 (Int.fdiv x0 (2 ^ (min (4 : Int).toNat (IntKind.bits .u32)))) 15)) 16))
        (cond ((decide ((0 : Int) ≤ (bits .and .u32 (Int.fdiv x0 (2 ^ (min (0 : Int).toNat (IntKind.bits .u32)))) 15))) && (Nat.blt (Int.toNat (bits .and .u32 (Int.fdiv x0 (2 ^ (min (0 : Int).toNat (IntKind.bits .u32)))) 15)) 16))
         (k (0, (bytesOf ([[((UInt8.toNat (List.getD (ByteArray.data (ByteArray.mk #[48, 49, 50, 51, 52, 53, 54, 55, 56, 57, 97, 98, 99, 100, 101, 102])).toList (Int.toNat (bits .and .u32 (Int.fdiv x0 (2 ^ (min (28 : Int).toNat (IntKind.bits .u32)))) 15)) 0) : Nat) : Int)], [((UInt8.toNat (List.getD (ByteArray.data (ByteArray.mk #[48, 49, 50, 51, 52, 53, 54, 55, 56, 57, 97, 98, 99, 100, 101, 102])).toList (Int.toNat (bits .and .u32 (Int.fdiv x0 (2 ^ (min (24 : Int).toNat (IntKind.bits .u32)))) 15)) 0) : Nat) : Int)], [((UInt8.toNat (List.getD (ByteArray.data (ByteArray.mk #[48, 49, 50, 51, 52, 53, 54, 55, 56, 57, 97, 98, 99, 100, 101, 102])).toList (Int.toNat (bits .and .u32 (Int.fdiv x0 (2 ^ (min (20 : Int).toNat (IntKind.bits .u32)))) 15)) 0) : Nat) : Int)], [((UInt8.toNat (List.getD (ByteArray.data (ByteArray.mk #[48, 49, 50, 51, 52, 53, 54, 55, 56, 57, 97, 98, 99, 100, 101, 102])).toList (Int.toNat (bits .and .u32 (Int.fdiv x0 (2 ^ (min (16 : Int).toNat (IntKind.bits .u32)))) 15)) 0) : Nat) : Int)], [((UInt8.toNat (List.getD (ByteArray.data (ByteArray.mk #[48, 49, 50, 51, 52, 53, 54, 55, 56, 57, 97, 98, 99, 100, 101, 102])).toList (Int.toNat (bits .and .u32 (Int.fdiv x0 (2 ^ (min (12 : Int).toNat (IntKind.bits .u32)))) 15)) 0) : Nat) : Int)], [((UInt8.toNat (List.getD (ByteArray.data (ByteArray.mk #[48, 49, 50, 51, 52, 53, 54, 55, 56, 57, 97, 98, 99, 100, 101, 102])).toList (Int.toNat (bits .and .u32 (Int.fdiv x0 (2 ^ (min (8 : Int).toNat (IntKind.bits .u32)))) 15)) 0) : Nat) : Int)], [((UInt8.toNat (List.getD (ByteArray.data (ByteArray.mk #[48, 49, 50, 51, 52, 53, 54, 55, 56, 57, 97, 98, 99, 100, 101, 102])).toList (Int.toNat (bits .and .u32 (Int.fdiv x0 (2 ^ (min (4 : Int).toNat (IntKind.bits .u32)))) 15)) 0) : Nat) : Int)], [((UInt8.toNat (List.getD (ByteArray.data (ByteArray.mk #[48, 49, 50, 51, 52, 53, 54, 55, 56, 57, 97, 98, 99, 100, 101, 102])).toList (Int.toNat (bits .and .u32 (Int.fdiv x0 (2 ^ (min (0 : Int).toNat (IntKind.bits .u32)))) 15)) 0) : Nat) : Int)]] : List (List Int)))))
         (k (1, ByteArray.empty)))
        (k (1, ByteArray.empty)))
       (k (1, ByteArray.empty)))
      (k (1, ByteArray.empty)))
     (k (1, ByteArray.empty)))
    (k (1, ByteArray.empty)))
   (k (1, ByteArray.empty)))
  (k (1, ByteArray.empty))
noncomputable def r125 (x0 : Int) : Nat × ByteArray := w125 x0 (fun p => p)
noncomputable def g125 (x0 : Int) (p : Nat × ByteArray) : List (Bool × Value × St) := [((Nat.beq (p.1) 0), .string (p.2), st0)]
theorem p125 {α : Type} (x0 : Int) (f : (Nat × ByteArray) → α) : w125 x0 f = f (w125 x0 (fun p => p)) := by unfold w125; repeat' (first | refine cond_app f _ ?_ ?_ | rfl)
set_option maxRecDepth 100000 in
set_option maxHeartbeats 4000000 in
theorem e125 (x0 : Int) : evFn Tryz.prog ext T24 noL 200 Tryz.f125 [.int .u32 x0] st0 = firstT (g125 x0 (r125 x0)) :=
 Eq.trans (by kernel_rfl) (p125 x0 (fun p => firstT (g125 x0 p)))
noncomputable def s125 (args : List Value) (s : St) : List (Bool × Value × St) :=
 match args, s.h with
 | [.int .u32 x0], [] => (g125 x0 (r125 x0))
 | _, _ => T24 125 args s
noncomputable def T25 : CallF := addF T24 125 s125
set_option maxRecDepth 100000 in
set_option maxHeartbeats 4000000 in
theorem ok25 : CfOk Tryz.prog T25 := by
  refine cfOk_add ok24 fun args s r s' h1 h2 h3 => ?_
  unfold s125 at h3; split at h3
  · rename_i h; exact callOk ok24 Tryz.func125 h1 h2 h (lfOkF_no _ _).body (e125 _) rfl h3
  · exact ok24 _ _ _ _ _ h1 h2 h3

/-- impl.NumberText -/
noncomputable def r84 (x0 : Nat) : Nat × ByteArray :=
 cond (!feq .f32 x0 x0)
  (0, (ByteArray.mk #[55, 102, 99, 48, 48, 48, 48, 48]))
  (cond (Nat.beq ((r125 ((x0 : Nat) : Int)).1) 0)
   (0, ((r125 ((x0 : Nat) : Int)).2))
   (1, ByteArray.empty))
noncomputable def a84 (x0 : Nat) (p : Nat × ByteArray) : Res := firstT [((Nat.beq (p.1) 0), .string (p.2), st0)]
noncomputable def w84 (x0 : Nat) : Res :=
 (cond (!feq .f32 x0 x0)
 (a84 x0 (0, (ByteArray.mk #[55, 102, 99, 48, 48, 48, 48, 48])))
 (cond (!isN .f32 x0)
  (cond (Nat.beq ((r125 ((x0 : Nat) : Int)).1) 0)
   (a84 x0 (0, ((r125 ((x0 : Nat) : Int)).2)))
   none)
  none))
set_option maxRecDepth 100000 in
set_option maxHeartbeats 4000000 in
theorem e84 (x0 : Nat) : evFn Tryz.prog ext T25 noL 200 Tryz.f84 [vf x0] st0 = firstT [((Nat.beq ((r84 x0).1) 0), .string ((r84 x0).2), st0)] :=
 (show evFn Tryz.prog ext T25 noL 200 Tryz.f84 [vf x0] st0 = w84 x0 from by kernel_rfl).trans
 (show w84 x0 = a84 x0 (r84 x0) from by unfold w84 r84; exact (cond_both (a84 x0) _ (fun h0 => rfl) (fun h0 => (cond_t (ev_not1 (ev_eq1 (ev_notf h0))) (cond_app (a84 x0) _ rfl rfl)))))
noncomputable def s84 (args : List Value) (s : St) : List (Bool × Value × St) :=
 match args, s.h with
 | [.float .f32 x0], [] => [((Nat.beq ((r84 x0).1) 0), .string ((r84 x0).2), st0)]
 | _, _ => T25 84 args s
noncomputable def T26 : CallF := addF T25 84 s84
set_option maxRecDepth 100000 in
set_option maxHeartbeats 4000000 in
theorem ok26 : CfOk Tryz.prog T26 := by
  refine cfOk_add ok25 fun args s r s' h1 h2 h3 => ?_
  unfold s84 at h3; split at h3
  · rename_i h; exact callOk ok25 Tryz.func84 h1 h2 h (lfOkF_no _ _).body (e84 _) rfl h3
  · exact ok25 _ _ _ _ _ h1 h2 h3

/-- impl.sideText -/
noncomputable def w85 {α : Type} (x0 : Int) (k : (Nat × ByteArray) → α) : α :=
 cond ((x0 : Int) == (-1))
  (k (0, (ByteArray.mk #[45])))
  (cond (decide ((0 : Int) ≤ x0) && decide (x0 < 100))
   (k (0, (digB x0)))
   (k (1, ByteArray.empty)))
noncomputable def r85 (x0 : Int) : Nat × ByteArray := w85 x0 (fun p => p)
noncomputable def g85 (x0 : Int) (p : Nat × ByteArray) : List (Bool × Value × St) := [((Nat.beq (p.1) 0), .string (p.2), st0)]
theorem p85 {α : Type} (x0 : Int) (f : (Nat × ByteArray) → α) : w85 x0 f = f (w85 x0 (fun p => p)) := by unfold w85; exact (cond_app f _ rfl (cond_app f _ rfl rfl))
set_option maxRecDepth 100000 in
set_option maxHeartbeats 4000000 in
theorem e85 (x0 : Int) : evFn Tryz.prog ext T26 noL 200 Tryz.f85 [vi x0] st0 = firstT (g85 x0 (r85 x0)) :=
 Eq.trans (by kernel_rfl) (p85 x0 (fun p => firstT (g85 x0 p)))
noncomputable def s85 (args : List Value) (s : St) : List (Bool × Value × St) :=
 match args, s.h with
 | [.int .i64 x0], [] => (g85 x0 (r85 x0))
 | _, _ => T26 85 args s
noncomputable def T27 : CallF := addF T26 85 s85
set_option maxRecDepth 100000 in
set_option maxHeartbeats 4000000 in
theorem ok27 : CfOk Tryz.prog T27 := by
  refine cfOk_add ok26 fun args s r s' h1 h2 h3 => ?_
  unfold s85 at h3; split at h3
  · rename_i h; exact callOk ok26 Tryz.func85 h1 h2 h (lfOkF_no _ _).body (e85 _) rfl h3
  · exact ok26 _ _ _ _ _ h1 h2 h3

/-- impl.chimneyText, loop 0: one round -/
noncomputable def b40l0 (ih : ByteArray → Int → Int → List (List Int) → (Nat × ByteArray)) (x0 : ByteArray) (x1 x2 : Int) (x3 : List (List Int)) : Nat × ByteArray :=
 let c200 := (r84 (Int.toNat ((x3.getD (Int.toNat x2) []).getD 0 0)))
 let c201 := (r84 (Int.toNat ((x3.getD (Int.toNat x2) []).getD 1 0)))
 let c202 := (r84 (Int.toNat ((x3.getD (Int.toNat x2) []).getD 2 0)))
 let c203 := (r84 (Int.toNat ((x3.getD (Int.toNat x2) []).getD 3 0)))
 let c204 := (r85 ((x3.getD (Int.toNat x2) []).getD 4 0))
 cond (decide ((x2 : Int) < x1))
  (cond ((decide ((0 : Int) ≤ x2)) && (Nat.blt (Int.toNat x2) x3.length))
   (cond (Nat.beq (c200.1) 0)
    (cond (Nat.beq (c201.1) 0)
     (cond (Nat.beq (c202.1) 0)
      (cond (Nat.beq (c203.1) 0)
       (cond (Nat.beq (c204.1) 0)
        (cond (joinOk ([(c200.2), (c201.2), (c202.2), (c203.2), (c204.2)] : List ByteArray) (ByteArray.mk #[32]))
         (cond (decide ((joinB ([(c200.2), (c201.2), (c202.2), (c203.2), (c204.2)] : List ByteArray) (ByteArray.mk #[32])).size + 1 ≤ strMax))
          (cond (decide (x0.size + ((joinB ([(c200.2), (c201.2), (c202.2), (c203.2), (c204.2)] : List ByteArray) (ByteArray.mk #[32])) ++ (ByteArray.mk #[10])).size ≤ strMax))
           (ih (x0 ++ ((joinB ([(c200.2), (c201.2), (c202.2), (c203.2), (c204.2)] : List ByteArray) (ByteArray.mk #[32])) ++ (ByteArray.mk #[10]))) x1 (IntKind.i64.wrap (x2 + 1)) x3)
           (1, ByteArray.empty))
          (1, ByteArray.empty))
         (1, ByteArray.empty))
        (1, ByteArray.empty))
       (1, ByteArray.empty))
      (1, ByteArray.empty))
     (1, ByteArray.empty))
    (1, ByteArray.empty))
   (1, ByteArray.empty))
  (0, x0)
noncomputable def r40l0 : Nat → ByteArray → Int → Int → List (List Int) → (Nat × ByteArray)
 | 0 => fun _ _ _ _ => (1, ByteArray.empty)
 | m + 1 => b40l0 (r40l0 m)
noncomputable def a40l0 (x0 : ByteArray) (x1 x2 : Int) (x3 : List (List Int)) (p : Nat × ByteArray) : Option (Fin' × List Value × St) := firstT ([((Nat.beq (p.1) 0), .exit 0, [.string (p.2)], ⟨[⟨true, (some (.tab sc0 x3))⟩], 1, []⟩)].map fun (b, x) => (b, (x.1, frameOf 34 [3] x.2.1, x.2.2)))
noncomputable def u40l0 (x0 : ByteArray) (x1 x2 : Int) (x3 : List (List Int)) (p : Nat × ByteArray) : Option (Fin' × List Value × St) := alts ([((Nat.beq (p.1) 0), .exit 0, [.string (p.2)], ⟨[⟨true, (some (.tab sc0 x3))⟩], 1, []⟩)].map fun (b, x) => (b, (x.1, frameOf 34 [3] x.2.1, x.2.2))) some
theorem v40l0 (x0 : ByteArray) (x1 x2 : Int) (x3 : List (List Int)) (p : Nat × ByteArray) : u40l0 x0 x1 x2 x3 p = a40l0 x0 x1 x2 x3 p := alts_first _
noncomputable def q40l0 (m : Nat) : SumK := fun vals s =>
 match vals, s.h with
 | [.string x0, .iface f0 .nilIface, .int .i64 x1, .int .i64 x2], [⟨true, some (.tab [.fl .f32, .fl .f32, .fl .f32, .fl .f32, .int .i64] x3)⟩] => if f0 = 0 then [((Nat.beq ((r40l0 m x0 x1 x2 x3).1) 0), .exit 0, [.string ((r40l0 m x0 x1 x2 x3).2)], ⟨[⟨true, (some (.tab sc0 x3))⟩], 1, []⟩)] else noQ vals s
 | _, _ => noQ vals s
noncomputable def w40l0 (ih : ByteArray → Int → Int → List (List Int) → (Nat × ByteArray)) (x0 : ByteArray) (x1 x2 : Int) (x3 : List (List Int)) : Option (Fin' × List Value × St) :=
 let c200 := (r84 (Int.toNat ((x3.getD (Int.toNat x2) []).getD 0 0)))
 let c201 := (r84 (Int.toNat ((x3.getD (Int.toNat x2) []).getD 1 0)))
 let c202 := (r84 (Int.toNat ((x3.getD (Int.toNat x2) []).getD 2 0)))
 let c203 := (r84 (Int.toNat ((x3.getD (Int.toNat x2) []).getD 3 0)))
 let c204 := (r85 ((x3.getD (Int.toNat x2) []).getD 4 0))
 (cond (decide ((x2 : Int) < x1))
 (cond ((decide ((0 : Int) ≤ x2)) && (Nat.blt (Int.toNat x2) x3.length))
  (cond (Nat.blt (Int.toNat x2) x3.length)
   (cond (Nat.beq (c200.1) 0)
    (cond (Nat.beq (c201.1) 0)
     (cond (Nat.beq (c202.1) 0)
      (cond (Nat.beq (c203.1) 0)
       (cond (Nat.beq (c204.1) 0)
        (cond (joinOk ([(c200.2), (c201.2), (c202.2), (c203.2), (c204.2)] : List ByteArray) (ByteArray.mk #[32]))
         (cond (decide ((joinB ([(c200.2), (c201.2), (c202.2), (c203.2), (c204.2)] : List ByteArray) (ByteArray.mk #[32])).size + 1 ≤ strMax))
          (cond (decide (x0.size + ((joinB ([(c200.2), (c201.2), (c202.2), (c203.2), (c204.2)] : List ByteArray) (ByteArray.mk #[32])) ++ (ByteArray.mk #[10])).size ≤ strMax))
           (u40l0 x0 x1 x2 x3 (ih (x0 ++ ((joinB ([(c200.2), (c201.2), (c202.2), (c203.2), (c204.2)] : List ByteArray) (ByteArray.mk #[32])) ++ (ByteArray.mk #[10]))) x1 (IntKind.i64.wrap (x2 + 1)) x3))
           none)
          none)
         none)
        none)
       none)
      none)
     none)
    none)
   none)
  none)
 (a40l0 x0 x1 x2 x3 (0, x0)))
set_option maxRecDepth 100000 in
set_option maxHeartbeats 4000000 in
theorem e40l0 (m : Nat) (x0 : ByteArray) (x1 x2 : Int) (x3 : List (List Int)) : evC Tryz.prog ext T27 noL 200 (loopN Tryz.f40 0) (loopTail ([3, 6, 7, 8], []) [3] [] (sumK 34 [3, 6, 7, 8] [3] (q40l0 m))) (frameOf 34 [3, 6, 7, 8] [.string x0, wsl 0, vi x1, vi x2]) ⟨[⟨true, (some (.tab sc0 x3))⟩], 1, []⟩ = firstT ([((Nat.beq ((r40l0 (m + 1) x0 x1 x2 x3).1) 0), .exit 0, [.string ((r40l0 (m + 1) x0 x1 x2 x3).2)], ⟨[⟨true, (some (.tab sc0 x3))⟩], 1, []⟩)].map fun (b, x) => (b, (x.1, frameOf 34 [3] x.2.1, x.2.2))) :=
 (show evC Tryz.prog ext T27 noL 200 (loopN Tryz.f40 0) (loopTail ([3, 6, 7, 8], []) [3] [] (sumK 34 [3, 6, 7, 8] [3] (q40l0 m))) (frameOf 34 [3, 6, 7, 8] [.string x0, wsl 0, vi x1, vi x2]) ⟨[⟨true, (some (.tab sc0 x3))⟩], 1, []⟩ = w40l0 (r40l0 m) x0 x1 x2 x3 from by kernel_rfl).trans
 (show w40l0 (r40l0 m) x0 x1 x2 x3 = a40l0 x0 x1 x2 x3 (r40l0 (m + 1) x0 x1 x2 x3) from by unfold w40l0; show _ = a40l0 x0 x1 x2 x3 (b40l0 (r40l0 m) x0 x1 x2 x3); unfold b40l0; exact (cond_both (a40l0 x0 x1 x2 x3) _ (fun h0 => (cond_both (a40l0 x0 x1 x2 x3) _ (fun h1 => (cond_t (ev_and2 h1) (cond_app (a40l0 x0 x1 x2 x3) _ (cond_app (a40l0 x0 x1 x2 x3) _ (cond_app (a40l0 x0 x1 x2 x3) _ (cond_app (a40l0 x0 x1 x2 x3) _ (cond_app (a40l0 x0 x1 x2 x3) _ (cond_app (a40l0 x0 x1 x2 x3) _ (cond_app (a40l0 x0 x1 x2 x3) _ (cond_app (a40l0 x0 x1 x2 x3) _ (v40l0 x0 x1 x2 x3 ((r40l0 m) (x0 ++ ((joinB ([((r84 (Int.toNat ((x3.getD (Int.toNat x2) []).getD 0 0))).2), ((r84 (Int.toNat ((x3.getD (Int.toNat x2) []).getD 1 0))).2), ((r84 (Int.toNat ((x3.getD (Int.toNat x2) []).getD 2 0))).2), ((r84 (Int.toNat ((x3.getD (Int.toNat x2) []).getD 3 0))).2), ((r85 ((x3.getD (Int.toNat x2) []).getD 4 0)).2)] : List ByteArray) (ByteArray.mk #[32])) ++ (ByteArray.mk #[10]))) x1 (IntKind.i64.wrap (x2 + 1)) x3)) rfl) rfl) rfl) rfl) rfl) rfl) rfl) rfl))) (fun h1 => rfl))) (fun h0 => rfl)))
set_option maxRecDepth 100000 in
set_option maxHeartbeats 4000000 in
theorem qm40l0 : ∀ m, SumKOk Tryz.prog (loopN Tryz.f40 0) 34 [3, 6, 7, 8] [3] (q40l0 m) := by
  intro m
  induction m with
  | zero =>
    intro vals s x h1 h2 h3
    unfold q40l0 at h3; split at h3
    · rename_i h; split at h3
      · rename_i hc; obtain ⟨rfl⟩ := hc; exact absurd h3 (by simp [r40l0, firstT, Nat.beq])
      · exact noQ_ok _ _ _ h1 h2 h3
    · exact noQ_ok _ _ _ h1 h2 h3
  | succ m ih =>
    intro vals s x h1 h2 h3
    unfold q40l0 at h3; split at h3
    · rename_i h; split at h3
      · rename_i hc; obtain ⟨rfl⟩ := hc; exact sum_step ok27 extOk mixed ((lfOkF_no _ _).inner (by kernel_rfl)) ih h1 h2 h (e40l0 m _ _ _ _) rfl h3
      · exact noQ_ok _ _ _ h1 h2 h3
    · exact noQ_ok _ _ _ h1 h2 h3
noncomputable def Q40l0 : SumK := fun vals s => q40l0 (fuelOf vals s.h) vals s
theorem qok40l0 : SumKOk Tryz.prog (loopN Tryz.f40 0) 34 [3, 6, 7, 8] [3] Q40l0 := fuel_ok qm40l0 fuelOf
noncomputable def L40_1 : LoopT := addL noL 4 ([3, 6, 7, 8], []) (sumK 34 [3, 6, 7, 8] [3] Q40l0)
theorem lok40_1 : LfOkF Tryz.prog L40_1 Tryz.f40 := lfOkF_add (lfOkF_no _ _) qok40l0 (by kernel_rfl) (by kernel_rfl) (by kernel_rfl)

/-- impl.chimneyText -/
noncomputable def w40 {α : Type} (x0 : List (List Int)) (k : (Nat × ByteArray) → α) : α :=
 let c205 := (r40l0 (1000 + x0.length + 0) (ByteArray.mk #[]) ((x0.length : Nat) : Int) 0 x0)
 cond (Nat.beq (c205.1) 0)
  (k (0, (c205.2)))
  (k (1, ByteArray.empty))
noncomputable def r40 (x0 : List (List Int)) : Nat × ByteArray := w40 x0 (fun p => p)
noncomputable def g40 (x0 : List (List Int)) (p : Nat × ByteArray) : List (Bool × Value × St) := [((Nat.beq (p.1) 0), .string (p.2), ⟨[⟨true, (some (.tab sc0 x0))⟩], 1, []⟩)]
theorem p40 {α : Type} (x0 : List (List Int)) (f : (Nat × ByteArray) → α) : w40 x0 f = f (w40 x0 (fun p => p)) := by unfold w40; exact (cond_app f _ rfl rfl)
set_option maxRecDepth 100000 in
set_option maxHeartbeats 4000000 in
theorem e40 (x0 : List (List Int)) : evFn Tryz.prog ext T27 L40_1 200 Tryz.f40 [wsl 0] ⟨[⟨true, (some (.tab sc0 x0))⟩], 1, []⟩ = firstT (g40 x0 (r40 x0)) :=
 Eq.trans (by kernel_rfl) (p40 x0 (fun p => firstT (g40 x0 p)))
noncomputable def s40 (args : List Value) (s : St) : List (Bool × Value × St) :=
 match args, s.h with
 | [.iface f0 .nilIface], [⟨true, some (.tab [.fl .f32, .fl .f32, .fl .f32, .fl .f32, .int .i64] x0)⟩] => if f0 = 0 then (g40 x0 (r40 x0)) else T27 40 args s
 | _, _ => T27 40 args s
noncomputable def T28 : CallF := addF T27 40 s40
set_option maxRecDepth 100000 in
set_option maxHeartbeats 4000000 in
theorem ok28 : CfOk Tryz.prog T28 := by
  refine cfOk_add ok27 fun args s r s' h1 h2 h3 => ?_
  unfold s40 at h3; split at h3
  · rename_i h; split at h3
    · rename_i hc; obtain ⟨rfl⟩ := hc; exact callOk ok27 Tryz.func40 h1 h2 h lok40_1.body (e40 _) rfl h3
    · exact ok27 _ _ _ _ _ h1 h2 h3
  · exact ok27 _ _ _ _ _ h1 h2 h3

/-- impl.split -/
noncomputable def w36 {α : Type} (x0 : ByteArray) (k : (Nat × Nat × List ByteArray) → α) : α :=
 cond (Nat.blt (x0.size) 4294967281)
  (k (0, (splB 32 x0).length, (splB 32 x0)))
  (k (1, 0, []))
noncomputable def r36 (x0 : ByteArray) : Nat × Nat × List ByteArray := w36 x0 (fun p => p)
noncomputable def g36 (x0 : ByteArray) (p : Nat × Nat × List ByteArray) : List (Bool × Value × St) := [((Nat.beq (p.1) 0), vp 0, ⟨[⟨true, (some (.cells [rsl ⟨1, 0, some 0⟩ (p.2.1), .bool false]))⟩, ⟨true, (some (.strs (p.2.2)))⟩], 0, []⟩)]
theorem p36 {α : Type} (x0 : ByteArray) (f : (Nat × Nat × List ByteArray) → α) : w36 x0 f = f (w36 x0 (fun p => p)) := by unfold w36; exact (cond_app f _ rfl rfl)
set_option maxRecDepth 100000 in
set_option maxHeartbeats 4000000 in
theorem e36 (x0 : ByteArray) : evFn Tryz.prog ext T28 noL 200 Tryz.f36 [.string x0] st0 = firstT (g36 x0 (r36 x0)) :=
 Eq.trans (by kernel_rfl) (p36 x0 (fun p => firstT (g36 x0 p)))
noncomputable def s36 (args : List Value) (s : St) : List (Bool × Value × St) :=
 match args, s.h with
 | [.string x0], [] => (g36 x0 (r36 x0))
 | _, _ => T28 36 args s
noncomputable def T29 : CallF := addF T28 36 s36
set_option maxRecDepth 100000 in
set_option maxHeartbeats 4000000 in
theorem ok29 : CfOk Tryz.prog T29 := by
  refine cfOk_add ok28 fun args s r s' h1 h2 h3 => ?_
  unfold s36 at h3; split at h3
  · rename_i h; exact callOk ok28 Tryz.func36 h1 h2 h (lfOkF_no _ _).body (e36 _) rfl h3
  · exact ok28 _ _ _ _ _ h1 h2 h3

/-- (*impl.words).next -/
noncomputable def w81 {α : Type} (x0 x1 : Nat) (x2 : Bool) (x3 : List ByteArray) (k : (Nat × ByteArray × Nat × Nat × Bool) → α) : α :=
 cond ((((x1 : Nat) : Int) : Int) == 0)
  (k (0, (ByteArray.mk #[]), x0, x1, true))
  (cond (Nat.blt 0 x1)
   (cond (Nat.blt (x0 + 0) x3.length)
    (cond ((Nat.ble 1 x1) && (Nat.ble x1 x1))
     (k (0, (x3.getD (x0 + 0) .empty), (x0 + 1), (x1 - 1), x2))
     (k (1, ByteArray.empty, 0, 0, false)))
    (k (1, ByteArray.empty, 0, 0, false)))
   (k (1, ByteArray.empty, 0, 0, false)))
noncomputable def r81 (x0 x1 : Nat) (x2 : Bool) (x3 : List ByteArray) : Nat × ByteArray × Nat × Nat × Bool := w81 x0 x1 x2 x3 (fun p => p)
noncomputable def g81 (x0 x1 : Nat) (x2 : Bool) (x3 : List ByteArray) (p : Nat × ByteArray × Nat × Nat × Bool) : List (Bool × Value × St) := [((Nat.beq (p.1) 0), .string (p.2.1), ⟨[⟨true, (some (.cells [rsl ⟨1, (p.2.2.1), some 0⟩ (p.2.2.2.1), .bool (p.2.2.2.2)]))⟩, ⟨true, (some (.strs x3))⟩], 2, [0]⟩)]
theorem p81 {α : Type} (x0 x1 : Nat) (x2 : Bool) (x3 : List ByteArray) (f : (Nat × ByteArray × Nat × Nat × Bool) → α) : w81 x0 x1 x2 x3 f = f (w81 x0 x1 x2 x3 (fun p => p)) := by unfold w81; exact (cond_app f _ rfl (cond_app f _ (cond_app f _ (cond_app f _ rfl rfl) rfl) rfl))
set_option maxRecDepth 100000 in
set_option maxHeartbeats 4000000 in
theorem e81 (x0 x1 : Nat) (x2 : Bool) (x3 : List ByteArray) : evFn Tryz.prog ext T29 noL 200 Tryz.f81 [vp 0] ⟨[⟨true, (some (.cells [rsl ⟨1, x0, some 0⟩ x1, .bool x2]))⟩, ⟨true, (some (.strs x3))⟩], 2, []⟩ = firstT (g81 x0 x1 x2 x3 (r81 x0 x1 x2 x3)) :=
 Eq.trans (by kernel_rfl) (p81 x0 x1 x2 x3 (fun p => firstT (g81 x0 x1 x2 x3 p)))
noncomputable def s81 (args : List Value) (s : St) : List (Bool × Value × St) :=
 match args, s.h with
 | [.pointer (some ⟨f0, f1, some f2⟩)], [⟨true, some (.cells [.iface x1 (.pointer (some ⟨f3, x0, some f4⟩)), .bool x2])⟩, ⟨true, some (.strs x3)⟩] => if f0 = 0 ∧ f1 = 0 ∧ f2 = 0 ∧ f3 = 1 ∧ f4 = 0 then (g81 x0 x1 x2 x3 (r81 x0 x1 x2 x3)) else T29 81 args s
 | _, _ => T29 81 args s
noncomputable def T30 : CallF := addF T29 81 s81
set_option maxRecDepth 100000 in
set_option maxHeartbeats 4000000 in
theorem ok30 : CfOk Tryz.prog T30 := by
  refine cfOk_add ok29 fun args s r s' h1 h2 h3 => ?_
  unfold s81 at h3; split at h3
  · rename_i h; split at h3
    · rename_i hc; obtain ⟨rfl, rfl, rfl, rfl, rfl⟩ := hc; exact callOk ok29 Tryz.func81 h1 h2 h (lfOkF_no _ _).body (e81 _ _ _ _) rfl h3
    · exact ok29 _ _ _ _ _ h1 h2 h3
  · exact ok29 _ _ _ _ _ h1 h2 h3

/-- impl.unhex, loop 0: one round -/
noncomputable def w120l0 {α : Type} (ih : ByteArray → Int → Int → Int → (Nat × Int × Int)) (x0 : ByteArray) (x1 x2 x3 : Int) (k k2 : (Nat × Int × Int) → α) : α :=
 cond (decide ((x3 : Int) < x2))
  (cond ((decide ((0 : Int) ≤ x3)) && (Nat.blt (Int.toNat x3) (x0.size)))
   (cond (decide (((ixB (ByteArray.mk #[48, 49, 50, 51, 52, 53, 54, 55, 56, 57, 97, 98, 99, 100, 101, 102]) ((UInt8.toNat (List.getD (ByteArray.data x0).toList (Int.toNat x3) 0) : Nat) : Int)) : Int) < 0))
    (k (0, x1, 0))
    (k2 (ih x0 (bits .or .u32 (IntKind.u32.wrap (x1 * 2 ^ (min (4 : Int).toNat (IntKind.bits .u32)))) (IntKind.u32.wrap (ixB (ByteArray.mk #[48, 49, 50, 51, 52, 53, 54, 55, 56, 57, 97, 98, 99, 100, 101, 102]) ((UInt8.toNat (List.getD (ByteArray.data x0).toList (Int.toNat x3) 0) : Nat) : Int)))) x2 (IntKind.i64.wrap (x3 + 1)))))
   (k (2, 0, 0)))
  (k (1, 0, x1))
noncomputable def b120l0 (ih : ByteArray → Int → Int → Int → (Nat × Int × Int)) (x0 : ByteArray) (x1 x2 x3 : Int) : Nat × Int × Int := w120l0 ih x0 x1 x2 x3 (fun p => p) (fun p => p)
noncomputable def r120l0 : Nat → ByteArray → Int → Int → Int → (Nat × Int × Int)
 | 0 => fun _ _ _ _ => (2, 0, 0)
 | m + 1 => b120l0 (r120l0 m)
noncomputable def g120l0 (x0 : ByteArray) (x1 x2 x3 : Int) (p : Nat × Int × Int) : List (Bool × (Fin' × List Value × St)) := [((Nat.beq (p.1) 0), .ret, [.int .u32 0, .bool false, .int .u32 (p.2.1)], st0), ((Nat.beq (p.1) 1), .exit 0, [anyV, anyV, .int .u32 (p.2.2)], st0)]
noncomputable def a120l0 (x0 : ByteArray) (x1 x2 x3 : Int) (p : Nat × Int × Int) : Option (Fin' × List Value × St) := firstT ((g120l0 x0 x1 x2 x3 p).map fun (b, x) => (b, (x.1, frameOf 28 [2, 3, 4] x.2.1, x.2.2)))
noncomputable def u120l0 (x0 : ByteArray) (x1 x2 x3 : Int) (p : Nat × Int × Int) : Option (Fin' × List Value × St) := alts ((g120l0 x0 x1 x2 x3 p).map fun (b, x) => (b, (x.1, frameOf 28 [2, 3, 4] x.2.1, x.2.2))) some
theorem v120l0 (x0 : ByteArray) (x1 x2 x3 : Int) (p : Nat × Int × Int) : u120l0 x0 x1 x2 x3 p = a120l0 x0 x1 x2 x3 p := alts_first _
noncomputable def q120l0 (m : Nat) : SumK := fun vals s =>
 match vals, s.h with
 | [.string x0, .int .u32 x1, .int .i64 x2, .int .i64 x3], [] => (g120l0 x0 x1 x2 x3 (r120l0 m x0 x1 x2 x3))
 | _, _ => noQ vals s
theorem p120l0 {α : Type} (ih : ByteArray → Int → Int → Int → (Nat × Int × Int)) (x0 : ByteArray) (x1 x2 x3 : Int) (f : (Nat × Int × Int) → α) (u : (Nat × Int × Int) → α) (h : ∀ p, u p = f p) : w120l0 ih x0 x1 x2 x3 f u = f (w120l0 ih x0 x1 x2 x3 (fun p => p) (fun p => p)) := by unfold w120l0; repeat' (first | refine cond_app f _ ?_ ?_ | rfl | exact h _)
set_option maxRecDepth 100000 in
set_option maxHeartbeats 4000000 in
theorem e120l0 (m : Nat) (x0 : ByteArray) (x1 x2 x3 : Int) : evC Tryz.prog ext T30 noL 200 (loopN Tryz.f120 0) (loopTail ([0, 4, 11, 12], []) [2, 3, 4] [] (sumK 28 [0, 4, 11, 12] [2, 3, 4] (q120l0 m))) (frameOf 28 [0, 4, 11, 12] [.string x0, .int .u32 x1, vi x2, vi x3]) ⟨[], 0, []⟩ = firstT ((g120l0 x0 x1 x2 x3 (r120l0 (m + 1) x0 x1 x2 x3)).map fun (b, x) => (b, (x.1, frameOf 28 [2, 3, 4] x.2.1, x.2.2))) :=
 Eq.trans (by kernel_rfl) (p120l0 (r120l0 m) x0 x1 x2 x3 (a120l0 x0 x1 x2 x3) (u120l0 x0 x1 x2 x3) (v120l0 x0 x1 x2 x3))
set_option maxRecDepth 100000 in
set_option maxHeartbeats 4000000 in
theorem qm120l0 : ∀ m, SumKOk Tryz.prog (loopN Tryz.f120 0) 28 [0, 4, 11, 12] [2, 3, 4] (q120l0 m) := by
  intro m
  induction m with
  | zero =>
    intro vals s x h1 h2 h3
    unfold q120l0 at h3; split at h3
    · rename_i h; exact absurd h3 (by simp [r120l0, g120l0, firstT, Nat.beq])
    · exact noQ_ok _ _ _ h1 h2 h3
  | succ m ih =>
    intro vals s x h1 h2 h3
    unfold q120l0 at h3; split at h3
    · rename_i h; exact sum_step ok30 extOk mixed ((lfOkF_no _ _).inner (by kernel_rfl)) ih h1 h2 h (e120l0 m _ _ _ _) rfl h3
    · exact noQ_ok _ _ _ h1 h2 h3
noncomputable def Q120l0 : SumK := fun vals s => q120l0 (fuelOf vals s.h) vals s
theorem qok120l0 : SumKOk Tryz.prog (loopN Tryz.f120 0) 28 [0, 4, 11, 12] [2, 3, 4] Q120l0 := fuel_ok qm120l0 fuelOf
noncomputable def L120_1 : LoopT := addL noL 6 ([0, 4, 11, 12], []) (sumK 28 [0, 4, 11, 12] [2, 3, 4] Q120l0)
theorem lok120_1 : LfOkF Tryz.prog L120_1 Tryz.f120 := lfOkF_add (lfOkF_no _ _) qok120l0 (by kernel_rfl) (by kernel_rfl) (by kernel_rfl)

/-- impl.unhex -/
noncomputable def w120 {α : Type} (x0 : ByteArray) (k : (Nat × Int × Bool) → α) : α :=
 let c206 := (r120l0 (1000 + (x0.size)) x0 0 (((x0.size) : Nat) : Int) 0)
 cond (((((x0.size) : Nat) : Int) : Int) != 8)
  (k (0, 0, false))
  (cond (Nat.beq (c206.1) 0)
   (k (0, 0, false))
   (cond (Nat.beq (c206.1) 1)
    (k (0, (c206.2.2), true))
    (k (1, 0, false))))
noncomputable def r120 (x0 : ByteArray) : Nat × Int × Bool := w120 x0 (fun p => p)
noncomputable def g120 (x0 : ByteArray) (p : Nat × Int × Bool) : List (Bool × Value × St) := [((Nat.beq (p.1) 0), .tuple #[.int .u32 (p.2.1), .bool (p.2.2)], st0)]
theorem p120 {α : Type} (x0 : ByteArray) (f : (Nat × Int × Bool) → α) : w120 x0 f = f (w120 x0 (fun p => p)) := by unfold w120; exact (cond_app f _ rfl (cond_app f _ rfl (cond_app f _ rfl rfl)))
set_option maxRecDepth 100000 in
set_option maxHeartbeats 4000000 in
theorem e120 (x0 : ByteArray) : evFn Tryz.prog ext T30 L120_1 200 Tryz.f120 [.string x0] st0 = firstT (g120 x0 (r120 x0)) :=
 Eq.trans (by kernel_rfl) (p120 x0 (fun p => firstT (g120 x0 p)))
noncomputable def s120 (args : List Value) (s : St) : List (Bool × Value × St) :=
 match args, s.h with
 | [.string x0], [] => (g120 x0 (r120 x0))
 | _, _ => T30 120 args s
noncomputable def T31 : CallF := addF T30 120 s120
set_option maxRecDepth 100000 in
set_option maxHeartbeats 4000000 in
theorem ok31 : CfOk Tryz.prog T31 := by
  refine cfOk_add ok30 fun args s r s' h1 h2 h3 => ?_
  unfold s120 at h3; split at h3
  · rename_i h; exact callOk ok30 Tryz.func120 h1 h2 h lok120_1.body (e120 _) rfl h3
  · exact ok30 _ _ _ _ _ h1 h2 h3

/-- impl.ReadNumber -/
noncomputable def w80 {α : Type} (x0 : ByteArray) (k : (Nat × Nat × Int) → α) : α :=
 cond (Nat.beq ((r120 x0).1) 0)
  (cond (!((r120 x0).2.2))
   (k (0, 0, 5))
   (cond (Nat.beq ((r84 (Int.toNat ((r120 x0).2.1))).1) 0)
    (cond (!(((r84 (Int.toNat ((r120 x0).2.1))).2).toList == x0.toList))
     (k (0, 0, 5))
     (k (0, (Int.toNat ((r120 x0).2.1)), 0)))
    (k (1, 0, 0))))
  (k (1, 0, 0))
noncomputable def r80 (x0 : ByteArray) : Nat × Nat × Int := w80 x0 (fun p => p)
noncomputable def g80 (x0 : ByteArray) (p : Nat × Nat × Int) : List (Bool × Value × St) := [((Nat.beq (p.1) 0), .tuple #[vf (p.2.1), vi (p.2.2)], st0)]
theorem p80 {α : Type} (x0 : ByteArray) (f : (Nat × Nat × Int) → α) : w80 x0 f = f (w80 x0 (fun p => p)) := by unfold w80; exact (cond_app f _ (cond_app f _ rfl (cond_app f _ (cond_app f _ rfl rfl) rfl)) rfl)
set_option maxRecDepth 100000 in
set_option maxHeartbeats 4000000 in
theorem e80 (x0 : ByteArray) : evFn Tryz.prog ext T31 noL 200 Tryz.f80 [.string x0] st0 = firstT (g80 x0 (r80 x0)) :=
 Eq.trans (by kernel_rfl) (p80 x0 (fun p => firstT (g80 x0 p)))
noncomputable def s80 (args : List Value) (s : St) : List (Bool × Value × St) :=
 match args, s.h with
 | [.string x0], [] => (g80 x0 (r80 x0))
 | _, _ => T31 80 args s
noncomputable def T32 : CallF := addF T31 80 s80
set_option maxRecDepth 100000 in
set_option maxHeartbeats 4000000 in
theorem ok32 : CfOk Tryz.prog T32 := by
  refine cfOk_add ok31 fun args s r s' h1 h2 h3 => ?_
  unfold s80 at h3; split at h3
  · rename_i h; exact callOk ok31 Tryz.func80 h1 h2 h (lfOkF_no _ _).body (e80 _) rfl h3
  · exact ok31 _ _ _ _ _ h1 h2 h3

/-- (*impl.words).number -/
noncomputable def w37 {α : Type} (x0 x1 : Nat) (x2 : Bool) (x3 : List ByteArray) (k : (Nat × Nat × Nat × Nat × Bool) → α) : α :=
 cond (Nat.beq ((r81 x0 x1 x2 x3).1) 0)
  (cond (Nat.beq ((r80 ((r81 x0 x1 x2 x3).2.1)).1) 0)
   (cond ((r81 x0 x1 x2 x3).2.2.2.2)
    (k (0, ((r80 ((r81 x0 x1 x2 x3).2.1)).2.1), ((r81 x0 x1 x2 x3).2.2.1), ((r81 x0 x1 x2 x3).2.2.2.1), true))
    (k (0, ((r80 ((r81 x0 x1 x2 x3).2.1)).2.1), ((r81 x0 x1 x2 x3).2.2.1), ((r81 x0 x1 x2 x3).2.2.2.1), ((((r80 ((r81 x0 x1 x2 x3).2.1)).2.2) : Int) != 0))))
   (k (1, 0, 0, 0, false)))
  (k (1, 0, 0, 0, false))
noncomputable def r37 (x0 x1 : Nat) (x2 : Bool) (x3 : List ByteArray) : Nat × Nat × Nat × Nat × Bool := w37 x0 x1 x2 x3 (fun p => p)
noncomputable def g37 (x0 x1 : Nat) (x2 : Bool) (x3 : List ByteArray) (p : Nat × Nat × Nat × Nat × Bool) : List (Bool × Value × St) := [((Nat.beq (p.1) 0), vf (p.2.1), ⟨[⟨true, (some (.cells [rsl ⟨1, (p.2.2.1), some 0⟩ (p.2.2.2.1), .bool (p.2.2.2.2)]))⟩, ⟨true, (some (.strs x3))⟩], 2, [0]⟩)]
theorem p37 {α : Type} (x0 x1 : Nat) (x2 : Bool) (x3 : List ByteArray) (f : (Nat × Nat × Nat × Nat × Bool) → α) : w37 x0 x1 x2 x3 f = f (w37 x0 x1 x2 x3 (fun p => p)) := by unfold w37; exact (cond_app f _ (cond_app f _ (cond_app f _ rfl rfl) rfl) rfl)
set_option maxRecDepth 100000 in
set_option maxHeartbeats 4000000 in
theorem e37 (x0 x1 : Nat) (x2 : Bool) (x3 : List ByteArray) : evFn Tryz.prog ext T32 noL 200 Tryz.f37 [vp 0] ⟨[⟨true, (some (.cells [rsl ⟨1, x0, some 0⟩ x1, .bool x2]))⟩, ⟨true, (some (.strs x3))⟩], 2, []⟩ = firstT (g37 x0 x1 x2 x3 (r37 x0 x1 x2 x3)) :=
 Eq.trans (by kernel_rfl) (p37 x0 x1 x2 x3 (fun p => firstT (g37 x0 x1 x2 x3 p)))
noncomputable def s37 (args : List Value) (s : St) : List (Bool × Value × St) :=
 match args, s.h with
 | [.pointer (some ⟨f0, f1, some f2⟩)], [⟨true, some (.cells [.iface x1 (.pointer (some ⟨f3, x0, some f4⟩)), .bool x2])⟩, ⟨true, some (.strs x3)⟩] => if f0 = 0 ∧ f1 = 0 ∧ f2 = 0 ∧ f3 = 1 ∧ f4 = 0 then (g37 x0 x1 x2 x3 (r37 x0 x1 x2 x3)) else T32 37 args s
 | _, _ => T32 37 args s
noncomputable def T33 : CallF := addF T32 37 s37
set_option maxRecDepth 100000 in
set_option maxHeartbeats 4000000 in
theorem ok33 : CfOk Tryz.prog T33 := by
  refine cfOk_add ok32 fun args s r s' h1 h2 h3 => ?_
  unfold s37 at h3; split at h3
  · rename_i h; split at h3
    · rename_i hc; obtain ⟨rfl, rfl, rfl, rfl, rfl⟩ := hc; exact callOk ok32 Tryz.func37 h1 h2 h (lfOkF_no _ _).body (e37 _ _ _ _) rfl h3
    · exact ok32 _ _ _ _ _ h1 h2 h3
  · exact ok32 _ _ _ _ _ h1 h2 h3

/-- (*impl.words).integer -/
noncomputable def w82 {α : Type} (x0 x1 : Nat) (x2 : Bool) (x3 : List ByteArray) (k : (Nat × Int × Nat × Nat × Bool) → α) : α :=
 cond (Nat.beq ((r81 x0 x1 x2 x3).1) 0)
  (cond (Nat.ble (((r81 x0 x1 x2 x3).2.1).size) 281474976710656)
   (cond ((r81 x0 x1 x2 x3).2.2.2.2)
    (k (0, (pInt ((r81 x0 x1 x2 x3).2.1)), ((r81 x0 x1 x2 x3).2.2.1), ((r81 x0 x1 x2 x3).2.2.2.1), true))
    (k (0, (pInt ((r81 x0 x1 x2 x3).2.1)), ((r81 x0 x1 x2 x3).2.2.1), ((r81 x0 x1 x2 x3).2.2.2.1), (!(pOk ((r81 x0 x1 x2 x3).2.1))))))
   (k (1, 0, 0, 0, false)))
  (k (1, 0, 0, 0, false))
noncomputable def r82 (x0 x1 : Nat) (x2 : Bool) (x3 : List ByteArray) : Nat × Int × Nat × Nat × Bool := w82 x0 x1 x2 x3 (fun p => p)
noncomputable def g82 (x0 x1 : Nat) (x2 : Bool) (x3 : List ByteArray) (p : Nat × Int × Nat × Nat × Bool) : List (Bool × Value × St) := [((Nat.beq (p.1) 0), vi (p.2.1), ⟨[⟨true, (some (.cells [rsl ⟨1, (p.2.2.1), some 0⟩ (p.2.2.2.1), .bool (p.2.2.2.2)]))⟩, ⟨true, (some (.strs x3))⟩], 2, [0]⟩)]
theorem p82 {α : Type} (x0 x1 : Nat) (x2 : Bool) (x3 : List ByteArray) (f : (Nat × Int × Nat × Nat × Bool) → α) : w82 x0 x1 x2 x3 f = f (w82 x0 x1 x2 x3 (fun p => p)) := by unfold w82; exact (cond_app f _ (cond_app f _ (cond_app f _ rfl rfl) rfl) rfl)
set_option maxRecDepth 100000 in
set_option maxHeartbeats 4000000 in
theorem e82 (x0 x1 : Nat) (x2 : Bool) (x3 : List ByteArray) : evFn Tryz.prog ext T33 noL 200 Tryz.f82 [vp 0] ⟨[⟨true, (some (.cells [rsl ⟨1, x0, some 0⟩ x1, .bool x2]))⟩, ⟨true, (some (.strs x3))⟩], 2, []⟩ = firstT (g82 x0 x1 x2 x3 (r82 x0 x1 x2 x3)) :=
 Eq.trans (by kernel_rfl) (p82 x0 x1 x2 x3 (fun p => firstT (g82 x0 x1 x2 x3 p)))
noncomputable def s82 (args : List Value) (s : St) : List (Bool × Value × St) :=
 match args, s.h with
 | [.pointer (some ⟨f0, f1, some f2⟩)], [⟨true, some (.cells [.iface x1 (.pointer (some ⟨f3, x0, some f4⟩)), .bool x2])⟩, ⟨true, some (.strs x3)⟩] => if f0 = 0 ∧ f1 = 0 ∧ f2 = 0 ∧ f3 = 1 ∧ f4 = 0 then (g82 x0 x1 x2 x3 (r82 x0 x1 x2 x3)) else T33 82 args s
 | _, _ => T33 82 args s
noncomputable def T34 : CallF := addF T33 82 s82
set_option maxRecDepth 100000 in
set_option maxHeartbeats 4000000 in
theorem ok34 : CfOk Tryz.prog T34 := by
  refine cfOk_add ok33 fun args s r s' h1 h2 h3 => ?_
  unfold s82 at h3; split at h3
  · rename_i h; split at h3
    · rename_i hc; obtain ⟨rfl, rfl, rfl, rfl, rfl⟩ := hc; exact callOk ok33 Tryz.func82 h1 h2 h (lfOkF_no _ _).body (e82 _ _ _ _) rfl h3
    · exact ok33 _ _ _ _ _ h1 h2 h3
  · exact ok33 _ _ _ _ _ h1 h2 h3

/-- (*impl.words).side -/
noncomputable def w38 {α : Type} (x0 x1 : Nat) (x2 : Bool) (x3 : List ByteArray) (k : (Nat × Int × Nat × Nat × Bool) → α) : α :=
 cond (decide ((((x1 : Nat) : Int) : Int) > 0))
  (cond (Nat.blt 0 x1)
   (cond (Nat.blt (x0 + 0) x3.length)
    (cond ((x3.getD (x0 + 0) .empty).toList == (ByteArray.mk #[45]).toList)
     (cond (Nat.beq ((r81 x0 x1 x2 x3).1) 0)
      (k (0, (-1), ((r81 x0 x1 x2 x3).2.2.1), ((r81 x0 x1 x2 x3).2.2.2.1), ((r81 x0 x1 x2 x3).2.2.2.2)))
      (k (1, 0, 0, 0, false)))
     (cond (Nat.beq ((r82 x0 x1 x2 x3).1) 0)
      (k (0, ((r82 x0 x1 x2 x3).2.1), ((r82 x0 x1 x2 x3).2.2.1), ((r82 x0 x1 x2 x3).2.2.2.1), ((r82 x0 x1 x2 x3).2.2.2.2)))
      (k (1, 0, 0, 0, false))))
    (k (1, 0, 0, 0, false)))
   (k (1, 0, 0, 0, false)))
  (cond (Nat.beq ((r82 x0 x1 x2 x3).1) 0)
   (k (0, ((r82 x0 x1 x2 x3).2.1), ((r82 x0 x1 x2 x3).2.2.1), ((r82 x0 x1 x2 x3).2.2.2.1), ((r82 x0 x1 x2 x3).2.2.2.2)))
   (k (1, 0, 0, 0, false)))
noncomputable def r38 (x0 x1 : Nat) (x2 : Bool) (x3 : List ByteArray) : Nat × Int × Nat × Nat × Bool := w38 x0 x1 x2 x3 (fun p => p)
noncomputable def g38 (x0 x1 : Nat) (x2 : Bool) (x3 : List ByteArray) (p : Nat × Int × Nat × Nat × Bool) : List (Bool × Value × St) := [((Nat.beq (p.1) 0), vi (p.2.1), ⟨[⟨true, (some (.cells [rsl ⟨1, (p.2.2.1), some 0⟩ (p.2.2.2.1), .bool (p.2.2.2.2)]))⟩, ⟨true, (some (.strs x3))⟩], 2, [0]⟩)]
theorem p38 {α : Type} (x0 x1 : Nat) (x2 : Bool) (x3 : List ByteArray) (f : (Nat × Int × Nat × Nat × Bool) → α) : w38 x0 x1 x2 x3 f = f (w38 x0 x1 x2 x3 (fun p => p)) := by unfold w38; repeat' (first | refine cond_app f _ ?_ ?_ | rfl)
set_option maxRecDepth 100000 in
set_option maxHeartbeats 4000000 in
theorem e38 (x0 x1 : Nat) (x2 : Bool) (x3 : List ByteArray) : evFn Tryz.prog ext T34 noL 200 Tryz.f38 [vp 0] ⟨[⟨true, (some (.cells [rsl ⟨1, x0, some 0⟩ x1, .bool x2]))⟩, ⟨true, (some (.strs x3))⟩], 2, []⟩ = firstT (g38 x0 x1 x2 x3 (r38 x0 x1 x2 x3)) :=
 Eq.trans (by kernel_rfl) (p38 x0 x1 x2 x3 (fun p => firstT (g38 x0 x1 x2 x3 p)))
noncomputable def s38 (args : List Value) (s : St) : List (Bool × Value × St) :=
 match args, s.h with
 | [.pointer (some ⟨f0, f1, some f2⟩)], [⟨true, some (.cells [.iface x1 (.pointer (some ⟨f3, x0, some f4⟩)), .bool x2])⟩, ⟨true, some (.strs x3)⟩] => if f0 = 0 ∧ f1 = 0 ∧ f2 = 0 ∧ f3 = 1 ∧ f4 = 0 then (g38 x0 x1 x2 x3 (r38 x0 x1 x2 x3)) else T34 38 args s
 | _, _ => T34 38 args s
noncomputable def T35 : CallF := addF T34 38 s38
set_option maxRecDepth 100000 in
set_option maxHeartbeats 4000000 in
theorem ok35 : CfOk Tryz.prog T35 := by
  refine cfOk_add ok34 fun args s r s' h1 h2 h3 => ?_
  unfold s38 at h3; split at h3
  · rename_i h; split at h3
    · rename_i hc; obtain ⟨rfl, rfl, rfl, rfl, rfl⟩ := hc; exact callOk ok34 Tryz.func38 h1 h2 h (lfOkF_no _ _).body (e38 _ _ _ _) rfl h3
    · exact ok34 _ _ _ _ _ h1 h2 h3
  · exact ok34 _ _ _ _ _ h1 h2 h3

/-- (*impl.words).done -/
noncomputable def w39 {α : Type} (x0 x1 : Nat) (x2 : Bool) (x3 : List ByteArray) (k : Bool → α) : α :=
 cond (!x2)
  (k (((((x1 : Nat) : Int) : Int) == 0)))
  (k (false))
noncomputable def r39 (x0 x1 : Nat) (x2 : Bool) (x3 : List ByteArray) : Bool := w39 x0 x1 x2 x3 (fun p => p)
noncomputable def g39 (x0 x1 : Nat) (x2 : Bool) (x3 : List ByteArray) (p : Bool) : List (Bool × Value × St) := [(true, .bool p, ⟨[⟨true, (some (.cells [rsl ⟨1, x0, some 0⟩ x1, .bool x2]))⟩, ⟨true, (some (.strs x3))⟩], 2, []⟩)]
theorem p39 {α : Type} (x0 x1 : Nat) (x2 : Bool) (x3 : List ByteArray) (f : Bool → α) : w39 x0 x1 x2 x3 f = f (w39 x0 x1 x2 x3 (fun p => p)) := by unfold w39; exact (cond_app f _ rfl rfl)
set_option maxRecDepth 100000 in
set_option maxHeartbeats 4000000 in
theorem e39 (x0 x1 : Nat) (x2 : Bool) (x3 : List ByteArray) : evFn Tryz.prog ext T35 noL 200 Tryz.f39 [vp 0] ⟨[⟨true, (some (.cells [rsl ⟨1, x0, some 0⟩ x1, .bool x2]))⟩, ⟨true, (some (.strs x3))⟩], 2, []⟩ = firstT (g39 x0 x1 x2 x3 (r39 x0 x1 x2 x3)) :=
 Eq.trans (by kernel_rfl) (p39 x0 x1 x2 x3 (fun p => firstT (g39 x0 x1 x2 x3 p)))
noncomputable def s39 (args : List Value) (s : St) : List (Bool × Value × St) :=
 match args, s.h with
 | [.pointer (some ⟨f0, f1, some f2⟩)], [⟨true, some (.cells [.iface x1 (.pointer (some ⟨f3, x0, some f4⟩)), .bool x2])⟩, ⟨true, some (.strs x3)⟩] => if f0 = 0 ∧ f1 = 0 ∧ f2 = 0 ∧ f3 = 1 ∧ f4 = 0 then (g39 x0 x1 x2 x3 (r39 x0 x1 x2 x3)) else T35 39 args s
 | _, _ => T35 39 args s
noncomputable def T36 : CallF := addF T35 39 s39
set_option maxRecDepth 100000 in
set_option maxHeartbeats 4000000 in
theorem ok36 : CfOk Tryz.prog T36 := by
  refine cfOk_add ok35 fun args s r s' h1 h2 h3 => ?_
  unfold s39 at h3; split at h3
  · rename_i h; split at h3
    · rename_i hc; obtain ⟨rfl, rfl, rfl, rfl, rfl⟩ := hc; exact callOk ok35 Tryz.func39 h1 h2 h (lfOkF_no _ _).body (e39 _ _ _ _) rfl h3
    · exact ok35 _ _ _ _ _ h1 h2 h3
  · exact ok35 _ _ _ _ _ h1 h2 h3

/-- impl.ReadChimney, loop 0: one round -/
noncomputable def w7l0b {α : Type} (ih : ByteArray → Nat → Nat → Int → Int → List (List Int) → List ByteArray → (Nat × List (List Int) × List (List Int))) (x0 : ByteArray) (x1 x2 : Nat) (x3 x4 : Int) (x5 : List (List Int)) (x6 : List ByteArray) (k : (Nat × List (List Int) × List (List Int)) → α) : α :=
 let c303 := (r36 (x6.getD (x1 + (Int.toNat x4)) .empty))
 let c304 := (r37 ((r37 0 (c303.2.1) false (c303.2.2)).2.2.1) ((r37 0 (c303.2.1) false (c303.2.2)).2.2.2.1) ((r37 0 (c303.2.1) false (c303.2.2)).2.2.2.2) (c303.2.2))
 let c305 := (r37 (c304.2.2.1) (c304.2.2.2.1) (c304.2.2.2.2) (c303.2.2))
 let c306 := (r37 (c305.2.2.1) (c305.2.2.2.1) (c305.2.2.2.2) (c303.2.2))
 let c307 := (r38 (c306.2.2.1) (c306.2.2.2.1) (c306.2.2.2.2) (c303.2.2))
 let c308 := (r39 (c307.2.2.1) (c307.2.2.2.1) (c307.2.2.2.2) (c303.2.2))
 cond (decide ((x4 : Int) < x3))
  (cond ((decide ((0 : Int) ≤ x4)) && (Nat.blt (Int.toNat x4) x2))
   (cond (Nat.blt (x1 + (Int.toNat x4)) x6.length)
    (cond (Nat.beq (c303.1) 0)
     (cond (Nat.beq ((r37 0 (c303.2.1) false (c303.2.2)).1) 0)
      (cond (Nat.beq (c304.1) 0)
       (cond (Nat.beq (c305.1) 0)
        (cond (Nat.beq (c306.1) 0)
         (cond (Nat.beq (c307.1) 0)
          (cond (!c308)
           (k (0, [], []))
           (cond (Nat.ble ((x5.length + 1) * 25) 140737488355328)
            (cond (Nat.beq ((ih x0 x1 x2 x3 (IntKind.i64.wrap (x4 + 1)) (((x5.drop 0).take x5.length) ++ ([[((((r37 0 (c303.2.1) false (c303.2.2)).2.1) : Nat) : Int), (((c304.2.1) : Nat) : Int), (((c305.2.1) : Nat) : Int), (((c306.2.1) : Nat) : Int), (c307.2.1)]] : List (List Int))) x6).1) 0)
             (k (1, (((x5.drop 0).take x5.length) ++ ([[((((r37 0 (c303.2.1) false (c303.2.2)).2.1) : Nat) : Int), (((c304.2.1) : Nat) : Int), (((c305.2.1) : Nat) : Int), (((c306.2.1) : Nat) : Int), (c307.2.1)]] : List (List Int))), []))
             (cond (Nat.beq ((ih x0 x1 x2 x3 (IntKind.i64.wrap (x4 + 1)) (((x5.drop 0).take x5.length) ++ ([[((((r37 0 (c303.2.1) false (c303.2.2)).2.1) : Nat) : Int), (((c304.2.1) : Nat) : Int), (((c305.2.1) : Nat) : Int), (((c306.2.1) : Nat) : Int), (c307.2.1)]] : List (List Int))) x6).1) 1)
              (k (1, ((ih x0 x1 x2 x3 (IntKind.i64.wrap (x4 + 1)) (((x5.drop 0).take x5.length) ++ ([[((((r37 0 (c303.2.1) false (c303.2.2)).2.1) : Nat) : Int), (((c304.2.1) : Nat) : Int), (((c305.2.1) : Nat) : Int), (((c306.2.1) : Nat) : Int), (c307.2.1)]] : List (List Int))) x6).2.1), []))
              (cond (Nat.beq ((ih x0 x1 x2 x3 (IntKind.i64.wrap (x4 + 1)) (((x5.drop 0).take x5.length) ++ ([[((((r37 0 (c303.2.1) false (c303.2.2)).2.1) : Nat) : Int), (((c304.2.1) : Nat) : Int), (((c305.2.1) : Nat) : Int), (((c306.2.1) : Nat) : Int), (c307.2.1)]] : List (List Int))) x6).1) 2)
               (k (2, [], ((ih x0 x1 x2 x3 (IntKind.i64.wrap (x4 + 1)) (((x5.drop 0).take x5.length) ++ ([[((((r37 0 (c303.2.1) false (c303.2.2)).2.1) : Nat) : Int), (((c304.2.1) : Nat) : Int), (((c305.2.1) : Nat) : Int), (((c306.2.1) : Nat) : Int), (c307.2.1)]] : List (List Int))) x6).2.2)))
               (cond (Nat.beq ((ih x0 x1 x2 x3 (IntKind.i64.wrap (x4 + 1)) (((x5.drop 0).take x5.length) ++ ([[((((r37 0 (c303.2.1) false (c303.2.2)).2.1) : Nat) : Int), (((c304.2.1) : Nat) : Int), (((c305.2.1) : Nat) : Int), (((c306.2.1) : Nat) : Int), (c307.2.1)]] : List (List Int))) x6).1) 3)
                (k (2, [], (((x5.drop 0).take x5.length) ++ ([[((((r37 0 (c303.2.1) false (c303.2.2)).2.1) : Nat) : Int), (((c304.2.1) : Nat) : Int), (((c305.2.1) : Nat) : Int), (((c306.2.1) : Nat) : Int), (c307.2.1)]] : List (List Int)))))
                (k (4, [], []))))))
            (k (4, [], []))))
          (k (4, [], [])))
         (k (4, [], [])))
        (k (4, [], [])))
       (k (4, [], [])))
      (k (4, [], [])))
     (k (4, [], [])))
    (k (4, [], [])))
   (k (4, [], [])))
  (k (3, [], []))
noncomputable def b7l0b (ih : ByteArray → Nat → Nat → Int → Int → List (List Int) → List ByteArray → (Nat × List (List Int) × List (List Int))) (x0 : ByteArray) (x1 x2 : Nat) (x3 x4 : Int) (x5 : List (List Int)) (x6 : List ByteArray) : Nat × List (List Int) × List (List Int) := w7l0b ih x0 x1 x2 x3 x4 x5 x6 (fun p => p)
noncomputable def r7l0b : Nat → ByteArray → Nat → Nat → Int → Int → List (List Int) → List ByteArray → (Nat × List (List Int) × List (List Int))
 | 0 => fun _ _ _ _ _ _ _ => (4, [], [])
 | m + 1 => b7l0b (r7l0b m)
noncomputable def g7l0b (x0 : ByteArray) (x1 x2 : Nat) (x3 x4 : Int) (x5 : List (List Int)) (x6 : List ByteArray) (p : Nat × List (List Int) × List (List Int)) : List (Bool × (Fin' × List Value × St)) := [((Nat.beq (p.1) 0), .ret, [.string x0, .slice none 0 0, vi 5, wsl 0], ⟨[⟨true, (some (.tab sc0 x5))⟩, ⟨true, (some (.strs x6))⟩], 2, [0]⟩), ((Nat.beq (p.1) 1), .ret, [.string x0, .slice none 0 0, vi 5, wsl 2], ⟨[⟨true, none⟩, ⟨true, (some (.strs x6))⟩, ⟨true, (some (.tab sc0 (p.2.1)))⟩], 2, [0]⟩), ((Nat.beq (p.1) 2), .exit 0, [.string x0, anyV, anyV, wsl 2], ⟨[⟨true, none⟩, ⟨true, (some (.strs x6))⟩, ⟨true, (some (.tab sc0 (p.2.2)))⟩], 2, [0]⟩), ((Nat.beq (p.1) 3), .exit 0, [.string x0, anyV, anyV, wsl 0], ⟨[⟨true, (some (.tab sc0 x5))⟩, ⟨true, (some (.strs x6))⟩], 2, [0]⟩)]
noncomputable def a7l0b (x0 : ByteArray) (x1 x2 : Nat) (x3 x4 : Int) (x5 : List (List Int)) (x6 : List ByteArray) (p : Nat × List (List Int) × List (List Int)) : Option (Fin' × List Value × St) := firstT ((g7l0b x0 x1 x2 x3 x4 x5 x6 p).map fun (b, x) => (b, (x.1, frameOf 62 [0, 2, 3, 6] x.2.1, x.2.2)))
noncomputable def u7l0b (x0 : ByteArray) (x1 x2 : Nat) (x3 x4 : Int) (x5 : List (List Int)) (x6 : List ByteArray) (p : Nat × List (List Int) × List (List Int)) : Option (Fin' × List Value × St) := alts ((g7l0b x0 x1 x2 x3 x4 x5 x6 p).map fun (b, x) => (b, (x.1, frameOf 62 [0, 2, 3, 6] x.2.1, x.2.2))) some
theorem v7l0b (x0 : ByteArray) (x1 x2 : Nat) (x3 x4 : Int) (x5 : List (List Int)) (x6 : List ByteArray) (p : Nat × List (List Int) × List (List Int)) : u7l0b x0 x1 x2 x3 x4 x5 x6 p = a7l0b x0 x1 x2 x3 x4 x5 x6 p := alts_first _
noncomputable def q7l0b (m : Nat) : SumK := fun vals s =>
 match vals, s.h with
 | [.string x0, .iface f0 .nilIface, .iface x2 (.pointer (some ⟨f1, x1, some f2⟩)), .int .i64 x3, .int .i64 x4], [⟨true, some (.tab [.fl .f32, .fl .f32, .fl .f32, .fl .f32, .int .i64] x5)⟩, ⟨true, some (.strs x6)⟩] => if f0 = 0 ∧ f1 = 1 ∧ f2 = 0 then (g7l0b x0 x1 x2 x3 x4 x5 x6 (r7l0b m x0 x1 x2 x3 x4 x5 x6)) else Q7l0 vals s
 | _, _ => Q7l0 vals s
theorem p7l0b {α : Type} (ih : ByteArray → Nat → Nat → Int → Int → List (List Int) → List ByteArray → (Nat × List (List Int) × List (List Int))) (x0 : ByteArray) (x1 x2 : Nat) (x3 x4 : Int) (x5 : List (List Int)) (x6 : List ByteArray) (f : (Nat × List (List Int) × List (List Int)) → α) : w7l0b ih x0 x1 x2 x3 x4 x5 x6 f = f (w7l0b ih x0 x1 x2 x3 x4 x5 x6 (fun p => p)) := by unfold w7l0b; repeat' (first | refine cond_app f _ ?_ ?_ | rfl)
set_option maxRecDepth 100000 in
set_option maxHeartbeats 4000000 in
theorem e7l0b (m : Nat) (x0 : ByteArray) (x1 x2 : Nat) (x3 x4 : Int) (x5 : List (List Int)) (x6 : List ByteArray) : evC Tryz.prog ext T36 L7_1 200 (loopN Tryz.f7 0) (loopTail ([0, 6, 24, 25, 26], []) [0, 2, 3, 6] [0] (sumK 62 [0, 6, 24, 25, 26] [0, 2, 3, 6] (q7l0b m))) (frameOf 62 [0, 6, 24, 25, 26] [.string x0, wsl 0, rsl ⟨1, x1, some 0⟩ x2, vi x3, vi x4]) ⟨[⟨true, (some (.tab sc0 x5))⟩, ⟨true, (some (.strs x6))⟩], 2, []⟩ = firstT ((g7l0b x0 x1 x2 x3 x4 x5 x6 (r7l0b (m + 1) x0 x1 x2 x3 x4 x5 x6)).map fun (b, x) => (b, (x.1, frameOf 62 [0, 2, 3, 6] x.2.1, x.2.2))) :=
 Eq.trans (by kernel_rfl) (p7l0b (r7l0b m) x0 x1 x2 x3 x4 x5 x6 (fun p => firstT ((g7l0b x0 x1 x2 x3 x4 x5 x6 p).map fun (b, x) => (b, (x.1, frameOf 62 [0, 2, 3, 6] x.2.1, x.2.2)))))
set_option maxRecDepth 100000 in
set_option maxHeartbeats 4000000 in
theorem qm7l0b : ∀ m, SumKOk Tryz.prog (loopN Tryz.f7 0) 62 [0, 6, 24, 25, 26] [0, 2, 3, 6] (q7l0b m) := by
  intro m
  induction m with
  | zero =>
    intro vals s x h1 h2 h3
    unfold q7l0b at h3; split at h3
    · rename_i h; split at h3
      · rename_i hc; obtain ⟨rfl, rfl, rfl⟩ := hc; exact absurd h3 (by simp [r7l0b, g7l0b, firstT, Nat.beq])
      · exact qok7l0 _ _ _ h1 h2 h3
    · exact qok7l0 _ _ _ h1 h2 h3
  | succ m ih =>
    intro vals s x h1 h2 h3
    unfold q7l0b at h3; split at h3
    · rename_i h; split at h3
      · rename_i hc; obtain ⟨rfl, rfl, rfl⟩ := hc; exact sum_step ok36 extOk mixed (lok7_1.inner (by kernel_rfl)) ih h1 h2 h (e7l0b m _ _ _ _ _ _ _) rfl h3
      · exact qok7l0 _ _ _ h1 h2 h3
    · exact qok7l0 _ _ _ h1 h2 h3
noncomputable def Q7l0b : SumK := fun vals s => q7l0b (fuelOf vals s.h) vals s
theorem qok7l0b : SumKOk Tryz.prog (loopN Tryz.f7 0) 62 [0, 6, 24, 25, 26] [0, 2, 3, 6] Q7l0b := fuel_ok qm7l0b fuelOf
noncomputable def L7_2 : LoopT := addL L7_1 7 ([0, 6, 24, 25, 26], []) (sumK 62 [0, 6, 24, 25, 26] [0, 2, 3, 6] Q7l0b)
theorem lok7_2 : LfOkF Tryz.prog L7_2 Tryz.f7 := lfOkF_add lok7_1 qok7l0b (by kernel_rfl) (by kernel_rfl) (by kernel_rfl)

/-- impl.ReadChimney -/
noncomputable def w7 {α : Type} (x0 : ByteArray) (k : (Nat × List (List Int)) → α) : α :=
 let c309 := (r7l0b (1000 + ((r35 x0).2.2.2).length + 0 + (x0.size)) x0 0 ((r35 x0).2.1) ((((r35 x0).2.1) : Nat) : Int) 0 ([] : List (List Int)) ((r35 x0).2.2.2))
 cond (Nat.beq ((r35 x0).1) 0)
  (cond (Nat.beq ((r16 ([] : List (List Int))).1) 0)
   (cond (!((r16 ([] : List (List Int))).2))
    (k (0, []))
    (cond (Nat.beq ((r40 ([] : List (List Int))).1) 0)
     (cond (!(((r40 ([] : List (List Int))).2).toList == x0.toList))
      (k (0, []))
      (k (1, ([] : List (List Int)))))
     (k (2, []))))
   (k (2, [])))
  (cond (Nat.beq ((r35 x0).1) 1)
   (cond (!((r35 x0).2.2.1))
    (k (0, []))
    (cond (decide ((((((r35 x0).2.1) : Nat) : Int) : Int) > 6))
     (k (0, []))
     (cond (Nat.beq (c309.1) 0)
      (k (0, []))
      (cond (Nat.beq (c309.1) 1)
       (k (0, []))
       (cond (Nat.beq (c309.1) 2)
        (cond (Nat.beq ((r16 (c309.2.2)).1) 0)
         (cond (!((r16 (c309.2.2)).2))
          (k (0, []))
          (cond (Nat.beq ((r40 (c309.2.2)).1) 0)
           (cond (!(((r40 (c309.2.2)).2).toList == x0.toList))
            (k (0, []))
            (k (1, (c309.2.2))))
           (k (2, []))))
         (k (2, [])))
        (cond (Nat.beq (c309.1) 3)
         (cond (Nat.beq ((r16 ([] : List (List Int))).1) 0)
          (cond (!((r16 ([] : List (List Int))).2))
           (k (0, []))
           (cond (Nat.beq ((r40 ([] : List (List Int))).1) 0)
            (cond (!(((r40 ([] : List (List Int))).2).toList == x0.toList))
             (k (0, []))
             (k (1, ([] : List (List Int)))))
            (k (2, []))))
          (k (2, [])))
         (k (2, []))))))))
   (k (2, [])))
noncomputable def r7 (x0 : ByteArray) : Nat × List (List Int) := w7 x0 (fun p => p)
noncomputable def g7 (x0 : ByteArray) (p : Nat × List (List Int)) : List (Bool × Value × St) := [((Nat.beq (p.1) 0), .tuple #[.slice none 0 0, vi 5], st0), ((Nat.beq (p.1) 1), .tuple #[wsl 0, vi 0], ⟨[⟨true, (some (.tab sc0 (p.2)))⟩], 0, []⟩)]
theorem p7 {α : Type} (x0 : ByteArray) (f : (Nat × List (List Int)) → α) : w7 x0 f = f (w7 x0 (fun p => p)) := by unfold w7; repeat' (first | refine cond_app f _ ?_ ?_ | rfl)
set_option maxRecDepth 100000 in
set_option maxHeartbeats 4000000 in
theorem e7 (x0 : ByteArray) : evFn Tryz.prog ext T36 L7_2 200 Tryz.f7 [.string x0] st0 = firstT (g7 x0 (r7 x0)) :=
 Eq.trans (by kernel_rfl) (p7 x0 (fun p => firstT (g7 x0 p)))
noncomputable def s7 (args : List Value) (s : St) : List (Bool × Value × St) :=
 match args, s.h with
 | [.string x0], [] => (g7 x0 (r7 x0))
 | _, _ => T36 7 args s
noncomputable def T37 : CallF := addF T36 7 s7
set_option maxRecDepth 100000 in
set_option maxHeartbeats 4000000 in
theorem ok37 : CfOk Tryz.prog T37 := by
  refine cfOk_add ok36 fun args s r s' h1 h2 h3 => ?_
  unfold s7 at h3; split at h3
  · rename_i h; exact callOk ok36 Tryz.func7 h1 h2 h lok7_2.body (e7 _) rfl h3
  · exact ok36 _ _ _ _ _ h1 h2 h3

/-- laws.eqFlueS, loop 0 -/
noncomputable def w8l0 {α : Type} (x0 : List (List Int)) (k : Unit → α) : α :=
 k ()
noncomputable def r8l0 (x0 : List (List Int)) : Unit := w8l0 x0 (fun p => p)
noncomputable def g8l0 (x0 : List (List Int)) (p : Unit) : List (Bool × (Fin' × List Value × St)) := [(true, .exit 0, [anyV], ⟨[⟨true, (some (.tab sc0 x0))⟩], 1, []⟩)]
theorem p8l0 {α : Type} (x0 : List (List Int)) (f : Unit → α) : w8l0 x0 f = f (w8l0 x0 (fun p => p)) := by unfold w8l0; exact rfl
set_option maxRecDepth 100000 in
set_option maxHeartbeats 4000000 in
theorem e8l0 (x0 : List (List Int)) : evC Tryz.prog ext T37 noL 200 (loopN Tryz.f8 0) (loopTail ([0, 1, 5], []) [4] [] (sumK 27 [0, 1, 5] [4] noQ)) (frameOf 27 [0, 1, 5] [.slice none 0 0, wsl 0, vi 0]) ⟨[⟨true, (some (.tab sc0 x0))⟩], 1, []⟩ = firstT ((g8l0 x0 (r8l0 x0)).map fun (b, x) => (b, (x.1, frameOf 27 [4] x.2.1, x.2.2))) :=
 Eq.trans (by kernel_rfl) (p8l0 x0 (fun p => firstT ((g8l0 x0 p).map fun (b, x) => (b, (x.1, frameOf 27 [4] x.2.1, x.2.2)))))
noncomputable def Q8l0 : SumK := fun vals s =>
 match vals, s.h with
 | [.slice none f0 f1, .iface f2 .nilIface, .int .i64 f3], [⟨true, some (.tab [.fl .f32, .fl .f32, .fl .f32, .fl .f32, .int .i64] x0)⟩] => if f0 = 0 ∧ f1 = 0 ∧ f2 = 0 ∧ f3 = 0 then (g8l0 x0 (r8l0 x0)) else noQ vals s
 | _, _ => noQ vals s
set_option maxRecDepth 100000 in
set_option maxHeartbeats 4000000 in
theorem qok8l0 : SumKOk Tryz.prog (loopN Tryz.f8 0) 27 [0, 1, 5] [4] Q8l0 := by
  intro vals s x h1 h2 h3
  unfold Q8l0 at h3; split at h3
  · rename_i h; split at h3
    · rename_i hc; obtain ⟨rfl, rfl, rfl, rfl⟩ := hc; exact sum_step ok37 extOk mixed ((lfOkF_no _ _).inner (by kernel_rfl)) noQ_ok h1 h2 h (e8l0 _) rfl h3
    · exact noQ_ok _ _ _ h1 h2 h3
  · exact noQ_ok _ _ _ h1 h2 h3
noncomputable def L8_1 : LoopT := addL noL 5 ([0, 1, 5], []) (sumK 27 [0, 1, 5] [4] Q8l0)
theorem lok8_1 : LfOkF Tryz.prog L8_1 Tryz.f8 := lfOkF_add (lfOkF_no _ _) qok8l0 (by kernel_rfl) (by kernel_rfl) (by kernel_rfl)

/-- laws.eqFlueS -/
noncomputable def w8 {α : Type} (x0 : List (List Int)) (k : Bool → α) : α :=
 cond ((0 : Int) != ((x0.length : Nat) : Int))
  (k (false))
  (k (true))
noncomputable def r8 (x0 : List (List Int)) : Bool := w8 x0 (fun p => p)
noncomputable def g8 (x0 : List (List Int)) (p : Bool) : List (Bool × Value × St) := [(true, .bool p, ⟨[⟨true, (some (.tab sc0 x0))⟩], 1, []⟩)]
theorem p8 {α : Type} (x0 : List (List Int)) (f : Bool → α) : w8 x0 f = f (w8 x0 (fun p => p)) := by unfold w8; exact (cond_app f _ rfl rfl)
set_option maxRecDepth 100000 in
set_option maxHeartbeats 4000000 in
theorem e8 (x0 : List (List Int)) : evFn Tryz.prog ext T37 L8_1 200 Tryz.f8 [.slice none 0 0, wsl 0] ⟨[⟨true, (some (.tab sc0 x0))⟩], 1, []⟩ = firstT (g8 x0 (r8 x0)) :=
 Eq.trans (by kernel_rfl) (p8 x0 (fun p => firstT (g8 x0 p)))
noncomputable def s8 (args : List Value) (s : St) : List (Bool × Value × St) :=
 match args, s.h with
 | [.slice none f0 f1, .iface f2 .nilIface], [⟨true, some (.tab [.fl .f32, .fl .f32, .fl .f32, .fl .f32, .int .i64] x0)⟩] => if f0 = 0 ∧ f1 = 0 ∧ f2 = 0 then (g8 x0 (r8 x0)) else T37 8 args s
 | _, _ => T37 8 args s
noncomputable def T38 : CallF := addF T37 8 s8
set_option maxRecDepth 100000 in
set_option maxHeartbeats 4000000 in
theorem ok38 : CfOk Tryz.prog T38 := by
  refine cfOk_add ok37 fun args s r s' h1 h2 h3 => ?_
  unfold s8 at h3; split at h3
  · rename_i h; split at h3
    · rename_i hc; obtain ⟨rfl, rfl, rfl⟩ := hc; exact callOk ok37 Tryz.func8 h1 h2 h lok8_1.body (e8 _) rfl h3
    · exact ok37 _ _ _ _ _ h1 h2 h3
  · exact ok37 _ _ _ _ _ h1 h2 h3

/-- laws.markFlueS, loop 0 -/
noncomputable def w9l0 {α : Type} (x0 : Int) (k : Unit → α) : α :=
 k ()
noncomputable def r9l0 (x0 : Int) : Unit := w9l0 x0 (fun p => p)
noncomputable def g9l0 (x0 : Int) (p : Unit) : List (Bool × (Fin' × List Value × St)) := [(true, .exit 0, [vi x0], st0)]
theorem p9l0 {α : Type} (x0 : Int) (f : Unit → α) : w9l0 x0 f = f (w9l0 x0 (fun p => p)) := by unfold w9l0; exact rfl
set_option maxRecDepth 100000 in
set_option maxHeartbeats 4000000 in
theorem e9l0 (x0 : Int) : evC Tryz.prog ext T38 noL 200 (loopN Tryz.f9 0) (loopTail ([0, 1, 5], []) [1] [] (sumK 52 [0, 1, 5] [1] noQ)) (frameOf 52 [0, 1, 5] [.slice none 0 0, vi x0, vi 0]) ⟨[], 0, []⟩ = firstT ((g9l0 x0 (r9l0 x0)).map fun (b, x) => (b, (x.1, frameOf 52 [1] x.2.1, x.2.2))) :=
 Eq.trans (by kernel_rfl) (p9l0 x0 (fun p => firstT ((g9l0 x0 p).map fun (b, x) => (b, (x.1, frameOf 52 [1] x.2.1, x.2.2)))))
noncomputable def Q9l0 : SumK := fun vals s =>
 match vals, s.h with
 | [.slice none f0 f1, .int .i64 x0, .int .i64 f2], [] => if f0 = 0 ∧ f1 = 0 ∧ f2 = 0 then (g9l0 x0 (r9l0 x0)) else noQ vals s
 | _, _ => noQ vals s
set_option maxRecDepth 100000 in
set_option maxHeartbeats 4000000 in
theorem qok9l0 : SumKOk Tryz.prog (loopN Tryz.f9 0) 52 [0, 1, 5] [1] Q9l0 := by
  intro vals s x h1 h2 h3
  unfold Q9l0 at h3; split at h3
  · rename_i h; split at h3
    · rename_i hc; obtain ⟨rfl, rfl, rfl⟩ := hc; exact sum_step ok38 extOk mixed ((lfOkF_no _ _).inner (by kernel_rfl)) noQ_ok h1 h2 h (e9l0 _) rfl h3
    · exact noQ_ok _ _ _ h1 h2 h3
  · exact noQ_ok _ _ _ h1 h2 h3
noncomputable def L9_1 : LoopT := addL noL 3 ([0, 1, 5], []) (sumK 52 [0, 1, 5] [1] Q9l0)
theorem lok9_1 : LfOkF Tryz.prog L9_1 Tryz.f9 := lfOkF_add (lfOkF_no _ _) qok9l0 (by kernel_rfl) (by kernel_rfl) (by kernel_rfl)

/-- laws.markFlueS -/
noncomputable def w9 {α : Type} (x0 : Int) (k : Unit → α) : α :=
 k ()
noncomputable def r9 (x0 : Int) : Unit := w9 x0 (fun p => p)
noncomputable def g9 (x0 : Int) (p : Unit) : List (Bool × Value × St) := [(true, vi x0, st0)]
theorem p9 {α : Type} (x0 : Int) (f : Unit → α) : w9 x0 f = f (w9 x0 (fun p => p)) := by unfold w9; exact rfl
set_option maxRecDepth 100000 in
set_option maxHeartbeats 4000000 in
theorem e9 (x0 : Int) : evFn Tryz.prog ext T38 L9_1 200 Tryz.f9 [.slice none 0 0, vi x0] st0 = firstT (g9 x0 (r9 x0)) :=
 Eq.trans (by kernel_rfl) (p9 x0 (fun p => firstT (g9 x0 p)))
noncomputable def s9 (args : List Value) (s : St) : List (Bool × Value × St) :=
 match args, s.h with
 | [.slice none f0 f1, .int .i64 x0], [] => if f0 = 0 ∧ f1 = 0 then (g9 x0 (r9 x0)) else T38 9 args s
 | _, _ => T38 9 args s
noncomputable def T39 : CallF := addF T38 9 s9
set_option maxRecDepth 100000 in
set_option maxHeartbeats 4000000 in
theorem ok39 : CfOk Tryz.prog T39 := by
  refine cfOk_add ok38 fun args s r s' h1 h2 h3 => ?_
  unfold s9 at h3; split at h3
  · rename_i h; split at h3
    · rename_i hc; obtain ⟨rfl, rfl⟩ := hc; exact callOk ok38 Tryz.func9 h1 h2 h lok9_1.body (e9 _) rfl h3
    · exact ok38 _ _ _ _ _ h1 h2 h3
  · exact ok38 _ _ _ _ _ h1 h2 h3

/-- laws.heldFlueS, loop 0 -/
noncomputable def w10l0 {α : Type} (x0 : Int) (k : Unit → α) : α :=
 k ()
noncomputable def r10l0 (x0 : Int) : Unit := w10l0 x0 (fun p => p)
noncomputable def g10l0 (x0 : Int) (p : Unit) : List (Bool × (Fin' × List Value × St)) := [(true, .exit 0, [vi x0, anyV], st0)]
theorem p10l0 {α : Type} (x0 : Int) (f : Unit → α) : w10l0 x0 f = f (w10l0 x0 (fun p => p)) := by unfold w10l0; exact rfl
set_option maxRecDepth 100000 in
set_option maxHeartbeats 4000000 in
theorem e10l0 (x0 : Int) : evC Tryz.prog ext T39 noL 200 (loopN Tryz.f10 0) (loopTail ([0, 1, 5], []) [1, 4] [] (sumK 62 [0, 1, 5] [1, 4] noQ)) (frameOf 62 [0, 1, 5] [.slice none 0 0, vi x0, vi 0]) ⟨[], 0, []⟩ = firstT ((g10l0 x0 (r10l0 x0)).map fun (b, x) => (b, (x.1, frameOf 62 [1, 4] x.2.1, x.2.2))) :=
 Eq.trans (by kernel_rfl) (p10l0 x0 (fun p => firstT ((g10l0 x0 p).map fun (b, x) => (b, (x.1, frameOf 62 [1, 4] x.2.1, x.2.2)))))
noncomputable def Q10l0 : SumK := fun vals s =>
 match vals, s.h with
 | [.slice none f0 f1, .int .i64 x0, .int .i64 f2], [] => if f0 = 0 ∧ f1 = 0 ∧ f2 = 0 then (g10l0 x0 (r10l0 x0)) else noQ vals s
 | _, _ => noQ vals s
set_option maxRecDepth 100000 in
set_option maxHeartbeats 4000000 in
theorem qok10l0 : SumKOk Tryz.prog (loopN Tryz.f10 0) 62 [0, 1, 5] [1, 4] Q10l0 := by
  intro vals s x h1 h2 h3
  unfold Q10l0 at h3; split at h3
  · rename_i h; split at h3
    · rename_i hc; obtain ⟨rfl, rfl, rfl⟩ := hc; exact sum_step ok39 extOk mixed ((lfOkF_no _ _).inner (by kernel_rfl)) noQ_ok h1 h2 h (e10l0 _) rfl h3
    · exact noQ_ok _ _ _ h1 h2 h3
  · exact noQ_ok _ _ _ h1 h2 h3
noncomputable def L10_1 : LoopT := addL noL 3 ([0, 1, 5], []) (sumK 62 [0, 1, 5] [1, 4] Q10l0)
theorem lok10_1 : LfOkF Tryz.prog L10_1 Tryz.f10 := lfOkF_add (lfOkF_no _ _) qok10l0 (by kernel_rfl) (by kernel_rfl) (by kernel_rfl)

/-- laws.heldFlueS -/
noncomputable def w10 {α : Type} (x0 : Int) (k : Unit → α) : α :=
 k ()
noncomputable def r10 (x0 : Int) : Unit := w10 x0 (fun p => p)
noncomputable def g10 (x0 : Int) (p : Unit) : List (Bool × Value × St) := [(true, vi x0, st0)]
theorem p10 {α : Type} (x0 : Int) (f : Unit → α) : w10 x0 f = f (w10 x0 (fun p => p)) := by unfold w10; exact rfl
set_option maxRecDepth 100000 in
set_option maxHeartbeats 4000000 in
theorem e10 (x0 : Int) : evFn Tryz.prog ext T39 L10_1 200 Tryz.f10 [.slice none 0 0, vi x0] st0 = firstT (g10 x0 (r10 x0)) :=
 Eq.trans (by kernel_rfl) (p10 x0 (fun p => firstT (g10 x0 p)))
noncomputable def s10 (args : List Value) (s : St) : List (Bool × Value × St) :=
 match args, s.h with
 | [.slice none f0 f1, .int .i64 x0], [] => if f0 = 0 ∧ f1 = 0 then (g10 x0 (r10 x0)) else T39 10 args s
 | _, _ => T39 10 args s
noncomputable def T40 : CallF := addF T39 10 s10
set_option maxRecDepth 100000 in
set_option maxHeartbeats 4000000 in
theorem ok40 : CfOk Tryz.prog T40 := by
  refine cfOk_add ok39 fun args s r s' h1 h2 h3 => ?_
  unfold s10 at h3; split at h3
  · rename_i h; split at h3
    · rename_i hc; obtain ⟨rfl, rfl⟩ := hc; exact callOk ok39 Tryz.func10 h1 h2 h lok10_1.body (e10 _) rfl h3
    · exact ok39 _ _ _ _ _ h1 h2 h3
  · exact ok39 _ _ _ _ _ h1 h2 h3

/-- laws.sameFloat -/
noncomputable def r86 (x0 x1 : Nat) : Bool :=
 cond (!feq .f64 x0 x0)
  ((!feq .f64 x1 x1))
  (cond (!feq .f64 x1 x1)
   (false)
   (cond (feq .f64 x0 0)
    (cond (feq .f64 x1 0)
     (((fgt .f64 (fdiv .f64 4607182418800017408 x0) 0) == (fgt .f64 (fdiv .f64 4607182418800017408 x1) 0)))
     ((feq .f64 x0 x1)))
    ((feq .f64 x0 x1))))
noncomputable def a86 (x0 x1 : Nat) (p : Bool) : Res := firstT [(true, .bool p, st0)]
noncomputable def w86 (x0 x1 : Nat) : Res :=
 (cond (!feq .f64 x0 x0)
 (cond (!feq .f64 x0 x0)
  (a86 x0 x1 ((!feq .f64 x1 x1)))
  (some (.bool false, st0)))
 (cond (!feq .f64 x1 x1)
  (cond (!feq .f64 x0 x0)
   (some (.bool (!feq .f64 x1 x1), st0))
   (a86 x0 x1 (false)))
  (cond (feq .f64 x0 0)
   (cond (feq .f64 x1 0)
    (a86 x0 x1 (((fgt .f64 (fdiv .f64 4607182418800017408 x0) 0) == (fgt .f64 (fdiv .f64 4607182418800017408 x1) 0))))
    (a86 x0 x1 ((feq .f64 x0 x1))))
   (a86 x0 x1 ((feq .f64 x0 x1))))))
set_option maxRecDepth 100000 in
set_option maxHeartbeats 4000000 in
theorem e86 (x0 x1 : Nat) : evFn Tryz.prog ext T40 noL 200 Tryz.f86 [.float .f64 x0, .float .f64 x1] st0 = firstT [(true, .bool (r86 x0 x1), st0)] :=
 (show evFn Tryz.prog ext T40 noL 200 Tryz.f86 [.float .f64 x0, .float .f64 x1] st0 = w86 x0 x1 from by kernel_rfl).trans
 (show w86 x0 x1 = a86 x0 x1 (r86 x0 x1) from by unfold w86 r86; exact (cond_both (a86 x0 x1) _ (fun h0 => (cond_t (ev_not1 (ev_nott h0)) rfl)) (fun h0 => (cond_both (a86 x0 x1) _ (fun h1 => (cond_f (ev_not0 (ev_notf h0)) rfl)) (fun h1 => (cond_app (a86 x0 x1) _ (cond_app (a86 x0 x1) _ rfl rfl) rfl))))))
noncomputable def s86 (args : List Value) (s : St) : List (Bool × Value × St) :=
 match args, s.h with
 | [.float .f64 x0, .float .f64 x1], [] => [(true, .bool (r86 x0 x1), st0)]
 | _, _ => T40 86 args s
noncomputable def T41 : CallF := addF T40 86 s86
set_option maxRecDepth 100000 in
set_option maxHeartbeats 4000000 in
theorem ok41 : CfOk Tryz.prog T41 := by
  refine cfOk_add ok40 fun args s r s' h1 h2 h3 => ?_
  unfold s86 at h3; split at h3
  · rename_i h; exact callOk ok40 Tryz.func86 h1 h2 h (lfOkF_no _ _).body (e86 _ _) rfl h3
  · exact ok40 _ _ _ _ _ h1 h2 h3

/-- laws.eqFlue -/
noncomputable def w41 {α : Type} (x0 x1 x2 x3 : Nat) (x4 : Int) (x5 x6 x7 x8 : Nat) (x9 : Int) (k : Bool → α) : α :=
 cond (!(r86 (widen x0) (widen x5)))
  (k (false))
  (cond (!(r86 (widen x1) (widen x6)))
   (k (false))
   (cond (!(r86 (widen x2) (widen x7)))
    (k (false))
    (cond (!(r86 (widen x3) (widen x8)))
     (k (false))
     (cond ((x4 : Int) != x9)
      (k (false))
      (k (true))))))
noncomputable def r41 (x0 x1 x2 x3 : Nat) (x4 : Int) (x5 x6 x7 x8 : Nat) (x9 : Int) : Bool := w41 x0 x1 x2 x3 x4 x5 x6 x7 x8 x9 (fun p => p)
noncomputable def g41 (x0 x1 x2 x3 : Nat) (x4 : Int) (x5 x6 x7 x8 : Nat) (x9 : Int) (p : Bool) : List (Bool × Value × St) := [(true, .bool p, st0)]
theorem p41 {α : Type} (x0 x1 x2 x3 : Nat) (x4 : Int) (x5 x6 x7 x8 : Nat) (x9 : Int) (f : Bool → α) : w41 x0 x1 x2 x3 x4 x5 x6 x7 x8 x9 f = f (w41 x0 x1 x2 x3 x4 x5 x6 x7 x8 x9 (fun p => p)) := by unfold w41; repeat' (first | refine cond_app f _ ?_ ?_ | rfl)
set_option maxRecDepth 100000 in
set_option maxHeartbeats 4000000 in
theorem e41 (x0 x1 x2 x3 : Nat) (x4 : Int) (x5 x6 x7 x8 : Nat) (x9 : Int) : evFn Tryz.prog ext T41 noL 200 Tryz.f41 [.agg #[vf x0, vf x1, vf x2, vf x3, vi x4], .agg #[vf x5, vf x6, vf x7, vf x8, vi x9]] st0 = firstT (g41 x0 x1 x2 x3 x4 x5 x6 x7 x8 x9 (r41 x0 x1 x2 x3 x4 x5 x6 x7 x8 x9)) :=
 Eq.trans (by kernel_rfl) (p41 x0 x1 x2 x3 x4 x5 x6 x7 x8 x9 (fun p => firstT (g41 x0 x1 x2 x3 x4 x5 x6 x7 x8 x9 p)))
noncomputable def s41 (args : List Value) (s : St) : List (Bool × Value × St) :=
 match args, s.h with
 | [.agg ⟨[.float .f32 x0, .float .f32 x1, .float .f32 x2, .float .f32 x3, .int .i64 x4]⟩, .agg ⟨[.float .f32 x5, .float .f32 x6, .float .f32 x7, .float .f32 x8, .int .i64 x9]⟩], [] => (g41 x0 x1 x2 x3 x4 x5 x6 x7 x8 x9 (r41 x0 x1 x2 x3 x4 x5 x6 x7 x8 x9))
 | _, _ => T41 41 args s
noncomputable def T42 : CallF := addF T41 41 s41
set_option maxRecDepth 100000 in
set_option maxHeartbeats 4000000 in
theorem ok42 : CfOk Tryz.prog T42 := by
  refine cfOk_add ok41 fun args s r s' h1 h2 h3 => ?_
  unfold s41 at h3; split at h3
  · rename_i h; exact callOk ok41 Tryz.func41 h1 h2 h (lfOkF_no _ _).body (e41 _ _ _ _ _ _ _ _ _ _) rfl h3
  · exact ok41 _ _ _ _ _ h1 h2 h3

/-- laws.eqFlueS, loop 0: one round -/
noncomputable def b8l0b (ih : Int → List (List Int) → List (List Int) → Nat) (x0 : Int) (x1 x2 : List (List Int)) : Nat :=
 let c326 := (r41 (Int.toNat ((x1.getD (Int.toNat x0) []).getD 0 0)) (Int.toNat ((x1.getD (Int.toNat x0) []).getD 1 0)) (Int.toNat ((x1.getD (Int.toNat x0) []).getD 2 0)) (Int.toNat ((x1.getD (Int.toNat x0) []).getD 3 0)) ((x1.getD (Int.toNat x0) []).getD 4 0) (Int.toNat ((x2.getD (Int.toNat x0) []).getD 0 0)) (Int.toNat ((x2.getD (Int.toNat x0) []).getD 1 0)) (Int.toNat ((x2.getD (Int.toNat x0) []).getD 2 0)) (Int.toNat ((x2.getD (Int.toNat x0) []).getD 3 0)) ((x2.getD (Int.toNat x0) []).getD 4 0))
 cond (decide ((x0 : Int) < ((x1.length : Nat) : Int)))
  (cond ((decide ((0 : Int) ≤ x0)) && (Nat.blt (Int.toNat x0) x1.length))
   (cond ((decide ((0 : Int) ≤ x0)) && (Nat.blt (Int.toNat x0) x2.length))
    (cond (!c326)
     (0)
     (ih (IntKind.i64.wrap (x0 + 1)) x1 x2))
    (2))
   (2))
  (1)
noncomputable def r8l0b : Nat → Int → List (List Int) → List (List Int) → Nat
 | 0 => fun _ _ _ => (2)
 | m + 1 => b8l0b (r8l0b m)
noncomputable def a8l0b (x0 : Int) (x1 x2 : List (List Int)) (p : Nat) : Option (Fin' × List Value × St) := firstT ([((Nat.beq p 0), .ret, [.bool false], ⟨[⟨true, (some (.tab sc0 x1))⟩, ⟨true, (some (.tab sc0 x2))⟩], 2, []⟩), ((Nat.beq p 1), .exit 0, [anyV], ⟨[⟨true, (some (.tab sc0 x1))⟩, ⟨true, (some (.tab sc0 x2))⟩], 2, []⟩)].map fun (b, x) => (b, (x.1, frameOf 27 [4] x.2.1, x.2.2)))
noncomputable def u8l0b (x0 : Int) (x1 x2 : List (List Int)) (p : Nat) : Option (Fin' × List Value × St) := alts ([((Nat.beq p 0), .ret, [.bool false], ⟨[⟨true, (some (.tab sc0 x1))⟩, ⟨true, (some (.tab sc0 x2))⟩], 2, []⟩), ((Nat.beq p 1), .exit 0, [anyV], ⟨[⟨true, (some (.tab sc0 x1))⟩, ⟨true, (some (.tab sc0 x2))⟩], 2, []⟩)].map fun (b, x) => (b, (x.1, frameOf 27 [4] x.2.1, x.2.2))) some
theorem v8l0b (x0 : Int) (x1 x2 : List (List Int)) (p : Nat) : u8l0b x0 x1 x2 p = a8l0b x0 x1 x2 p := alts_first _
noncomputable def q8l0b (m : Nat) : SumK := fun vals s =>
 match vals, s.h with
 | [.iface f0 .nilIface, .iface f1 .nilIface, .int .i64 x0], [⟨true, some (.tab [.fl .f32, .fl .f32, .fl .f32, .fl .f32, .int .i64] x1)⟩, ⟨true, some (.tab [.fl .f32, .fl .f32, .fl .f32, .fl .f32, .int .i64] x2)⟩] => if f0 = 0 ∧ f1 = 1 then [((Nat.beq (r8l0b m x0 x1 x2) 0), .ret, [.bool false], ⟨[⟨true, (some (.tab sc0 x1))⟩, ⟨true, (some (.tab sc0 x2))⟩], 2, []⟩), ((Nat.beq (r8l0b m x0 x1 x2) 1), .exit 0, [anyV], ⟨[⟨true, (some (.tab sc0 x1))⟩, ⟨true, (some (.tab sc0 x2))⟩], 2, []⟩)] else Q8l0 vals s
 | _, _ => Q8l0 vals s
noncomputable def w8l0b (ih : Int → List (List Int) → List (List Int) → Nat) (x0 : Int) (x1 x2 : List (List Int)) : Option (Fin' × List Value × St) :=
 let c326 := (r41 (Int.toNat ((x1.getD (Int.toNat x0) []).getD 0 0)) (Int.toNat ((x1.getD (Int.toNat x0) []).getD 1 0)) (Int.toNat ((x1.getD (Int.toNat x0) []).getD 2 0)) (Int.toNat ((x1.getD (Int.toNat x0) []).getD 3 0)) ((x1.getD (Int.toNat x0) []).getD 4 0) (Int.toNat ((x2.getD (Int.toNat x0) []).getD 0 0)) (Int.toNat ((x2.getD (Int.toNat x0) []).getD 1 0)) (Int.toNat ((x2.getD (Int.toNat x0) []).getD 2 0)) (Int.toNat ((x2.getD (Int.toNat x0) []).getD 3 0)) ((x2.getD (Int.toNat x0) []).getD 4 0))
 (cond (decide ((x0 : Int) < ((x1.length : Nat) : Int)))
 (cond ((decide ((0 : Int) ≤ x0)) && (Nat.blt (Int.toNat x0) x1.length))
  (cond (Nat.blt (Int.toNat x0) x1.length)
   (cond ((decide ((0 : Int) ≤ x0)) && (Nat.blt (Int.toNat x0) x2.length))
    (cond (Nat.blt (Int.toNat x0) x2.length)
     (cond (!c326)
      (a8l0b x0 x1 x2 (0))
      (u8l0b x0 x1 x2 (ih (IntKind.i64.wrap (x0 + 1)) x1 x2)))
     none)
    none)
   none)
  none)
 (a8l0b x0 x1 x2 (1)))
set_option maxRecDepth 100000 in
set_option maxHeartbeats 4000000 in
theorem e8l0b (m : Nat) (x0 : Int) (x1 x2 : List (List Int)) : evC Tryz.prog ext T42 L8_1 200 (loopN Tryz.f8 0) (loopTail ([0, 1, 5], []) [4] [] (sumK 27 [0, 1, 5] [4] (q8l0b m))) (frameOf 27 [0, 1, 5] [wsl 0, wsl 1, vi x0]) ⟨[⟨true, (some (.tab sc0 x1))⟩, ⟨true, (some (.tab sc0 x2))⟩], 2, []⟩ = firstT ([((Nat.beq (r8l0b (m + 1) x0 x1 x2) 0), .ret, [.bool false], ⟨[⟨true, (some (.tab sc0 x1))⟩, ⟨true, (some (.tab sc0 x2))⟩], 2, []⟩), ((Nat.beq (r8l0b (m + 1) x0 x1 x2) 1), .exit 0, [anyV], ⟨[⟨true, (some (.tab sc0 x1))⟩, ⟨true, (some (.tab sc0 x2))⟩], 2, []⟩)].map fun (b, x) => (b, (x.1, frameOf 27 [4] x.2.1, x.2.2))) :=
 (show evC Tryz.prog ext T42 L8_1 200 (loopN Tryz.f8 0) (loopTail ([0, 1, 5], []) [4] [] (sumK 27 [0, 1, 5] [4] (q8l0b m))) (frameOf 27 [0, 1, 5] [wsl 0, wsl 1, vi x0]) ⟨[⟨true, (some (.tab sc0 x1))⟩, ⟨true, (some (.tab sc0 x2))⟩], 2, []⟩ = w8l0b (r8l0b m) x0 x1 x2 from by kernel_rfl).trans
 (show w8l0b (r8l0b m) x0 x1 x2 = a8l0b x0 x1 x2 (r8l0b (m + 1) x0 x1 x2) from by unfold w8l0b; show _ = a8l0b x0 x1 x2 (b8l0b (r8l0b m) x0 x1 x2); unfold b8l0b; exact (cond_both (a8l0b x0 x1 x2) _ (fun h0 => (cond_both (a8l0b x0 x1 x2) _ (fun h1 => (cond_t (ev_and2 h1) (cond_both (a8l0b x0 x1 x2) _ (fun h2 => (cond_t (ev_and2 h2) (cond_app (a8l0b x0 x1 x2) _ rfl (v8l0b x0 x1 x2 ((r8l0b m) (IntKind.i64.wrap (x0 + 1)) x1 x2))))) (fun h2 => rfl)))) (fun h1 => rfl))) (fun h0 => rfl)))
set_option maxRecDepth 100000 in
set_option maxHeartbeats 4000000 in
theorem qm8l0b : ∀ m, SumKOk Tryz.prog (loopN Tryz.f8 0) 27 [0, 1, 5] [4] (q8l0b m) := by
  intro m
  induction m with
  | zero =>
    intro vals s x h1 h2 h3
    unfold q8l0b at h3; split at h3
    · rename_i h; split at h3
      · rename_i hc; obtain ⟨rfl, rfl⟩ := hc; exact absurd h3 (by simp [r8l0b, firstT, Nat.beq])
      · exact qok8l0 _ _ _ h1 h2 h3
    · exact qok8l0 _ _ _ h1 h2 h3
  | succ m ih =>
    intro vals s x h1 h2 h3
    unfold q8l0b at h3; split at h3
    · rename_i h; split at h3
      · rename_i hc; obtain ⟨rfl, rfl⟩ := hc; exact sum_step ok42 extOk mixed (lok8_1.inner (by kernel_rfl)) ih h1 h2 h (e8l0b m _ _ _) rfl h3
      · exact qok8l0 _ _ _ h1 h2 h3
    · exact qok8l0 _ _ _ h1 h2 h3
noncomputable def Q8l0b : SumK := fun vals s => q8l0b (fuelOf vals s.h) vals s
theorem qok8l0b : SumKOk Tryz.prog (loopN Tryz.f8 0) 27 [0, 1, 5] [4] Q8l0b := fuel_ok qm8l0b fuelOf
noncomputable def L8_2 : LoopT := addL L8_1 5 ([0, 1, 5], []) (sumK 27 [0, 1, 5] [4] Q8l0b)
theorem lok8_2 : LfOkF Tryz.prog L8_2 Tryz.f8 := lfOkF_add lok8_1 qok8l0b (by kernel_rfl) (by kernel_rfl) (by kernel_rfl)

/-- laws.eqFlueS -/
noncomputable def w8b {α : Type} (x0 x1 : List (List Int)) (k : (Nat × Bool) → α) : α :=
 let c327 := (r8l0b (1000 + x1.length + x0.length) 0 x0 x1)
 cond ((((x0.length : Nat) : Int) : Int) != ((x1.length : Nat) : Int))
  (k (0, false))
  (cond (Nat.beq c327 0)
   (k (0, false))
   (cond (Nat.beq c327 1)
    (k (0, true))
    (k (1, false))))
noncomputable def r8b (x0 x1 : List (List Int)) : Nat × Bool := w8b x0 x1 (fun p => p)
noncomputable def g8b (x0 x1 : List (List Int)) (p : Nat × Bool) : List (Bool × Value × St) := [((Nat.beq (p.1) 0), .bool (p.2), ⟨[⟨true, (some (.tab sc0 x0))⟩, ⟨true, (some (.tab sc0 x1))⟩], 2, []⟩)]
theorem p8b {α : Type} (x0 x1 : List (List Int)) (f : (Nat × Bool) → α) : w8b x0 x1 f = f (w8b x0 x1 (fun p => p)) := by unfold w8b; exact (cond_app f _ rfl (cond_app f _ rfl (cond_app f _ rfl rfl)))
set_option maxRecDepth 100000 in
set_option maxHeartbeats 4000000 in
theorem e8b (x0 x1 : List (List Int)) : evFn Tryz.prog ext T42 L8_2 200 Tryz.f8 [wsl 0, wsl 1] ⟨[⟨true, (some (.tab sc0 x0))⟩, ⟨true, (some (.tab sc0 x1))⟩], 2, []⟩ = firstT (g8b x0 x1 (r8b x0 x1)) :=
 Eq.trans (by kernel_rfl) (p8b x0 x1 (fun p => firstT (g8b x0 x1 p)))
noncomputable def s8b (args : List Value) (s : St) : List (Bool × Value × St) :=
 match args, s.h with
 | [.iface f0 .nilIface, .iface f1 .nilIface], [⟨true, some (.tab [.fl .f32, .fl .f32, .fl .f32, .fl .f32, .int .i64] x0)⟩, ⟨true, some (.tab [.fl .f32, .fl .f32, .fl .f32, .fl .f32, .int .i64] x1)⟩] => if f0 = 0 ∧ f1 = 1 then (g8b x0 x1 (r8b x0 x1)) else T42 8 args s
 | _, _ => T42 8 args s
noncomputable def T43 : CallF := addF T42 8 s8b
set_option maxRecDepth 100000 in
set_option maxHeartbeats 4000000 in
theorem ok43 : CfOk Tryz.prog T43 := by
  refine cfOk_add ok42 fun args s r s' h1 h2 h3 => ?_
  unfold s8b at h3; split at h3
  · rename_i h; split at h3
    · rename_i hc; obtain ⟨rfl, rfl⟩ := hc; exact callOk ok42 Tryz.func8 h1 h2 h lok8_2.body (e8b _ _) rfl h3
    · exact ok42 _ _ _ _ _ h1 h2 h3
  · exact ok42 _ _ _ _ _ h1 h2 h3

/-- laws.markFlueS, loop 0: one round -/
noncomputable def b9l0b (ih : Int → Int → List (List Int) → (Nat × Int × List (List Int))) (x0 x1 : Int) (x2 : List (List Int)) : Nat × Int × List (List Int) :=
 cond (decide ((x1 : Int) < ((x2.length : Nat) : Int)))
  (cond ((decide ((0 : Int) ≤ x1)) && (Nat.blt (Int.toNat x1) x2.length))
   (cond ((decide ((0 : Int) ≤ x1)) && (Nat.blt (Int.toNat x1) ((x2.modify (Int.toNat x1) (fun r => spl 5 r 0 [(((ofInt .f32 x0) : Nat) : Int)])).length)))
    (cond ((decide ((0 : Int) ≤ x1)) && (Nat.blt (Int.toNat x1) (((x2.modify (Int.toNat x1) (fun r => spl 5 r 0 [(((ofInt .f32 x0) : Nat) : Int)])).modify (Int.toNat x1) (fun r => spl 5 r 1 [(((ofInt .f32 (IntKind.i64.wrap (x0 + 1))) : Nat) : Int)])).length)))
     (cond ((decide ((0 : Int) ≤ x1)) && (Nat.blt (Int.toNat x1) ((((x2.modify (Int.toNat x1) (fun r => spl 5 r 0 [(((ofInt .f32 x0) : Nat) : Int)])).modify (Int.toNat x1) (fun r => spl 5 r 1 [(((ofInt .f32 (IntKind.i64.wrap (x0 + 1))) : Nat) : Int)])).modify (Int.toNat x1) (fun r => spl 5 r 2 [(((ofInt .f32 (IntKind.i64.wrap ((IntKind.i64.wrap (x0 + 1)) + 1))) : Nat) : Int)])).length)))
      (cond ((decide ((0 : Int) ≤ x1)) && (Nat.blt (Int.toNat x1) (((((x2.modify (Int.toNat x1) (fun r => spl 5 r 0 [(((ofInt .f32 x0) : Nat) : Int)])).modify (Int.toNat x1) (fun r => spl 5 r 1 [(((ofInt .f32 (IntKind.i64.wrap (x0 + 1))) : Nat) : Int)])).modify (Int.toNat x1) (fun r => spl 5 r 2 [(((ofInt .f32 (IntKind.i64.wrap ((IntKind.i64.wrap (x0 + 1)) + 1))) : Nat) : Int)])).modify (Int.toNat x1) (fun r => spl 5 r 3 [(((ofInt .f32 (IntKind.i64.wrap ((IntKind.i64.wrap ((IntKind.i64.wrap (x0 + 1)) + 1)) + 1))) : Nat) : Int)])).length)))
       (ih (IntKind.i64.wrap ((IntKind.i64.wrap ((IntKind.i64.wrap ((IntKind.i64.wrap ((IntKind.i64.wrap (x0 + 1)) + 1)) + 1)) + 1)) + 1)) (IntKind.i64.wrap (x1 + 1)) (((((x2.modify (Int.toNat x1) (fun r => spl 5 r 0 [(((ofInt .f32 x0) : Nat) : Int)])).modify (Int.toNat x1) (fun r => spl 5 r 1 [(((ofInt .f32 (IntKind.i64.wrap (x0 + 1))) : Nat) : Int)])).modify (Int.toNat x1) (fun r => spl 5 r 2 [(((ofInt .f32 (IntKind.i64.wrap ((IntKind.i64.wrap (x0 + 1)) + 1))) : Nat) : Int)])).modify (Int.toNat x1) (fun r => spl 5 r 3 [(((ofInt .f32 (IntKind.i64.wrap ((IntKind.i64.wrap ((IntKind.i64.wrap (x0 + 1)) + 1)) + 1))) : Nat) : Int)])).modify (Int.toNat x1) (fun r => spl 5 r 4 [(IntKind.i64.wrap ((IntKind.i64.wrap ((IntKind.i64.wrap ((IntKind.i64.wrap (x0 + 1)) + 1)) + 1)) + 1))])))
       (1, 0, []))
      (1, 0, []))
     (1, 0, []))
    (1, 0, []))
   (1, 0, []))
  (0, x0, x2)
noncomputable def r9l0b : Nat → Int → Int → List (List Int) → (Nat × Int × List (List Int))
 | 0 => fun _ _ _ => (1, 0, [])
 | m + 1 => b9l0b (r9l0b m)
noncomputable def a9l0b (x0 x1 : Int) (x2 : List (List Int)) (p : Nat × Int × List (List Int)) : Option (Fin' × List Value × St) := firstT ([((Nat.beq (p.1) 0), .exit 0, [vi (p.2.1)], ⟨[⟨true, (some (.tab sc0 (p.2.2)))⟩], 1, [0]⟩)].map fun (b, x) => (b, (x.1, frameOf 52 [1] x.2.1, x.2.2)))
noncomputable def u9l0b (x0 x1 : Int) (x2 : List (List Int)) (p : Nat × Int × List (List Int)) : Option (Fin' × List Value × St) := alts ([((Nat.beq (p.1) 0), .exit 0, [vi (p.2.1)], ⟨[⟨true, (some (.tab sc0 (p.2.2)))⟩], 1, [0]⟩)].map fun (b, x) => (b, (x.1, frameOf 52 [1] x.2.1, x.2.2))) some
theorem v9l0b (x0 x1 : Int) (x2 : List (List Int)) (p : Nat × Int × List (List Int)) : u9l0b x0 x1 x2 p = a9l0b x0 x1 x2 p := alts_first _
noncomputable def q9l0b (m : Nat) : SumK := fun vals s =>
 match vals, s.h with
 | [.iface f0 .nilIface, .int .i64 x0, .int .i64 x1], [⟨true, some (.tab [.fl .f32, .fl .f32, .fl .f32, .fl .f32, .int .i64] x2)⟩] => if f0 = 0 then [((Nat.beq ((r9l0b m x0 x1 x2).1) 0), .exit 0, [vi ((r9l0b m x0 x1 x2).2.1)], ⟨[⟨true, (some (.tab sc0 ((r9l0b m x0 x1 x2).2.2)))⟩], 1, [0]⟩)] else Q9l0 vals s
 | _, _ => Q9l0 vals s
noncomputable def w9l0b (ih : Int → Int → List (List Int) → (Nat × Int × List (List Int))) (x0 x1 : Int) (x2 : List (List Int)) : Option (Fin' × List Value × St) :=
 (cond (decide ((x1 : Int) < ((x2.length : Nat) : Int)))
 (cond ((decide ((0 : Int) ≤ x1)) && (Nat.blt (Int.toNat x1) x2.length))
  (cond (Nat.blt (Int.toNat x1) x2.length)
   (cond ((decide ((0 : Int) ≤ x1)) && (Nat.blt (Int.toNat x1) ((x2.modify (Int.toNat x1) (fun r => spl 5 r 0 [(((ofInt .f32 x0) : Nat) : Int)])).length)))
    (cond (Nat.blt (Int.toNat x1) ((x2.modify (Int.toNat x1) (fun r => spl 5 r 0 [(((ofInt .f32 x0) : Nat) : Int)])).length))
     (cond ((decide ((0 : Int) ≤ x1)) && (Nat.blt (Int.toNat x1) (((x2.modify (Int.toNat x1) (fun r => spl 5 r 0 [(((ofInt .f32 x0) : Nat) : Int)])).modify (Int.toNat x1) (fun r => spl 5 r 1 [(((ofInt .f32 (IntKind.i64.wrap (x0 + 1))) : Nat) : Int)])).length)))
      (cond (Nat.blt (Int.toNat x1) (((x2.modify (Int.toNat x1) (fun r => spl 5 r 0 [(((ofInt .f32 x0) : Nat) : Int)])).modify (Int.toNat x1) (fun r => spl 5 r 1 [(((ofInt .f32 (IntKind.i64.wrap (x0 + 1))) : Nat) : Int)])).length))
       (cond ((decide ((0 : Int) ≤ x1)) && (Nat.blt (Int.toNat x1) ((((x2.modify (Int.toNat x1) (fun r => spl 5 r 0 [(((ofInt .f32 x0) : Nat) : Int)])).modify (Int.toNat x1) (fun r => spl 5 r 1 [(((ofInt .f32 (IntKind.i64.wrap (x0 + 1))) : Nat) : Int)])).modify (Int.toNat x1) (fun r => spl 5 r 2 [(((ofInt .f32 (IntKind.i64.wrap ((IntKind.i64.wrap (x0 + 1)) + 1))) : Nat) : Int)])).length)))
        (cond (Nat.blt (Int.toNat x1) ((((x2.modify (Int.toNat x1) (fun r => spl 5 r 0 [(((ofInt .f32 x0) : Nat) : Int)])).modify (Int.toNat x1) (fun r => spl 5 r 1 [(((ofInt .f32 (IntKind.i64.wrap (x0 + 1))) : Nat) : Int)])).modify (Int.toNat x1) (fun r => spl 5 r 2 [(((ofInt .f32 (IntKind.i64.wrap ((IntKind.i64.wrap (x0 + 1)) + 1))) : Nat) : Int)])).length))
         (cond ((decide ((0 : Int) ≤ x1)) && (Nat.blt (Int.toNat x1) (((((x2.modify (Int.toNat x1) (fun r => spl 5 r 0 [(((ofInt .f32 x0) : Nat) : Int)])).modify (Int.toNat x1) (fun r => spl 5 r 1 [(((ofInt .f32 (IntKind.i64.wrap (x0 + 1))) : Nat) : Int)])).modify (Int.toNat x1) (fun r => spl 5 r 2 [(((ofInt .f32 (IntKind.i64.wrap ((IntKind.i64.wrap (x0 + 1)) + 1))) : Nat) : Int)])).modify (Int.toNat x1) (fun r => spl 5 r 3 [(((ofInt .f32 (IntKind.i64.wrap ((IntKind.i64.wrap ((IntKind.i64.wrap (x0 + 1)) + 1)) + 1))) : Nat) : Int)])).length)))
          (cond (Nat.blt (Int.toNat x1) (((((x2.modify (Int.toNat x1) (fun r => spl 5 r 0 [(((ofInt .f32 x0) : Nat) : Int)])).modify (Int.toNat x1) (fun r => spl 5 r 1 [(((ofInt .f32 (IntKind.i64.wrap (x0 + 1))) : Nat) : Int)])).modify (Int.toNat x1) (fun r => spl 5 r 2 [(((ofInt .f32 (IntKind.i64.wrap ((IntKind.i64.wrap (x0 + 1)) + 1))) : Nat) : Int)])).modify (Int.toNat x1) (fun r => spl 5 r 3 [(((ofInt .f32 (IntKind.i64.wrap ((IntKind.i64.wrap ((IntKind.i64.wrap (x0 + 1)) + 1)) + 1))) : Nat) : Int)])).length))
           (u9l0b x0 x1 x2 (ih (IntKind.i64.wrap ((IntKind.i64.wrap ((IntKind.i64.wrap ((IntKind.i64.wrap ((IntKind.i64.wrap (x0 + 1)) + 1)) + 1)) + 1)) + 1)) (IntKind.i64.wrap (x1 + 1)) (((((x2.modify (Int.toNat x1) (fun r => spl 5 r 0 [(((ofInt .f32 x0) : Nat) : Int)])).modify (Int.toNat x1) (fun r => spl 5 r 1 [(((ofInt .f32 (IntKind.i64.wrap (x0 + 1))) : Nat) : Int)])).modify (Int.toNat x1) (fun r => spl 5 r 2 [(((ofInt .f32 (IntKind.i64.wrap ((IntKind.i64.wrap (x0 + 1)) + 1))) : Nat) : Int)])).modify (Int.toNat x1) (fun r => spl 5 r 3 [(((ofInt .f32 (IntKind.i64.wrap ((IntKind.i64.wrap ((IntKind.i64.wrap (x0 + 1)) + 1)) + 1))) : Nat) : Int)])).modify (Int.toNat x1) (fun r => spl 5 r 4 [(IntKind.i64.wrap ((IntKind.i64.wrap ((IntKind.i64.wrap ((IntKind.i64.wrap (x0 + 1)) + 1)) + 1)) + 1))]))))
           none)
          none)
         none)
        none)
       none)
      none)
     none)
    none)
   none)
  none)
 (a9l0b x0 x1 x2 (0, x0, x2)))
set_option maxRecDepth 100000 in
set_option maxHeartbeats 4000000 in
theorem e9l0b (m : Nat) (x0 x1 : Int) (x2 : List (List Int)) : evC Tryz.prog ext T43 L9_1 200 (loopN Tryz.f9 0) (loopTail ([0, 1, 5], []) [1] [0] (sumK 52 [0, 1, 5] [1] (q9l0b m))) (frameOf 52 [0, 1, 5] [wsl 0, vi x0, vi x1]) ⟨[⟨true, (some (.tab sc0 x2))⟩], 1, []⟩ = firstT ([((Nat.beq ((r9l0b (m + 1) x0 x1 x2).1) 0), .exit 0, [vi ((r9l0b (m + 1) x0 x1 x2).2.1)], ⟨[⟨true, (some (.tab sc0 ((r9l0b (m + 1) x0 x1 x2).2.2)))⟩], 1, [0]⟩)].map fun (b, x) => (b, (x.1, frameOf 52 [1] x.2.1, x.2.2))) :=
 (show evC Tryz.prog ext T43 L9_1 200 (loopN Tryz.f9 0) (loopTail ([0, 1, 5], []) [1] [0] (sumK 52 [0, 1, 5] [1] (q9l0b m))) (frameOf 52 [0, 1, 5] [wsl 0, vi x0, vi x1]) ⟨[⟨true, (some (.tab sc0 x2))⟩], 1, []⟩ = w9l0b (r9l0b m) x0 x1 x2 from by kernel_rfl).trans
 (show w9l0b (r9l0b m) x0 x1 x2 = a9l0b x0 x1 x2 (r9l0b (m + 1) x0 x1 x2) from by unfold w9l0b; show _ = a9l0b x0 x1 x2 (b9l0b (r9l0b m) x0 x1 x2); unfold b9l0b; exact (cond_both (a9l0b x0 x1 x2) _ (fun h0 => (cond_both (a9l0b x0 x1 x2) _ (fun h1 => (cond_t (ev_and2 h1) (cond_both (a9l0b x0 x1 x2) _ (fun h2 => (cond_t (ev_and2 h2) (cond_both (a9l0b x0 x1 x2) _ (fun h3 => (cond_t (ev_and2 h3) (cond_both (a9l0b x0 x1 x2) _ (fun h4 => (cond_t (ev_and2 h4) (cond_both (a9l0b x0 x1 x2) _ (fun h5 => (cond_t (ev_and2 h5) (v9l0b x0 x1 x2 ((r9l0b m) (IntKind.i64.wrap ((IntKind.i64.wrap ((IntKind.i64.wrap ((IntKind.i64.wrap ((IntKind.i64.wrap (x0 + 1)) + 1)) + 1)) + 1)) + 1)) (IntKind.i64.wrap (x1 + 1)) (((((x2.modify (Int.toNat x1) (fun r => spl 5 r 0 [(((ofInt .f32 x0) : Nat) : Int)])).modify (Int.toNat x1) (fun r => spl 5 r 1 [(((ofInt .f32 (IntKind.i64.wrap (x0 + 1))) : Nat) : Int)])).modify (Int.toNat x1) (fun r => spl 5 r 2 [(((ofInt .f32 (IntKind.i64.wrap ((IntKind.i64.wrap (x0 + 1)) + 1))) : Nat) : Int)])).modify (Int.toNat x1) (fun r => spl 5 r 3 [(((ofInt .f32 (IntKind.i64.wrap ((IntKind.i64.wrap ((IntKind.i64.wrap (x0 + 1)) + 1)) + 1))) : Nat) : Int)])).modify (Int.toNat x1) (fun r => spl 5 r 4 [(IntKind.i64.wrap ((IntKind.i64.wrap ((IntKind.i64.wrap ((IntKind.i64.wrap (x0 + 1)) + 1)) + 1)) + 1))])))))) (fun h5 => rfl)))) (fun h4 => rfl)))) (fun h3 => rfl)))) (fun h2 => rfl)))) (fun h1 => rfl))) (fun h0 => rfl)))
set_option maxRecDepth 100000 in
set_option maxHeartbeats 4000000 in
theorem qm9l0b : ∀ m, SumKOk Tryz.prog (loopN Tryz.f9 0) 52 [0, 1, 5] [1] (q9l0b m) := by
  intro m
  induction m with
  | zero =>
    intro vals s x h1 h2 h3
    unfold q9l0b at h3; split at h3
    · rename_i h; split at h3
      · rename_i hc; obtain ⟨rfl⟩ := hc; exact absurd h3 (by simp [r9l0b, firstT, Nat.beq])
      · exact qok9l0 _ _ _ h1 h2 h3
    · exact qok9l0 _ _ _ h1 h2 h3
  | succ m ih =>
    intro vals s x h1 h2 h3
    unfold q9l0b at h3; split at h3
    · rename_i h; split at h3
      · rename_i hc; obtain ⟨rfl⟩ := hc; exact sum_step ok43 extOk mixed (lok9_1.inner (by kernel_rfl)) ih h1 h2 h (e9l0b m _ _ _) rfl h3
      · exact qok9l0 _ _ _ h1 h2 h3
    · exact qok9l0 _ _ _ h1 h2 h3
noncomputable def Q9l0b : SumK := fun vals s => q9l0b (fuelOf vals s.h) vals s
theorem qok9l0b : SumKOk Tryz.prog (loopN Tryz.f9 0) 52 [0, 1, 5] [1] Q9l0b := fuel_ok qm9l0b fuelOf
noncomputable def L9_2 : LoopT := addL L9_1 3 ([0, 1, 5], []) (sumK 52 [0, 1, 5] [1] Q9l0b)
theorem lok9_2 : LfOkF Tryz.prog L9_2 Tryz.f9 := lfOkF_add lok9_1 qok9l0b (by kernel_rfl) (by kernel_rfl) (by kernel_rfl)

/-- laws.markFlueS -/
noncomputable def w9b {α : Type} (x0 : Int) (x1 : List (List Int)) (k : (Nat × Int × List (List Int)) → α) : α :=
 cond (Nat.beq ((r9l0b (1000 + x1.length) x0 0 x1).1) 0)
  (k (0, ((r9l0b (1000 + x1.length) x0 0 x1).2.1), ((r9l0b (1000 + x1.length) x0 0 x1).2.2)))
  (k (1, 0, []))
noncomputable def r9b (x0 : Int) (x1 : List (List Int)) : Nat × Int × List (List Int) := w9b x0 x1 (fun p => p)
noncomputable def g9b (x0 : Int) (x1 : List (List Int)) (p : Nat × Int × List (List Int)) : List (Bool × Value × St) := [((Nat.beq (p.1) 0), vi (p.2.1), ⟨[⟨true, (some (.tab sc0 (p.2.2)))⟩], 1, [0]⟩)]
theorem p9b {α : Type} (x0 : Int) (x1 : List (List Int)) (f : (Nat × Int × List (List Int)) → α) : w9b x0 x1 f = f (w9b x0 x1 (fun p => p)) := by unfold w9b; exact (cond_app f _ rfl rfl)
set_option maxRecDepth 100000 in
set_option maxHeartbeats 4000000 in
theorem e9b (x0 : Int) (x1 : List (List Int)) : evFn Tryz.prog ext T43 L9_2 200 Tryz.f9 [wsl 0, vi x0] ⟨[⟨true, (some (.tab sc0 x1))⟩], 1, []⟩ = firstT (g9b x0 x1 (r9b x0 x1)) :=
 Eq.trans (by kernel_rfl) (p9b x0 x1 (fun p => firstT (g9b x0 x1 p)))
noncomputable def s9b (args : List Value) (s : St) : List (Bool × Value × St) :=
 match args, s.h with
 | [.iface f0 .nilIface, .int .i64 x0], [⟨true, some (.tab [.fl .f32, .fl .f32, .fl .f32, .fl .f32, .int .i64] x1)⟩] => if f0 = 0 then (g9b x0 x1 (r9b x0 x1)) else T43 9 args s
 | _, _ => T43 9 args s
noncomputable def T44 : CallF := addF T43 9 s9b
set_option maxRecDepth 100000 in
set_option maxHeartbeats 4000000 in
theorem ok44 : CfOk Tryz.prog T44 := by
  refine cfOk_add ok43 fun args s r s' h1 h2 h3 => ?_
  unfold s9b at h3; split at h3
  · rename_i h; split at h3
    · rename_i hc; obtain ⟨rfl⟩ := hc; exact callOk ok43 Tryz.func9 h1 h2 h lok9_2.body (e9b _ _) rfl h3
    · exact ok43 _ _ _ _ _ h1 h2 h3
  · exact ok43 _ _ _ _ _ h1 h2 h3

/-- laws.heldFlueS, loop 0: one round -/
noncomputable def b10l0b (ih : Int → Int → List (List Int) → (Nat × Int × Int)) (x0 x1 : Int) (x2 : List (List Int)) : Nat × Int × Int :=
 cond (decide ((x1 : Int) < ((x2.length : Nat) : Int)))
  (cond ((decide ((0 : Int) ≤ x1)) && (Nat.blt (Int.toNat x1) x2.length))
   (cond (!feq .f32 (Int.toNat ((x2.getD (Int.toNat x1) []).getD 0 0)) (ofInt .f32 x0))
    (0, x0, 0)
    (cond (!feq .f32 (Int.toNat ((x2.getD (Int.toNat x1) []).getD 1 0)) (ofInt .f32 (IntKind.i64.wrap (x0 + 1))))
     (0, (IntKind.i64.wrap (x0 + 1)), 0)
     (cond (!feq .f32 (Int.toNat ((x2.getD (Int.toNat x1) []).getD 2 0)) (ofInt .f32 (IntKind.i64.wrap ((IntKind.i64.wrap (x0 + 1)) + 1))))
      (0, (IntKind.i64.wrap ((IntKind.i64.wrap (x0 + 1)) + 1)), 0)
      (cond (!feq .f32 (Int.toNat ((x2.getD (Int.toNat x1) []).getD 3 0)) (ofInt .f32 (IntKind.i64.wrap ((IntKind.i64.wrap ((IntKind.i64.wrap (x0 + 1)) + 1)) + 1))))
       (0, (IntKind.i64.wrap ((IntKind.i64.wrap ((IntKind.i64.wrap (x0 + 1)) + 1)) + 1)), 0)
       (cond ((((x2.getD (Int.toNat x1) []).getD 4 0) : Int) != (IntKind.i64.wrap ((IntKind.i64.wrap ((IntKind.i64.wrap ((IntKind.i64.wrap (x0 + 1)) + 1)) + 1)) + 1)))
        (0, (IntKind.i64.wrap ((IntKind.i64.wrap ((IntKind.i64.wrap ((IntKind.i64.wrap (x0 + 1)) + 1)) + 1)) + 1)), 0)
        (ih (IntKind.i64.wrap ((IntKind.i64.wrap ((IntKind.i64.wrap ((IntKind.i64.wrap ((IntKind.i64.wrap (x0 + 1)) + 1)) + 1)) + 1)) + 1)) (IntKind.i64.wrap (x1 + 1)) x2))))))
   (2, 0, 0))
  (1, 0, x0)
noncomputable def r10l0b : Nat → Int → Int → List (List Int) → (Nat × Int × Int)
 | 0 => fun _ _ _ => (2, 0, 0)
 | m + 1 => b10l0b (r10l0b m)
noncomputable def a10l0b (x0 x1 : Int) (x2 : List (List Int)) (p : Nat × Int × Int) : Option (Fin' × List Value × St) := firstT ([((Nat.beq (p.1) 0), .ret, [vi (p.2.1), vi (-1)], ⟨[⟨true, (some (.tab sc0 x2))⟩], 1, []⟩), ((Nat.beq (p.1) 1), .exit 0, [vi (p.2.2), anyV], ⟨[⟨true, (some (.tab sc0 x2))⟩], 1, []⟩)].map fun (b, x) => (b, (x.1, frameOf 62 [1, 4] x.2.1, x.2.2)))
noncomputable def u10l0b (x0 x1 : Int) (x2 : List (List Int)) (p : Nat × Int × Int) : Option (Fin' × List Value × St) := alts ([((Nat.beq (p.1) 0), .ret, [vi (p.2.1), vi (-1)], ⟨[⟨true, (some (.tab sc0 x2))⟩], 1, []⟩), ((Nat.beq (p.1) 1), .exit 0, [vi (p.2.2), anyV], ⟨[⟨true, (some (.tab sc0 x2))⟩], 1, []⟩)].map fun (b, x) => (b, (x.1, frameOf 62 [1, 4] x.2.1, x.2.2))) some
theorem v10l0b (x0 x1 : Int) (x2 : List (List Int)) (p : Nat × Int × Int) : u10l0b x0 x1 x2 p = a10l0b x0 x1 x2 p := alts_first _
noncomputable def q10l0b (m : Nat) : SumK := fun vals s =>
 match vals, s.h with
 | [.iface f0 .nilIface, .int .i64 x0, .int .i64 x1], [⟨true, some (.tab [.fl .f32, .fl .f32, .fl .f32, .fl .f32, .int .i64] x2)⟩] => if f0 = 0 then [((Nat.beq ((r10l0b m x0 x1 x2).1) 0), .ret, [vi ((r10l0b m x0 x1 x2).2.1), vi (-1)], ⟨[⟨true, (some (.tab sc0 x2))⟩], 1, []⟩), ((Nat.beq ((r10l0b m x0 x1 x2).1) 1), .exit 0, [vi ((r10l0b m x0 x1 x2).2.2), anyV], ⟨[⟨true, (some (.tab sc0 x2))⟩], 1, []⟩)] else Q10l0 vals s
 | _, _ => Q10l0 vals s
noncomputable def w10l0b (ih : Int → Int → List (List Int) → (Nat × Int × Int)) (x0 x1 : Int) (x2 : List (List Int)) : Option (Fin' × List Value × St) :=
 (cond (decide ((x1 : Int) < ((x2.length : Nat) : Int)))
 (cond ((decide ((0 : Int) ≤ x1)) && (Nat.blt (Int.toNat x1) x2.length))
  (cond (Nat.blt (Int.toNat x1) x2.length)
   (cond (!feq .f32 (Int.toNat ((x2.getD (Int.toNat x1) []).getD 0 0)) (ofInt .f32 x0))
    (a10l0b x0 x1 x2 (0, x0, 0))
    (cond ((decide ((0 : Int) ≤ x1)) && (Nat.blt (Int.toNat x1) x2.length))
     (cond (Nat.blt (Int.toNat x1) x2.length)
      (cond (!feq .f32 (Int.toNat ((x2.getD (Int.toNat x1) []).getD 1 0)) (ofInt .f32 (IntKind.i64.wrap (x0 + 1))))
       (a10l0b x0 x1 x2 (0, (IntKind.i64.wrap (x0 + 1)), 0))
       (cond ((decide ((0 : Int) ≤ x1)) && (Nat.blt (Int.toNat x1) x2.length))
        (cond (Nat.blt (Int.toNat x1) x2.length)
         (cond (!feq .f32 (Int.toNat ((x2.getD (Int.toNat x1) []).getD 2 0)) (ofInt .f32 (IntKind.i64.wrap ((IntKind.i64.wrap (x0 + 1)) + 1))))
          (a10l0b x0 x1 x2 (0, (IntKind.i64.wrap ((IntKind.i64.wrap (x0 + 1)) + 1)), 0))
          (cond ((decide ((0 : Int) ≤ x1)) && (Nat.blt (Int.toNat x1) x2.length))
           (cond (Nat.blt (Int.toNat x1) x2.length)
            (cond (!feq .f32 (Int.toNat ((x2.getD (Int.toNat x1) []).getD 3 0)) (ofInt .f32 (IntKind.i64.wrap ((IntKind.i64.wrap ((IntKind.i64.wrap (x0 + 1)) + 1)) + 1))))
             (a10l0b x0 x1 x2 (0, (IntKind.i64.wrap ((IntKind.i64.wrap ((IntKind.i64.wrap (x0 + 1)) + 1)) + 1)), 0))
             (cond ((decide ((0 : Int) ≤ x1)) && (Nat.blt (Int.toNat x1) x2.length))
              (cond (Nat.blt (Int.toNat x1) x2.length)
               (cond ((((x2.getD (Int.toNat x1) []).getD 4 0) : Int) != (IntKind.i64.wrap ((IntKind.i64.wrap ((IntKind.i64.wrap ((IntKind.i64.wrap (x0 + 1)) + 1)) + 1)) + 1)))
                (a10l0b x0 x1 x2 (0, (IntKind.i64.wrap ((IntKind.i64.wrap ((IntKind.i64.wrap ((IntKind.i64.wrap (x0 + 1)) + 1)) + 1)) + 1)), 0))
                (u10l0b x0 x1 x2 (ih (IntKind.i64.wrap ((IntKind.i64.wrap ((IntKind.i64.wrap ((IntKind.i64.wrap ((IntKind.i64.wrap (x0 + 1)) + 1)) + 1)) + 1)) + 1)) (IntKind.i64.wrap (x1 + 1)) x2)))
               none)
              none))
            none)
           none))
         none)
        none))
      none)
     none))
   none)
  none)
 (a10l0b x0 x1 x2 (1, 0, x0)))
set_option maxRecDepth 100000 in
set_option maxHeartbeats 4000000 in
theorem e10l0b (m : Nat) (x0 x1 : Int) (x2 : List (List Int)) : evC Tryz.prog ext T44 L10_1 200 (loopN Tryz.f10 0) (loopTail ([0, 1, 5], []) [1, 4] [] (sumK 62 [0, 1, 5] [1, 4] (q10l0b m))) (frameOf 62 [0, 1, 5] [wsl 0, vi x0, vi x1]) ⟨[⟨true, (some (.tab sc0 x2))⟩], 1, []⟩ = firstT ([((Nat.beq ((r10l0b (m + 1) x0 x1 x2).1) 0), .ret, [vi ((r10l0b (m + 1) x0 x1 x2).2.1), vi (-1)], ⟨[⟨true, (some (.tab sc0 x2))⟩], 1, []⟩), ((Nat.beq ((r10l0b (m + 1) x0 x1 x2).1) 1), .exit 0, [vi ((r10l0b (m + 1) x0 x1 x2).2.2), anyV], ⟨[⟨true, (some (.tab sc0 x2))⟩], 1, []⟩)].map fun (b, x) => (b, (x.1, frameOf 62 [1, 4] x.2.1, x.2.2))) :=
 (show evC Tryz.prog ext T44 L10_1 200 (loopN Tryz.f10 0) (loopTail ([0, 1, 5], []) [1, 4] [] (sumK 62 [0, 1, 5] [1, 4] (q10l0b m))) (frameOf 62 [0, 1, 5] [wsl 0, vi x0, vi x1]) ⟨[⟨true, (some (.tab sc0 x2))⟩], 1, []⟩ = w10l0b (r10l0b m) x0 x1 x2 from by kernel_rfl).trans
 (show w10l0b (r10l0b m) x0 x1 x2 = a10l0b x0 x1 x2 (r10l0b (m + 1) x0 x1 x2) from by unfold w10l0b; show _ = a10l0b x0 x1 x2 (b10l0b (r10l0b m) x0 x1 x2); unfold b10l0b; exact (cond_both (a10l0b x0 x1 x2) _ (fun h0 => (cond_both (a10l0b x0 x1 x2) _ (fun h1 => (cond_t (ev_and2 h1) (cond_both (a10l0b x0 x1 x2) _ (fun h2 => rfl) (fun h2 => (cond_t h1 (cond_t (ev_and2 h1) (cond_both (a10l0b x0 x1 x2) _ (fun h3 => rfl) (fun h3 => (cond_t h1 (cond_t (ev_and2 h1) (cond_both (a10l0b x0 x1 x2) _ (fun h4 => rfl) (fun h4 => (cond_t h1 (cond_t (ev_and2 h1) (cond_both (a10l0b x0 x1 x2) _ (fun h5 => rfl) (fun h5 => (cond_t h1 (cond_t (ev_and2 h1) (cond_app (a10l0b x0 x1 x2) _ rfl (v10l0b x0 x1 x2 ((r10l0b m) (IntKind.i64.wrap ((IntKind.i64.wrap ((IntKind.i64.wrap ((IntKind.i64.wrap ((IntKind.i64.wrap (x0 + 1)) + 1)) + 1)) + 1)) + 1)) (IntKind.i64.wrap (x1 + 1)) x2))))))))))))))))))))) (fun h1 => rfl))) (fun h0 => rfl)))
set_option maxRecDepth 100000 in
set_option maxHeartbeats 4000000 in
theorem qm10l0b : ∀ m, SumKOk Tryz.prog (loopN Tryz.f10 0) 62 [0, 1, 5] [1, 4] (q10l0b m) := by
  intro m
  induction m with
  | zero =>
    intro vals s x h1 h2 h3
    unfold q10l0b at h3; split at h3
    · rename_i h; split at h3
      · rename_i hc; obtain ⟨rfl⟩ := hc; exact absurd h3 (by simp [r10l0b, firstT, Nat.beq])
      · exact qok10l0 _ _ _ h1 h2 h3
    · exact qok10l0 _ _ _ h1 h2 h3
  | succ m ih =>
    intro vals s x h1 h2 h3
    unfold q10l0b at h3; split at h3
    · rename_i h; split at h3
      · rename_i hc; obtain ⟨rfl⟩ := hc; exact sum_step ok44 extOk mixed (lok10_1.inner (by kernel_rfl)) ih h1 h2 h (e10l0b m _ _ _) rfl h3
      · exact qok10l0 _ _ _ h1 h2 h3
    · exact qok10l0 _ _ _ h1 h2 h3
noncomputable def Q10l0b : SumK := fun vals s => q10l0b (fuelOf vals s.h) vals s
theorem qok10l0b : SumKOk Tryz.prog (loopN Tryz.f10 0) 62 [0, 1, 5] [1, 4] Q10l0b := fuel_ok qm10l0b fuelOf
noncomputable def L10_2 : LoopT := addL L10_1 3 ([0, 1, 5], []) (sumK 62 [0, 1, 5] [1, 4] Q10l0b)
theorem lok10_2 : LfOkF Tryz.prog L10_2 Tryz.f10 := lfOkF_add lok10_1 qok10l0b (by kernel_rfl) (by kernel_rfl) (by kernel_rfl)

/-- laws.heldFlueS -/
noncomputable def w10b {α : Type} (x0 : Int) (x1 : List (List Int)) (k : (Nat × Int) → α) : α :=
 cond (Nat.beq ((r10l0b (1000 + x1.length) x0 0 x1).1) 0)
  (k (0, (-1)))
  (cond (Nat.beq ((r10l0b (1000 + x1.length) x0 0 x1).1) 1)
   (k (0, ((r10l0b (1000 + x1.length) x0 0 x1).2.2)))
   (k (1, 0)))
noncomputable def r10b (x0 : Int) (x1 : List (List Int)) : Nat × Int := w10b x0 x1 (fun p => p)
noncomputable def g10b (x0 : Int) (x1 : List (List Int)) (p : Nat × Int) : List (Bool × Value × St) := [((Nat.beq (p.1) 0), vi (p.2), ⟨[⟨true, (some (.tab sc0 x1))⟩], 1, []⟩)]
theorem p10b {α : Type} (x0 : Int) (x1 : List (List Int)) (f : (Nat × Int) → α) : w10b x0 x1 f = f (w10b x0 x1 (fun p => p)) := by unfold w10b; exact (cond_app f _ rfl (cond_app f _ rfl rfl))
set_option maxRecDepth 100000 in
set_option maxHeartbeats 4000000 in
theorem e10b (x0 : Int) (x1 : List (List Int)) : evFn Tryz.prog ext T44 L10_2 200 Tryz.f10 [wsl 0, vi x0] ⟨[⟨true, (some (.tab sc0 x1))⟩], 1, []⟩ = firstT (g10b x0 x1 (r10b x0 x1)) :=
 Eq.trans (by kernel_rfl) (p10b x0 x1 (fun p => firstT (g10b x0 x1 p)))
noncomputable def s10b (args : List Value) (s : St) : List (Bool × Value × St) :=
 match args, s.h with
 | [.iface f0 .nilIface, .int .i64 x0], [⟨true, some (.tab [.fl .f32, .fl .f32, .fl .f32, .fl .f32, .int .i64] x1)⟩] => if f0 = 0 then (g10b x0 x1 (r10b x0 x1)) else T44 10 args s
 | _, _ => T44 10 args s
noncomputable def T45 : CallF := addF T44 10 s10b
set_option maxRecDepth 100000 in
set_option maxHeartbeats 4000000 in
theorem ok45 : CfOk Tryz.prog T45 := by
  refine cfOk_add ok44 fun args s r s' h1 h2 h3 => ?_
  unfold s10b at h3; split at h3
  · rename_i h; split at h3
    · rename_i hc; obtain ⟨rfl⟩ := hc; exact callOk ok44 Tryz.func10 h1 h2 h lok10_2.body (e10b _ _) rfl h3
    · exact ok44 _ _ _ _ _ h1 h2 h3
  · exact ok44 _ _ _ _ _ h1 h2 h3

/-- laws.FnExactReadChimney -/
noncomputable def r3 (x0 : ByteArray) : Nat × Bool :=
 cond (decide (((((x0.size) : Nat) : Int) : Int) > 1048576))
  (0, true)
  (cond (Nat.beq ((r6 x0).1) 0)
   (cond (Nat.beq ((r7 x0).1) 0)
    (cond (!(r8 ((r6 x0).2.2)))
     (0, false)
     (cond ((5 : Int) != ((r6 x0).2.1))
      (0, false)
      (0, true)))
    (cond (Nat.beq ((r7 x0).1) 1)
     (cond (Nat.beq ((r8b ((r7 x0).2) ((r6 x0).2.2)).1) 0)
      (cond (!((r8b ((r7 x0).2) ((r6 x0).2.2)).2))
       (0, false)
       (cond ((0 : Int) != ((r6 x0).2.1))
        (0, false)
        (cond (Nat.beq ((r9b 1 ((r7 x0).2)).1) 0)
         (cond (Nat.beq ((r10b 1 ((r9b 1 ((r7 x0).2)).2.2)).1) 0)
          (cond (decide ((((r10b 1 ((r9b 1 ((r7 x0).2)).2.2)).2) : Int) < 0))
           (0, false)
           (cond ((((r10b 1 ((r9b 1 ((r7 x0).2)).2.2)).2) : Int) != ((r9b 1 ((r7 x0).2)).2.1))
            (0, false)
            (0, true)))
          (1, false))
         (1, false))))
      (1, false))
     (1, false)))
   (1, false))
noncomputable def a3 (x0 : ByteArray) (p : Nat × Bool) : Res := firstT [((Nat.beq (p.1) 0), .bool (p.2), st0)]
noncomputable def w3 (x0 : ByteArray) : Res :=
 (cond (decide (((((x0.size) : Nat) : Int) : Int) > 1048576))
 (a3 x0 (0, true))
 (cond (Nat.beq ((r6 x0).1) 0)
  (cond (Nat.beq ((r7 x0).1) 0)
   (cond (!(r8 ((r6 x0).2.2)))
    (a3 x0 (0, false))
    (cond ((5 : Int) != ((r6 x0).2.1))
     (a3 x0 (0, false))
     (cond (Nat.beq ((r7 x0).1) 0)
      (cond (!(r8 ((r6 x0).2.2)))
       (some (.bool false, st0))
       (cond ((5 : Int) != ((r6 x0).2.1))
        (some (.bool false, st0))
        (a3 x0 (0, true))))
      (cond (Nat.beq ((r7 x0).1) 1)
       (cond (Nat.beq ((r8b ((r7 x0).2) ((r6 x0).2.2)).1) 0)
        (cond (!((r8b ((r7 x0).2) ((r6 x0).2.2)).2))
         (some (.bool false, st0))
         (cond ((0 : Int) != ((r6 x0).2.1))
          (some (.bool false, st0))
          (some (.bool true, st0))))
        none)
       none))))
   (cond (Nat.beq ((r7 x0).1) 1)
    (cond (Nat.beq ((r8b ((r7 x0).2) ((r6 x0).2.2)).1) 0)
     (cond (!((r8b ((r7 x0).2) ((r6 x0).2.2)).2))
      (a3 x0 (0, false))
      (cond ((0 : Int) != ((r6 x0).2.1))
       (a3 x0 (0, false))
       (cond (Nat.beq ((r9b 1 ((r7 x0).2)).1) 0)
        (cond (Nat.beq ((r10b 1 ((r9b 1 ((r7 x0).2)).2.2)).1) 0)
         (cond (decide ((((r10b 1 ((r9b 1 ((r7 x0).2)).2.2)).2) : Int) < 0))
          (a3 x0 (0, false))
          (cond ((((r10b 1 ((r9b 1 ((r7 x0).2)).2.2)).2) : Int) != ((r9b 1 ((r7 x0).2)).2.1))
           (a3 x0 (0, false))
           (cond (Nat.beq ((r7 x0).1) 0)
            (cond (!(r8 ((r6 x0).2.2)))
             (some (.bool false, st0))
             (cond ((5 : Int) != ((r6 x0).2.1))
              (some (.bool false, st0))
              (cond (Nat.beq ((r10b 1 ((r9b 1 ((r7 x0).2)).2.2)).1) 0)
               (cond (decide ((((r10b 1 ((r9b 1 ((r7 x0).2)).2.2)).2) : Int) < 0))
                (some (.bool false, st0))
                (cond ((((r10b 1 ((r9b 1 ((r7 x0).2)).2.2)).2) : Int) != ((r9b 1 ((r7 x0).2)).2.1))
                 (some (.bool false, st0))
                 (some (.bool true, st0))))
               none)))
            (cond (Nat.beq ((r7 x0).1) 1)
             (cond (Nat.beq ((r8b ((r7 x0).2) ((r6 x0).2.2)).1) 0)
              (cond (!((r8b ((r7 x0).2) ((r6 x0).2.2)).2))
               (some (.bool false, st0))
               (cond ((0 : Int) != ((r6 x0).2.1))
                (some (.bool false, st0))
                (cond (Nat.beq ((r10b 1 ((r9b 1 ((r7 x0).2)).2.2)).1) 0)
                 (cond (decide ((((r10b 1 ((r9b 1 ((r7 x0).2)).2.2)).2) : Int) < 0))
                  (some (.bool false, st0))
                  (cond ((((r10b 1 ((r9b 1 ((r7 x0).2)).2.2)).2) : Int) != ((r9b 1 ((r7 x0).2)).2.1))
                   (some (.bool false, st0))
                   (a3 x0 (0, true))))
                 none)))
              none)
             none))))
         none)
        none)))
     none)
    none))
  none))
set_option maxRecDepth 100000 in
set_option maxHeartbeats 4000000 in
theorem e3 (x0 : ByteArray) : evFn Tryz.prog ext T45 noL 200 Tryz.f3 [.string x0] st0 = firstT [((Nat.beq ((r3 x0).1) 0), .bool ((r3 x0).2), st0)] :=
 (show evFn Tryz.prog ext T45 noL 200 Tryz.f3 [.string x0] st0 = w3 x0 from by kernel_rfl).trans
 (show w3 x0 = a3 x0 (r3 x0) from by unfold w3 r3; exact (cond_both (a3 x0) _ (fun h0 => rfl) (fun h0 => (cond_both (a3 x0) _ (fun h1 => (cond_both (a3 x0) _ (fun h2 => (cond_both (a3 x0) _ (fun h3 => rfl) (fun h3 => (cond_both (a3 x0) _ (fun h4 => rfl) (fun h4 => (cond_t h2 (cond_f (ev_not0 (ev_notf h3)) (cond_f h4 rfl)))))))) (fun h2 => (cond_both (a3 x0) _ (fun h3 => (cond_both (a3 x0) _ (fun h4 => (cond_both (a3 x0) _ (fun h5 => rfl) (fun h5 => (cond_both (a3 x0) _ (fun h6 => rfl) (fun h6 => (cond_both (a3 x0) _ (fun h7 => (cond_both (a3 x0) _ (fun h8 => (cond_both (a3 x0) _ (fun h9 => rfl) (fun h9 => (cond_both (a3 x0) _ (fun h10 => rfl) (fun h10 => (cond_f h2 (cond_t h3 (cond_t h4 (cond_f (ev_not0 (ev_notf h5)) (cond_f h6 (cond_t h8 (cond_f h9 (cond_f h10 rfl))))))))))))) (fun h8 => rfl))) (fun h7 => rfl))))))) (fun h4 => rfl))) (fun h3 => rfl))))) (fun h1 => rfl)))))
noncomputable def s3 (args : List Value) (s : St) : List (Bool × Value × St) :=
 match args, s.h with
 | [.string x0], [] => [((Nat.beq ((r3 x0).1) 0), .bool ((r3 x0).2), st0)]
 | _, _ => T45 3 args s
noncomputable def T46 : CallF := addF T45 3 s3
set_option maxRecDepth 100000 in
set_option maxHeartbeats 4000000 in
theorem ok46 : CfOk Tryz.prog T46 := by
  refine cfOk_add ok45 fun args s r s' h1 h2 h3 => ?_
  unfold s3 at h3; split at h3
  · rename_i h; exact callOk ok45 Tryz.func3 h1 h2 h (lfOkF_no _ _).body (e3 _) rfl h3
  · exact ok45 _ _ _ _ _ h1 h2 h3
end Go.Proofs.YtffpnkkhcgjmfaaGreatDoor
