/- What the functions that the statements reach answer, part 2. -/
import Derived.Test.YtfnfapmncibjfaaEf1
namespace Go.Proofs.Ytfnfapmncibjfaa
open Go.Ab
set_option maxHeartbeats 4000000
set_option maxRecDepth 100000

/-- spec.EnergyOf, loop 2 -/
noncomputable def r24l2d (x0 : Nat) (x1 : Int) (x2 x3 x4 x5 : List (List Int)) : Nat × Nat :=
 let c96 := (r24l2c (fadd .f32 x0 (fmul .f32 (Int.toNat ((x4.getD (Int.toNat x1) []).getD 5 0)) (Int.toNat ((x4.getD (Int.toNat x1) []).getD 3 0)))) x1 x2 x3 x4 x5)
 cond ((decide ((0 : Int) ≤ x1)) && (Nat.blt (Int.toNat x1) x4.length))
  (cond (Nat.beq (c96.1) 0)
   (0, (c96.2))
   (1, 0))
  (1, 0)
noncomputable def a24l2d (x0 : Nat) (x1 : Int) (x2 x3 x4 x5 : List (List Int)) (p : Nat × Nat) : Option (Fin' × List Value × St) := firstT ([((Nat.beq (p.1) 0), .exit 4, [.pointer (some ⟨0, 0, some 0⟩), .float .f32 (p.2), .int .i64 x1], ⟨[⟨true, (some (.cells [wsl 1, wsl 2, wsl 3, wsl 4]))⟩, ⟨true, (some (.tab [.fl .f32] x2))⟩, ⟨true, (some (.tab [.fl .f32] x3))⟩, ⟨true, (some (.tab sc0 x4))⟩, ⟨true, (some (.tab sc1 x5))⟩], 5, []⟩)].map fun (b, x) => (b, (x.1, frameOf 68 [1, 4, 6] x.2.1, x.2.2)))
noncomputable def w24l2d (x0 : Nat) (x1 : Int) (x2 x3 x4 x5 : List (List Int)) : Option (Fin' × List Value × St) :=
 let c96 := (r24l2c (fadd .f32 x0 (fmul .f32 (Int.toNat ((x4.getD (Int.toNat x1) []).getD 5 0)) (Int.toNat ((x4.getD (Int.toNat x1) []).getD 3 0)))) x1 x2 x3 x4 x5)
 (cond ((decide ((0 : Int) ≤ x1)) && (Nat.blt (Int.toNat x1) x4.length))
 (cond (Nat.blt (Int.toNat x1) x4.length)
  (cond ((decide ((0 : Int) ≤ x1)) && (Nat.blt (Int.toNat x1) x4.length))
   (cond (Nat.blt (Int.toNat x1) x4.length)
    (cond (Nat.beq (c96.1) 0)
     (a24l2d x0 x1 x2 x3 x4 x5 (0, (c96.2)))
     none)
    none)
   none)
  none)
 none)
set_option maxRecDepth 100000 in
set_option maxHeartbeats 4000000 in
theorem e24l2d (x0 : Nat) (x1 : Int) (x2 x3 x4 x5 : List (List Int)) : evC Try.prog ext T20 L24_4 200 (loopN Try.f24 2) (loopTail ([1, 4, 6, 7], []) [1, 4, 6] [] (sumK 68 [1, 4, 6, 7] [1, 4, 6] Q24l2c)) (frameOf 68 [1, 4, 6, 7] [.pointer (some ⟨0, 0, some 0⟩), .float .f32 x0, .int .i64 x1, .int .i64 1]) ⟨[⟨true, (some (.cells [wsl 1, wsl 2, wsl 3, wsl 4]))⟩, ⟨true, (some (.tab [.fl .f32] x2))⟩, ⟨true, (some (.tab [.fl .f32] x3))⟩, ⟨true, (some (.tab sc0 x4))⟩, ⟨true, (some (.tab sc1 x5))⟩], 5, []⟩ = firstT ([((Nat.beq ((r24l2d x0 x1 x2 x3 x4 x5).1) 0), .exit 4, [.pointer (some ⟨0, 0, some 0⟩), .float .f32 ((r24l2d x0 x1 x2 x3 x4 x5).2), .int .i64 x1], ⟨[⟨true, (some (.cells [wsl 1, wsl 2, wsl 3, wsl 4]))⟩, ⟨true, (some (.tab [.fl .f32] x2))⟩, ⟨true, (some (.tab [.fl .f32] x3))⟩, ⟨true, (some (.tab sc0 x4))⟩, ⟨true, (some (.tab sc1 x5))⟩], 5, []⟩)].map fun (b, x) => (b, (x.1, frameOf 68 [1, 4, 6] x.2.1, x.2.2))) :=
 (show evC Try.prog ext T20 L24_4 200 (loopN Try.f24 2) (loopTail ([1, 4, 6, 7], []) [1, 4, 6] [] (sumK 68 [1, 4, 6, 7] [1, 4, 6] Q24l2c)) (frameOf 68 [1, 4, 6, 7] [.pointer (some ⟨0, 0, some 0⟩), .float .f32 x0, .int .i64 x1, .int .i64 1]) ⟨[⟨true, (some (.cells [wsl 1, wsl 2, wsl 3, wsl 4]))⟩, ⟨true, (some (.tab [.fl .f32] x2))⟩, ⟨true, (some (.tab [.fl .f32] x3))⟩, ⟨true, (some (.tab sc0 x4))⟩, ⟨true, (some (.tab sc1 x5))⟩], 5, []⟩ = w24l2d x0 x1 x2 x3 x4 x5 from by kernel_rfl).trans
 (show w24l2d x0 x1 x2 x3 x4 x5 = a24l2d x0 x1 x2 x3 x4 x5 (r24l2d x0 x1 x2 x3 x4 x5) from by unfold w24l2d r24l2d; exact (cond_both (a24l2d x0 x1 x2 x3 x4 x5) _ (fun h0 => (cond_t (ev_and2 h0) (cond_t h0 (cond_t (ev_and2 h0) (cond_app (a24l2d x0 x1 x2 x3 x4 x5) _ rfl rfl))))) (fun h0 => rfl)))
noncomputable def Q24l2d : SumK := fun vals s =>
 match vals, s.h with
 | [.pointer (some ⟨f0, f1, some f2⟩), .float .f32 x0, .int .i64 x1, .int .i64 f3], [⟨true, some (.cells [.iface f4 .nilIface, .iface f5 .nilIface, .iface f6 .nilIface, .iface f7 .nilIface])⟩, ⟨true, some (.tab [.fl .f32] x2)⟩, ⟨true, some (.tab [.fl .f32] x3)⟩, ⟨true, some (.tab [.int .i64, .int .i64, .fl .f32, .fl .f32, .fl .f32, .fl .f32, .fl .f32, .fl .f32] x4)⟩, ⟨true, some (.tab [.int .i64, .int .i64, .fl .f32, .fl .f32] x5)⟩] => if f0 = 0 ∧ f1 = 0 ∧ f2 = 0 ∧ f3 = 1 ∧ f4 = 1 ∧ f5 = 2 ∧ f6 = 3 ∧ f7 = 4 then [((Nat.beq ((r24l2d x0 x1 x2 x3 x4 x5).1) 0), .exit 4, [.pointer (some ⟨0, 0, some 0⟩), .float .f32 ((r24l2d x0 x1 x2 x3 x4 x5).2), .int .i64 x1], ⟨[⟨true, (some (.cells [wsl 1, wsl 2, wsl 3, wsl 4]))⟩, ⟨true, (some (.tab [.fl .f32] x2))⟩, ⟨true, (some (.tab [.fl .f32] x3))⟩, ⟨true, (some (.tab sc0 x4))⟩, ⟨true, (some (.tab sc1 x5))⟩], 5, []⟩)] else Q24l2c vals s
 | _, _ => Q24l2c vals s
set_option maxRecDepth 100000 in
set_option maxHeartbeats 4000000 in
theorem qok24l2d : SumKOk Try.prog (loopN Try.f24 2) 68 [1, 4, 6, 7] [1, 4, 6] Q24l2d := by
  intro vals s x h1 h2 h3
  unfold Q24l2d at h3; split at h3
  · rename_i h; split at h3
    · rename_i hc; obtain ⟨rfl, rfl, rfl, rfl, rfl, rfl, rfl, rfl⟩ := hc; exact sum_step ok20 extOk mixed (lok24_4.inner (by kernel_rfl)) qok24l2c h1 h2 h (e24l2d _ _ _ _ _ _) rfl h3
    · exact qok24l2c _ _ _ h1 h2 h3
  · exact qok24l2c _ _ _ h1 h2 h3
noncomputable def L24_5 : LoopT := addL L24_4 13 ([1, 4, 6, 7], []) (sumK 68 [1, 4, 6, 7] [1, 4, 6] Q24l2d)
theorem lok24_5 : LfOkF Try.prog L24_5 Try.f24 := lfOkF_add lok24_4 qok24l2d (by kernel_rfl) (by kernel_rfl) (by kernel_rfl)

/-- spec.EnergyOf, loop 2 -/
noncomputable def r24l2e (x0 : Nat) (x1 : Int) (x2 x3 x4 x5 : List (List Int)) : Nat × Nat :=
 let c97 := (r24l2d (fadd .f32 x0 (fmul .f32 (Int.toNat ((x4.getD (Int.toNat x1) []).getD 4 0)) (Int.toNat ((x4.getD (Int.toNat x1) []).getD 3 0)))) x1 x2 x3 x4 x5)
 cond ((decide ((0 : Int) ≤ x1)) && (Nat.blt (Int.toNat x1) x4.length))
  (cond (Nat.beq (c97.1) 0)
   (0, (c97.2))
   (1, 0))
  (1, 0)
noncomputable def a24l2e (x0 : Nat) (x1 : Int) (x2 x3 x4 x5 : List (List Int)) (p : Nat × Nat) : Option (Fin' × List Value × St) := firstT ([((Nat.beq (p.1) 0), .exit 4, [.pointer (some ⟨0, 0, some 0⟩), .float .f32 (p.2), .int .i64 x1], ⟨[⟨true, (some (.cells [wsl 1, wsl 2, wsl 3, wsl 4]))⟩, ⟨true, (some (.tab [.fl .f32] x2))⟩, ⟨true, (some (.tab [.fl .f32] x3))⟩, ⟨true, (some (.tab sc0 x4))⟩, ⟨true, (some (.tab sc1 x5))⟩], 5, []⟩)].map fun (b, x) => (b, (x.1, frameOf 68 [1, 4, 6] x.2.1, x.2.2)))
noncomputable def w24l2e (x0 : Nat) (x1 : Int) (x2 x3 x4 x5 : List (List Int)) : Option (Fin' × List Value × St) :=
 let c97 := (r24l2d (fadd .f32 x0 (fmul .f32 (Int.toNat ((x4.getD (Int.toNat x1) []).getD 4 0)) (Int.toNat ((x4.getD (Int.toNat x1) []).getD 3 0)))) x1 x2 x3 x4 x5)
 (cond ((decide ((0 : Int) ≤ x1)) && (Nat.blt (Int.toNat x1) x4.length))
 (cond (Nat.blt (Int.toNat x1) x4.length)
  (cond ((decide ((0 : Int) ≤ x1)) && (Nat.blt (Int.toNat x1) x4.length))
   (cond (Nat.blt (Int.toNat x1) x4.length)
    (cond (Nat.beq (c97.1) 0)
     (a24l2e x0 x1 x2 x3 x4 x5 (0, (c97.2)))
     none)
    none)
   none)
  none)
 none)
set_option maxRecDepth 100000 in
set_option maxHeartbeats 4000000 in
theorem e24l2e (x0 : Nat) (x1 : Int) (x2 x3 x4 x5 : List (List Int)) : evC Try.prog ext T20 L24_5 200 (loopN Try.f24 2) (loopTail ([1, 4, 6, 7], []) [1, 4, 6] [] (sumK 68 [1, 4, 6, 7] [1, 4, 6] Q24l2d)) (frameOf 68 [1, 4, 6, 7] [.pointer (some ⟨0, 0, some 0⟩), .float .f32 x0, .int .i64 x1, .int .i64 0]) ⟨[⟨true, (some (.cells [wsl 1, wsl 2, wsl 3, wsl 4]))⟩, ⟨true, (some (.tab [.fl .f32] x2))⟩, ⟨true, (some (.tab [.fl .f32] x3))⟩, ⟨true, (some (.tab sc0 x4))⟩, ⟨true, (some (.tab sc1 x5))⟩], 5, []⟩ = firstT ([((Nat.beq ((r24l2e x0 x1 x2 x3 x4 x5).1) 0), .exit 4, [.pointer (some ⟨0, 0, some 0⟩), .float .f32 ((r24l2e x0 x1 x2 x3 x4 x5).2), .int .i64 x1], ⟨[⟨true, (some (.cells [wsl 1, wsl 2, wsl 3, wsl 4]))⟩, ⟨true, (some (.tab [.fl .f32] x2))⟩, ⟨true, (some (.tab [.fl .f32] x3))⟩, ⟨true, (some (.tab sc0 x4))⟩, ⟨true, (some (.tab sc1 x5))⟩], 5, []⟩)].map fun (b, x) => (b, (x.1, frameOf 68 [1, 4, 6] x.2.1, x.2.2))) :=
 (show evC Try.prog ext T20 L24_5 200 (loopN Try.f24 2) (loopTail ([1, 4, 6, 7], []) [1, 4, 6] [] (sumK 68 [1, 4, 6, 7] [1, 4, 6] Q24l2d)) (frameOf 68 [1, 4, 6, 7] [.pointer (some ⟨0, 0, some 0⟩), .float .f32 x0, .int .i64 x1, .int .i64 0]) ⟨[⟨true, (some (.cells [wsl 1, wsl 2, wsl 3, wsl 4]))⟩, ⟨true, (some (.tab [.fl .f32] x2))⟩, ⟨true, (some (.tab [.fl .f32] x3))⟩, ⟨true, (some (.tab sc0 x4))⟩, ⟨true, (some (.tab sc1 x5))⟩], 5, []⟩ = w24l2e x0 x1 x2 x3 x4 x5 from by kernel_rfl).trans
 (show w24l2e x0 x1 x2 x3 x4 x5 = a24l2e x0 x1 x2 x3 x4 x5 (r24l2e x0 x1 x2 x3 x4 x5) from by unfold w24l2e r24l2e; exact (cond_both (a24l2e x0 x1 x2 x3 x4 x5) _ (fun h0 => (cond_t (ev_and2 h0) (cond_t h0 (cond_t (ev_and2 h0) (cond_app (a24l2e x0 x1 x2 x3 x4 x5) _ rfl rfl))))) (fun h0 => rfl)))
noncomputable def Q24l2e : SumK := fun vals s =>
 match vals, s.h with
 | [.pointer (some ⟨f0, f1, some f2⟩), .float .f32 x0, .int .i64 x1, .int .i64 f3], [⟨true, some (.cells [.iface f4 .nilIface, .iface f5 .nilIface, .iface f6 .nilIface, .iface f7 .nilIface])⟩, ⟨true, some (.tab [.fl .f32] x2)⟩, ⟨true, some (.tab [.fl .f32] x3)⟩, ⟨true, some (.tab [.int .i64, .int .i64, .fl .f32, .fl .f32, .fl .f32, .fl .f32, .fl .f32, .fl .f32] x4)⟩, ⟨true, some (.tab [.int .i64, .int .i64, .fl .f32, .fl .f32] x5)⟩] => if f0 = 0 ∧ f1 = 0 ∧ f2 = 0 ∧ f3 = 0 ∧ f4 = 1 ∧ f5 = 2 ∧ f6 = 3 ∧ f7 = 4 then [((Nat.beq ((r24l2e x0 x1 x2 x3 x4 x5).1) 0), .exit 4, [.pointer (some ⟨0, 0, some 0⟩), .float .f32 ((r24l2e x0 x1 x2 x3 x4 x5).2), .int .i64 x1], ⟨[⟨true, (some (.cells [wsl 1, wsl 2, wsl 3, wsl 4]))⟩, ⟨true, (some (.tab [.fl .f32] x2))⟩, ⟨true, (some (.tab [.fl .f32] x3))⟩, ⟨true, (some (.tab sc0 x4))⟩, ⟨true, (some (.tab sc1 x5))⟩], 5, []⟩)] else Q24l2d vals s
 | _, _ => Q24l2d vals s
set_option maxRecDepth 100000 in
set_option maxHeartbeats 4000000 in
theorem qok24l2e : SumKOk Try.prog (loopN Try.f24 2) 68 [1, 4, 6, 7] [1, 4, 6] Q24l2e := by
  intro vals s x h1 h2 h3
  unfold Q24l2e at h3; split at h3
  · rename_i h; split at h3
    · rename_i hc; obtain ⟨rfl, rfl, rfl, rfl, rfl, rfl, rfl, rfl⟩ := hc; exact sum_step ok20 extOk mixed (lok24_5.inner (by kernel_rfl)) qok24l2d h1 h2 h (e24l2e _ _ _ _ _ _) rfl h3
    · exact qok24l2d _ _ _ h1 h2 h3
  · exact qok24l2d _ _ _ h1 h2 h3
noncomputable def L24_6 : LoopT := addL L24_5 13 ([1, 4, 6, 7], []) (sumK 68 [1, 4, 6, 7] [1, 4, 6] Q24l2e)
theorem lok24_6 : LfOkF Try.prog L24_6 Try.f24 := lfOkF_add lok24_5 qok24l2e (by kernel_rfl) (by kernel_rfl) (by kernel_rfl)

/-- spec.EnergyOf, loop 1: one round -/
noncomputable def b24l1 (ih : Nat → Int → List (List Int) → List (List Int) → List (List Int) → List (List Int) → (Nat × Nat)) (x0 : Nat) (x1 : Int) (x2 x3 x4 x5 : List (List Int)) : Nat × Nat :=
 cond (decide ((x1 : Int) < ((x4.length : Nat) : Int)))
  (cond (Nat.beq ((r24l2e x0 x1 x2 x3 x4 x5).1) 0)
   (ih ((r24l2e x0 x1 x2 x3 x4 x5).2) (IntKind.i64.wrap (x1 + 1)) x2 x3 x4 x5)
   (1, 0))
  (0, x0)
noncomputable def r24l1 : Nat → Nat → Int → List (List Int) → List (List Int) → List (List Int) → List (List Int) → (Nat × Nat)
 | 0 => fun _ _ _ _ _ _ => (1, 0)
 | m + 1 => b24l1 (r24l1 m)
noncomputable def a24l1 (x0 : Nat) (x1 : Int) (x2 x3 x4 x5 : List (List Int)) (p : Nat × Nat) : Option (Fin' × List Value × St) := firstT ([((Nat.beq (p.1) 0), .exit 2, [.float .f32 (p.2)], ⟨[⟨true, (some (.cells [wsl 1, wsl 2, wsl 3, wsl 4]))⟩, ⟨true, (some (.tab [.fl .f32] x2))⟩, ⟨true, (some (.tab [.fl .f32] x3))⟩, ⟨true, (some (.tab sc0 x4))⟩, ⟨true, (some (.tab sc1 x5))⟩], 5, []⟩)].map fun (b, x) => (b, (x.1, frameOf 68 [4] x.2.1, x.2.2)))
noncomputable def u24l1 (x0 : Nat) (x1 : Int) (x2 x3 x4 x5 : List (List Int)) (p : Nat × Nat) : Option (Fin' × List Value × St) := alts ([((Nat.beq (p.1) 0), .exit 2, [.float .f32 (p.2)], ⟨[⟨true, (some (.cells [wsl 1, wsl 2, wsl 3, wsl 4]))⟩, ⟨true, (some (.tab [.fl .f32] x2))⟩, ⟨true, (some (.tab [.fl .f32] x3))⟩, ⟨true, (some (.tab sc0 x4))⟩, ⟨true, (some (.tab sc1 x5))⟩], 5, []⟩)].map fun (b, x) => (b, (x.1, frameOf 68 [4] x.2.1, x.2.2))) some
theorem v24l1 (x0 : Nat) (x1 : Int) (x2 x3 x4 x5 : List (List Int)) (p : Nat × Nat) : u24l1 x0 x1 x2 x3 x4 x5 p = a24l1 x0 x1 x2 x3 x4 x5 p := alts_first _
noncomputable def q24l1 (m : Nat) : SumK := fun vals s =>
 match vals, s.h with
 | [.pointer (some ⟨f0, f1, some f2⟩), .float .f32 x0, .int .i64 x1], [⟨true, some (.cells [.iface f3 .nilIface, .iface f4 .nilIface, .iface f5 .nilIface, .iface f6 .nilIface])⟩, ⟨true, some (.tab [.fl .f32] x2)⟩, ⟨true, some (.tab [.fl .f32] x3)⟩, ⟨true, some (.tab [.int .i64, .int .i64, .fl .f32, .fl .f32, .fl .f32, .fl .f32, .fl .f32, .fl .f32] x4)⟩, ⟨true, some (.tab [.int .i64, .int .i64, .fl .f32, .fl .f32] x5)⟩] => if f0 = 0 ∧ f1 = 0 ∧ f2 = 0 ∧ f3 = 1 ∧ f4 = 2 ∧ f5 = 3 ∧ f6 = 4 then [((Nat.beq ((r24l1 m x0 x1 x2 x3 x4 x5).1) 0), .exit 2, [.float .f32 ((r24l1 m x0 x1 x2 x3 x4 x5).2)], ⟨[⟨true, (some (.cells [wsl 1, wsl 2, wsl 3, wsl 4]))⟩, ⟨true, (some (.tab [.fl .f32] x2))⟩, ⟨true, (some (.tab [.fl .f32] x3))⟩, ⟨true, (some (.tab sc0 x4))⟩, ⟨true, (some (.tab sc1 x5))⟩], 5, []⟩)] else noQ vals s
 | _, _ => noQ vals s
noncomputable def w24l1 (ih : Nat → Int → List (List Int) → List (List Int) → List (List Int) → List (List Int) → (Nat × Nat)) (x0 : Nat) (x1 : Int) (x2 x3 x4 x5 : List (List Int)) : Option (Fin' × List Value × St) :=
 (cond (decide ((x1 : Int) < ((x4.length : Nat) : Int)))
 (cond (Nat.beq ((r24l2e x0 x1 x2 x3 x4 x5).1) 0)
  (u24l1 x0 x1 x2 x3 x4 x5 (ih ((r24l2e x0 x1 x2 x3 x4 x5).2) (IntKind.i64.wrap (x1 + 1)) x2 x3 x4 x5))
  none)
 (a24l1 x0 x1 x2 x3 x4 x5 (0, x0)))
set_option maxRecDepth 100000 in
set_option maxHeartbeats 4000000 in
theorem e24l1 (m : Nat) (x0 : Nat) (x1 : Int) (x2 x3 x4 x5 : List (List Int)) : evC Try.prog ext T20 L24_6 200 (loopN Try.f24 1) (loopTail ([1, 4, 6], []) [4] [] (sumK 68 [1, 4, 6] [4] (q24l1 m))) (frameOf 68 [1, 4, 6] [.pointer (some ⟨0, 0, some 0⟩), .float .f32 x0, .int .i64 x1]) ⟨[⟨true, (some (.cells [wsl 1, wsl 2, wsl 3, wsl 4]))⟩, ⟨true, (some (.tab [.fl .f32] x2))⟩, ⟨true, (some (.tab [.fl .f32] x3))⟩, ⟨true, (some (.tab sc0 x4))⟩, ⟨true, (some (.tab sc1 x5))⟩], 5, []⟩ = firstT ([((Nat.beq ((r24l1 (m + 1) x0 x1 x2 x3 x4 x5).1) 0), .exit 2, [.float .f32 ((r24l1 (m + 1) x0 x1 x2 x3 x4 x5).2)], ⟨[⟨true, (some (.cells [wsl 1, wsl 2, wsl 3, wsl 4]))⟩, ⟨true, (some (.tab [.fl .f32] x2))⟩, ⟨true, (some (.tab [.fl .f32] x3))⟩, ⟨true, (some (.tab sc0 x4))⟩, ⟨true, (some (.tab sc1 x5))⟩], 5, []⟩)].map fun (b, x) => (b, (x.1, frameOf 68 [4] x.2.1, x.2.2))) :=
 (show evC Try.prog ext T20 L24_6 200 (loopN Try.f24 1) (loopTail ([1, 4, 6], []) [4] [] (sumK 68 [1, 4, 6] [4] (q24l1 m))) (frameOf 68 [1, 4, 6] [.pointer (some ⟨0, 0, some 0⟩), .float .f32 x0, .int .i64 x1]) ⟨[⟨true, (some (.cells [wsl 1, wsl 2, wsl 3, wsl 4]))⟩, ⟨true, (some (.tab [.fl .f32] x2))⟩, ⟨true, (some (.tab [.fl .f32] x3))⟩, ⟨true, (some (.tab sc0 x4))⟩, ⟨true, (some (.tab sc1 x5))⟩], 5, []⟩ = w24l1 (r24l1 m) x0 x1 x2 x3 x4 x5 from by kernel_rfl).trans
 (show w24l1 (r24l1 m) x0 x1 x2 x3 x4 x5 = a24l1 x0 x1 x2 x3 x4 x5 (r24l1 (m + 1) x0 x1 x2 x3 x4 x5) from by unfold w24l1; show _ = a24l1 x0 x1 x2 x3 x4 x5 (b24l1 (r24l1 m) x0 x1 x2 x3 x4 x5); unfold b24l1; exact (cond_app (a24l1 x0 x1 x2 x3 x4 x5) _ (cond_app (a24l1 x0 x1 x2 x3 x4 x5) _ (v24l1 x0 x1 x2 x3 x4 x5 ((r24l1 m) ((r24l2e x0 x1 x2 x3 x4 x5).2) (IntKind.i64.wrap (x1 + 1)) x2 x3 x4 x5)) rfl) rfl))
set_option maxRecDepth 100000 in
set_option maxHeartbeats 4000000 in
theorem qm24l1 : ∀ m, SumKOk Try.prog (loopN Try.f24 1) 68 [1, 4, 6] [4] (q24l1 m) := by
  intro m
  induction m with
  | zero =>
    intro vals s x h1 h2 h3
    unfold q24l1 at h3; split at h3
    · rename_i h; split at h3
      · rename_i hc; obtain ⟨rfl, rfl, rfl, rfl, rfl, rfl, rfl⟩ := hc; exact absurd h3 (by simp [r24l1, firstT, Nat.beq])
      · exact noQ_ok _ _ _ h1 h2 h3
    · exact noQ_ok _ _ _ h1 h2 h3
  | succ m ih =>
    intro vals s x h1 h2 h3
    unfold q24l1 at h3; split at h3
    · rename_i h; split at h3
      · rename_i hc; obtain ⟨rfl, rfl, rfl, rfl, rfl, rfl, rfl⟩ := hc; exact sum_step ok20 extOk mixed (lok24_6.inner (by kernel_rfl)) ih h1 h2 h (e24l1 m _ _ _ _ _ _) rfl h3
      · exact noQ_ok _ _ _ h1 h2 h3
    · exact noQ_ok _ _ _ h1 h2 h3
noncomputable def Q24l1 : SumK := fun vals s => q24l1 (fuelOf vals s.h) vals s
theorem qok24l1 : SumKOk Try.prog (loopN Try.f24 1) 68 [1, 4, 6] [4] Q24l1 := fuel_ok qm24l1 fuelOf
noncomputable def L24_7 : LoopT := addL L24_6 10 ([1, 4, 6], []) (sumK 68 [1, 4, 6] [4] Q24l1)
theorem lok24_7 : LfOkF Try.prog L24_7 Try.f24 := lfOkF_add lok24_6 qok24l1 (by kernel_rfl) (by kernel_rfl) (by kernel_rfl)

/-- spec.EnergyOf -/
noncomputable def r24 (x0 x1 x2 x3 : List (List Int)) : Nat × Nat × Int :=
 let c37 := (r24l0 (1000 + x3.length + x2.length + x1.length + x0.length) (fmul .f32 (Int.toNat ((x0.getD 0 []).getD 0 0)) (Int.toNat ((x1.getD 0 []).getD 0 0))) 1 x0 x1 x2 x3)
 cond (Nat.beq ((r61 x0 x1 x2 x3).1) 0)
  (cond (!((r61 x0 x1 x2 x3).2))
   (0, 0, 1)
   (cond (Nat.blt 0 x0.length)
    (cond (Nat.blt 0 x1.length)
     (cond (Nat.beq (c37.1) 0)
      (cond (Nat.beq ((r24l1 (1000 + x3.length + x2.length + x1.length + x0.length) (c37.2) 0 x0 x1 x2 x3).1) 0)
       (0, ((r24l1 (1000 + x3.length + x2.length + x1.length + x0.length) (c37.2) 0 x0 x1 x2 x3).2), 0)
       (1, 0, 0))
      (1, 0, 0))
     (1, 0, 0))
    (1, 0, 0)))
  (1, 0, 0)
noncomputable def a24 (x0 x1 x2 x3 : List (List Int)) (p : Nat × Nat × Int) : Res := firstT [((Nat.beq (p.1) 0), .tuple #[.float .f32 (p.2.1), .int .i64 (p.2.2)], ⟨[⟨true, (some (.tab [.fl .f32] x0))⟩, ⟨true, (some (.tab [.fl .f32] x1))⟩, ⟨true, (some (.tab sc0 x2))⟩, ⟨true, (some (.tab sc1 x3))⟩], 4, []⟩)]
noncomputable def w24 (x0 x1 x2 x3 : List (List Int)) : Res :=
 let c37 := (r24l0 (1000 + x3.length + x2.length + x1.length + x0.length) (fmul .f32 (Int.toNat ((x0.getD 0 []).getD 0 0)) (Int.toNat ((x1.getD 0 []).getD 0 0))) 1 x0 x1 x2 x3)
 (cond (Nat.beq ((r61 x0 x1 x2 x3).1) 0)
 (cond (!((r61 x0 x1 x2 x3).2))
  (a24 x0 x1 x2 x3 (0, 0, 1))
  (cond (Nat.blt 0 x0.length)
   (cond (Nat.blt 0 x0.length)
    (cond (Nat.blt 0 x1.length)
     (cond (Nat.blt 0 x1.length)
      (cond (Nat.beq (c37.1) 0)
       (cond (Nat.beq ((r24l1 (1000 + x3.length + x2.length + x1.length + x0.length) (c37.2) 0 x0 x1 x2 x3).1) 0)
        (a24 x0 x1 x2 x3 (0, ((r24l1 (1000 + x3.length + x2.length + x1.length + x0.length) (c37.2) 0 x0 x1 x2 x3).2), 0))
        none)
       none)
      none)
     none)
    none)
   none))
 none)
set_option maxRecDepth 100000 in
set_option maxHeartbeats 4000000 in
theorem e24 (x0 x1 x2 x3 : List (List Int)) : evFn Try.prog ext T20 L24_7 200 Try.f24 [.agg #[wsl 0, wsl 1, wsl 2, wsl 3]] ⟨[⟨true, (some (.tab [.fl .f32] x0))⟩, ⟨true, (some (.tab [.fl .f32] x1))⟩, ⟨true, (some (.tab sc0 x2))⟩, ⟨true, (some (.tab sc1 x3))⟩], 4, []⟩ = firstT [((Nat.beq ((r24 x0 x1 x2 x3).1) 0), .tuple #[.float .f32 ((r24 x0 x1 x2 x3).2.1), .int .i64 ((r24 x0 x1 x2 x3).2.2)], ⟨[⟨true, (some (.tab [.fl .f32] x0))⟩, ⟨true, (some (.tab [.fl .f32] x1))⟩, ⟨true, (some (.tab sc0 x2))⟩, ⟨true, (some (.tab sc1 x3))⟩], 4, []⟩)] :=
 (show evFn Try.prog ext T20 L24_7 200 Try.f24 [.agg #[wsl 0, wsl 1, wsl 2, wsl 3]] ⟨[⟨true, (some (.tab [.fl .f32] x0))⟩, ⟨true, (some (.tab [.fl .f32] x1))⟩, ⟨true, (some (.tab sc0 x2))⟩, ⟨true, (some (.tab sc1 x3))⟩], 4, []⟩ = w24 x0 x1 x2 x3 from by kernel_rfl).trans
 (show w24 x0 x1 x2 x3 = a24 x0 x1 x2 x3 (r24 x0 x1 x2 x3) from by unfold w24 r24; exact (cond_both (a24 x0 x1 x2 x3) _ (fun h0 => (cond_both (a24 x0 x1 x2 x3) _ (fun h1 => rfl) (fun h1 => (cond_both (a24 x0 x1 x2 x3) _ (fun h2 => (cond_t h2 (cond_both (a24 x0 x1 x2 x3) _ (fun h3 => (cond_t h3 (cond_app (a24 x0 x1 x2 x3) _ (cond_app (a24 x0 x1 x2 x3) _ rfl rfl) rfl))) (fun h3 => rfl)))) (fun h2 => rfl))))) (fun h0 => rfl)))
noncomputable def s24 (args : List Value) (s : St) : List (Bool × Value × St) :=
 match args, s.h with
 | [.agg ⟨[.iface f0 .nilIface, .iface f1 .nilIface, .iface f2 .nilIface, .iface f3 .nilIface]⟩], [⟨true, some (.tab [.fl .f32] x0)⟩, ⟨true, some (.tab [.fl .f32] x1)⟩, ⟨true, some (.tab [.int .i64, .int .i64, .fl .f32, .fl .f32, .fl .f32, .fl .f32, .fl .f32, .fl .f32] x2)⟩, ⟨true, some (.tab [.int .i64, .int .i64, .fl .f32, .fl .f32] x3)⟩] => if f0 = 0 ∧ f1 = 1 ∧ f2 = 2 ∧ f3 = 3 then [((Nat.beq ((r24 x0 x1 x2 x3).1) 0), .tuple #[.float .f32 ((r24 x0 x1 x2 x3).2.1), .int .i64 ((r24 x0 x1 x2 x3).2.2)], ⟨[⟨true, (some (.tab [.fl .f32] x0))⟩, ⟨true, (some (.tab [.fl .f32] x1))⟩, ⟨true, (some (.tab sc0 x2))⟩, ⟨true, (some (.tab sc1 x3))⟩], 4, []⟩)] else T20 24 args s
 | _, _ => T20 24 args s
noncomputable def T21 : CallF := addF T20 24 s24
set_option maxRecDepth 100000 in
set_option maxHeartbeats 4000000 in
theorem ok21 : CfOk Try.prog T21 := by
  refine cfOk_add ok20 fun args s r s' h1 h2 h3 => ?_
  unfold s24 at h3; split at h3
  · rename_i h; split at h3
    · rename_i hc; obtain ⟨rfl, rfl, rfl, rfl⟩ := hc; exact callOk ok20 Try.func24 h1 h2 h lok24_7.body (e24 _ _ _ _) rfl h3
    · exact ok20 _ _ _ _ _ h1 h2 h3
  · exact ok20 _ _ _ _ _ h1 h2 h3

/-- impl.between -/
noncomputable def r115 (x0 x1 x2 : Nat) : Bool :=
 cond (fgt .f32 x0 x1 || feq .f32 x0 x1)
  ((flt .f32 x0 x2 || feq .f32 x0 x2))
  (false)
noncomputable def a115 (x0 x1 x2 : Nat) (p : Bool) : Res := firstT [(true, .bool p, st0)]
noncomputable def w115 (x0 x1 x2 : Nat) : Res :=
 (cond (fgt .f32 x0 x1 || feq .f32 x0 x1)
 (a115 x0 x1 x2 ((flt .f32 x0 x2 || feq .f32 x0 x2)))
 (a115 x0 x1 x2 (false)))
set_option maxRecDepth 100000 in
set_option maxHeartbeats 4000000 in
theorem e115 (x0 x1 x2 : Nat) : evFn Try.prog ext T21 noL 200 Try.f115 [.float .f32 x0, .float .f32 x1, .float .f32 x2] st0 = firstT [(true, .bool (r115 x0 x1 x2), st0)] :=
 (show evFn Try.prog ext T21 noL 200 Try.f115 [.float .f32 x0, .float .f32 x1, .float .f32 x2] st0 = w115 x0 x1 x2 from by kernel_rfl).trans
 (show w115 x0 x1 x2 = a115 x0 x1 x2 (r115 x0 x1 x2) from by unfold w115 r115; exact (cond_app (a115 x0 x1 x2) _ rfl rfl))
noncomputable def s115 (args : List Value) (s : St) : List (Bool × Value × St) :=
 match args, s.h with
 | [.float .f32 x0, .float .f32 x1, .float .f32 x2], [] => [(true, .bool (r115 x0 x1 x2), st0)]
 | _, _ => T21 115 args s
noncomputable def T22 : CallF := addF T21 115 s115
set_option maxRecDepth 100000 in
set_option maxHeartbeats 4000000 in
theorem ok22 : CfOk Try.prog T22 := by
  refine cfOk_add ok21 fun args s r s' h1 h2 h3 => ?_
  unfold s115 at h3; split at h3
  · rename_i h; exact callOk ok21 Try.func115 h1 h2 h (lfOkF_no _ _).body (e115 _ _ _) rfl h3
  · exact ok21 _ _ _ _ _ h1 h2 h3

/-- impl.isHeat -/
noncomputable def r68 (x0 : Nat) : Bool :=
 ((r115 x0 3262119936 1128792064))
noncomputable def a68 (x0 : Nat) (p : Bool) : Res := firstT [(true, .bool p, st0)]
noncomputable def w68 (x0 : Nat) : Res :=
 (a68 x0 ((r115 x0 3262119936 1128792064)))
set_option maxRecDepth 100000 in
set_option maxHeartbeats 4000000 in
theorem e68 (x0 : Nat) : evFn Try.prog ext T22 noL 200 Try.f68 [.float .f32 x0] st0 = firstT [(true, .bool (r68 x0), st0)] :=
 (show evFn Try.prog ext T22 noL 200 Try.f68 [.float .f32 x0] st0 = w68 x0 from by kernel_rfl).trans
 (show w68 x0 = a68 x0 (r68 x0) from by unfold w68 r68; exact rfl)
noncomputable def s68 (args : List Value) (s : St) : List (Bool × Value × St) :=
 match args, s.h with
 | [.float .f32 x0], [] => [(true, .bool (r68 x0), st0)]
 | _, _ => T22 68 args s
noncomputable def T23 : CallF := addF T22 68 s68
set_option maxRecDepth 100000 in
set_option maxHeartbeats 4000000 in
theorem ok23 : CfOk Try.prog T23 := by
  refine cfOk_add ok22 fun args s r s' h1 h2 h3 => ?_
  unfold s68 at h3; split at h3
  · rename_i h; exact callOk ok22 Try.func68 h1 h2 h (lfOkF_no _ _).body (e68 _) rfl h3
  · exact ok22 _ _ _ _ _ h1 h2 h3

/-- math.IsNaN -/
noncomputable def r116 (x0 : Nat) : Bool :=
 ((!feq .f64 x0 x0))
noncomputable def a116 (x0 : Nat) (p : Bool) : Res := firstT [(true, .bool p, st0)]
noncomputable def w116 (x0 : Nat) : Res :=
 (a116 x0 ((!feq .f64 x0 x0)))
set_option maxRecDepth 100000 in
set_option maxHeartbeats 4000000 in
theorem e116 (x0 : Nat) : evFn Try.prog ext T23 noL 200 Try.f116 [.float .f64 x0] st0 = firstT [(true, .bool (r116 x0), st0)] :=
 (show evFn Try.prog ext T23 noL 200 Try.f116 [.float .f64 x0] st0 = w116 x0 from by kernel_rfl).trans
 (show w116 x0 = a116 x0 (r116 x0) from by unfold w116 r116; exact rfl)
noncomputable def s116 (args : List Value) (s : St) : List (Bool × Value × St) :=
 match args, s.h with
 | [.float .f64 x0], [] => [(true, .bool (r116 x0), st0)]
 | _, _ => T23 116 args s
noncomputable def T24 : CallF := addF T23 116 s116
set_option maxRecDepth 100000 in
set_option maxHeartbeats 4000000 in
theorem ok24 : CfOk Try.prog T24 := by
  refine cfOk_add ok23 fun args s r s' h1 h2 h3 => ?_
  unfold s116 at h3; split at h3
  · rename_i h; exact callOk ok23 Try.func116 h1 h2 h (lfOkF_no _ _).body (e116 _) rfl h3
  · exact ok23 _ _ _ _ _ h1 h2 h3

/-- math.Abs -/
noncomputable def r126 (x0 : Nat) : Nat :=
 cond (!isN .f64 x0)
  ((Int.toNat (bits .andNot .u64 ((x0 : Nat) : Int) 9223372036854775808)))
  (9221120237041090560)
noncomputable def a126 (x0 : Nat) (p : Nat) : Res := firstT [(true, .float .f64 p, st0)]
noncomputable def w126 (x0 : Nat) : Res :=
 (cond (!isN .f64 x0)
 (a126 x0 ((Int.toNat (bits .andNot .u64 ((x0 : Nat) : Int) 9223372036854775808))))
 (a126 x0 (9221120237041090560)))
set_option maxRecDepth 100000 in
set_option maxHeartbeats 4000000 in
theorem e126 (x0 : Nat) : evFn Try.prog ext T24 noL 200 Try.f126 [.float .f64 x0] st0 = firstT [(true, .float .f64 (r126 x0), st0)] :=
 (show evFn Try.prog ext T24 noL 200 Try.f126 [.float .f64 x0] st0 = w126 x0 from by kernel_rfl).trans
 (show w126 x0 = a126 x0 (r126 x0) from by unfold w126 r126; exact (cond_app (a126 x0) _ rfl rfl))
noncomputable def s126 (args : List Value) (s : St) : List (Bool × Value × St) :=
 match args, s.h with
 | [.float .f64 x0], [] => [(true, .float .f64 (r126 x0), st0)]
 | _, _ => T24 126 args s
noncomputable def T25 : CallF := addF T24 126 s126
set_option maxRecDepth 100000 in
set_option maxHeartbeats 4000000 in
theorem ok25 : CfOk Try.prog T25 := by
  refine cfOk_add ok24 fun args s r s' h1 h2 h3 => ?_
  unfold s126 at h3; split at h3
  · rename_i h; exact callOk ok24 Try.func126 h1 h2 h (lfOkF_no _ _).body (e126 _) rfl h3
  · exact ok24 _ _ _ _ _ h1 h2 h3

/-- math.IsInf -/
noncomputable def r117 (x0 : Nat) (x1 : Int) : Bool :=
 cond ((x1 : Int) == 0)
  ((fgt .f64 (r126 x0) 9218868437227405311))
  (cond (decide ((x1 : Int) < 0))
   ((fgt .f64 (fneg .f64 x0) 9218868437227405311))
   ((fgt .f64 x0 9218868437227405311)))
noncomputable def a117 (x0 : Nat) (x1 : Int) (p : Bool) : Res := firstT [(true, .bool p, st0)]
noncomputable def w117 (x0 : Nat) (x1 : Int) : Res :=
 (cond ((x1 : Int) == 0)
 (a117 x0 x1 ((fgt .f64 (r126 x0) 9218868437227405311)))
 (cond (decide ((x1 : Int) < 0))
  (a117 x0 x1 ((fgt .f64 (fneg .f64 x0) 9218868437227405311)))
  (a117 x0 x1 ((fgt .f64 x0 9218868437227405311)))))
set_option maxRecDepth 100000 in
set_option maxHeartbeats 4000000 in
theorem e117 (x0 : Nat) (x1 : Int) : evFn Try.prog ext T25 noL 200 Try.f117 [.float .f64 x0, .int .i64 x1] st0 = firstT [(true, .bool (r117 x0 x1), st0)] :=
 (show evFn Try.prog ext T25 noL 200 Try.f117 [.float .f64 x0, .int .i64 x1] st0 = w117 x0 x1 from by kernel_rfl).trans
 (show w117 x0 x1 = a117 x0 x1 (r117 x0 x1) from by unfold w117 r117; exact (cond_app (a117 x0 x1) _ rfl (cond_app (a117 x0 x1) _ rfl rfl)))
noncomputable def s117 (args : List Value) (s : St) : List (Bool × Value × St) :=
 match args, s.h with
 | [.float .f64 x0, .int .i64 x1], [] => [(true, .bool (r117 x0 x1), st0)]
 | _, _ => T25 117 args s
noncomputable def T26 : CallF := addF T25 117 s117
set_option maxRecDepth 100000 in
set_option maxHeartbeats 4000000 in
theorem ok26 : CfOk Try.prog T26 := by
  refine cfOk_add ok25 fun args s r s' h1 h2 h3 => ?_
  unfold s117 at h3; split at h3
  · rename_i h; exact callOk ok25 Try.func117 h1 h2 h (lfOkF_no _ _).body (e117 _ _) rfl h3
  · exact ok25 _ _ _ _ _ h1 h2 h3

/-- impl.isFinite -/
noncomputable def r70 (x0 : Nat) : Bool :=
 cond (r116 (widen x0))
  (false)
  (cond (r117 (widen x0) 0)
   (false)
   (true))
noncomputable def a70 (x0 : Nat) (p : Bool) : Res := firstT [(true, .bool p, ⟨[⟨true, (some (.tab [.fl .f32] ([[((x0 : Nat) : Int)]] : List (List Int))))⟩], 1, []⟩)]
noncomputable def w70 (x0 : Nat) : Res :=
 (cond (r116 (widen x0))
 (a70 x0 (false))
 (cond (r117 (widen x0) 0)
  (a70 x0 (false))
  (a70 x0 (true))))
set_option maxRecDepth 100000 in
set_option maxHeartbeats 4000000 in
theorem e70 (x0 : Nat) : evFn Try.prog ext T26 noL 200 Try.f70 [.slice (some ⟨0, 0, some 0⟩) 1 1] ⟨[⟨true, (some (.tab [.fl .f32] ([[((x0 : Nat) : Int)]] : List (List Int))))⟩], 1, []⟩ = firstT [(true, .bool (r70 x0), ⟨[⟨true, (some (.tab [.fl .f32] ([[((x0 : Nat) : Int)]] : List (List Int))))⟩], 1, []⟩)] :=
 (show evFn Try.prog ext T26 noL 200 Try.f70 [.slice (some ⟨0, 0, some 0⟩) 1 1] ⟨[⟨true, (some (.tab [.fl .f32] ([[((x0 : Nat) : Int)]] : List (List Int))))⟩], 1, []⟩ = w70 x0 from by kernel_rfl).trans
 (show w70 x0 = a70 x0 (r70 x0) from by unfold w70 r70; exact (cond_app (a70 x0) _ rfl (cond_app (a70 x0) _ rfl rfl)))
noncomputable def s70 (args : List Value) (s : St) : List (Bool × Value × St) :=
 match args, s.h with
 | [.slice (some ⟨f0, f1, some f2⟩) f3 f4], [⟨true, some (.tab [.fl .f32] [[.ofNat x0]])⟩] => if f0 = 0 ∧ f1 = 0 ∧ f2 = 0 ∧ f3 = 1 ∧ f4 = 1 then [(true, .bool (r70 x0), ⟨[⟨true, (some (.tab [.fl .f32] ([[((x0 : Nat) : Int)]] : List (List Int))))⟩], 1, []⟩)] else T26 70 args s
 | _, _ => T26 70 args s
noncomputable def T27 : CallF := addF T26 70 s70
set_option maxRecDepth 100000 in
set_option maxHeartbeats 4000000 in
theorem ok27 : CfOk Try.prog T27 := by
  refine cfOk_add ok26 fun args s r s' h1 h2 h3 => ?_
  unfold s70 at h3; split at h3
  · rename_i h; split at h3
    · rename_i hc; obtain ⟨rfl, rfl, rfl, rfl, rfl⟩ := hc; exact callOk ok26 Try.func70 h1 h2 h (lfOkF_no _ _).body (e70 _) rfl h3
    · exact ok26 _ _ _ _ _ h1 h2 h3
  · exact ok26 _ _ _ _ _ h1 h2 h3

/-- impl.IsAmount -/
noncomputable def r111 (x0 : Nat) : Bool :=
 cond (r70 x0)
  (cond (fgt .f32 x0 0 || feq .f32 x0 0)
   ((((Int.fdiv ((x0 : Nat) : Int) (2 ^ (min (31 : Int).toNat (IntKind.bits .u32)))) : Int) == 0))
   (false))
  (false)
noncomputable def a111 (x0 : Nat) (p : Bool) : Res := firstT [(true, .bool p, st0)]
noncomputable def w111 (x0 : Nat) : Res :=
 (cond (r70 x0)
 (cond (fgt .f32 x0 0 || feq .f32 x0 0)
  (cond (!isN .f32 x0)
   (a111 x0 ((((Int.fdiv ((x0 : Nat) : Int) (2 ^ (min (31 : Int).toNat (IntKind.bits .u32)))) : Int) == 0)))
   none)
  (a111 x0 (false)))
 (a111 x0 (false)))
set_option maxRecDepth 100000 in
set_option maxHeartbeats 4000000 in
theorem e111 (x0 : Nat) : evFn Try.prog ext T27 noL 200 Try.f111 [.float .f32 x0] st0 = firstT [(true, .bool (r111 x0), st0)] :=
 (show evFn Try.prog ext T27 noL 200 Try.f111 [.float .f32 x0] st0 = w111 x0 from by kernel_rfl).trans
 (show w111 x0 = a111 x0 (r111 x0) from by unfold w111 r111; exact (cond_both (a111 x0) _ (fun h0 => (cond_both (a111 x0) _ (fun h1 => (cond_t (ev_not1 (ev_or h1 (fun hq0 => (ev_gt1 hq0)) (fun hq0 => (ev_eq1 hq0)))) rfl)) (fun h1 => rfl))) (fun h0 => rfl)))
noncomputable def s111 (args : List Value) (s : St) : List (Bool × Value × St) :=
 match args, s.h with
 | [.float .f32 x0], [] => [(true, .bool (r111 x0), st0)]
 | _, _ => T27 111 args s
noncomputable def T28 : CallF := addF T27 111 s111
set_option maxRecDepth 100000 in
set_option maxHeartbeats 4000000 in
theorem ok28 : CfOk Try.prog T28 := by
  refine cfOk_add ok27 fun args s r s' h1 h2 h3 => ?_
  unfold s111 at h3; split at h3
  · rename_i h; exact callOk ok27 Try.func111 h1 h2 h (lfOkF_no _ _).body (e111 _) rfl h3
  · exact ok27 _ _ _ _ _ h1 h2 h3

/-- impl.isStore -/
noncomputable def r113 (x0 : Nat) : Bool :=
 cond (r111 x0)
  ((r115 x0 1065353216 1176256512))
  (false)
noncomputable def a113 (x0 : Nat) (p : Bool) : Res := firstT [(true, .bool p, st0)]
noncomputable def w113 (x0 : Nat) : Res :=
 (cond (r111 x0)
 (a113 x0 ((r115 x0 1065353216 1176256512)))
 (a113 x0 (false)))
set_option maxRecDepth 100000 in
set_option maxHeartbeats 4000000 in
theorem e113 (x0 : Nat) : evFn Try.prog ext T28 noL 200 Try.f113 [.float .f32 x0] st0 = firstT [(true, .bool (r113 x0), st0)] :=
 (show evFn Try.prog ext T28 noL 200 Try.f113 [.float .f32 x0] st0 = w113 x0 from by kernel_rfl).trans
 (show w113 x0 = a113 x0 (r113 x0) from by unfold w113 r113; exact (cond_app (a113 x0) _ rfl rfl))
noncomputable def s113 (args : List Value) (s : St) : List (Bool × Value × St) :=
 match args, s.h with
 | [.float .f32 x0], [] => [(true, .bool (r113 x0), st0)]
 | _, _ => T28 113 args s
noncomputable def T29 : CallF := addF T28 113 s113
set_option maxRecDepth 100000 in
set_option maxHeartbeats 4000000 in
theorem ok29 : CfOk Try.prog T29 := by
  refine cfOk_add ok28 fun args s r s' h1 h2 h3 => ?_
  unfold s113 at h3; split at h3
  · rename_i h; exact callOk ok28 Try.func113 h1 h2 h (lfOkF_no _ _).body (e113 _) rfl h3
  · exact ok28 _ _ _ _ _ h1 h2 h3

/-- impl.ValidFlat, loop 0: one round -/
noncomputable def b65l0 (ih : Int → Int → Int → List (List Int) → List (List Int) → List (List Int) → List (List Int) → Nat) (x0 x1 x2 : Int) (x3 x4 x5 x6 : List (List Int)) : Nat :=
 cond (decide ((x2 : Int) < x1))
  (cond ((decide ((0 : Int) ≤ x2)) && (Nat.blt (Int.toNat x2) x3.length))
   (cond (!(r68 (Int.toNat ((x3.getD (Int.toNat x2) []).getD 0 0))))
    (0)
    (cond ((decide ((0 : Int) ≤ x2)) && (Nat.blt (Int.toNat x2) x4.length))
     (cond (!(r113 (Int.toNat ((x4.getD (Int.toNat x2) []).getD 0 0))))
      (0)
      (ih x0 x1 (IntKind.i64.wrap (x2 + 1)) x3 x4 x5 x6))
     (2)))
   (2))
  (1)
noncomputable def r65l0 : Nat → Int → Int → Int → List (List Int) → List (List Int) → List (List Int) → List (List Int) → Nat
 | 0 => fun _ _ _ _ _ _ _ => (2)
 | m + 1 => b65l0 (r65l0 m)
noncomputable def a65l0 (x0 x1 x2 : Int) (x3 x4 x5 x6 : List (List Int)) (p : Nat) : Option (Fin' × List Value × St) := firstT ([((Nat.beq p 0), .ret, [.pointer (some ⟨0, 0, some 0⟩), .bool false, .int .i64 x0], ⟨[⟨true, (some (.cells [wsl 1, wsl 2, wsl 3, wsl 4]))⟩, ⟨true, (some (.tab [.fl .f32] x3))⟩, ⟨true, (some (.tab [.fl .f32] x4))⟩, ⟨true, (some (.tab sc0 x5))⟩, ⟨true, (some (.tab sc1 x6))⟩], 5, []⟩), ((Nat.beq p 1), .exit 0, [.pointer (some ⟨0, 0, some 0⟩), anyV, .int .i64 x0], ⟨[⟨true, (some (.cells [wsl 1, wsl 2, wsl 3, wsl 4]))⟩, ⟨true, (some (.tab [.fl .f32] x3))⟩, ⟨true, (some (.tab [.fl .f32] x4))⟩, ⟨true, (some (.tab sc0 x5))⟩, ⟨true, (some (.tab sc1 x6))⟩], 5, []⟩)].map fun (b, x) => (b, (x.1, frameOf 129 [1, 2, 3] x.2.1, x.2.2)))
noncomputable def u65l0 (x0 x1 x2 : Int) (x3 x4 x5 x6 : List (List Int)) (p : Nat) : Option (Fin' × List Value × St) := alts ([((Nat.beq p 0), .ret, [.pointer (some ⟨0, 0, some 0⟩), .bool false, .int .i64 x0], ⟨[⟨true, (some (.cells [wsl 1, wsl 2, wsl 3, wsl 4]))⟩, ⟨true, (some (.tab [.fl .f32] x3))⟩, ⟨true, (some (.tab [.fl .f32] x4))⟩, ⟨true, (some (.tab sc0 x5))⟩, ⟨true, (some (.tab sc1 x6))⟩], 5, []⟩), ((Nat.beq p 1), .exit 0, [.pointer (some ⟨0, 0, some 0⟩), anyV, .int .i64 x0], ⟨[⟨true, (some (.cells [wsl 1, wsl 2, wsl 3, wsl 4]))⟩, ⟨true, (some (.tab [.fl .f32] x3))⟩, ⟨true, (some (.tab [.fl .f32] x4))⟩, ⟨true, (some (.tab sc0 x5))⟩, ⟨true, (some (.tab sc1 x6))⟩], 5, []⟩)].map fun (b, x) => (b, (x.1, frameOf 129 [1, 2, 3] x.2.1, x.2.2))) some
theorem v65l0 (x0 x1 x2 : Int) (x3 x4 x5 x6 : List (List Int)) (p : Nat) : u65l0 x0 x1 x2 x3 x4 x5 x6 p = a65l0 x0 x1 x2 x3 x4 x5 x6 p := alts_first _
noncomputable def q65l0 (m : Nat) : SumK := fun vals s =>
 match vals, s.h with
 | [.pointer (some ⟨f0, f1, some f2⟩), .int .i64 x0, .int .i64 x1, .int .i64 x2], [⟨true, some (.cells [.iface f3 .nilIface, .iface f4 .nilIface, .iface f5 .nilIface, .iface f6 .nilIface])⟩, ⟨true, some (.tab [.fl .f32] x3)⟩, ⟨true, some (.tab [.fl .f32] x4)⟩, ⟨true, some (.tab [.int .i64, .int .i64, .fl .f32, .fl .f32, .fl .f32, .fl .f32, .fl .f32, .fl .f32] x5)⟩, ⟨true, some (.tab [.int .i64, .int .i64, .fl .f32, .fl .f32] x6)⟩] => if f0 = 0 ∧ f1 = 0 ∧ f2 = 0 ∧ f3 = 1 ∧ f4 = 2 ∧ f5 = 3 ∧ f6 = 4 then [((Nat.beq (r65l0 m x0 x1 x2 x3 x4 x5 x6) 0), .ret, [.pointer (some ⟨0, 0, some 0⟩), .bool false, .int .i64 x0], ⟨[⟨true, (some (.cells [wsl 1, wsl 2, wsl 3, wsl 4]))⟩, ⟨true, (some (.tab [.fl .f32] x3))⟩, ⟨true, (some (.tab [.fl .f32] x4))⟩, ⟨true, (some (.tab sc0 x5))⟩, ⟨true, (some (.tab sc1 x6))⟩], 5, []⟩), ((Nat.beq (r65l0 m x0 x1 x2 x3 x4 x5 x6) 1), .exit 0, [.pointer (some ⟨0, 0, some 0⟩), anyV, .int .i64 x0], ⟨[⟨true, (some (.cells [wsl 1, wsl 2, wsl 3, wsl 4]))⟩, ⟨true, (some (.tab [.fl .f32] x3))⟩, ⟨true, (some (.tab [.fl .f32] x4))⟩, ⟨true, (some (.tab sc0 x5))⟩, ⟨true, (some (.tab sc1 x6))⟩], 5, []⟩)] else noQ vals s
 | _, _ => noQ vals s
noncomputable def w65l0 (ih : Int → Int → Int → List (List Int) → List (List Int) → List (List Int) → List (List Int) → Nat) (x0 x1 x2 : Int) (x3 x4 x5 x6 : List (List Int)) : Option (Fin' × List Value × St) :=
 (cond (decide ((x2 : Int) < x1))
 (cond ((decide ((0 : Int) ≤ x2)) && (Nat.blt (Int.toNat x2) x3.length))
  (cond (Nat.blt (Int.toNat x2) x3.length)
   (cond (!(r68 (Int.toNat ((x3.getD (Int.toNat x2) []).getD 0 0))))
    (a65l0 x0 x1 x2 x3 x4 x5 x6 (0))
    (cond ((decide ((0 : Int) ≤ x2)) && (Nat.blt (Int.toNat x2) x4.length))
     (cond (Nat.blt (Int.toNat x2) x4.length)
      (cond (!(r113 (Int.toNat ((x4.getD (Int.toNat x2) []).getD 0 0))))
       (a65l0 x0 x1 x2 x3 x4 x5 x6 (0))
       (u65l0 x0 x1 x2 x3 x4 x5 x6 (ih x0 x1 (IntKind.i64.wrap (x2 + 1)) x3 x4 x5 x6)))
      none)
     none))
   none)
  none)
 (a65l0 x0 x1 x2 x3 x4 x5 x6 (1)))
set_option maxRecDepth 100000 in
set_option maxHeartbeats 4000000 in
theorem e65l0 (m : Nat) (x0 x1 x2 : Int) (x3 x4 x5 x6 : List (List Int)) : evC Try.prog ext T29 noL 200 (loopN Try.f65 0) (loopTail ([1, 3, 39, 40], []) [1, 2, 3] [] (sumK 129 [1, 3, 39, 40] [1, 2, 3] (q65l0 m))) (frameOf 129 [1, 3, 39, 40] [.pointer (some ⟨0, 0, some 0⟩), .int .i64 x0, .int .i64 x1, .int .i64 x2]) ⟨[⟨true, (some (.cells [wsl 1, wsl 2, wsl 3, wsl 4]))⟩, ⟨true, (some (.tab [.fl .f32] x3))⟩, ⟨true, (some (.tab [.fl .f32] x4))⟩, ⟨true, (some (.tab sc0 x5))⟩, ⟨true, (some (.tab sc1 x6))⟩], 5, []⟩ = firstT ([((Nat.beq (r65l0 (m + 1) x0 x1 x2 x3 x4 x5 x6) 0), .ret, [.pointer (some ⟨0, 0, some 0⟩), .bool false, .int .i64 x0], ⟨[⟨true, (some (.cells [wsl 1, wsl 2, wsl 3, wsl 4]))⟩, ⟨true, (some (.tab [.fl .f32] x3))⟩, ⟨true, (some (.tab [.fl .f32] x4))⟩, ⟨true, (some (.tab sc0 x5))⟩, ⟨true, (some (.tab sc1 x6))⟩], 5, []⟩), ((Nat.beq (r65l0 (m + 1) x0 x1 x2 x3 x4 x5 x6) 1), .exit 0, [.pointer (some ⟨0, 0, some 0⟩), anyV, .int .i64 x0], ⟨[⟨true, (some (.cells [wsl 1, wsl 2, wsl 3, wsl 4]))⟩, ⟨true, (some (.tab [.fl .f32] x3))⟩, ⟨true, (some (.tab [.fl .f32] x4))⟩, ⟨true, (some (.tab sc0 x5))⟩, ⟨true, (some (.tab sc1 x6))⟩], 5, []⟩)].map fun (b, x) => (b, (x.1, frameOf 129 [1, 2, 3] x.2.1, x.2.2))) :=
 (show evC Try.prog ext T29 noL 200 (loopN Try.f65 0) (loopTail ([1, 3, 39, 40], []) [1, 2, 3] [] (sumK 129 [1, 3, 39, 40] [1, 2, 3] (q65l0 m))) (frameOf 129 [1, 3, 39, 40] [.pointer (some ⟨0, 0, some 0⟩), .int .i64 x0, .int .i64 x1, .int .i64 x2]) ⟨[⟨true, (some (.cells [wsl 1, wsl 2, wsl 3, wsl 4]))⟩, ⟨true, (some (.tab [.fl .f32] x3))⟩, ⟨true, (some (.tab [.fl .f32] x4))⟩, ⟨true, (some (.tab sc0 x5))⟩, ⟨true, (some (.tab sc1 x6))⟩], 5, []⟩ = w65l0 (r65l0 m) x0 x1 x2 x3 x4 x5 x6 from by kernel_rfl).trans
 (show w65l0 (r65l0 m) x0 x1 x2 x3 x4 x5 x6 = a65l0 x0 x1 x2 x3 x4 x5 x6 (r65l0 (m + 1) x0 x1 x2 x3 x4 x5 x6) from by unfold w65l0; show _ = a65l0 x0 x1 x2 x3 x4 x5 x6 (b65l0 (r65l0 m) x0 x1 x2 x3 x4 x5 x6); unfold b65l0; exact (cond_both (a65l0 x0 x1 x2 x3 x4 x5 x6) _ (fun h0 => (cond_both (a65l0 x0 x1 x2 x3 x4 x5 x6) _ (fun h1 => (cond_t (ev_and2 h1) (cond_both (a65l0 x0 x1 x2 x3 x4 x5 x6) _ (fun h2 => rfl) (fun h2 => (cond_both (a65l0 x0 x1 x2 x3 x4 x5 x6) _ (fun h3 => (cond_t (ev_and2 h3) (cond_app (a65l0 x0 x1 x2 x3 x4 x5 x6) _ rfl (v65l0 x0 x1 x2 x3 x4 x5 x6 ((r65l0 m) x0 x1 (IntKind.i64.wrap (x2 + 1)) x3 x4 x5 x6))))) (fun h3 => rfl)))))) (fun h1 => rfl))) (fun h0 => rfl)))
set_option maxRecDepth 100000 in
set_option maxHeartbeats 4000000 in
theorem qm65l0 : ∀ m, SumKOk Try.prog (loopN Try.f65 0) 129 [1, 3, 39, 40] [1, 2, 3] (q65l0 m) := by
  intro m
  induction m with
  | zero =>
    intro vals s x h1 h2 h3
    unfold q65l0 at h3; split at h3
    · rename_i h; split at h3
      · rename_i hc; obtain ⟨rfl, rfl, rfl, rfl, rfl, rfl, rfl⟩ := hc; exact absurd h3 (by simp [r65l0, firstT, Nat.beq])
      · exact noQ_ok _ _ _ h1 h2 h3
    · exact noQ_ok _ _ _ h1 h2 h3
  | succ m ih =>
    intro vals s x h1 h2 h3
    unfold q65l0 at h3; split at h3
    · rename_i h; split at h3
      · rename_i hc; obtain ⟨rfl, rfl, rfl, rfl, rfl, rfl, rfl⟩ := hc; exact sum_step ok29 extOk mixed ((lfOkF_no _ _).inner (by kernel_rfl)) ih h1 h2 h (e65l0 m _ _ _ _ _ _ _) rfl h3
      · exact noQ_ok _ _ _ h1 h2 h3
    · exact noQ_ok _ _ _ h1 h2 h3
noncomputable def Q65l0 : SumK := fun vals s => q65l0 (fuelOf vals s.h) vals s
theorem qok65l0 : SumKOk Try.prog (loopN Try.f65 0) 129 [1, 3, 39, 40] [1, 2, 3] Q65l0 := fuel_ok qm65l0 fuelOf
noncomputable def L65_1 : LoopT := addL noL 6 ([1, 3, 39, 40], []) (sumK 129 [1, 3, 39, 40] [1, 2, 3] Q65l0)
theorem lok65_1 : LfOkF Try.prog L65_1 Try.f65 := lfOkF_add (lfOkF_no _ _) qok65l0 (by kernel_rfl) (by kernel_rfl) (by kernel_rfl)

/-- impl.stands -/
noncomputable def r114 (x0 x1 x2 : Int) : Bool :=
 cond (decide ((x0 : Int) ≥ 0))
  (cond (decide ((x0 : Int) < x2))
   (cond (decide ((x1 : Int) ≥ (-1)))
    (cond (decide ((x1 : Int) < x2))
     (((x0 : Int) != x1))
     (false))
    (false))
   (false))
  (false)
noncomputable def a114 (x0 x1 x2 : Int) (p : Bool) : Res := firstT [(true, .bool p, st0)]
noncomputable def w114 (x0 x1 x2 : Int) : Res :=
 (cond (decide ((x0 : Int) ≥ 0))
 (cond (decide ((x0 : Int) < x2))
  (cond (decide ((x1 : Int) ≥ (-1)))
   (cond (decide ((x1 : Int) < x2))
    (a114 x0 x1 x2 (((x0 : Int) != x1)))
    (a114 x0 x1 x2 (false)))
   (a114 x0 x1 x2 (false)))
  (a114 x0 x1 x2 (false)))
 (a114 x0 x1 x2 (false)))
set_option maxRecDepth 100000 in
set_option maxHeartbeats 4000000 in
theorem e114 (x0 x1 x2 : Int) : evFn Try.prog ext T29 noL 200 Try.f114 [.int .i64 x0, .int .i64 x1, .int .i64 x2] st0 = firstT [(true, .bool (r114 x0 x1 x2), st0)] :=
 (show evFn Try.prog ext T29 noL 200 Try.f114 [.int .i64 x0, .int .i64 x1, .int .i64 x2] st0 = w114 x0 x1 x2 from by kernel_rfl).trans
 (show w114 x0 x1 x2 = a114 x0 x1 x2 (r114 x0 x1 x2) from by unfold w114 r114; exact (cond_app (a114 x0 x1 x2) _ (cond_app (a114 x0 x1 x2) _ (cond_app (a114 x0 x1 x2) _ (cond_app (a114 x0 x1 x2) _ rfl rfl) rfl) rfl) rfl))
noncomputable def s114 (args : List Value) (s : St) : List (Bool × Value × St) :=
 match args, s.h with
 | [.int .i64 x0, .int .i64 x1, .int .i64 x2], [] => [(true, .bool (r114 x0 x1 x2), st0)]
 | _, _ => T29 114 args s
noncomputable def T30 : CallF := addF T29 114 s114
set_option maxRecDepth 100000 in
set_option maxHeartbeats 4000000 in
theorem ok30 : CfOk Try.prog T30 := by
  refine cfOk_add ok29 fun args s r s' h1 h2 h3 => ?_
  unfold s114 at h3; split at h3
  · rename_i h; exact callOk ok29 Try.func114 h1 h2 h (lfOkF_no _ _).body (e114 _ _ _) rfl h3
  · exact ok29 _ _ _ _ _ h1 h2 h3

/-- impl.ValidFlat, loop 1: one round -/
noncomputable def b65l1 (ih : Int → Int → Int → List (List Int) → List (List Int) → List (List Int) → List (List Int) → Nat) (x0 x1 x2 : Int) (x3 x4 x5 x6 : List (List Int)) : Nat :=
 cond (decide ((x2 : Int) < x1))
  (cond ((decide ((0 : Int) ≤ x2)) && (Nat.blt (Int.toNat x2) x3.length))
   (cond (!(r114 ((x3.getD (Int.toNat x2) []).getD 0 0) ((x3.getD (Int.toNat x2) []).getD 1 0) x0))
    (0)
    (cond (!(r111 (Int.toNat ((x3.getD (Int.toNat x2) []).getD 2 0))))
     (0)
     (cond (!(r115 (Int.toNat ((x3.getD (Int.toNat x2) []).getD 2 0)) 1015021568 1120403456))
      (0)
      (cond (!(r113 (Int.toNat ((x3.getD (Int.toNat x2) []).getD 3 0))))
       (0)
       (cond (!(r68 (Int.toNat ((x3.getD (Int.toNat x2) []).getD 4 0))))
        (0)
        (cond (!(r68 (Int.toNat ((x3.getD (Int.toNat x2) []).getD 5 0))))
         (0)
         (cond (!(r68 (Int.toNat ((x3.getD (Int.toNat x2) []).getD 6 0))))
          (0)
          (cond (!(r68 (Int.toNat ((x3.getD (Int.toNat x2) []).getD 7 0))))
           (0)
           (ih x0 x1 (IntKind.i64.wrap (x2 + 1)) x3 x4 x5 x6)))))))))
   (2))
  (1)
noncomputable def r65l1 : Nat → Int → Int → Int → List (List Int) → List (List Int) → List (List Int) → List (List Int) → Nat
 | 0 => fun _ _ _ _ _ _ _ => (2)
 | m + 1 => b65l1 (r65l1 m)
noncomputable def a65l1 (x0 x1 x2 : Int) (x3 x4 x5 x6 : List (List Int)) (p : Nat) : Option (Fin' × List Value × St) := firstT ([((Nat.beq p 0), .ret, [.pointer (some ⟨0, 0, some 0⟩), .bool false, .int .i64 x0], ⟨[⟨true, (some (.cells [wsl 2, wsl 3, wsl 1, wsl 4]))⟩, ⟨true, (some (.tab sc0 x3))⟩, ⟨true, (some (.tab [.fl .f32] x4))⟩, ⟨true, (some (.tab [.fl .f32] x5))⟩, ⟨true, (some (.tab sc1 x6))⟩], 5, []⟩), ((Nat.beq p 1), .exit 2, [.pointer (some ⟨0, 0, some 0⟩), anyV, .int .i64 x0], ⟨[⟨true, (some (.cells [wsl 2, wsl 3, wsl 1, wsl 4]))⟩, ⟨true, (some (.tab sc0 x3))⟩, ⟨true, (some (.tab [.fl .f32] x4))⟩, ⟨true, (some (.tab [.fl .f32] x5))⟩, ⟨true, (some (.tab sc1 x6))⟩], 5, []⟩)].map fun (b, x) => (b, (x.1, frameOf 129 [1, 2, 3] x.2.1, x.2.2)))
noncomputable def u65l1 (x0 x1 x2 : Int) (x3 x4 x5 x6 : List (List Int)) (p : Nat) : Option (Fin' × List Value × St) := alts ([((Nat.beq p 0), .ret, [.pointer (some ⟨0, 0, some 0⟩), .bool false, .int .i64 x0], ⟨[⟨true, (some (.cells [wsl 2, wsl 3, wsl 1, wsl 4]))⟩, ⟨true, (some (.tab sc0 x3))⟩, ⟨true, (some (.tab [.fl .f32] x4))⟩, ⟨true, (some (.tab [.fl .f32] x5))⟩, ⟨true, (some (.tab sc1 x6))⟩], 5, []⟩), ((Nat.beq p 1), .exit 2, [.pointer (some ⟨0, 0, some 0⟩), anyV, .int .i64 x0], ⟨[⟨true, (some (.cells [wsl 2, wsl 3, wsl 1, wsl 4]))⟩, ⟨true, (some (.tab sc0 x3))⟩, ⟨true, (some (.tab [.fl .f32] x4))⟩, ⟨true, (some (.tab [.fl .f32] x5))⟩, ⟨true, (some (.tab sc1 x6))⟩], 5, []⟩)].map fun (b, x) => (b, (x.1, frameOf 129 [1, 2, 3] x.2.1, x.2.2))) some
theorem v65l1 (x0 x1 x2 : Int) (x3 x4 x5 x6 : List (List Int)) (p : Nat) : u65l1 x0 x1 x2 x3 x4 x5 x6 p = a65l1 x0 x1 x2 x3 x4 x5 x6 p := alts_first _
noncomputable def q65l1 (m : Nat) : SumK := fun vals s =>
 match vals, s.h with
 | [.pointer (some ⟨f0, f1, some f2⟩), .int .i64 x0, .iface f3 .nilIface, .int .i64 x1, .int .i64 x2], [⟨true, some (.cells [.iface f4 .nilIface, .iface f5 .nilIface, .iface f6 .nilIface, .iface f7 .nilIface])⟩, ⟨true, some (.tab [.int .i64, .int .i64, .fl .f32, .fl .f32, .fl .f32, .fl .f32, .fl .f32, .fl .f32] x3)⟩, ⟨true, some (.tab [.fl .f32] x4)⟩, ⟨true, some (.tab [.fl .f32] x5)⟩, ⟨true, some (.tab [.int .i64, .int .i64, .fl .f32, .fl .f32] x6)⟩] => if f0 = 0 ∧ f1 = 0 ∧ f2 = 0 ∧ f3 = 1 ∧ f4 = 2 ∧ f5 = 3 ∧ f6 = 1 ∧ f7 = 4 then [((Nat.beq (r65l1 m x0 x1 x2 x3 x4 x5 x6) 0), .ret, [.pointer (some ⟨0, 0, some 0⟩), .bool false, .int .i64 x0], ⟨[⟨true, (some (.cells [wsl 2, wsl 3, wsl 1, wsl 4]))⟩, ⟨true, (some (.tab sc0 x3))⟩, ⟨true, (some (.tab [.fl .f32] x4))⟩, ⟨true, (some (.tab [.fl .f32] x5))⟩, ⟨true, (some (.tab sc1 x6))⟩], 5, []⟩), ((Nat.beq (r65l1 m x0 x1 x2 x3 x4 x5 x6) 1), .exit 2, [.pointer (some ⟨0, 0, some 0⟩), anyV, .int .i64 x0], ⟨[⟨true, (some (.cells [wsl 2, wsl 3, wsl 1, wsl 4]))⟩, ⟨true, (some (.tab sc0 x3))⟩, ⟨true, (some (.tab [.fl .f32] x4))⟩, ⟨true, (some (.tab [.fl .f32] x5))⟩, ⟨true, (some (.tab sc1 x6))⟩], 5, []⟩)] else noQ vals s
 | _, _ => noQ vals s
noncomputable def w65l1 (ih : Int → Int → Int → List (List Int) → List (List Int) → List (List Int) → List (List Int) → Nat) (x0 x1 x2 : Int) (x3 x4 x5 x6 : List (List Int)) : Option (Fin' × List Value × St) :=
 (cond (decide ((x2 : Int) < x1))
 (cond ((decide ((0 : Int) ≤ x2)) && (Nat.blt (Int.toNat x2) x3.length))
  (cond (Nat.blt (Int.toNat x2) x3.length)
   (cond (!(r114 ((x3.getD (Int.toNat x2) []).getD 0 0) ((x3.getD (Int.toNat x2) []).getD 1 0) x0))
    (a65l1 x0 x1 x2 x3 x4 x5 x6 (0))
    (cond (!(r111 (Int.toNat ((x3.getD (Int.toNat x2) []).getD 2 0))))
     (a65l1 x0 x1 x2 x3 x4 x5 x6 (0))
     (cond (!(r115 (Int.toNat ((x3.getD (Int.toNat x2) []).getD 2 0)) 1015021568 1120403456))
      (a65l1 x0 x1 x2 x3 x4 x5 x6 (0))
      (cond (!(r113 (Int.toNat ((x3.getD (Int.toNat x2) []).getD 3 0))))
       (a65l1 x0 x1 x2 x3 x4 x5 x6 (0))
       (cond (!(r68 (Int.toNat ((x3.getD (Int.toNat x2) []).getD 4 0))))
        (a65l1 x0 x1 x2 x3 x4 x5 x6 (0))
        (cond (!(r68 (Int.toNat ((x3.getD (Int.toNat x2) []).getD 5 0))))
         (a65l1 x0 x1 x2 x3 x4 x5 x6 (0))
         (cond (!(r68 (Int.toNat ((x3.getD (Int.toNat x2) []).getD 6 0))))
          (a65l1 x0 x1 x2 x3 x4 x5 x6 (0))
          (cond (!(r68 (Int.toNat ((x3.getD (Int.toNat x2) []).getD 7 0))))
           (a65l1 x0 x1 x2 x3 x4 x5 x6 (0))
           (u65l1 x0 x1 x2 x3 x4 x5 x6 (ih x0 x1 (IntKind.i64.wrap (x2 + 1)) x3 x4 x5 x6))))))))))
   none)
  none)
 (a65l1 x0 x1 x2 x3 x4 x5 x6 (1)))
set_option maxRecDepth 100000 in
set_option maxHeartbeats 4000000 in
theorem e65l1 (m : Nat) (x0 x1 x2 : Int) (x3 x4 x5 x6 : List (List Int)) : evC Try.prog ext T30 L65_1 200 (loopN Try.f65 1) (loopTail ([1, 3, 61, 62, 63], []) [1, 2, 3] [] (sumK 129 [1, 3, 61, 62, 63] [1, 2, 3] (q65l1 m))) (frameOf 129 [1, 3, 61, 62, 63] [.pointer (some ⟨0, 0, some 0⟩), .int .i64 x0, wsl 1, .int .i64 x1, .int .i64 x2]) ⟨[⟨true, (some (.cells [wsl 2, wsl 3, wsl 1, wsl 4]))⟩, ⟨true, (some (.tab sc0 x3))⟩, ⟨true, (some (.tab [.fl .f32] x4))⟩, ⟨true, (some (.tab [.fl .f32] x5))⟩, ⟨true, (some (.tab sc1 x6))⟩], 5, []⟩ = firstT ([((Nat.beq (r65l1 (m + 1) x0 x1 x2 x3 x4 x5 x6) 0), .ret, [.pointer (some ⟨0, 0, some 0⟩), .bool false, .int .i64 x0], ⟨[⟨true, (some (.cells [wsl 2, wsl 3, wsl 1, wsl 4]))⟩, ⟨true, (some (.tab sc0 x3))⟩, ⟨true, (some (.tab [.fl .f32] x4))⟩, ⟨true, (some (.tab [.fl .f32] x5))⟩, ⟨true, (some (.tab sc1 x6))⟩], 5, []⟩), ((Nat.beq (r65l1 (m + 1) x0 x1 x2 x3 x4 x5 x6) 1), .exit 2, [.pointer (some ⟨0, 0, some 0⟩), anyV, .int .i64 x0], ⟨[⟨true, (some (.cells [wsl 2, wsl 3, wsl 1, wsl 4]))⟩, ⟨true, (some (.tab sc0 x3))⟩, ⟨true, (some (.tab [.fl .f32] x4))⟩, ⟨true, (some (.tab [.fl .f32] x5))⟩, ⟨true, (some (.tab sc1 x6))⟩], 5, []⟩)].map fun (b, x) => (b, (x.1, frameOf 129 [1, 2, 3] x.2.1, x.2.2))) :=
 (show evC Try.prog ext T30 L65_1 200 (loopN Try.f65 1) (loopTail ([1, 3, 61, 62, 63], []) [1, 2, 3] [] (sumK 129 [1, 3, 61, 62, 63] [1, 2, 3] (q65l1 m))) (frameOf 129 [1, 3, 61, 62, 63] [.pointer (some ⟨0, 0, some 0⟩), .int .i64 x0, wsl 1, .int .i64 x1, .int .i64 x2]) ⟨[⟨true, (some (.cells [wsl 2, wsl 3, wsl 1, wsl 4]))⟩, ⟨true, (some (.tab sc0 x3))⟩, ⟨true, (some (.tab [.fl .f32] x4))⟩, ⟨true, (some (.tab [.fl .f32] x5))⟩, ⟨true, (some (.tab sc1 x6))⟩], 5, []⟩ = w65l1 (r65l1 m) x0 x1 x2 x3 x4 x5 x6 from by kernel_rfl).trans
 (show w65l1 (r65l1 m) x0 x1 x2 x3 x4 x5 x6 = a65l1 x0 x1 x2 x3 x4 x5 x6 (r65l1 (m + 1) x0 x1 x2 x3 x4 x5 x6) from by unfold w65l1; show _ = a65l1 x0 x1 x2 x3 x4 x5 x6 (b65l1 (r65l1 m) x0 x1 x2 x3 x4 x5 x6); unfold b65l1; exact (cond_both (a65l1 x0 x1 x2 x3 x4 x5 x6) _ (fun h0 => (cond_both (a65l1 x0 x1 x2 x3 x4 x5 x6) _ (fun h1 => (cond_t (ev_and2 h1) (cond_app (a65l1 x0 x1 x2 x3 x4 x5 x6) _ rfl (cond_app (a65l1 x0 x1 x2 x3 x4 x5 x6) _ rfl (cond_app (a65l1 x0 x1 x2 x3 x4 x5 x6) _ rfl (cond_app (a65l1 x0 x1 x2 x3 x4 x5 x6) _ rfl (cond_app (a65l1 x0 x1 x2 x3 x4 x5 x6) _ rfl (cond_app (a65l1 x0 x1 x2 x3 x4 x5 x6) _ rfl (cond_app (a65l1 x0 x1 x2 x3 x4 x5 x6) _ rfl (cond_app (a65l1 x0 x1 x2 x3 x4 x5 x6) _ rfl (v65l1 x0 x1 x2 x3 x4 x5 x6 ((r65l1 m) x0 x1 (IntKind.i64.wrap (x2 + 1)) x3 x4 x5 x6)))))))))))) (fun h1 => rfl))) (fun h0 => rfl)))
set_option maxRecDepth 100000 in
set_option maxHeartbeats 4000000 in
theorem qm65l1 : ∀ m, SumKOk Try.prog (loopN Try.f65 1) 129 [1, 3, 61, 62, 63] [1, 2, 3] (q65l1 m) := by
  intro m
  induction m with
  | zero =>
    intro vals s x h1 h2 h3
    unfold q65l1 at h3; split at h3
    · rename_i h; split at h3
      · rename_i hc; obtain ⟨rfl, rfl, rfl, rfl, rfl, rfl, rfl, rfl⟩ := hc; exact absurd h3 (by simp [r65l1, firstT, Nat.beq])
      · exact noQ_ok _ _ _ h1 h2 h3
    · exact noQ_ok _ _ _ h1 h2 h3
  | succ m ih =>
    intro vals s x h1 h2 h3
    unfold q65l1 at h3; split at h3
    · rename_i h; split at h3
      · rename_i hc; obtain ⟨rfl, rfl, rfl, rfl, rfl, rfl, rfl, rfl⟩ := hc; exact sum_step ok30 extOk mixed (lok65_1.inner (by kernel_rfl)) ih h1 h2 h (e65l1 m _ _ _ _ _ _ _) rfl h3
      · exact noQ_ok _ _ _ h1 h2 h3
    · exact noQ_ok _ _ _ h1 h2 h3
noncomputable def Q65l1 : SumK := fun vals s => q65l1 (fuelOf vals s.h) vals s
theorem qok65l1 : SumKOk Try.prog (loopN Try.f65 1) 129 [1, 3, 61, 62, 63] [1, 2, 3] Q65l1 := fuel_ok qm65l1 fuelOf
noncomputable def L65_2 : LoopT := addL L65_1 12 ([1, 3, 61, 62, 63], []) (sumK 129 [1, 3, 61, 62, 63] [1, 2, 3] Q65l1)
theorem lok65_2 : LfOkF Try.prog L65_2 Try.f65 := lfOkF_add lok65_1 qok65l1 (by kernel_rfl) (by kernel_rfl) (by kernel_rfl)

/-- impl.isUpTo -/
noncomputable def r67 (x0 x1 : Nat) : Bool :=
 cond (r111 x0)
  ((flt .f32 x0 x1 || feq .f32 x0 x1))
  (false)
noncomputable def a67 (x0 x1 : Nat) (p : Bool) : Res := firstT [(true, .bool p, st0)]
noncomputable def w67 (x0 x1 : Nat) : Res :=
 (cond (r111 x0)
 (a67 x0 x1 ((flt .f32 x0 x1 || feq .f32 x0 x1)))
 (a67 x0 x1 (false)))
set_option maxRecDepth 100000 in
set_option maxHeartbeats 4000000 in
theorem e67 (x0 x1 : Nat) : evFn Try.prog ext T30 noL 200 Try.f67 [.float .f32 x0, .float .f32 x1] st0 = firstT [(true, .bool (r67 x0 x1), st0)] :=
 (show evFn Try.prog ext T30 noL 200 Try.f67 [.float .f32 x0, .float .f32 x1] st0 = w67 x0 x1 from by kernel_rfl).trans
 (show w67 x0 x1 = a67 x0 x1 (r67 x0 x1) from by unfold w67 r67; exact (cond_app (a67 x0 x1) _ rfl rfl))
noncomputable def s67 (args : List Value) (s : St) : List (Bool × Value × St) :=
 match args, s.h with
 | [.float .f32 x0, .float .f32 x1], [] => [(true, .bool (r67 x0 x1), st0)]
 | _, _ => T30 67 args s
noncomputable def T31 : CallF := addF T30 67 s67
set_option maxRecDepth 100000 in
set_option maxHeartbeats 4000000 in
theorem ok31 : CfOk Try.prog T31 := by
  refine cfOk_add ok30 fun args s r s' h1 h2 h3 => ?_
  unfold s67 at h3; split at h3
  · rename_i h; exact callOk ok30 Try.func67 h1 h2 h (lfOkF_no _ _).body (e67 _ _) rfl h3
  · exact ok30 _ _ _ _ _ h1 h2 h3

/-- impl.ValidFlat, loop 3: one round -/
noncomputable def b65l3 (ih : Int → Int → Int → List (List Int) → Nat) (x0 x1 x2 : Int) (x3 : List (List Int)) : Nat :=
 cond (decide ((x2 : Int) < x1))
  (cond ((decide ((0 : Int) ≤ x2)) && (Nat.blt (Int.toNat x2) x3.length))
   (cond (!(r114 ((x3.getD (Int.toNat x2) []).getD 0 0) ((x3.getD (Int.toNat x2) []).getD 1 0) x0))
    (0)
    (cond (!(r67 (Int.toNat ((x3.getD (Int.toNat x2) []).getD 2 0)) 1120403456))
     (0)
     (cond (!(r67 (Int.toNat ((x3.getD (Int.toNat x2) []).getD 3 0)) 1092616192))
      (0)
      (ih x0 x1 (IntKind.i64.wrap (x2 + 1)) x3))))
   (2))
  (1)
noncomputable def r65l3 : Nat → Int → Int → Int → List (List Int) → Nat
 | 0 => fun _ _ _ _ => (2)
 | m + 1 => b65l3 (r65l3 m)
noncomputable def a65l3 (x0 x1 x2 : Int) (x3 : List (List Int)) (p : Nat) : Option (Fin' × List Value × St) := firstT ([((Nat.beq p 0), .ret, [.bool false], ⟨[⟨true, (some (.tab sc1 x3))⟩], 1, []⟩), ((Nat.beq p 1), .exit 6, [anyV], ⟨[⟨true, (some (.tab sc1 x3))⟩], 1, []⟩)].map fun (b, x) => (b, (x.1, frameOf 129 [2] x.2.1, x.2.2)))
noncomputable def u65l3 (x0 x1 x2 : Int) (x3 : List (List Int)) (p : Nat) : Option (Fin' × List Value × St) := alts ([((Nat.beq p 0), .ret, [.bool false], ⟨[⟨true, (some (.tab sc1 x3))⟩], 1, []⟩), ((Nat.beq p 1), .exit 6, [anyV], ⟨[⟨true, (some (.tab sc1 x3))⟩], 1, []⟩)].map fun (b, x) => (b, (x.1, frameOf 129 [2] x.2.1, x.2.2))) some
theorem v65l3 (x0 x1 x2 : Int) (x3 : List (List Int)) (p : Nat) : u65l3 x0 x1 x2 x3 p = a65l3 x0 x1 x2 x3 p := alts_first _
noncomputable def q65l3 (m : Nat) : SumK := fun vals s =>
 match vals, s.h with
 | [.int .i64 x0, .iface f0 .nilIface, .int .i64 x1, .int .i64 x2], [⟨true, some (.tab [.int .i64, .int .i64, .fl .f32, .fl .f32] x3)⟩] => if f0 = 0 then [((Nat.beq (r65l3 m x0 x1 x2 x3) 0), .ret, [.bool false], ⟨[⟨true, (some (.tab sc1 x3))⟩], 1, []⟩), ((Nat.beq (r65l3 m x0 x1 x2 x3) 1), .exit 6, [anyV], ⟨[⟨true, (some (.tab sc1 x3))⟩], 1, []⟩)] else noQ vals s
 | _, _ => noQ vals s
noncomputable def w65l3 (ih : Int → Int → Int → List (List Int) → Nat) (x0 x1 x2 : Int) (x3 : List (List Int)) : Option (Fin' × List Value × St) :=
 (cond (decide ((x2 : Int) < x1))
 (cond ((decide ((0 : Int) ≤ x2)) && (Nat.blt (Int.toNat x2) x3.length))
  (cond (Nat.blt (Int.toNat x2) x3.length)
   (cond (!(r114 ((x3.getD (Int.toNat x2) []).getD 0 0) ((x3.getD (Int.toNat x2) []).getD 1 0) x0))
    (a65l3 x0 x1 x2 x3 (0))
    (cond (!(r67 (Int.toNat ((x3.getD (Int.toNat x2) []).getD 2 0)) 1120403456))
     (a65l3 x0 x1 x2 x3 (0))
     (cond (!(r67 (Int.toNat ((x3.getD (Int.toNat x2) []).getD 3 0)) 1092616192))
      (a65l3 x0 x1 x2 x3 (0))
      (u65l3 x0 x1 x2 x3 (ih x0 x1 (IntKind.i64.wrap (x2 + 1)) x3)))))
   none)
  none)
 (a65l3 x0 x1 x2 x3 (1)))
set_option maxRecDepth 100000 in
set_option maxHeartbeats 4000000 in
theorem e65l3 (m : Nat) (x0 x1 x2 : Int) (x3 : List (List Int)) : evC Try.prog ext T31 L65_2 200 (loopN Try.f65 3) (loopTail ([3, 103, 104, 105], []) [2] [] (sumK 129 [3, 103, 104, 105] [2] (q65l3 m))) (frameOf 129 [3, 103, 104, 105] [.int .i64 x0, wsl 0, .int .i64 x1, .int .i64 x2]) ⟨[⟨true, (some (.tab sc1 x3))⟩], 1, []⟩ = firstT ([((Nat.beq (r65l3 (m + 1) x0 x1 x2 x3) 0), .ret, [.bool false], ⟨[⟨true, (some (.tab sc1 x3))⟩], 1, []⟩), ((Nat.beq (r65l3 (m + 1) x0 x1 x2 x3) 1), .exit 6, [anyV], ⟨[⟨true, (some (.tab sc1 x3))⟩], 1, []⟩)].map fun (b, x) => (b, (x.1, frameOf 129 [2] x.2.1, x.2.2))) :=
 (show evC Try.prog ext T31 L65_2 200 (loopN Try.f65 3) (loopTail ([3, 103, 104, 105], []) [2] [] (sumK 129 [3, 103, 104, 105] [2] (q65l3 m))) (frameOf 129 [3, 103, 104, 105] [.int .i64 x0, wsl 0, .int .i64 x1, .int .i64 x2]) ⟨[⟨true, (some (.tab sc1 x3))⟩], 1, []⟩ = w65l3 (r65l3 m) x0 x1 x2 x3 from by kernel_rfl).trans
 (show w65l3 (r65l3 m) x0 x1 x2 x3 = a65l3 x0 x1 x2 x3 (r65l3 (m + 1) x0 x1 x2 x3) from by unfold w65l3; show _ = a65l3 x0 x1 x2 x3 (b65l3 (r65l3 m) x0 x1 x2 x3); unfold b65l3; exact (cond_both (a65l3 x0 x1 x2 x3) _ (fun h0 => (cond_both (a65l3 x0 x1 x2 x3) _ (fun h1 => (cond_t (ev_and2 h1) (cond_app (a65l3 x0 x1 x2 x3) _ rfl (cond_app (a65l3 x0 x1 x2 x3) _ rfl (cond_app (a65l3 x0 x1 x2 x3) _ rfl (v65l3 x0 x1 x2 x3 ((r65l3 m) x0 x1 (IntKind.i64.wrap (x2 + 1)) x3))))))) (fun h1 => rfl))) (fun h0 => rfl)))
set_option maxRecDepth 100000 in
set_option maxHeartbeats 4000000 in
theorem qm65l3 : ∀ m, SumKOk Try.prog (loopN Try.f65 3) 129 [3, 103, 104, 105] [2] (q65l3 m) := by
  intro m
  induction m with
  | zero =>
    intro vals s x h1 h2 h3
    unfold q65l3 at h3; split at h3
    · rename_i h; split at h3
      · rename_i hc; obtain ⟨rfl⟩ := hc; exact absurd h3 (by simp [r65l3, firstT, Nat.beq])
      · exact noQ_ok _ _ _ h1 h2 h3
    · exact noQ_ok _ _ _ h1 h2 h3
  | succ m ih =>
    intro vals s x h1 h2 h3
    unfold q65l3 at h3; split at h3
    · rename_i h; split at h3
      · rename_i hc; obtain ⟨rfl⟩ := hc; exact sum_step ok31 extOk mixed (lok65_2.inner (by kernel_rfl)) ih h1 h2 h (e65l3 m _ _ _ _) rfl h3
      · exact noQ_ok _ _ _ h1 h2 h3
    · exact noQ_ok _ _ _ h1 h2 h3
noncomputable def Q65l3 : SumK := fun vals s => q65l3 (fuelOf vals s.h) vals s
theorem qok65l3 : SumKOk Try.prog (loopN Try.f65 3) 129 [3, 103, 104, 105] [2] Q65l3 := fuel_ok qm65l3 fuelOf
noncomputable def L65_3 : LoopT := addL L65_2 24 ([3, 103, 104, 105], []) (sumK 129 [3, 103, 104, 105] [2] Q65l3)
theorem lok65_3 : LfOkF Try.prog L65_3 Try.f65 := lfOkF_add lok65_2 qok65l3 (by kernel_rfl) (by kernel_rfl) (by kernel_rfl)

/-- impl.ValidFlat -/
noncomputable def r65 (x0 x1 x2 x3 : List (List Int)) : Nat × Bool :=
 let c98 := (r65l0 (1000 + x3.length + x2.length + x1.length + x0.length) ((x0.length : Nat) : Int) ((x0.length : Nat) : Int) 0 x0 x1 x2 x3)
 let c99 := (r65l1 (1000 + x3.length + x1.length + x0.length + x2.length) ((x0.length : Nat) : Int) ((x2.length : Nat) : Int) 0 x2 x0 x1 x3)
 cond (decide ((((x0.length : Nat) : Int) : Int) < 1))
  (0, false)
  (cond (decide ((((x0.length : Nat) : Int) : Int) > 5))
   (0, false)
   (cond ((((x1.length : Nat) : Int) : Int) != ((x0.length : Nat) : Int))
    (0, false)
    (cond (decide ((((x2.length : Nat) : Int) : Int) > 10))
     (0, false)
     (cond (decide ((((x3.length : Nat) : Int) : Int) > 8))
      (0, false)
      (cond (Nat.beq c98 0)
       (0, false)
       (cond (Nat.beq c98 1)
        (cond (Nat.beq c99 0)
         (0, false)
         (cond (Nat.beq c99 1)
          (cond (Nat.beq (r65l3 (1000 + x3.length) ((x0.length : Nat) : Int) ((x3.length : Nat) : Int) 0 x3) 0)
           (0, false)
           (cond (Nat.beq (r65l3 (1000 + x3.length) ((x0.length : Nat) : Int) ((x3.length : Nat) : Int) 0 x3) 1)
            (0, true)
            (1, false)))
          (1, false)))
        (1, false)))))))
noncomputable def a65 (x0 x1 x2 x3 : List (List Int)) (p : Nat × Bool) : Res := firstT [((Nat.beq (p.1) 0), .bool (p.2), ⟨[⟨true, (some (.tab [.fl .f32] x0))⟩, ⟨true, (some (.tab [.fl .f32] x1))⟩, ⟨true, (some (.tab sc0 x2))⟩, ⟨true, (some (.tab sc1 x3))⟩], 4, []⟩)]
noncomputable def w65 (x0 x1 x2 x3 : List (List Int)) : Res :=
 let c98 := (r65l0 (1000 + x3.length + x2.length + x1.length + x0.length) ((x0.length : Nat) : Int) ((x0.length : Nat) : Int) 0 x0 x1 x2 x3)
 let c99 := (r65l1 (1000 + x3.length + x1.length + x0.length + x2.length) ((x0.length : Nat) : Int) ((x2.length : Nat) : Int) 0 x2 x0 x1 x3)
 (cond (decide ((((x0.length : Nat) : Int) : Int) < 1))
 (a65 x0 x1 x2 x3 (0, false))
 (cond (decide ((((x0.length : Nat) : Int) : Int) > 5))
  (a65 x0 x1 x2 x3 (0, false))
  (cond ((((x1.length : Nat) : Int) : Int) != ((x0.length : Nat) : Int))
   (a65 x0 x1 x2 x3 (0, false))
   (cond (decide ((((x2.length : Nat) : Int) : Int) > 10))
    (a65 x0 x1 x2 x3 (0, false))
    (cond (decide ((((x3.length : Nat) : Int) : Int) > 8))
     (a65 x0 x1 x2 x3 (0, false))
     (cond (Nat.beq c98 0)
      (a65 x0 x1 x2 x3 (0, false))
      (cond (Nat.beq c98 1)
       (cond (Nat.beq c99 0)
        (a65 x0 x1 x2 x3 (0, false))
        (cond (Nat.beq c99 1)
         (cond (Nat.beq (r65l3 (1000 + x3.length) ((x0.length : Nat) : Int) ((x3.length : Nat) : Int) 0 x3) 0)
          (a65 x0 x1 x2 x3 (0, false))
          (cond (Nat.beq (r65l3 (1000 + x3.length) ((x0.length : Nat) : Int) ((x3.length : Nat) : Int) 0 x3) 1)
           (a65 x0 x1 x2 x3 (0, true))
           none))
         none))
       none)))))))
set_option maxRecDepth 100000 in
set_option maxHeartbeats 4000000 in
theorem e65 (x0 x1 x2 x3 : List (List Int)) : evFn Try.prog ext T31 L65_3 200 Try.f65 [.agg #[wsl 0, wsl 1, wsl 2, wsl 3]] ⟨[⟨true, (some (.tab [.fl .f32] x0))⟩, ⟨true, (some (.tab [.fl .f32] x1))⟩, ⟨true, (some (.tab sc0 x2))⟩, ⟨true, (some (.tab sc1 x3))⟩], 4, []⟩ = firstT [((Nat.beq ((r65 x0 x1 x2 x3).1) 0), .bool ((r65 x0 x1 x2 x3).2), ⟨[⟨true, (some (.tab [.fl .f32] x0))⟩, ⟨true, (some (.tab [.fl .f32] x1))⟩, ⟨true, (some (.tab sc0 x2))⟩, ⟨true, (some (.tab sc1 x3))⟩], 4, []⟩)] :=
 (show evFn Try.prog ext T31 L65_3 200 Try.f65 [.agg #[wsl 0, wsl 1, wsl 2, wsl 3]] ⟨[⟨true, (some (.tab [.fl .f32] x0))⟩, ⟨true, (some (.tab [.fl .f32] x1))⟩, ⟨true, (some (.tab sc0 x2))⟩, ⟨true, (some (.tab sc1 x3))⟩], 4, []⟩ = w65 x0 x1 x2 x3 from by kernel_rfl).trans
 (show w65 x0 x1 x2 x3 = a65 x0 x1 x2 x3 (r65 x0 x1 x2 x3) from by unfold w65 r65; exact (cond_app (a65 x0 x1 x2 x3) _ rfl (cond_app (a65 x0 x1 x2 x3) _ rfl (cond_app (a65 x0 x1 x2 x3) _ rfl (cond_app (a65 x0 x1 x2 x3) _ rfl (cond_app (a65 x0 x1 x2 x3) _ rfl (cond_app (a65 x0 x1 x2 x3) _ rfl (cond_app (a65 x0 x1 x2 x3) _ (cond_app (a65 x0 x1 x2 x3) _ rfl (cond_app (a65 x0 x1 x2 x3) _ (cond_app (a65 x0 x1 x2 x3) _ rfl (cond_app (a65 x0 x1 x2 x3) _ rfl rfl)) rfl)) rfl))))))))
noncomputable def s65 (args : List Value) (s : St) : List (Bool × Value × St) :=
 match args, s.h with
 | [.agg ⟨[.iface f0 .nilIface, .iface f1 .nilIface, .iface f2 .nilIface, .iface f3 .nilIface]⟩], [⟨true, some (.tab [.fl .f32] x0)⟩, ⟨true, some (.tab [.fl .f32] x1)⟩, ⟨true, some (.tab [.int .i64, .int .i64, .fl .f32, .fl .f32, .fl .f32, .fl .f32, .fl .f32, .fl .f32] x2)⟩, ⟨true, some (.tab [.int .i64, .int .i64, .fl .f32, .fl .f32] x3)⟩] => if f0 = 0 ∧ f1 = 1 ∧ f2 = 2 ∧ f3 = 3 then [((Nat.beq ((r65 x0 x1 x2 x3).1) 0), .bool ((r65 x0 x1 x2 x3).2), ⟨[⟨true, (some (.tab [.fl .f32] x0))⟩, ⟨true, (some (.tab [.fl .f32] x1))⟩, ⟨true, (some (.tab sc0 x2))⟩, ⟨true, (some (.tab sc1 x3))⟩], 4, []⟩)] else T31 65 args s
 | _, _ => T31 65 args s
noncomputable def T32 : CallF := addF T31 65 s65
set_option maxRecDepth 100000 in
set_option maxHeartbeats 4000000 in
theorem ok32 : CfOk Try.prog T32 := by
  refine cfOk_add ok31 fun args s r s' h1 h2 h3 => ?_
  unfold s65 at h3; split at h3
  · rename_i h; split at h3
    · rename_i hc; obtain ⟨rfl, rfl, rfl, rfl⟩ := hc; exact callOk ok31 Try.func65 h1 h2 h lok65_3.body (e65 _ _ _ _) rfl h3
    · exact ok31 _ _ _ _ _ h1 h2 h3
  · exact ok31 _ _ _ _ _ h1 h2 h3

/-- impl.EnergyOf, loop 0: one round -/
noncomputable def b26l0 (ih : Int → Int → List (List Int) → List (List Int) → List (List Int) → List (List Int) → List (List Int) → (Nat × List (List Int))) (x0 x1 : Int) (x2 x3 x4 x5 x6 : List (List Int)) : Nat × List (List Int) :=
 cond (decide ((x1 : Int) < x0))
  (cond ((decide ((0 : Int) ≤ x1)) && (Nat.blt (Int.toNat x1) x3.length))
   (cond ((decide ((0 : Int) ≤ x1)) && (Nat.blt (Int.toNat x1) x4.length))
    (cond (Nat.ble ((x2.length + 1) * 5) 140737488355328)
     (cond (Nat.beq ((ih x0 (IntKind.i64.wrap (x1 + 1)) (((x2.drop 0).take x2.length) ++ ([[(((fmul .f32 (Int.toNat ((x3.getD (Int.toNat x1) []).getD 0 0)) (Int.toNat ((x4.getD (Int.toNat x1) []).getD 0 0))) : Nat) : Int)]] : List (List Int))) x3 x4 x5 x6).1) 0)
      (0, ((ih x0 (IntKind.i64.wrap (x1 + 1)) (((x2.drop 0).take x2.length) ++ ([[(((fmul .f32 (Int.toNat ((x3.getD (Int.toNat x1) []).getD 0 0)) (Int.toNat ((x4.getD (Int.toNat x1) []).getD 0 0))) : Nat) : Int)]] : List (List Int))) x3 x4 x5 x6).2))
      (cond (Nat.beq ((ih x0 (IntKind.i64.wrap (x1 + 1)) (((x2.drop 0).take x2.length) ++ ([[(((fmul .f32 (Int.toNat ((x3.getD (Int.toNat x1) []).getD 0 0)) (Int.toNat ((x4.getD (Int.toNat x1) []).getD 0 0))) : Nat) : Int)]] : List (List Int))) x3 x4 x5 x6).1) 1)
       (0, (((x2.drop 0).take x2.length) ++ ([[(((fmul .f32 (Int.toNat ((x3.getD (Int.toNat x1) []).getD 0 0)) (Int.toNat ((x4.getD (Int.toNat x1) []).getD 0 0))) : Nat) : Int)]] : List (List Int))))
       (2, [])))
     (2, []))
    (2, []))
   (2, []))
  (1, [])
noncomputable def r26l0 : Nat → Int → Int → List (List Int) → List (List Int) → List (List Int) → List (List Int) → List (List Int) → (Nat × List (List Int))
 | 0 => fun _ _ _ _ _ _ _ => (2, [])
 | m + 1 => b26l0 (r26l0 m)
noncomputable def a26l0 (x0 x1 : Int) (x2 x3 x4 x5 x6 : List (List Int)) (p : Nat × List (List Int)) : Option (Fin' × List Value × St) := firstT ([((Nat.beq (p.1) 0), .exit 0, [.pointer (some ⟨0, 0, some 0⟩), wsl 6], ⟨[⟨true, (some (.cells [wsl 2, wsl 3, wsl 4, wsl 5]))⟩, ⟨true, none⟩, ⟨true, (some (.tab [.fl .f32] x3))⟩, ⟨true, (some (.tab [.fl .f32] x4))⟩, ⟨true, (some (.tab sc0 x5))⟩, ⟨true, (some (.tab sc1 x6))⟩, ⟨true, (some (.tab [.fl .f32] (p.2)))⟩], 6, [1]⟩), ((Nat.beq (p.1) 1), .exit 0, [.pointer (some ⟨0, 0, some 0⟩), wsl 1], ⟨[⟨true, (some (.cells [wsl 2, wsl 3, wsl 4, wsl 5]))⟩, ⟨true, (some (.tab [.fl .f32] x2))⟩, ⟨true, (some (.tab [.fl .f32] x3))⟩, ⟨true, (some (.tab [.fl .f32] x4))⟩, ⟨true, (some (.tab sc0 x5))⟩, ⟨true, (some (.tab sc1 x6))⟩], 6, [1]⟩)].map fun (b, x) => (b, (x.1, frameOf 60 [1, 4] x.2.1, x.2.2)))
noncomputable def u26l0 (x0 x1 : Int) (x2 x3 x4 x5 x6 : List (List Int)) (p : Nat × List (List Int)) : Option (Fin' × List Value × St) := alts ([((Nat.beq (p.1) 0), .exit 0, [.pointer (some ⟨0, 0, some 0⟩), wsl 6], ⟨[⟨true, (some (.cells [wsl 2, wsl 3, wsl 4, wsl 5]))⟩, ⟨true, none⟩, ⟨true, (some (.tab [.fl .f32] x3))⟩, ⟨true, (some (.tab [.fl .f32] x4))⟩, ⟨true, (some (.tab sc0 x5))⟩, ⟨true, (some (.tab sc1 x6))⟩, ⟨true, (some (.tab [.fl .f32] (p.2)))⟩], 6, [1]⟩), ((Nat.beq (p.1) 1), .exit 0, [.pointer (some ⟨0, 0, some 0⟩), wsl 1], ⟨[⟨true, (some (.cells [wsl 2, wsl 3, wsl 4, wsl 5]))⟩, ⟨true, (some (.tab [.fl .f32] x2))⟩, ⟨true, (some (.tab [.fl .f32] x3))⟩, ⟨true, (some (.tab [.fl .f32] x4))⟩, ⟨true, (some (.tab sc0 x5))⟩, ⟨true, (some (.tab sc1 x6))⟩], 6, [1]⟩)].map fun (b, x) => (b, (x.1, frameOf 60 [1, 4] x.2.1, x.2.2))) some
theorem v26l0 (x0 x1 : Int) (x2 x3 x4 x5 x6 : List (List Int)) (p : Nat × List (List Int)) : u26l0 x0 x1 x2 x3 x4 x5 x6 p = a26l0 x0 x1 x2 x3 x4 x5 x6 p := alts_first _
noncomputable def q26l0 (m : Nat) : SumK := fun vals s =>
 match vals, s.h with
 | [.pointer (some ⟨f0, f1, some f2⟩), .iface f3 .nilIface, .iface f4 .nilIface, .int .i64 x0, .int .i64 x1], [⟨true, some (.cells [.iface f5 .nilIface, .iface f6 .nilIface, .iface f7 .nilIface, .iface f8 .nilIface])⟩, ⟨true, some (.tab [.fl .f32] x2)⟩, ⟨true, some (.tab [.fl .f32] x3)⟩, ⟨true, some (.tab [.fl .f32] x4)⟩, ⟨true, some (.tab [.int .i64, .int .i64, .fl .f32, .fl .f32, .fl .f32, .fl .f32, .fl .f32, .fl .f32] x5)⟩, ⟨true, some (.tab [.int .i64, .int .i64, .fl .f32, .fl .f32] x6)⟩] => if f0 = 0 ∧ f1 = 0 ∧ f2 = 0 ∧ f3 = 1 ∧ f4 = 2 ∧ f5 = 2 ∧ f6 = 3 ∧ f7 = 4 ∧ f8 = 5 then [((Nat.beq ((r26l0 m x0 x1 x2 x3 x4 x5 x6).1) 0), .exit 0, [.pointer (some ⟨0, 0, some 0⟩), wsl 6], ⟨[⟨true, (some (.cells [wsl 2, wsl 3, wsl 4, wsl 5]))⟩, ⟨true, none⟩, ⟨true, (some (.tab [.fl .f32] x3))⟩, ⟨true, (some (.tab [.fl .f32] x4))⟩, ⟨true, (some (.tab sc0 x5))⟩, ⟨true, (some (.tab sc1 x6))⟩, ⟨true, (some (.tab [.fl .f32] ((r26l0 m x0 x1 x2 x3 x4 x5 x6).2)))⟩], 6, [1]⟩), ((Nat.beq ((r26l0 m x0 x1 x2 x3 x4 x5 x6).1) 1), .exit 0, [.pointer (some ⟨0, 0, some 0⟩), wsl 1], ⟨[⟨true, (some (.cells [wsl 2, wsl 3, wsl 4, wsl 5]))⟩, ⟨true, (some (.tab [.fl .f32] x2))⟩, ⟨true, (some (.tab [.fl .f32] x3))⟩, ⟨true, (some (.tab [.fl .f32] x4))⟩, ⟨true, (some (.tab sc0 x5))⟩, ⟨true, (some (.tab sc1 x6))⟩], 6, [1]⟩)] else noQ vals s
 | _, _ => noQ vals s
noncomputable def w26l0 (ih : Int → Int → List (List Int) → List (List Int) → List (List Int) → List (List Int) → List (List Int) → (Nat × List (List Int))) (x0 x1 : Int) (x2 x3 x4 x5 x6 : List (List Int)) : Option (Fin' × List Value × St) :=
 (cond (decide ((x1 : Int) < x0))
 (cond ((decide ((0 : Int) ≤ x1)) && (Nat.blt (Int.toNat x1) x3.length))
  (cond (Nat.blt (Int.toNat x1) x3.length)
   (cond ((decide ((0 : Int) ≤ x1)) && (Nat.blt (Int.toNat x1) x4.length))
    (cond (Nat.blt (Int.toNat x1) x4.length)
     (cond (Nat.ble ((x2.length + 1) * 5) 140737488355328)
      (cond (Nat.beq ((ih x0 (IntKind.i64.wrap (x1 + 1)) (((x2.drop 0).take x2.length) ++ ([[(((fmul .f32 (Int.toNat ((x3.getD (Int.toNat x1) []).getD 0 0)) (Int.toNat ((x4.getD (Int.toNat x1) []).getD 0 0))) : Nat) : Int)]] : List (List Int))) x3 x4 x5 x6).1) 0)
       (a26l0 x0 x1 x2 x3 x4 x5 x6 (0, ((ih x0 (IntKind.i64.wrap (x1 + 1)) (((x2.drop 0).take x2.length) ++ ([[(((fmul .f32 (Int.toNat ((x3.getD (Int.toNat x1) []).getD 0 0)) (Int.toNat ((x4.getD (Int.toNat x1) []).getD 0 0))) : Nat) : Int)]] : List (List Int))) x3 x4 x5 x6).2)))
       (cond (Nat.beq ((ih x0 (IntKind.i64.wrap (x1 + 1)) (((x2.drop 0).take x2.length) ++ ([[(((fmul .f32 (Int.toNat ((x3.getD (Int.toNat x1) []).getD 0 0)) (Int.toNat ((x4.getD (Int.toNat x1) []).getD 0 0))) : Nat) : Int)]] : List (List Int))) x3 x4 x5 x6).1) 1)
        (a26l0 x0 x1 x2 x3 x4 x5 x6 (0, (((x2.drop 0).take x2.length) ++ ([[(((fmul .f32 (Int.toNat ((x3.getD (Int.toNat x1) []).getD 0 0)) (Int.toNat ((x4.getD (Int.toNat x1) []).getD 0 0))) : Nat) : Int)]] : List (List Int)))))
        none))
      none)
     none)
    none)
   none)
  none)
 (a26l0 x0 x1 x2 x3 x4 x5 x6 (1, [])))
set_option maxRecDepth 100000 in
set_option maxHeartbeats 4000000 in
theorem e26l0 (m : Nat) (x0 x1 : Int) (x2 x3 x4 x5 x6 : List (List Int)) : evC Try.prog ext T32 noL 200 (loopN Try.f26 0) (loopTail ([1, 4, 16, 17, 18], []) [1, 4] [1] (sumK 60 [1, 4, 16, 17, 18] [1, 4] (q26l0 m))) (frameOf 60 [1, 4, 16, 17, 18] [.pointer (some ⟨0, 0, some 0⟩), wsl 1, wsl 2, .int .i64 x0, .int .i64 x1]) ⟨[⟨true, (some (.cells [wsl 2, wsl 3, wsl 4, wsl 5]))⟩, ⟨true, (some (.tab [.fl .f32] x2))⟩, ⟨true, (some (.tab [.fl .f32] x3))⟩, ⟨true, (some (.tab [.fl .f32] x4))⟩, ⟨true, (some (.tab sc0 x5))⟩, ⟨true, (some (.tab sc1 x6))⟩], 6, []⟩ = firstT ([((Nat.beq ((r26l0 (m + 1) x0 x1 x2 x3 x4 x5 x6).1) 0), .exit 0, [.pointer (some ⟨0, 0, some 0⟩), wsl 6], ⟨[⟨true, (some (.cells [wsl 2, wsl 3, wsl 4, wsl 5]))⟩, ⟨true, none⟩, ⟨true, (some (.tab [.fl .f32] x3))⟩, ⟨true, (some (.tab [.fl .f32] x4))⟩, ⟨true, (some (.tab sc0 x5))⟩, ⟨true, (some (.tab sc1 x6))⟩, ⟨true, (some (.tab [.fl .f32] ((r26l0 (m + 1) x0 x1 x2 x3 x4 x5 x6).2)))⟩], 6, [1]⟩), ((Nat.beq ((r26l0 (m + 1) x0 x1 x2 x3 x4 x5 x6).1) 1), .exit 0, [.pointer (some ⟨0, 0, some 0⟩), wsl 1], ⟨[⟨true, (some (.cells [wsl 2, wsl 3, wsl 4, wsl 5]))⟩, ⟨true, (some (.tab [.fl .f32] x2))⟩, ⟨true, (some (.tab [.fl .f32] x3))⟩, ⟨true, (some (.tab [.fl .f32] x4))⟩, ⟨true, (some (.tab sc0 x5))⟩, ⟨true, (some (.tab sc1 x6))⟩], 6, [1]⟩)].map fun (b, x) => (b, (x.1, frameOf 60 [1, 4] x.2.1, x.2.2))) :=
 (show evC Try.prog ext T32 noL 200 (loopN Try.f26 0) (loopTail ([1, 4, 16, 17, 18], []) [1, 4] [1] (sumK 60 [1, 4, 16, 17, 18] [1, 4] (q26l0 m))) (frameOf 60 [1, 4, 16, 17, 18] [.pointer (some ⟨0, 0, some 0⟩), wsl 1, wsl 2, .int .i64 x0, .int .i64 x1]) ⟨[⟨true, (some (.cells [wsl 2, wsl 3, wsl 4, wsl 5]))⟩, ⟨true, (some (.tab [.fl .f32] x2))⟩, ⟨true, (some (.tab [.fl .f32] x3))⟩, ⟨true, (some (.tab [.fl .f32] x4))⟩, ⟨true, (some (.tab sc0 x5))⟩, ⟨true, (some (.tab sc1 x6))⟩], 6, []⟩ = w26l0 (r26l0 m) x0 x1 x2 x3 x4 x5 x6 from by kernel_rfl).trans
 (show w26l0 (r26l0 m) x0 x1 x2 x3 x4 x5 x6 = a26l0 x0 x1 x2 x3 x4 x5 x6 (r26l0 (m + 1) x0 x1 x2 x3 x4 x5 x6) from by unfold w26l0; show _ = a26l0 x0 x1 x2 x3 x4 x5 x6 (b26l0 (r26l0 m) x0 x1 x2 x3 x4 x5 x6); unfold b26l0; exact (cond_both (a26l0 x0 x1 x2 x3 x4 x5 x6) _ (fun h0 => (cond_both (a26l0 x0 x1 x2 x3 x4 x5 x6) _ (fun h1 => (cond_t (ev_and2 h1) (cond_both (a26l0 x0 x1 x2 x3 x4 x5 x6) _ (fun h2 => (cond_t (ev_and2 h2) (cond_app (a26l0 x0 x1 x2 x3 x4 x5 x6) _ (cond_app (a26l0 x0 x1 x2 x3 x4 x5 x6) _ rfl (cond_app (a26l0 x0 x1 x2 x3 x4 x5 x6) _ rfl rfl)) rfl))) (fun h2 => rfl)))) (fun h1 => rfl))) (fun h0 => rfl)))
set_option maxRecDepth 100000 in
set_option maxHeartbeats 4000000 in
theorem qm26l0 : ∀ m, SumKOk Try.prog (loopN Try.f26 0) 60 [1, 4, 16, 17, 18] [1, 4] (q26l0 m) := by
  intro m
  induction m with
  | zero =>
    intro vals s x h1 h2 h3
    unfold q26l0 at h3; split at h3
    · rename_i h; split at h3
      · rename_i hc; obtain ⟨rfl, rfl, rfl, rfl, rfl, rfl, rfl, rfl, rfl⟩ := hc; exact absurd h3 (by simp [r26l0, firstT, Nat.beq])
      · exact noQ_ok _ _ _ h1 h2 h3
    · exact noQ_ok _ _ _ h1 h2 h3
  | succ m ih =>
    intro vals s x h1 h2 h3
    unfold q26l0 at h3; split at h3
    · rename_i h; split at h3
      · rename_i hc; obtain ⟨rfl, rfl, rfl, rfl, rfl, rfl, rfl, rfl, rfl⟩ := hc; exact sum_step ok32 extOk mixed ((lfOkF_no _ _).inner (by kernel_rfl)) ih h1 h2 h (e26l0 m _ _ _ _ _ _ _) rfl h3
      · exact noQ_ok _ _ _ h1 h2 h3
    · exact noQ_ok _ _ _ h1 h2 h3
noncomputable def Q26l0 : SumK := fun vals s => q26l0 (fuelOf vals s.h) vals s
theorem qok26l0 : SumKOk Try.prog (loopN Try.f26 0) 60 [1, 4, 16, 17, 18] [1, 4] Q26l0 := fuel_ok qm26l0 fuelOf
noncomputable def L26_1 : LoopT := addL noL 6 ([1, 4, 16, 17, 18], []) (sumK 60 [1, 4, 16, 17, 18] [1, 4] Q26l0)
theorem lok26_1 : LfOkF Try.prog L26_1 Try.f26 := lfOkF_add (lfOkF_no _ _) qok26l0 (by kernel_rfl) (by kernel_rfl) (by kernel_rfl)

/-- impl.EnergyOf, loop 2 -/
noncomputable def r26l2 (x0 x1 : Int) (x2 x3 x4 x5 : Nat) (x6 : List (List Int)) (x7 x8 : Int) (x9 x10 x11 x12 x13 x14 : Nat) (x15 : List (List Int)) : Unit :=
 ()
noncomputable def a26l2 (x0 x1 : Int) (x2 x3 x4 x5 : Nat) (x6 : List (List Int)) (x7 x8 : Int) (x9 x10 x11 x12 x13 x14 : Nat) (x15 : List (List Int)) (p : Unit) : Option (Fin' × List Value × St) := firstT ([(true, .exit 4, [wsl 0, wsl 2, .int .i64 x0, .int .i64 x1], ⟨[⟨true, (some (.tab [.fl .f32] x6))⟩, ⟨true, (some (.cells [.int .i64 x7, .int .i64 x8, .float .f32 x9, .float .f32 x10, .float .f32 x11, .float .f32 x12, .float .f32 x13, .float .f32 x14]))⟩, ⟨true, (some (.tab sc0 x15))⟩], 3, []⟩)].map fun (b, x) => (b, (x.1, frameOf 60 [4, 35, 36, 37] x.2.1, x.2.2)))
noncomputable def w26l2 (x0 x1 : Int) (x2 x3 x4 x5 : Nat) (x6 : List (List Int)) (x7 x8 : Int) (x9 x10 x11 x12 x13 x14 : Nat) (x15 : List (List Int)) : Option (Fin' × List Value × St) :=
 (a26l2 x0 x1 x2 x3 x4 x5 x6 x7 x8 x9 x10 x11 x12 x13 x14 x15 ())
set_option maxRecDepth 100000 in
set_option maxHeartbeats 4000000 in
theorem e26l2 (x0 x1 : Int) (x2 x3 x4 x5 : Nat) (x6 : List (List Int)) (x7 x8 : Int) (x9 x10 x11 x12 x13 x14 : Nat) (x15 : List (List Int)) : evC Try.prog ext T32 L26_1 200 (loopN Try.f26 2) (loopTail ([4, 8, 35, 36, 37, 42, 43], []) [4, 35, 36, 37] [] (sumK 60 [4, 8, 35, 36, 37, 42, 43] [4, 35, 36, 37] noQ)) (frameOf 60 [4, 8, 35, 36, 37, 42, 43] [wsl 0, .pointer (some ⟨1, 0, some 0⟩), wsl 2, .int .i64 x0, .int .i64 x1, .agg #[.float .f32 x2, .float .f32 x3, .float .f32 x4, .float .f32 x5], .int .i64 4]) ⟨[⟨true, (some (.tab [.fl .f32] x6))⟩, ⟨true, (some (.cells [.int .i64 x7, .int .i64 x8, .float .f32 x9, .float .f32 x10, .float .f32 x11, .float .f32 x12, .float .f32 x13, .float .f32 x14]))⟩, ⟨true, (some (.tab sc0 x15))⟩], 3, []⟩ = firstT ([(true, .exit 4, [wsl 0, wsl 2, .int .i64 x0, .int .i64 x1], ⟨[⟨true, (some (.tab [.fl .f32] x6))⟩, ⟨true, (some (.cells [.int .i64 x7, .int .i64 x8, .float .f32 x9, .float .f32 x10, .float .f32 x11, .float .f32 x12, .float .f32 x13, .float .f32 x14]))⟩, ⟨true, (some (.tab sc0 x15))⟩], 3, []⟩)].map fun (b, x) => (b, (x.1, frameOf 60 [4, 35, 36, 37] x.2.1, x.2.2))) :=
 (show evC Try.prog ext T32 L26_1 200 (loopN Try.f26 2) (loopTail ([4, 8, 35, 36, 37, 42, 43], []) [4, 35, 36, 37] [] (sumK 60 [4, 8, 35, 36, 37, 42, 43] [4, 35, 36, 37] noQ)) (frameOf 60 [4, 8, 35, 36, 37, 42, 43] [wsl 0, .pointer (some ⟨1, 0, some 0⟩), wsl 2, .int .i64 x0, .int .i64 x1, .agg #[.float .f32 x2, .float .f32 x3, .float .f32 x4, .float .f32 x5], .int .i64 4]) ⟨[⟨true, (some (.tab [.fl .f32] x6))⟩, ⟨true, (some (.cells [.int .i64 x7, .int .i64 x8, .float .f32 x9, .float .f32 x10, .float .f32 x11, .float .f32 x12, .float .f32 x13, .float .f32 x14]))⟩, ⟨true, (some (.tab sc0 x15))⟩], 3, []⟩ = w26l2 x0 x1 x2 x3 x4 x5 x6 x7 x8 x9 x10 x11 x12 x13 x14 x15 from by kernel_rfl).trans
 (show w26l2 x0 x1 x2 x3 x4 x5 x6 x7 x8 x9 x10 x11 x12 x13 x14 x15 = a26l2 x0 x1 x2 x3 x4 x5 x6 x7 x8 x9 x10 x11 x12 x13 x14 x15 (r26l2 x0 x1 x2 x3 x4 x5 x6 x7 x8 x9 x10 x11 x12 x13 x14 x15) from by unfold w26l2 r26l2; exact rfl)
noncomputable def Q26l2 : SumK := fun vals s =>
 match vals, s.h with
 | [.iface f0 .nilIface, .pointer (some ⟨f1, f2, some f3⟩), .iface f4 .nilIface, .int .i64 x0, .int .i64 x1, .agg ⟨[.float .f32 x2, .float .f32 x3, .float .f32 x4, .float .f32 x5]⟩, .int .i64 f5], [⟨true, some (.tab [.fl .f32] x6)⟩, ⟨true, some (.cells [.int .i64 x7, .int .i64 x8, .float .f32 x9, .float .f32 x10, .float .f32 x11, .float .f32 x12, .float .f32 x13, .float .f32 x14])⟩, ⟨true, some (.tab [.int .i64, .int .i64, .fl .f32, .fl .f32, .fl .f32, .fl .f32, .fl .f32, .fl .f32] x15)⟩] => if f0 = 0 ∧ f1 = 1 ∧ f2 = 0 ∧ f3 = 0 ∧ f4 = 2 ∧ f5 = 4 then [(true, .exit 4, [wsl 0, wsl 2, .int .i64 x0, .int .i64 x1], ⟨[⟨true, (some (.tab [.fl .f32] x6))⟩, ⟨true, (some (.cells [.int .i64 x7, .int .i64 x8, .float .f32 x9, .float .f32 x10, .float .f32 x11, .float .f32 x12, .float .f32 x13, .float .f32 x14]))⟩, ⟨true, (some (.tab sc0 x15))⟩], 3, []⟩)] else noQ vals s
 | _, _ => noQ vals s
set_option maxRecDepth 100000 in
set_option maxHeartbeats 4000000 in
theorem qok26l2 : SumKOk Try.prog (loopN Try.f26 2) 60 [4, 8, 35, 36, 37, 42, 43] [4, 35, 36, 37] Q26l2 := by
  intro vals s x h1 h2 h3
  unfold Q26l2 at h3; split at h3
  · rename_i h; split at h3
    · rename_i hc; obtain ⟨rfl, rfl, rfl, rfl, rfl, rfl⟩ := hc; exact sum_step ok32 extOk mixed (lok26_1.inner (by kernel_rfl)) noQ_ok h1 h2 h (e26l2 _ _ _ _ _ _ _ _ _ _ _ _ _ _ _ _) rfl h3
    · exact noQ_ok _ _ _ h1 h2 h3
  · exact noQ_ok _ _ _ h1 h2 h3
noncomputable def L26_2 : LoopT := addL L26_1 14 ([4, 8, 35, 36, 37, 42, 43], []) (sumK 60 [4, 8, 35, 36, 37, 42, 43] [4, 35, 36, 37] Q26l2)
theorem lok26_2 : LfOkF Try.prog L26_2 Try.f26 := lfOkF_add lok26_1 qok26l2 (by kernel_rfl) (by kernel_rfl) (by kernel_rfl)

/-- impl.EnergyOf, loop 2 -/
noncomputable def r26l2b (x0 x1 : Int) (x2 x3 x4 x5 : Nat) (x6 : List (List Int)) (x7 x8 : Int) (x9 x10 x11 x12 x13 x14 : Nat) (x15 : List (List Int)) : Nat × List (List Int) :=
 cond (Nat.ble ((x6.length + 1) * 5) 140737488355328)
  (0, (((x6.drop 0).take x6.length) ++ ([[(((fmul .f32 x5 x10) : Nat) : Int)]] : List (List Int))))
  (1, [])
noncomputable def a26l2b (x0 x1 : Int) (x2 x3 x4 x5 : Nat) (x6 : List (List Int)) (x7 x8 : Int) (x9 x10 x11 x12 x13 x14 : Nat) (x15 : List (List Int)) (p : Nat × List (List Int)) : Option (Fin' × List Value × St) := firstT ([((Nat.beq (p.1) 0), .exit 4, [wsl 3, wsl 2, .int .i64 x0, .int .i64 x1], ⟨[⟨true, none⟩, ⟨true, (some (.cells [.int .i64 x7, .int .i64 x8, .float .f32 x9, .float .f32 x10, .float .f32 x11, .float .f32 x12, .float .f32 x13, .float .f32 x14]))⟩, ⟨true, (some (.tab sc0 x15))⟩, ⟨true, (some (.tab [.fl .f32] (p.2)))⟩], 3, [0]⟩)].map fun (b, x) => (b, (x.1, frameOf 60 [4, 35, 36, 37] x.2.1, x.2.2)))
noncomputable def w26l2b (x0 x1 : Int) (x2 x3 x4 x5 : Nat) (x6 : List (List Int)) (x7 x8 : Int) (x9 x10 x11 x12 x13 x14 : Nat) (x15 : List (List Int)) : Option (Fin' × List Value × St) :=
 (cond (Nat.ble ((x6.length + 1) * 5) 140737488355328)
 (a26l2b x0 x1 x2 x3 x4 x5 x6 x7 x8 x9 x10 x11 x12 x13 x14 x15 (0, (((x6.drop 0).take x6.length) ++ ([[(((fmul .f32 x5 x10) : Nat) : Int)]] : List (List Int)))))
 none)
set_option maxRecDepth 100000 in
set_option maxHeartbeats 4000000 in
theorem e26l2b (x0 x1 : Int) (x2 x3 x4 x5 : Nat) (x6 : List (List Int)) (x7 x8 : Int) (x9 x10 x11 x12 x13 x14 : Nat) (x15 : List (List Int)) : evC Try.prog ext T32 L26_2 200 (loopN Try.f26 2) (loopTail ([4, 8, 35, 36, 37, 42, 43], []) [4, 35, 36, 37] [] (sumK 60 [4, 8, 35, 36, 37, 42, 43] [4, 35, 36, 37] Q26l2)) (frameOf 60 [4, 8, 35, 36, 37, 42, 43] [wsl 0, .pointer (some ⟨1, 0, some 0⟩), wsl 2, .int .i64 x0, .int .i64 x1, .agg #[.float .f32 x2, .float .f32 x3, .float .f32 x4, .float .f32 x5], .int .i64 3]) ⟨[⟨true, (some (.tab [.fl .f32] x6))⟩, ⟨true, (some (.cells [.int .i64 x7, .int .i64 x8, .float .f32 x9, .float .f32 x10, .float .f32 x11, .float .f32 x12, .float .f32 x13, .float .f32 x14]))⟩, ⟨true, (some (.tab sc0 x15))⟩], 3, []⟩ = firstT ([((Nat.beq ((r26l2b x0 x1 x2 x3 x4 x5 x6 x7 x8 x9 x10 x11 x12 x13 x14 x15).1) 0), .exit 4, [wsl 3, wsl 2, .int .i64 x0, .int .i64 x1], ⟨[⟨true, none⟩, ⟨true, (some (.cells [.int .i64 x7, .int .i64 x8, .float .f32 x9, .float .f32 x10, .float .f32 x11, .float .f32 x12, .float .f32 x13, .float .f32 x14]))⟩, ⟨true, (some (.tab sc0 x15))⟩, ⟨true, (some (.tab [.fl .f32] ((r26l2b x0 x1 x2 x3 x4 x5 x6 x7 x8 x9 x10 x11 x12 x13 x14 x15).2)))⟩], 3, [0]⟩)].map fun (b, x) => (b, (x.1, frameOf 60 [4, 35, 36, 37] x.2.1, x.2.2))) :=
 (show evC Try.prog ext T32 L26_2 200 (loopN Try.f26 2) (loopTail ([4, 8, 35, 36, 37, 42, 43], []) [4, 35, 36, 37] [] (sumK 60 [4, 8, 35, 36, 37, 42, 43] [4, 35, 36, 37] Q26l2)) (frameOf 60 [4, 8, 35, 36, 37, 42, 43] [wsl 0, .pointer (some ⟨1, 0, some 0⟩), wsl 2, .int .i64 x0, .int .i64 x1, .agg #[.float .f32 x2, .float .f32 x3, .float .f32 x4, .float .f32 x5], .int .i64 3]) ⟨[⟨true, (some (.tab [.fl .f32] x6))⟩, ⟨true, (some (.cells [.int .i64 x7, .int .i64 x8, .float .f32 x9, .float .f32 x10, .float .f32 x11, .float .f32 x12, .float .f32 x13, .float .f32 x14]))⟩, ⟨true, (some (.tab sc0 x15))⟩], 3, []⟩ = w26l2b x0 x1 x2 x3 x4 x5 x6 x7 x8 x9 x10 x11 x12 x13 x14 x15 from by kernel_rfl).trans
 (show w26l2b x0 x1 x2 x3 x4 x5 x6 x7 x8 x9 x10 x11 x12 x13 x14 x15 = a26l2b x0 x1 x2 x3 x4 x5 x6 x7 x8 x9 x10 x11 x12 x13 x14 x15 (r26l2b x0 x1 x2 x3 x4 x5 x6 x7 x8 x9 x10 x11 x12 x13 x14 x15) from by unfold w26l2b r26l2b; exact (cond_app (a26l2b x0 x1 x2 x3 x4 x5 x6 x7 x8 x9 x10 x11 x12 x13 x14 x15) _ rfl rfl))
noncomputable def Q26l2b : SumK := fun vals s =>
 match vals, s.h with
 | [.iface f0 .nilIface, .pointer (some ⟨f1, f2, some f3⟩), .iface f4 .nilIface, .int .i64 x0, .int .i64 x1, .agg ⟨[.float .f32 x2, .float .f32 x3, .float .f32 x4, .float .f32 x5]⟩, .int .i64 f5], [⟨true, some (.tab [.fl .f32] x6)⟩, ⟨true, some (.cells [.int .i64 x7, .int .i64 x8, .float .f32 x9, .float .f32 x10, .float .f32 x11, .float .f32 x12, .float .f32 x13, .float .f32 x14])⟩, ⟨true, some (.tab [.int .i64, .int .i64, .fl .f32, .fl .f32, .fl .f32, .fl .f32, .fl .f32, .fl .f32] x15)⟩] => if f0 = 0 ∧ f1 = 1 ∧ f2 = 0 ∧ f3 = 0 ∧ f4 = 2 ∧ f5 = 3 then [((Nat.beq ((r26l2b x0 x1 x2 x3 x4 x5 x6 x7 x8 x9 x10 x11 x12 x13 x14 x15).1) 0), .exit 4, [wsl 3, wsl 2, .int .i64 x0, .int .i64 x1], ⟨[⟨true, none⟩, ⟨true, (some (.cells [.int .i64 x7, .int .i64 x8, .float .f32 x9, .float .f32 x10, .float .f32 x11, .float .f32 x12, .float .f32 x13, .float .f32 x14]))⟩, ⟨true, (some (.tab sc0 x15))⟩, ⟨true, (some (.tab [.fl .f32] ((r26l2b x0 x1 x2 x3 x4 x5 x6 x7 x8 x9 x10 x11 x12 x13 x14 x15).2)))⟩], 3, [0]⟩)] else Q26l2 vals s
 | _, _ => Q26l2 vals s
set_option maxRecDepth 100000 in
set_option maxHeartbeats 4000000 in
theorem qok26l2b : SumKOk Try.prog (loopN Try.f26 2) 60 [4, 8, 35, 36, 37, 42, 43] [4, 35, 36, 37] Q26l2b := by
  intro vals s x h1 h2 h3
  unfold Q26l2b at h3; split at h3
  · rename_i h; split at h3
    · rename_i hc; obtain ⟨rfl, rfl, rfl, rfl, rfl, rfl⟩ := hc; exact sum_step ok32 extOk mixed (lok26_2.inner (by kernel_rfl)) qok26l2 h1 h2 h (e26l2b _ _ _ _ _ _ _ _ _ _ _ _ _ _ _ _) rfl h3
    · exact qok26l2 _ _ _ h1 h2 h3
  · exact qok26l2 _ _ _ h1 h2 h3
noncomputable def L26_3 : LoopT := addL L26_2 14 ([4, 8, 35, 36, 37, 42, 43], []) (sumK 60 [4, 8, 35, 36, 37, 42, 43] [4, 35, 36, 37] Q26l2b)
theorem lok26_3 : LfOkF Try.prog L26_3 Try.f26 := lfOkF_add lok26_2 qok26l2b (by kernel_rfl) (by kernel_rfl) (by kernel_rfl)

/-- impl.EnergyOf, loop 2 -/
noncomputable def r26l2c (x0 x1 : Int) (x2 x3 x4 x5 : Nat) (x6 : List (List Int)) (x7 x8 : Int) (x9 x10 x11 x12 x13 x14 : Nat) (x15 : List (List Int)) : Nat × List (List Int) :=
 let c173 := (r26l2b x0 x1 x2 x3 x4 x5 (((x6.drop 0).take x6.length) ++ ([[(((fmul .f32 x4 x10) : Nat) : Int)]] : List (List Int))) x7 x8 x9 x10 x11 x12 x13 x14 x15)
 cond (Nat.ble ((x6.length + 1) * 5) 140737488355328)
  (cond (Nat.beq (c173.1) 0)
   (0, (c173.2))
   (1, []))
  (1, [])
noncomputable def a26l2c (x0 x1 : Int) (x2 x3 x4 x5 : Nat) (x6 : List (List Int)) (x7 x8 : Int) (x9 x10 x11 x12 x13 x14 : Nat) (x15 : List (List Int)) (p : Nat × List (List Int)) : Option (Fin' × List Value × St) := firstT ([((Nat.beq (p.1) 0), .exit 4, [wsl 3, wsl 2, .int .i64 x0, .int .i64 x1], ⟨[⟨true, none⟩, ⟨true, (some (.cells [.int .i64 x7, .int .i64 x8, .float .f32 x9, .float .f32 x10, .float .f32 x11, .float .f32 x12, .float .f32 x13, .float .f32 x14]))⟩, ⟨true, (some (.tab sc0 x15))⟩, ⟨true, (some (.tab [.fl .f32] (p.2)))⟩], 3, [0]⟩)].map fun (b, x) => (b, (x.1, frameOf 60 [4, 35, 36, 37] x.2.1, x.2.2)))
noncomputable def w26l2c (x0 x1 : Int) (x2 x3 x4 x5 : Nat) (x6 : List (List Int)) (x7 x8 : Int) (x9 x10 x11 x12 x13 x14 : Nat) (x15 : List (List Int)) : Option (Fin' × List Value × St) :=
 let c173 := (r26l2b x0 x1 x2 x3 x4 x5 (((x6.drop 0).take x6.length) ++ ([[(((fmul .f32 x4 x10) : Nat) : Int)]] : List (List Int))) x7 x8 x9 x10 x11 x12 x13 x14 x15)
 (cond (Nat.ble ((x6.length + 1) * 5) 140737488355328)
 (cond (Nat.beq (c173.1) 0)
  (a26l2c x0 x1 x2 x3 x4 x5 x6 x7 x8 x9 x10 x11 x12 x13 x14 x15 (0, (c173.2)))
  none)
 none)
set_option maxRecDepth 100000 in
set_option maxHeartbeats 4000000 in
theorem e26l2c (x0 x1 : Int) (x2 x3 x4 x5 : Nat) (x6 : List (List Int)) (x7 x8 : Int) (x9 x10 x11 x12 x13 x14 : Nat) (x15 : List (List Int)) : evC Try.prog ext T32 L26_3 200 (loopN Try.f26 2) (loopTail ([4, 8, 35, 36, 37, 42, 43], []) [4, 35, 36, 37] [] (sumK 60 [4, 8, 35, 36, 37, 42, 43] [4, 35, 36, 37] Q26l2b)) (frameOf 60 [4, 8, 35, 36, 37, 42, 43] [wsl 0, .pointer (some ⟨1, 0, some 0⟩), wsl 2, .int .i64 x0, .int .i64 x1, .agg #[.float .f32 x2, .float .f32 x3, .float .f32 x4, .float .f32 x5], .int .i64 2]) ⟨[⟨true, (some (.tab [.fl .f32] x6))⟩, ⟨true, (some (.cells [.int .i64 x7, .int .i64 x8, .float .f32 x9, .float .f32 x10, .float .f32 x11, .float .f32 x12, .float .f32 x13, .float .f32 x14]))⟩, ⟨true, (some (.tab sc0 x15))⟩], 3, []⟩ = firstT ([((Nat.beq ((r26l2c x0 x1 x2 x3 x4 x5 x6 x7 x8 x9 x10 x11 x12 x13 x14 x15).1) 0), .exit 4, [wsl 3, wsl 2, .int .i64 x0, .int .i64 x1], ⟨[⟨true, none⟩, ⟨true, (some (.cells [.int .i64 x7, .int .i64 x8, .float .f32 x9, .float .f32 x10, .float .f32 x11, .float .f32 x12, .float .f32 x13, .float .f32 x14]))⟩, ⟨true, (some (.tab sc0 x15))⟩, ⟨true, (some (.tab [.fl .f32] ((r26l2c x0 x1 x2 x3 x4 x5 x6 x7 x8 x9 x10 x11 x12 x13 x14 x15).2)))⟩], 3, [0]⟩)].map fun (b, x) => (b, (x.1, frameOf 60 [4, 35, 36, 37] x.2.1, x.2.2))) :=
 (show evC Try.prog ext T32 L26_3 200 (loopN Try.f26 2) (loopTail ([4, 8, 35, 36, 37, 42, 43], []) [4, 35, 36, 37] [] (sumK 60 [4, 8, 35, 36, 37, 42, 43] [4, 35, 36, 37] Q26l2b)) (frameOf 60 [4, 8, 35, 36, 37, 42, 43] [wsl 0, .pointer (some ⟨1, 0, some 0⟩), wsl 2, .int .i64 x0, .int .i64 x1, .agg #[.float .f32 x2, .float .f32 x3, .float .f32 x4, .float .f32 x5], .int .i64 2]) ⟨[⟨true, (some (.tab [.fl .f32] x6))⟩, ⟨true, (some (.cells [.int .i64 x7, .int .i64 x8, .float .f32 x9, .float .f32 x10, .float .f32 x11, .float .f32 x12, .float .f32 x13, .float .f32 x14]))⟩, ⟨true, (some (.tab sc0 x15))⟩], 3, []⟩ = w26l2c x0 x1 x2 x3 x4 x5 x6 x7 x8 x9 x10 x11 x12 x13 x14 x15 from by kernel_rfl).trans
 (show w26l2c x0 x1 x2 x3 x4 x5 x6 x7 x8 x9 x10 x11 x12 x13 x14 x15 = a26l2c x0 x1 x2 x3 x4 x5 x6 x7 x8 x9 x10 x11 x12 x13 x14 x15 (r26l2c x0 x1 x2 x3 x4 x5 x6 x7 x8 x9 x10 x11 x12 x13 x14 x15) from by unfold w26l2c r26l2c; exact (cond_app (a26l2c x0 x1 x2 x3 x4 x5 x6 x7 x8 x9 x10 x11 x12 x13 x14 x15) _ (cond_app (a26l2c x0 x1 x2 x3 x4 x5 x6 x7 x8 x9 x10 x11 x12 x13 x14 x15) _ rfl rfl) rfl))
noncomputable def Q26l2c : SumK := fun vals s =>
 match vals, s.h with
 | [.iface f0 .nilIface, .pointer (some ⟨f1, f2, some f3⟩), .iface f4 .nilIface, .int .i64 x0, .int .i64 x1, .agg ⟨[.float .f32 x2, .float .f32 x3, .float .f32 x4, .float .f32 x5]⟩, .int .i64 f5], [⟨true, some (.tab [.fl .f32] x6)⟩, ⟨true, some (.cells [.int .i64 x7, .int .i64 x8, .float .f32 x9, .float .f32 x10, .float .f32 x11, .float .f32 x12, .float .f32 x13, .float .f32 x14])⟩, ⟨true, some (.tab [.int .i64, .int .i64, .fl .f32, .fl .f32, .fl .f32, .fl .f32, .fl .f32, .fl .f32] x15)⟩] => if f0 = 0 ∧ f1 = 1 ∧ f2 = 0 ∧ f3 = 0 ∧ f4 = 2 ∧ f5 = 2 then [((Nat.beq ((r26l2c x0 x1 x2 x3 x4 x5 x6 x7 x8 x9 x10 x11 x12 x13 x14 x15).1) 0), .exit 4, [wsl 3, wsl 2, .int .i64 x0, .int .i64 x1], ⟨[⟨true, none⟩, ⟨true, (some (.cells [.int .i64 x7, .int .i64 x8, .float .f32 x9, .float .f32 x10, .float .f32 x11, .float .f32 x12, .float .f32 x13, .float .f32 x14]))⟩, ⟨true, (some (.tab sc0 x15))⟩, ⟨true, (some (.tab [.fl .f32] ((r26l2c x0 x1 x2 x3 x4 x5 x6 x7 x8 x9 x10 x11 x12 x13 x14 x15).2)))⟩], 3, [0]⟩)] else Q26l2b vals s
 | _, _ => Q26l2b vals s
set_option maxRecDepth 100000 in
set_option maxHeartbeats 4000000 in
theorem qok26l2c : SumKOk Try.prog (loopN Try.f26 2) 60 [4, 8, 35, 36, 37, 42, 43] [4, 35, 36, 37] Q26l2c := by
  intro vals s x h1 h2 h3
  unfold Q26l2c at h3; split at h3
  · rename_i h; split at h3
    · rename_i hc; obtain ⟨rfl, rfl, rfl, rfl, rfl, rfl⟩ := hc; exact sum_step ok32 extOk mixed (lok26_3.inner (by kernel_rfl)) qok26l2b h1 h2 h (e26l2c _ _ _ _ _ _ _ _ _ _ _ _ _ _ _ _) rfl h3
    · exact qok26l2b _ _ _ h1 h2 h3
  · exact qok26l2b _ _ _ h1 h2 h3
noncomputable def L26_4 : LoopT := addL L26_3 14 ([4, 8, 35, 36, 37, 42, 43], []) (sumK 60 [4, 8, 35, 36, 37, 42, 43] [4, 35, 36, 37] Q26l2c)
theorem lok26_4 : LfOkF Try.prog L26_4 Try.f26 := lfOkF_add lok26_3 qok26l2c (by kernel_rfl) (by kernel_rfl) (by kernel_rfl)

/-- impl.EnergyOf, loop 2 -/
noncomputable def r26l2d (x0 x1 : Int) (x2 x3 x4 x5 : Nat) (x6 : List (List Int)) (x7 x8 : Int) (x9 x10 x11 x12 x13 x14 : Nat) (x15 : List (List Int)) : Nat × List (List Int) :=
 let c174 := (r26l2c x0 x1 x2 x3 x4 x5 (((x6.drop 0).take x6.length) ++ ([[(((fmul .f32 x3 x10) : Nat) : Int)]] : List (List Int))) x7 x8 x9 x10 x11 x12 x13 x14 x15)
 cond (Nat.ble ((x6.length + 1) * 5) 140737488355328)
  (cond (Nat.beq (c174.1) 0)
   (0, (c174.2))
   (1, []))
  (1, [])
noncomputable def a26l2d (x0 x1 : Int) (x2 x3 x4 x5 : Nat) (x6 : List (List Int)) (x7 x8 : Int) (x9 x10 x11 x12 x13 x14 : Nat) (x15 : List (List Int)) (p : Nat × List (List Int)) : Option (Fin' × List Value × St) := firstT ([((Nat.beq (p.1) 0), .exit 4, [wsl 3, wsl 2, .int .i64 x0, .int .i64 x1], ⟨[⟨true, none⟩, ⟨true, (some (.cells [.int .i64 x7, .int .i64 x8, .float .f32 x9, .float .f32 x10, .float .f32 x11, .float .f32 x12, .float .f32 x13, .float .f32 x14]))⟩, ⟨true, (some (.tab sc0 x15))⟩, ⟨true, (some (.tab [.fl .f32] (p.2)))⟩], 3, [0]⟩)].map fun (b, x) => (b, (x.1, frameOf 60 [4, 35, 36, 37] x.2.1, x.2.2)))
noncomputable def w26l2d (x0 x1 : Int) (x2 x3 x4 x5 : Nat) (x6 : List (List Int)) (x7 x8 : Int) (x9 x10 x11 x12 x13 x14 : Nat) (x15 : List (List Int)) : Option (Fin' × List Value × St) :=
 let c174 := (r26l2c x0 x1 x2 x3 x4 x5 (((x6.drop 0).take x6.length) ++ ([[(((fmul .f32 x3 x10) : Nat) : Int)]] : List (List Int))) x7 x8 x9 x10 x11 x12 x13 x14 x15)
 (cond (Nat.ble ((x6.length + 1) * 5) 140737488355328)
 (cond (Nat.beq (c174.1) 0)
  (a26l2d x0 x1 x2 x3 x4 x5 x6 x7 x8 x9 x10 x11 x12 x13 x14 x15 (0, (c174.2)))
  none)
 none)
set_option maxRecDepth 100000 in
set_option maxHeartbeats 4000000 in
theorem e26l2d (x0 x1 : Int) (x2 x3 x4 x5 : Nat) (x6 : List (List Int)) (x7 x8 : Int) (x9 x10 x11 x12 x13 x14 : Nat) (x15 : List (List Int)) : evC Try.prog ext T32 L26_4 200 (loopN Try.f26 2) (loopTail ([4, 8, 35, 36, 37, 42, 43], []) [4, 35, 36, 37] [] (sumK 60 [4, 8, 35, 36, 37, 42, 43] [4, 35, 36, 37] Q26l2c)) (frameOf 60 [4, 8, 35, 36, 37, 42, 43] [wsl 0, .pointer (some ⟨1, 0, some 0⟩), wsl 2, .int .i64 x0, .int .i64 x1, .agg #[.float .f32 x2, .float .f32 x3, .float .f32 x4, .float .f32 x5], .int .i64 1]) ⟨[⟨true, (some (.tab [.fl .f32] x6))⟩, ⟨true, (some (.cells [.int .i64 x7, .int .i64 x8, .float .f32 x9, .float .f32 x10, .float .f32 x11, .float .f32 x12, .float .f32 x13, .float .f32 x14]))⟩, ⟨true, (some (.tab sc0 x15))⟩], 3, []⟩ = firstT ([((Nat.beq ((r26l2d x0 x1 x2 x3 x4 x5 x6 x7 x8 x9 x10 x11 x12 x13 x14 x15).1) 0), .exit 4, [wsl 3, wsl 2, .int .i64 x0, .int .i64 x1], ⟨[⟨true, none⟩, ⟨true, (some (.cells [.int .i64 x7, .int .i64 x8, .float .f32 x9, .float .f32 x10, .float .f32 x11, .float .f32 x12, .float .f32 x13, .float .f32 x14]))⟩, ⟨true, (some (.tab sc0 x15))⟩, ⟨true, (some (.tab [.fl .f32] ((r26l2d x0 x1 x2 x3 x4 x5 x6 x7 x8 x9 x10 x11 x12 x13 x14 x15).2)))⟩], 3, [0]⟩)].map fun (b, x) => (b, (x.1, frameOf 60 [4, 35, 36, 37] x.2.1, x.2.2))) :=
 (show evC Try.prog ext T32 L26_4 200 (loopN Try.f26 2) (loopTail ([4, 8, 35, 36, 37, 42, 43], []) [4, 35, 36, 37] [] (sumK 60 [4, 8, 35, 36, 37, 42, 43] [4, 35, 36, 37] Q26l2c)) (frameOf 60 [4, 8, 35, 36, 37, 42, 43] [wsl 0, .pointer (some ⟨1, 0, some 0⟩), wsl 2, .int .i64 x0, .int .i64 x1, .agg #[.float .f32 x2, .float .f32 x3, .float .f32 x4, .float .f32 x5], .int .i64 1]) ⟨[⟨true, (some (.tab [.fl .f32] x6))⟩, ⟨true, (some (.cells [.int .i64 x7, .int .i64 x8, .float .f32 x9, .float .f32 x10, .float .f32 x11, .float .f32 x12, .float .f32 x13, .float .f32 x14]))⟩, ⟨true, (some (.tab sc0 x15))⟩], 3, []⟩ = w26l2d x0 x1 x2 x3 x4 x5 x6 x7 x8 x9 x10 x11 x12 x13 x14 x15 from by kernel_rfl).trans
 (show w26l2d x0 x1 x2 x3 x4 x5 x6 x7 x8 x9 x10 x11 x12 x13 x14 x15 = a26l2d x0 x1 x2 x3 x4 x5 x6 x7 x8 x9 x10 x11 x12 x13 x14 x15 (r26l2d x0 x1 x2 x3 x4 x5 x6 x7 x8 x9 x10 x11 x12 x13 x14 x15) from by unfold w26l2d r26l2d; exact (cond_app (a26l2d x0 x1 x2 x3 x4 x5 x6 x7 x8 x9 x10 x11 x12 x13 x14 x15) _ (cond_app (a26l2d x0 x1 x2 x3 x4 x5 x6 x7 x8 x9 x10 x11 x12 x13 x14 x15) _ rfl rfl) rfl))
noncomputable def Q26l2d : SumK := fun vals s =>
 match vals, s.h with
 | [.iface f0 .nilIface, .pointer (some ⟨f1, f2, some f3⟩), .iface f4 .nilIface, .int .i64 x0, .int .i64 x1, .agg ⟨[.float .f32 x2, .float .f32 x3, .float .f32 x4, .float .f32 x5]⟩, .int .i64 f5], [⟨true, some (.tab [.fl .f32] x6)⟩, ⟨true, some (.cells [.int .i64 x7, .int .i64 x8, .float .f32 x9, .float .f32 x10, .float .f32 x11, .float .f32 x12, .float .f32 x13, .float .f32 x14])⟩, ⟨true, some (.tab [.int .i64, .int .i64, .fl .f32, .fl .f32, .fl .f32, .fl .f32, .fl .f32, .fl .f32] x15)⟩] => if f0 = 0 ∧ f1 = 1 ∧ f2 = 0 ∧ f3 = 0 ∧ f4 = 2 ∧ f5 = 1 then [((Nat.beq ((r26l2d x0 x1 x2 x3 x4 x5 x6 x7 x8 x9 x10 x11 x12 x13 x14 x15).1) 0), .exit 4, [wsl 3, wsl 2, .int .i64 x0, .int .i64 x1], ⟨[⟨true, none⟩, ⟨true, (some (.cells [.int .i64 x7, .int .i64 x8, .float .f32 x9, .float .f32 x10, .float .f32 x11, .float .f32 x12, .float .f32 x13, .float .f32 x14]))⟩, ⟨true, (some (.tab sc0 x15))⟩, ⟨true, (some (.tab [.fl .f32] ((r26l2d x0 x1 x2 x3 x4 x5 x6 x7 x8 x9 x10 x11 x12 x13 x14 x15).2)))⟩], 3, [0]⟩)] else Q26l2c vals s
 | _, _ => Q26l2c vals s
set_option maxRecDepth 100000 in
set_option maxHeartbeats 4000000 in
theorem qok26l2d : SumKOk Try.prog (loopN Try.f26 2) 60 [4, 8, 35, 36, 37, 42, 43] [4, 35, 36, 37] Q26l2d := by
  intro vals s x h1 h2 h3
  unfold Q26l2d at h3; split at h3
  · rename_i h; split at h3
    · rename_i hc; obtain ⟨rfl, rfl, rfl, rfl, rfl, rfl⟩ := hc; exact sum_step ok32 extOk mixed (lok26_4.inner (by kernel_rfl)) qok26l2c h1 h2 h (e26l2d _ _ _ _ _ _ _ _ _ _ _ _ _ _ _ _) rfl h3
    · exact qok26l2c _ _ _ h1 h2 h3
  · exact qok26l2c _ _ _ h1 h2 h3
noncomputable def L26_5 : LoopT := addL L26_4 14 ([4, 8, 35, 36, 37, 42, 43], []) (sumK 60 [4, 8, 35, 36, 37, 42, 43] [4, 35, 36, 37] Q26l2d)
theorem lok26_5 : LfOkF Try.prog L26_5 Try.f26 := lfOkF_add lok26_4 qok26l2d (by kernel_rfl) (by kernel_rfl) (by kernel_rfl)

/-- impl.EnergyOf, loop 2 -/
noncomputable def r26l2e (x0 x1 : Int) (x2 x3 x4 x5 : Nat) (x6 : List (List Int)) (x7 x8 : Int) (x9 x10 x11 x12 x13 x14 : Nat) (x15 : List (List Int)) : Nat × List (List Int) :=
 let c175 := (r26l2d x0 x1 x2 x3 x4 x5 (((x6.drop 0).take x6.length) ++ ([[(((fmul .f32 x2 x10) : Nat) : Int)]] : List (List Int))) x7 x8 x9 x10 x11 x12 x13 x14 x15)
 cond (Nat.ble ((x6.length + 1) * 5) 140737488355328)
  (cond (Nat.beq (c175.1) 0)
   (0, (c175.2))
   (1, []))
  (1, [])
noncomputable def a26l2e (x0 x1 : Int) (x2 x3 x4 x5 : Nat) (x6 : List (List Int)) (x7 x8 : Int) (x9 x10 x11 x12 x13 x14 : Nat) (x15 : List (List Int)) (p : Nat × List (List Int)) : Option (Fin' × List Value × St) := firstT ([((Nat.beq (p.1) 0), .exit 4, [wsl 3, wsl 2, .int .i64 x0, .int .i64 x1], ⟨[⟨true, none⟩, ⟨true, (some (.cells [.int .i64 x7, .int .i64 x8, .float .f32 x9, .float .f32 x10, .float .f32 x11, .float .f32 x12, .float .f32 x13, .float .f32 x14]))⟩, ⟨true, (some (.tab sc0 x15))⟩, ⟨true, (some (.tab [.fl .f32] (p.2)))⟩], 3, [0]⟩)].map fun (b, x) => (b, (x.1, frameOf 60 [4, 35, 36, 37] x.2.1, x.2.2)))
noncomputable def w26l2e (x0 x1 : Int) (x2 x3 x4 x5 : Nat) (x6 : List (List Int)) (x7 x8 : Int) (x9 x10 x11 x12 x13 x14 : Nat) (x15 : List (List Int)) : Option (Fin' × List Value × St) :=
 let c175 := (r26l2d x0 x1 x2 x3 x4 x5 (((x6.drop 0).take x6.length) ++ ([[(((fmul .f32 x2 x10) : Nat) : Int)]] : List (List Int))) x7 x8 x9 x10 x11 x12 x13 x14 x15)
 (cond (Nat.ble ((x6.length + 1) * 5) 140737488355328)
 (cond (Nat.beq (c175.1) 0)
  (a26l2e x0 x1 x2 x3 x4 x5 x6 x7 x8 x9 x10 x11 x12 x13 x14 x15 (0, (c175.2)))
  none)
 none)
set_option maxRecDepth 100000 in
set_option maxHeartbeats 4000000 in
theorem e26l2e (x0 x1 : Int) (x2 x3 x4 x5 : Nat) (x6 : List (List Int)) (x7 x8 : Int) (x9 x10 x11 x12 x13 x14 : Nat) (x15 : List (List Int)) : evC Try.prog ext T32 L26_5 200 (loopN Try.f26 2) (loopTail ([4, 8, 35, 36, 37, 42, 43], []) [4, 35, 36, 37] [] (sumK 60 [4, 8, 35, 36, 37, 42, 43] [4, 35, 36, 37] Q26l2d)) (frameOf 60 [4, 8, 35, 36, 37, 42, 43] [wsl 0, .pointer (some ⟨1, 0, some 0⟩), wsl 2, .int .i64 x0, .int .i64 x1, .agg #[.float .f32 x2, .float .f32 x3, .float .f32 x4, .float .f32 x5], .int .i64 0]) ⟨[⟨true, (some (.tab [.fl .f32] x6))⟩, ⟨true, (some (.cells [.int .i64 x7, .int .i64 x8, .float .f32 x9, .float .f32 x10, .float .f32 x11, .float .f32 x12, .float .f32 x13, .float .f32 x14]))⟩, ⟨true, (some (.tab sc0 x15))⟩], 3, []⟩ = firstT ([((Nat.beq ((r26l2e x0 x1 x2 x3 x4 x5 x6 x7 x8 x9 x10 x11 x12 x13 x14 x15).1) 0), .exit 4, [wsl 3, wsl 2, .int .i64 x0, .int .i64 x1], ⟨[⟨true, none⟩, ⟨true, (some (.cells [.int .i64 x7, .int .i64 x8, .float .f32 x9, .float .f32 x10, .float .f32 x11, .float .f32 x12, .float .f32 x13, .float .f32 x14]))⟩, ⟨true, (some (.tab sc0 x15))⟩, ⟨true, (some (.tab [.fl .f32] ((r26l2e x0 x1 x2 x3 x4 x5 x6 x7 x8 x9 x10 x11 x12 x13 x14 x15).2)))⟩], 3, [0]⟩)].map fun (b, x) => (b, (x.1, frameOf 60 [4, 35, 36, 37] x.2.1, x.2.2))) :=
 (show evC Try.prog ext T32 L26_5 200 (loopN Try.f26 2) (loopTail ([4, 8, 35, 36, 37, 42, 43], []) [4, 35, 36, 37] [] (sumK 60 [4, 8, 35, 36, 37, 42, 43] [4, 35, 36, 37] Q26l2d)) (frameOf 60 [4, 8, 35, 36, 37, 42, 43] [wsl 0, .pointer (some ⟨1, 0, some 0⟩), wsl 2, .int .i64 x0, .int .i64 x1, .agg #[.float .f32 x2, .float .f32 x3, .float .f32 x4, .float .f32 x5], .int .i64 0]) ⟨[⟨true, (some (.tab [.fl .f32] x6))⟩, ⟨true, (some (.cells [.int .i64 x7, .int .i64 x8, .float .f32 x9, .float .f32 x10, .float .f32 x11, .float .f32 x12, .float .f32 x13, .float .f32 x14]))⟩, ⟨true, (some (.tab sc0 x15))⟩], 3, []⟩ = w26l2e x0 x1 x2 x3 x4 x5 x6 x7 x8 x9 x10 x11 x12 x13 x14 x15 from by kernel_rfl).trans
 (show w26l2e x0 x1 x2 x3 x4 x5 x6 x7 x8 x9 x10 x11 x12 x13 x14 x15 = a26l2e x0 x1 x2 x3 x4 x5 x6 x7 x8 x9 x10 x11 x12 x13 x14 x15 (r26l2e x0 x1 x2 x3 x4 x5 x6 x7 x8 x9 x10 x11 x12 x13 x14 x15) from by unfold w26l2e r26l2e; exact (cond_app (a26l2e x0 x1 x2 x3 x4 x5 x6 x7 x8 x9 x10 x11 x12 x13 x14 x15) _ (cond_app (a26l2e x0 x1 x2 x3 x4 x5 x6 x7 x8 x9 x10 x11 x12 x13 x14 x15) _ rfl rfl) rfl))
noncomputable def Q26l2e : SumK := fun vals s =>
 match vals, s.h with
 | [.iface f0 .nilIface, .pointer (some ⟨f1, f2, some f3⟩), .iface f4 .nilIface, .int .i64 x0, .int .i64 x1, .agg ⟨[.float .f32 x2, .float .f32 x3, .float .f32 x4, .float .f32 x5]⟩, .int .i64 f5], [⟨true, some (.tab [.fl .f32] x6)⟩, ⟨true, some (.cells [.int .i64 x7, .int .i64 x8, .float .f32 x9, .float .f32 x10, .float .f32 x11, .float .f32 x12, .float .f32 x13, .float .f32 x14])⟩, ⟨true, some (.tab [.int .i64, .int .i64, .fl .f32, .fl .f32, .fl .f32, .fl .f32, .fl .f32, .fl .f32] x15)⟩] => if f0 = 0 ∧ f1 = 1 ∧ f2 = 0 ∧ f3 = 0 ∧ f4 = 2 ∧ f5 = 0 then [((Nat.beq ((r26l2e x0 x1 x2 x3 x4 x5 x6 x7 x8 x9 x10 x11 x12 x13 x14 x15).1) 0), .exit 4, [wsl 3, wsl 2, .int .i64 x0, .int .i64 x1], ⟨[⟨true, none⟩, ⟨true, (some (.cells [.int .i64 x7, .int .i64 x8, .float .f32 x9, .float .f32 x10, .float .f32 x11, .float .f32 x12, .float .f32 x13, .float .f32 x14]))⟩, ⟨true, (some (.tab sc0 x15))⟩, ⟨true, (some (.tab [.fl .f32] ((r26l2e x0 x1 x2 x3 x4 x5 x6 x7 x8 x9 x10 x11 x12 x13 x14 x15).2)))⟩], 3, [0]⟩)] else Q26l2d vals s
 | _, _ => Q26l2d vals s
set_option maxRecDepth 100000 in
set_option maxHeartbeats 4000000 in
theorem qok26l2e : SumKOk Try.prog (loopN Try.f26 2) 60 [4, 8, 35, 36, 37, 42, 43] [4, 35, 36, 37] Q26l2e := by
  intro vals s x h1 h2 h3
  unfold Q26l2e at h3; split at h3
  · rename_i h; split at h3
    · rename_i hc; obtain ⟨rfl, rfl, rfl, rfl, rfl, rfl⟩ := hc; exact sum_step ok32 extOk mixed (lok26_5.inner (by kernel_rfl)) qok26l2d h1 h2 h (e26l2e _ _ _ _ _ _ _ _ _ _ _ _ _ _ _ _) rfl h3
    · exact qok26l2d _ _ _ h1 h2 h3
  · exact qok26l2d _ _ _ h1 h2 h3
noncomputable def L26_6 : LoopT := addL L26_5 14 ([4, 8, 35, 36, 37, 42, 43], []) (sumK 60 [4, 8, 35, 36, 37, 42, 43] [4, 35, 36, 37] Q26l2e)
theorem lok26_6 : LfOkF Try.prog L26_6 Try.f26 := lfOkF_add lok26_5 qok26l2e (by kernel_rfl) (by kernel_rfl) (by kernel_rfl)

/-- impl.EnergyOf, loop 1: one round -/
noncomputable def b26l1 (ih : Int → Int → List (List Int) → List (List Int) → (Nat × List (List Int))) (x0 x1 : Int) (x2 x3 : List (List Int)) : Nat × List (List Int) :=
 let c177 := (r26l2e x0 x1 (Int.toNat ((x3.getD (Int.toNat x1) []).getD 4 0)) (Int.toNat ((x3.getD (Int.toNat x1) []).getD 5 0)) (Int.toNat ((x3.getD (Int.toNat x1) []).getD 6 0)) (Int.toNat ((x3.getD (Int.toNat x1) []).getD 7 0)) x2 ((x3.getD (Int.toNat x1) []).getD 0 0) ((x3.getD (Int.toNat x1) []).getD 1 0) (Int.toNat ((x3.getD (Int.toNat x1) []).getD 2 0)) (Int.toNat ((x3.getD (Int.toNat x1) []).getD 3 0)) (Int.toNat ((x3.getD (Int.toNat x1) []).getD 4 0)) (Int.toNat ((x3.getD (Int.toNat x1) []).getD 5 0)) (Int.toNat ((x3.getD (Int.toNat x1) []).getD 6 0)) (Int.toNat ((x3.getD (Int.toNat x1) []).getD 7 0)) x3)
 cond (decide ((x1 : Int) < x0))
  (cond ((decide ((0 : Int) ≤ x1)) && (Nat.blt (Int.toNat x1) x3.length))
   (cond (Nat.beq (c177.1) 0)
    (cond (Nat.beq ((ih x0 (IntKind.i64.wrap (x1 + 1)) (c177.2) x3).1) 0)
     (0, ((ih x0 (IntKind.i64.wrap (x1 + 1)) (c177.2) x3).2))
     (cond (Nat.beq ((ih x0 (IntKind.i64.wrap (x1 + 1)) (c177.2) x3).1) 1)
      (0, (c177.2))
      (2, [])))
    (2, []))
   (2, []))
  (1, [])
noncomputable def r26l1 : Nat → Int → Int → List (List Int) → List (List Int) → (Nat × List (List Int))
 | 0 => fun _ _ _ _ => (2, [])
 | m + 1 => b26l1 (r26l1 m)
noncomputable def a26l1 (x0 x1 : Int) (x2 x3 : List (List Int)) (p : Nat × List (List Int)) : Option (Fin' × List Value × St) := firstT ([((Nat.beq (p.1) 0), .exit 2, [wsl 2], ⟨[⟨true, none⟩, ⟨true, (some (.tab sc0 x3))⟩, ⟨true, (some (.tab [.fl .f32] (p.2)))⟩], 2, [0]⟩), ((Nat.beq (p.1) 1), .exit 2, [wsl 0], ⟨[⟨true, (some (.tab [.fl .f32] x2))⟩, ⟨true, (some (.tab sc0 x3))⟩], 2, [0]⟩)].map fun (b, x) => (b, (x.1, frameOf 60 [4] x.2.1, x.2.2)))
noncomputable def u26l1 (x0 x1 : Int) (x2 x3 : List (List Int)) (p : Nat × List (List Int)) : Option (Fin' × List Value × St) := alts ([((Nat.beq (p.1) 0), .exit 2, [wsl 2], ⟨[⟨true, none⟩, ⟨true, (some (.tab sc0 x3))⟩, ⟨true, (some (.tab [.fl .f32] (p.2)))⟩], 2, [0]⟩), ((Nat.beq (p.1) 1), .exit 2, [wsl 0], ⟨[⟨true, (some (.tab [.fl .f32] x2))⟩, ⟨true, (some (.tab sc0 x3))⟩], 2, [0]⟩)].map fun (b, x) => (b, (x.1, frameOf 60 [4] x.2.1, x.2.2))) some
theorem v26l1 (x0 x1 : Int) (x2 x3 : List (List Int)) (p : Nat × List (List Int)) : u26l1 x0 x1 x2 x3 p = a26l1 x0 x1 x2 x3 p := alts_first _
noncomputable def q26l1 (m : Nat) : SumK := fun vals s =>
 match vals, s.h with
 | [.iface f0 .nilIface, .iface f1 .nilIface, .int .i64 x0, .int .i64 x1], [⟨true, some (.tab [.fl .f32] x2)⟩, ⟨true, some (.tab [.int .i64, .int .i64, .fl .f32, .fl .f32, .fl .f32, .fl .f32, .fl .f32, .fl .f32] x3)⟩] => if f0 = 0 ∧ f1 = 1 then [((Nat.beq ((r26l1 m x0 x1 x2 x3).1) 0), .exit 2, [wsl 2], ⟨[⟨true, none⟩, ⟨true, (some (.tab sc0 x3))⟩, ⟨true, (some (.tab [.fl .f32] ((r26l1 m x0 x1 x2 x3).2)))⟩], 2, [0]⟩), ((Nat.beq ((r26l1 m x0 x1 x2 x3).1) 1), .exit 2, [wsl 0], ⟨[⟨true, (some (.tab [.fl .f32] x2))⟩, ⟨true, (some (.tab sc0 x3))⟩], 2, [0]⟩)] else noQ vals s
 | _, _ => noQ vals s
noncomputable def w26l1 (ih : Int → Int → List (List Int) → List (List Int) → (Nat × List (List Int))) (x0 x1 : Int) (x2 x3 : List (List Int)) : Option (Fin' × List Value × St) :=
 let c177 := (r26l2e x0 x1 (Int.toNat ((x3.getD (Int.toNat x1) []).getD 4 0)) (Int.toNat ((x3.getD (Int.toNat x1) []).getD 5 0)) (Int.toNat ((x3.getD (Int.toNat x1) []).getD 6 0)) (Int.toNat ((x3.getD (Int.toNat x1) []).getD 7 0)) x2 ((x3.getD (Int.toNat x1) []).getD 0 0) ((x3.getD (Int.toNat x1) []).getD 1 0) (Int.toNat ((x3.getD (Int.toNat x1) []).getD 2 0)) (Int.toNat ((x3.getD (Int.toNat x1) []).getD 3 0)) (Int.toNat ((x3.getD (Int.toNat x1) []).getD 4 0)) (Int.toNat ((x3.getD (Int.toNat x1) []).getD 5 0)) (Int.toNat ((x3.getD (Int.toNat x1) []).getD 6 0)) (Int.toNat ((x3.getD (Int.toNat x1) []).getD 7 0)) x3)
 (cond (decide ((x1 : Int) < x0))
 (cond ((decide ((0 : Int) ≤ x1)) && (Nat.blt (Int.toNat x1) x3.length))
  (cond (Nat.blt (Int.toNat x1) x3.length)
   (cond (Nat.beq (c177.1) 0)
    (cond (Nat.beq ((ih x0 (IntKind.i64.wrap (x1 + 1)) (c177.2) x3).1) 0)
     (a26l1 x0 x1 x2 x3 (0, ((ih x0 (IntKind.i64.wrap (x1 + 1)) (c177.2) x3).2)))
     (cond (Nat.beq ((ih x0 (IntKind.i64.wrap (x1 + 1)) (c177.2) x3).1) 1)
      (a26l1 x0 x1 x2 x3 (0, (c177.2)))
      none))
    none)
   none)
  none)
 (a26l1 x0 x1 x2 x3 (1, [])))
set_option maxRecDepth 100000 in
set_option maxHeartbeats 4000000 in
theorem e26l1 (m : Nat) (x0 x1 : Int) (x2 x3 : List (List Int)) : evC Try.prog ext T32 L26_6 200 (loopN Try.f26 1) (loopTail ([4, 35, 36, 37], []) [4] [0] (sumK 60 [4, 35, 36, 37] [4] (q26l1 m))) (frameOf 60 [4, 35, 36, 37] [wsl 0, wsl 1, .int .i64 x0, .int .i64 x1]) ⟨[⟨true, (some (.tab [.fl .f32] x2))⟩, ⟨true, (some (.tab sc0 x3))⟩], 2, []⟩ = firstT ([((Nat.beq ((r26l1 (m + 1) x0 x1 x2 x3).1) 0), .exit 2, [wsl 2], ⟨[⟨true, none⟩, ⟨true, (some (.tab sc0 x3))⟩, ⟨true, (some (.tab [.fl .f32] ((r26l1 (m + 1) x0 x1 x2 x3).2)))⟩], 2, [0]⟩), ((Nat.beq ((r26l1 (m + 1) x0 x1 x2 x3).1) 1), .exit 2, [wsl 0], ⟨[⟨true, (some (.tab [.fl .f32] x2))⟩, ⟨true, (some (.tab sc0 x3))⟩], 2, [0]⟩)].map fun (b, x) => (b, (x.1, frameOf 60 [4] x.2.1, x.2.2))) :=
 (show evC Try.prog ext T32 L26_6 200 (loopN Try.f26 1) (loopTail ([4, 35, 36, 37], []) [4] [0] (sumK 60 [4, 35, 36, 37] [4] (q26l1 m))) (frameOf 60 [4, 35, 36, 37] [wsl 0, wsl 1, .int .i64 x0, .int .i64 x1]) ⟨[⟨true, (some (.tab [.fl .f32] x2))⟩, ⟨true, (some (.tab sc0 x3))⟩], 2, []⟩ = w26l1 (r26l1 m) x0 x1 x2 x3 from by kernel_rfl).trans
 (show w26l1 (r26l1 m) x0 x1 x2 x3 = a26l1 x0 x1 x2 x3 (r26l1 (m + 1) x0 x1 x2 x3) from by unfold w26l1; show _ = a26l1 x0 x1 x2 x3 (b26l1 (r26l1 m) x0 x1 x2 x3); unfold b26l1; exact (cond_both (a26l1 x0 x1 x2 x3) _ (fun h0 => (cond_both (a26l1 x0 x1 x2 x3) _ (fun h1 => (cond_t (ev_and2 h1) (cond_app (a26l1 x0 x1 x2 x3) _ (cond_app (a26l1 x0 x1 x2 x3) _ rfl (cond_app (a26l1 x0 x1 x2 x3) _ rfl rfl)) rfl))) (fun h1 => rfl))) (fun h0 => rfl)))
set_option maxRecDepth 100000 in
set_option maxHeartbeats 4000000 in
theorem qm26l1 : ∀ m, SumKOk Try.prog (loopN Try.f26 1) 60 [4, 35, 36, 37] [4] (q26l1 m) := by
  intro m
  induction m with
  | zero =>
    intro vals s x h1 h2 h3
    unfold q26l1 at h3; split at h3
    · rename_i h; split at h3
      · rename_i hc; obtain ⟨rfl, rfl⟩ := hc; exact absurd h3 (by simp [r26l1, firstT, Nat.beq])
      · exact noQ_ok _ _ _ h1 h2 h3
    · exact noQ_ok _ _ _ h1 h2 h3
  | succ m ih =>
    intro vals s x h1 h2 h3
    unfold q26l1 at h3; split at h3
    · rename_i h; split at h3
      · rename_i hc; obtain ⟨rfl, rfl⟩ := hc; exact sum_step ok32 extOk mixed (lok26_6.inner (by kernel_rfl)) ih h1 h2 h (e26l1 m _ _ _ _) rfl h3
      · exact noQ_ok _ _ _ h1 h2 h3
    · exact noQ_ok _ _ _ h1 h2 h3
noncomputable def Q26l1 : SumK := fun vals s => q26l1 (fuelOf vals s.h) vals s
theorem qok26l1 : SumKOk Try.prog (loopN Try.f26 1) 60 [4, 35, 36, 37] [4] Q26l1 := fuel_ok qm26l1 fuelOf
noncomputable def L26_7 : LoopT := addL L26_6 11 ([4, 35, 36, 37], []) (sumK 60 [4, 35, 36, 37] [4] Q26l1)
theorem lok26_7 : LfOkF Try.prog L26_7 Try.f26 := lfOkF_add lok26_6 qok26l1 (by kernel_rfl) (by kernel_rfl) (by kernel_rfl)
end Go.Proofs.Ytfnfapmncibjfaa
