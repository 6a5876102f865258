/- What the functions that the statements reach answer, part 3. -/
import Derived.Test.YtfnfapmncibjfaaGa2
namespace Go.Proofs.Ytfnfapmncibjfaa
open Go.Ab
set_option maxHeartbeats 4000000
set_option maxRecDepth 100000

/-- impl.GainsFor, loop 2: one round -/
noncomputable def b20l2 (ih : Nat → Nat → Nat → Int → Nat → Int → Int → Int → Int → List (List Int) → List (List Int) → List (List Int) → List (List Int) → List (List Int) → List (List Int) → (Nat × Nat)) (x0 x1 x2 : Nat) (x3 : Int) (x4 : Nat) (x5 x6 x7 x8 : Int) (x9 x10 x11 x12 x13 x14 : List (List Int)) : Nat × Nat :=
 let c132 := (r69 (IntKind.i64.wrap ((IntKind.i64.wrap (((x11.getD (Int.toNat x8) []).getD 0 0) + ((x11.getD (Int.toNat x8) []).getD 1 0))) - x3)) x0 x9)
 cond (decide ((x8 : Int) < x7))
  (cond ((decide ((0 : Int) ≤ x8)) && (Nat.blt (Int.toNat x8) x11.length))
   (cond ((((x11.getD (Int.toNat x8) []).getD 0 0) : Int) == x3)
    (cond (Nat.beq (c132.1) 0)
     (ih x0 x1 x2 x3 (fadd .f32 x4 (fmul .f32 (fmul .f32 1048576000 (Int.toNat ((x11.getD (Int.toNat x8) []).getD 2 0))) (fsub .f32 x2 (c132.2)))) x5 x6 x7 (IntKind.i64.wrap (x8 + 1)) x9 x10 x11 x12 x13 x14)
     (1, 0))
    (cond ((((x11.getD (Int.toNat x8) []).getD 1 0) : Int) == x3)
     (cond (Nat.beq (c132.1) 0)
      (ih x0 x1 x2 x3 (fadd .f32 x4 (fmul .f32 (fmul .f32 1048576000 (Int.toNat ((x11.getD (Int.toNat x8) []).getD 2 0))) (fsub .f32 x2 (c132.2)))) x5 x6 x7 (IntKind.i64.wrap (x8 + 1)) x9 x10 x11 x12 x13 x14)
      (1, 0))
     (ih x0 x1 x2 x3 x4 x5 x6 x7 (IntKind.i64.wrap (x8 + 1)) x9 x10 x11 x12 x13 x14)))
   (1, 0))
  (0, x4)
noncomputable def r20l2 : Nat → Nat → Nat → Nat → Int → Nat → Int → Int → Int → Int → List (List Int) → List (List Int) → List (List Int) → List (List Int) → List (List Int) → List (List Int) → (Nat × Nat)
 | 0 => fun _ _ _ _ _ _ _ _ _ _ _ _ _ _ _ => (1, 0)
 | m + 1 => b20l2 (r20l2 m)
noncomputable def a20l2 (x0 x1 x2 : Nat) (x3 : Int) (x4 : Nat) (x5 x6 x7 x8 : Int) (x9 x10 x11 x12 x13 x14 : List (List Int)) (p : Nat × Nat) : Option (Fin' × List Value × St) := firstT ([((Nat.beq (p.1) 0), .exit 4, [.float .f32 x0, .float .f32 x1, wsl 0, .pointer (some ⟨1, 0, some 0⟩), wsl 2, .float .f32 x2, .int .i64 x3, .float .f32 (p.2), wsl 0, .int .i64 x5, .int .i64 x6], ⟨[⟨true, (some (.tab [.fl .f32] x9))⟩, ⟨true, (some (.cells [wsl 4, wsl 5, wsl 3, wsl 6]))⟩, ⟨true, (some (.tab [.fl .f32] x10))⟩, ⟨true, (some (.tab sc0 x11))⟩, ⟨true, (some (.tab [.fl .f32] x12))⟩, ⟨true, (some (.tab [.fl .f32] x13))⟩, ⟨true, (some (.tab sc1 x14))⟩], 7, []⟩)].map fun (b, x) => (b, (x.1, frameOf 149 [1, 2, 3, 4, 12, 14, 15, 16, 51, 52, 53] x.2.1, x.2.2)))
noncomputable def u20l2 (x0 x1 x2 : Nat) (x3 : Int) (x4 : Nat) (x5 x6 x7 x8 : Int) (x9 x10 x11 x12 x13 x14 : List (List Int)) (p : Nat × Nat) : Option (Fin' × List Value × St) := alts ([((Nat.beq (p.1) 0), .exit 4, [.float .f32 x0, .float .f32 x1, wsl 0, .pointer (some ⟨1, 0, some 0⟩), wsl 2, .float .f32 x2, .int .i64 x3, .float .f32 (p.2), wsl 0, .int .i64 x5, .int .i64 x6], ⟨[⟨true, (some (.tab [.fl .f32] x9))⟩, ⟨true, (some (.cells [wsl 4, wsl 5, wsl 3, wsl 6]))⟩, ⟨true, (some (.tab [.fl .f32] x10))⟩, ⟨true, (some (.tab sc0 x11))⟩, ⟨true, (some (.tab [.fl .f32] x12))⟩, ⟨true, (some (.tab [.fl .f32] x13))⟩, ⟨true, (some (.tab sc1 x14))⟩], 7, []⟩)].map fun (b, x) => (b, (x.1, frameOf 149 [1, 2, 3, 4, 12, 14, 15, 16, 51, 52, 53] x.2.1, x.2.2))) some
theorem v20l2 (x0 x1 x2 : Nat) (x3 : Int) (x4 : Nat) (x5 x6 x7 x8 : Int) (x9 x10 x11 x12 x13 x14 : List (List Int)) (p : Nat × Nat) : u20l2 x0 x1 x2 x3 x4 x5 x6 x7 x8 x9 x10 x11 x12 x13 x14 p = a20l2 x0 x1 x2 x3 x4 x5 x6 x7 x8 x9 x10 x11 x12 x13 x14 p := alts_first _
noncomputable def q20l2 (m : Nat) : SumK := fun vals s =>
 match vals, s.h with
 | [.float .f32 x0, .float .f32 x1, .iface f0 .nilIface, .pointer (some ⟨f1, f2, some f3⟩), .iface f4 .nilIface, .float .f32 x2, .int .i64 x3, .float .f32 x4, .iface f5 .nilIface, .int .i64 x5, .int .i64 x6, .iface f6 .nilIface, .int .i64 x7, .int .i64 x8], [⟨true, some (.tab [.fl .f32] x9)⟩, ⟨true, some (.cells [.iface f7 .nilIface, .iface f8 .nilIface, .iface f9 .nilIface, .iface f10 .nilIface])⟩, ⟨true, some (.tab [.fl .f32] x10)⟩, ⟨true, some (.tab [.int .i64, .int .i64, .fl .f32, .fl .f32, .fl .f32, .fl .f32, .fl .f32, .fl .f32] x11)⟩, ⟨true, some (.tab [.fl .f32] x12)⟩, ⟨true, some (.tab [.fl .f32] x13)⟩, ⟨true, some (.tab [.int .i64, .int .i64, .fl .f32, .fl .f32] x14)⟩] => if f0 = 0 ∧ f1 = 1 ∧ f2 = 0 ∧ f3 = 0 ∧ f4 = 2 ∧ f5 = 0 ∧ f6 = 3 ∧ f7 = 4 ∧ f8 = 5 ∧ f9 = 3 ∧ f10 = 6 then [((Nat.beq ((r20l2 m x0 x1 x2 x3 x4 x5 x6 x7 x8 x9 x10 x11 x12 x13 x14).1) 0), .exit 4, [.float .f32 x0, .float .f32 x1, wsl 0, .pointer (some ⟨1, 0, some 0⟩), wsl 2, .float .f32 x2, .int .i64 x3, .float .f32 ((r20l2 m x0 x1 x2 x3 x4 x5 x6 x7 x8 x9 x10 x11 x12 x13 x14).2), wsl 0, .int .i64 x5, .int .i64 x6], ⟨[⟨true, (some (.tab [.fl .f32] x9))⟩, ⟨true, (some (.cells [wsl 4, wsl 5, wsl 3, wsl 6]))⟩, ⟨true, (some (.tab [.fl .f32] x10))⟩, ⟨true, (some (.tab sc0 x11))⟩, ⟨true, (some (.tab [.fl .f32] x12))⟩, ⟨true, (some (.tab [.fl .f32] x13))⟩, ⟨true, (some (.tab sc1 x14))⟩], 7, []⟩)] else noQ vals s
 | _, _ => noQ vals s
noncomputable def w20l2 (ih : Nat → Nat → Nat → Int → Nat → Int → Int → Int → Int → List (List Int) → List (List Int) → List (List Int) → List (List Int) → List (List Int) → List (List Int) → (Nat × Nat)) (x0 x1 x2 : Nat) (x3 : Int) (x4 : Nat) (x5 x6 x7 x8 : Int) (x9 x10 x11 x12 x13 x14 : List (List Int)) : Option (Fin' × List Value × St) :=
 let c132 := (r69 (IntKind.i64.wrap ((IntKind.i64.wrap (((x11.getD (Int.toNat x8) []).getD 0 0) + ((x11.getD (Int.toNat x8) []).getD 1 0))) - x3)) x0 x9)
 (cond (decide ((x8 : Int) < x7))
 (cond ((decide ((0 : Int) ≤ x8)) && (Nat.blt (Int.toNat x8) x11.length))
  (cond (Nat.blt (Int.toNat x8) x11.length)
   (cond ((((x11.getD (Int.toNat x8) []).getD 0 0) : Int) == x3)
    (cond (Nat.beq (c132.1) 0)
     (u20l2 x0 x1 x2 x3 x4 x5 x6 x7 x8 x9 x10 x11 x12 x13 x14 (ih x0 x1 x2 x3 (fadd .f32 x4 (fmul .f32 (fmul .f32 1048576000 (Int.toNat ((x11.getD (Int.toNat x8) []).getD 2 0))) (fsub .f32 x2 (c132.2)))) x5 x6 x7 (IntKind.i64.wrap (x8 + 1)) x9 x10 x11 x12 x13 x14))
     none)
    (cond ((((x11.getD (Int.toNat x8) []).getD 1 0) : Int) == x3)
     (cond (Nat.beq (c132.1) 0)
      (u20l2 x0 x1 x2 x3 x4 x5 x6 x7 x8 x9 x10 x11 x12 x13 x14 (ih x0 x1 x2 x3 (fadd .f32 x4 (fmul .f32 (fmul .f32 1048576000 (Int.toNat ((x11.getD (Int.toNat x8) []).getD 2 0))) (fsub .f32 x2 (c132.2)))) x5 x6 x7 (IntKind.i64.wrap (x8 + 1)) x9 x10 x11 x12 x13 x14))
      none)
     (u20l2 x0 x1 x2 x3 x4 x5 x6 x7 x8 x9 x10 x11 x12 x13 x14 (ih x0 x1 x2 x3 x4 x5 x6 x7 (IntKind.i64.wrap (x8 + 1)) x9 x10 x11 x12 x13 x14))))
   none)
  none)
 (a20l2 x0 x1 x2 x3 x4 x5 x6 x7 x8 x9 x10 x11 x12 x13 x14 (0, x4)))
set_option maxRecDepth 100000 in
set_option maxHeartbeats 4000000 in
theorem e20l2 (m : Nat) (x0 x1 x2 : Nat) (x3 : Int) (x4 : Nat) (x5 x6 x7 x8 : Int) (x9 x10 x11 x12 x13 x14 : List (List Int)) : evC Try.prog ext T37 L20_1 200 (loopN Try.f20 2) (loopTail ([1, 2, 3, 4, 12, 14, 15, 16, 51, 52, 53, 60, 61, 62], []) [1, 2, 3, 4, 12, 14, 15, 16, 51, 52, 53] [] (sumK 149 [1, 2, 3, 4, 12, 14, 15, 16, 51, 52, 53, 60, 61, 62] [1, 2, 3, 4, 12, 14, 15, 16, 51, 52, 53] (q20l2 m))) (frameOf 149 [1, 2, 3, 4, 12, 14, 15, 16, 51, 52, 53, 60, 61, 62] [.float .f32 x0, .float .f32 x1, wsl 0, .pointer (some ⟨1, 0, some 0⟩), wsl 2, .float .f32 x2, .int .i64 x3, .float .f32 x4, wsl 0, .int .i64 x5, .int .i64 x6, wsl 3, .int .i64 x7, .int .i64 x8]) ⟨[⟨true, (some (.tab [.fl .f32] x9))⟩, ⟨true, (some (.cells [wsl 4, wsl 5, wsl 3, wsl 6]))⟩, ⟨true, (some (.tab [.fl .f32] x10))⟩, ⟨true, (some (.tab sc0 x11))⟩, ⟨true, (some (.tab [.fl .f32] x12))⟩, ⟨true, (some (.tab [.fl .f32] x13))⟩, ⟨true, (some (.tab sc1 x14))⟩], 7, []⟩ = firstT ([((Nat.beq ((r20l2 (m + 1) x0 x1 x2 x3 x4 x5 x6 x7 x8 x9 x10 x11 x12 x13 x14).1) 0), .exit 4, [.float .f32 x0, .float .f32 x1, wsl 0, .pointer (some ⟨1, 0, some 0⟩), wsl 2, .float .f32 x2, .int .i64 x3, .float .f32 ((r20l2 (m + 1) x0 x1 x2 x3 x4 x5 x6 x7 x8 x9 x10 x11 x12 x13 x14).2), wsl 0, .int .i64 x5, .int .i64 x6], ⟨[⟨true, (some (.tab [.fl .f32] x9))⟩, ⟨true, (some (.cells [wsl 4, wsl 5, wsl 3, wsl 6]))⟩, ⟨true, (some (.tab [.fl .f32] x10))⟩, ⟨true, (some (.tab sc0 x11))⟩, ⟨true, (some (.tab [.fl .f32] x12))⟩, ⟨true, (some (.tab [.fl .f32] x13))⟩, ⟨true, (some (.tab sc1 x14))⟩], 7, []⟩)].map fun (b, x) => (b, (x.1, frameOf 149 [1, 2, 3, 4, 12, 14, 15, 16, 51, 52, 53] x.2.1, x.2.2))) :=
 (show evC Try.prog ext T37 L20_1 200 (loopN Try.f20 2) (loopTail ([1, 2, 3, 4, 12, 14, 15, 16, 51, 52, 53, 60, 61, 62], []) [1, 2, 3, 4, 12, 14, 15, 16, 51, 52, 53] [] (sumK 149 [1, 2, 3, 4, 12, 14, 15, 16, 51, 52, 53, 60, 61, 62] [1, 2, 3, 4, 12, 14, 15, 16, 51, 52, 53] (q20l2 m))) (frameOf 149 [1, 2, 3, 4, 12, 14, 15, 16, 51, 52, 53, 60, 61, 62] [.float .f32 x0, .float .f32 x1, wsl 0, .pointer (some ⟨1, 0, some 0⟩), wsl 2, .float .f32 x2, .int .i64 x3, .float .f32 x4, wsl 0, .int .i64 x5, .int .i64 x6, wsl 3, .int .i64 x7, .int .i64 x8]) ⟨[⟨true, (some (.tab [.fl .f32] x9))⟩, ⟨true, (some (.cells [wsl 4, wsl 5, wsl 3, wsl 6]))⟩, ⟨true, (some (.tab [.fl .f32] x10))⟩, ⟨true, (some (.tab sc0 x11))⟩, ⟨true, (some (.tab [.fl .f32] x12))⟩, ⟨true, (some (.tab [.fl .f32] x13))⟩, ⟨true, (some (.tab sc1 x14))⟩], 7, []⟩ = w20l2 (r20l2 m) x0 x1 x2 x3 x4 x5 x6 x7 x8 x9 x10 x11 x12 x13 x14 from by kernel_rfl).trans
 (show w20l2 (r20l2 m) x0 x1 x2 x3 x4 x5 x6 x7 x8 x9 x10 x11 x12 x13 x14 = a20l2 x0 x1 x2 x3 x4 x5 x6 x7 x8 x9 x10 x11 x12 x13 x14 (r20l2 (m + 1) x0 x1 x2 x3 x4 x5 x6 x7 x8 x9 x10 x11 x12 x13 x14) from by unfold w20l2; show _ = a20l2 x0 x1 x2 x3 x4 x5 x6 x7 x8 x9 x10 x11 x12 x13 x14 (b20l2 (r20l2 m) x0 x1 x2 x3 x4 x5 x6 x7 x8 x9 x10 x11 x12 x13 x14); unfold b20l2; exact (cond_both (a20l2 x0 x1 x2 x3 x4 x5 x6 x7 x8 x9 x10 x11 x12 x13 x14) _ (fun h0 => (cond_both (a20l2 x0 x1 x2 x3 x4 x5 x6 x7 x8 x9 x10 x11 x12 x13 x14) _ (fun h1 => (cond_t (ev_and2 h1) (cond_app (a20l2 x0 x1 x2 x3 x4 x5 x6 x7 x8 x9 x10 x11 x12 x13 x14) _ (cond_app (a20l2 x0 x1 x2 x3 x4 x5 x6 x7 x8 x9 x10 x11 x12 x13 x14) _ (v20l2 x0 x1 x2 x3 x4 x5 x6 x7 x8 x9 x10 x11 x12 x13 x14 ((r20l2 m) x0 x1 x2 x3 (fadd .f32 x4 (fmul .f32 (fmul .f32 1048576000 (Int.toNat ((x11.getD (Int.toNat x8) []).getD 2 0))) (fsub .f32 x2 ((r69 (IntKind.i64.wrap ((IntKind.i64.wrap (((x11.getD (Int.toNat x8) []).getD 0 0) + ((x11.getD (Int.toNat x8) []).getD 1 0))) - x3)) x0 x9).2)))) x5 x6 x7 (IntKind.i64.wrap (x8 + 1)) x9 x10 x11 x12 x13 x14)) rfl) (cond_app (a20l2 x0 x1 x2 x3 x4 x5 x6 x7 x8 x9 x10 x11 x12 x13 x14) _ (cond_app (a20l2 x0 x1 x2 x3 x4 x5 x6 x7 x8 x9 x10 x11 x12 x13 x14) _ (v20l2 x0 x1 x2 x3 x4 x5 x6 x7 x8 x9 x10 x11 x12 x13 x14 ((r20l2 m) x0 x1 x2 x3 (fadd .f32 x4 (fmul .f32 (fmul .f32 1048576000 (Int.toNat ((x11.getD (Int.toNat x8) []).getD 2 0))) (fsub .f32 x2 ((r69 (IntKind.i64.wrap ((IntKind.i64.wrap (((x11.getD (Int.toNat x8) []).getD 0 0) + ((x11.getD (Int.toNat x8) []).getD 1 0))) - x3)) x0 x9).2)))) x5 x6 x7 (IntKind.i64.wrap (x8 + 1)) x9 x10 x11 x12 x13 x14)) rfl) (v20l2 x0 x1 x2 x3 x4 x5 x6 x7 x8 x9 x10 x11 x12 x13 x14 ((r20l2 m) x0 x1 x2 x3 x4 x5 x6 x7 (IntKind.i64.wrap (x8 + 1)) x9 x10 x11 x12 x13 x14)))))) (fun h1 => rfl))) (fun h0 => rfl)))
set_option maxRecDepth 100000 in
set_option maxHeartbeats 4000000 in
theorem qm20l2 : ∀ m, SumKOk Try.prog (loopN Try.f20 2) 149 [1, 2, 3, 4, 12, 14, 15, 16, 51, 52, 53, 60, 61, 62] [1, 2, 3, 4, 12, 14, 15, 16, 51, 52, 53] (q20l2 m) := by
  intro m
  induction m with
  | zero =>
    intro vals s x h1 h2 h3
    unfold q20l2 at h3; split at h3
    · rename_i h; split at h3
      · rename_i hc; obtain ⟨rfl, rfl, rfl, rfl, rfl, rfl, rfl, rfl, rfl, rfl, rfl⟩ := hc; exact absurd h3 (by simp [r20l2, firstT, Nat.beq])
      · exact noQ_ok _ _ _ h1 h2 h3
    · exact noQ_ok _ _ _ h1 h2 h3
  | succ m ih =>
    intro vals s x h1 h2 h3
    unfold q20l2 at h3; split at h3
    · rename_i h; split at h3
      · rename_i hc; obtain ⟨rfl, rfl, rfl, rfl, rfl, rfl, rfl, rfl, rfl, rfl, rfl⟩ := hc; exact sum_step ok37 extOk mixed (lok20_1.inner (by kernel_rfl)) ih h1 h2 h (e20l2 m _ _ _ _ _ _ _ _ _ _ _ _ _ _ _) rfl h3
      · exact noQ_ok _ _ _ h1 h2 h3
    · exact noQ_ok _ _ _ h1 h2 h3
noncomputable def Q20l2 : SumK := fun vals s => q20l2 (fuelOf vals s.h) vals s
theorem qok20l2 : SumKOk Try.prog (loopN Try.f20 2) 149 [1, 2, 3, 4, 12, 14, 15, 16, 51, 52, 53, 60, 61, 62] [1, 2, 3, 4, 12, 14, 15, 16, 51, 52, 53] Q20l2 := fuel_ok qm20l2 fuelOf
noncomputable def L20_2 : LoopT := addL L20_1 18 ([1, 2, 3, 4, 12, 14, 15, 16, 51, 52, 53, 60, 61, 62], []) (sumK 149 [1, 2, 3, 4, 12, 14, 15, 16, 51, 52, 53, 60, 61, 62] [1, 2, 3, 4, 12, 14, 15, 16, 51, 52, 53] Q20l2)
theorem lok20_2 : LfOkF Try.prog L20_2 Try.f20 := lfOkF_add lok20_1 qok20l2 (by kernel_rfl) (by kernel_rfl) (by kernel_rfl)

/-- impl.GainsFor, loop 3: one round -/
noncomputable def b20l3 (ih : Nat → Nat → Nat → Int → Nat → Int → Int → Int → Int → List (List Int) → List (List Int) → List (List Int) → List (List Int) → List (List Int) → List (List Int) → (Nat × Nat)) (x0 x1 x2 : Nat) (x3 : Int) (x4 : Nat) (x5 x6 x7 x8 : Int) (x9 x10 x11 x12 x13 x14 : List (List Int)) : Nat × Nat :=
 let c132 := (r69 (IntKind.i64.wrap ((IntKind.i64.wrap (((x11.getD (Int.toNat x8) []).getD 0 0) + ((x11.getD (Int.toNat x8) []).getD 1 0))) - x3)) x0 x9)
 cond (decide ((x8 : Int) < x7))
  (cond ((decide ((0 : Int) ≤ x8)) && (Nat.blt (Int.toNat x8) x11.length))
   (cond ((((x11.getD (Int.toNat x8) []).getD 0 0) : Int) == x3)
    (cond (Nat.beq (c132.1) 0)
     (ih x0 x1 x2 x3 (fsub .f32 (fadd .f32 x4 (fmul .f32 (Int.toNat ((x11.getD (Int.toNat x8) []).getD 2 0)) (fsub .f32 x2 (c132.2)))) (fmul .f32 (Int.toNat ((x11.getD (Int.toNat x8) []).getD 3 0)) x1)) x5 x6 x7 (IntKind.i64.wrap (x8 + 1)) x9 x10 x11 x12 x13 x14)
     (1, 0))
    (cond ((((x11.getD (Int.toNat x8) []).getD 1 0) : Int) == x3)
     (cond (Nat.beq (c132.1) 0)
      (ih x0 x1 x2 x3 (fadd .f32 x4 (fmul .f32 (Int.toNat ((x11.getD (Int.toNat x8) []).getD 2 0)) (fsub .f32 x2 (c132.2)))) x5 x6 x7 (IntKind.i64.wrap (x8 + 1)) x9 x10 x11 x12 x13 x14)
      (1, 0))
     (ih x0 x1 x2 x3 x4 x5 x6 x7 (IntKind.i64.wrap (x8 + 1)) x9 x10 x11 x12 x13 x14)))
   (1, 0))
  (0, x4)
noncomputable def r20l3 : Nat → Nat → Nat → Nat → Int → Nat → Int → Int → Int → Int → List (List Int) → List (List Int) → List (List Int) → List (List Int) → List (List Int) → List (List Int) → (Nat × Nat)
 | 0 => fun _ _ _ _ _ _ _ _ _ _ _ _ _ _ _ => (1, 0)
 | m + 1 => b20l3 (r20l3 m)
noncomputable def a20l3 (x0 x1 x2 : Nat) (x3 : Int) (x4 : Nat) (x5 x6 x7 x8 : Int) (x9 x10 x11 x12 x13 x14 : List (List Int)) (p : Nat × Nat) : Option (Fin' × List Value × St) := firstT ([((Nat.beq (p.1) 0), .exit 6, [.float .f32 x0, .float .f32 x1, wsl 0, .pointer (some ⟨1, 0, some 0⟩), wsl 2, .float .f32 (p.2), wsl 0, .int .i64 x5, .int .i64 x6], ⟨[⟨true, (some (.tab [.fl .f32] x9))⟩, ⟨true, (some (.cells [wsl 4, wsl 5, wsl 6, wsl 3]))⟩, ⟨true, (some (.tab [.fl .f32] x10))⟩, ⟨true, (some (.tab sc1 x11))⟩, ⟨true, (some (.tab [.fl .f32] x12))⟩, ⟨true, (some (.tab [.fl .f32] x13))⟩, ⟨true, (some (.tab sc0 x14))⟩], 7, []⟩)].map fun (b, x) => (b, (x.1, frameOf 149 [1, 2, 3, 4, 12, 16, 51, 52, 53] x.2.1, x.2.2)))
noncomputable def u20l3 (x0 x1 x2 : Nat) (x3 : Int) (x4 : Nat) (x5 x6 x7 x8 : Int) (x9 x10 x11 x12 x13 x14 : List (List Int)) (p : Nat × Nat) : Option (Fin' × List Value × St) := alts ([((Nat.beq (p.1) 0), .exit 6, [.float .f32 x0, .float .f32 x1, wsl 0, .pointer (some ⟨1, 0, some 0⟩), wsl 2, .float .f32 (p.2), wsl 0, .int .i64 x5, .int .i64 x6], ⟨[⟨true, (some (.tab [.fl .f32] x9))⟩, ⟨true, (some (.cells [wsl 4, wsl 5, wsl 6, wsl 3]))⟩, ⟨true, (some (.tab [.fl .f32] x10))⟩, ⟨true, (some (.tab sc1 x11))⟩, ⟨true, (some (.tab [.fl .f32] x12))⟩, ⟨true, (some (.tab [.fl .f32] x13))⟩, ⟨true, (some (.tab sc0 x14))⟩], 7, []⟩)].map fun (b, x) => (b, (x.1, frameOf 149 [1, 2, 3, 4, 12, 16, 51, 52, 53] x.2.1, x.2.2))) some
theorem v20l3 (x0 x1 x2 : Nat) (x3 : Int) (x4 : Nat) (x5 x6 x7 x8 : Int) (x9 x10 x11 x12 x13 x14 : List (List Int)) (p : Nat × Nat) : u20l3 x0 x1 x2 x3 x4 x5 x6 x7 x8 x9 x10 x11 x12 x13 x14 p = a20l3 x0 x1 x2 x3 x4 x5 x6 x7 x8 x9 x10 x11 x12 x13 x14 p := alts_first _
noncomputable def q20l3 (m : Nat) : SumK := fun vals s =>
 match vals, s.h with
 | [.float .f32 x0, .float .f32 x1, .iface f0 .nilIface, .pointer (some ⟨f1, f2, some f3⟩), .iface f4 .nilIface, .float .f32 x2, .int .i64 x3, .float .f32 x4, .iface f5 .nilIface, .int .i64 x5, .int .i64 x6, .iface f6 .nilIface, .int .i64 x7, .int .i64 x8], [⟨true, some (.tab [.fl .f32] x9)⟩, ⟨true, some (.cells [.iface f7 .nilIface, .iface f8 .nilIface, .iface f9 .nilIface, .iface f10 .nilIface])⟩, ⟨true, some (.tab [.fl .f32] x10)⟩, ⟨true, some (.tab [.int .i64, .int .i64, .fl .f32, .fl .f32] x11)⟩, ⟨true, some (.tab [.fl .f32] x12)⟩, ⟨true, some (.tab [.fl .f32] x13)⟩, ⟨true, some (.tab [.int .i64, .int .i64, .fl .f32, .fl .f32, .fl .f32, .fl .f32, .fl .f32, .fl .f32] x14)⟩] => if f0 = 0 ∧ f1 = 1 ∧ f2 = 0 ∧ f3 = 0 ∧ f4 = 2 ∧ f5 = 0 ∧ f6 = 3 ∧ f7 = 4 ∧ f8 = 5 ∧ f9 = 6 ∧ f10 = 3 then [((Nat.beq ((r20l3 m x0 x1 x2 x3 x4 x5 x6 x7 x8 x9 x10 x11 x12 x13 x14).1) 0), .exit 6, [.float .f32 x0, .float .f32 x1, wsl 0, .pointer (some ⟨1, 0, some 0⟩), wsl 2, .float .f32 ((r20l3 m x0 x1 x2 x3 x4 x5 x6 x7 x8 x9 x10 x11 x12 x13 x14).2), wsl 0, .int .i64 x5, .int .i64 x6], ⟨[⟨true, (some (.tab [.fl .f32] x9))⟩, ⟨true, (some (.cells [wsl 4, wsl 5, wsl 6, wsl 3]))⟩, ⟨true, (some (.tab [.fl .f32] x10))⟩, ⟨true, (some (.tab sc1 x11))⟩, ⟨true, (some (.tab [.fl .f32] x12))⟩, ⟨true, (some (.tab [.fl .f32] x13))⟩, ⟨true, (some (.tab sc0 x14))⟩], 7, []⟩)] else noQ vals s
 | _, _ => noQ vals s
noncomputable def w20l3 (ih : Nat → Nat → Nat → Int → Nat → Int → Int → Int → Int → List (List Int) → List (List Int) → List (List Int) → List (List Int) → List (List Int) → List (List Int) → (Nat × Nat)) (x0 x1 x2 : Nat) (x3 : Int) (x4 : Nat) (x5 x6 x7 x8 : Int) (x9 x10 x11 x12 x13 x14 : List (List Int)) : Option (Fin' × List Value × St) :=
 let c132 := (r69 (IntKind.i64.wrap ((IntKind.i64.wrap (((x11.getD (Int.toNat x8) []).getD 0 0) + ((x11.getD (Int.toNat x8) []).getD 1 0))) - x3)) x0 x9)
 (cond (decide ((x8 : Int) < x7))
 (cond ((decide ((0 : Int) ≤ x8)) && (Nat.blt (Int.toNat x8) x11.length))
  (cond (Nat.blt (Int.toNat x8) x11.length)
   (cond ((((x11.getD (Int.toNat x8) []).getD 0 0) : Int) == x3)
    (cond (Nat.beq (c132.1) 0)
     (cond ((((x11.getD (Int.toNat x8) []).getD 0 0) : Int) == x3)
      (u20l3 x0 x1 x2 x3 x4 x5 x6 x7 x8 x9 x10 x11 x12 x13 x14 (ih x0 x1 x2 x3 (fsub .f32 (fadd .f32 x4 (fmul .f32 (Int.toNat ((x11.getD (Int.toNat x8) []).getD 2 0)) (fsub .f32 x2 (c132.2)))) (fmul .f32 (Int.toNat ((x11.getD (Int.toNat x8) []).getD 3 0)) x1)) x5 x6 x7 (IntKind.i64.wrap (x8 + 1)) x9 x10 x11 x12 x13 x14))
      (cond (Nat.beq ((ih x0 x1 x2 x3 (fadd .f32 x4 (fmul .f32 (Int.toNat ((x11.getD (Int.toNat x8) []).getD 2 0)) (fsub .f32 x2 (c132.2)))) x5 x6 x7 (IntKind.i64.wrap (x8 + 1)) x9 x10 x11 x12 x13 x14).1) 0)
       (some (.exit 6, frameOf 149 [1, 2, 3, 4, 12, 16, 51, 52, 53] [.float .f32 x0, .float .f32 x1, wsl 0, .pointer (some ⟨1, 0, some 0⟩), wsl 2, .float .f32 ((ih x0 x1 x2 x3 (fadd .f32 x4 (fmul .f32 (Int.toNat ((x11.getD (Int.toNat x8) []).getD 2 0)) (fsub .f32 x2 (c132.2)))) x5 x6 x7 (IntKind.i64.wrap (x8 + 1)) x9 x10 x11 x12 x13 x14).2), wsl 0, .int .i64 x5, .int .i64 x6], ⟨[⟨true, (some (.tab [.fl .f32] x9))⟩, ⟨true, (some (.cells [wsl 4, wsl 5, wsl 6, wsl 3]))⟩, ⟨true, (some (.tab [.fl .f32] x10))⟩, ⟨true, (some (.tab sc1 x11))⟩, ⟨true, (some (.tab [.fl .f32] x12))⟩, ⟨true, (some (.tab [.fl .f32] x13))⟩, ⟨true, (some (.tab sc0 x14))⟩], 7, []⟩))
       none))
     none)
    (cond ((((x11.getD (Int.toNat x8) []).getD 1 0) : Int) == x3)
     (cond (Nat.beq (c132.1) 0)
      (cond ((((x11.getD (Int.toNat x8) []).getD 0 0) : Int) == x3)
       (cond (Nat.beq ((ih x0 x1 x2 x3 (fsub .f32 (fadd .f32 x4 (fmul .f32 (Int.toNat ((x11.getD (Int.toNat x8) []).getD 2 0)) (fsub .f32 x2 (c132.2)))) (fmul .f32 (Int.toNat ((x11.getD (Int.toNat x8) []).getD 3 0)) x1)) x5 x6 x7 (IntKind.i64.wrap (x8 + 1)) x9 x10 x11 x12 x13 x14).1) 0)
        (some (.exit 6, frameOf 149 [1, 2, 3, 4, 12, 16, 51, 52, 53] [.float .f32 x0, .float .f32 x1, wsl 0, .pointer (some ⟨1, 0, some 0⟩), wsl 2, .float .f32 ((ih x0 x1 x2 x3 (fsub .f32 (fadd .f32 x4 (fmul .f32 (Int.toNat ((x11.getD (Int.toNat x8) []).getD 2 0)) (fsub .f32 x2 (c132.2)))) (fmul .f32 (Int.toNat ((x11.getD (Int.toNat x8) []).getD 3 0)) x1)) x5 x6 x7 (IntKind.i64.wrap (x8 + 1)) x9 x10 x11 x12 x13 x14).2), wsl 0, .int .i64 x5, .int .i64 x6], ⟨[⟨true, (some (.tab [.fl .f32] x9))⟩, ⟨true, (some (.cells [wsl 4, wsl 5, wsl 6, wsl 3]))⟩, ⟨true, (some (.tab [.fl .f32] x10))⟩, ⟨true, (some (.tab sc1 x11))⟩, ⟨true, (some (.tab [.fl .f32] x12))⟩, ⟨true, (some (.tab [.fl .f32] x13))⟩, ⟨true, (some (.tab sc0 x14))⟩], 7, []⟩))
        none)
       (u20l3 x0 x1 x2 x3 x4 x5 x6 x7 x8 x9 x10 x11 x12 x13 x14 (ih x0 x1 x2 x3 (fadd .f32 x4 (fmul .f32 (Int.toNat ((x11.getD (Int.toNat x8) []).getD 2 0)) (fsub .f32 x2 (c132.2)))) x5 x6 x7 (IntKind.i64.wrap (x8 + 1)) x9 x10 x11 x12 x13 x14)))
      none)
     (cond ((((x11.getD (Int.toNat x8) []).getD 0 0) : Int) == x3)
      (cond (Nat.beq ((ih x0 x1 x2 x3 (fsub .f32 x4 (fmul .f32 (Int.toNat ((x11.getD (Int.toNat x8) []).getD 3 0)) x1)) x5 x6 x7 (IntKind.i64.wrap (x8 + 1)) x9 x10 x11 x12 x13 x14).1) 0)
       (some (.exit 6, frameOf 149 [1, 2, 3, 4, 12, 16, 51, 52, 53] [.float .f32 x0, .float .f32 x1, wsl 0, .pointer (some ⟨1, 0, some 0⟩), wsl 2, .float .f32 ((ih x0 x1 x2 x3 (fsub .f32 x4 (fmul .f32 (Int.toNat ((x11.getD (Int.toNat x8) []).getD 3 0)) x1)) x5 x6 x7 (IntKind.i64.wrap (x8 + 1)) x9 x10 x11 x12 x13 x14).2), wsl 0, .int .i64 x5, .int .i64 x6], ⟨[⟨true, (some (.tab [.fl .f32] x9))⟩, ⟨true, (some (.cells [wsl 4, wsl 5, wsl 6, wsl 3]))⟩, ⟨true, (some (.tab [.fl .f32] x10))⟩, ⟨true, (some (.tab sc1 x11))⟩, ⟨true, (some (.tab [.fl .f32] x12))⟩, ⟨true, (some (.tab [.fl .f32] x13))⟩, ⟨true, (some (.tab sc0 x14))⟩], 7, []⟩))
       none)
      (u20l3 x0 x1 x2 x3 x4 x5 x6 x7 x8 x9 x10 x11 x12 x13 x14 (ih x0 x1 x2 x3 x4 x5 x6 x7 (IntKind.i64.wrap (x8 + 1)) x9 x10 x11 x12 x13 x14)))))
   none)
  none)
 (a20l3 x0 x1 x2 x3 x4 x5 x6 x7 x8 x9 x10 x11 x12 x13 x14 (0, x4)))
set_option maxRecDepth 100000 in
set_option maxHeartbeats 4000000 in
theorem e20l3 (m : Nat) (x0 x1 x2 : Nat) (x3 : Int) (x4 : Nat) (x5 x6 x7 x8 : Int) (x9 x10 x11 x12 x13 x14 : List (List Int)) : evC Try.prog ext T37 L20_2 200 (loopN Try.f20 3) (loopTail ([1, 2, 3, 4, 12, 14, 15, 16, 51, 52, 53, 96, 97, 98], []) [1, 2, 3, 4, 12, 16, 51, 52, 53] [] (sumK 149 [1, 2, 3, 4, 12, 14, 15, 16, 51, 52, 53, 96, 97, 98] [1, 2, 3, 4, 12, 16, 51, 52, 53] (q20l3 m))) (frameOf 149 [1, 2, 3, 4, 12, 14, 15, 16, 51, 52, 53, 96, 97, 98] [.float .f32 x0, .float .f32 x1, wsl 0, .pointer (some ⟨1, 0, some 0⟩), wsl 2, .float .f32 x2, .int .i64 x3, .float .f32 x4, wsl 0, .int .i64 x5, .int .i64 x6, wsl 3, .int .i64 x7, .int .i64 x8]) ⟨[⟨true, (some (.tab [.fl .f32] x9))⟩, ⟨true, (some (.cells [wsl 4, wsl 5, wsl 6, wsl 3]))⟩, ⟨true, (some (.tab [.fl .f32] x10))⟩, ⟨true, (some (.tab sc1 x11))⟩, ⟨true, (some (.tab [.fl .f32] x12))⟩, ⟨true, (some (.tab [.fl .f32] x13))⟩, ⟨true, (some (.tab sc0 x14))⟩], 7, []⟩ = firstT ([((Nat.beq ((r20l3 (m + 1) x0 x1 x2 x3 x4 x5 x6 x7 x8 x9 x10 x11 x12 x13 x14).1) 0), .exit 6, [.float .f32 x0, .float .f32 x1, wsl 0, .pointer (some ⟨1, 0, some 0⟩), wsl 2, .float .f32 ((r20l3 (m + 1) x0 x1 x2 x3 x4 x5 x6 x7 x8 x9 x10 x11 x12 x13 x14).2), wsl 0, .int .i64 x5, .int .i64 x6], ⟨[⟨true, (some (.tab [.fl .f32] x9))⟩, ⟨true, (some (.cells [wsl 4, wsl 5, wsl 6, wsl 3]))⟩, ⟨true, (some (.tab [.fl .f32] x10))⟩, ⟨true, (some (.tab sc1 x11))⟩, ⟨true, (some (.tab [.fl .f32] x12))⟩, ⟨true, (some (.tab [.fl .f32] x13))⟩, ⟨true, (some (.tab sc0 x14))⟩], 7, []⟩)].map fun (b, x) => (b, (x.1, frameOf 149 [1, 2, 3, 4, 12, 16, 51, 52, 53] x.2.1, x.2.2))) :=
 (show evC Try.prog ext T37 L20_2 200 (loopN Try.f20 3) (loopTail ([1, 2, 3, 4, 12, 14, 15, 16, 51, 52, 53, 96, 97, 98], []) [1, 2, 3, 4, 12, 16, 51, 52, 53] [] (sumK 149 [1, 2, 3, 4, 12, 14, 15, 16, 51, 52, 53, 96, 97, 98] [1, 2, 3, 4, 12, 16, 51, 52, 53] (q20l3 m))) (frameOf 149 [1, 2, 3, 4, 12, 14, 15, 16, 51, 52, 53, 96, 97, 98] [.float .f32 x0, .float .f32 x1, wsl 0, .pointer (some ⟨1, 0, some 0⟩), wsl 2, .float .f32 x2, .int .i64 x3, .float .f32 x4, wsl 0, .int .i64 x5, .int .i64 x6, wsl 3, .int .i64 x7, .int .i64 x8]) ⟨[⟨true, (some (.tab [.fl .f32] x9))⟩, ⟨true, (some (.cells [wsl 4, wsl 5, wsl 6, wsl 3]))⟩, ⟨true, (some (.tab [.fl .f32] x10))⟩, ⟨true, (some (.tab sc1 x11))⟩, ⟨true, (some (.tab [.fl .f32] x12))⟩, ⟨true, (some (.tab [.fl .f32] x13))⟩, ⟨true, (some (.tab sc0 x14))⟩], 7, []⟩ = w20l3 (r20l3 m) x0 x1 x2 x3 x4 x5 x6 x7 x8 x9 x10 x11 x12 x13 x14 from by kernel_rfl).trans
 (show w20l3 (r20l3 m) x0 x1 x2 x3 x4 x5 x6 x7 x8 x9 x10 x11 x12 x13 x14 = a20l3 x0 x1 x2 x3 x4 x5 x6 x7 x8 x9 x10 x11 x12 x13 x14 (r20l3 (m + 1) x0 x1 x2 x3 x4 x5 x6 x7 x8 x9 x10 x11 x12 x13 x14) from by unfold w20l3; show _ = a20l3 x0 x1 x2 x3 x4 x5 x6 x7 x8 x9 x10 x11 x12 x13 x14 (b20l3 (r20l3 m) x0 x1 x2 x3 x4 x5 x6 x7 x8 x9 x10 x11 x12 x13 x14); unfold b20l3; exact (cond_both (a20l3 x0 x1 x2 x3 x4 x5 x6 x7 x8 x9 x10 x11 x12 x13 x14) _ (fun h0 => (cond_both (a20l3 x0 x1 x2 x3 x4 x5 x6 x7 x8 x9 x10 x11 x12 x13 x14) _ (fun h1 => (cond_t (ev_and2 h1) (cond_both (a20l3 x0 x1 x2 x3 x4 x5 x6 x7 x8 x9 x10 x11 x12 x13 x14) _ (fun h2 => (cond_both (a20l3 x0 x1 x2 x3 x4 x5 x6 x7 x8 x9 x10 x11 x12 x13 x14) _ (fun h3 => (cond_t h2 (v20l3 x0 x1 x2 x3 x4 x5 x6 x7 x8 x9 x10 x11 x12 x13 x14 ((r20l3 m) x0 x1 x2 x3 (fsub .f32 (fadd .f32 x4 (fmul .f32 (Int.toNat ((x11.getD (Int.toNat x8) []).getD 2 0)) (fsub .f32 x2 ((r69 (IntKind.i64.wrap ((IntKind.i64.wrap (((x11.getD (Int.toNat x8) []).getD 0 0) + ((x11.getD (Int.toNat x8) []).getD 1 0))) - x3)) x0 x9).2)))) (fmul .f32 (Int.toNat ((x11.getD (Int.toNat x8) []).getD 3 0)) x1)) x5 x6 x7 (IntKind.i64.wrap (x8 + 1)) x9 x10 x11 x12 x13 x14)))) (fun h3 => rfl))) (fun h2 => (cond_both (a20l3 x0 x1 x2 x3 x4 x5 x6 x7 x8 x9 x10 x11 x12 x13 x14) _ (fun h3 => (cond_both (a20l3 x0 x1 x2 x3 x4 x5 x6 x7 x8 x9 x10 x11 x12 x13 x14) _ (fun h4 => (cond_f h2 (v20l3 x0 x1 x2 x3 x4 x5 x6 x7 x8 x9 x10 x11 x12 x13 x14 ((r20l3 m) x0 x1 x2 x3 (fadd .f32 x4 (fmul .f32 (Int.toNat ((x11.getD (Int.toNat x8) []).getD 2 0)) (fsub .f32 x2 ((r69 (IntKind.i64.wrap ((IntKind.i64.wrap (((x11.getD (Int.toNat x8) []).getD 0 0) + ((x11.getD (Int.toNat x8) []).getD 1 0))) - x3)) x0 x9).2)))) x5 x6 x7 (IntKind.i64.wrap (x8 + 1)) x9 x10 x11 x12 x13 x14)))) (fun h4 => rfl))) (fun h3 => (cond_f h2 (v20l3 x0 x1 x2 x3 x4 x5 x6 x7 x8 x9 x10 x11 x12 x13 x14 ((r20l3 m) x0 x1 x2 x3 x4 x5 x6 x7 (IntKind.i64.wrap (x8 + 1)) x9 x10 x11 x12 x13 x14))))))))) (fun h1 => rfl))) (fun h0 => rfl)))
set_option maxRecDepth 100000 in
set_option maxHeartbeats 4000000 in
theorem qm20l3 : ∀ m, SumKOk Try.prog (loopN Try.f20 3) 149 [1, 2, 3, 4, 12, 14, 15, 16, 51, 52, 53, 96, 97, 98] [1, 2, 3, 4, 12, 16, 51, 52, 53] (q20l3 m) := by
  intro m
  induction m with
  | zero =>
    intro vals s x h1 h2 h3
    unfold q20l3 at h3; split at h3
    · rename_i h; split at h3
      · rename_i hc; obtain ⟨rfl, rfl, rfl, rfl, rfl, rfl, rfl, rfl, rfl, rfl, rfl⟩ := hc; exact absurd h3 (by simp [r20l3, firstT, Nat.beq])
      · exact noQ_ok _ _ _ h1 h2 h3
    · exact noQ_ok _ _ _ h1 h2 h3
  | succ m ih =>
    intro vals s x h1 h2 h3
    unfold q20l3 at h3; split at h3
    · rename_i h; split at h3
      · rename_i hc; obtain ⟨rfl, rfl, rfl, rfl, rfl, rfl, rfl, rfl, rfl, rfl, rfl⟩ := hc; exact sum_step ok37 extOk mixed (lok20_2.inner (by kernel_rfl)) ih h1 h2 h (e20l3 m _ _ _ _ _ _ _ _ _ _ _ _ _ _ _) rfl h3
      · exact noQ_ok _ _ _ h1 h2 h3
    · exact noQ_ok _ _ _ h1 h2 h3
noncomputable def Q20l3 : SumK := fun vals s => q20l3 (fuelOf vals s.h) vals s
theorem qok20l3 : SumKOk Try.prog (loopN Try.f20 3) 149 [1, 2, 3, 4, 12, 14, 15, 16, 51, 52, 53, 96, 97, 98] [1, 2, 3, 4, 12, 16, 51, 52, 53] Q20l3 := fuel_ok qm20l3 fuelOf
noncomputable def L20_3 : LoopT := addL L20_2 24 ([1, 2, 3, 4, 12, 14, 15, 16, 51, 52, 53, 96, 97, 98], []) (sumK 149 [1, 2, 3, 4, 12, 14, 15, 16, 51, 52, 53, 96, 97, 98] [1, 2, 3, 4, 12, 16, 51, 52, 53] Q20l3)
theorem lok20_3 : LfOkF Try.prog L20_3 Try.f20 := lfOkF_add lok20_2 qok20l3 (by kernel_rfl) (by kernel_rfl) (by kernel_rfl)

/-- impl.GainsFor, loop 1: one round -/
noncomputable def b20l1 (ih : Nat → Nat → Int → Int → List (List Int) → List (List Int) → List (List Int) → List (List Int) → List (List Int) → List (List Int) → (Nat × List (List Int))) (x0 x1 : Nat) (x2 x3 : Int) (x4 x5 x6 x7 x8 x9 : List (List Int)) : Nat × List (List Int) :=
 let c135 := (r20l2 (1000 + x9.length + x7.length + x6.length + x8.length + x5.length + x4.length) x0 x1 (Int.toNat ((x4.getD (Int.toNat x3) []).getD 0 0)) x3 0 x2 x3 ((x8.length : Nat) : Int) 0 x4 x5 x8 x6 x7 x9)
 let c136 := (r20l3 (1000 + x8.length + x7.length + x6.length + x9.length + x5.length + x4.length) x0 x1 (Int.toNat ((x4.getD (Int.toNat x3) []).getD 0 0)) x3 (c135.2) x2 x3 ((x9.length : Nat) : Int) 0 x4 x5 x9 x6 x7 x8)
 cond (decide ((x3 : Int) < x2))
  (cond ((decide ((0 : Int) ≤ x3)) && (Nat.blt (Int.toNat x3) x4.length))
   (cond (Nat.beq (c135.1) 0)
    (cond (Nat.beq (c136.1) 0)
     (cond (Nat.ble ((x5.length + 1) * 5) 140737488355328)
      (cond (Nat.beq ((ih x0 x1 x2 (IntKind.i64.wrap (x3 + 1)) x4 (((x5.drop 0).take x5.length) ++ ([[(((c136.2) : Nat) : Int)]] : List (List Int))) x6 x7 x8 x9).1) 0)
       (0, ((ih x0 x1 x2 (IntKind.i64.wrap (x3 + 1)) x4 (((x5.drop 0).take x5.length) ++ ([[(((c136.2) : Nat) : Int)]] : List (List Int))) x6 x7 x8 x9).2))
       (cond (Nat.beq ((ih x0 x1 x2 (IntKind.i64.wrap (x3 + 1)) x4 (((x5.drop 0).take x5.length) ++ ([[(((c136.2) : Nat) : Int)]] : List (List Int))) x6 x7 x8 x9).1) 1)
        (0, (((x5.drop 0).take x5.length) ++ ([[(((c136.2) : Nat) : Int)]] : List (List Int))))
        (2, [])))
      (2, []))
     (2, []))
    (2, []))
   (2, []))
  (1, [])
noncomputable def r20l1 : Nat → Nat → Nat → Int → Int → List (List Int) → List (List Int) → List (List Int) → List (List Int) → List (List Int) → List (List Int) → (Nat × List (List Int))
 | 0 => fun _ _ _ _ _ _ _ _ _ _ => (2, [])
 | m + 1 => b20l1 (r20l1 m)
noncomputable def a20l1 (x0 x1 : Nat) (x2 x3 : Int) (x4 x5 x6 x7 x8 x9 : List (List Int)) (p : Nat × List (List Int)) : Option (Fin' × List Value × St) := firstT ([((Nat.beq (p.1) 0), .exit 2, [wsl 7], ⟨[⟨true, (some (.tab [.fl .f32] x4))⟩, ⟨true, (some (.cells [wsl 3, wsl 4, wsl 5, wsl 6]))⟩, ⟨true, none⟩, ⟨true, (some (.tab [.fl .f32] x6))⟩, ⟨true, (some (.tab [.fl .f32] x7))⟩, ⟨true, (some (.tab sc0 x8))⟩, ⟨true, (some (.tab sc1 x9))⟩, ⟨true, (some (.tab [.fl .f32] (p.2)))⟩], 7, [2]⟩), ((Nat.beq (p.1) 1), .exit 2, [wsl 2], ⟨[⟨true, (some (.tab [.fl .f32] x4))⟩, ⟨true, (some (.cells [wsl 3, wsl 4, wsl 5, wsl 6]))⟩, ⟨true, (some (.tab [.fl .f32] x5))⟩, ⟨true, (some (.tab [.fl .f32] x6))⟩, ⟨true, (some (.tab [.fl .f32] x7))⟩, ⟨true, (some (.tab sc0 x8))⟩, ⟨true, (some (.tab sc1 x9))⟩], 7, [2]⟩)].map fun (b, x) => (b, (x.1, frameOf 149 [12] x.2.1, x.2.2)))
noncomputable def u20l1 (x0 x1 : Nat) (x2 x3 : Int) (x4 x5 x6 x7 x8 x9 : List (List Int)) (p : Nat × List (List Int)) : Option (Fin' × List Value × St) := alts ([((Nat.beq (p.1) 0), .exit 2, [wsl 7], ⟨[⟨true, (some (.tab [.fl .f32] x4))⟩, ⟨true, (some (.cells [wsl 3, wsl 4, wsl 5, wsl 6]))⟩, ⟨true, none⟩, ⟨true, (some (.tab [.fl .f32] x6))⟩, ⟨true, (some (.tab [.fl .f32] x7))⟩, ⟨true, (some (.tab sc0 x8))⟩, ⟨true, (some (.tab sc1 x9))⟩, ⟨true, (some (.tab [.fl .f32] (p.2)))⟩], 7, [2]⟩), ((Nat.beq (p.1) 1), .exit 2, [wsl 2], ⟨[⟨true, (some (.tab [.fl .f32] x4))⟩, ⟨true, (some (.cells [wsl 3, wsl 4, wsl 5, wsl 6]))⟩, ⟨true, (some (.tab [.fl .f32] x5))⟩, ⟨true, (some (.tab [.fl .f32] x6))⟩, ⟨true, (some (.tab [.fl .f32] x7))⟩, ⟨true, (some (.tab sc0 x8))⟩, ⟨true, (some (.tab sc1 x9))⟩], 7, [2]⟩)].map fun (b, x) => (b, (x.1, frameOf 149 [12] x.2.1, x.2.2))) some
theorem v20l1 (x0 x1 : Nat) (x2 x3 : Int) (x4 x5 x6 x7 x8 x9 : List (List Int)) (p : Nat × List (List Int)) : u20l1 x0 x1 x2 x3 x4 x5 x6 x7 x8 x9 p = a20l1 x0 x1 x2 x3 x4 x5 x6 x7 x8 x9 p := alts_first _
noncomputable def q20l1 (m : Nat) : SumK := fun vals s =>
 match vals, s.h with
 | [.float .f32 x0, .float .f32 x1, .iface f0 .nilIface, .pointer (some ⟨f1, f2, some f3⟩), .iface f4 .nilIface, .iface f5 .nilIface, .int .i64 x2, .int .i64 x3], [⟨true, some (.tab [.fl .f32] x4)⟩, ⟨true, some (.cells [.iface f6 .nilIface, .iface f7 .nilIface, .iface f8 .nilIface, .iface f9 .nilIface])⟩, ⟨true, some (.tab [.fl .f32] x5)⟩, ⟨true, some (.tab [.fl .f32] x6)⟩, ⟨true, some (.tab [.fl .f32] x7)⟩, ⟨true, some (.tab [.int .i64, .int .i64, .fl .f32, .fl .f32, .fl .f32, .fl .f32, .fl .f32, .fl .f32] x8)⟩, ⟨true, some (.tab [.int .i64, .int .i64, .fl .f32, .fl .f32] x9)⟩] => if f0 = 0 ∧ f1 = 1 ∧ f2 = 0 ∧ f3 = 0 ∧ f4 = 2 ∧ f5 = 0 ∧ f6 = 3 ∧ f7 = 4 ∧ f8 = 5 ∧ f9 = 6 then [((Nat.beq ((r20l1 m x0 x1 x2 x3 x4 x5 x6 x7 x8 x9).1) 0), .exit 2, [wsl 7], ⟨[⟨true, (some (.tab [.fl .f32] x4))⟩, ⟨true, (some (.cells [wsl 3, wsl 4, wsl 5, wsl 6]))⟩, ⟨true, none⟩, ⟨true, (some (.tab [.fl .f32] x6))⟩, ⟨true, (some (.tab [.fl .f32] x7))⟩, ⟨true, (some (.tab sc0 x8))⟩, ⟨true, (some (.tab sc1 x9))⟩, ⟨true, (some (.tab [.fl .f32] ((r20l1 m x0 x1 x2 x3 x4 x5 x6 x7 x8 x9).2)))⟩], 7, [2]⟩), ((Nat.beq ((r20l1 m x0 x1 x2 x3 x4 x5 x6 x7 x8 x9).1) 1), .exit 2, [wsl 2], ⟨[⟨true, (some (.tab [.fl .f32] x4))⟩, ⟨true, (some (.cells [wsl 3, wsl 4, wsl 5, wsl 6]))⟩, ⟨true, (some (.tab [.fl .f32] x5))⟩, ⟨true, (some (.tab [.fl .f32] x6))⟩, ⟨true, (some (.tab [.fl .f32] x7))⟩, ⟨true, (some (.tab sc0 x8))⟩, ⟨true, (some (.tab sc1 x9))⟩], 7, [2]⟩)] else noQ vals s
 | _, _ => noQ vals s
noncomputable def w20l1 (ih : Nat → Nat → Int → Int → List (List Int) → List (List Int) → List (List Int) → List (List Int) → List (List Int) → List (List Int) → (Nat × List (List Int))) (x0 x1 : Nat) (x2 x3 : Int) (x4 x5 x6 x7 x8 x9 : List (List Int)) : Option (Fin' × List Value × St) :=
 let c135 := (r20l2 (1000 + x9.length + x7.length + x6.length + x8.length + x5.length + x4.length) x0 x1 (Int.toNat ((x4.getD (Int.toNat x3) []).getD 0 0)) x3 0 x2 x3 ((x8.length : Nat) : Int) 0 x4 x5 x8 x6 x7 x9)
 let c136 := (r20l3 (1000 + x8.length + x7.length + x6.length + x9.length + x5.length + x4.length) x0 x1 (Int.toNat ((x4.getD (Int.toNat x3) []).getD 0 0)) x3 (c135.2) x2 x3 ((x9.length : Nat) : Int) 0 x4 x5 x9 x6 x7 x8)
 (cond (decide ((x3 : Int) < x2))
 (cond ((decide ((0 : Int) ≤ x3)) && (Nat.blt (Int.toNat x3) x4.length))
  (cond (Nat.blt (Int.toNat x3) x4.length)
   (cond (Nat.beq (c135.1) 0)
    (cond (Nat.beq (c136.1) 0)
     (cond (Nat.ble ((x5.length + 1) * 5) 140737488355328)
      (cond (Nat.beq ((ih x0 x1 x2 (IntKind.i64.wrap (x3 + 1)) x4 (((x5.drop 0).take x5.length) ++ ([[(((c136.2) : Nat) : Int)]] : List (List Int))) x6 x7 x8 x9).1) 0)
       (a20l1 x0 x1 x2 x3 x4 x5 x6 x7 x8 x9 (0, ((ih x0 x1 x2 (IntKind.i64.wrap (x3 + 1)) x4 (((x5.drop 0).take x5.length) ++ ([[(((c136.2) : Nat) : Int)]] : List (List Int))) x6 x7 x8 x9).2)))
       (cond (Nat.beq ((ih x0 x1 x2 (IntKind.i64.wrap (x3 + 1)) x4 (((x5.drop 0).take x5.length) ++ ([[(((c136.2) : Nat) : Int)]] : List (List Int))) x6 x7 x8 x9).1) 1)
        (a20l1 x0 x1 x2 x3 x4 x5 x6 x7 x8 x9 (0, (((x5.drop 0).take x5.length) ++ ([[(((c136.2) : Nat) : Int)]] : List (List Int)))))
        none))
      none)
     none)
    none)
   none)
  none)
 (a20l1 x0 x1 x2 x3 x4 x5 x6 x7 x8 x9 (1, [])))
set_option maxRecDepth 100000 in
set_option maxHeartbeats 4000000 in
theorem e20l1 (m : Nat) (x0 x1 : Nat) (x2 x3 : Int) (x4 x5 x6 x7 x8 x9 : List (List Int)) : evC Try.prog ext T37 L20_3 200 (loopN Try.f20 1) (loopTail ([1, 2, 3, 4, 12, 51, 52, 53], []) [12] [2] (sumK 149 [1, 2, 3, 4, 12, 51, 52, 53] [12] (q20l1 m))) (frameOf 149 [1, 2, 3, 4, 12, 51, 52, 53] [.float .f32 x0, .float .f32 x1, wsl 0, .pointer (some ⟨1, 0, some 0⟩), wsl 2, wsl 0, .int .i64 x2, .int .i64 x3]) ⟨[⟨true, (some (.tab [.fl .f32] x4))⟩, ⟨true, (some (.cells [wsl 3, wsl 4, wsl 5, wsl 6]))⟩, ⟨true, (some (.tab [.fl .f32] x5))⟩, ⟨true, (some (.tab [.fl .f32] x6))⟩, ⟨true, (some (.tab [.fl .f32] x7))⟩, ⟨true, (some (.tab sc0 x8))⟩, ⟨true, (some (.tab sc1 x9))⟩], 7, []⟩ = firstT ([((Nat.beq ((r20l1 (m + 1) x0 x1 x2 x3 x4 x5 x6 x7 x8 x9).1) 0), .exit 2, [wsl 7], ⟨[⟨true, (some (.tab [.fl .f32] x4))⟩, ⟨true, (some (.cells [wsl 3, wsl 4, wsl 5, wsl 6]))⟩, ⟨true, none⟩, ⟨true, (some (.tab [.fl .f32] x6))⟩, ⟨true, (some (.tab [.fl .f32] x7))⟩, ⟨true, (some (.tab sc0 x8))⟩, ⟨true, (some (.tab sc1 x9))⟩, ⟨true, (some (.tab [.fl .f32] ((r20l1 (m + 1) x0 x1 x2 x3 x4 x5 x6 x7 x8 x9).2)))⟩], 7, [2]⟩), ((Nat.beq ((r20l1 (m + 1) x0 x1 x2 x3 x4 x5 x6 x7 x8 x9).1) 1), .exit 2, [wsl 2], ⟨[⟨true, (some (.tab [.fl .f32] x4))⟩, ⟨true, (some (.cells [wsl 3, wsl 4, wsl 5, wsl 6]))⟩, ⟨true, (some (.tab [.fl .f32] x5))⟩, ⟨true, (some (.tab [.fl .f32] x6))⟩, ⟨true, (some (.tab [.fl .f32] x7))⟩, ⟨true, (some (.tab sc0 x8))⟩, ⟨true, (some (.tab sc1 x9))⟩], 7, [2]⟩)].map fun (b, x) => (b, (x.1, frameOf 149 [12] x.2.1, x.2.2))) :=
 (show evC Try.prog ext T37 L20_3 200 (loopN Try.f20 1) (loopTail ([1, 2, 3, 4, 12, 51, 52, 53], []) [12] [2] (sumK 149 [1, 2, 3, 4, 12, 51, 52, 53] [12] (q20l1 m))) (frameOf 149 [1, 2, 3, 4, 12, 51, 52, 53] [.float .f32 x0, .float .f32 x1, wsl 0, .pointer (some ⟨1, 0, some 0⟩), wsl 2, wsl 0, .int .i64 x2, .int .i64 x3]) ⟨[⟨true, (some (.tab [.fl .f32] x4))⟩, ⟨true, (some (.cells [wsl 3, wsl 4, wsl 5, wsl 6]))⟩, ⟨true, (some (.tab [.fl .f32] x5))⟩, ⟨true, (some (.tab [.fl .f32] x6))⟩, ⟨true, (some (.tab [.fl .f32] x7))⟩, ⟨true, (some (.tab sc0 x8))⟩, ⟨true, (some (.tab sc1 x9))⟩], 7, []⟩ = w20l1 (r20l1 m) x0 x1 x2 x3 x4 x5 x6 x7 x8 x9 from by kernel_rfl).trans
 (show w20l1 (r20l1 m) x0 x1 x2 x3 x4 x5 x6 x7 x8 x9 = a20l1 x0 x1 x2 x3 x4 x5 x6 x7 x8 x9 (r20l1 (m + 1) x0 x1 x2 x3 x4 x5 x6 x7 x8 x9) from by unfold w20l1; show _ = a20l1 x0 x1 x2 x3 x4 x5 x6 x7 x8 x9 (b20l1 (r20l1 m) x0 x1 x2 x3 x4 x5 x6 x7 x8 x9); unfold b20l1; exact (cond_both (a20l1 x0 x1 x2 x3 x4 x5 x6 x7 x8 x9) _ (fun h0 => (cond_both (a20l1 x0 x1 x2 x3 x4 x5 x6 x7 x8 x9) _ (fun h1 => (cond_t (ev_and2 h1) (cond_app (a20l1 x0 x1 x2 x3 x4 x5 x6 x7 x8 x9) _ (cond_app (a20l1 x0 x1 x2 x3 x4 x5 x6 x7 x8 x9) _ (cond_app (a20l1 x0 x1 x2 x3 x4 x5 x6 x7 x8 x9) _ (cond_app (a20l1 x0 x1 x2 x3 x4 x5 x6 x7 x8 x9) _ rfl (cond_app (a20l1 x0 x1 x2 x3 x4 x5 x6 x7 x8 x9) _ rfl rfl)) rfl) rfl) rfl))) (fun h1 => rfl))) (fun h0 => rfl)))
set_option maxRecDepth 100000 in
set_option maxHeartbeats 4000000 in
theorem qm20l1 : ∀ m, SumKOk Try.prog (loopN Try.f20 1) 149 [1, 2, 3, 4, 12, 51, 52, 53] [12] (q20l1 m) := by
  intro m
  induction m with
  | zero =>
    intro vals s x h1 h2 h3
    unfold q20l1 at h3; split at h3
    · rename_i h; split at h3
      · rename_i hc; obtain ⟨rfl, rfl, rfl, rfl, rfl, rfl, rfl, rfl, rfl, rfl⟩ := hc; exact absurd h3 (by simp [r20l1, firstT, Nat.beq])
      · exact noQ_ok _ _ _ h1 h2 h3
    · exact noQ_ok _ _ _ h1 h2 h3
  | succ m ih =>
    intro vals s x h1 h2 h3
    unfold q20l1 at h3; split at h3
    · rename_i h; split at h3
      · rename_i hc; obtain ⟨rfl, rfl, rfl, rfl, rfl, rfl, rfl, rfl, rfl, rfl⟩ := hc; exact sum_step ok37 extOk mixed (lok20_3.inner (by kernel_rfl)) ih h1 h2 h (e20l1 m _ _ _ _ _ _ _ _ _ _) rfl h3
      · exact noQ_ok _ _ _ h1 h2 h3
    · exact noQ_ok _ _ _ h1 h2 h3
noncomputable def Q20l1 : SumK := fun vals s => q20l1 (fuelOf vals s.h) vals s
theorem qok20l1 : SumKOk Try.prog (loopN Try.f20 1) 149 [1, 2, 3, 4, 12, 51, 52, 53] [12] Q20l1 := fuel_ok qm20l1 fuelOf
noncomputable def L20_4 : LoopT := addL L20_3 14 ([1, 2, 3, 4, 12, 51, 52, 53], []) (sumK 149 [1, 2, 3, 4, 12, 51, 52, 53] [12] Q20l1)
theorem lok20_4 : LfOkF Try.prog L20_4 Try.f20 := lfOkF_add lok20_3 qok20l1 (by kernel_rfl) (by kernel_rfl) (by kernel_rfl)

/-- impl.isFinite, loop 0: one round -/
noncomputable def b70l0c (ih : Int → Int → List (List Int) → Nat) (x0 x1 : Int) (x2 : List (List Int)) : Nat :=
 cond (decide ((x1 : Int) < x0))
  (cond ((decide ((0 : Int) ≤ x1)) && (Nat.blt (Int.toNat x1) x2.length))
   (cond (r116 (widen (Int.toNat ((x2.getD (Int.toNat x1) []).getD 0 0))))
    (0)
    (cond (r117 (widen (Int.toNat ((x2.getD (Int.toNat x1) []).getD 0 0))) 0)
     (0)
     (ih x0 (IntKind.i64.wrap (x1 + 1)) x2)))
   (2))
  (1)
noncomputable def r70l0c : Nat → Int → Int → List (List Int) → Nat
 | 0 => fun _ _ _ => (2)
 | m + 1 => b70l0c (r70l0c m)
noncomputable def a70l0c (x0 x1 : Int) (x2 : List (List Int)) (p : Nat) : Option (Fin' × List Value × St) := firstT ([((Nat.beq p 0), .ret, [.bool false], ⟨[⟨true, (some (.tab [.fl .f32] x2))⟩], 1, []⟩), ((Nat.beq p 1), .exit 0, [anyV], ⟨[⟨true, (some (.tab [.fl .f32] x2))⟩], 1, []⟩)].map fun (b, x) => (b, (x.1, frameOf 20 [2] x.2.1, x.2.2)))
noncomputable def u70l0c (x0 x1 : Int) (x2 : List (List Int)) (p : Nat) : Option (Fin' × List Value × St) := alts ([((Nat.beq p 0), .ret, [.bool false], ⟨[⟨true, (some (.tab [.fl .f32] x2))⟩], 1, []⟩), ((Nat.beq p 1), .exit 0, [anyV], ⟨[⟨true, (some (.tab [.fl .f32] x2))⟩], 1, []⟩)].map fun (b, x) => (b, (x.1, frameOf 20 [2] x.2.1, x.2.2))) some
theorem v70l0c (x0 x1 : Int) (x2 : List (List Int)) (p : Nat) : u70l0c x0 x1 x2 p = a70l0c x0 x1 x2 p := alts_first _
noncomputable def q70l0c (m : Nat) : SumK := fun vals s =>
 match vals, s.h with
 | [.iface f0 .nilIface, .int .i64 x0, .int .i64 x1], [⟨true, some (.tab [.fl .f32] x2)⟩] => if f0 = 0 then [((Nat.beq (r70l0c m x0 x1 x2) 0), .ret, [.bool false], ⟨[⟨true, (some (.tab [.fl .f32] x2))⟩], 1, []⟩), ((Nat.beq (r70l0c m x0 x1 x2) 1), .exit 0, [anyV], ⟨[⟨true, (some (.tab [.fl .f32] x2))⟩], 1, []⟩)] else Q70l0b vals s
 | _, _ => Q70l0b vals s
noncomputable def w70l0c (ih : Int → Int → List (List Int) → Nat) (x0 x1 : Int) (x2 : List (List Int)) : Option (Fin' × List Value × St) :=
 (cond (decide ((x1 : Int) < x0))
 (cond ((decide ((0 : Int) ≤ x1)) && (Nat.blt (Int.toNat x1) x2.length))
  (cond (Nat.blt (Int.toNat x1) x2.length)
   (cond (r116 (widen (Int.toNat ((x2.getD (Int.toNat x1) []).getD 0 0))))
    (a70l0c x0 x1 x2 (0))
    (cond (r117 (widen (Int.toNat ((x2.getD (Int.toNat x1) []).getD 0 0))) 0)
     (a70l0c x0 x1 x2 (0))
     (u70l0c x0 x1 x2 (ih x0 (IntKind.i64.wrap (x1 + 1)) x2))))
   none)
  none)
 (a70l0c x0 x1 x2 (1)))
set_option maxRecDepth 100000 in
set_option maxHeartbeats 4000000 in
theorem e70l0c (m : Nat) (x0 x1 : Int) (x2 : List (List Int)) : evC Try.prog ext T37 L70_2 200 (loopN Try.f70 0) (loopTail ([5, 6, 7], []) [2] [] (sumK 20 [5, 6, 7] [2] (q70l0c m))) (frameOf 20 [5, 6, 7] [wsl 0, .int .i64 x0, .int .i64 x1]) ⟨[⟨true, (some (.tab [.fl .f32] x2))⟩], 1, []⟩ = firstT ([((Nat.beq (r70l0c (m + 1) x0 x1 x2) 0), .ret, [.bool false], ⟨[⟨true, (some (.tab [.fl .f32] x2))⟩], 1, []⟩), ((Nat.beq (r70l0c (m + 1) x0 x1 x2) 1), .exit 0, [anyV], ⟨[⟨true, (some (.tab [.fl .f32] x2))⟩], 1, []⟩)].map fun (b, x) => (b, (x.1, frameOf 20 [2] x.2.1, x.2.2))) :=
 (show evC Try.prog ext T37 L70_2 200 (loopN Try.f70 0) (loopTail ([5, 6, 7], []) [2] [] (sumK 20 [5, 6, 7] [2] (q70l0c m))) (frameOf 20 [5, 6, 7] [wsl 0, .int .i64 x0, .int .i64 x1]) ⟨[⟨true, (some (.tab [.fl .f32] x2))⟩], 1, []⟩ = w70l0c (r70l0c m) x0 x1 x2 from by kernel_rfl).trans
 (show w70l0c (r70l0c m) x0 x1 x2 = a70l0c x0 x1 x2 (r70l0c (m + 1) x0 x1 x2) from by unfold w70l0c; show _ = a70l0c x0 x1 x2 (b70l0c (r70l0c m) x0 x1 x2); unfold b70l0c; exact (cond_both (a70l0c x0 x1 x2) _ (fun h0 => (cond_both (a70l0c x0 x1 x2) _ (fun h1 => (cond_t (ev_and2 h1) (cond_app (a70l0c x0 x1 x2) _ rfl (cond_app (a70l0c x0 x1 x2) _ rfl (v70l0c x0 x1 x2 ((r70l0c m) x0 (IntKind.i64.wrap (x1 + 1)) x2)))))) (fun h1 => rfl))) (fun h0 => rfl)))
set_option maxRecDepth 100000 in
set_option maxHeartbeats 4000000 in
theorem qm70l0c : ∀ m, SumKOk Try.prog (loopN Try.f70 0) 20 [5, 6, 7] [2] (q70l0c m) := by
  intro m
  induction m with
  | zero =>
    intro vals s x h1 h2 h3
    unfold q70l0c at h3; split at h3
    · rename_i h; split at h3
      · rename_i hc; obtain ⟨rfl⟩ := hc; exact absurd h3 (by simp [r70l0c, firstT, Nat.beq])
      · exact qok70l0b _ _ _ h1 h2 h3
    · exact qok70l0b _ _ _ h1 h2 h3
  | succ m ih =>
    intro vals s x h1 h2 h3
    unfold q70l0c at h3; split at h3
    · rename_i h; split at h3
      · rename_i hc; obtain ⟨rfl⟩ := hc; exact sum_step ok37 extOk mixed (lok70_2.inner (by kernel_rfl)) ih h1 h2 h (e70l0c m _ _ _) rfl h3
      · exact qok70l0b _ _ _ h1 h2 h3
    · exact qok70l0b _ _ _ h1 h2 h3
noncomputable def Q70l0c : SumK := fun vals s => q70l0c (fuelOf vals s.h) vals s
theorem qok70l0c : SumKOk Try.prog (loopN Try.f70 0) 20 [5, 6, 7] [2] Q70l0c := fuel_ok qm70l0c fuelOf
noncomputable def L70_3 : LoopT := addL L70_2 3 ([5, 6, 7], []) (sumK 20 [5, 6, 7] [2] Q70l0c)
theorem lok70_3 : LfOkF Try.prog L70_3 Try.f70 := lfOkF_add lok70_2 qok70l0c (by kernel_rfl) (by kernel_rfl) (by kernel_rfl)

/-- impl.isFinite -/
noncomputable def r70b (x0 : List (List Int)) : Nat × Bool :=
 cond (Nat.beq (r70l0c (1000 + x0.length) ((x0.length : Nat) : Int) 0 x0) 0)
  (0, false)
  (cond (Nat.beq (r70l0c (1000 + x0.length) ((x0.length : Nat) : Int) 0 x0) 1)
   (0, true)
   (1, false))
noncomputable def a70b (x0 : List (List Int)) (p : Nat × Bool) : Res := firstT [((Nat.beq (p.1) 0), .bool (p.2), ⟨[⟨true, (some (.tab [.fl .f32] x0))⟩], 1, []⟩)]
noncomputable def w70b (x0 : List (List Int)) : Res :=
 (cond (Nat.beq (r70l0c (1000 + x0.length) ((x0.length : Nat) : Int) 0 x0) 0)
 (a70b x0 (0, false))
 (cond (Nat.beq (r70l0c (1000 + x0.length) ((x0.length : Nat) : Int) 0 x0) 1)
  (a70b x0 (0, true))
  none))
set_option maxRecDepth 100000 in
set_option maxHeartbeats 4000000 in
theorem e70b (x0 : List (List Int)) : evFn Try.prog ext T37 L70_3 200 Try.f70 [wsl 0] ⟨[⟨true, (some (.tab [.fl .f32] x0))⟩], 1, []⟩ = firstT [((Nat.beq ((r70b x0).1) 0), .bool ((r70b x0).2), ⟨[⟨true, (some (.tab [.fl .f32] x0))⟩], 1, []⟩)] :=
 (show evFn Try.prog ext T37 L70_3 200 Try.f70 [wsl 0] ⟨[⟨true, (some (.tab [.fl .f32] x0))⟩], 1, []⟩ = w70b x0 from by kernel_rfl).trans
 (show w70b x0 = a70b x0 (r70b x0) from by unfold w70b r70b; exact (cond_app (a70b x0) _ rfl (cond_app (a70b x0) _ rfl rfl)))
noncomputable def s70b (args : List Value) (s : St) : List (Bool × Value × St) :=
 match args, s.h with
 | [.iface f0 .nilIface], [⟨true, some (.tab [.fl .f32] x0)⟩] => if f0 = 0 then [((Nat.beq ((r70b x0).1) 0), .bool ((r70b x0).2), ⟨[⟨true, (some (.tab [.fl .f32] x0))⟩], 1, []⟩)] else T37 70 args s
 | _, _ => T37 70 args s
noncomputable def T38 : CallF := addF T37 70 s70b
set_option maxRecDepth 100000 in
set_option maxHeartbeats 4000000 in
theorem ok38 : CfOk Try.prog T38 := by
  refine cfOk_add ok37 fun args s r s' h1 h2 h3 => ?_
  unfold s70b at h3; split at h3
  · rename_i h; split at h3
    · rename_i hc; obtain ⟨rfl⟩ := hc; exact callOk ok37 Try.func70 h1 h2 h lok70_3.body (e70b _) rfl h3
    · exact ok37 _ _ _ _ _ h1 h2 h3
  · exact ok37 _ _ _ _ _ h1 h2 h3

/-- impl.GainsFor -/
noncomputable def r20 (x0 x1 : Nat) (x2 x3 x4 x5 x6 : List (List Int)) : Nat × Int × List (List Int) :=
 let c72 := (r20l0 (1000 + x5.length + x4.length + x3.length + x2.length + x6.length) x0 x1 ((x6.length : Nat) : Int) 0 x6 x2 x3 x4 x5)
 let c137 := (r20l1 (1000 + x5.length + x4.length + x3.length + x2.length + 0 + x6.length) x0 x1 ((x6.length : Nat) : Int) 0 x6 ([] : List (List Int)) x2 x3 x4 x5)
 cond (Nat.beq ((r65 x2 x3 x4 x5).1) 0)
  (cond (!((r65 x2 x3 x4 x5).2))
   (0, 1, [])
   (cond ((((x6.length : Nat) : Int) : Int) != ((x2.length : Nat) : Int))
    (0, 2, [])
    (cond (!(r66 x0))
     (0, 2, [])
     (cond (!(r67 x1 1092616192))
      (0, 2, [])
      (cond (Nat.beq c72 0)
       (0, 2, [])
       (cond (Nat.beq c72 1)
        (cond (Nat.beq (c137.1) 0)
         (cond (Nat.beq ((r70b (c137.2)).1) 0)
          (cond (!((r70b (c137.2)).2))
           (0, 4, [])
           (1, 0, (c137.2)))
          (2, 0, []))
         (cond (Nat.beq (c137.1) 1)
          (cond (Nat.beq ((r70b ([] : List (List Int))).1) 0)
           (cond (!((r70b ([] : List (List Int))).2))
            (0, 4, [])
            (1, 0, ([] : List (List Int))))
           (2, 0, []))
          (2, 0, [])))
        (2, 0, [])))))))
  (2, 0, [])
noncomputable def a20 (x0 x1 : Nat) (x2 x3 x4 x5 x6 : List (List Int)) (p : Nat × Int × List (List Int)) : Res := firstT [((Nat.beq (p.1) 0), .tuple #[.slice none 0 0, .int .i64 (p.2.1)], ⟨[⟨true, (some (.tab [.fl .f32] x2))⟩, ⟨true, (some (.tab [.fl .f32] x3))⟩, ⟨true, (some (.tab sc0 x4))⟩, ⟨true, (some (.tab sc1 x5))⟩, ⟨true, (some (.tab [.fl .f32] x6))⟩], 5, []⟩), ((Nat.beq (p.1) 1), .tuple #[wsl 5, .int .i64 0], ⟨[⟨true, (some (.tab [.fl .f32] x2))⟩, ⟨true, (some (.tab [.fl .f32] x3))⟩, ⟨true, (some (.tab sc0 x4))⟩, ⟨true, (some (.tab sc1 x5))⟩, ⟨true, (some (.tab [.fl .f32] x6))⟩, ⟨true, (some (.tab [.fl .f32] (p.2.2)))⟩], 5, []⟩)]
noncomputable def w20 (x0 x1 : Nat) (x2 x3 x4 x5 x6 : List (List Int)) : Res :=
 let c72 := (r20l0 (1000 + x5.length + x4.length + x3.length + x2.length + x6.length) x0 x1 ((x6.length : Nat) : Int) 0 x6 x2 x3 x4 x5)
 let c137 := (r20l1 (1000 + x5.length + x4.length + x3.length + x2.length + 0 + x6.length) x0 x1 ((x6.length : Nat) : Int) 0 x6 ([] : List (List Int)) x2 x3 x4 x5)
 (cond (Nat.beq ((r65 x2 x3 x4 x5).1) 0)
 (cond (!((r65 x2 x3 x4 x5).2))
  (a20 x0 x1 x2 x3 x4 x5 x6 (0, 1, []))
  (cond ((((x6.length : Nat) : Int) : Int) != ((x2.length : Nat) : Int))
   (a20 x0 x1 x2 x3 x4 x5 x6 (0, 2, []))
   (cond (!(r66 x0))
    (a20 x0 x1 x2 x3 x4 x5 x6 (0, 2, []))
    (cond (!(r67 x1 1092616192))
     (a20 x0 x1 x2 x3 x4 x5 x6 (0, 2, []))
     (cond (Nat.beq c72 0)
      (a20 x0 x1 x2 x3 x4 x5 x6 (0, 2, []))
      (cond (Nat.beq c72 1)
       (cond (Nat.beq (c137.1) 0)
        (cond (Nat.beq ((r70b (c137.2)).1) 0)
         (cond (!((r70b (c137.2)).2))
          (a20 x0 x1 x2 x3 x4 x5 x6 (0, 4, []))
          (a20 x0 x1 x2 x3 x4 x5 x6 (1, 0, (c137.2))))
         none)
        (cond (Nat.beq (c137.1) 1)
         (cond (Nat.beq ((r70b ([] : List (List Int))).1) 0)
          (cond (!((r70b ([] : List (List Int))).2))
           (a20 x0 x1 x2 x3 x4 x5 x6 (0, 4, []))
           (a20 x0 x1 x2 x3 x4 x5 x6 (1, 0, ([] : List (List Int)))))
          none)
         none))
       none))))))
 none)
set_option maxRecDepth 100000 in
set_option maxHeartbeats 4000000 in
theorem e20 (x0 x1 : Nat) (x2 x3 x4 x5 x6 : List (List Int)) : evFn Try.prog ext T38 L20_4 200 Try.f20 [.agg #[wsl 0, wsl 1, wsl 2, wsl 3], .float .f32 x0, .float .f32 x1, wsl 4] ⟨[⟨true, (some (.tab [.fl .f32] x2))⟩, ⟨true, (some (.tab [.fl .f32] x3))⟩, ⟨true, (some (.tab sc0 x4))⟩, ⟨true, (some (.tab sc1 x5))⟩, ⟨true, (some (.tab [.fl .f32] x6))⟩], 5, []⟩ = firstT [((Nat.beq ((r20 x0 x1 x2 x3 x4 x5 x6).1) 0), .tuple #[.slice none 0 0, .int .i64 ((r20 x0 x1 x2 x3 x4 x5 x6).2.1)], ⟨[⟨true, (some (.tab [.fl .f32] x2))⟩, ⟨true, (some (.tab [.fl .f32] x3))⟩, ⟨true, (some (.tab sc0 x4))⟩, ⟨true, (some (.tab sc1 x5))⟩, ⟨true, (some (.tab [.fl .f32] x6))⟩], 5, []⟩), ((Nat.beq ((r20 x0 x1 x2 x3 x4 x5 x6).1) 1), .tuple #[wsl 5, .int .i64 0], ⟨[⟨true, (some (.tab [.fl .f32] x2))⟩, ⟨true, (some (.tab [.fl .f32] x3))⟩, ⟨true, (some (.tab sc0 x4))⟩, ⟨true, (some (.tab sc1 x5))⟩, ⟨true, (some (.tab [.fl .f32] x6))⟩, ⟨true, (some (.tab [.fl .f32] ((r20 x0 x1 x2 x3 x4 x5 x6).2.2)))⟩], 5, []⟩)] :=
 (show evFn Try.prog ext T38 L20_4 200 Try.f20 [.agg #[wsl 0, wsl 1, wsl 2, wsl 3], .float .f32 x0, .float .f32 x1, wsl 4] ⟨[⟨true, (some (.tab [.fl .f32] x2))⟩, ⟨true, (some (.tab [.fl .f32] x3))⟩, ⟨true, (some (.tab sc0 x4))⟩, ⟨true, (some (.tab sc1 x5))⟩, ⟨true, (some (.tab [.fl .f32] x6))⟩], 5, []⟩ = w20 x0 x1 x2 x3 x4 x5 x6 from by kernel_rfl).trans
 (show w20 x0 x1 x2 x3 x4 x5 x6 = a20 x0 x1 x2 x3 x4 x5 x6 (r20 x0 x1 x2 x3 x4 x5 x6) from by unfold w20 r20; exact (cond_app (a20 x0 x1 x2 x3 x4 x5 x6) _ (cond_app (a20 x0 x1 x2 x3 x4 x5 x6) _ rfl (cond_app (a20 x0 x1 x2 x3 x4 x5 x6) _ rfl (cond_app (a20 x0 x1 x2 x3 x4 x5 x6) _ rfl (cond_app (a20 x0 x1 x2 x3 x4 x5 x6) _ rfl (cond_app (a20 x0 x1 x2 x3 x4 x5 x6) _ rfl (cond_app (a20 x0 x1 x2 x3 x4 x5 x6) _ (cond_app (a20 x0 x1 x2 x3 x4 x5 x6) _ (cond_app (a20 x0 x1 x2 x3 x4 x5 x6) _ (cond_app (a20 x0 x1 x2 x3 x4 x5 x6) _ rfl rfl) rfl) (cond_app (a20 x0 x1 x2 x3 x4 x5 x6) _ (cond_app (a20 x0 x1 x2 x3 x4 x5 x6) _ (cond_app (a20 x0 x1 x2 x3 x4 x5 x6) _ rfl rfl) rfl) rfl)) rfl)))))) rfl))
noncomputable def s20 (args : List Value) (s : St) : List (Bool × Value × St) :=
 match args, s.h with
 | [.agg ⟨[.iface f0 .nilIface, .iface f1 .nilIface, .iface f2 .nilIface, .iface f3 .nilIface]⟩, .float .f32 x0, .float .f32 x1, .iface f4 .nilIface], [⟨true, some (.tab [.fl .f32] x2)⟩, ⟨true, some (.tab [.fl .f32] x3)⟩, ⟨true, some (.tab [.int .i64, .int .i64, .fl .f32, .fl .f32, .fl .f32, .fl .f32, .fl .f32, .fl .f32] x4)⟩, ⟨true, some (.tab [.int .i64, .int .i64, .fl .f32, .fl .f32] x5)⟩, ⟨true, some (.tab [.fl .f32] x6)⟩] => if f0 = 0 ∧ f1 = 1 ∧ f2 = 2 ∧ f3 = 3 ∧ f4 = 4 then [((Nat.beq ((r20 x0 x1 x2 x3 x4 x5 x6).1) 0), .tuple #[.slice none 0 0, .int .i64 ((r20 x0 x1 x2 x3 x4 x5 x6).2.1)], ⟨[⟨true, (some (.tab [.fl .f32] x2))⟩, ⟨true, (some (.tab [.fl .f32] x3))⟩, ⟨true, (some (.tab sc0 x4))⟩, ⟨true, (some (.tab sc1 x5))⟩, ⟨true, (some (.tab [.fl .f32] x6))⟩], 5, []⟩), ((Nat.beq ((r20 x0 x1 x2 x3 x4 x5 x6).1) 1), .tuple #[wsl 5, .int .i64 0], ⟨[⟨true, (some (.tab [.fl .f32] x2))⟩, ⟨true, (some (.tab [.fl .f32] x3))⟩, ⟨true, (some (.tab sc0 x4))⟩, ⟨true, (some (.tab sc1 x5))⟩, ⟨true, (some (.tab [.fl .f32] x6))⟩, ⟨true, (some (.tab [.fl .f32] ((r20 x0 x1 x2 x3 x4 x5 x6).2.2)))⟩], 5, []⟩)] else T38 20 args s
 | _, _ => T38 20 args s
noncomputable def T39 : CallF := addF T38 20 s20
set_option maxRecDepth 100000 in
set_option maxHeartbeats 4000000 in
theorem ok39 : CfOk Try.prog T39 := by
  refine cfOk_add ok38 fun args s r s' h1 h2 h3 => ?_
  unfold s20 at h3; split at h3
  · rename_i h; split at h3
    · rename_i hc; obtain ⟨rfl, rfl, rfl, rfl, rfl⟩ := hc; exact callOk ok38 Try.func20 h1 h2 h lok20_4.body (e20 _ _ _ _ _ _ _) rfl h3
    · exact ok38 _ _ _ _ _ h1 h2 h3
  · exact ok38 _ _ _ _ _ h1 h2 h3

/-- laws.eqFloat32S, loop 0 -/
noncomputable def r31l0 (x0 : List (List Int)) : Unit :=
 ()
noncomputable def a31l0 (x0 : List (List Int)) (p : Unit) : Option (Fin' × List Value × St) := firstT ([(true, .exit 0, [anyV], ⟨[⟨true, (some (.tab [.fl .f32] x0))⟩], 1, []⟩)].map fun (b, x) => (b, (x.1, frameOf 29 [4] x.2.1, x.2.2)))
noncomputable def w31l0 (x0 : List (List Int)) : Option (Fin' × List Value × St) :=
 (a31l0 x0 ())
set_option maxRecDepth 100000 in
set_option maxHeartbeats 4000000 in
theorem e31l0 (x0 : List (List Int)) : evC Try.prog ext T39 noL 200 (loopN Try.f31 0) (loopTail ([0, 1, 5], []) [4] [] (sumK 29 [0, 1, 5] [4] noQ)) (frameOf 29 [0, 1, 5] [.slice none 0 0, wsl 0, .int .i64 0]) ⟨[⟨true, (some (.tab [.fl .f32] x0))⟩], 1, []⟩ = firstT ([(true, .exit 0, [anyV], ⟨[⟨true, (some (.tab [.fl .f32] x0))⟩], 1, []⟩)].map fun (b, x) => (b, (x.1, frameOf 29 [4] x.2.1, x.2.2))) :=
 (show evC Try.prog ext T39 noL 200 (loopN Try.f31 0) (loopTail ([0, 1, 5], []) [4] [] (sumK 29 [0, 1, 5] [4] noQ)) (frameOf 29 [0, 1, 5] [.slice none 0 0, wsl 0, .int .i64 0]) ⟨[⟨true, (some (.tab [.fl .f32] x0))⟩], 1, []⟩ = w31l0 x0 from by kernel_rfl).trans
 (show w31l0 x0 = a31l0 x0 (r31l0 x0) from by unfold w31l0 r31l0; exact rfl)
noncomputable def Q31l0 : SumK := fun vals s =>
 match vals, s.h with
 | [.slice none f0 f1, .iface f2 .nilIface, .int .i64 f3], [⟨true, some (.tab [.fl .f32] x0)⟩] => if f0 = 0 ∧ f1 = 0 ∧ f2 = 0 ∧ f3 = 0 then [(true, .exit 0, [anyV], ⟨[⟨true, (some (.tab [.fl .f32] x0))⟩], 1, []⟩)] else noQ vals s
 | _, _ => noQ vals s
set_option maxRecDepth 100000 in
set_option maxHeartbeats 4000000 in
theorem qok31l0 : SumKOk Try.prog (loopN Try.f31 0) 29 [0, 1, 5] [4] Q31l0 := by
  intro vals s x h1 h2 h3
  unfold Q31l0 at h3; split at h3
  · rename_i h; split at h3
    · rename_i hc; obtain ⟨rfl, rfl, rfl, rfl⟩ := hc; exact sum_step ok39 extOk mixed ((lfOkF_no _ _).inner (by kernel_rfl)) noQ_ok h1 h2 h (e31l0 _) rfl h3
    · exact noQ_ok _ _ _ h1 h2 h3
  · exact noQ_ok _ _ _ h1 h2 h3
noncomputable def L31_1 : LoopT := addL noL 5 ([0, 1, 5], []) (sumK 29 [0, 1, 5] [4] Q31l0)
theorem lok31_1 : LfOkF Try.prog L31_1 Try.f31 := lfOkF_add (lfOkF_no _ _) qok31l0 (by kernel_rfl) (by kernel_rfl) (by kernel_rfl)

/-- laws.eqFloat32S -/
noncomputable def r31 (x0 : List (List Int)) : Bool :=
 cond ((0 : Int) != ((x0.length : Nat) : Int))
  (false)
  (true)
noncomputable def a31 (x0 : List (List Int)) (p : Bool) : Res := firstT [(true, .bool p, ⟨[⟨true, (some (.tab [.fl .f32] x0))⟩], 1, []⟩)]
noncomputable def w31 (x0 : List (List Int)) : Res :=
 (cond ((0 : Int) != ((x0.length : Nat) : Int))
 (a31 x0 (false))
 (a31 x0 (true)))
set_option maxRecDepth 100000 in
set_option maxHeartbeats 4000000 in
theorem e31 (x0 : List (List Int)) : evFn Try.prog ext T39 L31_1 200 Try.f31 [.slice none 0 0, wsl 0] ⟨[⟨true, (some (.tab [.fl .f32] x0))⟩], 1, []⟩ = firstT [(true, .bool (r31 x0), ⟨[⟨true, (some (.tab [.fl .f32] x0))⟩], 1, []⟩)] :=
 (show evFn Try.prog ext T39 L31_1 200 Try.f31 [.slice none 0 0, wsl 0] ⟨[⟨true, (some (.tab [.fl .f32] x0))⟩], 1, []⟩ = w31 x0 from by kernel_rfl).trans
 (show w31 x0 = a31 x0 (r31 x0) from by unfold w31 r31; exact (cond_app (a31 x0) _ rfl rfl))
noncomputable def s31 (args : List Value) (s : St) : List (Bool × Value × St) :=
 match args, s.h with
 | [.slice none f0 f1, .iface f2 .nilIface], [⟨true, some (.tab [.fl .f32] x0)⟩] => if f0 = 0 ∧ f1 = 0 ∧ f2 = 0 then [(true, .bool (r31 x0), ⟨[⟨true, (some (.tab [.fl .f32] x0))⟩], 1, []⟩)] else T39 31 args s
 | _, _ => T39 31 args s
noncomputable def T40 : CallF := addF T39 31 s31
set_option maxRecDepth 100000 in
set_option maxHeartbeats 4000000 in
theorem ok40 : CfOk Try.prog T40 := by
  refine cfOk_add ok39 fun args s r s' h1 h2 h3 => ?_
  unfold s31 at h3; split at h3
  · rename_i h; split at h3
    · rename_i hc; obtain ⟨rfl, rfl, rfl⟩ := hc; exact callOk ok39 Try.func31 h1 h2 h lok31_1.body (e31 _) rfl h3
    · exact ok39 _ _ _ _ _ h1 h2 h3
  · exact ok39 _ _ _ _ _ h1 h2 h3

/-- laws.sameFloat -/
noncomputable def r27 (x0 x1 : Nat) : Bool :=
 cond (!feq .f64 x0 x0)
  ((!feq .f64 x1 x1))
  (cond (!feq .f64 x1 x1)
   (false)
   (cond (feq .f64 x0 0)
    (cond (feq .f64 x1 0)
     (((fgt .f64 (fdiv .f64 4607182418800017408 x0) 0) == (fgt .f64 (fdiv .f64 4607182418800017408 x1) 0)))
     ((feq .f64 x0 x1)))
    ((feq .f64 x0 x1))))
noncomputable def a27 (x0 x1 : Nat) (p : Bool) : Res := firstT [(true, .bool p, st0)]
noncomputable def w27 (x0 x1 : Nat) : Res :=
 (cond (!feq .f64 x0 x0)
 (cond (!feq .f64 x0 x0)
  (a27 x0 x1 ((!feq .f64 x1 x1)))
  (some (.bool false, st0)))
 (cond (!feq .f64 x1 x1)
  (cond (!feq .f64 x0 x0)
   (some (.bool (!feq .f64 x1 x1), st0))
   (a27 x0 x1 (false)))
  (cond (feq .f64 x0 0)
   (cond (feq .f64 x1 0)
    (a27 x0 x1 (((fgt .f64 (fdiv .f64 4607182418800017408 x0) 0) == (fgt .f64 (fdiv .f64 4607182418800017408 x1) 0))))
    (a27 x0 x1 ((feq .f64 x0 x1))))
   (a27 x0 x1 ((feq .f64 x0 x1))))))
set_option maxRecDepth 100000 in
set_option maxHeartbeats 4000000 in
theorem e27 (x0 x1 : Nat) : evFn Try.prog ext T40 noL 200 Try.f27 [.float .f64 x0, .float .f64 x1] st0 = firstT [(true, .bool (r27 x0 x1), st0)] :=
 (show evFn Try.prog ext T40 noL 200 Try.f27 [.float .f64 x0, .float .f64 x1] st0 = w27 x0 x1 from by kernel_rfl).trans
 (show w27 x0 x1 = a27 x0 x1 (r27 x0 x1) from by unfold w27 r27; exact (cond_both (a27 x0 x1) _ (fun h0 => (cond_t (ev_not1 (ev_nott h0)) rfl)) (fun h0 => (cond_both (a27 x0 x1) _ (fun h1 => (cond_f (ev_not0 (ev_notf h0)) rfl)) (fun h1 => (cond_app (a27 x0 x1) _ (cond_app (a27 x0 x1) _ rfl rfl) rfl))))))
noncomputable def s27 (args : List Value) (s : St) : List (Bool × Value × St) :=
 match args, s.h with
 | [.float .f64 x0, .float .f64 x1], [] => [(true, .bool (r27 x0 x1), st0)]
 | _, _ => T40 27 args s
noncomputable def T41 : CallF := addF T40 27 s27
set_option maxRecDepth 100000 in
set_option maxHeartbeats 4000000 in
theorem ok41 : CfOk Try.prog T41 := by
  refine cfOk_add ok40 fun args s r s' h1 h2 h3 => ?_
  unfold s27 at h3; split at h3
  · rename_i h; exact callOk ok40 Try.func27 h1 h2 h (lfOkF_no _ _).body (e27 _ _) rfl h3
  · exact ok40 _ _ _ _ _ h1 h2 h3

/-- laws.eqFloat32S, loop 0: one round -/
noncomputable def b31l0b (ih : Int → List (List Int) → List (List Int) → Nat) (x0 : Int) (x1 x2 : List (List Int)) : Nat :=
 let c140 := (r27 (widen (Int.toNat ((x1.getD (Int.toNat x0) []).getD 0 0))) (widen (Int.toNat ((x2.getD (Int.toNat x0) []).getD 0 0))))
 cond (decide ((x0 : Int) < ((x1.length : Nat) : Int)))
  (cond ((decide ((0 : Int) ≤ x0)) && (Nat.blt (Int.toNat x0) x1.length))
   (cond ((decide ((0 : Int) ≤ x0)) && (Nat.blt (Int.toNat x0) x2.length))
    (cond (!c140)
     (0)
     (ih (IntKind.i64.wrap (x0 + 1)) x1 x2))
    (2))
   (2))
  (1)
noncomputable def r31l0b : Nat → Int → List (List Int) → List (List Int) → Nat
 | 0 => fun _ _ _ => (2)
 | m + 1 => b31l0b (r31l0b m)
noncomputable def a31l0b (x0 : Int) (x1 x2 : List (List Int)) (p : Nat) : Option (Fin' × List Value × St) := firstT ([((Nat.beq p 0), .ret, [.bool false], ⟨[⟨true, (some (.tab [.fl .f32] x1))⟩, ⟨true, (some (.tab [.fl .f32] x2))⟩], 2, []⟩), ((Nat.beq p 1), .exit 0, [anyV], ⟨[⟨true, (some (.tab [.fl .f32] x1))⟩, ⟨true, (some (.tab [.fl .f32] x2))⟩], 2, []⟩)].map fun (b, x) => (b, (x.1, frameOf 29 [4] x.2.1, x.2.2)))
noncomputable def u31l0b (x0 : Int) (x1 x2 : List (List Int)) (p : Nat) : Option (Fin' × List Value × St) := alts ([((Nat.beq p 0), .ret, [.bool false], ⟨[⟨true, (some (.tab [.fl .f32] x1))⟩, ⟨true, (some (.tab [.fl .f32] x2))⟩], 2, []⟩), ((Nat.beq p 1), .exit 0, [anyV], ⟨[⟨true, (some (.tab [.fl .f32] x1))⟩, ⟨true, (some (.tab [.fl .f32] x2))⟩], 2, []⟩)].map fun (b, x) => (b, (x.1, frameOf 29 [4] x.2.1, x.2.2))) some
theorem v31l0b (x0 : Int) (x1 x2 : List (List Int)) (p : Nat) : u31l0b x0 x1 x2 p = a31l0b x0 x1 x2 p := alts_first _
noncomputable def q31l0b (m : Nat) : SumK := fun vals s =>
 match vals, s.h with
 | [.iface f0 .nilIface, .iface f1 .nilIface, .int .i64 x0], [⟨true, some (.tab [.fl .f32] x1)⟩, ⟨true, some (.tab [.fl .f32] x2)⟩] => if f0 = 0 ∧ f1 = 1 then [((Nat.beq (r31l0b m x0 x1 x2) 0), .ret, [.bool false], ⟨[⟨true, (some (.tab [.fl .f32] x1))⟩, ⟨true, (some (.tab [.fl .f32] x2))⟩], 2, []⟩), ((Nat.beq (r31l0b m x0 x1 x2) 1), .exit 0, [anyV], ⟨[⟨true, (some (.tab [.fl .f32] x1))⟩, ⟨true, (some (.tab [.fl .f32] x2))⟩], 2, []⟩)] else Q31l0 vals s
 | _, _ => Q31l0 vals s
noncomputable def w31l0b (ih : Int → List (List Int) → List (List Int) → Nat) (x0 : Int) (x1 x2 : List (List Int)) : Option (Fin' × List Value × St) :=
 let c140 := (r27 (widen (Int.toNat ((x1.getD (Int.toNat x0) []).getD 0 0))) (widen (Int.toNat ((x2.getD (Int.toNat x0) []).getD 0 0))))
 (cond (decide ((x0 : Int) < ((x1.length : Nat) : Int)))
 (cond ((decide ((0 : Int) ≤ x0)) && (Nat.blt (Int.toNat x0) x1.length))
  (cond (Nat.blt (Int.toNat x0) x1.length)
   (cond ((decide ((0 : Int) ≤ x0)) && (Nat.blt (Int.toNat x0) x2.length))
    (cond (Nat.blt (Int.toNat x0) x2.length)
     (cond (!c140)
      (a31l0b x0 x1 x2 (0))
      (u31l0b x0 x1 x2 (ih (IntKind.i64.wrap (x0 + 1)) x1 x2)))
     none)
    none)
   none)
  none)
 (a31l0b x0 x1 x2 (1)))
set_option maxRecDepth 100000 in
set_option maxHeartbeats 4000000 in
theorem e31l0b (m : Nat) (x0 : Int) (x1 x2 : List (List Int)) : evC Try.prog ext T41 L31_1 200 (loopN Try.f31 0) (loopTail ([0, 1, 5], []) [4] [] (sumK 29 [0, 1, 5] [4] (q31l0b m))) (frameOf 29 [0, 1, 5] [wsl 0, wsl 1, .int .i64 x0]) ⟨[⟨true, (some (.tab [.fl .f32] x1))⟩, ⟨true, (some (.tab [.fl .f32] x2))⟩], 2, []⟩ = firstT ([((Nat.beq (r31l0b (m + 1) x0 x1 x2) 0), .ret, [.bool false], ⟨[⟨true, (some (.tab [.fl .f32] x1))⟩, ⟨true, (some (.tab [.fl .f32] x2))⟩], 2, []⟩), ((Nat.beq (r31l0b (m + 1) x0 x1 x2) 1), .exit 0, [anyV], ⟨[⟨true, (some (.tab [.fl .f32] x1))⟩, ⟨true, (some (.tab [.fl .f32] x2))⟩], 2, []⟩)].map fun (b, x) => (b, (x.1, frameOf 29 [4] x.2.1, x.2.2))) :=
 (show evC Try.prog ext T41 L31_1 200 (loopN Try.f31 0) (loopTail ([0, 1, 5], []) [4] [] (sumK 29 [0, 1, 5] [4] (q31l0b m))) (frameOf 29 [0, 1, 5] [wsl 0, wsl 1, .int .i64 x0]) ⟨[⟨true, (some (.tab [.fl .f32] x1))⟩, ⟨true, (some (.tab [.fl .f32] x2))⟩], 2, []⟩ = w31l0b (r31l0b m) x0 x1 x2 from by kernel_rfl).trans
 (show w31l0b (r31l0b m) x0 x1 x2 = a31l0b x0 x1 x2 (r31l0b (m + 1) x0 x1 x2) from by unfold w31l0b; show _ = a31l0b x0 x1 x2 (b31l0b (r31l0b m) x0 x1 x2); unfold b31l0b; exact (cond_both (a31l0b x0 x1 x2) _ (fun h0 => (cond_both (a31l0b x0 x1 x2) _ (fun h1 => (cond_t (ev_and2 h1) (cond_both (a31l0b x0 x1 x2) _ (fun h2 => (cond_t (ev_and2 h2) (cond_app (a31l0b x0 x1 x2) _ rfl (v31l0b x0 x1 x2 ((r31l0b m) (IntKind.i64.wrap (x0 + 1)) x1 x2))))) (fun h2 => rfl)))) (fun h1 => rfl))) (fun h0 => rfl)))
set_option maxRecDepth 100000 in
set_option maxHeartbeats 4000000 in
theorem qm31l0b : ∀ m, SumKOk Try.prog (loopN Try.f31 0) 29 [0, 1, 5] [4] (q31l0b m) := by
  intro m
  induction m with
  | zero =>
    intro vals s x h1 h2 h3
    unfold q31l0b at h3; split at h3
    · rename_i h; split at h3
      · rename_i hc; obtain ⟨rfl, rfl⟩ := hc; exact absurd h3 (by simp [r31l0b, firstT, Nat.beq])
      · exact qok31l0 _ _ _ h1 h2 h3
    · exact qok31l0 _ _ _ h1 h2 h3
  | succ m ih =>
    intro vals s x h1 h2 h3
    unfold q31l0b at h3; split at h3
    · rename_i h; split at h3
      · rename_i hc; obtain ⟨rfl, rfl⟩ := hc; exact sum_step ok41 extOk mixed (lok31_1.inner (by kernel_rfl)) ih h1 h2 h (e31l0b m _ _ _) rfl h3
      · exact qok31l0 _ _ _ h1 h2 h3
    · exact qok31l0 _ _ _ h1 h2 h3
noncomputable def Q31l0b : SumK := fun vals s => q31l0b (fuelOf vals s.h) vals s
theorem qok31l0b : SumKOk Try.prog (loopN Try.f31 0) 29 [0, 1, 5] [4] Q31l0b := fuel_ok qm31l0b fuelOf
noncomputable def L31_2 : LoopT := addL L31_1 5 ([0, 1, 5], []) (sumK 29 [0, 1, 5] [4] Q31l0b)
theorem lok31_2 : LfOkF Try.prog L31_2 Try.f31 := lfOkF_add lok31_1 qok31l0b (by kernel_rfl) (by kernel_rfl) (by kernel_rfl)

/-- laws.eqFloat32S -/
noncomputable def r31b (x0 x1 : List (List Int)) : Nat × Bool :=
 cond ((((x0.length : Nat) : Int) : Int) != ((x1.length : Nat) : Int))
  (0, false)
  (cond (Nat.beq (r31l0b (1000 + x1.length + x0.length) 0 x0 x1) 0)
   (0, false)
   (cond (Nat.beq (r31l0b (1000 + x1.length + x0.length) 0 x0 x1) 1)
    (0, true)
    (1, false)))
noncomputable def a31b (x0 x1 : List (List Int)) (p : Nat × Bool) : Res := firstT [((Nat.beq (p.1) 0), .bool (p.2), ⟨[⟨true, (some (.tab [.fl .f32] x0))⟩, ⟨true, (some (.tab [.fl .f32] x1))⟩], 2, []⟩)]
noncomputable def w31b (x0 x1 : List (List Int)) : Res :=
 (cond ((((x0.length : Nat) : Int) : Int) != ((x1.length : Nat) : Int))
 (a31b x0 x1 (0, false))
 (cond (Nat.beq (r31l0b (1000 + x1.length + x0.length) 0 x0 x1) 0)
  (a31b x0 x1 (0, false))
  (cond (Nat.beq (r31l0b (1000 + x1.length + x0.length) 0 x0 x1) 1)
   (a31b x0 x1 (0, true))
   none)))
set_option maxRecDepth 100000 in
set_option maxHeartbeats 4000000 in
theorem e31b (x0 x1 : List (List Int)) : evFn Try.prog ext T41 L31_2 200 Try.f31 [wsl 0, wsl 1] ⟨[⟨true, (some (.tab [.fl .f32] x0))⟩, ⟨true, (some (.tab [.fl .f32] x1))⟩], 2, []⟩ = firstT [((Nat.beq ((r31b x0 x1).1) 0), .bool ((r31b x0 x1).2), ⟨[⟨true, (some (.tab [.fl .f32] x0))⟩, ⟨true, (some (.tab [.fl .f32] x1))⟩], 2, []⟩)] :=
 (show evFn Try.prog ext T41 L31_2 200 Try.f31 [wsl 0, wsl 1] ⟨[⟨true, (some (.tab [.fl .f32] x0))⟩, ⟨true, (some (.tab [.fl .f32] x1))⟩], 2, []⟩ = w31b x0 x1 from by kernel_rfl).trans
 (show w31b x0 x1 = a31b x0 x1 (r31b x0 x1) from by unfold w31b r31b; exact (cond_app (a31b x0 x1) _ rfl (cond_app (a31b x0 x1) _ rfl (cond_app (a31b x0 x1) _ rfl rfl))))
noncomputable def s31b (args : List Value) (s : St) : List (Bool × Value × St) :=
 match args, s.h with
 | [.iface f0 .nilIface, .iface f1 .nilIface], [⟨true, some (.tab [.fl .f32] x0)⟩, ⟨true, some (.tab [.fl .f32] x1)⟩] => if f0 = 0 ∧ f1 = 1 then [((Nat.beq ((r31b x0 x1).1) 0), .bool ((r31b x0 x1).2), ⟨[⟨true, (some (.tab [.fl .f32] x0))⟩, ⟨true, (some (.tab [.fl .f32] x1))⟩], 2, []⟩)] else T41 31 args s
 | _, _ => T41 31 args s
noncomputable def T42 : CallF := addF T41 31 s31b
set_option maxRecDepth 100000 in
set_option maxHeartbeats 4000000 in
theorem ok42 : CfOk Try.prog T42 := by
  refine cfOk_add ok41 fun args s r s' h1 h2 h3 => ?_
  unfold s31b at h3; split at h3
  · rename_i h; split at h3
    · rename_i hc; obtain ⟨rfl, rfl⟩ := hc; exact callOk ok41 Try.func31 h1 h2 h lok31_2.body (e31b _ _) rfl h3
    · exact ok41 _ _ _ _ _ h1 h2 h3
  · exact ok41 _ _ _ _ _ h1 h2 h3

/-- laws.eqFloat32A4 -/
noncomputable def r128 (x0 x1 x2 x3 x4 x5 x6 x7 : Nat) : Bool :=
 cond (!(r27 (widen x0) (widen x4)))
  (false)
  (cond (!(r27 (widen x1) (widen x5)))
   (false)
   (cond (!(r27 (widen x2) (widen x6)))
    (false)
    (cond (!(r27 (widen x3) (widen x7)))
     (false)
     (true))))
noncomputable def a128 (x0 x1 x2 x3 x4 x5 x6 x7 : Nat) (p : Bool) : Res := firstT [(true, .bool p, st0)]
noncomputable def w128 (x0 x1 x2 x3 x4 x5 x6 x7 : Nat) : Res :=
 (cond (!(r27 (widen x0) (widen x4)))
 (a128 x0 x1 x2 x3 x4 x5 x6 x7 (false))
 (cond (!(r27 (widen x1) (widen x5)))
  (a128 x0 x1 x2 x3 x4 x5 x6 x7 (false))
  (cond (!(r27 (widen x2) (widen x6)))
   (a128 x0 x1 x2 x3 x4 x5 x6 x7 (false))
   (cond (!(r27 (widen x3) (widen x7)))
    (a128 x0 x1 x2 x3 x4 x5 x6 x7 (false))
    (a128 x0 x1 x2 x3 x4 x5 x6 x7 (true))))))
set_option maxRecDepth 100000 in
set_option maxHeartbeats 4000000 in
theorem e128 (x0 x1 x2 x3 x4 x5 x6 x7 : Nat) : evFn Try.prog ext T42 noL 200 Try.f128 [.agg #[.float .f32 x0, .float .f32 x1, .float .f32 x2, .float .f32 x3], .agg #[.float .f32 x4, .float .f32 x5, .float .f32 x6, .float .f32 x7]] st0 = firstT [(true, .bool (r128 x0 x1 x2 x3 x4 x5 x6 x7), st0)] :=
 (show evFn Try.prog ext T42 noL 200 Try.f128 [.agg #[.float .f32 x0, .float .f32 x1, .float .f32 x2, .float .f32 x3], .agg #[.float .f32 x4, .float .f32 x5, .float .f32 x6, .float .f32 x7]] st0 = w128 x0 x1 x2 x3 x4 x5 x6 x7 from by kernel_rfl).trans
 (show w128 x0 x1 x2 x3 x4 x5 x6 x7 = a128 x0 x1 x2 x3 x4 x5 x6 x7 (r128 x0 x1 x2 x3 x4 x5 x6 x7) from by unfold w128 r128; exact (cond_app (a128 x0 x1 x2 x3 x4 x5 x6 x7) _ rfl (cond_app (a128 x0 x1 x2 x3 x4 x5 x6 x7) _ rfl (cond_app (a128 x0 x1 x2 x3 x4 x5 x6 x7) _ rfl (cond_app (a128 x0 x1 x2 x3 x4 x5 x6 x7) _ rfl rfl)))))
noncomputable def s128 (args : List Value) (s : St) : List (Bool × Value × St) :=
 match args, s.h with
 | [.agg ⟨[.float .f32 x0, .float .f32 x1, .float .f32 x2, .float .f32 x3]⟩, .agg ⟨[.float .f32 x4, .float .f32 x5, .float .f32 x6, .float .f32 x7]⟩], [] => [(true, .bool (r128 x0 x1 x2 x3 x4 x5 x6 x7), st0)]
 | _, _ => T42 128 args s
noncomputable def T43 : CallF := addF T42 128 s128
set_option maxRecDepth 100000 in
set_option maxHeartbeats 4000000 in
theorem ok43 : CfOk Try.prog T43 := by
  refine cfOk_add ok42 fun args s r s' h1 h2 h3 => ?_
  unfold s128 at h3; split at h3
  · rename_i h; exact callOk ok42 Try.func128 h1 h2 h (lfOkF_no _ _).body (e128 _ _ _ _ _ _ _ _) rfl h3
  · exact ok42 _ _ _ _ _ h1 h2 h3

/-- laws.eqWall -/
noncomputable def r120 (x0 x1 : Int) (x2 x3 x4 x5 x6 x7 : Nat) (x8 x9 : Int) (x10 x11 x12 x13 x14 x15 : Nat) : Bool :=
 cond ((x0 : Int) != x8)
  (false)
  (cond ((x1 : Int) != x9)
   (false)
   (cond (!(r27 (widen x2) (widen x10)))
    (false)
    (cond (!(r27 (widen x3) (widen x11)))
     (false)
     (cond (!(r128 x4 x5 x6 x7 x12 x13 x14 x15))
      (false)
      (true)))))
noncomputable def a120 (x0 x1 : Int) (x2 x3 x4 x5 x6 x7 : Nat) (x8 x9 : Int) (x10 x11 x12 x13 x14 x15 : Nat) (p : Bool) : Res := firstT [(true, .bool p, st0)]
noncomputable def w120 (x0 x1 : Int) (x2 x3 x4 x5 x6 x7 : Nat) (x8 x9 : Int) (x10 x11 x12 x13 x14 x15 : Nat) : Res :=
 (cond ((x0 : Int) != x8)
 (a120 x0 x1 x2 x3 x4 x5 x6 x7 x8 x9 x10 x11 x12 x13 x14 x15 (false))
 (cond ((x1 : Int) != x9)
  (a120 x0 x1 x2 x3 x4 x5 x6 x7 x8 x9 x10 x11 x12 x13 x14 x15 (false))
  (cond (!(r27 (widen x2) (widen x10)))
   (a120 x0 x1 x2 x3 x4 x5 x6 x7 x8 x9 x10 x11 x12 x13 x14 x15 (false))
   (cond (!(r27 (widen x3) (widen x11)))
    (a120 x0 x1 x2 x3 x4 x5 x6 x7 x8 x9 x10 x11 x12 x13 x14 x15 (false))
    (cond (!(r128 x4 x5 x6 x7 x12 x13 x14 x15))
     (a120 x0 x1 x2 x3 x4 x5 x6 x7 x8 x9 x10 x11 x12 x13 x14 x15 (false))
     (a120 x0 x1 x2 x3 x4 x5 x6 x7 x8 x9 x10 x11 x12 x13 x14 x15 (true)))))))
set_option maxRecDepth 100000 in
set_option maxHeartbeats 4000000 in
theorem e120 (x0 x1 : Int) (x2 x3 x4 x5 x6 x7 : Nat) (x8 x9 : Int) (x10 x11 x12 x13 x14 x15 : Nat) : evFn Try.prog ext T43 noL 200 Try.f120 [.agg #[.int .i64 x0, .int .i64 x1, .float .f32 x2, .float .f32 x3, .float .f32 x4, .float .f32 x5, .float .f32 x6, .float .f32 x7], .agg #[.int .i64 x8, .int .i64 x9, .float .f32 x10, .float .f32 x11, .float .f32 x12, .float .f32 x13, .float .f32 x14, .float .f32 x15]] st0 = firstT [(true, .bool (r120 x0 x1 x2 x3 x4 x5 x6 x7 x8 x9 x10 x11 x12 x13 x14 x15), st0)] :=
 (show evFn Try.prog ext T43 noL 200 Try.f120 [.agg #[.int .i64 x0, .int .i64 x1, .float .f32 x2, .float .f32 x3, .float .f32 x4, .float .f32 x5, .float .f32 x6, .float .f32 x7], .agg #[.int .i64 x8, .int .i64 x9, .float .f32 x10, .float .f32 x11, .float .f32 x12, .float .f32 x13, .float .f32 x14, .float .f32 x15]] st0 = w120 x0 x1 x2 x3 x4 x5 x6 x7 x8 x9 x10 x11 x12 x13 x14 x15 from by kernel_rfl).trans
 (show w120 x0 x1 x2 x3 x4 x5 x6 x7 x8 x9 x10 x11 x12 x13 x14 x15 = a120 x0 x1 x2 x3 x4 x5 x6 x7 x8 x9 x10 x11 x12 x13 x14 x15 (r120 x0 x1 x2 x3 x4 x5 x6 x7 x8 x9 x10 x11 x12 x13 x14 x15) from by unfold w120 r120; exact (cond_app (a120 x0 x1 x2 x3 x4 x5 x6 x7 x8 x9 x10 x11 x12 x13 x14 x15) _ rfl (cond_app (a120 x0 x1 x2 x3 x4 x5 x6 x7 x8 x9 x10 x11 x12 x13 x14 x15) _ rfl (cond_app (a120 x0 x1 x2 x3 x4 x5 x6 x7 x8 x9 x10 x11 x12 x13 x14 x15) _ rfl (cond_app (a120 x0 x1 x2 x3 x4 x5 x6 x7 x8 x9 x10 x11 x12 x13 x14 x15) _ rfl (cond_app (a120 x0 x1 x2 x3 x4 x5 x6 x7 x8 x9 x10 x11 x12 x13 x14 x15) _ rfl rfl))))))
noncomputable def s120 (args : List Value) (s : St) : List (Bool × Value × St) :=
 match args, s.h with
 | [.agg ⟨[.int .i64 x0, .int .i64 x1, .float .f32 x2, .float .f32 x3, .float .f32 x4, .float .f32 x5, .float .f32 x6, .float .f32 x7]⟩, .agg ⟨[.int .i64 x8, .int .i64 x9, .float .f32 x10, .float .f32 x11, .float .f32 x12, .float .f32 x13, .float .f32 x14, .float .f32 x15]⟩], [] => [(true, .bool (r120 x0 x1 x2 x3 x4 x5 x6 x7 x8 x9 x10 x11 x12 x13 x14 x15), st0)]
 | _, _ => T43 120 args s
noncomputable def T44 : CallF := addF T43 120 s120
set_option maxRecDepth 100000 in
set_option maxHeartbeats 4000000 in
theorem ok44 : CfOk Try.prog T44 := by
  refine cfOk_add ok43 fun args s r s' h1 h2 h3 => ?_
  unfold s120 at h3; split at h3
  · rename_i h; exact callOk ok43 Try.func120 h1 h2 h (lfOkF_no _ _).body (e120 _ _ _ _ _ _ _ _ _ _ _ _ _ _ _ _) rfl h3
  · exact ok43 _ _ _ _ _ h1 h2 h3

/-- laws.eqWallS, loop 0: one round -/
noncomputable def b81l0 (ih : Int → List (List Int) → List (List Int) → Nat) (x0 : Int) (x1 x2 : List (List Int)) : Nat :=
 let c157 := (r120 ((x1.getD (Int.toNat x0) []).getD 0 0) ((x1.getD (Int.toNat x0) []).getD 1 0) (Int.toNat ((x1.getD (Int.toNat x0) []).getD 2 0)) (Int.toNat ((x1.getD (Int.toNat x0) []).getD 3 0)) (Int.toNat ((x1.getD (Int.toNat x0) []).getD 4 0)) (Int.toNat ((x1.getD (Int.toNat x0) []).getD 5 0)) (Int.toNat ((x1.getD (Int.toNat x0) []).getD 6 0)) (Int.toNat ((x1.getD (Int.toNat x0) []).getD 7 0)) ((x2.getD (Int.toNat x0) []).getD 0 0) ((x2.getD (Int.toNat x0) []).getD 1 0) (Int.toNat ((x2.getD (Int.toNat x0) []).getD 2 0)) (Int.toNat ((x2.getD (Int.toNat x0) []).getD 3 0)) (Int.toNat ((x2.getD (Int.toNat x0) []).getD 4 0)) (Int.toNat ((x2.getD (Int.toNat x0) []).getD 5 0)) (Int.toNat ((x2.getD (Int.toNat x0) []).getD 6 0)) (Int.toNat ((x2.getD (Int.toNat x0) []).getD 7 0)))
 cond (decide ((x0 : Int) < ((x1.length : Nat) : Int)))
  (cond ((decide ((0 : Int) ≤ x0)) && (Nat.blt (Int.toNat x0) x1.length))
   (cond ((decide ((0 : Int) ≤ x0)) && (Nat.blt (Int.toNat x0) x2.length))
    (cond (!c157)
     (0)
     (ih (IntKind.i64.wrap (x0 + 1)) x1 x2))
    (2))
   (2))
  (1)
noncomputable def r81l0 : Nat → Int → List (List Int) → List (List Int) → Nat
 | 0 => fun _ _ _ => (2)
 | m + 1 => b81l0 (r81l0 m)
noncomputable def a81l0 (x0 : Int) (x1 x2 : List (List Int)) (p : Nat) : Option (Fin' × List Value × St) := firstT ([((Nat.beq p 0), .ret, [.bool false], ⟨[⟨true, (some (.tab sc0 x1))⟩, ⟨true, (some (.tab sc0 x2))⟩], 2, []⟩), ((Nat.beq p 1), .exit 0, [anyV], ⟨[⟨true, (some (.tab sc0 x1))⟩, ⟨true, (some (.tab sc0 x2))⟩], 2, []⟩)].map fun (b, x) => (b, (x.1, frameOf 27 [4] x.2.1, x.2.2)))
noncomputable def u81l0 (x0 : Int) (x1 x2 : List (List Int)) (p : Nat) : Option (Fin' × List Value × St) := alts ([((Nat.beq p 0), .ret, [.bool false], ⟨[⟨true, (some (.tab sc0 x1))⟩, ⟨true, (some (.tab sc0 x2))⟩], 2, []⟩), ((Nat.beq p 1), .exit 0, [anyV], ⟨[⟨true, (some (.tab sc0 x1))⟩, ⟨true, (some (.tab sc0 x2))⟩], 2, []⟩)].map fun (b, x) => (b, (x.1, frameOf 27 [4] x.2.1, x.2.2))) some
theorem v81l0 (x0 : Int) (x1 x2 : List (List Int)) (p : Nat) : u81l0 x0 x1 x2 p = a81l0 x0 x1 x2 p := alts_first _
noncomputable def q81l0 (m : Nat) : SumK := fun vals s =>
 match vals, s.h with
 | [.iface f0 .nilIface, .iface f1 .nilIface, .int .i64 x0], [⟨true, some (.tab [.int .i64, .int .i64, .fl .f32, .fl .f32, .fl .f32, .fl .f32, .fl .f32, .fl .f32] x1)⟩, ⟨true, some (.tab [.int .i64, .int .i64, .fl .f32, .fl .f32, .fl .f32, .fl .f32, .fl .f32, .fl .f32] x2)⟩] => if f0 = 0 ∧ f1 = 1 then [((Nat.beq (r81l0 m x0 x1 x2) 0), .ret, [.bool false], ⟨[⟨true, (some (.tab sc0 x1))⟩, ⟨true, (some (.tab sc0 x2))⟩], 2, []⟩), ((Nat.beq (r81l0 m x0 x1 x2) 1), .exit 0, [anyV], ⟨[⟨true, (some (.tab sc0 x1))⟩, ⟨true, (some (.tab sc0 x2))⟩], 2, []⟩)] else noQ vals s
 | _, _ => noQ vals s
noncomputable def w81l0 (ih : Int → List (List Int) → List (List Int) → Nat) (x0 : Int) (x1 x2 : List (List Int)) : Option (Fin' × List Value × St) :=
 let c157 := (r120 ((x1.getD (Int.toNat x0) []).getD 0 0) ((x1.getD (Int.toNat x0) []).getD 1 0) (Int.toNat ((x1.getD (Int.toNat x0) []).getD 2 0)) (Int.toNat ((x1.getD (Int.toNat x0) []).getD 3 0)) (Int.toNat ((x1.getD (Int.toNat x0) []).getD 4 0)) (Int.toNat ((x1.getD (Int.toNat x0) []).getD 5 0)) (Int.toNat ((x1.getD (Int.toNat x0) []).getD 6 0)) (Int.toNat ((x1.getD (Int.toNat x0) []).getD 7 0)) ((x2.getD (Int.toNat x0) []).getD 0 0) ((x2.getD (Int.toNat x0) []).getD 1 0) (Int.toNat ((x2.getD (Int.toNat x0) []).getD 2 0)) (Int.toNat ((x2.getD (Int.toNat x0) []).getD 3 0)) (Int.toNat ((x2.getD (Int.toNat x0) []).getD 4 0)) (Int.toNat ((x2.getD (Int.toNat x0) []).getD 5 0)) (Int.toNat ((x2.getD (Int.toNat x0) []).getD 6 0)) (Int.toNat ((x2.getD (Int.toNat x0) []).getD 7 0)))
 (cond (decide ((x0 : Int) < ((x1.length : Nat) : Int)))
 (cond ((decide ((0 : Int) ≤ x0)) && (Nat.blt (Int.toNat x0) x1.length))
  (cond (Nat.blt (Int.toNat x0) x1.length)
   (cond ((decide ((0 : Int) ≤ x0)) && (Nat.blt (Int.toNat x0) x2.length))
    (cond (Nat.blt (Int.toNat x0) x2.length)
     (cond (!c157)
      (a81l0 x0 x1 x2 (0))
      (u81l0 x0 x1 x2 (ih (IntKind.i64.wrap (x0 + 1)) x1 x2)))
     none)
    none)
   none)
  none)
 (a81l0 x0 x1 x2 (1)))
set_option maxRecDepth 100000 in
set_option maxHeartbeats 4000000 in
theorem e81l0 (m : Nat) (x0 : Int) (x1 x2 : List (List Int)) : evC Try.prog ext T44 noL 200 (loopN Try.f81 0) (loopTail ([0, 1, 5], []) [4] [] (sumK 27 [0, 1, 5] [4] (q81l0 m))) (frameOf 27 [0, 1, 5] [wsl 0, wsl 1, .int .i64 x0]) ⟨[⟨true, (some (.tab sc0 x1))⟩, ⟨true, (some (.tab sc0 x2))⟩], 2, []⟩ = firstT ([((Nat.beq (r81l0 (m + 1) x0 x1 x2) 0), .ret, [.bool false], ⟨[⟨true, (some (.tab sc0 x1))⟩, ⟨true, (some (.tab sc0 x2))⟩], 2, []⟩), ((Nat.beq (r81l0 (m + 1) x0 x1 x2) 1), .exit 0, [anyV], ⟨[⟨true, (some (.tab sc0 x1))⟩, ⟨true, (some (.tab sc0 x2))⟩], 2, []⟩)].map fun (b, x) => (b, (x.1, frameOf 27 [4] x.2.1, x.2.2))) :=
 (show evC Try.prog ext T44 noL 200 (loopN Try.f81 0) (loopTail ([0, 1, 5], []) [4] [] (sumK 27 [0, 1, 5] [4] (q81l0 m))) (frameOf 27 [0, 1, 5] [wsl 0, wsl 1, .int .i64 x0]) ⟨[⟨true, (some (.tab sc0 x1))⟩, ⟨true, (some (.tab sc0 x2))⟩], 2, []⟩ = w81l0 (r81l0 m) x0 x1 x2 from by kernel_rfl).trans
 (show w81l0 (r81l0 m) x0 x1 x2 = a81l0 x0 x1 x2 (r81l0 (m + 1) x0 x1 x2) from by unfold w81l0; show _ = a81l0 x0 x1 x2 (b81l0 (r81l0 m) x0 x1 x2); unfold b81l0; exact (cond_both (a81l0 x0 x1 x2) _ (fun h0 => (cond_both (a81l0 x0 x1 x2) _ (fun h1 => (cond_t (ev_and2 h1) (cond_both (a81l0 x0 x1 x2) _ (fun h2 => (cond_t (ev_and2 h2) (cond_app (a81l0 x0 x1 x2) _ rfl (v81l0 x0 x1 x2 ((r81l0 m) (IntKind.i64.wrap (x0 + 1)) x1 x2))))) (fun h2 => rfl)))) (fun h1 => rfl))) (fun h0 => rfl)))
set_option maxRecDepth 100000 in
set_option maxHeartbeats 4000000 in
theorem qm81l0 : ∀ m, SumKOk Try.prog (loopN Try.f81 0) 27 [0, 1, 5] [4] (q81l0 m) := by
  intro m
  induction m with
  | zero =>
    intro vals s x h1 h2 h3
    unfold q81l0 at h3; split at h3
    · rename_i h; split at h3
      · rename_i hc; obtain ⟨rfl, rfl⟩ := hc; exact absurd h3 (by simp [r81l0, firstT, Nat.beq])
      · exact noQ_ok _ _ _ h1 h2 h3
    · exact noQ_ok _ _ _ h1 h2 h3
  | succ m ih =>
    intro vals s x h1 h2 h3
    unfold q81l0 at h3; split at h3
    · rename_i h; split at h3
      · rename_i hc; obtain ⟨rfl, rfl⟩ := hc; exact sum_step ok44 extOk mixed ((lfOkF_no _ _).inner (by kernel_rfl)) ih h1 h2 h (e81l0 m _ _ _) rfl h3
      · exact noQ_ok _ _ _ h1 h2 h3
    · exact noQ_ok _ _ _ h1 h2 h3
noncomputable def Q81l0 : SumK := fun vals s => q81l0 (fuelOf vals s.h) vals s
theorem qok81l0 : SumKOk Try.prog (loopN Try.f81 0) 27 [0, 1, 5] [4] Q81l0 := fuel_ok qm81l0 fuelOf
noncomputable def L81_1 : LoopT := addL noL 5 ([0, 1, 5], []) (sumK 27 [0, 1, 5] [4] Q81l0)
theorem lok81_1 : LfOkF Try.prog L81_1 Try.f81 := lfOkF_add (lfOkF_no _ _) qok81l0 (by kernel_rfl) (by kernel_rfl) (by kernel_rfl)

/-- laws.eqWallS -/
noncomputable def r81 (x0 x1 : List (List Int)) : Nat × Bool :=
 cond ((((x0.length : Nat) : Int) : Int) != ((x1.length : Nat) : Int))
  (0, false)
  (cond (Nat.beq (r81l0 (1000 + x1.length + x0.length) 0 x0 x1) 0)
   (0, false)
   (cond (Nat.beq (r81l0 (1000 + x1.length + x0.length) 0 x0 x1) 1)
    (0, true)
    (1, false)))
noncomputable def a81 (x0 x1 : List (List Int)) (p : Nat × Bool) : Res := firstT [((Nat.beq (p.1) 0), .bool (p.2), ⟨[⟨true, (some (.tab sc0 x0))⟩, ⟨true, (some (.tab sc0 x1))⟩], 2, []⟩)]
noncomputable def w81 (x0 x1 : List (List Int)) : Res :=
 (cond ((((x0.length : Nat) : Int) : Int) != ((x1.length : Nat) : Int))
 (a81 x0 x1 (0, false))
 (cond (Nat.beq (r81l0 (1000 + x1.length + x0.length) 0 x0 x1) 0)
  (a81 x0 x1 (0, false))
  (cond (Nat.beq (r81l0 (1000 + x1.length + x0.length) 0 x0 x1) 1)
   (a81 x0 x1 (0, true))
   none)))
set_option maxRecDepth 100000 in
set_option maxHeartbeats 4000000 in
theorem e81 (x0 x1 : List (List Int)) : evFn Try.prog ext T44 L81_1 200 Try.f81 [wsl 0, wsl 1] ⟨[⟨true, (some (.tab sc0 x0))⟩, ⟨true, (some (.tab sc0 x1))⟩], 2, []⟩ = firstT [((Nat.beq ((r81 x0 x1).1) 0), .bool ((r81 x0 x1).2), ⟨[⟨true, (some (.tab sc0 x0))⟩, ⟨true, (some (.tab sc0 x1))⟩], 2, []⟩)] :=
 (show evFn Try.prog ext T44 L81_1 200 Try.f81 [wsl 0, wsl 1] ⟨[⟨true, (some (.tab sc0 x0))⟩, ⟨true, (some (.tab sc0 x1))⟩], 2, []⟩ = w81 x0 x1 from by kernel_rfl).trans
 (show w81 x0 x1 = a81 x0 x1 (r81 x0 x1) from by unfold w81 r81; exact (cond_app (a81 x0 x1) _ rfl (cond_app (a81 x0 x1) _ rfl (cond_app (a81 x0 x1) _ rfl rfl))))
noncomputable def s81 (args : List Value) (s : St) : List (Bool × Value × St) :=
 match args, s.h with
 | [.iface f0 .nilIface, .iface f1 .nilIface], [⟨true, some (.tab [.int .i64, .int .i64, .fl .f32, .fl .f32, .fl .f32, .fl .f32, .fl .f32, .fl .f32] x0)⟩, ⟨true, some (.tab [.int .i64, .int .i64, .fl .f32, .fl .f32, .fl .f32, .fl .f32, .fl .f32, .fl .f32] x1)⟩] => if f0 = 0 ∧ f1 = 1 then [((Nat.beq ((r81 x0 x1).1) 0), .bool ((r81 x0 x1).2), ⟨[⟨true, (some (.tab sc0 x0))⟩, ⟨true, (some (.tab sc0 x1))⟩], 2, []⟩)] else T44 81 args s
 | _, _ => T44 81 args s
noncomputable def T45 : CallF := addF T44 81 s81
set_option maxRecDepth 100000 in
set_option maxHeartbeats 4000000 in
theorem ok45 : CfOk Try.prog T45 := by
  refine cfOk_add ok44 fun args s r s' h1 h2 h3 => ?_
  unfold s81 at h3; split at h3
  · rename_i h; split at h3
    · rename_i hc; obtain ⟨rfl, rfl⟩ := hc; exact callOk ok44 Try.func81 h1 h2 h lok81_1.body (e81 _ _) rfl h3
    · exact ok44 _ _ _ _ _ h1 h2 h3
  · exact ok44 _ _ _ _ _ h1 h2 h3

/-- laws.eqPane -/
noncomputable def r121 (x0 x1 : Int) (x2 x3 : Nat) (x4 x5 : Int) (x6 x7 : Nat) : Bool :=
 cond ((x0 : Int) != x4)
  (false)
  (cond ((x1 : Int) != x5)
   (false)
   (cond (!(r27 (widen x2) (widen x6)))
    (false)
    (cond (!(r27 (widen x3) (widen x7)))
     (false)
     (true))))
noncomputable def a121 (x0 x1 : Int) (x2 x3 : Nat) (x4 x5 : Int) (x6 x7 : Nat) (p : Bool) : Res := firstT [(true, .bool p, st0)]
noncomputable def w121 (x0 x1 : Int) (x2 x3 : Nat) (x4 x5 : Int) (x6 x7 : Nat) : Res :=
 (cond ((x0 : Int) != x4)
 (a121 x0 x1 x2 x3 x4 x5 x6 x7 (false))
 (cond ((x1 : Int) != x5)
  (a121 x0 x1 x2 x3 x4 x5 x6 x7 (false))
  (cond (!(r27 (widen x2) (widen x6)))
   (a121 x0 x1 x2 x3 x4 x5 x6 x7 (false))
   (cond (!(r27 (widen x3) (widen x7)))
    (a121 x0 x1 x2 x3 x4 x5 x6 x7 (false))
    (a121 x0 x1 x2 x3 x4 x5 x6 x7 (true))))))
set_option maxRecDepth 100000 in
set_option maxHeartbeats 4000000 in
theorem e121 (x0 x1 : Int) (x2 x3 : Nat) (x4 x5 : Int) (x6 x7 : Nat) : evFn Try.prog ext T45 noL 200 Try.f121 [.agg #[.int .i64 x0, .int .i64 x1, .float .f32 x2, .float .f32 x3], .agg #[.int .i64 x4, .int .i64 x5, .float .f32 x6, .float .f32 x7]] st0 = firstT [(true, .bool (r121 x0 x1 x2 x3 x4 x5 x6 x7), st0)] :=
 (show evFn Try.prog ext T45 noL 200 Try.f121 [.agg #[.int .i64 x0, .int .i64 x1, .float .f32 x2, .float .f32 x3], .agg #[.int .i64 x4, .int .i64 x5, .float .f32 x6, .float .f32 x7]] st0 = w121 x0 x1 x2 x3 x4 x5 x6 x7 from by kernel_rfl).trans
 (show w121 x0 x1 x2 x3 x4 x5 x6 x7 = a121 x0 x1 x2 x3 x4 x5 x6 x7 (r121 x0 x1 x2 x3 x4 x5 x6 x7) from by unfold w121 r121; exact (cond_app (a121 x0 x1 x2 x3 x4 x5 x6 x7) _ rfl (cond_app (a121 x0 x1 x2 x3 x4 x5 x6 x7) _ rfl (cond_app (a121 x0 x1 x2 x3 x4 x5 x6 x7) _ rfl (cond_app (a121 x0 x1 x2 x3 x4 x5 x6 x7) _ rfl rfl)))))
noncomputable def s121 (args : List Value) (s : St) : List (Bool × Value × St) :=
 match args, s.h with
 | [.agg ⟨[.int .i64 x0, .int .i64 x1, .float .f32 x2, .float .f32 x3]⟩, .agg ⟨[.int .i64 x4, .int .i64 x5, .float .f32 x6, .float .f32 x7]⟩], [] => [(true, .bool (r121 x0 x1 x2 x3 x4 x5 x6 x7), st0)]
 | _, _ => T45 121 args s
noncomputable def T46 : CallF := addF T45 121 s121
set_option maxRecDepth 100000 in
set_option maxHeartbeats 4000000 in
theorem ok46 : CfOk Try.prog T46 := by
  refine cfOk_add ok45 fun args s r s' h1 h2 h3 => ?_
  unfold s121 at h3; split at h3
  · rename_i h; exact callOk ok45 Try.func121 h1 h2 h (lfOkF_no _ _).body (e121 _ _ _ _ _ _ _ _) rfl h3
  · exact ok45 _ _ _ _ _ h1 h2 h3

/-- laws.eqPaneS, loop 0: one round -/
noncomputable def b82l0 (ih : Int → List (List Int) → List (List Int) → Nat) (x0 : Int) (x1 x2 : List (List Int)) : Nat :=
 let c174 := (r121 ((x1.getD (Int.toNat x0) []).getD 0 0) ((x1.getD (Int.toNat x0) []).getD 1 0) (Int.toNat ((x1.getD (Int.toNat x0) []).getD 2 0)) (Int.toNat ((x1.getD (Int.toNat x0) []).getD 3 0)) ((x2.getD (Int.toNat x0) []).getD 0 0) ((x2.getD (Int.toNat x0) []).getD 1 0) (Int.toNat ((x2.getD (Int.toNat x0) []).getD 2 0)) (Int.toNat ((x2.getD (Int.toNat x0) []).getD 3 0)))
 cond (decide ((x0 : Int) < ((x1.length : Nat) : Int)))
  (cond ((decide ((0 : Int) ≤ x0)) && (Nat.blt (Int.toNat x0) x1.length))
   (cond ((decide ((0 : Int) ≤ x0)) && (Nat.blt (Int.toNat x0) x2.length))
    (cond (!c174)
     (0)
     (ih (IntKind.i64.wrap (x0 + 1)) x1 x2))
    (2))
   (2))
  (1)
noncomputable def r82l0 : Nat → Int → List (List Int) → List (List Int) → Nat
 | 0 => fun _ _ _ => (2)
 | m + 1 => b82l0 (r82l0 m)
noncomputable def a82l0 (x0 : Int) (x1 x2 : List (List Int)) (p : Nat) : Option (Fin' × List Value × St) := firstT ([((Nat.beq p 0), .ret, [.bool false], ⟨[⟨true, (some (.tab sc1 x1))⟩, ⟨true, (some (.tab sc1 x2))⟩], 2, []⟩), ((Nat.beq p 1), .exit 0, [anyV], ⟨[⟨true, (some (.tab sc1 x1))⟩, ⟨true, (some (.tab sc1 x2))⟩], 2, []⟩)].map fun (b, x) => (b, (x.1, frameOf 27 [4] x.2.1, x.2.2)))
noncomputable def u82l0 (x0 : Int) (x1 x2 : List (List Int)) (p : Nat) : Option (Fin' × List Value × St) := alts ([((Nat.beq p 0), .ret, [.bool false], ⟨[⟨true, (some (.tab sc1 x1))⟩, ⟨true, (some (.tab sc1 x2))⟩], 2, []⟩), ((Nat.beq p 1), .exit 0, [anyV], ⟨[⟨true, (some (.tab sc1 x1))⟩, ⟨true, (some (.tab sc1 x2))⟩], 2, []⟩)].map fun (b, x) => (b, (x.1, frameOf 27 [4] x.2.1, x.2.2))) some
theorem v82l0 (x0 : Int) (x1 x2 : List (List Int)) (p : Nat) : u82l0 x0 x1 x2 p = a82l0 x0 x1 x2 p := alts_first _
noncomputable def q82l0 (m : Nat) : SumK := fun vals s =>
 match vals, s.h with
 | [.iface f0 .nilIface, .iface f1 .nilIface, .int .i64 x0], [⟨true, some (.tab [.int .i64, .int .i64, .fl .f32, .fl .f32] x1)⟩, ⟨true, some (.tab [.int .i64, .int .i64, .fl .f32, .fl .f32] x2)⟩] => if f0 = 0 ∧ f1 = 1 then [((Nat.beq (r82l0 m x0 x1 x2) 0), .ret, [.bool false], ⟨[⟨true, (some (.tab sc1 x1))⟩, ⟨true, (some (.tab sc1 x2))⟩], 2, []⟩), ((Nat.beq (r82l0 m x0 x1 x2) 1), .exit 0, [anyV], ⟨[⟨true, (some (.tab sc1 x1))⟩, ⟨true, (some (.tab sc1 x2))⟩], 2, []⟩)] else noQ vals s
 | _, _ => noQ vals s
noncomputable def w82l0 (ih : Int → List (List Int) → List (List Int) → Nat) (x0 : Int) (x1 x2 : List (List Int)) : Option (Fin' × List Value × St) :=
 let c174 := (r121 ((x1.getD (Int.toNat x0) []).getD 0 0) ((x1.getD (Int.toNat x0) []).getD 1 0) (Int.toNat ((x1.getD (Int.toNat x0) []).getD 2 0)) (Int.toNat ((x1.getD (Int.toNat x0) []).getD 3 0)) ((x2.getD (Int.toNat x0) []).getD 0 0) ((x2.getD (Int.toNat x0) []).getD 1 0) (Int.toNat ((x2.getD (Int.toNat x0) []).getD 2 0)) (Int.toNat ((x2.getD (Int.toNat x0) []).getD 3 0)))
 (cond (decide ((x0 : Int) < ((x1.length : Nat) : Int)))
 (cond ((decide ((0 : Int) ≤ x0)) && (Nat.blt (Int.toNat x0) x1.length))
  (cond (Nat.blt (Int.toNat x0) x1.length)
   (cond ((decide ((0 : Int) ≤ x0)) && (Nat.blt (Int.toNat x0) x2.length))
    (cond (Nat.blt (Int.toNat x0) x2.length)
     (cond (!c174)
      (a82l0 x0 x1 x2 (0))
      (u82l0 x0 x1 x2 (ih (IntKind.i64.wrap (x0 + 1)) x1 x2)))
     none)
    none)
   none)
  none)
 (a82l0 x0 x1 x2 (1)))
set_option maxRecDepth 100000 in
set_option maxHeartbeats 4000000 in
theorem e82l0 (m : Nat) (x0 : Int) (x1 x2 : List (List Int)) : evC Try.prog ext T46 noL 200 (loopN Try.f82 0) (loopTail ([0, 1, 5], []) [4] [] (sumK 27 [0, 1, 5] [4] (q82l0 m))) (frameOf 27 [0, 1, 5] [wsl 0, wsl 1, .int .i64 x0]) ⟨[⟨true, (some (.tab sc1 x1))⟩, ⟨true, (some (.tab sc1 x2))⟩], 2, []⟩ = firstT ([((Nat.beq (r82l0 (m + 1) x0 x1 x2) 0), .ret, [.bool false], ⟨[⟨true, (some (.tab sc1 x1))⟩, ⟨true, (some (.tab sc1 x2))⟩], 2, []⟩), ((Nat.beq (r82l0 (m + 1) x0 x1 x2) 1), .exit 0, [anyV], ⟨[⟨true, (some (.tab sc1 x1))⟩, ⟨true, (some (.tab sc1 x2))⟩], 2, []⟩)].map fun (b, x) => (b, (x.1, frameOf 27 [4] x.2.1, x.2.2))) :=
 (show evC Try.prog ext T46 noL 200 (loopN Try.f82 0) (loopTail ([0, 1, 5], []) [4] [] (sumK 27 [0, 1, 5] [4] (q82l0 m))) (frameOf 27 [0, 1, 5] [wsl 0, wsl 1, .int .i64 x0]) ⟨[⟨true, (some (.tab sc1 x1))⟩, ⟨true, (some (.tab sc1 x2))⟩], 2, []⟩ = w82l0 (r82l0 m) x0 x1 x2 from by kernel_rfl).trans
 (show w82l0 (r82l0 m) x0 x1 x2 = a82l0 x0 x1 x2 (r82l0 (m + 1) x0 x1 x2) from by unfold w82l0; show _ = a82l0 x0 x1 x2 (b82l0 (r82l0 m) x0 x1 x2); unfold b82l0; exact (cond_both (a82l0 x0 x1 x2) _ (fun h0 => (cond_both (a82l0 x0 x1 x2) _ (fun h1 => (cond_t (ev_and2 h1) (cond_both (a82l0 x0 x1 x2) _ (fun h2 => (cond_t (ev_and2 h2) (cond_app (a82l0 x0 x1 x2) _ rfl (v82l0 x0 x1 x2 ((r82l0 m) (IntKind.i64.wrap (x0 + 1)) x1 x2))))) (fun h2 => rfl)))) (fun h1 => rfl))) (fun h0 => rfl)))
set_option maxRecDepth 100000 in
set_option maxHeartbeats 4000000 in
theorem qm82l0 : ∀ m, SumKOk Try.prog (loopN Try.f82 0) 27 [0, 1, 5] [4] (q82l0 m) := by
  intro m
  induction m with
  | zero =>
    intro vals s x h1 h2 h3
    unfold q82l0 at h3; split at h3
    · rename_i h; split at h3
      · rename_i hc; obtain ⟨rfl, rfl⟩ := hc; exact absurd h3 (by simp [r82l0, firstT, Nat.beq])
      · exact noQ_ok _ _ _ h1 h2 h3
    · exact noQ_ok _ _ _ h1 h2 h3
  | succ m ih =>
    intro vals s x h1 h2 h3
    unfold q82l0 at h3; split at h3
    · rename_i h; split at h3
      · rename_i hc; obtain ⟨rfl, rfl⟩ := hc; exact sum_step ok46 extOk mixed ((lfOkF_no _ _).inner (by kernel_rfl)) ih h1 h2 h (e82l0 m _ _ _) rfl h3
      · exact noQ_ok _ _ _ h1 h2 h3
    · exact noQ_ok _ _ _ h1 h2 h3
noncomputable def Q82l0 : SumK := fun vals s => q82l0 (fuelOf vals s.h) vals s
theorem qok82l0 : SumKOk Try.prog (loopN Try.f82 0) 27 [0, 1, 5] [4] Q82l0 := fuel_ok qm82l0 fuelOf
noncomputable def L82_1 : LoopT := addL noL 5 ([0, 1, 5], []) (sumK 27 [0, 1, 5] [4] Q82l0)
theorem lok82_1 : LfOkF Try.prog L82_1 Try.f82 := lfOkF_add (lfOkF_no _ _) qok82l0 (by kernel_rfl) (by kernel_rfl) (by kernel_rfl)

/-- laws.eqPaneS -/
noncomputable def r82 (x0 x1 : List (List Int)) : Nat × Bool :=
 cond ((((x0.length : Nat) : Int) : Int) != ((x1.length : Nat) : Int))
  (0, false)
  (cond (Nat.beq (r82l0 (1000 + x1.length + x0.length) 0 x0 x1) 0)
   (0, false)
   (cond (Nat.beq (r82l0 (1000 + x1.length + x0.length) 0 x0 x1) 1)
    (0, true)
    (1, false)))
noncomputable def a82 (x0 x1 : List (List Int)) (p : Nat × Bool) : Res := firstT [((Nat.beq (p.1) 0), .bool (p.2), ⟨[⟨true, (some (.tab sc1 x0))⟩, ⟨true, (some (.tab sc1 x1))⟩], 2, []⟩)]
noncomputable def w82 (x0 x1 : List (List Int)) : Res :=
 (cond ((((x0.length : Nat) : Int) : Int) != ((x1.length : Nat) : Int))
 (a82 x0 x1 (0, false))
 (cond (Nat.beq (r82l0 (1000 + x1.length + x0.length) 0 x0 x1) 0)
  (a82 x0 x1 (0, false))
  (cond (Nat.beq (r82l0 (1000 + x1.length + x0.length) 0 x0 x1) 1)
   (a82 x0 x1 (0, true))
   none)))
set_option maxRecDepth 100000 in
set_option maxHeartbeats 4000000 in
theorem e82 (x0 x1 : List (List Int)) : evFn Try.prog ext T46 L82_1 200 Try.f82 [wsl 0, wsl 1] ⟨[⟨true, (some (.tab sc1 x0))⟩, ⟨true, (some (.tab sc1 x1))⟩], 2, []⟩ = firstT [((Nat.beq ((r82 x0 x1).1) 0), .bool ((r82 x0 x1).2), ⟨[⟨true, (some (.tab sc1 x0))⟩, ⟨true, (some (.tab sc1 x1))⟩], 2, []⟩)] :=
 (show evFn Try.prog ext T46 L82_1 200 Try.f82 [wsl 0, wsl 1] ⟨[⟨true, (some (.tab sc1 x0))⟩, ⟨true, (some (.tab sc1 x1))⟩], 2, []⟩ = w82 x0 x1 from by kernel_rfl).trans
 (show w82 x0 x1 = a82 x0 x1 (r82 x0 x1) from by unfold w82 r82; exact (cond_app (a82 x0 x1) _ rfl (cond_app (a82 x0 x1) _ rfl (cond_app (a82 x0 x1) _ rfl rfl))))
noncomputable def s82 (args : List Value) (s : St) : List (Bool × Value × St) :=
 match args, s.h with
 | [.iface f0 .nilIface, .iface f1 .nilIface], [⟨true, some (.tab [.int .i64, .int .i64, .fl .f32, .fl .f32] x0)⟩, ⟨true, some (.tab [.int .i64, .int .i64, .fl .f32, .fl .f32] x1)⟩] => if f0 = 0 ∧ f1 = 1 then [((Nat.beq ((r82 x0 x1).1) 0), .bool ((r82 x0 x1).2), ⟨[⟨true, (some (.tab sc1 x0))⟩, ⟨true, (some (.tab sc1 x1))⟩], 2, []⟩)] else T46 82 args s
 | _, _ => T46 82 args s
noncomputable def T47 : CallF := addF T46 82 s82
set_option maxRecDepth 100000 in
set_option maxHeartbeats 4000000 in
theorem ok47 : CfOk Try.prog T47 := by
  refine cfOk_add ok46 fun args s r s' h1 h2 h3 => ?_
  unfold s82 at h3; split at h3
  · rename_i h; split at h3
    · rename_i hc; obtain ⟨rfl, rfl⟩ := hc; exact callOk ok46 Try.func82 h1 h2 h lok82_1.body (e82 _ _) rfl h3
    · exact ok46 _ _ _ _ _ h1 h2 h3
  · exact ok46 _ _ _ _ _ h1 h2 h3

/-- laws.eqFlat -/
noncomputable def r28 (x0 x1 x2 x3 x4 x5 x6 x7 : List (List Int)) : Nat × Bool :=
 cond (Nat.beq ((r31b x0 x4).1) 0)
  (cond (!((r31b x0 x4).2))
   (0, false)
   (cond (Nat.beq ((r31b x1 x5).1) 0)
    (cond (!((r31b x1 x5).2))
     (0, false)
     (cond (Nat.beq ((r81 x2 x6).1) 0)
      (cond (!((r81 x2 x6).2))
       (0, false)
       (cond (Nat.beq ((r82 x3 x7).1) 0)
        (cond (!((r82 x3 x7).2))
         (0, false)
         (0, true))
        (1, false)))
      (1, false)))
    (1, false)))
  (1, false)
noncomputable def a28 (x0 x1 x2 x3 x4 x5 x6 x7 : List (List Int)) (p : Nat × Bool) : Res := firstT [((Nat.beq (p.1) 0), .bool (p.2), ⟨[⟨true, (some (.tab [.fl .f32] x0))⟩, ⟨true, (some (.tab [.fl .f32] x1))⟩, ⟨true, (some (.tab sc0 x2))⟩, ⟨true, (some (.tab sc1 x3))⟩, ⟨true, (some (.tab [.fl .f32] x4))⟩, ⟨true, (some (.tab [.fl .f32] x5))⟩, ⟨true, (some (.tab sc0 x6))⟩, ⟨true, (some (.tab sc1 x7))⟩], 8, []⟩)]
noncomputable def w28 (x0 x1 x2 x3 x4 x5 x6 x7 : List (List Int)) : Res :=
 (cond (Nat.beq ((r31b x0 x4).1) 0)
 (cond (!((r31b x0 x4).2))
  (a28 x0 x1 x2 x3 x4 x5 x6 x7 (0, false))
  (cond (Nat.beq ((r31b x1 x5).1) 0)
   (cond (!((r31b x1 x5).2))
    (a28 x0 x1 x2 x3 x4 x5 x6 x7 (0, false))
    (cond (Nat.beq ((r81 x2 x6).1) 0)
     (cond (!((r81 x2 x6).2))
      (a28 x0 x1 x2 x3 x4 x5 x6 x7 (0, false))
      (cond (Nat.beq ((r82 x3 x7).1) 0)
       (cond (!((r82 x3 x7).2))
        (a28 x0 x1 x2 x3 x4 x5 x6 x7 (0, false))
        (a28 x0 x1 x2 x3 x4 x5 x6 x7 (0, true)))
       none))
     none))
   none))
 none)
set_option maxRecDepth 100000 in
set_option maxHeartbeats 4000000 in
theorem e28 (x0 x1 x2 x3 x4 x5 x6 x7 : List (List Int)) : evFn Try.prog ext T47 noL 200 Try.f28 [.agg #[wsl 0, wsl 1, wsl 2, wsl 3], .agg #[wsl 4, wsl 5, wsl 6, wsl 7]] ⟨[⟨true, (some (.tab [.fl .f32] x0))⟩, ⟨true, (some (.tab [.fl .f32] x1))⟩, ⟨true, (some (.tab sc0 x2))⟩, ⟨true, (some (.tab sc1 x3))⟩, ⟨true, (some (.tab [.fl .f32] x4))⟩, ⟨true, (some (.tab [.fl .f32] x5))⟩, ⟨true, (some (.tab sc0 x6))⟩, ⟨true, (some (.tab sc1 x7))⟩], 8, []⟩ = firstT [((Nat.beq ((r28 x0 x1 x2 x3 x4 x5 x6 x7).1) 0), .bool ((r28 x0 x1 x2 x3 x4 x5 x6 x7).2), ⟨[⟨true, (some (.tab [.fl .f32] x0))⟩, ⟨true, (some (.tab [.fl .f32] x1))⟩, ⟨true, (some (.tab sc0 x2))⟩, ⟨true, (some (.tab sc1 x3))⟩, ⟨true, (some (.tab [.fl .f32] x4))⟩, ⟨true, (some (.tab [.fl .f32] x5))⟩, ⟨true, (some (.tab sc0 x6))⟩, ⟨true, (some (.tab sc1 x7))⟩], 8, []⟩)] :=
 (show evFn Try.prog ext T47 noL 200 Try.f28 [.agg #[wsl 0, wsl 1, wsl 2, wsl 3], .agg #[wsl 4, wsl 5, wsl 6, wsl 7]] ⟨[⟨true, (some (.tab [.fl .f32] x0))⟩, ⟨true, (some (.tab [.fl .f32] x1))⟩, ⟨true, (some (.tab sc0 x2))⟩, ⟨true, (some (.tab sc1 x3))⟩, ⟨true, (some (.tab [.fl .f32] x4))⟩, ⟨true, (some (.tab [.fl .f32] x5))⟩, ⟨true, (some (.tab sc0 x6))⟩, ⟨true, (some (.tab sc1 x7))⟩], 8, []⟩ = w28 x0 x1 x2 x3 x4 x5 x6 x7 from by kernel_rfl).trans
 (show w28 x0 x1 x2 x3 x4 x5 x6 x7 = a28 x0 x1 x2 x3 x4 x5 x6 x7 (r28 x0 x1 x2 x3 x4 x5 x6 x7) from by unfold w28 r28; exact (cond_app (a28 x0 x1 x2 x3 x4 x5 x6 x7) _ (cond_app (a28 x0 x1 x2 x3 x4 x5 x6 x7) _ rfl (cond_app (a28 x0 x1 x2 x3 x4 x5 x6 x7) _ (cond_app (a28 x0 x1 x2 x3 x4 x5 x6 x7) _ rfl (cond_app (a28 x0 x1 x2 x3 x4 x5 x6 x7) _ (cond_app (a28 x0 x1 x2 x3 x4 x5 x6 x7) _ rfl (cond_app (a28 x0 x1 x2 x3 x4 x5 x6 x7) _ (cond_app (a28 x0 x1 x2 x3 x4 x5 x6 x7) _ rfl rfl) rfl)) rfl)) rfl)) rfl))
noncomputable def s28 (args : List Value) (s : St) : List (Bool × Value × St) :=
 match args, s.h with
 | [.agg ⟨[.iface f0 .nilIface, .iface f1 .nilIface, .iface f2 .nilIface, .iface f3 .nilIface]⟩, .agg ⟨[.iface f4 .nilIface, .iface f5 .nilIface, .iface f6 .nilIface, .iface f7 .nilIface]⟩], [⟨true, some (.tab [.fl .f32] x0)⟩, ⟨true, some (.tab [.fl .f32] x1)⟩, ⟨true, some (.tab [.int .i64, .int .i64, .fl .f32, .fl .f32, .fl .f32, .fl .f32, .fl .f32, .fl .f32] x2)⟩, ⟨true, some (.tab [.int .i64, .int .i64, .fl .f32, .fl .f32] x3)⟩, ⟨true, some (.tab [.fl .f32] x4)⟩, ⟨true, some (.tab [.fl .f32] x5)⟩, ⟨true, some (.tab [.int .i64, .int .i64, .fl .f32, .fl .f32, .fl .f32, .fl .f32, .fl .f32, .fl .f32] x6)⟩, ⟨true, some (.tab [.int .i64, .int .i64, .fl .f32, .fl .f32] x7)⟩] => if f0 = 0 ∧ f1 = 1 ∧ f2 = 2 ∧ f3 = 3 ∧ f4 = 4 ∧ f5 = 5 ∧ f6 = 6 ∧ f7 = 7 then [((Nat.beq ((r28 x0 x1 x2 x3 x4 x5 x6 x7).1) 0), .bool ((r28 x0 x1 x2 x3 x4 x5 x6 x7).2), ⟨[⟨true, (some (.tab [.fl .f32] x0))⟩, ⟨true, (some (.tab [.fl .f32] x1))⟩, ⟨true, (some (.tab sc0 x2))⟩, ⟨true, (some (.tab sc1 x3))⟩, ⟨true, (some (.tab [.fl .f32] x4))⟩, ⟨true, (some (.tab [.fl .f32] x5))⟩, ⟨true, (some (.tab sc0 x6))⟩, ⟨true, (some (.tab sc1 x7))⟩], 8, []⟩)] else T47 28 args s
 | _, _ => T47 28 args s
noncomputable def T48 : CallF := addF T47 28 s28
set_option maxRecDepth 100000 in
set_option maxHeartbeats 4000000 in
theorem ok48 : CfOk Try.prog T48 := by
  refine cfOk_add ok47 fun args s r s' h1 h2 h3 => ?_
  unfold s28 at h3; split at h3
  · rename_i h; split at h3
    · rename_i hc; obtain ⟨rfl, rfl, rfl, rfl, rfl, rfl, rfl, rfl⟩ := hc; exact callOk ok47 Try.func28 h1 h2 h (lfOkF_no _ _).body (e28 _ _ _ _ _ _ _ _) rfl h3
    · exact ok47 _ _ _ _ _ h1 h2 h3
  · exact ok47 _ _ _ _ _ h1 h2 h3

/-- laws.markFloat32S, loop 0: one round -/
noncomputable def b33l0 (ih : Int → Int → List (List Int) → (Nat × Int × List (List Int))) (x0 x1 : Int) (x2 : List (List Int)) : Nat × Int × List (List Int) :=
 cond (decide ((x1 : Int) < ((x2.length : Nat) : Int)))
  (cond ((decide ((0 : Int) ≤ x1)) && (Nat.blt (Int.toNat x1) x2.length))
   (ih (IntKind.i64.wrap (x0 + 1)) (IntKind.i64.wrap (x1 + 1)) (x2.set (Int.toNat x1) [(((ofInt .f32 x0) : Nat) : Int)]))
   (1, 0, []))
  (0, x0, x2)
noncomputable def r33l0 : Nat → Int → Int → List (List Int) → (Nat × Int × List (List Int))
 | 0 => fun _ _ _ => (1, 0, [])
 | m + 1 => b33l0 (r33l0 m)
noncomputable def a33l0 (x0 x1 : Int) (x2 : List (List Int)) (p : Nat × Int × List (List Int)) : Option (Fin' × List Value × St) := firstT ([((Nat.beq (p.1) 0), .exit 0, [.int .i64 (p.2.1)], ⟨[⟨true, (some (.tab [.fl .f32] (p.2.2)))⟩], 1, [0]⟩)].map fun (b, x) => (b, (x.1, frameOf 20 [1] x.2.1, x.2.2)))
noncomputable def u33l0 (x0 x1 : Int) (x2 : List (List Int)) (p : Nat × Int × List (List Int)) : Option (Fin' × List Value × St) := alts ([((Nat.beq (p.1) 0), .exit 0, [.int .i64 (p.2.1)], ⟨[⟨true, (some (.tab [.fl .f32] (p.2.2)))⟩], 1, [0]⟩)].map fun (b, x) => (b, (x.1, frameOf 20 [1] x.2.1, x.2.2))) some
theorem v33l0 (x0 x1 : Int) (x2 : List (List Int)) (p : Nat × Int × List (List Int)) : u33l0 x0 x1 x2 p = a33l0 x0 x1 x2 p := alts_first _
noncomputable def q33l0 (m : Nat) : SumK := fun vals s =>
 match vals, s.h with
 | [.iface f0 .nilIface, .int .i64 x0, .int .i64 x1], [⟨true, some (.tab [.fl .f32] x2)⟩] => if f0 = 0 then [((Nat.beq ((r33l0 m x0 x1 x2).1) 0), .exit 0, [.int .i64 ((r33l0 m x0 x1 x2).2.1)], ⟨[⟨true, (some (.tab [.fl .f32] ((r33l0 m x0 x1 x2).2.2)))⟩], 1, [0]⟩)] else noQ vals s
 | _, _ => noQ vals s
noncomputable def w33l0 (ih : Int → Int → List (List Int) → (Nat × Int × List (List Int))) (x0 x1 : Int) (x2 : List (List Int)) : Option (Fin' × List Value × St) :=
 (cond (decide ((x1 : Int) < ((x2.length : Nat) : Int)))
 (cond ((decide ((0 : Int) ≤ x1)) && (Nat.blt (Int.toNat x1) x2.length))
  (cond (Nat.blt (Int.toNat x1) x2.length)
   (u33l0 x0 x1 x2 (ih (IntKind.i64.wrap (x0 + 1)) (IntKind.i64.wrap (x1 + 1)) (x2.set (Int.toNat x1) [(((ofInt .f32 x0) : Nat) : Int)])))
   none)
  none)
 (a33l0 x0 x1 x2 (0, x0, x2)))
set_option maxRecDepth 100000 in
set_option maxHeartbeats 4000000 in
theorem e33l0 (m : Nat) (x0 x1 : Int) (x2 : List (List Int)) : evC Try.prog ext T48 noL 200 (loopN Try.f33 0) (loopTail ([0, 1, 5], []) [1] [0] (sumK 20 [0, 1, 5] [1] (q33l0 m))) (frameOf 20 [0, 1, 5] [wsl 0, .int .i64 x0, .int .i64 x1]) ⟨[⟨true, (some (.tab [.fl .f32] x2))⟩], 1, []⟩ = firstT ([((Nat.beq ((r33l0 (m + 1) x0 x1 x2).1) 0), .exit 0, [.int .i64 ((r33l0 (m + 1) x0 x1 x2).2.1)], ⟨[⟨true, (some (.tab [.fl .f32] ((r33l0 (m + 1) x0 x1 x2).2.2)))⟩], 1, [0]⟩)].map fun (b, x) => (b, (x.1, frameOf 20 [1] x.2.1, x.2.2))) :=
 (show evC Try.prog ext T48 noL 200 (loopN Try.f33 0) (loopTail ([0, 1, 5], []) [1] [0] (sumK 20 [0, 1, 5] [1] (q33l0 m))) (frameOf 20 [0, 1, 5] [wsl 0, .int .i64 x0, .int .i64 x1]) ⟨[⟨true, (some (.tab [.fl .f32] x2))⟩], 1, []⟩ = w33l0 (r33l0 m) x0 x1 x2 from by kernel_rfl).trans
 (show w33l0 (r33l0 m) x0 x1 x2 = a33l0 x0 x1 x2 (r33l0 (m + 1) x0 x1 x2) from by unfold w33l0; show _ = a33l0 x0 x1 x2 (b33l0 (r33l0 m) x0 x1 x2); unfold b33l0; exact (cond_both (a33l0 x0 x1 x2) _ (fun h0 => (cond_both (a33l0 x0 x1 x2) _ (fun h1 => (cond_t (ev_and2 h1) (v33l0 x0 x1 x2 ((r33l0 m) (IntKind.i64.wrap (x0 + 1)) (IntKind.i64.wrap (x1 + 1)) (x2.set (Int.toNat x1) [(((ofInt .f32 x0) : Nat) : Int)]))))) (fun h1 => rfl))) (fun h0 => rfl)))
set_option maxRecDepth 100000 in
set_option maxHeartbeats 4000000 in
theorem qm33l0 : ∀ m, SumKOk Try.prog (loopN Try.f33 0) 20 [0, 1, 5] [1] (q33l0 m) := by
  intro m
  induction m with
  | zero =>
    intro vals s x h1 h2 h3
    unfold q33l0 at h3; split at h3
    · rename_i h; split at h3
      · rename_i hc; obtain ⟨rfl⟩ := hc; exact absurd h3 (by simp [r33l0, firstT, Nat.beq])
      · exact noQ_ok _ _ _ h1 h2 h3
    · exact noQ_ok _ _ _ h1 h2 h3
  | succ m ih =>
    intro vals s x h1 h2 h3
    unfold q33l0 at h3; split at h3
    · rename_i h; split at h3
      · rename_i hc; obtain ⟨rfl⟩ := hc; exact sum_step ok48 extOk mixed ((lfOkF_no _ _).inner (by kernel_rfl)) ih h1 h2 h (e33l0 m _ _ _) rfl h3
      · exact noQ_ok _ _ _ h1 h2 h3
    · exact noQ_ok _ _ _ h1 h2 h3
noncomputable def Q33l0 : SumK := fun vals s => q33l0 (fuelOf vals s.h) vals s
theorem qok33l0 : SumKOk Try.prog (loopN Try.f33 0) 20 [0, 1, 5] [1] Q33l0 := fuel_ok qm33l0 fuelOf
noncomputable def L33_1 : LoopT := addL noL 3 ([0, 1, 5], []) (sumK 20 [0, 1, 5] [1] Q33l0)
theorem lok33_1 : LfOkF Try.prog L33_1 Try.f33 := lfOkF_add (lfOkF_no _ _) qok33l0 (by kernel_rfl) (by kernel_rfl) (by kernel_rfl)

/-- laws.markFloat32S -/
noncomputable def r33 (x0 : Int) (x1 : List (List Int)) : Nat × Int × List (List Int) :=
 cond (Nat.beq ((r33l0 (1000 + x1.length) x0 0 x1).1) 0)
  (0, ((r33l0 (1000 + x1.length) x0 0 x1).2.1), ((r33l0 (1000 + x1.length) x0 0 x1).2.2))
  (1, 0, [])
noncomputable def a33 (x0 : Int) (x1 : List (List Int)) (p : Nat × Int × List (List Int)) : Res := firstT [((Nat.beq (p.1) 0), .int .i64 (p.2.1), ⟨[⟨true, (some (.tab [.fl .f32] (p.2.2)))⟩], 1, [0]⟩)]
noncomputable def w33 (x0 : Int) (x1 : List (List Int)) : Res :=
 (cond (Nat.beq ((r33l0 (1000 + x1.length) x0 0 x1).1) 0)
 (a33 x0 x1 (0, ((r33l0 (1000 + x1.length) x0 0 x1).2.1), ((r33l0 (1000 + x1.length) x0 0 x1).2.2)))
 none)
set_option maxRecDepth 100000 in
set_option maxHeartbeats 4000000 in
theorem e33 (x0 : Int) (x1 : List (List Int)) : evFn Try.prog ext T48 L33_1 200 Try.f33 [wsl 0, .int .i64 x0] ⟨[⟨true, (some (.tab [.fl .f32] x1))⟩], 1, []⟩ = firstT [((Nat.beq ((r33 x0 x1).1) 0), .int .i64 ((r33 x0 x1).2.1), ⟨[⟨true, (some (.tab [.fl .f32] ((r33 x0 x1).2.2)))⟩], 1, [0]⟩)] :=
 (show evFn Try.prog ext T48 L33_1 200 Try.f33 [wsl 0, .int .i64 x0] ⟨[⟨true, (some (.tab [.fl .f32] x1))⟩], 1, []⟩ = w33 x0 x1 from by kernel_rfl).trans
 (show w33 x0 x1 = a33 x0 x1 (r33 x0 x1) from by unfold w33 r33; exact (cond_app (a33 x0 x1) _ rfl rfl))
noncomputable def s33 (args : List Value) (s : St) : List (Bool × Value × St) :=
 match args, s.h with
 | [.iface f0 .nilIface, .int .i64 x0], [⟨true, some (.tab [.fl .f32] x1)⟩] => if f0 = 0 then [((Nat.beq ((r33 x0 x1).1) 0), .int .i64 ((r33 x0 x1).2.1), ⟨[⟨true, (some (.tab [.fl .f32] ((r33 x0 x1).2.2)))⟩], 1, [0]⟩)] else T48 33 args s
 | _, _ => T48 33 args s
noncomputable def T49 : CallF := addF T48 33 s33
set_option maxRecDepth 100000 in
set_option maxHeartbeats 4000000 in
theorem ok49 : CfOk Try.prog T49 := by
  refine cfOk_add ok48 fun args s r s' h1 h2 h3 => ?_
  unfold s33 at h3; split at h3
  · rename_i h; split at h3
    · rename_i hc; obtain ⟨rfl⟩ := hc; exact callOk ok48 Try.func33 h1 h2 h lok33_1.body (e33 _ _) rfl h3
    · exact ok48 _ _ _ _ _ h1 h2 h3
  · exact ok48 _ _ _ _ _ h1 h2 h3

/-- laws.markWallS, loop 1 -/
noncomputable def r85l1 (x0 x1 : Int) (x2 : List (List Int)) : Unit :=
 ()
noncomputable def a85l1 (x0 x1 : Int) (x2 : List (List Int)) (p : Unit) : Option (Fin' × List Value × St) := firstT ([(true, .exit 2, [wsl 0, .int .i64 x0, .int .i64 x1], ⟨[⟨true, (some (.tab sc0 x2))⟩], 1, []⟩)].map fun (b, x) => (b, (x.1, frameOf 58 [0, 1, 5] x.2.1, x.2.2)))
noncomputable def w85l1 (x0 x1 : Int) (x2 : List (List Int)) : Option (Fin' × List Value × St) :=
 (a85l1 x0 x1 x2 ())
set_option maxRecDepth 100000 in
set_option maxHeartbeats 4000000 in
theorem e85l1 (x0 x1 : Int) (x2 : List (List Int)) : evC Try.prog ext T49 noL 200 (loopN Try.f85 1) (loopTail ([0, 1, 5, 6], []) [0, 1, 5] [] (sumK 58 [0, 1, 5, 6] [0, 1, 5] noQ)) (frameOf 58 [0, 1, 5, 6] [wsl 0, .int .i64 x0, .int .i64 x1, .int .i64 4]) ⟨[⟨true, (some (.tab sc0 x2))⟩], 1, []⟩ = firstT ([(true, .exit 2, [wsl 0, .int .i64 x0, .int .i64 x1], ⟨[⟨true, (some (.tab sc0 x2))⟩], 1, []⟩)].map fun (b, x) => (b, (x.1, frameOf 58 [0, 1, 5] x.2.1, x.2.2))) :=
 (show evC Try.prog ext T49 noL 200 (loopN Try.f85 1) (loopTail ([0, 1, 5, 6], []) [0, 1, 5] [] (sumK 58 [0, 1, 5, 6] [0, 1, 5] noQ)) (frameOf 58 [0, 1, 5, 6] [wsl 0, .int .i64 x0, .int .i64 x1, .int .i64 4]) ⟨[⟨true, (some (.tab sc0 x2))⟩], 1, []⟩ = w85l1 x0 x1 x2 from by kernel_rfl).trans
 (show w85l1 x0 x1 x2 = a85l1 x0 x1 x2 (r85l1 x0 x1 x2) from by unfold w85l1 r85l1; exact rfl)
noncomputable def Q85l1 : SumK := fun vals s =>
 match vals, s.h with
 | [.iface f0 .nilIface, .int .i64 x0, .int .i64 x1, .int .i64 f1], [⟨true, some (.tab [.int .i64, .int .i64, .fl .f32, .fl .f32, .fl .f32, .fl .f32, .fl .f32, .fl .f32] x2)⟩] => if f0 = 0 ∧ f1 = 4 then [(true, .exit 2, [wsl 0, .int .i64 x0, .int .i64 x1], ⟨[⟨true, (some (.tab sc0 x2))⟩], 1, []⟩)] else noQ vals s
 | _, _ => noQ vals s
set_option maxRecDepth 100000 in
set_option maxHeartbeats 4000000 in
theorem qok85l1 : SumKOk Try.prog (loopN Try.f85 1) 58 [0, 1, 5, 6] [0, 1, 5] Q85l1 := by
  intro vals s x h1 h2 h3
  unfold Q85l1 at h3; split at h3
  · rename_i h; split at h3
    · rename_i hc; obtain ⟨rfl, rfl⟩ := hc; exact sum_step ok49 extOk mixed ((lfOkF_no _ _).inner (by kernel_rfl)) noQ_ok h1 h2 h (e85l1 _ _ _) rfl h3
    · exact noQ_ok _ _ _ h1 h2 h3
  · exact noQ_ok _ _ _ h1 h2 h3
noncomputable def L85_1 : LoopT := addL noL 14 ([0, 1, 5, 6], []) (sumK 58 [0, 1, 5, 6] [0, 1, 5] Q85l1)
theorem lok85_1 : LfOkF Try.prog L85_1 Try.f85 := lfOkF_add (lfOkF_no _ _) qok85l1 (by kernel_rfl) (by kernel_rfl) (by kernel_rfl)

/-- laws.markWallS, loop 1 -/
noncomputable def r85l1b (x0 x1 : Int) (x2 : List (List Int)) : Nat × Int × List (List Int) :=
 cond ((decide ((0 : Int) ≤ x1)) && (Nat.blt (Int.toNat x1) x2.length))
  (0, (IntKind.i64.wrap (x0 + 1)), (x2.modify (Int.toNat x1) (fun r => spl 8 r 7 [(((ofInt .f32 x0) : Nat) : Int)])))
  (1, 0, [])
noncomputable def a85l1b (x0 x1 : Int) (x2 : List (List Int)) (p : Nat × Int × List (List Int)) : Option (Fin' × List Value × St) := firstT ([((Nat.beq (p.1) 0), .exit 2, [wsl 0, .int .i64 (p.2.1), .int .i64 x1], ⟨[⟨true, (some (.tab sc0 (p.2.2)))⟩], 1, [0]⟩)].map fun (b, x) => (b, (x.1, frameOf 58 [0, 1, 5] x.2.1, x.2.2)))
noncomputable def w85l1b (x0 x1 : Int) (x2 : List (List Int)) : Option (Fin' × List Value × St) :=
 (cond ((decide ((0 : Int) ≤ x1)) && (Nat.blt (Int.toNat x1) x2.length))
 (cond (Nat.blt (Int.toNat x1) x2.length)
  (a85l1b x0 x1 x2 (0, (IntKind.i64.wrap (x0 + 1)), (x2.modify (Int.toNat x1) (fun r => spl 8 r 7 [(((ofInt .f32 x0) : Nat) : Int)]))))
  none)
 none)
set_option maxRecDepth 100000 in
set_option maxHeartbeats 4000000 in
theorem e85l1b (x0 x1 : Int) (x2 : List (List Int)) : evC Try.prog ext T49 L85_1 200 (loopN Try.f85 1) (loopTail ([0, 1, 5, 6], []) [0, 1, 5] [] (sumK 58 [0, 1, 5, 6] [0, 1, 5] Q85l1)) (frameOf 58 [0, 1, 5, 6] [wsl 0, .int .i64 x0, .int .i64 x1, .int .i64 3]) ⟨[⟨true, (some (.tab sc0 x2))⟩], 1, []⟩ = firstT ([((Nat.beq ((r85l1b x0 x1 x2).1) 0), .exit 2, [wsl 0, .int .i64 ((r85l1b x0 x1 x2).2.1), .int .i64 x1], ⟨[⟨true, (some (.tab sc0 ((r85l1b x0 x1 x2).2.2)))⟩], 1, [0]⟩)].map fun (b, x) => (b, (x.1, frameOf 58 [0, 1, 5] x.2.1, x.2.2))) :=
 (show evC Try.prog ext T49 L85_1 200 (loopN Try.f85 1) (loopTail ([0, 1, 5, 6], []) [0, 1, 5] [] (sumK 58 [0, 1, 5, 6] [0, 1, 5] Q85l1)) (frameOf 58 [0, 1, 5, 6] [wsl 0, .int .i64 x0, .int .i64 x1, .int .i64 3]) ⟨[⟨true, (some (.tab sc0 x2))⟩], 1, []⟩ = w85l1b x0 x1 x2 from by kernel_rfl).trans
 (show w85l1b x0 x1 x2 = a85l1b x0 x1 x2 (r85l1b x0 x1 x2) from by unfold w85l1b r85l1b; exact (cond_both (a85l1b x0 x1 x2) _ (fun h0 => (cond_t (ev_and2 h0) rfl)) (fun h0 => rfl)))
noncomputable def Q85l1b : SumK := fun vals s =>
 match vals, s.h with
 | [.iface f0 .nilIface, .int .i64 x0, .int .i64 x1, .int .i64 f1], [⟨true, some (.tab [.int .i64, .int .i64, .fl .f32, .fl .f32, .fl .f32, .fl .f32, .fl .f32, .fl .f32] x2)⟩] => if f0 = 0 ∧ f1 = 3 then [((Nat.beq ((r85l1b x0 x1 x2).1) 0), .exit 2, [wsl 0, .int .i64 ((r85l1b x0 x1 x2).2.1), .int .i64 x1], ⟨[⟨true, (some (.tab sc0 ((r85l1b x0 x1 x2).2.2)))⟩], 1, [0]⟩)] else Q85l1 vals s
 | _, _ => Q85l1 vals s
set_option maxRecDepth 100000 in
set_option maxHeartbeats 4000000 in
theorem qok85l1b : SumKOk Try.prog (loopN Try.f85 1) 58 [0, 1, 5, 6] [0, 1, 5] Q85l1b := by
  intro vals s x h1 h2 h3
  unfold Q85l1b at h3; split at h3
  · rename_i h; split at h3
    · rename_i hc; obtain ⟨rfl, rfl⟩ := hc; exact sum_step ok49 extOk mixed (lok85_1.inner (by kernel_rfl)) qok85l1 h1 h2 h (e85l1b _ _ _) rfl h3
    · exact qok85l1 _ _ _ h1 h2 h3
  · exact qok85l1 _ _ _ h1 h2 h3
noncomputable def L85_2 : LoopT := addL L85_1 14 ([0, 1, 5, 6], []) (sumK 58 [0, 1, 5, 6] [0, 1, 5] Q85l1b)
theorem lok85_2 : LfOkF Try.prog L85_2 Try.f85 := lfOkF_add lok85_1 qok85l1b (by kernel_rfl) (by kernel_rfl) (by kernel_rfl)
end Go.Proofs.Ytfnfapmncibjfaa
