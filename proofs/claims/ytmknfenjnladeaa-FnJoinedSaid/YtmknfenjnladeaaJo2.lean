/- What the functions that the statements reach answer, part 2. -/
import Derived.Test.YtmknfenjnladeaaJo1
namespace Go.Proofs.Ytmknfenjnladeaa
open Go.Ab
set_option maxHeartbeats 4000000
set_option maxRecDepth 100000

/-- impl.pushAt, loop 1: one round -/
noncomputable def b65l1 (ih : Int → Nat → Nat → Nat → Nat → Nat → Int → Int → Int → List (List Int) → List (List Int) → List (List Int) → (Nat × List (List Int))) (x0 : Int) (x1 x2 x3 x4 x5 : Nat) (x6 x7 x8 : Int) (x9 x10 x11 : List (List Int)) : Nat × List (List Int) :=
 let c266 := (r125 (Int.toNat ((x9.getD (Int.toNat ((x10.getD (Int.toNat x8) []).getD 0 0)) []).getD 0 0)) (Int.toNat ((x9.getD (Int.toNat ((x10.getD (Int.toNat x8) []).getD 0 0)) []).getD 1 0)) (Int.toNat ((x9.getD (Int.toNat ((x10.getD (Int.toNat x8) []).getD 0 0)) []).getD 2 0)) (Int.toNat ((x9.getD (Int.toNat ((x10.getD (Int.toNat x8) []).getD 0 0)) []).getD 3 0)) ((x9.getD (Int.toNat ((x10.getD (Int.toNat x8) []).getD 0 0)) []).getD 4 0) x1 (fsub .f32 0 x5))
 cond (decide ((x8 : Int) < x7)) (cond ((decide ((0 : Int) ≤ x8)) && (Nat.blt (Int.toNat x8) x10.length)) (cond ((decide ((0 : Int) ≤ ((x10.getD (Int.toNat x8) []).getD 0 0))) && (Nat.blt (Int.toNat ((x10.getD (Int.toNat x8) []).getD 0 0)) x9.length)) (cond (Nat.beq (c266.1) 0) (cond (Nat.ble ((x11.length + 1) * 5) 140737488355328) (cond (Nat.beq ((ih x0 x1 x2 x3 x4 x5 x6 x7 (IntKind.i64.wrap (x8 + 1)) x9 x10 (((x11.drop 0).take x11.length) ++ ([[(((c266.2) : Nat) : Int)]] : List (List Int)))).1) 0) (0, ((ih x0 x1 x2 x3 x4 x5 x6 x7 (IntKind.i64.wrap (x8 + 1)) x9 x10 (((x11.drop 0).take x11.length) ++ ([[(((c266.2) : Nat) : Int)]] : List (List Int)))).2)) (cond (Nat.beq ((ih x0 x1 x2 x3 x4 x5 x6 x7 (IntKind.i64.wrap (x8 + 1)) x9 x10 (((x11.drop 0).take x11.length) ++ ([[(((c266.2) : Nat) : Int)]] : List (List Int)))).1) 1) (0, (((x11.drop 0).take x11.length) ++ ([[(((c266.2) : Nat) : Int)]] : List (List Int)))) (2, []))) (2, [])) (2, [])) (2, [])) (2, [])) (1, [])
noncomputable def r65l1 : Nat → Int → Nat → Nat → Nat → Nat → Nat → Int → Int → Int → List (List Int) → List (List Int) → List (List Int) → (Nat × List (List Int))
 | 0 => fun _ _ _ _ _ _ _ _ _ _ _ _ => (2, [])
 | m + 1 => b65l1 (r65l1 m)
noncomputable def a65l1 (x0 : Int) (x1 x2 x3 x4 x5 : Nat) (x6 x7 x8 : Int) (x9 x10 x11 : List (List Int)) (p : Nat × List (List Int)) : Option (Fin' × List Value × St) := firstT ([((Nat.beq (p.1) 0), .exit 2, [wsl 0, vi x0, vf x1, vf x2, wsl 1, vf x3, vf x4, vf x5, wsl 3, vi x6], ⟨[⟨true, (some (.tab sc0 x9))⟩, ⟨true, (some (.tab [.int .i64] x10))⟩, ⟨true, none⟩, ⟨true, (some (.tab [.fl .f32] (p.2)))⟩], 3, [2]⟩), ((Nat.beq (p.1) 1), .exit 2, [wsl 0, vi x0, vf x1, vf x2, wsl 1, vf x3, vf x4, vf x5, wsl 2, vi x6], ⟨[⟨true, (some (.tab sc0 x9))⟩, ⟨true, (some (.tab [.int .i64] x10))⟩, ⟨true, (some (.tab [.fl .f32] x11))⟩], 3, [2]⟩)].map fun (b, x) => (b, (x.1, frameOf 63 [0, 1, 2, 3, 9, 10, 11, 12, 13, 22] x.2.1, x.2.2)))
noncomputable def u65l1 (x0 : Int) (x1 x2 x3 x4 x5 : Nat) (x6 x7 x8 : Int) (x9 x10 x11 : List (List Int)) (p : Nat × List (List Int)) : Option (Fin' × List Value × St) := alts ([((Nat.beq (p.1) 0), .exit 2, [wsl 0, vi x0, vf x1, vf x2, wsl 1, vf x3, vf x4, vf x5, wsl 3, vi x6], ⟨[⟨true, (some (.tab sc0 x9))⟩, ⟨true, (some (.tab [.int .i64] x10))⟩, ⟨true, none⟩, ⟨true, (some (.tab [.fl .f32] (p.2)))⟩], 3, [2]⟩), ((Nat.beq (p.1) 1), .exit 2, [wsl 0, vi x0, vf x1, vf x2, wsl 1, vf x3, vf x4, vf x5, wsl 2, vi x6], ⟨[⟨true, (some (.tab sc0 x9))⟩, ⟨true, (some (.tab [.int .i64] x10))⟩, ⟨true, (some (.tab [.fl .f32] x11))⟩], 3, [2]⟩)].map fun (b, x) => (b, (x.1, frameOf 63 [0, 1, 2, 3, 9, 10, 11, 12, 13, 22] x.2.1, x.2.2))) some
theorem v65l1 (x0 : Int) (x1 x2 x3 x4 x5 : Nat) (x6 x7 x8 : Int) (x9 x10 x11 : List (List Int)) (p : Nat × List (List Int)) : u65l1 x0 x1 x2 x3 x4 x5 x6 x7 x8 x9 x10 x11 p = a65l1 x0 x1 x2 x3 x4 x5 x6 x7 x8 x9 x10 x11 p := alts_first _
noncomputable def q65l1 (m : Nat) : SumK := fun vals s =>
 match vals, s.h with
 | [.iface f0 .nilIface, .int .i64 x0, .float .f32 x1, .float .f32 x2, .iface f1 .nilIface, .float .f32 x3, .float .f32 x4, .float .f32 x5, .iface f2 .nilIface, .int .i64 x6, .iface f3 .nilIface, .int .i64 x7, .int .i64 x8], [⟨true, some (.tab [.fl .f32, .fl .f32, .fl .f32, .fl .f32, .int .i64] x9)⟩, ⟨true, some (.tab [.int .i64] x10)⟩, ⟨true, some (.tab [.fl .f32] x11)⟩] => if f0 = 0 ∧ f1 = 1 ∧ f2 = 2 ∧ f3 = 1 then [((Nat.beq ((r65l1 m x0 x1 x2 x3 x4 x5 x6 x7 x8 x9 x10 x11).1) 0), .exit 2, [wsl 0, vi x0, vf x1, vf x2, wsl 1, vf x3, vf x4, vf x5, wsl 3, vi x6], ⟨[⟨true, (some (.tab sc0 x9))⟩, ⟨true, (some (.tab [.int .i64] x10))⟩, ⟨true, none⟩, ⟨true, (some (.tab [.fl .f32] ((r65l1 m x0 x1 x2 x3 x4 x5 x6 x7 x8 x9 x10 x11).2)))⟩], 3, [2]⟩), ((Nat.beq ((r65l1 m x0 x1 x2 x3 x4 x5 x6 x7 x8 x9 x10 x11).1) 1), .exit 2, [wsl 0, vi x0, vf x1, vf x2, wsl 1, vf x3, vf x4, vf x5, wsl 2, vi x6], ⟨[⟨true, (some (.tab sc0 x9))⟩, ⟨true, (some (.tab [.int .i64] x10))⟩, ⟨true, (some (.tab [.fl .f32] x11))⟩], 3, [2]⟩)] else noQ vals s
 | _, _ => noQ vals s
noncomputable def w65l1 (ih : Int → Nat → Nat → Nat → Nat → Nat → Int → Int → Int → List (List Int) → List (List Int) → List (List Int) → (Nat × List (List Int))) (x0 : Int) (x1 x2 x3 x4 x5 : Nat) (x6 x7 x8 : Int) (x9 x10 x11 : List (List Int)) : Option (Fin' × List Value × St) :=
 let c266 := (r125 (Int.toNat ((x9.getD (Int.toNat ((x10.getD (Int.toNat x8) []).getD 0 0)) []).getD 0 0)) (Int.toNat ((x9.getD (Int.toNat ((x10.getD (Int.toNat x8) []).getD 0 0)) []).getD 1 0)) (Int.toNat ((x9.getD (Int.toNat ((x10.getD (Int.toNat x8) []).getD 0 0)) []).getD 2 0)) (Int.toNat ((x9.getD (Int.toNat ((x10.getD (Int.toNat x8) []).getD 0 0)) []).getD 3 0)) ((x9.getD (Int.toNat ((x10.getD (Int.toNat x8) []).getD 0 0)) []).getD 4 0) x1 (fsub .f32 0 x5))
 (cond (decide ((x8 : Int) < x7))
 (cond ((decide ((0 : Int) ≤ x8)) && (Nat.blt (Int.toNat x8) x10.length)) (cond (Nat.blt (Int.toNat x8) x10.length) (cond ((decide ((0 : Int) ≤ ((x10.getD (Int.toNat x8) []).getD 0 0))) && (Nat.blt (Int.toNat ((x10.getD (Int.toNat x8) []).getD 0 0)) x9.length)) (cond (Nat.blt (Int.toNat ((x10.getD (Int.toNat x8) []).getD 0 0)) x9.length) (cond (Nat.beq (c266.1) 0) (cond (Nat.ble ((x11.length + 1) * 5) 140737488355328) (cond (Nat.beq ((ih x0 x1 x2 x3 x4 x5 x6 x7 (IntKind.i64.wrap (x8 + 1)) x9 x10 (((x11.drop 0).take x11.length) ++ ([[(((c266.2) : Nat) : Int)]] : List (List Int)))).1) 0) (a65l1 x0 x1 x2 x3 x4 x5 x6 x7 x8 x9 x10 x11 (0, ((ih x0 x1 x2 x3 x4 x5 x6 x7 (IntKind.i64.wrap (x8 + 1)) x9 x10 (((x11.drop 0).take x11.length) ++ ([[(((c266.2) : Nat) : Int)]] : List (List Int)))).2))) (cond (Nat.beq ((ih x0 x1 x2 x3 x4 x5 x6 x7 (IntKind.i64.wrap (x8 + 1)) x9 x10 (((x11.drop 0).take x11.length) ++ ([[(((c266.2) : Nat) : Int)]] : List (List Int)))).1) 1) (a65l1 x0 x1 x2 x3 x4 x5 x6 x7 x8 x9 x10 x11 (0, (((x11.drop 0).take x11.length) ++ ([[(((c266.2) : Nat) : Int)]] : List (List Int))))) none)) none) none) none) none) none) none)
 (a65l1 x0 x1 x2 x3 x4 x5 x6 x7 x8 x9 x10 x11 (1, [])))
set_option maxRecDepth 100000 in
set_option maxHeartbeats 4000000 in
theorem e65l1 (m : Nat) (x0 : Int) (x1 x2 x3 x4 x5 : Nat) (x6 x7 x8 : Int) (x9 x10 x11 : List (List Int)) : evC Try.prog ext T29 noL 200 (loopN Try.f65 1) (loopTail ([0, 1, 2, 3, 9, 10, 11, 12, 13, 22, 29, 30, 31], []) [0, 1, 2, 3, 9, 10, 11, 12, 13, 22] [2] (sumK 63 [0, 1, 2, 3, 9, 10, 11, 12, 13, 22, 29, 30, 31] [0, 1, 2, 3, 9, 10, 11, 12, 13, 22] (q65l1 m))) (frameOf 63 [0, 1, 2, 3, 9, 10, 11, 12, 13, 22, 29, 30, 31] [wsl 0, vi x0, vf x1, vf x2, wsl 1, vf x3, vf x4, vf x5, wsl 2, vi x6, wsl 1, vi x7, vi x8]) ⟨[⟨true, (some (.tab sc0 x9))⟩, ⟨true, (some (.tab [.int .i64] x10))⟩, ⟨true, (some (.tab [.fl .f32] x11))⟩], 3, []⟩ = firstT ([((Nat.beq ((r65l1 (m + 1) x0 x1 x2 x3 x4 x5 x6 x7 x8 x9 x10 x11).1) 0), .exit 2, [wsl 0, vi x0, vf x1, vf x2, wsl 1, vf x3, vf x4, vf x5, wsl 3, vi x6], ⟨[⟨true, (some (.tab sc0 x9))⟩, ⟨true, (some (.tab [.int .i64] x10))⟩, ⟨true, none⟩, ⟨true, (some (.tab [.fl .f32] ((r65l1 (m + 1) x0 x1 x2 x3 x4 x5 x6 x7 x8 x9 x10 x11).2)))⟩], 3, [2]⟩), ((Nat.beq ((r65l1 (m + 1) x0 x1 x2 x3 x4 x5 x6 x7 x8 x9 x10 x11).1) 1), .exit 2, [wsl 0, vi x0, vf x1, vf x2, wsl 1, vf x3, vf x4, vf x5, wsl 2, vi x6], ⟨[⟨true, (some (.tab sc0 x9))⟩, ⟨true, (some (.tab [.int .i64] x10))⟩, ⟨true, (some (.tab [.fl .f32] x11))⟩], 3, [2]⟩)].map fun (b, x) => (b, (x.1, frameOf 63 [0, 1, 2, 3, 9, 10, 11, 12, 13, 22] x.2.1, x.2.2))) :=
 (show _ = w65l1 (r65l1 m) x0 x1 x2 x3 x4 x5 x6 x7 x8 x9 x10 x11 from by kernel_rfl).trans
 (show w65l1 (r65l1 m) x0 x1 x2 x3 x4 x5 x6 x7 x8 x9 x10 x11 = a65l1 x0 x1 x2 x3 x4 x5 x6 x7 x8 x9 x10 x11 (r65l1 (m + 1) x0 x1 x2 x3 x4 x5 x6 x7 x8 x9 x10 x11) from by unfold w65l1; show _ = a65l1 x0 x1 x2 x3 x4 x5 x6 x7 x8 x9 x10 x11 (b65l1 (r65l1 m) x0 x1 x2 x3 x4 x5 x6 x7 x8 x9 x10 x11); unfold b65l1; exact (cond_both (a65l1 x0 x1 x2 x3 x4 x5 x6 x7 x8 x9 x10 x11) _ (fun h0 => (cond_both (a65l1 x0 x1 x2 x3 x4 x5 x6 x7 x8 x9 x10 x11) _ (fun h1 => (cond_t (ev_and2 h1) (cond_both (a65l1 x0 x1 x2 x3 x4 x5 x6 x7 x8 x9 x10 x11) _ (fun h2 => (cond_t (ev_and2 h2) (cond_app (a65l1 x0 x1 x2 x3 x4 x5 x6 x7 x8 x9 x10 x11) _ (cond_app (a65l1 x0 x1 x2 x3 x4 x5 x6 x7 x8 x9 x10 x11) _ (cond_app (a65l1 x0 x1 x2 x3 x4 x5 x6 x7 x8 x9 x10 x11) _ rfl (cond_app (a65l1 x0 x1 x2 x3 x4 x5 x6 x7 x8 x9 x10 x11) _ rfl rfl)) rfl) rfl))) (fun h2 => rfl)))) (fun h1 => rfl))) (fun h0 => rfl)))
set_option maxRecDepth 100000 in
set_option maxHeartbeats 4000000 in
theorem qm65l1 : ∀ m, SumKOk Try.prog (loopN Try.f65 1) 63 [0, 1, 2, 3, 9, 10, 11, 12, 13, 22, 29, 30, 31] [0, 1, 2, 3, 9, 10, 11, 12, 13, 22] (q65l1 m) := by
  intro m
  induction m with
  | zero =>
    intro vals s x h1 h2 h3
    unfold q65l1 at h3; split at h3
    · rename_i h; split at h3
      · rename_i hc; obtain ⟨rfl, rfl, rfl, rfl⟩ := hc; exact absurd h3 (by simp [r65l1, firstT, Nat.beq])
      · exact noQ_ok _ _ _ h1 h2 h3
    · exact noQ_ok _ _ _ h1 h2 h3
  | succ m ih =>
    intro vals s x h1 h2 h3
    unfold q65l1 at h3; split at h3
    · rename_i h; split at h3
      · rename_i hc; obtain ⟨rfl, rfl, rfl, rfl⟩ := hc; exact sum_step ok29 extOk mixed ((lfOkF_no _ _).inner (by kernel_rfl)) ih h1 h2 h (e65l1 m _ _ _ _ _ _ _ _ _ _ _ _) rfl h3
      · exact noQ_ok _ _ _ h1 h2 h3
    · exact noQ_ok _ _ _ h1 h2 h3
noncomputable def Q65l1 : SumK := fun vals s => q65l1 (fuelOf vals s.h) vals s
theorem qok65l1 : SumKOk Try.prog (loopN Try.f65 1) 63 [0, 1, 2, 3, 9, 10, 11, 12, 13, 22, 29, 30, 31] [0, 1, 2, 3, 9, 10, 11, 12, 13, 22] Q65l1 := fuel_ok qm65l1 fuelOf
noncomputable def L65_1 : LoopT := addL noL 11 ([0, 1, 2, 3, 9, 10, 11, 12, 13, 22, 29, 30, 31], []) (sumK 63 [0, 1, 2, 3, 9, 10, 11, 12, 13, 22, 29, 30, 31] [0, 1, 2, 3, 9, 10, 11, 12, 13, 22] Q65l1)
theorem lok65_1 : LfOkF Try.prog L65_1 Try.f65 := lfOkF_add (lfOkF_no _ _) qok65l1 (by kernel_rfl) (by kernel_rfl) (by kernel_rfl)

/-- impl.pushAt, loop 0: one round -/
noncomputable def b65l0 (ih : Int → Nat → Nat → Nat → Nat → Int → List (List Int) → List (List Int) → (Nat × Nat)) (x0 : Int) (x1 x2 x3 x4 : Nat) (x5 : Int) (x6 x7 : List (List Int)) : Nat × Nat :=
 let c282 := (r65l1 (1000 + 0 + x7.length + x6.length) x0 x1 x2 x3 x4 (fmul .f32 1056964608 (fadd .f32 x3 x4)) x5 ((x7.length : Nat) : Int) 0 x6 x7 ([] : List (List Int)))
 let c283 := (r125 (Int.toNat ((x6.getD (Int.toNat x0) []).getD 0 0)) (Int.toNat ((x6.getD (Int.toNat x0) []).getD 1 0)) (Int.toNat ((x6.getD (Int.toNat x0) []).getD 2 0)) (Int.toNat ((x6.getD (Int.toNat x0) []).getD 3 0)) ((x6.getD (Int.toNat x0) []).getD 4 0) x1 (fsub .f32 (fmul .f32 1056964608 (fadd .f32 x3 x4)) x2))
 cond (decide ((x5 : Int) < 40)) (cond (Nat.beq (c282.1) 0) (cond (Nat.beq ((r132 (c282.2)).1) 0) (cond ((decide ((0 : Int) ≤ x0)) && (Nat.blt (Int.toNat x0) x6.length)) (cond (Nat.beq (c283.1) 0) (cond (fgt .f32 ((r132 (c282.2)).2) (c283.2)) (ih x0 x1 x2 (fmul .f32 1056964608 (fadd .f32 x3 x4)) x4 (IntKind.i64.wrap (x5 + 1)) x6 x7) (ih x0 x1 x2 x3 (fmul .f32 1056964608 (fadd .f32 x3 x4)) (IntKind.i64.wrap (x5 + 1)) x6 x7)) (1, 0)) (1, 0)) (1, 0)) (cond (Nat.beq (c282.1) 1) (cond (Nat.beq ((r132 ([] : List (List Int))).1) 0) (cond ((decide ((0 : Int) ≤ x0)) && (Nat.blt (Int.toNat x0) x6.length)) (cond (Nat.beq (c283.1) 0) (cond (fgt .f32 ((r132 ([] : List (List Int))).2) (c283.2)) (ih x0 x1 x2 (fmul .f32 1056964608 (fadd .f32 x3 x4)) x4 (IntKind.i64.wrap (x5 + 1)) x6 x7) (ih x0 x1 x2 x3 (fmul .f32 1056964608 (fadd .f32 x3 x4)) (IntKind.i64.wrap (x5 + 1)) x6 x7)) (1, 0)) (1, 0)) (1, 0)) (1, 0))) (0, x4)
noncomputable def r65l0 : Nat → Int → Nat → Nat → Nat → Nat → Int → List (List Int) → List (List Int) → (Nat × Nat)
 | 0 => fun _ _ _ _ _ _ _ _ => (1, 0)
 | m + 1 => b65l0 (r65l0 m)
noncomputable def a65l0 (x0 : Int) (x1 x2 x3 x4 : Nat) (x5 : Int) (x6 x7 : List (List Int)) (p : Nat × Nat) : Option (Fin' × List Value × St) := firstT ([((Nat.beq (p.1) 0), .exit 0, [vf (p.2)], ⟨[⟨true, (some (.tab sc0 x6))⟩, ⟨true, (some (.tab [.int .i64] x7))⟩], 2, []⟩)].map fun (b, x) => (b, (x.1, frameOf 63 [11] x.2.1, x.2.2)))
noncomputable def u65l0 (x0 : Int) (x1 x2 x3 x4 : Nat) (x5 : Int) (x6 x7 : List (List Int)) (p : Nat × Nat) : Option (Fin' × List Value × St) := alts ([((Nat.beq (p.1) 0), .exit 0, [vf (p.2)], ⟨[⟨true, (some (.tab sc0 x6))⟩, ⟨true, (some (.tab [.int .i64] x7))⟩], 2, []⟩)].map fun (b, x) => (b, (x.1, frameOf 63 [11] x.2.1, x.2.2))) some
theorem v65l0 (x0 : Int) (x1 x2 x3 x4 : Nat) (x5 : Int) (x6 x7 : List (List Int)) (p : Nat × Nat) : u65l0 x0 x1 x2 x3 x4 x5 x6 x7 p = a65l0 x0 x1 x2 x3 x4 x5 x6 x7 p := alts_first _
noncomputable def q65l0 (m : Nat) : SumK := fun vals s =>
 match vals, s.h with
 | [.iface f0 .nilIface, .int .i64 x0, .float .f32 x1, .float .f32 x2, .iface f1 .nilIface, .float .f32 x3, .float .f32 x4, .int .i64 x5], [⟨true, some (.tab [.fl .f32, .fl .f32, .fl .f32, .fl .f32, .int .i64] x6)⟩, ⟨true, some (.tab [.int .i64] x7)⟩] => if f0 = 0 ∧ f1 = 1 then [((Nat.beq ((r65l0 m x0 x1 x2 x3 x4 x5 x6 x7).1) 0), .exit 0, [vf ((r65l0 m x0 x1 x2 x3 x4 x5 x6 x7).2)], ⟨[⟨true, (some (.tab sc0 x6))⟩, ⟨true, (some (.tab [.int .i64] x7))⟩], 2, []⟩)] else noQ vals s
 | _, _ => noQ vals s
noncomputable def w65l0 (ih : Int → Nat → Nat → Nat → Nat → Int → List (List Int) → List (List Int) → (Nat × Nat)) (x0 : Int) (x1 x2 x3 x4 : Nat) (x5 : Int) (x6 x7 : List (List Int)) : Option (Fin' × List Value × St) :=
 let c282 := (r65l1 (1000 + 0 + x7.length + x6.length) x0 x1 x2 x3 x4 (fmul .f32 1056964608 (fadd .f32 x3 x4)) x5 ((x7.length : Nat) : Int) 0 x6 x7 ([] : List (List Int)))
 let c283 := (r125 (Int.toNat ((x6.getD (Int.toNat x0) []).getD 0 0)) (Int.toNat ((x6.getD (Int.toNat x0) []).getD 1 0)) (Int.toNat ((x6.getD (Int.toNat x0) []).getD 2 0)) (Int.toNat ((x6.getD (Int.toNat x0) []).getD 3 0)) ((x6.getD (Int.toNat x0) []).getD 4 0) x1 (fsub .f32 (fmul .f32 1056964608 (fadd .f32 x3 x4)) x2))
 (cond (decide ((x5 : Int) < 40))
 (cond (Nat.beq (c282.1) 0) (cond (Nat.beq ((r132 (c282.2)).1) 0) (cond ((decide ((0 : Int) ≤ x0)) && (Nat.blt (Int.toNat x0) x6.length)) (cond (Nat.blt (Int.toNat x0) x6.length) (cond (Nat.beq (c283.1) 0) (cond (fgt .f32 ((r132 (c282.2)).2) (c283.2)) (u65l0 x0 x1 x2 x3 x4 x5 x6 x7 (ih x0 x1 x2 (fmul .f32 1056964608 (fadd .f32 x3 x4)) x4 (IntKind.i64.wrap (x5 + 1)) x6 x7)) (u65l0 x0 x1 x2 x3 x4 x5 x6 x7 (ih x0 x1 x2 x3 (fmul .f32 1056964608 (fadd .f32 x3 x4)) (IntKind.i64.wrap (x5 + 1)) x6 x7))) none) none) none) none) (cond (Nat.beq (c282.1) 1) (cond (Nat.beq ((r132 ([] : List (List Int))).1) 0) (cond ((decide ((0 : Int) ≤ x0)) && (Nat.blt (Int.toNat x0) x6.length)) (cond (Nat.blt (Int.toNat x0) x6.length) (cond (Nat.beq (c283.1) 0) (cond (fgt .f32 ((r132 ([] : List (List Int))).2) (c283.2)) (u65l0 x0 x1 x2 x3 x4 x5 x6 x7 (ih x0 x1 x2 (fmul .f32 1056964608 (fadd .f32 x3 x4)) x4 (IntKind.i64.wrap (x5 + 1)) x6 x7)) (u65l0 x0 x1 x2 x3 x4 x5 x6 x7 (ih x0 x1 x2 x3 (fmul .f32 1056964608 (fadd .f32 x3 x4)) (IntKind.i64.wrap (x5 + 1)) x6 x7))) none) none) none) none) none))
 (a65l0 x0 x1 x2 x3 x4 x5 x6 x7 (0, x4)))
set_option maxRecDepth 100000 in
set_option maxHeartbeats 4000000 in
theorem e65l0 (m : Nat) (x0 : Int) (x1 x2 x3 x4 : Nat) (x5 : Int) (x6 x7 : List (List Int)) : evC Try.prog ext T29 L65_1 200 (loopN Try.f65 0) (loopTail ([0, 1, 2, 3, 9, 10, 11, 22], []) [11] [] (sumK 63 [0, 1, 2, 3, 9, 10, 11, 22] [11] (q65l0 m))) (frameOf 63 [0, 1, 2, 3, 9, 10, 11, 22] [wsl 0, vi x0, vf x1, vf x2, wsl 1, vf x3, vf x4, vi x5]) ⟨[⟨true, (some (.tab sc0 x6))⟩, ⟨true, (some (.tab [.int .i64] x7))⟩], 2, []⟩ = firstT ([((Nat.beq ((r65l0 (m + 1) x0 x1 x2 x3 x4 x5 x6 x7).1) 0), .exit 0, [vf ((r65l0 (m + 1) x0 x1 x2 x3 x4 x5 x6 x7).2)], ⟨[⟨true, (some (.tab sc0 x6))⟩, ⟨true, (some (.tab [.int .i64] x7))⟩], 2, []⟩)].map fun (b, x) => (b, (x.1, frameOf 63 [11] x.2.1, x.2.2))) :=
 (show _ = w65l0 (r65l0 m) x0 x1 x2 x3 x4 x5 x6 x7 from by kernel_rfl).trans
 (show w65l0 (r65l0 m) x0 x1 x2 x3 x4 x5 x6 x7 = a65l0 x0 x1 x2 x3 x4 x5 x6 x7 (r65l0 (m + 1) x0 x1 x2 x3 x4 x5 x6 x7) from by unfold w65l0; show _ = a65l0 x0 x1 x2 x3 x4 x5 x6 x7 (b65l0 (r65l0 m) x0 x1 x2 x3 x4 x5 x6 x7); unfold b65l0; exact (cond_both (a65l0 x0 x1 x2 x3 x4 x5 x6 x7) _ (fun h0 => (cond_both (a65l0 x0 x1 x2 x3 x4 x5 x6 x7) _ (fun h1 => (cond_both (a65l0 x0 x1 x2 x3 x4 x5 x6 x7) _ (fun h2 => (cond_both (a65l0 x0 x1 x2 x3 x4 x5 x6 x7) _ (fun h3 => (cond_t (ev_and2 h3) (cond_app (a65l0 x0 x1 x2 x3 x4 x5 x6 x7) _ (cond_app (a65l0 x0 x1 x2 x3 x4 x5 x6 x7) _ (v65l0 x0 x1 x2 x3 x4 x5 x6 x7 ((r65l0 m) x0 x1 x2 (fmul .f32 1056964608 (fadd .f32 x3 x4)) x4 (IntKind.i64.wrap (x5 + 1)) x6 x7)) (v65l0 x0 x1 x2 x3 x4 x5 x6 x7 ((r65l0 m) x0 x1 x2 x3 (fmul .f32 1056964608 (fadd .f32 x3 x4)) (IntKind.i64.wrap (x5 + 1)) x6 x7))) rfl))) (fun h3 => rfl))) (fun h2 => rfl))) (fun h1 => (cond_both (a65l0 x0 x1 x2 x3 x4 x5 x6 x7) _ (fun h2 => (cond_both (a65l0 x0 x1 x2 x3 x4 x5 x6 x7) _ (fun h3 => (cond_both (a65l0 x0 x1 x2 x3 x4 x5 x6 x7) _ (fun h4 => (cond_t (ev_and2 h4) (cond_app (a65l0 x0 x1 x2 x3 x4 x5 x6 x7) _ (cond_app (a65l0 x0 x1 x2 x3 x4 x5 x6 x7) _ (v65l0 x0 x1 x2 x3 x4 x5 x6 x7 ((r65l0 m) x0 x1 x2 (fmul .f32 1056964608 (fadd .f32 x3 x4)) x4 (IntKind.i64.wrap (x5 + 1)) x6 x7)) (v65l0 x0 x1 x2 x3 x4 x5 x6 x7 ((r65l0 m) x0 x1 x2 x3 (fmul .f32 1056964608 (fadd .f32 x3 x4)) (IntKind.i64.wrap (x5 + 1)) x6 x7))) rfl))) (fun h4 => rfl))) (fun h3 => rfl))) (fun h2 => rfl))))) (fun h0 => rfl)))
set_option maxRecDepth 100000 in
set_option maxHeartbeats 4000000 in
theorem qm65l0 : ∀ m, SumKOk Try.prog (loopN Try.f65 0) 63 [0, 1, 2, 3, 9, 10, 11, 22] [11] (q65l0 m) := by
  intro m
  induction m with
  | zero =>
    intro vals s x h1 h2 h3
    unfold q65l0 at h3; split at h3
    · rename_i h; split at h3
      · rename_i hc; obtain ⟨rfl, rfl⟩ := hc; exact absurd h3 (by simp [r65l0, firstT, Nat.beq])
      · exact noQ_ok _ _ _ h1 h2 h3
    · exact noQ_ok _ _ _ h1 h2 h3
  | succ m ih =>
    intro vals s x h1 h2 h3
    unfold q65l0 at h3; split at h3
    · rename_i h; split at h3
      · rename_i hc; obtain ⟨rfl, rfl⟩ := hc; exact sum_step ok29 extOk mixed (lok65_1.inner (by kernel_rfl)) ih h1 h2 h (e65l0 m _ _ _ _ _ _ _ _) rfl h3
      · exact noQ_ok _ _ _ h1 h2 h3
    · exact noQ_ok _ _ _ h1 h2 h3
noncomputable def Q65l0 : SumK := fun vals s => q65l0 (fuelOf vals s.h) vals s
theorem qok65l0 : SumKOk Try.prog (loopN Try.f65 0) 63 [0, 1, 2, 3, 9, 10, 11, 22] [11] Q65l0 := fuel_ok qm65l0 fuelOf
noncomputable def L65_2 : LoopT := addL L65_1 7 ([0, 1, 2, 3, 9, 10, 11, 22], []) (sumK 63 [0, 1, 2, 3, 9, 10, 11, 22] [11] Q65l0)
theorem lok65_2 : LfOkF Try.prog L65_2 Try.f65 := lfOkF_add lok65_1 qok65l0 (by kernel_rfl) (by kernel_rfl) (by kernel_rfl)

/-- impl.pushAt -/
noncomputable def r65 (x0 : Int) (x1 x2 : Nat) (x3 : List (List Int)) : Nat × Nat :=
 cond (Nat.beq ((r131 x0 x3).1) 0) (cond ((((((r131 x0 x3).2).length : Nat) : Int) : Int) == 0) (0, 0) (cond (Nat.beq ((r65l0 (1000 + ((r131 x0 x3).2).length + x3.length) x0 x1 x2 3296329728 1148846080 0 x3 ((r131 x0 x3).2)).1) 0) (0, ((r65l0 (1000 + ((r131 x0 x3).2).length + x3.length) x0 x1 x2 3296329728 1148846080 0 x3 ((r131 x0 x3).2)).2)) (1, 0))) (1, 0)
noncomputable def a65 (x0 : Int) (x1 x2 : Nat) (x3 : List (List Int)) (p : Nat × Nat) : Res := firstT [((Nat.beq (p.1) 0), vf (p.2), ⟨[⟨true, (some (.tab sc0 x3))⟩], 1, []⟩)]
noncomputable def w65 (x0 : Int) (x1 x2 : Nat) (x3 : List (List Int)) : Res :=
 (cond (Nat.beq ((r131 x0 x3).1) 0)
 (cond ((((((r131 x0 x3).2).length : Nat) : Int) : Int) == 0) (a65 x0 x1 x2 x3 (0, 0)) (cond (Nat.beq ((r65l0 (1000 + ((r131 x0 x3).2).length + x3.length) x0 x1 x2 3296329728 1148846080 0 x3 ((r131 x0 x3).2)).1) 0) (a65 x0 x1 x2 x3 (0, ((r65l0 (1000 + ((r131 x0 x3).2).length + x3.length) x0 x1 x2 3296329728 1148846080 0 x3 ((r131 x0 x3).2)).2))) none))
 none)
set_option maxRecDepth 100000 in
set_option maxHeartbeats 4000000 in
theorem e65 (x0 : Int) (x1 x2 : Nat) (x3 : List (List Int)) : evFn Try.prog ext T29 L65_2 200 Try.f65 [wsl 0, vi x0, vf x1, vf x2] ⟨[⟨true, (some (.tab sc0 x3))⟩], 1, []⟩ = firstT [((Nat.beq ((r65 x0 x1 x2 x3).1) 0), vf ((r65 x0 x1 x2 x3).2), ⟨[⟨true, (some (.tab sc0 x3))⟩], 1, []⟩)] :=
 (show _ = w65 x0 x1 x2 x3 from by kernel_rfl).trans
 (show w65 x0 x1 x2 x3 = a65 x0 x1 x2 x3 (r65 x0 x1 x2 x3) from by unfold w65 r65; exact (cond_app (a65 x0 x1 x2 x3) _ (cond_app (a65 x0 x1 x2 x3) _ rfl (cond_app (a65 x0 x1 x2 x3) _ rfl rfl)) rfl))
noncomputable def s65 (args : List Value) (s : St) : List (Bool × Value × St) :=
 match args, s.h with
 | [.iface f0 .nilIface, .int .i64 x0, .float .f32 x1, .float .f32 x2], [⟨true, some (.tab [.fl .f32, .fl .f32, .fl .f32, .fl .f32, .int .i64] x3)⟩] => if f0 = 0 then [((Nat.beq ((r65 x0 x1 x2 x3).1) 0), vf ((r65 x0 x1 x2 x3).2), ⟨[⟨true, (some (.tab sc0 x3))⟩], 1, []⟩)] else T29 65 args s
 | _, _ => T29 65 args s
noncomputable def T30 : CallF := addF T29 65 s65
set_option maxRecDepth 100000 in
set_option maxHeartbeats 4000000 in
theorem ok30 : CfOk Try.prog T30 := by
  refine cfOk_add ok29 fun args s r s' h1 h2 h3 => ?_
  unfold s65 at h3; split at h3
  · rename_i h; split at h3
    · rename_i hc; obtain ⟨rfl⟩ := hc; exact callOk ok29 Try.func65 h1 h2 h lok65_2.body (e65 _ _ _ _) rfl h3
    · exact ok29 _ _ _ _ _ h1 h2 h3
  · exact ok29 _ _ _ _ _ h1 h2 h3

/-- impl.flowsOf, loop 0: one round -/
noncomputable def b58l0 (ih : Nat → Nat → Int → Int → List (List Int) → List (List Int) → (Nat × List (List Int))) (x0 x1 : Nat) (x2 x3 : Int) (x4 x5 : List (List Int)) : Nat × List (List Int) :=
 let c316 := (r125 (Int.toNat ((x4.getD (Int.toNat x3) []).getD 0 0)) (Int.toNat ((x4.getD (Int.toNat x3) []).getD 1 0)) (Int.toNat ((x4.getD (Int.toNat x3) []).getD 2 0)) (Int.toNat ((x4.getD (Int.toNat x3) []).getD 3 0)) ((x4.getD (Int.toNat x3) []).getD 4 0) x0 (fsub .f32 ((r65 x3 x0 x1 x4).2) x1))
 let c317 := (r125 (Int.toNat ((x4.getD (Int.toNat x3) []).getD 0 0)) (Int.toNat ((x4.getD (Int.toNat x3) []).getD 1 0)) (Int.toNat ((x4.getD (Int.toNat x3) []).getD 2 0)) (Int.toNat ((x4.getD (Int.toNat x3) []).getD 3 0)) ((x4.getD (Int.toNat x3) []).getD 4 0) x0 (fsub .f32 0 ((r65 ((x4.getD (Int.toNat x3) []).getD 4 0) x0 x1 x4).2)))
 cond (decide ((x3 : Int) < x2)) (cond ((decide ((0 : Int) ≤ x3)) && (Nat.blt (Int.toNat x3) x4.length)) (cond ((((x4.getD (Int.toNat x3) []).getD 4 0) : Int) == (-1)) (cond (Nat.beq ((r65 x3 x0 x1 x4).1) 0) (cond (Nat.beq (c316.1) 0) (cond (Nat.ble ((x5.length + 1) * 5) 140737488355328) (cond (Nat.beq ((ih x0 x1 x2 (IntKind.i64.wrap (x3 + 1)) x4 (((x5.drop 0).take x5.length) ++ ([[(((c316.2) : Nat) : Int)]] : List (List Int)))).1) 0) (0, ((ih x0 x1 x2 (IntKind.i64.wrap (x3 + 1)) x4 (((x5.drop 0).take x5.length) ++ ([[(((c316.2) : Nat) : Int)]] : List (List Int)))).2)) (cond (Nat.beq ((ih x0 x1 x2 (IntKind.i64.wrap (x3 + 1)) x4 (((x5.drop 0).take x5.length) ++ ([[(((c316.2) : Nat) : Int)]] : List (List Int)))).1) 1) (0, (((x5.drop 0).take x5.length) ++ ([[(((c316.2) : Nat) : Int)]] : List (List Int)))) (2, []))) (2, [])) (2, [])) (2, [])) (cond (Nat.beq ((r65 ((x4.getD (Int.toNat x3) []).getD 4 0) x0 x1 x4).1) 0) (cond (Nat.beq (c317.1) 0) (cond (Nat.ble ((x5.length + 1) * 5) 140737488355328) (cond (Nat.beq ((ih x0 x1 x2 (IntKind.i64.wrap (x3 + 1)) x4 (((x5.drop 0).take x5.length) ++ ([[(((c317.2) : Nat) : Int)]] : List (List Int)))).1) 0) (0, ((ih x0 x1 x2 (IntKind.i64.wrap (x3 + 1)) x4 (((x5.drop 0).take x5.length) ++ ([[(((c317.2) : Nat) : Int)]] : List (List Int)))).2)) (cond (Nat.beq ((ih x0 x1 x2 (IntKind.i64.wrap (x3 + 1)) x4 (((x5.drop 0).take x5.length) ++ ([[(((c317.2) : Nat) : Int)]] : List (List Int)))).1) 1) (0, (((x5.drop 0).take x5.length) ++ ([[(((c317.2) : Nat) : Int)]] : List (List Int)))) (2, []))) (2, [])) (2, [])) (2, []))) (2, [])) (1, [])
noncomputable def r58l0 : Nat → Nat → Nat → Int → Int → List (List Int) → List (List Int) → (Nat × List (List Int))
 | 0 => fun _ _ _ _ _ _ => (2, [])
 | m + 1 => b58l0 (r58l0 m)
noncomputable def a58l0 (x0 x1 : Nat) (x2 x3 : Int) (x4 x5 : List (List Int)) (p : Nat × List (List Int)) : Option (Fin' × List Value × St) := firstT ([((Nat.beq (p.1) 0), .exit 0, [wsl 2], ⟨[⟨true, (some (.tab sc0 x4))⟩, ⟨true, none⟩, ⟨true, (some (.tab [.fl .f32] (p.2)))⟩], 2, [1]⟩), ((Nat.beq (p.1) 1), .exit 0, [wsl 1], ⟨[⟨true, (some (.tab sc0 x4))⟩, ⟨true, (some (.tab [.fl .f32] x5))⟩], 2, [1]⟩)].map fun (b, x) => (b, (x.1, frameOf 49 [7] x.2.1, x.2.2)))
noncomputable def u58l0 (x0 x1 : Nat) (x2 x3 : Int) (x4 x5 : List (List Int)) (p : Nat × List (List Int)) : Option (Fin' × List Value × St) := alts ([((Nat.beq (p.1) 0), .exit 0, [wsl 2], ⟨[⟨true, (some (.tab sc0 x4))⟩, ⟨true, none⟩, ⟨true, (some (.tab [.fl .f32] (p.2)))⟩], 2, [1]⟩), ((Nat.beq (p.1) 1), .exit 0, [wsl 1], ⟨[⟨true, (some (.tab sc0 x4))⟩, ⟨true, (some (.tab [.fl .f32] x5))⟩], 2, [1]⟩)].map fun (b, x) => (b, (x.1, frameOf 49 [7] x.2.1, x.2.2))) some
theorem v58l0 (x0 x1 : Nat) (x2 x3 : Int) (x4 x5 : List (List Int)) (p : Nat × List (List Int)) : u58l0 x0 x1 x2 x3 x4 x5 p = a58l0 x0 x1 x2 x3 x4 x5 p := alts_first _
noncomputable def q58l0 (m : Nat) : SumK := fun vals s =>
 match vals, s.h with
 | [.iface f0 .nilIface, .float .f32 x0, .float .f32 x1, .iface f1 .nilIface, .iface f2 .nilIface, .int .i64 x2, .int .i64 x3], [⟨true, some (.tab [.fl .f32, .fl .f32, .fl .f32, .fl .f32, .int .i64] x4)⟩, ⟨true, some (.tab [.fl .f32] x5)⟩] => if f0 = 0 ∧ f1 = 1 ∧ f2 = 0 then [((Nat.beq ((r58l0 m x0 x1 x2 x3 x4 x5).1) 0), .exit 0, [wsl 2], ⟨[⟨true, (some (.tab sc0 x4))⟩, ⟨true, none⟩, ⟨true, (some (.tab [.fl .f32] ((r58l0 m x0 x1 x2 x3 x4 x5).2)))⟩], 2, [1]⟩), ((Nat.beq ((r58l0 m x0 x1 x2 x3 x4 x5).1) 1), .exit 0, [wsl 1], ⟨[⟨true, (some (.tab sc0 x4))⟩, ⟨true, (some (.tab [.fl .f32] x5))⟩], 2, [1]⟩)] else noQ vals s
 | _, _ => noQ vals s
noncomputable def w58l0 (ih : Nat → Nat → Int → Int → List (List Int) → List (List Int) → (Nat × List (List Int))) (x0 x1 : Nat) (x2 x3 : Int) (x4 x5 : List (List Int)) : Option (Fin' × List Value × St) :=
 let c316 := (r125 (Int.toNat ((x4.getD (Int.toNat x3) []).getD 0 0)) (Int.toNat ((x4.getD (Int.toNat x3) []).getD 1 0)) (Int.toNat ((x4.getD (Int.toNat x3) []).getD 2 0)) (Int.toNat ((x4.getD (Int.toNat x3) []).getD 3 0)) ((x4.getD (Int.toNat x3) []).getD 4 0) x0 (fsub .f32 ((r65 x3 x0 x1 x4).2) x1))
 let c317 := (r125 (Int.toNat ((x4.getD (Int.toNat x3) []).getD 0 0)) (Int.toNat ((x4.getD (Int.toNat x3) []).getD 1 0)) (Int.toNat ((x4.getD (Int.toNat x3) []).getD 2 0)) (Int.toNat ((x4.getD (Int.toNat x3) []).getD 3 0)) ((x4.getD (Int.toNat x3) []).getD 4 0) x0 (fsub .f32 0 ((r65 ((x4.getD (Int.toNat x3) []).getD 4 0) x0 x1 x4).2)))
 (cond (decide ((x3 : Int) < x2))
 (cond ((decide ((0 : Int) ≤ x3)) && (Nat.blt (Int.toNat x3) x4.length)) (cond (Nat.blt (Int.toNat x3) x4.length) (cond ((((x4.getD (Int.toNat x3) []).getD 4 0) : Int) == (-1)) (cond (Nat.beq ((r65 x3 x0 x1 x4).1) 0) (cond (Nat.beq (c316.1) 0) (cond (Nat.ble ((x5.length + 1) * 5) 140737488355328) (cond (Nat.beq ((ih x0 x1 x2 (IntKind.i64.wrap (x3 + 1)) x4 (((x5.drop 0).take x5.length) ++ ([[(((c316.2) : Nat) : Int)]] : List (List Int)))).1) 0) (a58l0 x0 x1 x2 x3 x4 x5 (0, ((ih x0 x1 x2 (IntKind.i64.wrap (x3 + 1)) x4 (((x5.drop 0).take x5.length) ++ ([[(((c316.2) : Nat) : Int)]] : List (List Int)))).2))) (cond (Nat.beq ((ih x0 x1 x2 (IntKind.i64.wrap (x3 + 1)) x4 (((x5.drop 0).take x5.length) ++ ([[(((c316.2) : Nat) : Int)]] : List (List Int)))).1) 1) (a58l0 x0 x1 x2 x3 x4 x5 (0, (((x5.drop 0).take x5.length) ++ ([[(((c316.2) : Nat) : Int)]] : List (List Int))))) none)) none) none) none) (cond (Nat.beq ((r65 ((x4.getD (Int.toNat x3) []).getD 4 0) x0 x1 x4).1) 0) (cond (Nat.beq (c317.1) 0) (cond (Nat.ble ((x5.length + 1) * 5) 140737488355328) (cond (Nat.beq ((ih x0 x1 x2 (IntKind.i64.wrap (x3 + 1)) x4 (((x5.drop 0).take x5.length) ++ ([[(((c317.2) : Nat) : Int)]] : List (List Int)))).1) 0) (a58l0 x0 x1 x2 x3 x4 x5 (0, ((ih x0 x1 x2 (IntKind.i64.wrap (x3 + 1)) x4 (((x5.drop 0).take x5.length) ++ ([[(((c317.2) : Nat) : Int)]] : List (List Int)))).2))) (cond (Nat.beq ((ih x0 x1 x2 (IntKind.i64.wrap (x3 + 1)) x4 (((x5.drop 0).take x5.length) ++ ([[(((c317.2) : Nat) : Int)]] : List (List Int)))).1) 1) (a58l0 x0 x1 x2 x3 x4 x5 (0, (((x5.drop 0).take x5.length) ++ ([[(((c317.2) : Nat) : Int)]] : List (List Int))))) none)) none) none) none)) none) none)
 (a58l0 x0 x1 x2 x3 x4 x5 (1, [])))
set_option maxRecDepth 100000 in
set_option maxHeartbeats 4000000 in
theorem e58l0 (m : Nat) (x0 x1 : Nat) (x2 x3 : Int) (x4 x5 : List (List Int)) : evC Try.prog ext T30 noL 200 (loopN Try.f58 0) (loopTail ([0, 1, 2, 7, 11, 12, 13], []) [7] [1] (sumK 49 [0, 1, 2, 7, 11, 12, 13] [7] (q58l0 m))) (frameOf 49 [0, 1, 2, 7, 11, 12, 13] [wsl 0, vf x0, vf x1, wsl 1, wsl 0, vi x2, vi x3]) ⟨[⟨true, (some (.tab sc0 x4))⟩, ⟨true, (some (.tab [.fl .f32] x5))⟩], 2, []⟩ = firstT ([((Nat.beq ((r58l0 (m + 1) x0 x1 x2 x3 x4 x5).1) 0), .exit 0, [wsl 2], ⟨[⟨true, (some (.tab sc0 x4))⟩, ⟨true, none⟩, ⟨true, (some (.tab [.fl .f32] ((r58l0 (m + 1) x0 x1 x2 x3 x4 x5).2)))⟩], 2, [1]⟩), ((Nat.beq ((r58l0 (m + 1) x0 x1 x2 x3 x4 x5).1) 1), .exit 0, [wsl 1], ⟨[⟨true, (some (.tab sc0 x4))⟩, ⟨true, (some (.tab [.fl .f32] x5))⟩], 2, [1]⟩)].map fun (b, x) => (b, (x.1, frameOf 49 [7] x.2.1, x.2.2))) :=
 (show _ = w58l0 (r58l0 m) x0 x1 x2 x3 x4 x5 from by kernel_rfl).trans
 (show w58l0 (r58l0 m) x0 x1 x2 x3 x4 x5 = a58l0 x0 x1 x2 x3 x4 x5 (r58l0 (m + 1) x0 x1 x2 x3 x4 x5) from by unfold w58l0; show _ = a58l0 x0 x1 x2 x3 x4 x5 (b58l0 (r58l0 m) x0 x1 x2 x3 x4 x5); unfold b58l0; exact (cond_both (a58l0 x0 x1 x2 x3 x4 x5) _ (fun h0 => (cond_both (a58l0 x0 x1 x2 x3 x4 x5) _ (fun h1 => (cond_t (ev_and2 h1) (cond_app (a58l0 x0 x1 x2 x3 x4 x5) _ (cond_app (a58l0 x0 x1 x2 x3 x4 x5) _ (cond_app (a58l0 x0 x1 x2 x3 x4 x5) _ (cond_app (a58l0 x0 x1 x2 x3 x4 x5) _ (cond_app (a58l0 x0 x1 x2 x3 x4 x5) _ rfl (cond_app (a58l0 x0 x1 x2 x3 x4 x5) _ rfl rfl)) rfl) rfl) rfl) (cond_app (a58l0 x0 x1 x2 x3 x4 x5) _ (cond_app (a58l0 x0 x1 x2 x3 x4 x5) _ (cond_app (a58l0 x0 x1 x2 x3 x4 x5) _ (cond_app (a58l0 x0 x1 x2 x3 x4 x5) _ rfl (cond_app (a58l0 x0 x1 x2 x3 x4 x5) _ rfl rfl)) rfl) rfl) rfl)))) (fun h1 => rfl))) (fun h0 => rfl)))
set_option maxRecDepth 100000 in
set_option maxHeartbeats 4000000 in
theorem qm58l0 : ∀ m, SumKOk Try.prog (loopN Try.f58 0) 49 [0, 1, 2, 7, 11, 12, 13] [7] (q58l0 m) := by
  intro m
  induction m with
  | zero =>
    intro vals s x h1 h2 h3
    unfold q58l0 at h3; split at h3
    · rename_i h; split at h3
      · rename_i hc; obtain ⟨rfl, rfl, rfl⟩ := hc; exact absurd h3 (by simp [r58l0, firstT, Nat.beq])
      · exact noQ_ok _ _ _ h1 h2 h3
    · exact noQ_ok _ _ _ h1 h2 h3
  | succ m ih =>
    intro vals s x h1 h2 h3
    unfold q58l0 at h3; split at h3
    · rename_i h; split at h3
      · rename_i hc; obtain ⟨rfl, rfl, rfl⟩ := hc; exact sum_step ok30 extOk mixed ((lfOkF_no _ _).inner (by kernel_rfl)) ih h1 h2 h (e58l0 m _ _ _ _ _ _) rfl h3
      · exact noQ_ok _ _ _ h1 h2 h3
    · exact noQ_ok _ _ _ h1 h2 h3
noncomputable def Q58l0 : SumK := fun vals s => q58l0 (fuelOf vals s.h) vals s
theorem qok58l0 : SumKOk Try.prog (loopN Try.f58 0) 49 [0, 1, 2, 7, 11, 12, 13] [7] Q58l0 := fuel_ok qm58l0 fuelOf
noncomputable def L58_1 : LoopT := addL noL 4 ([0, 1, 2, 7, 11, 12, 13], []) (sumK 49 [0, 1, 2, 7, 11, 12, 13] [7] Q58l0)
theorem lok58_1 : LfOkF Try.prog L58_1 Try.f58 := lfOkF_add (lfOkF_no _ _) qok58l0 (by kernel_rfl) (by kernel_rfl) (by kernel_rfl)

/-- impl.flowsOf -/
noncomputable def r58 (x0 x1 : Nat) (x2 : List (List Int)) : Nat × List (List Int) :=
 cond (Nat.beq ((r58l0 (1000 + 0 + x2.length) x0 x1 ((x2.length : Nat) : Int) 0 x2 ([] : List (List Int))).1) 0) (0, ((r58l0 (1000 + 0 + x2.length) x0 x1 ((x2.length : Nat) : Int) 0 x2 ([] : List (List Int))).2)) (cond (Nat.beq ((r58l0 (1000 + 0 + x2.length) x0 x1 ((x2.length : Nat) : Int) 0 x2 ([] : List (List Int))).1) 1) (0, ([] : List (List Int))) (1, []))
noncomputable def a58 (x0 x1 : Nat) (x2 : List (List Int)) (p : Nat × List (List Int)) : Res := firstT [((Nat.beq (p.1) 0), wsl 1, ⟨[⟨true, (some (.tab sc0 x2))⟩, ⟨true, (some (.tab [.fl .f32] (p.2)))⟩], 1, []⟩)]
noncomputable def w58 (x0 x1 : Nat) (x2 : List (List Int)) : Res :=
 (cond (Nat.beq ((r58l0 (1000 + 0 + x2.length) x0 x1 ((x2.length : Nat) : Int) 0 x2 ([] : List (List Int))).1) 0)
 (a58 x0 x1 x2 (0, ((r58l0 (1000 + 0 + x2.length) x0 x1 ((x2.length : Nat) : Int) 0 x2 ([] : List (List Int))).2)))
 (cond (Nat.beq ((r58l0 (1000 + 0 + x2.length) x0 x1 ((x2.length : Nat) : Int) 0 x2 ([] : List (List Int))).1) 1) (a58 x0 x1 x2 (0, ([] : List (List Int)))) none))
set_option maxRecDepth 100000 in
set_option maxHeartbeats 4000000 in
theorem e58 (x0 x1 : Nat) (x2 : List (List Int)) : evFn Try.prog ext T30 L58_1 200 Try.f58 [wsl 0, vf x0, vf x1] ⟨[⟨true, (some (.tab sc0 x2))⟩], 1, []⟩ = firstT [((Nat.beq ((r58 x0 x1 x2).1) 0), wsl 1, ⟨[⟨true, (some (.tab sc0 x2))⟩, ⟨true, (some (.tab [.fl .f32] ((r58 x0 x1 x2).2)))⟩], 1, []⟩)] :=
 (show _ = w58 x0 x1 x2 from by kernel_rfl).trans
 (show w58 x0 x1 x2 = a58 x0 x1 x2 (r58 x0 x1 x2) from by unfold w58 r58; exact (cond_app (a58 x0 x1 x2) _ rfl (cond_app (a58 x0 x1 x2) _ rfl rfl)))
noncomputable def s58 (args : List Value) (s : St) : List (Bool × Value × St) :=
 match args, s.h with
 | [.iface f0 .nilIface, .float .f32 x0, .float .f32 x1], [⟨true, some (.tab [.fl .f32, .fl .f32, .fl .f32, .fl .f32, .int .i64] x2)⟩] => if f0 = 0 then [((Nat.beq ((r58 x0 x1 x2).1) 0), wsl 1, ⟨[⟨true, (some (.tab sc0 x2))⟩, ⟨true, (some (.tab [.fl .f32] ((r58 x0 x1 x2).2)))⟩], 1, []⟩)] else T30 58 args s
 | _, _ => T30 58 args s
noncomputable def T31 : CallF := addF T30 58 s58
set_option maxRecDepth 100000 in
set_option maxHeartbeats 4000000 in
theorem ok31 : CfOk Try.prog T31 := by
  refine cfOk_add ok30 fun args s r s' h1 h2 h3 => ?_
  unfold s58 at h3; split at h3
  · rename_i h; split at h3
    · rename_i hc; obtain ⟨rfl⟩ := hc; exact callOk ok30 Try.func58 h1 h2 h lok58_1.body (e58 _ _ _) rfl h3
    · exact ok30 _ _ _ _ _ h1 h2 h3
  · exact ok30 _ _ _ _ _ h1 h2 h3

/-- impl.isFinite, loop 0: one round -/
noncomputable def b59l0c (ih : Int → Int → List (List Int) → Nat) (x0 x1 : Int) (x2 : List (List Int)) : Nat :=
 cond (decide ((x1 : Int) < x0)) (cond ((decide ((0 : Int) ≤ x1)) && (Nat.blt (Int.toNat x1) x2.length)) (cond (r126 (widen (Int.toNat ((x2.getD (Int.toNat x1) []).getD 0 0)))) (0) (cond (r127 (widen (Int.toNat ((x2.getD (Int.toNat x1) []).getD 0 0))) 0) (0) (ih x0 (IntKind.i64.wrap (x1 + 1)) x2))) (2)) (1)
noncomputable def r59l0c : Nat → Int → Int → List (List Int) → Nat
 | 0 => fun _ _ _ => (2)
 | m + 1 => b59l0c (r59l0c m)
noncomputable def a59l0c (x0 x1 : Int) (x2 : List (List Int)) (p : Nat) : Option (Fin' × List Value × St) := firstT ([((Nat.beq p 0), .ret, [.bool false], ⟨[⟨true, (some (.tab [.fl .f32] x2))⟩], 1, []⟩), ((Nat.beq p 1), .exit 0, [anyV], ⟨[⟨true, (some (.tab [.fl .f32] x2))⟩], 1, []⟩)].map fun (b, x) => (b, (x.1, frameOf 20 [2] x.2.1, x.2.2)))
noncomputable def u59l0c (x0 x1 : Int) (x2 : List (List Int)) (p : Nat) : Option (Fin' × List Value × St) := alts ([((Nat.beq p 0), .ret, [.bool false], ⟨[⟨true, (some (.tab [.fl .f32] x2))⟩], 1, []⟩), ((Nat.beq p 1), .exit 0, [anyV], ⟨[⟨true, (some (.tab [.fl .f32] x2))⟩], 1, []⟩)].map fun (b, x) => (b, (x.1, frameOf 20 [2] x.2.1, x.2.2))) some
theorem v59l0c (x0 x1 : Int) (x2 : List (List Int)) (p : Nat) : u59l0c x0 x1 x2 p = a59l0c x0 x1 x2 p := alts_first _
noncomputable def q59l0c (m : Nat) : SumK := fun vals s =>
 match vals, s.h with
 | [.iface f0 .nilIface, .int .i64 x0, .int .i64 x1], [⟨true, some (.tab [.fl .f32] x2)⟩] => if f0 = 0 then [((Nat.beq (r59l0c m x0 x1 x2) 0), .ret, [.bool false], ⟨[⟨true, (some (.tab [.fl .f32] x2))⟩], 1, []⟩), ((Nat.beq (r59l0c m x0 x1 x2) 1), .exit 0, [anyV], ⟨[⟨true, (some (.tab [.fl .f32] x2))⟩], 1, []⟩)] else Q59l0b vals s
 | _, _ => Q59l0b vals s
noncomputable def w59l0c (ih : Int → Int → List (List Int) → Nat) (x0 x1 : Int) (x2 : List (List Int)) : Option (Fin' × List Value × St) :=
 (cond (decide ((x1 : Int) < x0))
 (cond ((decide ((0 : Int) ≤ x1)) && (Nat.blt (Int.toNat x1) x2.length)) (cond (Nat.blt (Int.toNat x1) x2.length) (cond (r126 (widen (Int.toNat ((x2.getD (Int.toNat x1) []).getD 0 0)))) (a59l0c x0 x1 x2 (0)) (cond (r127 (widen (Int.toNat ((x2.getD (Int.toNat x1) []).getD 0 0))) 0) (a59l0c x0 x1 x2 (0)) (u59l0c x0 x1 x2 (ih x0 (IntKind.i64.wrap (x1 + 1)) x2)))) none) none)
 (a59l0c x0 x1 x2 (1)))
set_option maxRecDepth 100000 in
set_option maxHeartbeats 4000000 in
theorem e59l0c (m : Nat) (x0 x1 : Int) (x2 : List (List Int)) : evC Try.prog ext T31 L59_2 200 (loopN Try.f59 0) (loopTail ([5, 6, 7], []) [2] [] (sumK 20 [5, 6, 7] [2] (q59l0c m))) (frameOf 20 [5, 6, 7] [wsl 0, vi x0, vi x1]) ⟨[⟨true, (some (.tab [.fl .f32] x2))⟩], 1, []⟩ = firstT ([((Nat.beq (r59l0c (m + 1) x0 x1 x2) 0), .ret, [.bool false], ⟨[⟨true, (some (.tab [.fl .f32] x2))⟩], 1, []⟩), ((Nat.beq (r59l0c (m + 1) x0 x1 x2) 1), .exit 0, [anyV], ⟨[⟨true, (some (.tab [.fl .f32] x2))⟩], 1, []⟩)].map fun (b, x) => (b, (x.1, frameOf 20 [2] x.2.1, x.2.2))) :=
 (show _ = w59l0c (r59l0c m) x0 x1 x2 from by kernel_rfl).trans
 (show w59l0c (r59l0c m) x0 x1 x2 = a59l0c x0 x1 x2 (r59l0c (m + 1) x0 x1 x2) from by unfold w59l0c; show _ = a59l0c x0 x1 x2 (b59l0c (r59l0c m) x0 x1 x2); unfold b59l0c; exact (cond_both (a59l0c x0 x1 x2) _ (fun h0 => (cond_both (a59l0c x0 x1 x2) _ (fun h1 => (cond_t (ev_and2 h1) (cond_app (a59l0c x0 x1 x2) _ rfl (cond_app (a59l0c x0 x1 x2) _ rfl (v59l0c x0 x1 x2 ((r59l0c m) x0 (IntKind.i64.wrap (x1 + 1)) x2)))))) (fun h1 => rfl))) (fun h0 => rfl)))
set_option maxRecDepth 100000 in
set_option maxHeartbeats 4000000 in
theorem qm59l0c : ∀ m, SumKOk Try.prog (loopN Try.f59 0) 20 [5, 6, 7] [2] (q59l0c m) := by
  intro m
  induction m with
  | zero =>
    intro vals s x h1 h2 h3
    unfold q59l0c at h3; split at h3
    · rename_i h; split at h3
      · rename_i hc; obtain ⟨rfl⟩ := hc; exact absurd h3 (by simp [r59l0c, firstT, Nat.beq])
      · exact qok59l0b _ _ _ h1 h2 h3
    · exact qok59l0b _ _ _ h1 h2 h3
  | succ m ih =>
    intro vals s x h1 h2 h3
    unfold q59l0c at h3; split at h3
    · rename_i h; split at h3
      · rename_i hc; obtain ⟨rfl⟩ := hc; exact sum_step ok31 extOk mixed (lok59_2.inner (by kernel_rfl)) ih h1 h2 h (e59l0c m _ _ _) rfl h3
      · exact qok59l0b _ _ _ h1 h2 h3
    · exact qok59l0b _ _ _ h1 h2 h3
noncomputable def Q59l0c : SumK := fun vals s => q59l0c (fuelOf vals s.h) vals s
theorem qok59l0c : SumKOk Try.prog (loopN Try.f59 0) 20 [5, 6, 7] [2] Q59l0c := fuel_ok qm59l0c fuelOf
noncomputable def L59_3 : LoopT := addL L59_2 3 ([5, 6, 7], []) (sumK 20 [5, 6, 7] [2] Q59l0c)
theorem lok59_3 : LfOkF Try.prog L59_3 Try.f59 := lfOkF_add lok59_2 qok59l0c (by kernel_rfl) (by kernel_rfl) (by kernel_rfl)

/-- impl.isFinite -/
noncomputable def r59b (x0 : List (List Int)) : Nat × Bool :=
 cond (Nat.beq (r59l0c (1000 + x0.length) ((x0.length : Nat) : Int) 0 x0) 0) (0, false) (cond (Nat.beq (r59l0c (1000 + x0.length) ((x0.length : Nat) : Int) 0 x0) 1) (0, true) (1, false))
noncomputable def a59b (x0 : List (List Int)) (p : Nat × Bool) : Res := firstT [((Nat.beq (p.1) 0), .bool (p.2), ⟨[⟨true, (some (.tab [.fl .f32] x0))⟩], 1, []⟩)]
noncomputable def w59b (x0 : List (List Int)) : Res :=
 (cond (Nat.beq (r59l0c (1000 + x0.length) ((x0.length : Nat) : Int) 0 x0) 0)
 (a59b x0 (0, false))
 (cond (Nat.beq (r59l0c (1000 + x0.length) ((x0.length : Nat) : Int) 0 x0) 1) (a59b x0 (0, true)) none))
set_option maxRecDepth 100000 in
set_option maxHeartbeats 4000000 in
theorem e59b (x0 : List (List Int)) : evFn Try.prog ext T31 L59_3 200 Try.f59 [wsl 0] ⟨[⟨true, (some (.tab [.fl .f32] x0))⟩], 1, []⟩ = firstT [((Nat.beq ((r59b x0).1) 0), .bool ((r59b x0).2), ⟨[⟨true, (some (.tab [.fl .f32] x0))⟩], 1, []⟩)] :=
 (show _ = w59b x0 from by kernel_rfl).trans
 (show w59b x0 = a59b x0 (r59b x0) from by unfold w59b r59b; exact (cond_app (a59b x0) _ rfl (cond_app (a59b x0) _ rfl rfl)))
noncomputable def s59b (args : List Value) (s : St) : List (Bool × Value × St) :=
 match args, s.h with
 | [.iface f0 .nilIface], [⟨true, some (.tab [.fl .f32] x0)⟩] => if f0 = 0 then [((Nat.beq ((r59b x0).1) 0), .bool ((r59b x0).2), ⟨[⟨true, (some (.tab [.fl .f32] x0))⟩], 1, []⟩)] else T31 59 args s
 | _, _ => T31 59 args s
noncomputable def T32 : CallF := addF T31 59 s59b
set_option maxRecDepth 100000 in
set_option maxHeartbeats 4000000 in
theorem ok32 : CfOk Try.prog T32 := by
  refine cfOk_add ok31 fun args s r s' h1 h2 h3 => ?_
  unfold s59b at h3; split at h3
  · rename_i h; split at h3
    · rename_i hc; obtain ⟨rfl⟩ := hc; exact callOk ok31 Try.func59 h1 h2 h lok59_3.body (e59b _) rfl h3
    · exact ok31 _ _ _ _ _ h1 h2 h3
  · exact ok31 _ _ _ _ _ h1 h2 h3

/-- impl.FlowsOf -/
noncomputable def r11 (x0 x1 : Nat) (x2 : List (List Int)) : Nat × Int × List (List Int) :=
 cond (Nat.beq ((r57 x0 x1 x2).1) 0) (cond ((((r57 x0 x1 x2).2) : Int) != 0) (0, ((r57 x0 x1 x2).2), []) (cond (Nat.beq ((r58 x0 x1 x2).1) 0) (cond (Nat.beq ((r59b ((r58 x0 x1 x2).2)).1) 0) (cond (!((r59b ((r58 x0 x1 x2).2)).2)) (0, 4, []) (1, 0, ((r58 x0 x1 x2).2))) (2, 0, [])) (2, 0, []))) (2, 0, [])
noncomputable def a11 (x0 x1 : Nat) (x2 : List (List Int)) (p : Nat × Int × List (List Int)) : Res := firstT [((Nat.beq (p.1) 0), .tuple #[.slice none 0 0, vi (p.2.1)], ⟨[⟨true, (some (.tab sc0 x2))⟩], 1, []⟩), ((Nat.beq (p.1) 1), .tuple #[wsl 1, vi 0], ⟨[⟨true, (some (.tab sc0 x2))⟩, ⟨true, (some (.tab [.fl .f32] (p.2.2)))⟩], 1, []⟩)]
noncomputable def w11 (x0 x1 : Nat) (x2 : List (List Int)) : Res :=
 (cond (Nat.beq ((r57 x0 x1 x2).1) 0)
 (cond ((((r57 x0 x1 x2).2) : Int) != 0) (a11 x0 x1 x2 (0, ((r57 x0 x1 x2).2), [])) (cond (Nat.beq ((r58 x0 x1 x2).1) 0) (cond (Nat.beq ((r59b ((r58 x0 x1 x2).2)).1) 0) (cond (!((r59b ((r58 x0 x1 x2).2)).2)) (a11 x0 x1 x2 (0, 4, [])) (a11 x0 x1 x2 (1, 0, ((r58 x0 x1 x2).2)))) none) none))
 none)
set_option maxRecDepth 100000 in
set_option maxHeartbeats 4000000 in
theorem e11 (x0 x1 : Nat) (x2 : List (List Int)) : evFn Try.prog ext T32 noL 200 Try.f11 [wsl 0, vf x0, vf x1] ⟨[⟨true, (some (.tab sc0 x2))⟩], 1, []⟩ = firstT [((Nat.beq ((r11 x0 x1 x2).1) 0), .tuple #[.slice none 0 0, vi ((r11 x0 x1 x2).2.1)], ⟨[⟨true, (some (.tab sc0 x2))⟩], 1, []⟩), ((Nat.beq ((r11 x0 x1 x2).1) 1), .tuple #[wsl 1, vi 0], ⟨[⟨true, (some (.tab sc0 x2))⟩, ⟨true, (some (.tab [.fl .f32] ((r11 x0 x1 x2).2.2)))⟩], 1, []⟩)] :=
 (show _ = w11 x0 x1 x2 from by kernel_rfl).trans
 (show w11 x0 x1 x2 = a11 x0 x1 x2 (r11 x0 x1 x2) from by unfold w11 r11; exact (cond_app (a11 x0 x1 x2) _ (cond_app (a11 x0 x1 x2) _ rfl (cond_app (a11 x0 x1 x2) _ (cond_app (a11 x0 x1 x2) _ (cond_app (a11 x0 x1 x2) _ rfl rfl) rfl) rfl)) rfl))
noncomputable def s11 (args : List Value) (s : St) : List (Bool × Value × St) :=
 match args, s.h with
 | [.iface f0 .nilIface, .float .f32 x0, .float .f32 x1], [⟨true, some (.tab [.fl .f32, .fl .f32, .fl .f32, .fl .f32, .int .i64] x2)⟩] => if f0 = 0 then [((Nat.beq ((r11 x0 x1 x2).1) 0), .tuple #[.slice none 0 0, vi ((r11 x0 x1 x2).2.1)], ⟨[⟨true, (some (.tab sc0 x2))⟩], 1, []⟩), ((Nat.beq ((r11 x0 x1 x2).1) 1), .tuple #[wsl 1, vi 0], ⟨[⟨true, (some (.tab sc0 x2))⟩, ⟨true, (some (.tab [.fl .f32] ((r11 x0 x1 x2).2.2)))⟩], 1, []⟩)] else T32 11 args s
 | _, _ => T32 11 args s
noncomputable def T33 : CallF := addF T32 11 s11
set_option maxRecDepth 100000 in
set_option maxHeartbeats 4000000 in
theorem ok33 : CfOk Try.prog T33 := by
  refine cfOk_add ok32 fun args s r s' h1 h2 h3 => ?_
  unfold s11 at h3; split at h3
  · rename_i h; split at h3
    · rename_i hc; obtain ⟨rfl⟩ := hc; exact callOk ok32 Try.func11 h1 h2 h (lfOkF_no _ _).body (e11 _ _ _) rfl h3
    · exact ok32 _ _ _ _ _ h1 h2 h3
  · exact ok32 _ _ _ _ _ h1 h2 h3

/-- spec.l00In -/
noncomputable def r66 (x0 x1 x2 : Int) : Bool :=
 cond (decide ((x0 : Int) ≥ x1)) ((decide ((x0 : Int) ≤ x2))) (false)
noncomputable def a66 (x0 x1 x2 : Int) (p : Bool) : Res := firstT [(true, .bool p, st0)]
noncomputable def w66 (x0 x1 x2 : Int) : Res :=
 (cond (decide ((x0 : Int) ≥ x1))
 (a66 x0 x1 x2 ((decide ((x0 : Int) ≤ x2))))
 (a66 x0 x1 x2 (false)))
set_option maxRecDepth 100000 in
set_option maxHeartbeats 4000000 in
theorem e66 (x0 x1 x2 : Int) : evFn Try.prog ext T33 noL 200 Try.f66 [vi x0, vi x1, vi x2] st0 = firstT [(true, .bool (r66 x0 x1 x2), st0)] :=
 (show _ = w66 x0 x1 x2 from by kernel_rfl).trans
 (show w66 x0 x1 x2 = a66 x0 x1 x2 (r66 x0 x1 x2) from by unfold w66 r66; exact (cond_app (a66 x0 x1 x2) _ rfl rfl))
noncomputable def s66 (args : List Value) (s : St) : List (Bool × Value × St) :=
 match args, s.h with
 | [.int .i64 x0, .int .i64 x1, .int .i64 x2], [] => [(true, .bool (r66 x0 x1 x2), st0)]
 | _, _ => T33 66 args s
noncomputable def T34 : CallF := addF T33 66 s66
set_option maxRecDepth 100000 in
set_option maxHeartbeats 4000000 in
theorem ok34 : CfOk Try.prog T34 := by
  refine cfOk_add ok33 fun args s r s' h1 h2 h3 => ?_
  unfold s66 at h3; split at h3
  · rename_i h; exact callOk ok33 Try.func66 h1 h2 h (lfOkF_no _ _).body (e66 _ _ _) rfl h3
  · exact ok33 _ _ _ _ _ h1 h2 h3

/-- spec.l01Finite -/
noncomputable def r147 (x0 : Nat) : Bool :=
 ((feq .f32 (fsub .f32 x0 x0) 0))
noncomputable def a147 (x0 : Nat) (p : Bool) : Res := firstT [(true, .bool p, st0)]
noncomputable def w147 (x0 : Nat) : Res :=
 (a147 x0 ((feq .f32 (fsub .f32 x0 x0) 0)))
set_option maxRecDepth 100000 in
set_option maxHeartbeats 4000000 in
theorem e147 (x0 : Nat) : evFn Try.prog ext T34 noL 200 Try.f147 [vf x0] st0 = firstT [(true, .bool (r147 x0), st0)] :=
 (show _ = w147 x0 from by kernel_rfl).trans
 (show w147 x0 = a147 x0 (r147 x0) from by unfold w147 r147; exact rfl)
noncomputable def s147 (args : List Value) (s : St) : List (Bool × Value × St) :=
 match args, s.h with
 | [.float .f32 x0], [] => [(true, .bool (r147 x0), st0)]
 | _, _ => T34 147 args s
noncomputable def T35 : CallF := addF T34 147 s147
set_option maxRecDepth 100000 in
set_option maxHeartbeats 4000000 in
theorem ok35 : CfOk Try.prog T35 := by
  refine cfOk_add ok34 fun args s r s' h1 h2 h3 => ?_
  unfold s147 at h3; split at h3
  · rename_i h; exact callOk ok34 Try.func147 h1 h2 h (lfOkF_no _ _).body (e147 _) rfl h3
  · exact ok34 _ _ _ _ _ h1 h2 h3

/-- spec.l01Amount -/
noncomputable def r148 (x0 : Nat) : Bool :=
 cond (r147 x0) (cond (fgt .f32 x0 0) (true) (cond (!isN .f32 x0) (((((x0 : Nat) : Int) : Int) == 0)) (false))) (false)
noncomputable def a148 (x0 : Nat) (p : Bool) : Res := firstT [(true, .bool p, st0)]
noncomputable def w148 (x0 : Nat) : Res :=
 (cond (r147 x0)
 (cond (fgt .f32 x0 0) (a148 x0 (true)) (cond (!isN .f32 x0) (a148 x0 (((((x0 : Nat) : Int) : Int) == 0))) (a148 x0 (false))))
 (a148 x0 (false)))
set_option maxRecDepth 100000 in
set_option maxHeartbeats 4000000 in
theorem e148 (x0 : Nat) : evFn Try.prog ext T35 noL 200 Try.f148 [vf x0] st0 = firstT [(true, .bool (r148 x0), st0)] :=
 (show _ = w148 x0 from by kernel_rfl).trans
 (show w148 x0 = a148 x0 (r148 x0) from by unfold w148 r148; exact (cond_app (a148 x0) _ (cond_app (a148 x0) _ rfl (cond_app (a148 x0) _ rfl rfl)) rfl))
noncomputable def s148 (args : List Value) (s : St) : List (Bool × Value × St) :=
 match args, s.h with
 | [.float .f32 x0], [] => [(true, .bool (r148 x0), st0)]
 | _, _ => T35 148 args s
noncomputable def T36 : CallF := addF T35 148 s148
set_option maxRecDepth 100000 in
set_option maxHeartbeats 4000000 in
theorem ok36 : CfOk Try.prog T36 := by
  refine cfOk_add ok35 fun args s r s' h1 h2 h3 => ?_
  unfold s148 at h3; split at h3
  · rename_i h; exact callOk ok35 Try.func148 h1 h2 h (lfOkF_no _ _).body (e148 _) rfl h3
  · exact ok35 _ _ _ _ _ h1 h2 h3

/-- spec.l03Hot -/
noncomputable def r150 (x0 : Nat) : Bool :=
 cond (fgt .f32 x0 3262119936 || feq .f32 x0 3262119936) ((flt .f32 x0 1153138688 || feq .f32 x0 1153138688)) (false)
noncomputable def a150 (x0 : Nat) (p : Bool) : Res := firstT [(true, .bool p, st0)]
noncomputable def w150 (x0 : Nat) : Res :=
 (cond (fgt .f32 x0 3262119936 || feq .f32 x0 3262119936)
 (a150 x0 ((flt .f32 x0 1153138688 || feq .f32 x0 1153138688)))
 (a150 x0 (false)))
set_option maxRecDepth 100000 in
set_option maxHeartbeats 4000000 in
theorem e150 (x0 : Nat) : evFn Try.prog ext T36 noL 200 Try.f150 [vf x0] st0 = firstT [(true, .bool (r150 x0), st0)] :=
 (show _ = w150 x0 from by kernel_rfl).trans
 (show w150 x0 = a150 x0 (r150 x0) from by unfold w150 r150; exact (cond_app (a150 x0) _ rfl rfl))
noncomputable def s150 (args : List Value) (s : St) : List (Bool × Value × St) :=
 match args, s.h with
 | [.float .f32 x0], [] => [(true, .bool (r150 x0), st0)]
 | _, _ => T36 150 args s
noncomputable def T37 : CallF := addF T36 150 s150
set_option maxRecDepth 100000 in
set_option maxHeartbeats 4000000 in
theorem ok37 : CfOk Try.prog T37 := by
  refine cfOk_add ok36 fun args s r s' h1 h2 h3 => ?_
  unfold s150 at h3; split at h3
  · rename_i h; exact callOk ok36 Try.func150 h1 h2 h (lfOkF_no _ _).body (e150 _) rfl h3
  · exact ok36 _ _ _ _ _ h1 h2 h3

/-- spec.l01Share -/
noncomputable def r167 (x0 : Nat) : Bool :=
 cond (r148 x0) ((flt .f32 x0 1065353216 || feq .f32 x0 1065353216)) (false)
noncomputable def a167 (x0 : Nat) (p : Bool) : Res := firstT [(true, .bool p, st0)]
noncomputable def w167 (x0 : Nat) : Res :=
 (cond (r148 x0)
 (a167 x0 ((flt .f32 x0 1065353216 || feq .f32 x0 1065353216)))
 (a167 x0 (false)))
set_option maxRecDepth 100000 in
set_option maxHeartbeats 4000000 in
theorem e167 (x0 : Nat) : evFn Try.prog ext T37 noL 200 Try.f167 [vf x0] st0 = firstT [(true, .bool (r167 x0), st0)] :=
 (show _ = w167 x0 from by kernel_rfl).trans
 (show w167 x0 = a167 x0 (r167 x0) from by unfold w167 r167; exact (cond_app (a167 x0) _ rfl rfl))
noncomputable def s167 (args : List Value) (s : St) : List (Bool × Value × St) :=
 match args, s.h with
 | [.float .f32 x0], [] => [(true, .bool (r167 x0), st0)]
 | _, _ => T37 167 args s
noncomputable def T38 : CallF := addF T37 167 s167
set_option maxRecDepth 100000 in
set_option maxHeartbeats 4000000 in
theorem ok38 : CfOk Try.prog T38 := by
  refine cfOk_add ok37 fun args s r s' h1 h2 h3 => ?_
  unfold s167 at h3; split at h3
  · rename_i h; exact callOk ok37 Try.func167 h1 h2 h (lfOkF_no _ _).body (e167 _) rfl h3
  · exact ok37 _ _ _ _ _ h1 h2 h3

/-- spec.l03Flue -/
noncomputable def r149 (x0 : Nat) (x1 : List (List Int)) : Nat × Bool :=
 cond (Nat.blt x0 x1.length) (cond (r148 (Int.toNat ((x1.getD x0 []).getD 0 0))) (cond (fgt .f32 (Int.toNat ((x1.getD x0 []).getD 0 0)) 1031798784 || feq .f32 (Int.toNat ((x1.getD x0 []).getD 0 0)) 1031798784) (cond (flt .f32 (Int.toNat ((x1.getD x0 []).getD 0 0)) 1106247680 || feq .f32 (Int.toNat ((x1.getD x0 []).getD 0 0)) 1106247680) (cond (r148 (Int.toNat ((x1.getD x0 []).getD 1 0))) (cond (fgt .f32 (Int.toNat ((x1.getD x0 []).getD 1 0)) 1015021568 || feq .f32 (Int.toNat ((x1.getD x0 []).getD 1 0)) 1015021568) (cond (flt .f32 (Int.toNat ((x1.getD x0 []).getD 1 0)) 1082130432 || feq .f32 (Int.toNat ((x1.getD x0 []).getD 1 0)) 1082130432) (cond (r150 (Int.toNat ((x1.getD x0 []).getD 2 0))) (0, (r167 (Int.toNat ((x1.getD x0 []).getD 3 0)))) (0, false)) (0, false)) (0, false)) (0, false)) (0, false)) (0, false)) (0, false)) (1, false)
noncomputable def a149 (x0 : Nat) (x1 : List (List Int)) (p : Nat × Bool) : Res := firstT [((Nat.beq (p.1) 0), .bool (p.2), ⟨[⟨true, (some (.tab sc0 x1))⟩], 1, []⟩)]
noncomputable def w149 (x0 : Nat) (x1 : List (List Int)) : Res :=
 (cond (Nat.blt x0 x1.length)
 (cond (r148 (Int.toNat ((x1.getD x0 []).getD 0 0))) (cond (Nat.blt x0 x1.length) (cond (fgt .f32 (Int.toNat ((x1.getD x0 []).getD 0 0)) 1031798784 || feq .f32 (Int.toNat ((x1.getD x0 []).getD 0 0)) 1031798784) (cond (Nat.blt x0 x1.length) (cond (flt .f32 (Int.toNat ((x1.getD x0 []).getD 0 0)) 1106247680 || feq .f32 (Int.toNat ((x1.getD x0 []).getD 0 0)) 1106247680) (cond (Nat.blt x0 x1.length) (cond (r148 (Int.toNat ((x1.getD x0 []).getD 1 0))) (cond (Nat.blt x0 x1.length) (cond (fgt .f32 (Int.toNat ((x1.getD x0 []).getD 1 0)) 1015021568 || feq .f32 (Int.toNat ((x1.getD x0 []).getD 1 0)) 1015021568) (cond (Nat.blt x0 x1.length) (cond (flt .f32 (Int.toNat ((x1.getD x0 []).getD 1 0)) 1082130432 || feq .f32 (Int.toNat ((x1.getD x0 []).getD 1 0)) 1082130432) (cond (Nat.blt x0 x1.length) (cond (r150 (Int.toNat ((x1.getD x0 []).getD 2 0))) (cond (Nat.blt x0 x1.length) (a149 x0 x1 (0, (r167 (Int.toNat ((x1.getD x0 []).getD 3 0))))) none) (a149 x0 x1 (0, false))) none) (a149 x0 x1 (0, false))) none) (a149 x0 x1 (0, false))) none) (a149 x0 x1 (0, false))) none) (a149 x0 x1 (0, false))) none) (a149 x0 x1 (0, false))) none) (a149 x0 x1 (0, false)))
 none)
set_option maxRecDepth 100000 in
set_option maxHeartbeats 4000000 in
theorem e149 (x0 : Nat) (x1 : List (List Int)) : evFn Try.prog ext T38 noL 200 Try.f149 [.pointer (some ⟨0, x0, some 0⟩)] ⟨[⟨true, (some (.tab sc0 x1))⟩], 1, []⟩ = firstT [((Nat.beq ((r149 x0 x1).1) 0), .bool ((r149 x0 x1).2), ⟨[⟨true, (some (.tab sc0 x1))⟩], 1, []⟩)] :=
 (show _ = w149 x0 x1 from by kernel_rfl).trans
 (show w149 x0 x1 = a149 x0 x1 (r149 x0 x1) from by unfold w149 r149; exact (cond_both (a149 x0 x1) _ (fun h0 => (cond_both (a149 x0 x1) _ (fun h1 => (cond_t h0 (cond_both (a149 x0 x1) _ (fun h2 => (cond_t h0 (cond_both (a149 x0 x1) _ (fun h3 => (cond_t h0 (cond_both (a149 x0 x1) _ (fun h4 => (cond_t h0 (cond_both (a149 x0 x1) _ (fun h5 => (cond_t h0 (cond_both (a149 x0 x1) _ (fun h6 => (cond_t h0 (cond_both (a149 x0 x1) _ (fun h7 => (cond_t h0 rfl)) (fun h7 => rfl)))) (fun h6 => rfl)))) (fun h5 => rfl)))) (fun h4 => rfl)))) (fun h3 => rfl)))) (fun h2 => rfl)))) (fun h1 => rfl))) (fun h0 => rfl)))
noncomputable def s149 (args : List Value) (s : St) : List (Bool × Value × St) :=
 match args, s.h with
 | [.pointer (some ⟨f0, x0, some f1⟩)], [⟨true, some (.tab [.fl .f32, .fl .f32, .fl .f32, .fl .f32, .int .i64] x1)⟩] => if f0 = 0 ∧ f1 = 0 then [((Nat.beq ((r149 x0 x1).1) 0), .bool ((r149 x0 x1).2), ⟨[⟨true, (some (.tab sc0 x1))⟩], 1, []⟩)] else T38 149 args s
 | _, _ => T38 149 args s
noncomputable def T39 : CallF := addF T38 149 s149
set_option maxRecDepth 100000 in
set_option maxHeartbeats 4000000 in
theorem ok39 : CfOk Try.prog T39 := by
  refine cfOk_add ok38 fun args s r s' h1 h2 h3 => ?_
  unfold s149 at h3; split at h3
  · rename_i h; split at h3
    · rename_i hc; obtain ⟨rfl, rfl⟩ := hc; exact callOk ok38 Try.func149 h1 h2 h (lfOkF_no _ _).body (e149 _ _) rfl h3
    · exact ok38 _ _ _ _ _ h1 h2 h3
  · exact ok38 _ _ _ _ _ h1 h2 h3

/-- spec.l03Ok, loop 0: one round -/
noncomputable def b97l0 (ih : Int → Int → List (List Int) → Nat) (x0 x1 : Int) (x2 : List (List Int)) : Nat :=
 cond (decide ((x1 : Int) < x0)) (cond ((decide ((0 : Int) ≤ x1)) && (Nat.blt (Int.toNat x1) x2.length)) (cond (Nat.beq ((r149 (Int.toNat x1) x2).1) 0) (cond (!((r149 (Int.toNat x1) x2).2)) (0) (cond ((((x2.getD (Int.toNat x1) []).getD 4 0) : Int) == (-1)) (ih x0 (IntKind.i64.wrap (x1 + 1)) x2) (cond (!(r66 ((x2.getD (Int.toNat x1) []).getD 4 0) 0 (IntKind.i64.wrap (x0 - 1)))) (0) (cond ((((x2.getD (Int.toNat x1) []).getD 4 0) : Int) == x1) (0) (cond ((decide ((0 : Int) ≤ ((x2.getD (Int.toNat x1) []).getD 4 0))) && (Nat.blt (Int.toNat ((x2.getD (Int.toNat x1) []).getD 4 0)) x2.length)) (cond ((((x2.getD (Int.toNat ((x2.getD (Int.toNat x1) []).getD 4 0)) []).getD 4 0) : Int) != (-1)) (0) (ih x0 (IntKind.i64.wrap (x1 + 1)) x2)) (2)))))) (2)) (2)) (1)
noncomputable def r97l0 : Nat → Int → Int → List (List Int) → Nat
 | 0 => fun _ _ _ => (2)
 | m + 1 => b97l0 (r97l0 m)
noncomputable def a97l0 (x0 x1 : Int) (x2 : List (List Int)) (p : Nat) : Option (Fin' × List Value × St) := firstT ([((Nat.beq p 0), .ret, [.bool false], ⟨[⟨true, (some (.tab sc0 x2))⟩], 1, []⟩), ((Nat.beq p 1), .exit 0, [anyV], ⟨[⟨true, (some (.tab sc0 x2))⟩], 1, []⟩)].map fun (b, x) => (b, (x.1, frameOf 56 [2] x.2.1, x.2.2)))
noncomputable def u97l0 (x0 x1 : Int) (x2 : List (List Int)) (p : Nat) : Option (Fin' × List Value × St) := alts ([((Nat.beq p 0), .ret, [.bool false], ⟨[⟨true, (some (.tab sc0 x2))⟩], 1, []⟩), ((Nat.beq p 1), .exit 0, [anyV], ⟨[⟨true, (some (.tab sc0 x2))⟩], 1, []⟩)].map fun (b, x) => (b, (x.1, frameOf 56 [2] x.2.1, x.2.2))) some
theorem v97l0 (x0 x1 : Int) (x2 : List (List Int)) (p : Nat) : u97l0 x0 x1 x2 p = a97l0 x0 x1 x2 p := alts_first _
noncomputable def q97l0 (m : Nat) : SumK := fun vals s =>
 match vals, s.h with
 | [.iface f0 .nilIface, .int .i64 x0, .int .i64 x1], [⟨true, some (.tab [.fl .f32, .fl .f32, .fl .f32, .fl .f32, .int .i64] x2)⟩] => if f0 = 0 then [((Nat.beq (r97l0 m x0 x1 x2) 0), .ret, [.bool false], ⟨[⟨true, (some (.tab sc0 x2))⟩], 1, []⟩), ((Nat.beq (r97l0 m x0 x1 x2) 1), .exit 0, [anyV], ⟨[⟨true, (some (.tab sc0 x2))⟩], 1, []⟩)] else noQ vals s
 | _, _ => noQ vals s
noncomputable def w97l0 (ih : Int → Int → List (List Int) → Nat) (x0 x1 : Int) (x2 : List (List Int)) : Option (Fin' × List Value × St) :=
 (cond (decide ((x1 : Int) < x0))
 (cond ((decide ((0 : Int) ≤ x1)) && (Nat.blt (Int.toNat x1) x2.length)) (cond (Nat.beq ((r149 (Int.toNat x1) x2).1) 0) (cond (!((r149 (Int.toNat x1) x2).2)) (a97l0 x0 x1 x2 (0)) (cond ((decide ((0 : Int) ≤ x1)) && (Nat.blt (Int.toNat x1) x2.length)) (cond (Nat.blt (Int.toNat x1) x2.length) (cond ((((x2.getD (Int.toNat x1) []).getD 4 0) : Int) == (-1)) (u97l0 x0 x1 x2 (ih x0 (IntKind.i64.wrap (x1 + 1)) x2)) (cond ((decide ((0 : Int) ≤ x1)) && (Nat.blt (Int.toNat x1) x2.length)) (cond (Nat.blt (Int.toNat x1) x2.length) (cond (!(r66 ((x2.getD (Int.toNat x1) []).getD 4 0) 0 (IntKind.i64.wrap (x0 - 1)))) (a97l0 x0 x1 x2 (0)) (cond ((decide ((0 : Int) ≤ x1)) && (Nat.blt (Int.toNat x1) x2.length)) (cond (Nat.blt (Int.toNat x1) x2.length) (cond ((((x2.getD (Int.toNat x1) []).getD 4 0) : Int) == x1) (a97l0 x0 x1 x2 (0)) (cond ((decide ((0 : Int) ≤ x1)) && (Nat.blt (Int.toNat x1) x2.length)) (cond (Nat.blt (Int.toNat x1) x2.length) (cond ((decide ((0 : Int) ≤ ((x2.getD (Int.toNat x1) []).getD 4 0))) && (Nat.blt (Int.toNat ((x2.getD (Int.toNat x1) []).getD 4 0)) x2.length)) (cond (Nat.blt (Int.toNat ((x2.getD (Int.toNat x1) []).getD 4 0)) x2.length) (cond ((((x2.getD (Int.toNat ((x2.getD (Int.toNat x1) []).getD 4 0)) []).getD 4 0) : Int) != (-1)) (a97l0 x0 x1 x2 (0)) (u97l0 x0 x1 x2 (ih x0 (IntKind.i64.wrap (x1 + 1)) x2))) none) none) none) none)) none) none)) none) none)) none) none)) none) none)
 (a97l0 x0 x1 x2 (1)))
set_option maxRecDepth 100000 in
set_option maxHeartbeats 4000000 in
theorem e97l0 (m : Nat) (x0 x1 : Int) (x2 : List (List Int)) : evC Try.prog ext T39 noL 200 (loopN Try.f97 0) (loopTail ([0, 3, 4], []) [2] [] (sumK 56 [0, 3, 4] [2] (q97l0 m))) (frameOf 56 [0, 3, 4] [wsl 0, vi x0, vi x1]) ⟨[⟨true, (some (.tab sc0 x2))⟩], 1, []⟩ = firstT ([((Nat.beq (r97l0 (m + 1) x0 x1 x2) 0), .ret, [.bool false], ⟨[⟨true, (some (.tab sc0 x2))⟩], 1, []⟩), ((Nat.beq (r97l0 (m + 1) x0 x1 x2) 1), .exit 0, [anyV], ⟨[⟨true, (some (.tab sc0 x2))⟩], 1, []⟩)].map fun (b, x) => (b, (x.1, frameOf 56 [2] x.2.1, x.2.2))) :=
 (show _ = w97l0 (r97l0 m) x0 x1 x2 from by kernel_rfl).trans
 (show w97l0 (r97l0 m) x0 x1 x2 = a97l0 x0 x1 x2 (r97l0 (m + 1) x0 x1 x2) from by unfold w97l0; show _ = a97l0 x0 x1 x2 (b97l0 (r97l0 m) x0 x1 x2); unfold b97l0; exact (cond_both (a97l0 x0 x1 x2) _ (fun h0 => (cond_both (a97l0 x0 x1 x2) _ (fun h1 => (cond_both (a97l0 x0 x1 x2) _ (fun h2 => (cond_both (a97l0 x0 x1 x2) _ (fun h3 => rfl) (fun h3 => (cond_t h1 (cond_t (ev_and2 h1) (cond_both (a97l0 x0 x1 x2) _ (fun h4 => (v97l0 x0 x1 x2 ((r97l0 m) x0 (IntKind.i64.wrap (x1 + 1)) x2))) (fun h4 => (cond_t h1 (cond_t (ev_and2 h1) (cond_both (a97l0 x0 x1 x2) _ (fun h5 => rfl) (fun h5 => (cond_t h1 (cond_t (ev_and2 h1) (cond_both (a97l0 x0 x1 x2) _ (fun h6 => rfl) (fun h6 => (cond_t h1 (cond_t (ev_and2 h1) (cond_both (a97l0 x0 x1 x2) _ (fun h7 => (cond_t (ev_and2 h7) (cond_app (a97l0 x0 x1 x2) _ rfl (v97l0 x0 x1 x2 ((r97l0 m) x0 (IntKind.i64.wrap (x1 + 1)) x2))))) (fun h7 => rfl))))))))))))))))))) (fun h2 => rfl))) (fun h1 => rfl))) (fun h0 => rfl)))
set_option maxRecDepth 100000 in
set_option maxHeartbeats 4000000 in
theorem qm97l0 : ∀ m, SumKOk Try.prog (loopN Try.f97 0) 56 [0, 3, 4] [2] (q97l0 m) := by
  intro m
  induction m with
  | zero =>
    intro vals s x h1 h2 h3
    unfold q97l0 at h3; split at h3
    · rename_i h; split at h3
      · rename_i hc; obtain ⟨rfl⟩ := hc; exact absurd h3 (by simp [r97l0, firstT, Nat.beq])
      · exact noQ_ok _ _ _ h1 h2 h3
    · exact noQ_ok _ _ _ h1 h2 h3
  | succ m ih =>
    intro vals s x h1 h2 h3
    unfold q97l0 at h3; split at h3
    · rename_i h; split at h3
      · rename_i hc; obtain ⟨rfl⟩ := hc; exact sum_step ok39 extOk mixed ((lfOkF_no _ _).inner (by kernel_rfl)) ih h1 h2 h (e97l0 m _ _ _) rfl h3
      · exact noQ_ok _ _ _ h1 h2 h3
    · exact noQ_ok _ _ _ h1 h2 h3
noncomputable def Q97l0 : SumK := fun vals s => q97l0 (fuelOf vals s.h) vals s
theorem qok97l0 : SumKOk Try.prog (loopN Try.f97 0) 56 [0, 3, 4] [2] Q97l0 := fuel_ok qm97l0 fuelOf
noncomputable def L97_1 : LoopT := addL noL 6 ([0, 3, 4], []) (sumK 56 [0, 3, 4] [2] Q97l0)
theorem lok97_1 : LfOkF Try.prog L97_1 Try.f97 := lfOkF_add (lfOkF_no _ _) qok97l0 (by kernel_rfl) (by kernel_rfl) (by kernel_rfl)

/-- spec.l03Ok -/
noncomputable def r97 (x0 : List (List Int)) : Nat × Bool :=
 cond (!(r66 ((x0.length : Nat) : Int) 1 6)) (0, false) (cond (Nat.beq (r97l0 (1000 + x0.length) ((x0.length : Nat) : Int) 0 x0) 0) (0, false) (cond (Nat.beq (r97l0 (1000 + x0.length) ((x0.length : Nat) : Int) 0 x0) 1) (0, true) (1, false)))
noncomputable def a97 (x0 : List (List Int)) (p : Nat × Bool) : Res := firstT [((Nat.beq (p.1) 0), .bool (p.2), ⟨[⟨true, (some (.tab sc0 x0))⟩], 1, []⟩)]
noncomputable def w97 (x0 : List (List Int)) : Res :=
 (cond (!(r66 ((x0.length : Nat) : Int) 1 6))
 (a97 x0 (0, false))
 (cond (Nat.beq (r97l0 (1000 + x0.length) ((x0.length : Nat) : Int) 0 x0) 0) (a97 x0 (0, false)) (cond (Nat.beq (r97l0 (1000 + x0.length) ((x0.length : Nat) : Int) 0 x0) 1) (a97 x0 (0, true)) none)))
set_option maxRecDepth 100000 in
set_option maxHeartbeats 4000000 in
theorem e97 (x0 : List (List Int)) : evFn Try.prog ext T39 L97_1 200 Try.f97 [wsl 0] ⟨[⟨true, (some (.tab sc0 x0))⟩], 1, []⟩ = firstT [((Nat.beq ((r97 x0).1) 0), .bool ((r97 x0).2), ⟨[⟨true, (some (.tab sc0 x0))⟩], 1, []⟩)] :=
 (show _ = w97 x0 from by kernel_rfl).trans
 (show w97 x0 = a97 x0 (r97 x0) from by unfold w97 r97; exact (cond_app (a97 x0) _ rfl (cond_app (a97 x0) _ rfl (cond_app (a97 x0) _ rfl rfl))))
noncomputable def s97 (args : List Value) (s : St) : List (Bool × Value × St) :=
 match args, s.h with
 | [.iface f0 .nilIface], [⟨true, some (.tab [.fl .f32, .fl .f32, .fl .f32, .fl .f32, .int .i64] x0)⟩] => if f0 = 0 then [((Nat.beq ((r97 x0).1) 0), .bool ((r97 x0).2), ⟨[⟨true, (some (.tab sc0 x0))⟩], 1, []⟩)] else T39 97 args s
 | _, _ => T39 97 args s
noncomputable def T40 : CallF := addF T39 97 s97
set_option maxRecDepth 100000 in
set_option maxHeartbeats 4000000 in
theorem ok40 : CfOk Try.prog T40 := by
  refine cfOk_add ok39 fun args s r s' h1 h2 h3 => ?_
  unfold s97 at h3; split at h3
  · rename_i h; split at h3
    · rename_i hc; obtain ⟨rfl⟩ := hc; exact callOk ok39 Try.func97 h1 h2 h lok97_1.body (e97 _) rfl h3
    · exact ok39 _ _ _ _ _ h1 h2 h3
  · exact ok39 _ _ _ _ _ h1 h2 h3

/-- spec.l03Outside -/
noncomputable def r98 (x0 : Nat) : Bool :=
 cond (fgt .f32 x0 3262119936 || feq .f32 x0 3262119936) ((flt .f32 x0 1114636288 || feq .f32 x0 1114636288)) (false)
noncomputable def a98 (x0 : Nat) (p : Bool) : Res := firstT [(true, .bool p, st0)]
noncomputable def w98 (x0 : Nat) : Res :=
 (cond (fgt .f32 x0 3262119936 || feq .f32 x0 3262119936)
 (a98 x0 ((flt .f32 x0 1114636288 || feq .f32 x0 1114636288)))
 (a98 x0 (false)))
set_option maxRecDepth 100000 in
set_option maxHeartbeats 4000000 in
theorem e98 (x0 : Nat) : evFn Try.prog ext T40 noL 200 Try.f98 [vf x0] st0 = firstT [(true, .bool (r98 x0), st0)] :=
 (show _ = w98 x0 from by kernel_rfl).trans
 (show w98 x0 = a98 x0 (r98 x0) from by unfold w98 r98; exact (cond_app (a98 x0) _ rfl rfl))
noncomputable def s98 (args : List Value) (s : St) : List (Bool × Value × St) :=
 match args, s.h with
 | [.float .f32 x0], [] => [(true, .bool (r98 x0), st0)]
 | _, _ => T40 98 args s
noncomputable def T41 : CallF := addF T40 98 s98
set_option maxRecDepth 100000 in
set_option maxHeartbeats 4000000 in
theorem ok41 : CfOk Try.prog T41 := by
  refine cfOk_add ok40 fun args s r s' h1 h2 h3 => ?_
  unfold s98 at h3; split at h3
  · rename_i h; exact callOk ok40 Try.func98 h1 h2 h (lfOkF_no _ _).body (e98 _) rfl h3
  · exact ok40 _ _ _ _ _ h1 h2 h3

/-- spec.l03Push -/
noncomputable def r128 (x0 : Nat) : Bool :=
 cond (fgt .f32 x0 3296329728 || feq .f32 x0 3296329728) ((flt .f32 x0 1148846080 || feq .f32 x0 1148846080)) (false)
noncomputable def a128 (x0 : Nat) (p : Bool) : Res := firstT [(true, .bool p, st0)]
noncomputable def w128 (x0 : Nat) : Res :=
 (cond (fgt .f32 x0 3296329728 || feq .f32 x0 3296329728)
 (a128 x0 ((flt .f32 x0 1148846080 || feq .f32 x0 1148846080)))
 (a128 x0 (false)))
set_option maxRecDepth 100000 in
set_option maxHeartbeats 4000000 in
theorem e128 (x0 : Nat) : evFn Try.prog ext T41 noL 200 Try.f128 [vf x0] st0 = firstT [(true, .bool (r128 x0), st0)] :=
 (show _ = w128 x0 from by kernel_rfl).trans
 (show w128 x0 = a128 x0 (r128 x0) from by unfold w128 r128; exact (cond_app (a128 x0) _ rfl rfl))
noncomputable def s128 (args : List Value) (s : St) : List (Bool × Value × St) :=
 match args, s.h with
 | [.float .f32 x0], [] => [(true, .bool (r128 x0), st0)]
 | _, _ => T41 128 args s
noncomputable def T42 : CallF := addF T41 128 s128
set_option maxRecDepth 100000 in
set_option maxHeartbeats 4000000 in
theorem ok42 : CfOk Try.prog T42 := by
  refine cfOk_add ok41 fun args s r s' h1 h2 h3 => ?_
  unfold s128 at h3; split at h3
  · rename_i h; exact callOk ok41 Try.func128 h1 h2 h (lfOkF_no _ _).body (e128 _) rfl h3
  · exact ok41 _ _ _ _ _ h1 h2 h3

/-- spec.l03Asked -/
noncomputable def r60 (x0 x1 : Nat) (x2 : List (List Int)) : Nat × Int :=
 cond (Nat.beq ((r97 x2).1) 0) (cond (!((r97 x2).2)) (0, 1) (cond (!(r98 x0)) (0, 2) (cond (!(r128 x1)) (0, 2) (0, 0)))) (1, 0)
noncomputable def a60 (x0 x1 : Nat) (x2 : List (List Int)) (p : Nat × Int) : Res := firstT [((Nat.beq (p.1) 0), vi (p.2), ⟨[⟨true, (some (.tab sc0 x2))⟩], 1, []⟩)]
noncomputable def w60 (x0 x1 : Nat) (x2 : List (List Int)) : Res :=
 (cond (Nat.beq ((r97 x2).1) 0)
 (cond (!((r97 x2).2)) (a60 x0 x1 x2 (0, 1)) (cond (!(r98 x0)) (a60 x0 x1 x2 (0, 2)) (cond (!(r128 x1)) (a60 x0 x1 x2 (0, 2)) (a60 x0 x1 x2 (0, 0)))))
 none)
set_option maxRecDepth 100000 in
set_option maxHeartbeats 4000000 in
theorem e60 (x0 x1 : Nat) (x2 : List (List Int)) : evFn Try.prog ext T42 noL 200 Try.f60 [wsl 0, vf x0, vf x1] ⟨[⟨true, (some (.tab sc0 x2))⟩], 1, []⟩ = firstT [((Nat.beq ((r60 x0 x1 x2).1) 0), vi ((r60 x0 x1 x2).2), ⟨[⟨true, (some (.tab sc0 x2))⟩], 1, []⟩)] :=
 (show _ = w60 x0 x1 x2 from by kernel_rfl).trans
 (show w60 x0 x1 x2 = a60 x0 x1 x2 (r60 x0 x1 x2) from by unfold w60 r60; exact (cond_app (a60 x0 x1 x2) _ (cond_app (a60 x0 x1 x2) _ rfl (cond_app (a60 x0 x1 x2) _ rfl (cond_app (a60 x0 x1 x2) _ rfl rfl))) rfl))
noncomputable def s60 (args : List Value) (s : St) : List (Bool × Value × St) :=
 match args, s.h with
 | [.iface f0 .nilIface, .float .f32 x0, .float .f32 x1], [⟨true, some (.tab [.fl .f32, .fl .f32, .fl .f32, .fl .f32, .int .i64] x2)⟩] => if f0 = 0 then [((Nat.beq ((r60 x0 x1 x2).1) 0), vi ((r60 x0 x1 x2).2), ⟨[⟨true, (some (.tab sc0 x2))⟩], 1, []⟩)] else T42 60 args s
 | _, _ => T42 60 args s
noncomputable def T43 : CallF := addF T42 60 s60
set_option maxRecDepth 100000 in
set_option maxHeartbeats 4000000 in
theorem ok43 : CfOk Try.prog T43 := by
  refine cfOk_add ok42 fun args s r s' h1 h2 h3 => ?_
  unfold s60 at h3; split at h3
  · rename_i h; split at h3
    · rename_i hc; obtain ⟨rfl⟩ := hc; exact callOk ok42 Try.func60 h1 h2 h (lfOkF_no _ _).body (e60 _ _ _) rfl h3
    · exact ok42 _ _ _ _ _ h1 h2 h3
  · exact ok42 _ _ _ _ _ h1 h2 h3

/-- spec.l03Branches, loop 0: one round -/
noncomputable def b133l0 (ih : Int → Int → List (List Int) → List (List Int) → (Nat × List (List Int))) (x0 x1 : Int) (x2 x3 : List (List Int)) : Nat × List (List Int) :=
 cond (decide ((x1 : Int) < ((x2.length : Nat) : Int))) (cond ((decide ((0 : Int) ≤ x1)) && (Nat.blt (Int.toNat x1) x2.length)) (cond ((((x2.getD (Int.toNat x1) []).getD 4 0) : Int) == x0) (cond (Nat.ble ((x3.length + 1) * 9) 140737488355328) (cond (Nat.beq ((ih x0 (IntKind.i64.wrap (x1 + 1)) x2 (((x3.drop 0).take x3.length) ++ ([[x1]] : List (List Int)))).1) 0) (0, ((ih x0 (IntKind.i64.wrap (x1 + 1)) x2 (((x3.drop 0).take x3.length) ++ ([[x1]] : List (List Int)))).2)) (cond (Nat.beq ((ih x0 (IntKind.i64.wrap (x1 + 1)) x2 (((x3.drop 0).take x3.length) ++ ([[x1]] : List (List Int)))).1) 1) (0, (((x3.drop 0).take x3.length) ++ ([[x1]] : List (List Int)))) (2, []))) (2, [])) (ih x0 (IntKind.i64.wrap (x1 + 1)) x2 x3)) (2, [])) (1, [])
noncomputable def r133l0 : Nat → Int → Int → List (List Int) → List (List Int) → (Nat × List (List Int))
 | 0 => fun _ _ _ _ => (2, [])
 | m + 1 => b133l0 (r133l0 m)
noncomputable def a133l0 (x0 x1 : Int) (x2 x3 : List (List Int)) (p : Nat × List (List Int)) : Option (Fin' × List Value × St) := firstT ([((Nat.beq (p.1) 0), .exit 0, [wsl 2], ⟨[⟨true, (some (.tab sc0 x2))⟩, ⟨true, none⟩, ⟨true, (some (.tab [.int .i64] (p.2)))⟩], 2, [1]⟩), ((Nat.beq (p.1) 1), .exit 0, [wsl 1], ⟨[⟨true, (some (.tab sc0 x2))⟩, ⟨true, (some (.tab [.int .i64] x3))⟩], 2, [1]⟩)].map fun (b, x) => (b, (x.1, frameOf 26 [5] x.2.1, x.2.2)))
noncomputable def u133l0 (x0 x1 : Int) (x2 x3 : List (List Int)) (p : Nat × List (List Int)) : Option (Fin' × List Value × St) := alts ([((Nat.beq (p.1) 0), .exit 0, [wsl 2], ⟨[⟨true, (some (.tab sc0 x2))⟩, ⟨true, none⟩, ⟨true, (some (.tab [.int .i64] (p.2)))⟩], 2, [1]⟩), ((Nat.beq (p.1) 1), .exit 0, [wsl 1], ⟨[⟨true, (some (.tab sc0 x2))⟩, ⟨true, (some (.tab [.int .i64] x3))⟩], 2, [1]⟩)].map fun (b, x) => (b, (x.1, frameOf 26 [5] x.2.1, x.2.2))) some
theorem v133l0 (x0 x1 : Int) (x2 x3 : List (List Int)) (p : Nat × List (List Int)) : u133l0 x0 x1 x2 x3 p = a133l0 x0 x1 x2 x3 p := alts_first _
noncomputable def q133l0 (m : Nat) : SumK := fun vals s =>
 match vals, s.h with
 | [.iface f0 .nilIface, .int .i64 x0, .iface f1 .nilIface, .int .i64 x1], [⟨true, some (.tab [.fl .f32, .fl .f32, .fl .f32, .fl .f32, .int .i64] x2)⟩, ⟨true, some (.tab [.int .i64] x3)⟩] => if f0 = 0 ∧ f1 = 1 then [((Nat.beq ((r133l0 m x0 x1 x2 x3).1) 0), .exit 0, [wsl 2], ⟨[⟨true, (some (.tab sc0 x2))⟩, ⟨true, none⟩, ⟨true, (some (.tab [.int .i64] ((r133l0 m x0 x1 x2 x3).2)))⟩], 2, [1]⟩), ((Nat.beq ((r133l0 m x0 x1 x2 x3).1) 1), .exit 0, [wsl 1], ⟨[⟨true, (some (.tab sc0 x2))⟩, ⟨true, (some (.tab [.int .i64] x3))⟩], 2, [1]⟩)] else noQ vals s
 | _, _ => noQ vals s
noncomputable def w133l0 (ih : Int → Int → List (List Int) → List (List Int) → (Nat × List (List Int))) (x0 x1 : Int) (x2 x3 : List (List Int)) : Option (Fin' × List Value × St) :=
 (cond (decide ((x1 : Int) < ((x2.length : Nat) : Int)))
 (cond ((decide ((0 : Int) ≤ x1)) && (Nat.blt (Int.toNat x1) x2.length)) (cond (Nat.blt (Int.toNat x1) x2.length) (cond ((((x2.getD (Int.toNat x1) []).getD 4 0) : Int) == x0) (cond (Nat.ble ((x3.length + 1) * 9) 140737488355328) (cond (Nat.beq ((ih x0 (IntKind.i64.wrap (x1 + 1)) x2 (((x3.drop 0).take x3.length) ++ ([[x1]] : List (List Int)))).1) 0) (a133l0 x0 x1 x2 x3 (0, ((ih x0 (IntKind.i64.wrap (x1 + 1)) x2 (((x3.drop 0).take x3.length) ++ ([[x1]] : List (List Int)))).2))) (cond (Nat.beq ((ih x0 (IntKind.i64.wrap (x1 + 1)) x2 (((x3.drop 0).take x3.length) ++ ([[x1]] : List (List Int)))).1) 1) (a133l0 x0 x1 x2 x3 (0, (((x3.drop 0).take x3.length) ++ ([[x1]] : List (List Int))))) none)) none) (u133l0 x0 x1 x2 x3 (ih x0 (IntKind.i64.wrap (x1 + 1)) x2 x3))) none) none)
 (a133l0 x0 x1 x2 x3 (1, [])))
set_option maxRecDepth 100000 in
set_option maxHeartbeats 4000000 in
theorem e133l0 (m : Nat) (x0 x1 : Int) (x2 x3 : List (List Int)) : evC Try.prog ext T43 noL 200 (loopN Try.f133 0) (loopTail ([0, 1, 5, 6], []) [5] [1] (sumK 26 [0, 1, 5, 6] [5] (q133l0 m))) (frameOf 26 [0, 1, 5, 6] [wsl 0, vi x0, wsl 1, vi x1]) ⟨[⟨true, (some (.tab sc0 x2))⟩, ⟨true, (some (.tab [.int .i64] x3))⟩], 2, []⟩ = firstT ([((Nat.beq ((r133l0 (m + 1) x0 x1 x2 x3).1) 0), .exit 0, [wsl 2], ⟨[⟨true, (some (.tab sc0 x2))⟩, ⟨true, none⟩, ⟨true, (some (.tab [.int .i64] ((r133l0 (m + 1) x0 x1 x2 x3).2)))⟩], 2, [1]⟩), ((Nat.beq ((r133l0 (m + 1) x0 x1 x2 x3).1) 1), .exit 0, [wsl 1], ⟨[⟨true, (some (.tab sc0 x2))⟩, ⟨true, (some (.tab [.int .i64] x3))⟩], 2, [1]⟩)].map fun (b, x) => (b, (x.1, frameOf 26 [5] x.2.1, x.2.2))) :=
 (show _ = w133l0 (r133l0 m) x0 x1 x2 x3 from by kernel_rfl).trans
 (show w133l0 (r133l0 m) x0 x1 x2 x3 = a133l0 x0 x1 x2 x3 (r133l0 (m + 1) x0 x1 x2 x3) from by unfold w133l0; show _ = a133l0 x0 x1 x2 x3 (b133l0 (r133l0 m) x0 x1 x2 x3); unfold b133l0; exact (cond_both (a133l0 x0 x1 x2 x3) _ (fun h0 => (cond_both (a133l0 x0 x1 x2 x3) _ (fun h1 => (cond_t (ev_and2 h1) (cond_app (a133l0 x0 x1 x2 x3) _ (cond_app (a133l0 x0 x1 x2 x3) _ (cond_app (a133l0 x0 x1 x2 x3) _ rfl (cond_app (a133l0 x0 x1 x2 x3) _ rfl rfl)) rfl) (v133l0 x0 x1 x2 x3 ((r133l0 m) x0 (IntKind.i64.wrap (x1 + 1)) x2 x3))))) (fun h1 => rfl))) (fun h0 => rfl)))
set_option maxRecDepth 100000 in
set_option maxHeartbeats 4000000 in
theorem qm133l0 : ∀ m, SumKOk Try.prog (loopN Try.f133 0) 26 [0, 1, 5, 6] [5] (q133l0 m) := by
  intro m
  induction m with
  | zero =>
    intro vals s x h1 h2 h3
    unfold q133l0 at h3; split at h3
    · rename_i h; split at h3
      · rename_i hc; obtain ⟨rfl, rfl⟩ := hc; exact absurd h3 (by simp [r133l0, firstT, Nat.beq])
      · exact noQ_ok _ _ _ h1 h2 h3
    · exact noQ_ok _ _ _ h1 h2 h3
  | succ m ih =>
    intro vals s x h1 h2 h3
    unfold q133l0 at h3; split at h3
    · rename_i h; split at h3
      · rename_i hc; obtain ⟨rfl, rfl⟩ := hc; exact sum_step ok43 extOk mixed ((lfOkF_no _ _).inner (by kernel_rfl)) ih h1 h2 h (e133l0 m _ _ _ _) rfl h3
      · exact noQ_ok _ _ _ h1 h2 h3
    · exact noQ_ok _ _ _ h1 h2 h3
noncomputable def Q133l0 : SumK := fun vals s => q133l0 (fuelOf vals s.h) vals s
theorem qok133l0 : SumKOk Try.prog (loopN Try.f133 0) 26 [0, 1, 5, 6] [5] Q133l0 := fuel_ok qm133l0 fuelOf
noncomputable def L133_1 : LoopT := addL noL 4 ([0, 1, 5, 6], []) (sumK 26 [0, 1, 5, 6] [5] Q133l0)
theorem lok133_1 : LfOkF Try.prog L133_1 Try.f133 := lfOkF_add (lfOkF_no _ _) qok133l0 (by kernel_rfl) (by kernel_rfl) (by kernel_rfl)

/-- spec.l03Branches -/
noncomputable def r133 (x0 : Int) (x1 : List (List Int)) : Nat × List (List Int) :=
 cond (Nat.beq ((r133l0 (1000 + 0 + x1.length) x0 0 x1 ([] : List (List Int))).1) 0) (0, ((r133l0 (1000 + 0 + x1.length) x0 0 x1 ([] : List (List Int))).2)) (cond (Nat.beq ((r133l0 (1000 + 0 + x1.length) x0 0 x1 ([] : List (List Int))).1) 1) (0, ([] : List (List Int))) (1, []))
noncomputable def a133 (x0 : Int) (x1 : List (List Int)) (p : Nat × List (List Int)) : Res := firstT [((Nat.beq (p.1) 0), wsl 1, ⟨[⟨true, (some (.tab sc0 x1))⟩, ⟨true, (some (.tab [.int .i64] (p.2)))⟩], 1, []⟩)]
noncomputable def w133 (x0 : Int) (x1 : List (List Int)) : Res :=
 (cond (Nat.beq ((r133l0 (1000 + 0 + x1.length) x0 0 x1 ([] : List (List Int))).1) 0)
 (a133 x0 x1 (0, ((r133l0 (1000 + 0 + x1.length) x0 0 x1 ([] : List (List Int))).2)))
 (cond (Nat.beq ((r133l0 (1000 + 0 + x1.length) x0 0 x1 ([] : List (List Int))).1) 1) (a133 x0 x1 (0, ([] : List (List Int)))) none))
set_option maxRecDepth 100000 in
set_option maxHeartbeats 4000000 in
theorem e133 (x0 : Int) (x1 : List (List Int)) : evFn Try.prog ext T43 L133_1 200 Try.f133 [wsl 0, vi x0] ⟨[⟨true, (some (.tab sc0 x1))⟩], 1, []⟩ = firstT [((Nat.beq ((r133 x0 x1).1) 0), wsl 1, ⟨[⟨true, (some (.tab sc0 x1))⟩, ⟨true, (some (.tab [.int .i64] ((r133 x0 x1).2)))⟩], 1, []⟩)] :=
 (show _ = w133 x0 x1 from by kernel_rfl).trans
 (show w133 x0 x1 = a133 x0 x1 (r133 x0 x1) from by unfold w133 r133; exact (cond_app (a133 x0 x1) _ rfl (cond_app (a133 x0 x1) _ rfl rfl)))
noncomputable def s133 (args : List Value) (s : St) : List (Bool × Value × St) :=
 match args, s.h with
 | [.iface f0 .nilIface, .int .i64 x0], [⟨true, some (.tab [.fl .f32, .fl .f32, .fl .f32, .fl .f32, .int .i64] x1)⟩] => if f0 = 0 then [((Nat.beq ((r133 x0 x1).1) 0), wsl 1, ⟨[⟨true, (some (.tab sc0 x1))⟩, ⟨true, (some (.tab [.int .i64] ((r133 x0 x1).2)))⟩], 1, []⟩)] else T43 133 args s
 | _, _ => T43 133 args s
noncomputable def T44 : CallF := addF T43 133 s133
set_option maxRecDepth 100000 in
set_option maxHeartbeats 4000000 in
theorem ok44 : CfOk Try.prog T44 := by
  refine cfOk_add ok43 fun args s r s' h1 h2 h3 => ?_
  unfold s133 at h3; split at h3
  · rename_i h; split at h3
    · rename_i hc; obtain ⟨rfl⟩ := hc; exact callOk ok43 Try.func133 h1 h2 h lok133_1.body (e133 _ _) rfl h3
    · exact ok43 _ _ _ _ _ h1 h2 h3
  · exact ok43 _ _ _ _ _ h1 h2 h3

/-- spec.l03Dense -/
noncomputable def r173 (x0 : Nat) : Nat :=
 ((fdiv .f32 1135640576 (fadd .f32 x0 1133019136)))
noncomputable def a173 (x0 : Nat) (p : Nat) : Res := firstT [(true, vf p, st0)]
noncomputable def w173 (x0 : Nat) : Res :=
 (a173 x0 ((fdiv .f32 1135640576 (fadd .f32 x0 1133019136))))
set_option maxRecDepth 100000 in
set_option maxHeartbeats 4000000 in
theorem e173 (x0 : Nat) : evFn Try.prog ext T44 noL 200 Try.f173 [vf x0] st0 = firstT [(true, vf (r173 x0), st0)] :=
 (show _ = w173 x0 from by kernel_rfl).trans
 (show w173 x0 = a173 x0 (r173 x0) from by unfold w173 r173; exact rfl)
noncomputable def s173 (args : List Value) (s : St) : List (Bool × Value × St) :=
 match args, s.h with
 | [.float .f32 x0], [] => [(true, vf (r173 x0), st0)]
 | _, _ => T44 173 args s
noncomputable def T45 : CallF := addF T44 173 s173
set_option maxRecDepth 100000 in
set_option maxHeartbeats 4000000 in
theorem ok45 : CfOk Try.prog T45 := by
  refine cfOk_add ok44 fun args s r s' h1 h2 h3 => ?_
  unfold s173 at h3; split at h3
  · rename_i h; exact callOk ok44 Try.func173 h1 h2 h (lfOkF_no _ _).body (e173 _) rfl h3
  · exact ok44 _ _ _ _ _ h1 h2 h3

/-- spec.l03Draft -/
noncomputable def r163 (x0 x1 : Nat) (x2 : List (List Int)) : Nat × Nat :=
 cond (Nat.blt x0 x2.length) (0, (fmul .f32 (fmul .f32 1092354048 (Int.toNat ((x2.getD x0 []).getD 0 0))) (fsub .f32 (r173 x1) (r173 (Int.toNat ((x2.getD x0 []).getD 2 0)))))) (1, 0)
noncomputable def a163 (x0 x1 : Nat) (x2 : List (List Int)) (p : Nat × Nat) : Res := firstT [((Nat.beq (p.1) 0), vf (p.2), ⟨[⟨true, (some (.tab sc0 x2))⟩], 1, []⟩)]
noncomputable def w163 (x0 x1 : Nat) (x2 : List (List Int)) : Res :=
 (cond (Nat.blt x0 x2.length)
 (cond (Nat.blt x0 x2.length) (a163 x0 x1 x2 (0, (fmul .f32 (fmul .f32 1092354048 (Int.toNat ((x2.getD x0 []).getD 0 0))) (fsub .f32 (r173 x1) (r173 (Int.toNat ((x2.getD x0 []).getD 2 0))))))) none)
 none)
set_option maxRecDepth 100000 in
set_option maxHeartbeats 4000000 in
theorem e163 (x0 x1 : Nat) (x2 : List (List Int)) : evFn Try.prog ext T45 noL 200 Try.f163 [.pointer (some ⟨0, x0, some 0⟩), vf x1] ⟨[⟨true, (some (.tab sc0 x2))⟩], 1, []⟩ = firstT [((Nat.beq ((r163 x0 x1 x2).1) 0), vf ((r163 x0 x1 x2).2), ⟨[⟨true, (some (.tab sc0 x2))⟩], 1, []⟩)] :=
 (show _ = w163 x0 x1 x2 from by kernel_rfl).trans
 (show w163 x0 x1 x2 = a163 x0 x1 x2 (r163 x0 x1 x2) from by unfold w163 r163; exact (cond_both (a163 x0 x1 x2) _ (fun h0 => (cond_t h0 rfl)) (fun h0 => rfl)))
noncomputable def s163 (args : List Value) (s : St) : List (Bool × Value × St) :=
 match args, s.h with
 | [.pointer (some ⟨f0, x0, some f1⟩), .float .f32 x1], [⟨true, some (.tab [.fl .f32, .fl .f32, .fl .f32, .fl .f32, .int .i64] x2)⟩] => if f0 = 0 ∧ f1 = 0 then [((Nat.beq ((r163 x0 x1 x2).1) 0), vf ((r163 x0 x1 x2).2), ⟨[⟨true, (some (.tab sc0 x2))⟩], 1, []⟩)] else T45 163 args s
 | _, _ => T45 163 args s
noncomputable def T46 : CallF := addF T45 163 s163
set_option maxRecDepth 100000 in
set_option maxHeartbeats 4000000 in
theorem ok46 : CfOk Try.prog T46 := by
  refine cfOk_add ok45 fun args s r s' h1 h2 h3 => ?_
  unfold s163 at h3; split at h3
  · rename_i h; split at h3
    · rename_i hc; obtain ⟨rfl, rfl⟩ := hc; exact callOk ok45 Try.func163 h1 h2 h (lfOkF_no _ _).body (e163 _ _ _) rfl h3
    · exact ok45 _ _ _ _ _ h1 h2 h3
  · exact ok45 _ _ _ _ _ h1 h2 h3

/-- spec.l03Resist -/
noncomputable def r164 (x0 : Nat) (x1 : List (List Int)) : Nat × Nat :=
 cond (Nat.blt x0 x1.length) (0, (fdiv .f32 (fadd .f32 1065353216 (fmul .f32 1048576000 (Int.toNat ((x1.getD x0 []).getD 0 0)))) (fmul .f32 (fmul .f32 (Int.toNat ((x1.getD x0 []).getD 1 0)) (Int.toNat ((x1.getD x0 []).getD 3 0))) (fmul .f32 (Int.toNat ((x1.getD x0 []).getD 1 0)) (Int.toNat ((x1.getD x0 []).getD 3 0)))))) (1, 0)
noncomputable def a164 (x0 : Nat) (x1 : List (List Int)) (p : Nat × Nat) : Res := firstT [((Nat.beq (p.1) 0), vf (p.2), ⟨[⟨true, (some (.tab sc0 x1))⟩], 1, []⟩)]
noncomputable def w164 (x0 : Nat) (x1 : List (List Int)) : Res :=
 (cond (Nat.blt x0 x1.length)
 (cond (Nat.blt x0 x1.length) (cond (Nat.blt x0 x1.length) (a164 x0 x1 (0, (fdiv .f32 (fadd .f32 1065353216 (fmul .f32 1048576000 (Int.toNat ((x1.getD x0 []).getD 0 0)))) (fmul .f32 (fmul .f32 (Int.toNat ((x1.getD x0 []).getD 1 0)) (Int.toNat ((x1.getD x0 []).getD 3 0))) (fmul .f32 (Int.toNat ((x1.getD x0 []).getD 1 0)) (Int.toNat ((x1.getD x0 []).getD 3 0))))))) none) none)
 none)
set_option maxRecDepth 100000 in
set_option maxHeartbeats 4000000 in
theorem e164 (x0 : Nat) (x1 : List (List Int)) : evFn Try.prog ext T46 noL 200 Try.f164 [.pointer (some ⟨0, x0, some 0⟩)] ⟨[⟨true, (some (.tab sc0 x1))⟩], 1, []⟩ = firstT [((Nat.beq ((r164 x0 x1).1) 0), vf ((r164 x0 x1).2), ⟨[⟨true, (some (.tab sc0 x1))⟩], 1, []⟩)] :=
 (show _ = w164 x0 x1 from by kernel_rfl).trans
 (show w164 x0 x1 = a164 x0 x1 (r164 x0 x1) from by unfold w164 r164; exact (cond_both (a164 x0 x1) _ (fun h0 => (cond_t h0 (cond_t h0 rfl))) (fun h0 => rfl)))
noncomputable def s164 (args : List Value) (s : St) : List (Bool × Value × St) :=
 match args, s.h with
 | [.pointer (some ⟨f0, x0, some f1⟩)], [⟨true, some (.tab [.fl .f32, .fl .f32, .fl .f32, .fl .f32, .int .i64] x1)⟩] => if f0 = 0 ∧ f1 = 0 then [((Nat.beq ((r164 x0 x1).1) 0), vf ((r164 x0 x1).2), ⟨[⟨true, (some (.tab sc0 x1))⟩], 1, []⟩)] else T46 164 args s
 | _, _ => T46 164 args s
noncomputable def T47 : CallF := addF T46 164 s164
set_option maxRecDepth 100000 in
set_option maxHeartbeats 4000000 in
theorem ok47 : CfOk Try.prog T47 := by
  refine cfOk_add ok46 fun args s r s' h1 h2 h3 => ?_
  unfold s164 at h3; split at h3
  · rename_i h; split at h3
    · rename_i hc; obtain ⟨rfl, rfl⟩ := hc; exact callOk ok46 Try.func164 h1 h2 h (lfOkF_no _ _).body (e164 _ _) rfl h3
    · exact ok46 _ _ _ _ _ h1 h2 h3
  · exact ok46 _ _ _ _ _ h1 h2 h3

/-- spec.l03Flow -/
noncomputable def r129 (x0 x1 x2 : Nat) (x3 : List (List Int)) : Nat × Nat :=
 cond (Nat.blt x0 x3.length) (cond (feq .f32 (Int.toNat ((x3.getD x0 []).getD 3 0)) 0) (0, 0) (cond (Nat.beq ((r163 x0 x1 x3).1) 0) (cond (Nat.beq ((r164 x0 x3).1) 0) (cond (flt .f32 (fdiv .f32 (fadd .f32 ((r163 x0 x1 x3).2) x2) ((r164 x0 x3).2)) 0) (cond (narrowOk (r165 (widen (fneg .f32 (fdiv .f32 (fadd .f32 ((r163 x0 x1 x3).2) x2) ((r164 x0 x3).2)))))) (0, (fneg .f32 (narrow (r165 (widen (fneg .f32 (fdiv .f32 (fadd .f32 ((r163 x0 x1 x3).2) x2) ((r164 x0 x3).2)))))))) (1, 0)) (cond (narrowOk (r165 (widen (fdiv .f32 (fadd .f32 ((r163 x0 x1 x3).2) x2) ((r164 x0 x3).2))))) (0, (narrow (r165 (widen (fdiv .f32 (fadd .f32 ((r163 x0 x1 x3).2) x2) ((r164 x0 x3).2)))))) (1, 0))) (1, 0)) (1, 0))) (1, 0)
noncomputable def a129 (x0 x1 x2 : Nat) (x3 : List (List Int)) (p : Nat × Nat) : Res := firstT [((Nat.beq (p.1) 0), vf (p.2), ⟨[⟨true, (some (.tab sc0 x3))⟩], 1, []⟩)]
noncomputable def w129 (x0 x1 x2 : Nat) (x3 : List (List Int)) : Res :=
 (cond (Nat.blt x0 x3.length)
 (cond (feq .f32 (Int.toNat ((x3.getD x0 []).getD 3 0)) 0) (a129 x0 x1 x2 x3 (0, 0)) (cond (Nat.beq ((r163 x0 x1 x3).1) 0) (cond (Nat.beq ((r164 x0 x3).1) 0) (cond (flt .f32 (fdiv .f32 (fadd .f32 ((r163 x0 x1 x3).2) x2) ((r164 x0 x3).2)) 0) (cond (narrowOk (r165 (widen (fneg .f32 (fdiv .f32 (fadd .f32 ((r163 x0 x1 x3).2) x2) ((r164 x0 x3).2)))))) (a129 x0 x1 x2 x3 (0, (fneg .f32 (narrow (r165 (widen (fneg .f32 (fdiv .f32 (fadd .f32 ((r163 x0 x1 x3).2) x2) ((r164 x0 x3).2))))))))) none) (cond (narrowOk (r165 (widen (fdiv .f32 (fadd .f32 ((r163 x0 x1 x3).2) x2) ((r164 x0 x3).2))))) (a129 x0 x1 x2 x3 (0, (narrow (r165 (widen (fdiv .f32 (fadd .f32 ((r163 x0 x1 x3).2) x2) ((r164 x0 x3).2))))))) none)) none) none))
 none)
set_option maxRecDepth 100000 in
set_option maxHeartbeats 4000000 in
theorem e129 (x0 x1 x2 : Nat) (x3 : List (List Int)) : evFn Try.prog ext T47 noL 200 Try.f129 [.pointer (some ⟨0, x0, some 0⟩), vf x1, vf x2] ⟨[⟨true, (some (.tab sc0 x3))⟩], 1, []⟩ = firstT [((Nat.beq ((r129 x0 x1 x2 x3).1) 0), vf ((r129 x0 x1 x2 x3).2), ⟨[⟨true, (some (.tab sc0 x3))⟩], 1, []⟩)] :=
 (show _ = w129 x0 x1 x2 x3 from by kernel_rfl).trans
 (show w129 x0 x1 x2 x3 = a129 x0 x1 x2 x3 (r129 x0 x1 x2 x3) from by unfold w129 r129; exact (cond_app (a129 x0 x1 x2 x3) _ (cond_app (a129 x0 x1 x2 x3) _ rfl (cond_app (a129 x0 x1 x2 x3) _ (cond_app (a129 x0 x1 x2 x3) _ (cond_app (a129 x0 x1 x2 x3) _ (cond_app (a129 x0 x1 x2 x3) _ rfl rfl) (cond_app (a129 x0 x1 x2 x3) _ rfl rfl)) rfl) rfl)) rfl))
noncomputable def s129 (args : List Value) (s : St) : List (Bool × Value × St) :=
 match args, s.h with
 | [.pointer (some ⟨f0, x0, some f1⟩), .float .f32 x1, .float .f32 x2], [⟨true, some (.tab [.fl .f32, .fl .f32, .fl .f32, .fl .f32, .int .i64] x3)⟩] => if f0 = 0 ∧ f1 = 0 then [((Nat.beq ((r129 x0 x1 x2 x3).1) 0), vf ((r129 x0 x1 x2 x3).2), ⟨[⟨true, (some (.tab sc0 x3))⟩], 1, []⟩)] else T47 129 args s
 | _, _ => T47 129 args s
noncomputable def T48 : CallF := addF T47 129 s129
set_option maxRecDepth 100000 in
set_option maxHeartbeats 4000000 in
theorem ok48 : CfOk Try.prog T48 := by
  refine cfOk_add ok47 fun args s r s' h1 h2 h3 => ?_
  unfold s129 at h3; split at h3
  · rename_i h; split at h3
    · rename_i hc; obtain ⟨rfl, rfl⟩ := hc; exact callOk ok47 Try.func129 h1 h2 h (lfOkF_no _ _).body (e129 _ _ _ _) rfl h3
    · exact ok47 _ _ _ _ _ h1 h2 h3
  · exact ok47 _ _ _ _ _ h1 h2 h3

/-- spec.l03At, loop 1: one round -/
noncomputable def b67l1 (ih : Int → Nat → Nat → Nat → Nat → Int → Nat → Nat → Int → List (List Int) → List (List Int) → (Nat × Nat)) (x0 : Int) (x1 x2 x3 x4 : Nat) (x5 : Int) (x6 x7 : Nat) (x8 : Int) (x9 x10 : List (List Int)) : Nat × Nat :=
 cond (decide ((x8 : Int) < ((x10.length : Nat) : Int))) (cond ((decide ((0 : Int) ≤ x8)) && (Nat.blt (Int.toNat x8) x10.length)) (cond ((decide ((0 : Int) ≤ ((x10.getD (Int.toNat x8) []).getD 0 0))) && (Nat.blt (Int.toNat ((x10.getD (Int.toNat x8) []).getD 0 0)) x9.length)) (cond (Nat.beq ((r129 (Int.toNat ((x10.getD (Int.toNat x8) []).getD 0 0)) x1 (fsub .f32 0 x6) x9).1) 0) (ih x0 x1 x2 x3 x4 x5 x6 (fadd .f32 x7 ((r129 (Int.toNat ((x10.getD (Int.toNat x8) []).getD 0 0)) x1 (fsub .f32 0 x6) x9).2)) (IntKind.i64.wrap (x8 + 1)) x9 x10) (1, 0)) (1, 0)) (1, 0)) (0, x7)
noncomputable def r67l1 : Nat → Int → Nat → Nat → Nat → Nat → Int → Nat → Nat → Int → List (List Int) → List (List Int) → (Nat × Nat)
 | 0 => fun _ _ _ _ _ _ _ _ _ _ _ => (1, 0)
 | m + 1 => b67l1 (r67l1 m)
noncomputable def a67l1 (x0 : Int) (x1 x2 x3 x4 : Nat) (x5 : Int) (x6 x7 : Nat) (x8 : Int) (x9 x10 : List (List Int)) (p : Nat × Nat) : Option (Fin' × List Value × St) := firstT ([((Nat.beq (p.1) 0), .exit 2, [wsl 0, vi x0, vf x1, vf x2, wsl 1, vf x3, vf x4, vi x5, vf x6, vf (p.2)], ⟨[⟨true, (some (.tab sc0 x9))⟩, ⟨true, (some (.tab [.int .i64] x10))⟩], 2, []⟩)].map fun (b, x) => (b, (x.1, frameOf 70 [0, 1, 2, 3, 9, 10, 11, 12, 13, 14] x.2.1, x.2.2)))
noncomputable def u67l1 (x0 : Int) (x1 x2 x3 x4 : Nat) (x5 : Int) (x6 x7 : Nat) (x8 : Int) (x9 x10 : List (List Int)) (p : Nat × Nat) : Option (Fin' × List Value × St) := alts ([((Nat.beq (p.1) 0), .exit 2, [wsl 0, vi x0, vf x1, vf x2, wsl 1, vf x3, vf x4, vi x5, vf x6, vf (p.2)], ⟨[⟨true, (some (.tab sc0 x9))⟩, ⟨true, (some (.tab [.int .i64] x10))⟩], 2, []⟩)].map fun (b, x) => (b, (x.1, frameOf 70 [0, 1, 2, 3, 9, 10, 11, 12, 13, 14] x.2.1, x.2.2))) some
theorem v67l1 (x0 : Int) (x1 x2 x3 x4 : Nat) (x5 : Int) (x6 x7 : Nat) (x8 : Int) (x9 x10 : List (List Int)) (p : Nat × Nat) : u67l1 x0 x1 x2 x3 x4 x5 x6 x7 x8 x9 x10 p = a67l1 x0 x1 x2 x3 x4 x5 x6 x7 x8 x9 x10 p := alts_first _
noncomputable def q67l1 (m : Nat) : SumK := fun vals s =>
 match vals, s.h with
 | [.iface f0 .nilIface, .int .i64 x0, .float .f32 x1, .float .f32 x2, .iface f1 .nilIface, .float .f32 x3, .float .f32 x4, .int .i64 x5, .float .f32 x6, .float .f32 x7, .int .i64 x8], [⟨true, some (.tab [.fl .f32, .fl .f32, .fl .f32, .fl .f32, .int .i64] x9)⟩, ⟨true, some (.tab [.int .i64] x10)⟩] => if f0 = 0 ∧ f1 = 1 then [((Nat.beq ((r67l1 m x0 x1 x2 x3 x4 x5 x6 x7 x8 x9 x10).1) 0), .exit 2, [wsl 0, vi x0, vf x1, vf x2, wsl 1, vf x3, vf x4, vi x5, vf x6, vf ((r67l1 m x0 x1 x2 x3 x4 x5 x6 x7 x8 x9 x10).2)], ⟨[⟨true, (some (.tab sc0 x9))⟩, ⟨true, (some (.tab [.int .i64] x10))⟩], 2, []⟩)] else noQ vals s
 | _, _ => noQ vals s
noncomputable def w67l1 (ih : Int → Nat → Nat → Nat → Nat → Int → Nat → Nat → Int → List (List Int) → List (List Int) → (Nat × Nat)) (x0 : Int) (x1 x2 x3 x4 : Nat) (x5 : Int) (x6 x7 : Nat) (x8 : Int) (x9 x10 : List (List Int)) : Option (Fin' × List Value × St) :=
 (cond (decide ((x8 : Int) < ((x10.length : Nat) : Int)))
 (cond ((decide ((0 : Int) ≤ x8)) && (Nat.blt (Int.toNat x8) x10.length)) (cond (Nat.blt (Int.toNat x8) x10.length) (cond ((decide ((0 : Int) ≤ ((x10.getD (Int.toNat x8) []).getD 0 0))) && (Nat.blt (Int.toNat ((x10.getD (Int.toNat x8) []).getD 0 0)) x9.length)) (cond (Nat.beq ((r129 (Int.toNat ((x10.getD (Int.toNat x8) []).getD 0 0)) x1 (fsub .f32 0 x6) x9).1) 0) (u67l1 x0 x1 x2 x3 x4 x5 x6 x7 x8 x9 x10 (ih x0 x1 x2 x3 x4 x5 x6 (fadd .f32 x7 ((r129 (Int.toNat ((x10.getD (Int.toNat x8) []).getD 0 0)) x1 (fsub .f32 0 x6) x9).2)) (IntKind.i64.wrap (x8 + 1)) x9 x10)) none) none) none) none)
 (a67l1 x0 x1 x2 x3 x4 x5 x6 x7 x8 x9 x10 (0, x7)))
set_option maxRecDepth 100000 in
set_option maxHeartbeats 4000000 in
theorem e67l1 (m : Nat) (x0 : Int) (x1 x2 x3 x4 : Nat) (x5 : Int) (x6 x7 : Nat) (x8 : Int) (x9 x10 : List (List Int)) : evC Try.prog ext T48 noL 200 (loopN Try.f67 1) (loopTail ([0, 1, 2, 3, 9, 10, 11, 12, 13, 14, 15], []) [0, 1, 2, 3, 9, 10, 11, 12, 13, 14] [] (sumK 70 [0, 1, 2, 3, 9, 10, 11, 12, 13, 14, 15] [0, 1, 2, 3, 9, 10, 11, 12, 13, 14] (q67l1 m))) (frameOf 70 [0, 1, 2, 3, 9, 10, 11, 12, 13, 14, 15] [wsl 0, vi x0, vf x1, vf x2, wsl 1, vf x3, vf x4, vi x5, vf x6, vf x7, vi x8]) ⟨[⟨true, (some (.tab sc0 x9))⟩, ⟨true, (some (.tab [.int .i64] x10))⟩], 2, []⟩ = firstT ([((Nat.beq ((r67l1 (m + 1) x0 x1 x2 x3 x4 x5 x6 x7 x8 x9 x10).1) 0), .exit 2, [wsl 0, vi x0, vf x1, vf x2, wsl 1, vf x3, vf x4, vi x5, vf x6, vf ((r67l1 (m + 1) x0 x1 x2 x3 x4 x5 x6 x7 x8 x9 x10).2)], ⟨[⟨true, (some (.tab sc0 x9))⟩, ⟨true, (some (.tab [.int .i64] x10))⟩], 2, []⟩)].map fun (b, x) => (b, (x.1, frameOf 70 [0, 1, 2, 3, 9, 10, 11, 12, 13, 14] x.2.1, x.2.2))) :=
 (show _ = w67l1 (r67l1 m) x0 x1 x2 x3 x4 x5 x6 x7 x8 x9 x10 from by kernel_rfl).trans
 (show w67l1 (r67l1 m) x0 x1 x2 x3 x4 x5 x6 x7 x8 x9 x10 = a67l1 x0 x1 x2 x3 x4 x5 x6 x7 x8 x9 x10 (r67l1 (m + 1) x0 x1 x2 x3 x4 x5 x6 x7 x8 x9 x10) from by unfold w67l1; show _ = a67l1 x0 x1 x2 x3 x4 x5 x6 x7 x8 x9 x10 (b67l1 (r67l1 m) x0 x1 x2 x3 x4 x5 x6 x7 x8 x9 x10); unfold b67l1; exact (cond_both (a67l1 x0 x1 x2 x3 x4 x5 x6 x7 x8 x9 x10) _ (fun h0 => (cond_both (a67l1 x0 x1 x2 x3 x4 x5 x6 x7 x8 x9 x10) _ (fun h1 => (cond_t (ev_and2 h1) (cond_app (a67l1 x0 x1 x2 x3 x4 x5 x6 x7 x8 x9 x10) _ (cond_app (a67l1 x0 x1 x2 x3 x4 x5 x6 x7 x8 x9 x10) _ (v67l1 x0 x1 x2 x3 x4 x5 x6 x7 x8 x9 x10 ((r67l1 m) x0 x1 x2 x3 x4 x5 x6 (fadd .f32 x7 ((r129 (Int.toNat ((x10.getD (Int.toNat x8) []).getD 0 0)) x1 (fsub .f32 0 x6) x9).2)) (IntKind.i64.wrap (x8 + 1)) x9 x10)) rfl) rfl))) (fun h1 => rfl))) (fun h0 => rfl)))
set_option maxRecDepth 100000 in
set_option maxHeartbeats 4000000 in
theorem qm67l1 : ∀ m, SumKOk Try.prog (loopN Try.f67 1) 70 [0, 1, 2, 3, 9, 10, 11, 12, 13, 14, 15] [0, 1, 2, 3, 9, 10, 11, 12, 13, 14] (q67l1 m) := by
  intro m
  induction m with
  | zero =>
    intro vals s x h1 h2 h3
    unfold q67l1 at h3; split at h3
    · rename_i h; split at h3
      · rename_i hc; obtain ⟨rfl, rfl⟩ := hc; exact absurd h3 (by simp [r67l1, firstT, Nat.beq])
      · exact noQ_ok _ _ _ h1 h2 h3
    · exact noQ_ok _ _ _ h1 h2 h3
  | succ m ih =>
    intro vals s x h1 h2 h3
    unfold q67l1 at h3; split at h3
    · rename_i h; split at h3
      · rename_i hc; obtain ⟨rfl, rfl⟩ := hc; exact sum_step ok48 extOk mixed ((lfOkF_no _ _).inner (by kernel_rfl)) ih h1 h2 h (e67l1 m _ _ _ _ _ _ _ _ _ _ _) rfl h3
      · exact noQ_ok _ _ _ h1 h2 h3
    · exact noQ_ok _ _ _ h1 h2 h3
noncomputable def Q67l1 : SumK := fun vals s => q67l1 (fuelOf vals s.h) vals s
theorem qok67l1 : SumKOk Try.prog (loopN Try.f67 1) 70 [0, 1, 2, 3, 9, 10, 11, 12, 13, 14, 15] [0, 1, 2, 3, 9, 10, 11, 12, 13, 14] Q67l1 := fuel_ok qm67l1 fuelOf
noncomputable def L67_1 : LoopT := addL noL 13 ([0, 1, 2, 3, 9, 10, 11, 12, 13, 14, 15], []) (sumK 70 [0, 1, 2, 3, 9, 10, 11, 12, 13, 14, 15] [0, 1, 2, 3, 9, 10, 11, 12, 13, 14] Q67l1)
theorem lok67_1 : LfOkF Try.prog L67_1 Try.f67 := lfOkF_add (lfOkF_no _ _) qok67l1 (by kernel_rfl) (by kernel_rfl) (by kernel_rfl)

/-- spec.l03At, loop 0: one round -/
noncomputable def b67l0 (ih : Int → Nat → Nat → Nat → Nat → Int → List (List Int) → List (List Int) → (Nat × Nat)) (x0 : Int) (x1 x2 x3 x4 : Nat) (x5 : Int) (x6 x7 : List (List Int)) : Nat × Nat :=
 let c461 := (r67l1 (1000 + x7.length + x6.length) x0 x1 x2 x3 x4 x5 (fmul .f32 1056964608 (fadd .f32 x3 x4)) ((r129 (Int.toNat ((x7.getD 0 []).getD 0 0)) x1 (fsub .f32 0 (fmul .f32 1056964608 (fadd .f32 x3 x4))) x6).2) 1 x6 x7)
 cond (decide ((x5 : Int) < 40)) (cond (Nat.blt 0 x7.length) (cond ((decide ((0 : Int) ≤ ((x7.getD 0 []).getD 0 0))) && (Nat.blt (Int.toNat ((x7.getD 0 []).getD 0 0)) x6.length)) (cond (Nat.beq ((r129 (Int.toNat ((x7.getD 0 []).getD 0 0)) x1 (fsub .f32 0 (fmul .f32 1056964608 (fadd .f32 x3 x4))) x6).1) 0) (cond (Nat.beq (c461.1) 0) (cond ((decide ((0 : Int) ≤ x0)) && (Nat.blt (Int.toNat x0) x6.length)) (cond (Nat.beq ((r129 (Int.toNat x0) x1 (fsub .f32 (fmul .f32 1056964608 (fadd .f32 x3 x4)) x2) x6).1) 0) (cond (fgt .f32 (c461.2) ((r129 (Int.toNat x0) x1 (fsub .f32 (fmul .f32 1056964608 (fadd .f32 x3 x4)) x2) x6).2)) (ih x0 x1 x2 (fmul .f32 1056964608 (fadd .f32 x3 x4)) x4 (IntKind.i64.wrap (x5 + 1)) x6 x7) (ih x0 x1 x2 x3 (fmul .f32 1056964608 (fadd .f32 x3 x4)) (IntKind.i64.wrap (x5 + 1)) x6 x7)) (1, 0)) (1, 0)) (1, 0)) (1, 0)) (1, 0)) (1, 0)) (0, x4)
noncomputable def r67l0 : Nat → Int → Nat → Nat → Nat → Nat → Int → List (List Int) → List (List Int) → (Nat × Nat)
 | 0 => fun _ _ _ _ _ _ _ _ => (1, 0)
 | m + 1 => b67l0 (r67l0 m)
noncomputable def a67l0 (x0 : Int) (x1 x2 x3 x4 : Nat) (x5 : Int) (x6 x7 : List (List Int)) (p : Nat × Nat) : Option (Fin' × List Value × St) := firstT ([((Nat.beq (p.1) 0), .exit 0, [vf (p.2)], ⟨[⟨true, (some (.tab sc0 x6))⟩, ⟨true, (some (.tab [.int .i64] x7))⟩], 2, []⟩)].map fun (b, x) => (b, (x.1, frameOf 70 [11] x.2.1, x.2.2)))
noncomputable def u67l0 (x0 : Int) (x1 x2 x3 x4 : Nat) (x5 : Int) (x6 x7 : List (List Int)) (p : Nat × Nat) : Option (Fin' × List Value × St) := alts ([((Nat.beq (p.1) 0), .exit 0, [vf (p.2)], ⟨[⟨true, (some (.tab sc0 x6))⟩, ⟨true, (some (.tab [.int .i64] x7))⟩], 2, []⟩)].map fun (b, x) => (b, (x.1, frameOf 70 [11] x.2.1, x.2.2))) some
theorem v67l0 (x0 : Int) (x1 x2 x3 x4 : Nat) (x5 : Int) (x6 x7 : List (List Int)) (p : Nat × Nat) : u67l0 x0 x1 x2 x3 x4 x5 x6 x7 p = a67l0 x0 x1 x2 x3 x4 x5 x6 x7 p := alts_first _
noncomputable def q67l0 (m : Nat) : SumK := fun vals s =>
 match vals, s.h with
 | [.iface f0 .nilIface, .int .i64 x0, .float .f32 x1, .float .f32 x2, .iface f1 .nilIface, .float .f32 x3, .float .f32 x4, .int .i64 x5], [⟨true, some (.tab [.fl .f32, .fl .f32, .fl .f32, .fl .f32, .int .i64] x6)⟩, ⟨true, some (.tab [.int .i64] x7)⟩] => if f0 = 0 ∧ f1 = 1 then [((Nat.beq ((r67l0 m x0 x1 x2 x3 x4 x5 x6 x7).1) 0), .exit 0, [vf ((r67l0 m x0 x1 x2 x3 x4 x5 x6 x7).2)], ⟨[⟨true, (some (.tab sc0 x6))⟩, ⟨true, (some (.tab [.int .i64] x7))⟩], 2, []⟩)] else noQ vals s
 | _, _ => noQ vals s
noncomputable def w67l0 (ih : Int → Nat → Nat → Nat → Nat → Int → List (List Int) → List (List Int) → (Nat × Nat)) (x0 : Int) (x1 x2 x3 x4 : Nat) (x5 : Int) (x6 x7 : List (List Int)) : Option (Fin' × List Value × St) :=
 let c461 := (r67l1 (1000 + x7.length + x6.length) x0 x1 x2 x3 x4 x5 (fmul .f32 1056964608 (fadd .f32 x3 x4)) ((r129 (Int.toNat ((x7.getD 0 []).getD 0 0)) x1 (fsub .f32 0 (fmul .f32 1056964608 (fadd .f32 x3 x4))) x6).2) 1 x6 x7)
 (cond (decide ((x5 : Int) < 40))
 (cond (Nat.blt 0 x7.length) (cond (Nat.blt 0 x7.length) (cond ((decide ((0 : Int) ≤ ((x7.getD 0 []).getD 0 0))) && (Nat.blt (Int.toNat ((x7.getD 0 []).getD 0 0)) x6.length)) (cond (Nat.beq ((r129 (Int.toNat ((x7.getD 0 []).getD 0 0)) x1 (fsub .f32 0 (fmul .f32 1056964608 (fadd .f32 x3 x4))) x6).1) 0) (cond (Nat.beq (c461.1) 0) (cond ((decide ((0 : Int) ≤ x0)) && (Nat.blt (Int.toNat x0) x6.length)) (cond (Nat.beq ((r129 (Int.toNat x0) x1 (fsub .f32 (fmul .f32 1056964608 (fadd .f32 x3 x4)) x2) x6).1) 0) (cond (fgt .f32 (c461.2) ((r129 (Int.toNat x0) x1 (fsub .f32 (fmul .f32 1056964608 (fadd .f32 x3 x4)) x2) x6).2)) (u67l0 x0 x1 x2 x3 x4 x5 x6 x7 (ih x0 x1 x2 (fmul .f32 1056964608 (fadd .f32 x3 x4)) x4 (IntKind.i64.wrap (x5 + 1)) x6 x7)) (u67l0 x0 x1 x2 x3 x4 x5 x6 x7 (ih x0 x1 x2 x3 (fmul .f32 1056964608 (fadd .f32 x3 x4)) (IntKind.i64.wrap (x5 + 1)) x6 x7))) none) none) none) none) none) none) none)
 (a67l0 x0 x1 x2 x3 x4 x5 x6 x7 (0, x4)))
set_option maxRecDepth 100000 in
set_option maxHeartbeats 4000000 in
theorem e67l0 (m : Nat) (x0 : Int) (x1 x2 x3 x4 : Nat) (x5 : Int) (x6 x7 : List (List Int)) : evC Try.prog ext T48 L67_1 200 (loopN Try.f67 0) (loopTail ([0, 1, 2, 3, 9, 10, 11, 12], []) [11] [] (sumK 70 [0, 1, 2, 3, 9, 10, 11, 12] [11] (q67l0 m))) (frameOf 70 [0, 1, 2, 3, 9, 10, 11, 12] [wsl 0, vi x0, vf x1, vf x2, wsl 1, vf x3, vf x4, vi x5]) ⟨[⟨true, (some (.tab sc0 x6))⟩, ⟨true, (some (.tab [.int .i64] x7))⟩], 2, []⟩ = firstT ([((Nat.beq ((r67l0 (m + 1) x0 x1 x2 x3 x4 x5 x6 x7).1) 0), .exit 0, [vf ((r67l0 (m + 1) x0 x1 x2 x3 x4 x5 x6 x7).2)], ⟨[⟨true, (some (.tab sc0 x6))⟩, ⟨true, (some (.tab [.int .i64] x7))⟩], 2, []⟩)].map fun (b, x) => (b, (x.1, frameOf 70 [11] x.2.1, x.2.2))) :=
 (show _ = w67l0 (r67l0 m) x0 x1 x2 x3 x4 x5 x6 x7 from by kernel_rfl).trans
 (show w67l0 (r67l0 m) x0 x1 x2 x3 x4 x5 x6 x7 = a67l0 x0 x1 x2 x3 x4 x5 x6 x7 (r67l0 (m + 1) x0 x1 x2 x3 x4 x5 x6 x7) from by unfold w67l0; show _ = a67l0 x0 x1 x2 x3 x4 x5 x6 x7 (b67l0 (r67l0 m) x0 x1 x2 x3 x4 x5 x6 x7); unfold b67l0; exact (cond_both (a67l0 x0 x1 x2 x3 x4 x5 x6 x7) _ (fun h0 => (cond_both (a67l0 x0 x1 x2 x3 x4 x5 x6 x7) _ (fun h1 => (cond_t h1 (cond_app (a67l0 x0 x1 x2 x3 x4 x5 x6 x7) _ (cond_app (a67l0 x0 x1 x2 x3 x4 x5 x6 x7) _ (cond_app (a67l0 x0 x1 x2 x3 x4 x5 x6 x7) _ (cond_app (a67l0 x0 x1 x2 x3 x4 x5 x6 x7) _ (cond_app (a67l0 x0 x1 x2 x3 x4 x5 x6 x7) _ (cond_app (a67l0 x0 x1 x2 x3 x4 x5 x6 x7) _ (v67l0 x0 x1 x2 x3 x4 x5 x6 x7 ((r67l0 m) x0 x1 x2 (fmul .f32 1056964608 (fadd .f32 x3 x4)) x4 (IntKind.i64.wrap (x5 + 1)) x6 x7)) (v67l0 x0 x1 x2 x3 x4 x5 x6 x7 ((r67l0 m) x0 x1 x2 x3 (fmul .f32 1056964608 (fadd .f32 x3 x4)) (IntKind.i64.wrap (x5 + 1)) x6 x7))) rfl) rfl) rfl) rfl) rfl))) (fun h1 => rfl))) (fun h0 => rfl)))
set_option maxRecDepth 100000 in
set_option maxHeartbeats 4000000 in
theorem qm67l0 : ∀ m, SumKOk Try.prog (loopN Try.f67 0) 70 [0, 1, 2, 3, 9, 10, 11, 12] [11] (q67l0 m) := by
  intro m
  induction m with
  | zero =>
    intro vals s x h1 h2 h3
    unfold q67l0 at h3; split at h3
    · rename_i h; split at h3
      · rename_i hc; obtain ⟨rfl, rfl⟩ := hc; exact absurd h3 (by simp [r67l0, firstT, Nat.beq])
      · exact noQ_ok _ _ _ h1 h2 h3
    · exact noQ_ok _ _ _ h1 h2 h3
  | succ m ih =>
    intro vals s x h1 h2 h3
    unfold q67l0 at h3; split at h3
    · rename_i h; split at h3
      · rename_i hc; obtain ⟨rfl, rfl⟩ := hc; exact sum_step ok48 extOk mixed (lok67_1.inner (by kernel_rfl)) ih h1 h2 h (e67l0 m _ _ _ _ _ _ _ _) rfl h3
      · exact noQ_ok _ _ _ h1 h2 h3
    · exact noQ_ok _ _ _ h1 h2 h3
noncomputable def Q67l0 : SumK := fun vals s => q67l0 (fuelOf vals s.h) vals s
theorem qok67l0 : SumKOk Try.prog (loopN Try.f67 0) 70 [0, 1, 2, 3, 9, 10, 11, 12] [11] Q67l0 := fuel_ok qm67l0 fuelOf
noncomputable def L67_2 : LoopT := addL L67_1 8 ([0, 1, 2, 3, 9, 10, 11, 12], []) (sumK 70 [0, 1, 2, 3, 9, 10, 11, 12] [11] Q67l0)
theorem lok67_2 : LfOkF Try.prog L67_2 Try.f67 := lfOkF_add lok67_1 qok67l0 (by kernel_rfl) (by kernel_rfl) (by kernel_rfl)

/-- spec.l03At -/
noncomputable def r67 (x0 : Int) (x1 x2 : Nat) (x3 : List (List Int)) : Nat × Nat :=
 cond (Nat.beq ((r133 x0 x3).1) 0) (cond ((((((r133 x0 x3).2).length : Nat) : Int) : Int) == 0) (0, 0) (cond (Nat.beq ((r67l0 (1000 + ((r133 x0 x3).2).length + x3.length) x0 x1 x2 3296329728 1148846080 0 x3 ((r133 x0 x3).2)).1) 0) (0, ((r67l0 (1000 + ((r133 x0 x3).2).length + x3.length) x0 x1 x2 3296329728 1148846080 0 x3 ((r133 x0 x3).2)).2)) (1, 0))) (1, 0)
noncomputable def a67 (x0 : Int) (x1 x2 : Nat) (x3 : List (List Int)) (p : Nat × Nat) : Res := firstT [((Nat.beq (p.1) 0), vf (p.2), ⟨[⟨true, (some (.tab sc0 x3))⟩], 1, []⟩)]
noncomputable def w67 (x0 : Int) (x1 x2 : Nat) (x3 : List (List Int)) : Res :=
 (cond (Nat.beq ((r133 x0 x3).1) 0)
 (cond ((((((r133 x0 x3).2).length : Nat) : Int) : Int) == 0) (a67 x0 x1 x2 x3 (0, 0)) (cond (Nat.beq ((r67l0 (1000 + ((r133 x0 x3).2).length + x3.length) x0 x1 x2 3296329728 1148846080 0 x3 ((r133 x0 x3).2)).1) 0) (a67 x0 x1 x2 x3 (0, ((r67l0 (1000 + ((r133 x0 x3).2).length + x3.length) x0 x1 x2 3296329728 1148846080 0 x3 ((r133 x0 x3).2)).2))) none))
 none)
set_option maxRecDepth 100000 in
set_option maxHeartbeats 4000000 in
theorem e67 (x0 : Int) (x1 x2 : Nat) (x3 : List (List Int)) : evFn Try.prog ext T48 L67_2 200 Try.f67 [wsl 0, vi x0, vf x1, vf x2] ⟨[⟨true, (some (.tab sc0 x3))⟩], 1, []⟩ = firstT [((Nat.beq ((r67 x0 x1 x2 x3).1) 0), vf ((r67 x0 x1 x2 x3).2), ⟨[⟨true, (some (.tab sc0 x3))⟩], 1, []⟩)] :=
 (show _ = w67 x0 x1 x2 x3 from by kernel_rfl).trans
 (show w67 x0 x1 x2 x3 = a67 x0 x1 x2 x3 (r67 x0 x1 x2 x3) from by unfold w67 r67; exact (cond_app (a67 x0 x1 x2 x3) _ (cond_app (a67 x0 x1 x2 x3) _ rfl (cond_app (a67 x0 x1 x2 x3) _ rfl rfl)) rfl))
noncomputable def s67 (args : List Value) (s : St) : List (Bool × Value × St) :=
 match args, s.h with
 | [.iface f0 .nilIface, .int .i64 x0, .float .f32 x1, .float .f32 x2], [⟨true, some (.tab [.fl .f32, .fl .f32, .fl .f32, .fl .f32, .int .i64] x3)⟩] => if f0 = 0 then [((Nat.beq ((r67 x0 x1 x2 x3).1) 0), vf ((r67 x0 x1 x2 x3).2), ⟨[⟨true, (some (.tab sc0 x3))⟩], 1, []⟩)] else T48 67 args s
 | _, _ => T48 67 args s
noncomputable def T49 : CallF := addF T48 67 s67
set_option maxRecDepth 100000 in
set_option maxHeartbeats 4000000 in
theorem ok49 : CfOk Try.prog T49 := by
  refine cfOk_add ok48 fun args s r s' h1 h2 h3 => ?_
  unfold s67 at h3; split at h3
  · rename_i h; split at h3
    · rename_i hc; obtain ⟨rfl⟩ := hc; exact callOk ok48 Try.func67 h1 h2 h lok67_2.body (e67 _ _ _ _) rfl h3
    · exact ok48 _ _ _ _ _ h1 h2 h3
  · exact ok48 _ _ _ _ _ h1 h2 h3

/-- spec.l03Number -/
noncomputable def r94 (x0 : Nat) : Nat × Int :=
 cond (!(r147 x0)) (0, 4) (x0, 0)
noncomputable def a94 (x0 : Nat) (p : Nat × Int) : Res := firstT [(true, .tuple #[vf (p.1), vi (p.2)], st0)]
noncomputable def w94 (x0 : Nat) : Res :=
 (cond (!(r147 x0))
 (a94 x0 (0, 4))
 (a94 x0 (x0, 0)))
set_option maxRecDepth 100000 in
set_option maxHeartbeats 4000000 in
theorem e94 (x0 : Nat) : evFn Try.prog ext T49 noL 200 Try.f94 [vf x0] st0 = firstT [(true, .tuple #[vf ((r94 x0).1), vi ((r94 x0).2)], st0)] :=
 (show _ = w94 x0 from by kernel_rfl).trans
 (show w94 x0 = a94 x0 (r94 x0) from by unfold w94 r94; exact (cond_app (a94 x0) _ rfl rfl))
noncomputable def s94 (args : List Value) (s : St) : List (Bool × Value × St) :=
 match args, s.h with
 | [.float .f32 x0], [] => [(true, .tuple #[vf ((r94 x0).1), vi ((r94 x0).2)], st0)]
 | _, _ => T49 94 args s
noncomputable def T50 : CallF := addF T49 94 s94
set_option maxRecDepth 100000 in
set_option maxHeartbeats 4000000 in
theorem ok50 : CfOk Try.prog T50 := by
  refine cfOk_add ok49 fun args s r s' h1 h2 h3 => ?_
  unfold s94 at h3; split at h3
  · rename_i h; exact callOk ok49 Try.func94 h1 h2 h (lfOkF_no _ _).body (e94 _) rfl h3
  · exact ok49 _ _ _ _ _ h1 h2 h3
end Go.Proofs.Ytmknfenjnladeaa
