/- What the functions that the statements reach answer, part 2. -/
import Derived.Test.YtfnfapmncibjfaaPa1
namespace Go.Proofs.Ytfnfapmncibjfaa
open Go.Ab
set_option maxHeartbeats 4000000
set_option maxRecDepth 100000

/-- impl.ValidFlat, loop 0: one round -/
noncomputable def b65l0 (ih : Int → Int → Int → List (List Int) → List (List Int) → List (List Int) → List (List Int) → Nat) (x0 x1 x2 : Int) (x3 x4 x5 x6 : List (List Int)) : Nat :=
 cond (decide ((x2 : Int) < x1))
  (cond ((decide ((0 : Int) ≤ x2)) && (Nat.blt (Int.toNat x2) x3.length))
  (cond (!(r68 (Int.toNat ((x3.getD (Int.toNat x2) []).getD 0 0))))
  (0)
  (cond ((decide ((0 : Int) ≤ x2)) && (Nat.blt (Int.toNat x2) x4.length))
  (cond (!(r113 (Int.toNat ((x4.getD (Int.toNat x2) []).getD 0 0))))
  (0)
  (ih x0 x1 (IntKind.i64.wrap (x2 + 1)) x3 x4 x5 x6))
  (2)))
  (2))
  (1)
noncomputable def r65l0 : Nat → Int → Int → Int → List (List Int) → List (List Int) → List (List Int) → List (List Int) → Nat
 | 0 => fun _ _ _ _ _ _ _ => (2)
 | m + 1 => b65l0 (r65l0 m)
noncomputable def a65l0 (x0 x1 x2 : Int) (x3 x4 x5 x6 : List (List Int)) (p : Nat) : Option (Fin' × List Value × St) := firstT ([((Nat.beq p 0), .ret, [.pointer (some ⟨0, 0, some 0⟩), .bool false, .int .i64 x0], ⟨[⟨true, (some (.cells [wsl 1, wsl 2, wsl 3, wsl 4]))⟩, ⟨true, (some (.tab [.fl .f32] x3))⟩, ⟨true, (some (.tab [.fl .f32] x4))⟩, ⟨true, (some (.tab sc0 x5))⟩, ⟨true, (some (.tab sc1 x6))⟩], 5, []⟩), ((Nat.beq p 1), .exit 0, [.pointer (some ⟨0, 0, some 0⟩), anyV, .int .i64 x0], ⟨[⟨true, (some (.cells [wsl 1, wsl 2, wsl 3, wsl 4]))⟩, ⟨true, (some (.tab [.fl .f32] x3))⟩, ⟨true, (some (.tab [.fl .f32] x4))⟩, ⟨true, (some (.tab sc0 x5))⟩, ⟨true, (some (.tab sc1 x6))⟩], 5, []⟩)].map fun (b, x) => (b, (x.1, frameOf 129 [1, 2, 3] x.2.1, x.2.2)))
noncomputable def u65l0 (x0 x1 x2 : Int) (x3 x4 x5 x6 : List (List Int)) (p : Nat) : Option (Fin' × List Value × St) := alts ([((Nat.beq p 0), .ret, [.pointer (some ⟨0, 0, some 0⟩), .bool false, .int .i64 x0], ⟨[⟨true, (some (.cells [wsl 1, wsl 2, wsl 3, wsl 4]))⟩, ⟨true, (some (.tab [.fl .f32] x3))⟩, ⟨true, (some (.tab [.fl .f32] x4))⟩, ⟨true, (some (.tab sc0 x5))⟩, ⟨true, (some (.tab sc1 x6))⟩], 5, []⟩), ((Nat.beq p 1), .exit 0, [.pointer (some ⟨0, 0, some 0⟩), anyV, .int .i64 x0], ⟨[⟨true, (some (.cells [wsl 1, wsl 2, wsl 3, wsl 4]))⟩, ⟨true, (some (.tab [.fl .f32] x3))⟩, ⟨true, (some (.tab [.fl .f32] x4))⟩, ⟨true, (some (.tab sc0 x5))⟩, ⟨true, (some (.tab sc1 x6))⟩], 5, []⟩)].map fun (b, x) => (b, (x.1, frameOf 129 [1, 2, 3] x.2.1, x.2.2))) some
theorem v65l0 (x0 x1 x2 : Int) (x3 x4 x5 x6 : List (List Int)) (p : Nat) : u65l0 x0 x1 x2 x3 x4 x5 x6 p = a65l0 x0 x1 x2 x3 x4 x5 x6 p := alts_first _
noncomputable def q65l0 (m : Nat) : SumK := fun vals s =>
 match vals, s.h with
 | [.pointer (some ⟨f0, f1, some f2⟩), .int .i64 x0, .int .i64 x1, .int .i64 x2], [⟨true, some (.cells [.iface f3 .nilIface, .iface f4 .nilIface, .iface f5 .nilIface, .iface f6 .nilIface])⟩, ⟨true, some (.tab [.fl .f32] x3)⟩, ⟨true, some (.tab [.fl .f32] x4)⟩, ⟨true, some (.tab [.int .i64, .int .i64, .fl .f32, .fl .f32, .fl .f32, .fl .f32, .fl .f32, .fl .f32] x5)⟩, ⟨true, some (.tab [.int .i64, .int .i64, .fl .f32, .fl .f32] x6)⟩] => if f0 = 0 ∧ f1 = 0 ∧ f2 = 0 ∧ f3 = 1 ∧ f4 = 2 ∧ f5 = 3 ∧ f6 = 4 then [((Nat.beq (r65l0 m x0 x1 x2 x3 x4 x5 x6) 0), .ret, [.pointer (some ⟨0, 0, some 0⟩), .bool false, .int .i64 x0], ⟨[⟨true, (some (.cells [wsl 1, wsl 2, wsl 3, wsl 4]))⟩, ⟨true, (some (.tab [.fl .f32] x3))⟩, ⟨true, (some (.tab [.fl .f32] x4))⟩, ⟨true, (some (.tab sc0 x5))⟩, ⟨true, (some (.tab sc1 x6))⟩], 5, []⟩), ((Nat.beq (r65l0 m x0 x1 x2 x3 x4 x5 x6) 1), .exit 0, [.pointer (some ⟨0, 0, some 0⟩), anyV, .int .i64 x0], ⟨[⟨true, (some (.cells [wsl 1, wsl 2, wsl 3, wsl 4]))⟩, ⟨true, (some (.tab [.fl .f32] x3))⟩, ⟨true, (some (.tab [.fl .f32] x4))⟩, ⟨true, (some (.tab sc0 x5))⟩, ⟨true, (some (.tab sc1 x6))⟩], 5, []⟩)] else noQ vals s
 | _, _ => noQ vals s
noncomputable def w65l0 (ih : Int → Int → Int → List (List Int) → List (List Int) → List (List Int) → List (List Int) → Nat) (x0 x1 x2 : Int) (x3 x4 x5 x6 : List (List Int)) : Option (Fin' × List Value × St) :=
 (cond (decide ((x2 : Int) < x1))
 (cond ((decide ((0 : Int) ≤ x2)) && (Nat.blt (Int.toNat x2) x3.length))
  (cond (Nat.blt (Int.toNat x2) x3.length)
  (cond (!(r68 (Int.toNat ((x3.getD (Int.toNat x2) []).getD 0 0))))
  (a65l0 x0 x1 x2 x3 x4 x5 x6 (0))
  (cond ((decide ((0 : Int) ≤ x2)) && (Nat.blt (Int.toNat x2) x4.length))
  (cond (Nat.blt (Int.toNat x2) x4.length)
  (cond (!(r113 (Int.toNat ((x4.getD (Int.toNat x2) []).getD 0 0))))
  (a65l0 x0 x1 x2 x3 x4 x5 x6 (0))
  (u65l0 x0 x1 x2 x3 x4 x5 x6 (ih x0 x1 (IntKind.i64.wrap (x2 + 1)) x3 x4 x5 x6)))
  none)
  none))
  none)
  none)
 (a65l0 x0 x1 x2 x3 x4 x5 x6 (1)))
set_option maxRecDepth 100000 in
set_option maxHeartbeats 4000000 in
theorem e65l0 (m : Nat) (x0 x1 x2 : Int) (x3 x4 x5 x6 : List (List Int)) : evC Try.prog ext T30 noL 200 (loopN Try.f65 0) (loopTail ([1, 3, 39, 40], []) [1, 2, 3] [] (sumK 129 [1, 3, 39, 40] [1, 2, 3] (q65l0 m))) (frameOf 129 [1, 3, 39, 40] [.pointer (some ⟨0, 0, some 0⟩), .int .i64 x0, .int .i64 x1, .int .i64 x2]) ⟨[⟨true, (some (.cells [wsl 1, wsl 2, wsl 3, wsl 4]))⟩, ⟨true, (some (.tab [.fl .f32] x3))⟩, ⟨true, (some (.tab [.fl .f32] x4))⟩, ⟨true, (some (.tab sc0 x5))⟩, ⟨true, (some (.tab sc1 x6))⟩], 5, []⟩ = firstT ([((Nat.beq (r65l0 (m + 1) x0 x1 x2 x3 x4 x5 x6) 0), .ret, [.pointer (some ⟨0, 0, some 0⟩), .bool false, .int .i64 x0], ⟨[⟨true, (some (.cells [wsl 1, wsl 2, wsl 3, wsl 4]))⟩, ⟨true, (some (.tab [.fl .f32] x3))⟩, ⟨true, (some (.tab [.fl .f32] x4))⟩, ⟨true, (some (.tab sc0 x5))⟩, ⟨true, (some (.tab sc1 x6))⟩], 5, []⟩), ((Nat.beq (r65l0 (m + 1) x0 x1 x2 x3 x4 x5 x6) 1), .exit 0, [.pointer (some ⟨0, 0, some 0⟩), anyV, .int .i64 x0], ⟨[⟨true, (some (.cells [wsl 1, wsl 2, wsl 3, wsl 4]))⟩, ⟨true, (some (.tab [.fl .f32] x3))⟩, ⟨true, (some (.tab [.fl .f32] x4))⟩, ⟨true, (some (.tab sc0 x5))⟩, ⟨true, (some (.tab sc1 x6))⟩], 5, []⟩)].map fun (b, x) => (b, (x.1, frameOf 129 [1, 2, 3] x.2.1, x.2.2))) :=
 (show evC Try.prog ext T30 noL 200 (loopN Try.f65 0) (loopTail ([1, 3, 39, 40], []) [1, 2, 3] [] (sumK 129 [1, 3, 39, 40] [1, 2, 3] (q65l0 m))) (frameOf 129 [1, 3, 39, 40] [.pointer (some ⟨0, 0, some 0⟩), .int .i64 x0, .int .i64 x1, .int .i64 x2]) ⟨[⟨true, (some (.cells [wsl 1, wsl 2, wsl 3, wsl 4]))⟩, ⟨true, (some (.tab [.fl .f32] x3))⟩, ⟨true, (some (.tab [.fl .f32] x4))⟩, ⟨true, (some (.tab sc0 x5))⟩, ⟨true, (some (.tab sc1 x6))⟩], 5, []⟩ = w65l0 (r65l0 m) x0 x1 x2 x3 x4 x5 x6 from by kernel_rfl).trans
 (show w65l0 (r65l0 m) x0 x1 x2 x3 x4 x5 x6 = a65l0 x0 x1 x2 x3 x4 x5 x6 (r65l0 (m + 1) x0 x1 x2 x3 x4 x5 x6) from by unfold w65l0; show _ = a65l0 x0 x1 x2 x3 x4 x5 x6 (b65l0 (r65l0 m) x0 x1 x2 x3 x4 x5 x6); unfold b65l0; exact (cond_both (a65l0 x0 x1 x2 x3 x4 x5 x6) _ (fun h0 => (cond_both (a65l0 x0 x1 x2 x3 x4 x5 x6) _ (fun h1 => (cond_t (ev_and2 h1) (cond_both (a65l0 x0 x1 x2 x3 x4 x5 x6) _ (fun h2 => rfl) (fun h2 => (cond_both (a65l0 x0 x1 x2 x3 x4 x5 x6) _ (fun h3 => (cond_t (ev_and2 h3) (cond_app (a65l0 x0 x1 x2 x3 x4 x5 x6) _ rfl (v65l0 x0 x1 x2 x3 x4 x5 x6 ((r65l0 m) x0 x1 (IntKind.i64.wrap (x2 + 1)) x3 x4 x5 x6))))) (fun h3 => rfl)))))) (fun h1 => rfl))) (fun h0 => rfl)))
set_option maxRecDepth 100000 in
set_option maxHeartbeats 4000000 in
theorem qm65l0 : ∀ m, SumKOk Try.prog (loopN Try.f65 0) 129 [1, 3, 39, 40] [1, 2, 3] (q65l0 m) := by
  intro m
  induction m with
  | zero =>
    intro vals s x h1 h2 h3
    unfold q65l0 at h3; split at h3
    · rename_i h; split at h3
      · rename_i hc; obtain ⟨rfl, rfl, rfl, rfl, rfl, rfl, rfl⟩ := hc; exact absurd h3 (by simp [r65l0, firstT, Nat.beq])
      · exact noQ_ok _ _ _ h1 h2 h3
    · exact noQ_ok _ _ _ h1 h2 h3
  | succ m ih =>
    intro vals s x h1 h2 h3
    unfold q65l0 at h3; split at h3
    · rename_i h; split at h3
      · rename_i hc; obtain ⟨rfl, rfl, rfl, rfl, rfl, rfl, rfl⟩ := hc; exact sum_step ok30 extOk mixed ((lfOkF_no _ _).inner (by kernel_rfl)) ih h1 h2 h (e65l0 m _ _ _ _ _ _ _) rfl h3
      · exact noQ_ok _ _ _ h1 h2 h3
    · exact noQ_ok _ _ _ h1 h2 h3
noncomputable def Q65l0 : SumK := fun vals s => q65l0 (fuelOf vals s.h) vals s
theorem qok65l0 : SumKOk Try.prog (loopN Try.f65 0) 129 [1, 3, 39, 40] [1, 2, 3] Q65l0 := fuel_ok qm65l0 fuelOf
noncomputable def L65_1 : LoopT := addL noL 6 ([1, 3, 39, 40], []) (sumK 129 [1, 3, 39, 40] [1, 2, 3] Q65l0)
theorem lok65_1 : LfOkF Try.prog L65_1 Try.f65 := lfOkF_add (lfOkF_no _ _) qok65l0 (by kernel_rfl) (by kernel_rfl) (by kernel_rfl)

/-- impl.stands -/
noncomputable def r114 (x0 x1 x2 : Int) : Bool :=
 cond (decide ((x0 : Int) ≥ 0))
  (cond (decide ((x0 : Int) < x2))
  (cond (decide ((x1 : Int) ≥ (-1)))
  (cond (decide ((x1 : Int) < x2))
  (((x0 : Int) != x1))
  (false))
  (false))
  (false))
  (false)
noncomputable def a114 (x0 x1 x2 : Int) (p : Bool) : Res := firstT [(true, .bool p, st0)]
noncomputable def w114 (x0 x1 x2 : Int) : Res :=
 (cond (decide ((x0 : Int) ≥ 0))
 (cond (decide ((x0 : Int) < x2))
  (cond (decide ((x1 : Int) ≥ (-1)))
  (cond (decide ((x1 : Int) < x2))
  (a114 x0 x1 x2 (((x0 : Int) != x1)))
  (a114 x0 x1 x2 (false)))
  (a114 x0 x1 x2 (false)))
  (a114 x0 x1 x2 (false)))
 (a114 x0 x1 x2 (false)))
set_option maxRecDepth 100000 in
set_option maxHeartbeats 4000000 in
theorem e114 (x0 x1 x2 : Int) : evFn Try.prog ext T30 noL 200 Try.f114 [.int .i64 x0, .int .i64 x1, .int .i64 x2] st0 = firstT [(true, .bool (r114 x0 x1 x2), st0)] :=
 (show evFn Try.prog ext T30 noL 200 Try.f114 [.int .i64 x0, .int .i64 x1, .int .i64 x2] st0 = w114 x0 x1 x2 from by kernel_rfl).trans
 (show w114 x0 x1 x2 = a114 x0 x1 x2 (r114 x0 x1 x2) from by unfold w114 r114; exact (cond_app (a114 x0 x1 x2) _ (cond_app (a114 x0 x1 x2) _ (cond_app (a114 x0 x1 x2) _ (cond_app (a114 x0 x1 x2) _ rfl rfl) rfl) rfl) rfl))
noncomputable def s114 (args : List Value) (s : St) : List (Bool × Value × St) :=
 match args, s.h with
 | [.int .i64 x0, .int .i64 x1, .int .i64 x2], [] => [(true, .bool (r114 x0 x1 x2), st0)]
 | _, _ => T30 114 args s
noncomputable def T31 : CallF := addF T30 114 s114
set_option maxRecDepth 100000 in
set_option maxHeartbeats 4000000 in
theorem ok31 : CfOk Try.prog T31 := by
  refine cfOk_add ok30 fun args s r s' h1 h2 h3 => ?_
  unfold s114 at h3; split at h3
  · rename_i h; exact callOk ok30 Try.func114 h1 h2 h (lfOkF_no _ _).body (e114 _ _ _) rfl h3
  · exact ok30 _ _ _ _ _ h1 h2 h3

/-- impl.ValidFlat, loop 1: one round -/
noncomputable def b65l1 (ih : Int → Int → Int → List (List Int) → List (List Int) → List (List Int) → List (List Int) → Nat) (x0 x1 x2 : Int) (x3 x4 x5 x6 : List (List Int)) : Nat :=
 cond (decide ((x2 : Int) < x1))
  (cond ((decide ((0 : Int) ≤ x2)) && (Nat.blt (Int.toNat x2) x3.length))
  (cond (!(r114 ((x3.getD (Int.toNat x2) []).getD 0 0) ((x3.getD (Int.toNat x2) []).getD 1 0) x0))
  (0)
  (cond (!(r111 (Int.toNat ((x3.getD (Int.toNat x2) []).getD 2 0))))
  (0)
  (cond (!(r115 (Int.toNat ((x3.getD (Int.toNat x2) []).getD 2 0)) 1015021568 1120403456))
  (0)
  (cond (!(r113 (Int.toNat ((x3.getD (Int.toNat x2) []).getD 3 0))))
  (0)
  (cond (!(r68 (Int.toNat ((x3.getD (Int.toNat x2) []).getD 4 0))))
  (0)
  (cond (!(r68 (Int.toNat ((x3.getD (Int.toNat x2) []).getD 5 0))))
  (0)
  (cond (!(r68 (Int.toNat ((x3.getD (Int.toNat x2) []).getD 6 0))))
  (0)
  (cond (!(r68 (Int.toNat ((x3.getD (Int.toNat x2) []).getD 7 0))))
  (0)
  (ih x0 x1 (IntKind.i64.wrap (x2 + 1)) x3 x4 x5 x6)))))))))
  (2))
  (1)
noncomputable def r65l1 : Nat → Int → Int → Int → List (List Int) → List (List Int) → List (List Int) → List (List Int) → Nat
 | 0 => fun _ _ _ _ _ _ _ => (2)
 | m + 1 => b65l1 (r65l1 m)
noncomputable def a65l1 (x0 x1 x2 : Int) (x3 x4 x5 x6 : List (List Int)) (p : Nat) : Option (Fin' × List Value × St) := firstT ([((Nat.beq p 0), .ret, [.pointer (some ⟨0, 0, some 0⟩), .bool false, .int .i64 x0], ⟨[⟨true, (some (.cells [wsl 2, wsl 3, wsl 1, wsl 4]))⟩, ⟨true, (some (.tab sc0 x3))⟩, ⟨true, (some (.tab [.fl .f32] x4))⟩, ⟨true, (some (.tab [.fl .f32] x5))⟩, ⟨true, (some (.tab sc1 x6))⟩], 5, []⟩), ((Nat.beq p 1), .exit 2, [.pointer (some ⟨0, 0, some 0⟩), anyV, .int .i64 x0], ⟨[⟨true, (some (.cells [wsl 2, wsl 3, wsl 1, wsl 4]))⟩, ⟨true, (some (.tab sc0 x3))⟩, ⟨true, (some (.tab [.fl .f32] x4))⟩, ⟨true, (some (.tab [.fl .f32] x5))⟩, ⟨true, (some (.tab sc1 x6))⟩], 5, []⟩)].map fun (b, x) => (b, (x.1, frameOf 129 [1, 2, 3] x.2.1, x.2.2)))
noncomputable def u65l1 (x0 x1 x2 : Int) (x3 x4 x5 x6 : List (List Int)) (p : Nat) : Option (Fin' × List Value × St) := alts ([((Nat.beq p 0), .ret, [.pointer (some ⟨0, 0, some 0⟩), .bool false, .int .i64 x0], ⟨[⟨true, (some (.cells [wsl 2, wsl 3, wsl 1, wsl 4]))⟩, ⟨true, (some (.tab sc0 x3))⟩, ⟨true, (some (.tab [.fl .f32] x4))⟩, ⟨true, (some (.tab [.fl .f32] x5))⟩, ⟨true, (some (.tab sc1 x6))⟩], 5, []⟩), ((Nat.beq p 1), .exit 2, [.pointer (some ⟨0, 0, some 0⟩), anyV, .int .i64 x0], ⟨[⟨true, (some (.cells [wsl 2, wsl 3, wsl 1, wsl 4]))⟩, ⟨true, (some (.tab sc0 x3))⟩, ⟨true, (some (.tab [.fl .f32] x4))⟩, ⟨true, (some (.tab [.fl .f32] x5))⟩, ⟨true, (some (.tab sc1 x6))⟩], 5, []⟩)].map fun (b, x) => (b, (x.1, frameOf 129 [1, 2, 3] x.2.1, x.2.2))) some
theorem v65l1 (x0 x1 x2 : Int) (x3 x4 x5 x6 : List (List Int)) (p : Nat) : u65l1 x0 x1 x2 x3 x4 x5 x6 p = a65l1 x0 x1 x2 x3 x4 x5 x6 p := alts_first _
noncomputable def q65l1 (m : Nat) : SumK := fun vals s =>
 match vals, s.h with
 | [.pointer (some ⟨f0, f1, some f2⟩), .int .i64 x0, .iface f3 .nilIface, .int .i64 x1, .int .i64 x2], [⟨true, some (.cells [.iface f4 .nilIface, .iface f5 .nilIface, .iface f6 .nilIface, .iface f7 .nilIface])⟩, ⟨true, some (.tab [.int .i64, .int .i64, .fl .f32, .fl .f32, .fl .f32, .fl .f32, .fl .f32, .fl .f32] x3)⟩, ⟨true, some (.tab [.fl .f32] x4)⟩, ⟨true, some (.tab [.fl .f32] x5)⟩, ⟨true, some (.tab [.int .i64, .int .i64, .fl .f32, .fl .f32] x6)⟩] => if f0 = 0 ∧ f1 = 0 ∧ f2 = 0 ∧ f3 = 1 ∧ f4 = 2 ∧ f5 = 3 ∧ f6 = 1 ∧ f7 = 4 then [((Nat.beq (r65l1 m x0 x1 x2 x3 x4 x5 x6) 0), .ret, [.pointer (some ⟨0, 0, some 0⟩), .bool false, .int .i64 x0], ⟨[⟨true, (some (.cells [wsl 2, wsl 3, wsl 1, wsl 4]))⟩, ⟨true, (some (.tab sc0 x3))⟩, ⟨true, (some (.tab [.fl .f32] x4))⟩, ⟨true, (some (.tab [.fl .f32] x5))⟩, ⟨true, (some (.tab sc1 x6))⟩], 5, []⟩), ((Nat.beq (r65l1 m x0 x1 x2 x3 x4 x5 x6) 1), .exit 2, [.pointer (some ⟨0, 0, some 0⟩), anyV, .int .i64 x0], ⟨[⟨true, (some (.cells [wsl 2, wsl 3, wsl 1, wsl 4]))⟩, ⟨true, (some (.tab sc0 x3))⟩, ⟨true, (some (.tab [.fl .f32] x4))⟩, ⟨true, (some (.tab [.fl .f32] x5))⟩, ⟨true, (some (.tab sc1 x6))⟩], 5, []⟩)] else noQ vals s
 | _, _ => noQ vals s
noncomputable def w65l1 (ih : Int → Int → Int → List (List Int) → List (List Int) → List (List Int) → List (List Int) → Nat) (x0 x1 x2 : Int) (x3 x4 x5 x6 : List (List Int)) : Option (Fin' × List Value × St) :=
 (cond (decide ((x2 : Int) < x1))
 (cond ((decide ((0 : Int) ≤ x2)) && (Nat.blt (Int.toNat x2) x3.length))
  (cond (Nat.blt (Int.toNat x2) x3.length)
  (cond (!(r114 ((x3.getD (Int.toNat x2) []).getD 0 0) ((x3.getD (Int.toNat x2) []).getD 1 0) x0))
  (a65l1 x0 x1 x2 x3 x4 x5 x6 (0))
  (cond (!(r111 (Int.toNat ((x3.getD (Int.toNat x2) []).getD 2 0))))
  (a65l1 x0 x1 x2 x3 x4 x5 x6 (0))
  (cond (!(r115 (Int.toNat ((x3.getD (Int.toNat x2) []).getD 2 0)) 1015021568 1120403456))
  (a65l1 x0 x1 x2 x3 x4 x5 x6 (0))
  (cond (!(r113 (Int.toNat ((x3.getD (Int.toNat x2) []).getD 3 0))))
  (a65l1 x0 x1 x2 x3 x4 x5 x6 (0))
  (cond (!(r68 (Int.toNat ((x3.getD (Int.toNat x2) []).getD 4 0))))
  (a65l1 x0 x1 x2 x3 x4 x5 x6 (0))
  (cond (!(r68 (Int.toNat ((x3.getD (Int.toNat x2) []).getD 5 0))))
  (a65l1 x0 x1 x2 x3 x4 x5 x6 (0))
  (cond (!(r68 (Int.toNat ((x3.getD (Int.toNat x2) []).getD 6 0))))
  (a65l1 x0 x1 x2 x3 x4 x5 x6 (0))
  (cond (!(r68 (Int.toNat ((x3.getD (Int.toNat x2) []).getD 7 0))))
  (a65l1 x0 x1 x2 x3 x4 x5 x6 (0))
  (u65l1 x0 x1 x2 x3 x4 x5 x6 (ih x0 x1 (IntKind.i64.wrap (x2 + 1)) x3 x4 x5 x6))))))))))
  none)
  none)
 (a65l1 x0 x1 x2 x3 x4 x5 x6 (1)))
set_option maxRecDepth 100000 in
set_option maxHeartbeats 4000000 in
theorem e65l1 (m : Nat) (x0 x1 x2 : Int) (x3 x4 x5 x6 : List (List Int)) : evC Try.prog ext T31 L65_1 200 (loopN Try.f65 1) (loopTail ([1, 3, 61, 62, 63], []) [1, 2, 3] [] (sumK 129 [1, 3, 61, 62, 63] [1, 2, 3] (q65l1 m))) (frameOf 129 [1, 3, 61, 62, 63] [.pointer (some ⟨0, 0, some 0⟩), .int .i64 x0, wsl 1, .int .i64 x1, .int .i64 x2]) ⟨[⟨true, (some (.cells [wsl 2, wsl 3, wsl 1, wsl 4]))⟩, ⟨true, (some (.tab sc0 x3))⟩, ⟨true, (some (.tab [.fl .f32] x4))⟩, ⟨true, (some (.tab [.fl .f32] x5))⟩, ⟨true, (some (.tab sc1 x6))⟩], 5, []⟩ = firstT ([((Nat.beq (r65l1 (m + 1) x0 x1 x2 x3 x4 x5 x6) 0), .ret, [.pointer (some ⟨0, 0, some 0⟩), .bool false, .int .i64 x0], ⟨[⟨true, (some (.cells [wsl 2, wsl 3, wsl 1, wsl 4]))⟩, ⟨true, (some (.tab sc0 x3))⟩, ⟨true, (some (.tab [.fl .f32] x4))⟩, ⟨true, (some (.tab [.fl .f32] x5))⟩, ⟨true, (some (.tab sc1 x6))⟩], 5, []⟩), ((Nat.beq (r65l1 (m + 1) x0 x1 x2 x3 x4 x5 x6) 1), .exit 2, [.pointer (some ⟨0, 0, some 0⟩), anyV, .int .i64 x0], ⟨[⟨true, (some (.cells [wsl 2, wsl 3, wsl 1, wsl 4]))⟩, ⟨true, (some (.tab sc0 x3))⟩, ⟨true, (some (.tab [.fl .f32] x4))⟩, ⟨true, (some (.tab [.fl .f32] x5))⟩, ⟨true, (some (.tab sc1 x6))⟩], 5, []⟩)].map fun (b, x) => (b, (x.1, frameOf 129 [1, 2, 3] x.2.1, x.2.2))) :=
 (show evC Try.prog ext T31 L65_1 200 (loopN Try.f65 1) (loopTail ([1, 3, 61, 62, 63], []) [1, 2, 3] [] (sumK 129 [1, 3, 61, 62, 63] [1, 2, 3] (q65l1 m))) (frameOf 129 [1, 3, 61, 62, 63] [.pointer (some ⟨0, 0, some 0⟩), .int .i64 x0, wsl 1, .int .i64 x1, .int .i64 x2]) ⟨[⟨true, (some (.cells [wsl 2, wsl 3, wsl 1, wsl 4]))⟩, ⟨true, (some (.tab sc0 x3))⟩, ⟨true, (some (.tab [.fl .f32] x4))⟩, ⟨true, (some (.tab [.fl .f32] x5))⟩, ⟨true, (some (.tab sc1 x6))⟩], 5, []⟩ = w65l1 (r65l1 m) x0 x1 x2 x3 x4 x5 x6 from by kernel_rfl).trans
 (show w65l1 (r65l1 m) x0 x1 x2 x3 x4 x5 x6 = a65l1 x0 x1 x2 x3 x4 x5 x6 (r65l1 (m + 1) x0 x1 x2 x3 x4 x5 x6) from by unfold w65l1; show _ = a65l1 x0 x1 x2 x3 x4 x5 x6 (b65l1 (r65l1 m) x0 x1 x2 x3 x4 x5 x6); unfold b65l1; exact (cond_both (a65l1 x0 x1 x2 x3 x4 x5 x6) _ (fun h0 => (cond_both (a65l1 x0 x1 x2 x3 x4 x5 x6) _ (fun h1 => (cond_t (ev_and2 h1) (cond_app (a65l1 x0 x1 x2 x3 x4 x5 x6) _ rfl (cond_app (a65l1 x0 x1 x2 x3 x4 x5 x6) _ rfl (cond_app (a65l1 x0 x1 x2 x3 x4 x5 x6) _ rfl (cond_app (a65l1 x0 x1 x2 x3 x4 x5 x6) _ rfl (cond_app (a65l1 x0 x1 x2 x3 x4 x5 x6) _ rfl (cond_app (a65l1 x0 x1 x2 x3 x4 x5 x6) _ rfl (cond_app (a65l1 x0 x1 x2 x3 x4 x5 x6) _ rfl (cond_app (a65l1 x0 x1 x2 x3 x4 x5 x6) _ rfl (v65l1 x0 x1 x2 x3 x4 x5 x6 ((r65l1 m) x0 x1 (IntKind.i64.wrap (x2 + 1)) x3 x4 x5 x6)))))))))))) (fun h1 => rfl))) (fun h0 => rfl)))
set_option maxRecDepth 100000 in
set_option maxHeartbeats 4000000 in
theorem qm65l1 : ∀ m, SumKOk Try.prog (loopN Try.f65 1) 129 [1, 3, 61, 62, 63] [1, 2, 3] (q65l1 m) := by
  intro m
  induction m with
  | zero =>
    intro vals s x h1 h2 h3
    unfold q65l1 at h3; split at h3
    · rename_i h; split at h3
      · rename_i hc; obtain ⟨rfl, rfl, rfl, rfl, rfl, rfl, rfl, rfl⟩ := hc; exact absurd h3 (by simp [r65l1, firstT, Nat.beq])
      · exact noQ_ok _ _ _ h1 h2 h3
    · exact noQ_ok _ _ _ h1 h2 h3
  | succ m ih =>
    intro vals s x h1 h2 h3
    unfold q65l1 at h3; split at h3
    · rename_i h; split at h3
      · rename_i hc; obtain ⟨rfl, rfl, rfl, rfl, rfl, rfl, rfl, rfl⟩ := hc; exact sum_step ok31 extOk mixed (lok65_1.inner (by kernel_rfl)) ih h1 h2 h (e65l1 m _ _ _ _ _ _ _) rfl h3
      · exact noQ_ok _ _ _ h1 h2 h3
    · exact noQ_ok _ _ _ h1 h2 h3
noncomputable def Q65l1 : SumK := fun vals s => q65l1 (fuelOf vals s.h) vals s
theorem qok65l1 : SumKOk Try.prog (loopN Try.f65 1) 129 [1, 3, 61, 62, 63] [1, 2, 3] Q65l1 := fuel_ok qm65l1 fuelOf
noncomputable def L65_2 : LoopT := addL L65_1 12 ([1, 3, 61, 62, 63], []) (sumK 129 [1, 3, 61, 62, 63] [1, 2, 3] Q65l1)
theorem lok65_2 : LfOkF Try.prog L65_2 Try.f65 := lfOkF_add lok65_1 qok65l1 (by kernel_rfl) (by kernel_rfl) (by kernel_rfl)

/-- impl.isUpTo -/
noncomputable def r67 (x0 x1 : Nat) : Bool :=
 cond (r111 x0)
  ((flt .f32 x0 x1 || feq .f32 x0 x1))
  (false)
noncomputable def a67 (x0 x1 : Nat) (p : Bool) : Res := firstT [(true, .bool p, st0)]
noncomputable def w67 (x0 x1 : Nat) : Res :=
 (cond (r111 x0)
 (a67 x0 x1 ((flt .f32 x0 x1 || feq .f32 x0 x1)))
 (a67 x0 x1 (false)))
set_option maxRecDepth 100000 in
set_option maxHeartbeats 4000000 in
theorem e67 (x0 x1 : Nat) : evFn Try.prog ext T31 noL 200 Try.f67 [.float .f32 x0, .float .f32 x1] st0 = firstT [(true, .bool (r67 x0 x1), st0)] :=
 (show evFn Try.prog ext T31 noL 200 Try.f67 [.float .f32 x0, .float .f32 x1] st0 = w67 x0 x1 from by kernel_rfl).trans
 (show w67 x0 x1 = a67 x0 x1 (r67 x0 x1) from by unfold w67 r67; exact (cond_app (a67 x0 x1) _ rfl rfl))
noncomputable def s67 (args : List Value) (s : St) : List (Bool × Value × St) :=
 match args, s.h with
 | [.float .f32 x0, .float .f32 x1], [] => [(true, .bool (r67 x0 x1), st0)]
 | _, _ => T31 67 args s
noncomputable def T32 : CallF := addF T31 67 s67
set_option maxRecDepth 100000 in
set_option maxHeartbeats 4000000 in
theorem ok32 : CfOk Try.prog T32 := by
  refine cfOk_add ok31 fun args s r s' h1 h2 h3 => ?_
  unfold s67 at h3; split at h3
  · rename_i h; exact callOk ok31 Try.func67 h1 h2 h (lfOkF_no _ _).body (e67 _ _) rfl h3
  · exact ok31 _ _ _ _ _ h1 h2 h3

/-- impl.ValidFlat, loop 3: one round -/
noncomputable def b65l3 (ih : Int → Int → Int → List (List Int) → Nat) (x0 x1 x2 : Int) (x3 : List (List Int)) : Nat :=
 cond (decide ((x2 : Int) < x1))
  (cond ((decide ((0 : Int) ≤ x2)) && (Nat.blt (Int.toNat x2) x3.length))
  (cond (!(r114 ((x3.getD (Int.toNat x2) []).getD 0 0) ((x3.getD (Int.toNat x2) []).getD 1 0) x0))
  (0)
  (cond (!(r67 (Int.toNat ((x3.getD (Int.toNat x2) []).getD 2 0)) 1120403456))
  (0)
  (cond (!(r67 (Int.toNat ((x3.getD (Int.toNat x2) []).getD 3 0)) 1092616192))
  (0)
  (ih x0 x1 (IntKind.i64.wrap (x2 + 1)) x3))))
  (2))
  (1)
noncomputable def r65l3 : Nat → Int → Int → Int → List (List Int) → Nat
 | 0 => fun _ _ _ _ => (2)
 | m + 1 => b65l3 (r65l3 m)
noncomputable def a65l3 (x0 x1 x2 : Int) (x3 : List (List Int)) (p : Nat) : Option (Fin' × List Value × St) := firstT ([((Nat.beq p 0), .ret, [.bool false], ⟨[⟨true, (some (.tab sc1 x3))⟩], 1, []⟩), ((Nat.beq p 1), .exit 6, [anyV], ⟨[⟨true, (some (.tab sc1 x3))⟩], 1, []⟩)].map fun (b, x) => (b, (x.1, frameOf 129 [2] x.2.1, x.2.2)))
noncomputable def u65l3 (x0 x1 x2 : Int) (x3 : List (List Int)) (p : Nat) : Option (Fin' × List Value × St) := alts ([((Nat.beq p 0), .ret, [.bool false], ⟨[⟨true, (some (.tab sc1 x3))⟩], 1, []⟩), ((Nat.beq p 1), .exit 6, [anyV], ⟨[⟨true, (some (.tab sc1 x3))⟩], 1, []⟩)].map fun (b, x) => (b, (x.1, frameOf 129 [2] x.2.1, x.2.2))) some
theorem v65l3 (x0 x1 x2 : Int) (x3 : List (List Int)) (p : Nat) : u65l3 x0 x1 x2 x3 p = a65l3 x0 x1 x2 x3 p := alts_first _
noncomputable def q65l3 (m : Nat) : SumK := fun vals s =>
 match vals, s.h with
 | [.int .i64 x0, .iface f0 .nilIface, .int .i64 x1, .int .i64 x2], [⟨true, some (.tab [.int .i64, .int .i64, .fl .f32, .fl .f32] x3)⟩] => if f0 = 0 then [((Nat.beq (r65l3 m x0 x1 x2 x3) 0), .ret, [.bool false], ⟨[⟨true, (some (.tab sc1 x3))⟩], 1, []⟩), ((Nat.beq (r65l3 m x0 x1 x2 x3) 1), .exit 6, [anyV], ⟨[⟨true, (some (.tab sc1 x3))⟩], 1, []⟩)] else noQ vals s
 | _, _ => noQ vals s
noncomputable def w65l3 (ih : Int → Int → Int → List (List Int) → Nat) (x0 x1 x2 : Int) (x3 : List (List Int)) : Option (Fin' × List Value × St) :=
 (cond (decide ((x2 : Int) < x1))
 (cond ((decide ((0 : Int) ≤ x2)) && (Nat.blt (Int.toNat x2) x3.length))
  (cond (Nat.blt (Int.toNat x2) x3.length)
  (cond (!(r114 ((x3.getD (Int.toNat x2) []).getD 0 0) ((x3.getD (Int.toNat x2) []).getD 1 0) x0))
  (a65l3 x0 x1 x2 x3 (0))
  (cond (!(r67 (Int.toNat ((x3.getD (Int.toNat x2) []).getD 2 0)) 1120403456))
  (a65l3 x0 x1 x2 x3 (0))
  (cond (!(r67 (Int.toNat ((x3.getD (Int.toNat x2) []).getD 3 0)) 1092616192))
  (a65l3 x0 x1 x2 x3 (0))
  (u65l3 x0 x1 x2 x3 (ih x0 x1 (IntKind.i64.wrap (x2 + 1)) x3)))))
  none)
  none)
 (a65l3 x0 x1 x2 x3 (1)))
set_option maxRecDepth 100000 in
set_option maxHeartbeats 4000000 in
theorem e65l3 (m : Nat) (x0 x1 x2 : Int) (x3 : List (List Int)) : evC Try.prog ext T32 L65_2 200 (loopN Try.f65 3) (loopTail ([3, 103, 104, 105], []) [2] [] (sumK 129 [3, 103, 104, 105] [2] (q65l3 m))) (frameOf 129 [3, 103, 104, 105] [.int .i64 x0, wsl 0, .int .i64 x1, .int .i64 x2]) ⟨[⟨true, (some (.tab sc1 x3))⟩], 1, []⟩ = firstT ([((Nat.beq (r65l3 (m + 1) x0 x1 x2 x3) 0), .ret, [.bool false], ⟨[⟨true, (some (.tab sc1 x3))⟩], 1, []⟩), ((Nat.beq (r65l3 (m + 1) x0 x1 x2 x3) 1), .exit 6, [anyV], ⟨[⟨true, (some (.tab sc1 x3))⟩], 1, []⟩)].map fun (b, x) => (b, (x.1, frameOf 129 [2] x.2.1, x.2.2))) :=
 (show evC Try.prog ext T32 L65_2 200 (loopN Try.f65 3) (loopTail ([3, 103, 104, 105], []) [2] [] (sumK 129 [3, 103, 104, 105] [2] (q65l3 m))) (frameOf 129 [3, 103, 104, 105] [.int .i64 x0, wsl 0, .int .i64 x1, .int .i64 x2]) ⟨[⟨true, (some (.tab sc1 x3))⟩], 1, []⟩ = w65l3 (r65l3 m) x0 x1 x2 x3 from by kernel_rfl).trans
 (show w65l3 (r65l3 m) x0 x1 x2 x3 = a65l3 x0 x1 x2 x3 (r65l3 (m + 1) x0 x1 x2 x3) from by unfold w65l3; show _ = a65l3 x0 x1 x2 x3 (b65l3 (r65l3 m) x0 x1 x2 x3); unfold b65l3; exact (cond_both (a65l3 x0 x1 x2 x3) _ (fun h0 => (cond_both (a65l3 x0 x1 x2 x3) _ (fun h1 => (cond_t (ev_and2 h1) (cond_app (a65l3 x0 x1 x2 x3) _ rfl (cond_app (a65l3 x0 x1 x2 x3) _ rfl (cond_app (a65l3 x0 x1 x2 x3) _ rfl (v65l3 x0 x1 x2 x3 ((r65l3 m) x0 x1 (IntKind.i64.wrap (x2 + 1)) x3))))))) (fun h1 => rfl))) (fun h0 => rfl)))
set_option maxRecDepth 100000 in
set_option maxHeartbeats 4000000 in
theorem qm65l3 : ∀ m, SumKOk Try.prog (loopN Try.f65 3) 129 [3, 103, 104, 105] [2] (q65l3 m) := by
  intro m
  induction m with
  | zero =>
    intro vals s x h1 h2 h3
    unfold q65l3 at h3; split at h3
    · rename_i h; split at h3
      · rename_i hc; obtain ⟨rfl⟩ := hc; exact absurd h3 (by simp [r65l3, firstT, Nat.beq])
      · exact noQ_ok _ _ _ h1 h2 h3
    · exact noQ_ok _ _ _ h1 h2 h3
  | succ m ih =>
    intro vals s x h1 h2 h3
    unfold q65l3 at h3; split at h3
    · rename_i h; split at h3
      · rename_i hc; obtain ⟨rfl⟩ := hc; exact sum_step ok32 extOk mixed (lok65_2.inner (by kernel_rfl)) ih h1 h2 h (e65l3 m _ _ _ _) rfl h3
      · exact noQ_ok _ _ _ h1 h2 h3
    · exact noQ_ok _ _ _ h1 h2 h3
noncomputable def Q65l3 : SumK := fun vals s => q65l3 (fuelOf vals s.h) vals s
theorem qok65l3 : SumKOk Try.prog (loopN Try.f65 3) 129 [3, 103, 104, 105] [2] Q65l3 := fuel_ok qm65l3 fuelOf
noncomputable def L65_3 : LoopT := addL L65_2 24 ([3, 103, 104, 105], []) (sumK 129 [3, 103, 104, 105] [2] Q65l3)
theorem lok65_3 : LfOkF Try.prog L65_3 Try.f65 := lfOkF_add lok65_2 qok65l3 (by kernel_rfl) (by kernel_rfl) (by kernel_rfl)

/-- impl.ValidFlat -/
noncomputable def r65 (x0 x1 x2 x3 : List (List Int)) : Nat × Bool :=
 let c37 := (r65l0 (1000 + x3.length + x2.length + x1.length + x0.length) ((x0.length : Nat) : Int) ((x0.length : Nat) : Int) 0 x0 x1 x2 x3)
 let c38 := (r65l1 (1000 + x3.length + x1.length + x0.length + x2.length) ((x0.length : Nat) : Int) ((x2.length : Nat) : Int) 0 x2 x0 x1 x3)
 cond (decide ((((x0.length : Nat) : Int) : Int) < 1))
  (0, false)
  (cond (decide ((((x0.length : Nat) : Int) : Int) > 5))
  (0, false)
  (cond ((((x1.length : Nat) : Int) : Int) != ((x0.length : Nat) : Int))
  (0, false)
  (cond (decide ((((x2.length : Nat) : Int) : Int) > 10))
  (0, false)
  (cond (decide ((((x3.length : Nat) : Int) : Int) > 8))
  (0, false)
  (cond (Nat.beq c37 0)
  (0, false)
  (cond (Nat.beq c37 1)
  (cond (Nat.beq c38 0)
  (0, false)
  (cond (Nat.beq c38 1)
  (cond (Nat.beq (r65l3 (1000 + x3.length) ((x0.length : Nat) : Int) ((x3.length : Nat) : Int) 0 x3) 0)
  (0, false)
  (cond (Nat.beq (r65l3 (1000 + x3.length) ((x0.length : Nat) : Int) ((x3.length : Nat) : Int) 0 x3) 1)
  (0, true)
  (1, false)))
  (1, false)))
  (1, false)))))))
noncomputable def a65 (x0 x1 x2 x3 : List (List Int)) (p : Nat × Bool) : Res := firstT [((Nat.beq (p.1) 0), .bool (p.2), ⟨[⟨true, (some (.tab [.fl .f32] x0))⟩, ⟨true, (some (.tab [.fl .f32] x1))⟩, ⟨true, (some (.tab sc0 x2))⟩, ⟨true, (some (.tab sc1 x3))⟩], 4, []⟩)]
noncomputable def w65 (x0 x1 x2 x3 : List (List Int)) : Res :=
 let c37 := (r65l0 (1000 + x3.length + x2.length + x1.length + x0.length) ((x0.length : Nat) : Int) ((x0.length : Nat) : Int) 0 x0 x1 x2 x3)
 let c38 := (r65l1 (1000 + x3.length + x1.length + x0.length + x2.length) ((x0.length : Nat) : Int) ((x2.length : Nat) : Int) 0 x2 x0 x1 x3)
 (cond (decide ((((x0.length : Nat) : Int) : Int) < 1))
 (a65 x0 x1 x2 x3 (0, false))
 (cond (decide ((((x0.length : Nat) : Int) : Int) > 5))
  (a65 x0 x1 x2 x3 (0, false))
  (cond ((((x1.length : Nat) : Int) : Int) != ((x0.length : Nat) : Int))
  (a65 x0 x1 x2 x3 (0, false))
  (cond (decide ((((x2.length : Nat) : Int) : Int) > 10))
  (a65 x0 x1 x2 x3 (0, false))
  (cond (decide ((((x3.length : Nat) : Int) : Int) > 8))
  (a65 x0 x1 x2 x3 (0, false))
  (cond (Nat.beq c37 0)
  (a65 x0 x1 x2 x3 (0, false))
  (cond (Nat.beq c37 1)
  (cond (Nat.beq c38 0)
  (a65 x0 x1 x2 x3 (0, false))
  (cond (Nat.beq c38 1)
  (cond (Nat.beq (r65l3 (1000 + x3.length) ((x0.length : Nat) : Int) ((x3.length : Nat) : Int) 0 x3) 0)
  (a65 x0 x1 x2 x3 (0, false))
  (cond (Nat.beq (r65l3 (1000 + x3.length) ((x0.length : Nat) : Int) ((x3.length : Nat) : Int) 0 x3) 1)
  (a65 x0 x1 x2 x3 (0, true))
  none))
  none))
  none)))))))
set_option maxRecDepth 100000 in
set_option maxHeartbeats 4000000 in
theorem e65 (x0 x1 x2 x3 : List (List Int)) : evFn Try.prog ext T32 L65_3 200 Try.f65 [.agg #[wsl 0, wsl 1, wsl 2, wsl 3]] ⟨[⟨true, (some (.tab [.fl .f32] x0))⟩, ⟨true, (some (.tab [.fl .f32] x1))⟩, ⟨true, (some (.tab sc0 x2))⟩, ⟨true, (some (.tab sc1 x3))⟩], 4, []⟩ = firstT [((Nat.beq ((r65 x0 x1 x2 x3).1) 0), .bool ((r65 x0 x1 x2 x3).2), ⟨[⟨true, (some (.tab [.fl .f32] x0))⟩, ⟨true, (some (.tab [.fl .f32] x1))⟩, ⟨true, (some (.tab sc0 x2))⟩, ⟨true, (some (.tab sc1 x3))⟩], 4, []⟩)] :=
 (show evFn Try.prog ext T32 L65_3 200 Try.f65 [.agg #[wsl 0, wsl 1, wsl 2, wsl 3]] ⟨[⟨true, (some (.tab [.fl .f32] x0))⟩, ⟨true, (some (.tab [.fl .f32] x1))⟩, ⟨true, (some (.tab sc0 x2))⟩, ⟨true, (some (.tab sc1 x3))⟩], 4, []⟩ = w65 x0 x1 x2 x3 from by kernel_rfl).trans
 (show w65 x0 x1 x2 x3 = a65 x0 x1 x2 x3 (r65 x0 x1 x2 x3) from by unfold w65 r65; exact (cond_app (a65 x0 x1 x2 x3) _ rfl (cond_app (a65 x0 x1 x2 x3) _ rfl (cond_app (a65 x0 x1 x2 x3) _ rfl (cond_app (a65 x0 x1 x2 x3) _ rfl (cond_app (a65 x0 x1 x2 x3) _ rfl (cond_app (a65 x0 x1 x2 x3) _ rfl (cond_app (a65 x0 x1 x2 x3) _ (cond_app (a65 x0 x1 x2 x3) _ rfl (cond_app (a65 x0 x1 x2 x3) _ (cond_app (a65 x0 x1 x2 x3) _ rfl (cond_app (a65 x0 x1 x2 x3) _ rfl rfl)) rfl)) rfl))))))))
noncomputable def s65 (args : List Value) (s : St) : List (Bool × Value × St) :=
 match args, s.h with
 | [.agg ⟨[.iface f0 .nilIface, .iface f1 .nilIface, .iface f2 .nilIface, .iface f3 .nilIface]⟩], [⟨true, some (.tab [.fl .f32] x0)⟩, ⟨true, some (.tab [.fl .f32] x1)⟩, ⟨true, some (.tab [.int .i64, .int .i64, .fl .f32, .fl .f32, .fl .f32, .fl .f32, .fl .f32, .fl .f32] x2)⟩, ⟨true, some (.tab [.int .i64, .int .i64, .fl .f32, .fl .f32] x3)⟩] => if f0 = 0 ∧ f1 = 1 ∧ f2 = 2 ∧ f3 = 3 then [((Nat.beq ((r65 x0 x1 x2 x3).1) 0), .bool ((r65 x0 x1 x2 x3).2), ⟨[⟨true, (some (.tab [.fl .f32] x0))⟩, ⟨true, (some (.tab [.fl .f32] x1))⟩, ⟨true, (some (.tab sc0 x2))⟩, ⟨true, (some (.tab sc1 x3))⟩], 4, []⟩)] else T32 65 args s
 | _, _ => T32 65 args s
noncomputable def T33 : CallF := addF T32 65 s65
set_option maxRecDepth 100000 in
set_option maxHeartbeats 4000000 in
theorem ok33 : CfOk Try.prog T33 := by
  refine cfOk_add ok32 fun args s r s' h1 h2 h3 => ?_
  unfold s65 at h3; split at h3
  · rename_i h; split at h3
    · rename_i hc; obtain ⟨rfl, rfl, rfl, rfl⟩ := hc; exact callOk ok32 Try.func65 h1 h2 h lok65_3.body (e65 _ _ _ _) rfl h3
    · exact ok32 _ _ _ _ _ h1 h2 h3
  · exact ok32 _ _ _ _ _ h1 h2 h3

/-- impl.ownFlat -/
noncomputable def r73 (x0 x1 x2 x3 : List (List Int)) : Nat × List (List Int) × List (List Int) × List (List Int) × List (List Int) :=
 cond (Nat.ble ((0 + x0.length) * 5) 140737488355328)
  (cond (Nat.ble ((0 + x1.length) * 5) 140737488355328)
  (cond (Nat.ble ((0 + x2.length) * 41) 140737488355328)
  (cond (Nat.ble ((0 + x3.length) * 25) 140737488355328)
  (0, (([] : List (List Int)) ++ x0), (([] : List (List Int)) ++ x1), (([] : List (List Int)) ++ x2), (([] : List (List Int)) ++ x3))
  (1, [], [], [], []))
  (1, [], [], [], []))
  (1, [], [], [], []))
  (1, [], [], [], [])
noncomputable def a73 (x0 x1 x2 x3 : List (List Int)) (p : Nat × List (List Int) × List (List Int) × List (List Int) × List (List Int)) : Res := firstT [((Nat.beq (p.1) 0), .agg #[wsl 4, wsl 5, wsl 6, wsl 7], ⟨[⟨true, (some (.tab [.fl .f32] x0))⟩, ⟨true, (some (.tab [.fl .f32] x1))⟩, ⟨true, (some (.tab sc0 x2))⟩, ⟨true, (some (.tab sc1 x3))⟩, ⟨true, (some (.tab [.fl .f32] (p.2.1)))⟩, ⟨true, (some (.tab [.fl .f32] (p.2.2.1)))⟩, ⟨true, (some (.tab sc0 (p.2.2.2.1)))⟩, ⟨true, (some (.tab sc1 (p.2.2.2.2)))⟩], 4, []⟩)]
noncomputable def w73 (x0 x1 x2 x3 : List (List Int)) : Res :=
 (cond (Nat.ble ((0 + x0.length) * 5) 140737488355328)
 (cond (Nat.ble ((0 + x1.length) * 5) 140737488355328)
  (cond (Nat.ble ((0 + x2.length) * 41) 140737488355328)
  (cond (Nat.ble ((0 + x3.length) * 25) 140737488355328)
  (a73 x0 x1 x2 x3 (0, (([] : List (List Int)) ++ x0), (([] : List (List Int)) ++ x1), (([] : List (List Int)) ++ x2), (([] : List (List Int)) ++ x3)))
  none)
  none)
  none)
 none)
set_option maxRecDepth 100000 in
set_option maxHeartbeats 4000000 in
theorem e73 (x0 x1 x2 x3 : List (List Int)) : evFn Try.prog ext T33 noL 200 Try.f73 [.agg #[wsl 0, wsl 1, wsl 2, wsl 3]] ⟨[⟨true, (some (.tab [.fl .f32] x0))⟩, ⟨true, (some (.tab [.fl .f32] x1))⟩, ⟨true, (some (.tab sc0 x2))⟩, ⟨true, (some (.tab sc1 x3))⟩], 4, []⟩ = firstT [((Nat.beq ((r73 x0 x1 x2 x3).1) 0), .agg #[wsl 4, wsl 5, wsl 6, wsl 7], ⟨[⟨true, (some (.tab [.fl .f32] x0))⟩, ⟨true, (some (.tab [.fl .f32] x1))⟩, ⟨true, (some (.tab sc0 x2))⟩, ⟨true, (some (.tab sc1 x3))⟩, ⟨true, (some (.tab [.fl .f32] ((r73 x0 x1 x2 x3).2.1)))⟩, ⟨true, (some (.tab [.fl .f32] ((r73 x0 x1 x2 x3).2.2.1)))⟩, ⟨true, (some (.tab sc0 ((r73 x0 x1 x2 x3).2.2.2.1)))⟩, ⟨true, (some (.tab sc1 ((r73 x0 x1 x2 x3).2.2.2.2)))⟩], 4, []⟩)] :=
 (show evFn Try.prog ext T33 noL 200 Try.f73 [.agg #[wsl 0, wsl 1, wsl 2, wsl 3]] ⟨[⟨true, (some (.tab [.fl .f32] x0))⟩, ⟨true, (some (.tab [.fl .f32] x1))⟩, ⟨true, (some (.tab sc0 x2))⟩, ⟨true, (some (.tab sc1 x3))⟩], 4, []⟩ = w73 x0 x1 x2 x3 from by kernel_rfl).trans
 (show w73 x0 x1 x2 x3 = a73 x0 x1 x2 x3 (r73 x0 x1 x2 x3) from by unfold w73 r73; exact (cond_app (a73 x0 x1 x2 x3) _ (cond_app (a73 x0 x1 x2 x3) _ (cond_app (a73 x0 x1 x2 x3) _ (cond_app (a73 x0 x1 x2 x3) _ rfl rfl) rfl) rfl) rfl))
noncomputable def s73 (args : List Value) (s : St) : List (Bool × Value × St) :=
 match args, s.h with
 | [.agg ⟨[.iface f0 .nilIface, .iface f1 .nilIface, .iface f2 .nilIface, .iface f3 .nilIface]⟩], [⟨true, some (.tab [.fl .f32] x0)⟩, ⟨true, some (.tab [.fl .f32] x1)⟩, ⟨true, some (.tab [.int .i64, .int .i64, .fl .f32, .fl .f32, .fl .f32, .fl .f32, .fl .f32, .fl .f32] x2)⟩, ⟨true, some (.tab [.int .i64, .int .i64, .fl .f32, .fl .f32] x3)⟩] => if f0 = 0 ∧ f1 = 1 ∧ f2 = 2 ∧ f3 = 3 then [((Nat.beq ((r73 x0 x1 x2 x3).1) 0), .agg #[wsl 4, wsl 5, wsl 6, wsl 7], ⟨[⟨true, (some (.tab [.fl .f32] x0))⟩, ⟨true, (some (.tab [.fl .f32] x1))⟩, ⟨true, (some (.tab sc0 x2))⟩, ⟨true, (some (.tab sc1 x3))⟩, ⟨true, (some (.tab [.fl .f32] ((r73 x0 x1 x2 x3).2.1)))⟩, ⟨true, (some (.tab [.fl .f32] ((r73 x0 x1 x2 x3).2.2.1)))⟩, ⟨true, (some (.tab sc0 ((r73 x0 x1 x2 x3).2.2.2.1)))⟩, ⟨true, (some (.tab sc1 ((r73 x0 x1 x2 x3).2.2.2.2)))⟩], 4, []⟩)] else T33 73 args s
 | _, _ => T33 73 args s
noncomputable def T34 : CallF := addF T33 73 s73
set_option maxRecDepth 100000 in
set_option maxHeartbeats 4000000 in
theorem ok34 : CfOk Try.prog T34 := by
  refine cfOk_add ok33 fun args s r s' h1 h2 h3 => ?_
  unfold s73 at h3; split at h3
  · rename_i h; split at h3
    · rename_i hc; obtain ⟨rfl, rfl, rfl, rfl⟩ := hc; exact callOk ok33 Try.func73 h1 h2 h (lfOkF_no _ _).body (e73 _ _ _ _) rfl h3
    · exact ok33 _ _ _ _ _ h1 h2 h3
  · exact ok33 _ _ _ _ _ h1 h2 h3

/-- impl.SetPane -/
noncomputable def r36 (x0 : Int) (x1 : Nat) (x2 x3 x4 x5 : List (List Int)) : Nat × Int × List (List Int) × List (List Int) × List (List Int) × List (List Int) :=
 cond (Nat.beq ((r65 x2 x3 x4 x5).1) 0)
  (cond (!((r65 x2 x3 x4 x5).2))
  (0, 1, [], [], [], [])
  (cond (decide ((x0 : Int) < 0))
  (0, 2, [], [], [], [])
  (cond (decide ((x0 : Int) ≥ ((x5.length : Nat) : Int)))
  (0, 2, [], [], [], [])
  (cond (!(r67 x1 1120403456))
  (0, 2, [], [], [], [])
  (cond (Nat.beq ((r73 x2 x3 x4 x5).1) 0)
  (cond ((decide ((0 : Int) ≤ x0)) && (Nat.blt (Int.toNat x0) (((r73 x2 x3 x4 x5).2.2.2.2).length)))
  (1, 0, ((r73 x2 x3 x4 x5).2.1), ((r73 x2 x3 x4 x5).2.2.1), ((r73 x2 x3 x4 x5).2.2.2.1), (((r73 x2 x3 x4 x5).2.2.2.2).modify (Int.toNat x0) (fun r => spl 4 r 2 [((x1 : Nat) : Int)])))
  (2, 0, [], [], [], []))
  (2, 0, [], [], [], []))))))
  (2, 0, [], [], [], [])
noncomputable def a36 (x0 : Int) (x1 : Nat) (x2 x3 x4 x5 : List (List Int)) (p : Nat × Int × List (List Int) × List (List Int) × List (List Int) × List (List Int)) : Res := firstT [((Nat.beq (p.1) 0), .tuple #[.agg #[.slice none 0 0, .slice none 0 0, .slice none 0 0, .slice none 0 0], .int .i64 (p.2.1)], ⟨[⟨true, (some (.tab [.fl .f32] x2))⟩, ⟨true, (some (.tab [.fl .f32] x3))⟩, ⟨true, (some (.tab sc0 x4))⟩, ⟨true, (some (.tab sc1 x5))⟩], 4, []⟩), ((Nat.beq (p.1) 1), .tuple #[.agg #[wsl 4, wsl 5, wsl 6, wsl 7], .int .i64 0], ⟨[⟨true, (some (.tab [.fl .f32] x2))⟩, ⟨true, (some (.tab [.fl .f32] x3))⟩, ⟨true, (some (.tab sc0 x4))⟩, ⟨true, (some (.tab sc1 x5))⟩, ⟨true, (some (.tab [.fl .f32] (p.2.2.1)))⟩, ⟨true, (some (.tab [.fl .f32] (p.2.2.2.1)))⟩, ⟨true, (some (.tab sc0 (p.2.2.2.2.1)))⟩, ⟨true, (some (.tab sc1 (p.2.2.2.2.2)))⟩], 4, []⟩)]
noncomputable def w36 (x0 : Int) (x1 : Nat) (x2 x3 x4 x5 : List (List Int)) : Res :=
 (cond (Nat.beq ((r65 x2 x3 x4 x5).1) 0)
 (cond (!((r65 x2 x3 x4 x5).2))
  (a36 x0 x1 x2 x3 x4 x5 (0, 1, [], [], [], []))
  (cond (decide ((x0 : Int) < 0))
  (a36 x0 x1 x2 x3 x4 x5 (0, 2, [], [], [], []))
  (cond (decide ((x0 : Int) ≥ ((x5.length : Nat) : Int)))
  (a36 x0 x1 x2 x3 x4 x5 (0, 2, [], [], [], []))
  (cond (!(r67 x1 1120403456))
  (a36 x0 x1 x2 x3 x4 x5 (0, 2, [], [], [], []))
  (cond (Nat.beq ((r73 x2 x3 x4 x5).1) 0)
  (cond ((decide ((0 : Int) ≤ x0)) && (Nat.blt (Int.toNat x0) (((r73 x2 x3 x4 x5).2.2.2.2).length)))
  (cond (Nat.blt (Int.toNat x0) (((r73 x2 x3 x4 x5).2.2.2.2).length))
  (a36 x0 x1 x2 x3 x4 x5 (1, 0, ((r73 x2 x3 x4 x5).2.1), ((r73 x2 x3 x4 x5).2.2.1), ((r73 x2 x3 x4 x5).2.2.2.1), (((r73 x2 x3 x4 x5).2.2.2.2).modify (Int.toNat x0) (fun r => spl 4 r 2 [((x1 : Nat) : Int)]))))
  none)
  none)
  none)))))
 none)
set_option maxRecDepth 100000 in
set_option maxHeartbeats 4000000 in
theorem e36 (x0 : Int) (x1 : Nat) (x2 x3 x4 x5 : List (List Int)) : evFn Try.prog ext T34 noL 200 Try.f36 [.agg #[wsl 0, wsl 1, wsl 2, wsl 3], .int .i64 x0, .float .f32 x1] ⟨[⟨true, (some (.tab [.fl .f32] x2))⟩, ⟨true, (some (.tab [.fl .f32] x3))⟩, ⟨true, (some (.tab sc0 x4))⟩, ⟨true, (some (.tab sc1 x5))⟩], 4, []⟩ = firstT [((Nat.beq ((r36 x0 x1 x2 x3 x4 x5).1) 0), .tuple #[.agg #[.slice none 0 0, .slice none 0 0, .slice none 0 0, .slice none 0 0], .int .i64 ((r36 x0 x1 x2 x3 x4 x5).2.1)], ⟨[⟨true, (some (.tab [.fl .f32] x2))⟩, ⟨true, (some (.tab [.fl .f32] x3))⟩, ⟨true, (some (.tab sc0 x4))⟩, ⟨true, (some (.tab sc1 x5))⟩], 4, []⟩), ((Nat.beq ((r36 x0 x1 x2 x3 x4 x5).1) 1), .tuple #[.agg #[wsl 4, wsl 5, wsl 6, wsl 7], .int .i64 0], ⟨[⟨true, (some (.tab [.fl .f32] x2))⟩, ⟨true, (some (.tab [.fl .f32] x3))⟩, ⟨true, (some (.tab sc0 x4))⟩, ⟨true, (some (.tab sc1 x5))⟩, ⟨true, (some (.tab [.fl .f32] ((r36 x0 x1 x2 x3 x4 x5).2.2.1)))⟩, ⟨true, (some (.tab [.fl .f32] ((r36 x0 x1 x2 x3 x4 x5).2.2.2.1)))⟩, ⟨true, (some (.tab sc0 ((r36 x0 x1 x2 x3 x4 x5).2.2.2.2.1)))⟩, ⟨true, (some (.tab sc1 ((r36 x0 x1 x2 x3 x4 x5).2.2.2.2.2)))⟩], 4, []⟩)] :=
 (show evFn Try.prog ext T34 noL 200 Try.f36 [.agg #[wsl 0, wsl 1, wsl 2, wsl 3], .int .i64 x0, .float .f32 x1] ⟨[⟨true, (some (.tab [.fl .f32] x2))⟩, ⟨true, (some (.tab [.fl .f32] x3))⟩, ⟨true, (some (.tab sc0 x4))⟩, ⟨true, (some (.tab sc1 x5))⟩], 4, []⟩ = w36 x0 x1 x2 x3 x4 x5 from by kernel_rfl).trans
 (show w36 x0 x1 x2 x3 x4 x5 = a36 x0 x1 x2 x3 x4 x5 (r36 x0 x1 x2 x3 x4 x5) from by unfold w36 r36; exact (cond_both (a36 x0 x1 x2 x3 x4 x5) _ (fun h0 => (cond_both (a36 x0 x1 x2 x3 x4 x5) _ (fun h1 => rfl) (fun h1 => (cond_both (a36 x0 x1 x2 x3 x4 x5) _ (fun h2 => rfl) (fun h2 => (cond_both (a36 x0 x1 x2 x3 x4 x5) _ (fun h3 => rfl) (fun h3 => (cond_both (a36 x0 x1 x2 x3 x4 x5) _ (fun h4 => rfl) (fun h4 => (cond_both (a36 x0 x1 x2 x3 x4 x5) _ (fun h5 => (cond_both (a36 x0 x1 x2 x3 x4 x5) _ (fun h6 => (cond_t (ev_and2 h6) rfl)) (fun h6 => rfl))) (fun h5 => rfl))))))))))) (fun h0 => rfl)))
noncomputable def s36 (args : List Value) (s : St) : List (Bool × Value × St) :=
 match args, s.h with
 | [.agg ⟨[.iface f0 .nilIface, .iface f1 .nilIface, .iface f2 .nilIface, .iface f3 .nilIface]⟩, .int .i64 x0, .float .f32 x1], [⟨true, some (.tab [.fl .f32] x2)⟩, ⟨true, some (.tab [.fl .f32] x3)⟩, ⟨true, some (.tab [.int .i64, .int .i64, .fl .f32, .fl .f32, .fl .f32, .fl .f32, .fl .f32, .fl .f32] x4)⟩, ⟨true, some (.tab [.int .i64, .int .i64, .fl .f32, .fl .f32] x5)⟩] => if f0 = 0 ∧ f1 = 1 ∧ f2 = 2 ∧ f3 = 3 then [((Nat.beq ((r36 x0 x1 x2 x3 x4 x5).1) 0), .tuple #[.agg #[.slice none 0 0, .slice none 0 0, .slice none 0 0, .slice none 0 0], .int .i64 ((r36 x0 x1 x2 x3 x4 x5).2.1)], ⟨[⟨true, (some (.tab [.fl .f32] x2))⟩, ⟨true, (some (.tab [.fl .f32] x3))⟩, ⟨true, (some (.tab sc0 x4))⟩, ⟨true, (some (.tab sc1 x5))⟩], 4, []⟩), ((Nat.beq ((r36 x0 x1 x2 x3 x4 x5).1) 1), .tuple #[.agg #[wsl 4, wsl 5, wsl 6, wsl 7], .int .i64 0], ⟨[⟨true, (some (.tab [.fl .f32] x2))⟩, ⟨true, (some (.tab [.fl .f32] x3))⟩, ⟨true, (some (.tab sc0 x4))⟩, ⟨true, (some (.tab sc1 x5))⟩, ⟨true, (some (.tab [.fl .f32] ((r36 x0 x1 x2 x3 x4 x5).2.2.1)))⟩, ⟨true, (some (.tab [.fl .f32] ((r36 x0 x1 x2 x3 x4 x5).2.2.2.1)))⟩, ⟨true, (some (.tab sc0 ((r36 x0 x1 x2 x3 x4 x5).2.2.2.2.1)))⟩, ⟨true, (some (.tab sc1 ((r36 x0 x1 x2 x3 x4 x5).2.2.2.2.2)))⟩], 4, []⟩)] else T34 36 args s
 | _, _ => T34 36 args s
noncomputable def T35 : CallF := addF T34 36 s36
set_option maxRecDepth 100000 in
set_option maxHeartbeats 4000000 in
theorem ok35 : CfOk Try.prog T35 := by
  refine cfOk_add ok34 fun args s r s' h1 h2 h3 => ?_
  unfold s36 at h3; split at h3
  · rename_i h; split at h3
    · rename_i hc; obtain ⟨rfl, rfl, rfl, rfl⟩ := hc; exact callOk ok34 Try.func36 h1 h2 h (lfOkF_no _ _).body (e36 _ _ _ _ _ _) rfl h3
    · exact ok34 _ _ _ _ _ h1 h2 h3
  · exact ok34 _ _ _ _ _ h1 h2 h3

/-- laws.eqFloat32S, loop 0 -/
noncomputable def r31l0 : Unit :=
 ()
noncomputable def a31l0 (p : Unit) : Option (Fin' × List Value × St) := firstT ([(true, .exit 0, [anyV], st0)].map fun (b, x) => (b, (x.1, frameOf 29 [4] x.2.1, x.2.2)))
noncomputable def w31l0 : Option (Fin' × List Value × St) :=
 (a31l0 ())
set_option maxRecDepth 100000 in
set_option maxHeartbeats 4000000 in
theorem e31l0 : evC Try.prog ext T35 noL 200 (loopN Try.f31 0) (loopTail ([0, 1, 5], []) [4] [] (sumK 29 [0, 1, 5] [4] noQ)) (frameOf 29 [0, 1, 5] [.slice none 0 0, .slice none 0 0, .int .i64 0]) ⟨[], 0, []⟩ = firstT ([(true, .exit 0, [anyV], st0)].map fun (b, x) => (b, (x.1, frameOf 29 [4] x.2.1, x.2.2))) :=
 (show evC Try.prog ext T35 noL 200 (loopN Try.f31 0) (loopTail ([0, 1, 5], []) [4] [] (sumK 29 [0, 1, 5] [4] noQ)) (frameOf 29 [0, 1, 5] [.slice none 0 0, .slice none 0 0, .int .i64 0]) ⟨[], 0, []⟩ = w31l0 from by kernel_rfl).trans
 (show w31l0 = a31l0 r31l0 from by unfold w31l0 r31l0; exact rfl)
noncomputable def Q31l0 : SumK := fun vals s =>
 match vals, s.h with
 | [.slice none f0 f1, .slice none f2 f3, .int .i64 f4], [] => if f0 = 0 ∧ f1 = 0 ∧ f2 = 0 ∧ f3 = 0 ∧ f4 = 0 then [(true, .exit 0, [anyV], st0)] else noQ vals s
 | _, _ => noQ vals s
set_option maxRecDepth 100000 in
set_option maxHeartbeats 4000000 in
theorem qok31l0 : SumKOk Try.prog (loopN Try.f31 0) 29 [0, 1, 5] [4] Q31l0 := by
  intro vals s x h1 h2 h3
  unfold Q31l0 at h3; split at h3
  · rename_i h; split at h3
    · rename_i hc; obtain ⟨rfl, rfl, rfl, rfl, rfl⟩ := hc; exact sum_step ok35 extOk mixed ((lfOkF_no _ _).inner (by kernel_rfl)) noQ_ok h1 h2 h (e31l0) rfl h3
    · exact noQ_ok _ _ _ h1 h2 h3
  · exact noQ_ok _ _ _ h1 h2 h3
noncomputable def L31_1 : LoopT := addL noL 5 ([0, 1, 5], []) (sumK 29 [0, 1, 5] [4] Q31l0)
theorem lok31_1 : LfOkF Try.prog L31_1 Try.f31 := lfOkF_add (lfOkF_no _ _) qok31l0 (by kernel_rfl) (by kernel_rfl) (by kernel_rfl)

/-- laws.eqFloat32S -/
noncomputable def r31 : Unit :=
 ()
noncomputable def a31 (p : Unit) : Res := firstT [(true, .bool true, st0)]
noncomputable def w31 : Res :=
 (a31 ())
set_option maxRecDepth 100000 in
set_option maxHeartbeats 4000000 in
theorem e31 : evFn Try.prog ext T35 L31_1 200 Try.f31 [.slice none 0 0, .slice none 0 0] st0 = firstT [(true, .bool true, st0)] :=
 (show evFn Try.prog ext T35 L31_1 200 Try.f31 [.slice none 0 0, .slice none 0 0] st0 = w31 from by kernel_rfl).trans
 (show w31 = a31 r31 from by unfold w31 r31; exact rfl)
noncomputable def s31 (args : List Value) (s : St) : List (Bool × Value × St) :=
 match args, s.h with
 | [.slice none f0 f1, .slice none f2 f3], [] => if f0 = 0 ∧ f1 = 0 ∧ f2 = 0 ∧ f3 = 0 then [(true, .bool true, st0)] else T35 31 args s
 | _, _ => T35 31 args s
noncomputable def T36 : CallF := addF T35 31 s31
set_option maxRecDepth 100000 in
set_option maxHeartbeats 4000000 in
theorem ok36 : CfOk Try.prog T36 := by
  refine cfOk_add ok35 fun args s r s' h1 h2 h3 => ?_
  unfold s31 at h3; split at h3
  · rename_i h; split at h3
    · rename_i hc; obtain ⟨rfl, rfl, rfl, rfl⟩ := hc; exact callOk ok35 Try.func31 h1 h2 h lok31_1.body (e31) rfl h3
    · exact ok35 _ _ _ _ _ h1 h2 h3
  · exact ok35 _ _ _ _ _ h1 h2 h3

/-- laws.eqWallS, loop 0 -/
noncomputable def r81l0 : Unit :=
 ()
noncomputable def a81l0 (p : Unit) : Option (Fin' × List Value × St) := firstT ([(true, .exit 0, [anyV], st0)].map fun (b, x) => (b, (x.1, frameOf 27 [4] x.2.1, x.2.2)))
noncomputable def w81l0 : Option (Fin' × List Value × St) :=
 (a81l0 ())
set_option maxRecDepth 100000 in
set_option maxHeartbeats 4000000 in
theorem e81l0 : evC Try.prog ext T36 noL 200 (loopN Try.f81 0) (loopTail ([0, 1, 5], []) [4] [] (sumK 27 [0, 1, 5] [4] noQ)) (frameOf 27 [0, 1, 5] [.slice none 0 0, .slice none 0 0, .int .i64 0]) ⟨[], 0, []⟩ = firstT ([(true, .exit 0, [anyV], st0)].map fun (b, x) => (b, (x.1, frameOf 27 [4] x.2.1, x.2.2))) :=
 (show evC Try.prog ext T36 noL 200 (loopN Try.f81 0) (loopTail ([0, 1, 5], []) [4] [] (sumK 27 [0, 1, 5] [4] noQ)) (frameOf 27 [0, 1, 5] [.slice none 0 0, .slice none 0 0, .int .i64 0]) ⟨[], 0, []⟩ = w81l0 from by kernel_rfl).trans
 (show w81l0 = a81l0 r81l0 from by unfold w81l0 r81l0; exact rfl)
noncomputable def Q81l0 : SumK := fun vals s =>
 match vals, s.h with
 | [.slice none f0 f1, .slice none f2 f3, .int .i64 f4], [] => if f0 = 0 ∧ f1 = 0 ∧ f2 = 0 ∧ f3 = 0 ∧ f4 = 0 then [(true, .exit 0, [anyV], st0)] else noQ vals s
 | _, _ => noQ vals s
set_option maxRecDepth 100000 in
set_option maxHeartbeats 4000000 in
theorem qok81l0 : SumKOk Try.prog (loopN Try.f81 0) 27 [0, 1, 5] [4] Q81l0 := by
  intro vals s x h1 h2 h3
  unfold Q81l0 at h3; split at h3
  · rename_i h; split at h3
    · rename_i hc; obtain ⟨rfl, rfl, rfl, rfl, rfl⟩ := hc; exact sum_step ok36 extOk mixed ((lfOkF_no _ _).inner (by kernel_rfl)) noQ_ok h1 h2 h (e81l0) rfl h3
    · exact noQ_ok _ _ _ h1 h2 h3
  · exact noQ_ok _ _ _ h1 h2 h3
noncomputable def L81_1 : LoopT := addL noL 5 ([0, 1, 5], []) (sumK 27 [0, 1, 5] [4] Q81l0)
theorem lok81_1 : LfOkF Try.prog L81_1 Try.f81 := lfOkF_add (lfOkF_no _ _) qok81l0 (by kernel_rfl) (by kernel_rfl) (by kernel_rfl)

/-- laws.eqWallS -/
noncomputable def r81 : Unit :=
 ()
noncomputable def a81 (p : Unit) : Res := firstT [(true, .bool true, st0)]
noncomputable def w81 : Res :=
 (a81 ())
set_option maxRecDepth 100000 in
set_option maxHeartbeats 4000000 in
theorem e81 : evFn Try.prog ext T36 L81_1 200 Try.f81 [.slice none 0 0, .slice none 0 0] st0 = firstT [(true, .bool true, st0)] :=
 (show evFn Try.prog ext T36 L81_1 200 Try.f81 [.slice none 0 0, .slice none 0 0] st0 = w81 from by kernel_rfl).trans
 (show w81 = a81 r81 from by unfold w81 r81; exact rfl)
noncomputable def s81 (args : List Value) (s : St) : List (Bool × Value × St) :=
 match args, s.h with
 | [.slice none f0 f1, .slice none f2 f3], [] => if f0 = 0 ∧ f1 = 0 ∧ f2 = 0 ∧ f3 = 0 then [(true, .bool true, st0)] else T36 81 args s
 | _, _ => T36 81 args s
noncomputable def T37 : CallF := addF T36 81 s81
set_option maxRecDepth 100000 in
set_option maxHeartbeats 4000000 in
theorem ok37 : CfOk Try.prog T37 := by
  refine cfOk_add ok36 fun args s r s' h1 h2 h3 => ?_
  unfold s81 at h3; split at h3
  · rename_i h; split at h3
    · rename_i hc; obtain ⟨rfl, rfl, rfl, rfl⟩ := hc; exact callOk ok36 Try.func81 h1 h2 h lok81_1.body (e81) rfl h3
    · exact ok36 _ _ _ _ _ h1 h2 h3
  · exact ok36 _ _ _ _ _ h1 h2 h3

/-- laws.eqPaneS, loop 0 -/
noncomputable def r82l0 : Unit :=
 ()
noncomputable def a82l0 (p : Unit) : Option (Fin' × List Value × St) := firstT ([(true, .exit 0, [anyV], st0)].map fun (b, x) => (b, (x.1, frameOf 27 [4] x.2.1, x.2.2)))
noncomputable def w82l0 : Option (Fin' × List Value × St) :=
 (a82l0 ())
set_option maxRecDepth 100000 in
set_option maxHeartbeats 4000000 in
theorem e82l0 : evC Try.prog ext T37 noL 200 (loopN Try.f82 0) (loopTail ([0, 1, 5], []) [4] [] (sumK 27 [0, 1, 5] [4] noQ)) (frameOf 27 [0, 1, 5] [.slice none 0 0, .slice none 0 0, .int .i64 0]) ⟨[], 0, []⟩ = firstT ([(true, .exit 0, [anyV], st0)].map fun (b, x) => (b, (x.1, frameOf 27 [4] x.2.1, x.2.2))) :=
 (show evC Try.prog ext T37 noL 200 (loopN Try.f82 0) (loopTail ([0, 1, 5], []) [4] [] (sumK 27 [0, 1, 5] [4] noQ)) (frameOf 27 [0, 1, 5] [.slice none 0 0, .slice none 0 0, .int .i64 0]) ⟨[], 0, []⟩ = w82l0 from by kernel_rfl).trans
 (show w82l0 = a82l0 r82l0 from by unfold w82l0 r82l0; exact rfl)
noncomputable def Q82l0 : SumK := fun vals s =>
 match vals, s.h with
 | [.slice none f0 f1, .slice none f2 f3, .int .i64 f4], [] => if f0 = 0 ∧ f1 = 0 ∧ f2 = 0 ∧ f3 = 0 ∧ f4 = 0 then [(true, .exit 0, [anyV], st0)] else noQ vals s
 | _, _ => noQ vals s
set_option maxRecDepth 100000 in
set_option maxHeartbeats 4000000 in
theorem qok82l0 : SumKOk Try.prog (loopN Try.f82 0) 27 [0, 1, 5] [4] Q82l0 := by
  intro vals s x h1 h2 h3
  unfold Q82l0 at h3; split at h3
  · rename_i h; split at h3
    · rename_i hc; obtain ⟨rfl, rfl, rfl, rfl, rfl⟩ := hc; exact sum_step ok37 extOk mixed ((lfOkF_no _ _).inner (by kernel_rfl)) noQ_ok h1 h2 h (e82l0) rfl h3
    · exact noQ_ok _ _ _ h1 h2 h3
  · exact noQ_ok _ _ _ h1 h2 h3
noncomputable def L82_1 : LoopT := addL noL 5 ([0, 1, 5], []) (sumK 27 [0, 1, 5] [4] Q82l0)
theorem lok82_1 : LfOkF Try.prog L82_1 Try.f82 := lfOkF_add (lfOkF_no _ _) qok82l0 (by kernel_rfl) (by kernel_rfl) (by kernel_rfl)

/-- laws.eqPaneS -/
noncomputable def r82 : Unit :=
 ()
noncomputable def a82 (p : Unit) : Res := firstT [(true, .bool true, st0)]
noncomputable def w82 : Res :=
 (a82 ())
set_option maxRecDepth 100000 in
set_option maxHeartbeats 4000000 in
theorem e82 : evFn Try.prog ext T37 L82_1 200 Try.f82 [.slice none 0 0, .slice none 0 0] st0 = firstT [(true, .bool true, st0)] :=
 (show evFn Try.prog ext T37 L82_1 200 Try.f82 [.slice none 0 0, .slice none 0 0] st0 = w82 from by kernel_rfl).trans
 (show w82 = a82 r82 from by unfold w82 r82; exact rfl)
noncomputable def s82 (args : List Value) (s : St) : List (Bool × Value × St) :=
 match args, s.h with
 | [.slice none f0 f1, .slice none f2 f3], [] => if f0 = 0 ∧ f1 = 0 ∧ f2 = 0 ∧ f3 = 0 then [(true, .bool true, st0)] else T37 82 args s
 | _, _ => T37 82 args s
noncomputable def T38 : CallF := addF T37 82 s82
set_option maxRecDepth 100000 in
set_option maxHeartbeats 4000000 in
theorem ok38 : CfOk Try.prog T38 := by
  refine cfOk_add ok37 fun args s r s' h1 h2 h3 => ?_
  unfold s82 at h3; split at h3
  · rename_i h; split at h3
    · rename_i hc; obtain ⟨rfl, rfl, rfl, rfl⟩ := hc; exact callOk ok37 Try.func82 h1 h2 h lok82_1.body (e82) rfl h3
    · exact ok37 _ _ _ _ _ h1 h2 h3
  · exact ok37 _ _ _ _ _ h1 h2 h3

/-- laws.eqFlat -/
noncomputable def r28 : Unit :=
 ()
noncomputable def a28 (p : Unit) : Res := firstT [(true, .bool true, st0)]
noncomputable def w28 : Res :=
 (a28 ())
set_option maxRecDepth 100000 in
set_option maxHeartbeats 4000000 in
theorem e28 : evFn Try.prog ext T38 noL 200 Try.f28 [.agg #[.slice none 0 0, .slice none 0 0, .slice none 0 0, .slice none 0 0], .agg #[.slice none 0 0, .slice none 0 0, .slice none 0 0, .slice none 0 0]] st0 = firstT [(true, .bool true, st0)] :=
 (show evFn Try.prog ext T38 noL 200 Try.f28 [.agg #[.slice none 0 0, .slice none 0 0, .slice none 0 0, .slice none 0 0], .agg #[.slice none 0 0, .slice none 0 0, .slice none 0 0, .slice none 0 0]] st0 = w28 from by kernel_rfl).trans
 (show w28 = a28 r28 from by unfold w28 r28; exact rfl)
noncomputable def s28 (args : List Value) (s : St) : List (Bool × Value × St) :=
 match args, s.h with
 | [.agg ⟨[.slice none f0 f1, .slice none f2 f3, .slice none f4 f5, .slice none f6 f7]⟩, .agg ⟨[.slice none f8 f9, .slice none f10 f11, .slice none f12 f13, .slice none f14 f15]⟩], [] => if f0 = 0 ∧ f1 = 0 ∧ f2 = 0 ∧ f3 = 0 ∧ f4 = 0 ∧ f5 = 0 ∧ f6 = 0 ∧ f7 = 0 ∧ f8 = 0 ∧ f9 = 0 ∧ f10 = 0 ∧ f11 = 0 ∧ f12 = 0 ∧ f13 = 0 ∧ f14 = 0 ∧ f15 = 0 then [(true, .bool true, st0)] else T38 28 args s
 | _, _ => T38 28 args s
noncomputable def T39 : CallF := addF T38 28 s28
set_option maxRecDepth 100000 in
set_option maxHeartbeats 4000000 in
theorem ok39 : CfOk Try.prog T39 := by
  refine cfOk_add ok38 fun args s r s' h1 h2 h3 => ?_
  unfold s28 at h3; split at h3
  · rename_i h; split at h3
    · rename_i hc; obtain ⟨rfl, rfl, rfl, rfl, rfl, rfl, rfl, rfl, rfl, rfl, rfl, rfl, rfl, rfl, rfl, rfl⟩ := hc; exact callOk ok38 Try.func28 h1 h2 h (lfOkF_no _ _).body (e28) rfl h3
    · exact ok38 _ _ _ _ _ h1 h2 h3
  · exact ok38 _ _ _ _ _ h1 h2 h3

/-- laws.sameFloat -/
noncomputable def r27 (x0 x1 : Nat) : Bool :=
 cond (!feq .f64 x0 x0)
  ((!feq .f64 x1 x1))
  (cond (!feq .f64 x1 x1)
  (false)
  (cond (feq .f64 x0 0)
  (cond (feq .f64 x1 0)
  (((fgt .f64 (fdiv .f64 4607182418800017408 x0) 0) == (fgt .f64 (fdiv .f64 4607182418800017408 x1) 0)))
  ((feq .f64 x0 x1)))
  ((feq .f64 x0 x1))))
noncomputable def a27 (x0 x1 : Nat) (p : Bool) : Res := firstT [(true, .bool p, st0)]
noncomputable def w27 (x0 x1 : Nat) : Res :=
 (cond (!feq .f64 x0 x0)
 (cond (!feq .f64 x0 x0)
  (a27 x0 x1 ((!feq .f64 x1 x1)))
  (some (.bool false, st0)))
 (cond (!feq .f64 x1 x1)
  (cond (!feq .f64 x0 x0)
  (some (.bool (!feq .f64 x1 x1), st0))
  (a27 x0 x1 (false)))
  (cond (feq .f64 x0 0)
  (cond (feq .f64 x1 0)
  (a27 x0 x1 (((fgt .f64 (fdiv .f64 4607182418800017408 x0) 0) == (fgt .f64 (fdiv .f64 4607182418800017408 x1) 0))))
  (a27 x0 x1 ((feq .f64 x0 x1))))
  (a27 x0 x1 ((feq .f64 x0 x1))))))
set_option maxRecDepth 100000 in
set_option maxHeartbeats 4000000 in
theorem e27 (x0 x1 : Nat) : evFn Try.prog ext T39 noL 200 Try.f27 [.float .f64 x0, .float .f64 x1] st0 = firstT [(true, .bool (r27 x0 x1), st0)] :=
 (show evFn Try.prog ext T39 noL 200 Try.f27 [.float .f64 x0, .float .f64 x1] st0 = w27 x0 x1 from by kernel_rfl).trans
 (show w27 x0 x1 = a27 x0 x1 (r27 x0 x1) from by unfold w27 r27; exact (cond_both (a27 x0 x1) _ (fun h0 => (cond_t (ev_not1 (ev_nott h0)) rfl)) (fun h0 => (cond_both (a27 x0 x1) _ (fun h1 => (cond_f (ev_not0 (ev_notf h0)) rfl)) (fun h1 => (cond_app (a27 x0 x1) _ (cond_app (a27 x0 x1) _ rfl rfl) rfl))))))
noncomputable def s27 (args : List Value) (s : St) : List (Bool × Value × St) :=
 match args, s.h with
 | [.float .f64 x0, .float .f64 x1], [] => [(true, .bool (r27 x0 x1), st0)]
 | _, _ => T39 27 args s
noncomputable def T40 : CallF := addF T39 27 s27
set_option maxRecDepth 100000 in
set_option maxHeartbeats 4000000 in
theorem ok40 : CfOk Try.prog T40 := by
  refine cfOk_add ok39 fun args s r s' h1 h2 h3 => ?_
  unfold s27 at h3; split at h3
  · rename_i h; exact callOk ok39 Try.func27 h1 h2 h (lfOkF_no _ _).body (e27 _ _) rfl h3
  · exact ok39 _ _ _ _ _ h1 h2 h3

/-- laws.eqFloat32S, loop 0: one round -/
noncomputable def b31l0b (ih : Int → List (List Int) → List (List Int) → Nat) (x0 : Int) (x1 x2 : List (List Int)) : Nat :=
 let c40 := (r27 (widen (Int.toNat ((x1.getD (Int.toNat x0) []).getD 0 0))) (widen (Int.toNat ((x2.getD (Int.toNat x0) []).getD 0 0))))
 cond (decide ((x0 : Int) < ((x1.length : Nat) : Int)))
  (cond ((decide ((0 : Int) ≤ x0)) && (Nat.blt (Int.toNat x0) x1.length))
  (cond ((decide ((0 : Int) ≤ x0)) && (Nat.blt (Int.toNat x0) x2.length))
  (cond (!c40)
  (0)
  (ih (IntKind.i64.wrap (x0 + 1)) x1 x2))
  (2))
  (2))
  (1)
noncomputable def r31l0b : Nat → Int → List (List Int) → List (List Int) → Nat
 | 0 => fun _ _ _ => (2)
 | m + 1 => b31l0b (r31l0b m)
noncomputable def a31l0b (x0 : Int) (x1 x2 : List (List Int)) (p : Nat) : Option (Fin' × List Value × St) := firstT ([((Nat.beq p 0), .ret, [.bool false], ⟨[⟨true, (some (.tab [.fl .f32] x1))⟩, ⟨true, (some (.tab [.fl .f32] x2))⟩], 2, []⟩), ((Nat.beq p 1), .exit 0, [anyV], ⟨[⟨true, (some (.tab [.fl .f32] x1))⟩, ⟨true, (some (.tab [.fl .f32] x2))⟩], 2, []⟩)].map fun (b, x) => (b, (x.1, frameOf 29 [4] x.2.1, x.2.2)))
noncomputable def u31l0b (x0 : Int) (x1 x2 : List (List Int)) (p : Nat) : Option (Fin' × List Value × St) := alts ([((Nat.beq p 0), .ret, [.bool false], ⟨[⟨true, (some (.tab [.fl .f32] x1))⟩, ⟨true, (some (.tab [.fl .f32] x2))⟩], 2, []⟩), ((Nat.beq p 1), .exit 0, [anyV], ⟨[⟨true, (some (.tab [.fl .f32] x1))⟩, ⟨true, (some (.tab [.fl .f32] x2))⟩], 2, []⟩)].map fun (b, x) => (b, (x.1, frameOf 29 [4] x.2.1, x.2.2))) some
theorem v31l0b (x0 : Int) (x1 x2 : List (List Int)) (p : Nat) : u31l0b x0 x1 x2 p = a31l0b x0 x1 x2 p := alts_first _
noncomputable def q31l0b (m : Nat) : SumK := fun vals s =>
 match vals, s.h with
 | [.iface f0 .nilIface, .iface f1 .nilIface, .int .i64 x0], [⟨true, some (.tab [.fl .f32] x1)⟩, ⟨true, some (.tab [.fl .f32] x2)⟩] => if f0 = 0 ∧ f1 = 1 then [((Nat.beq (r31l0b m x0 x1 x2) 0), .ret, [.bool false], ⟨[⟨true, (some (.tab [.fl .f32] x1))⟩, ⟨true, (some (.tab [.fl .f32] x2))⟩], 2, []⟩), ((Nat.beq (r31l0b m x0 x1 x2) 1), .exit 0, [anyV], ⟨[⟨true, (some (.tab [.fl .f32] x1))⟩, ⟨true, (some (.tab [.fl .f32] x2))⟩], 2, []⟩)] else Q31l0 vals s
 | _, _ => Q31l0 vals s
noncomputable def w31l0b (ih : Int → List (List Int) → List (List Int) → Nat) (x0 : Int) (x1 x2 : List (List Int)) : Option (Fin' × List Value × St) :=
 let c40 := (r27 (widen (Int.toNat ((x1.getD (Int.toNat x0) []).getD 0 0))) (widen (Int.toNat ((x2.getD (Int.toNat x0) []).getD 0 0))))
 (cond (decide ((x0 : Int) < ((x1.length : Nat) : Int)))
 (cond ((decide ((0 : Int) ≤ x0)) && (Nat.blt (Int.toNat x0) x1.length))
  (cond (Nat.blt (Int.toNat x0) x1.length)
  (cond ((decide ((0 : Int) ≤ x0)) && (Nat.blt (Int.toNat x0) x2.length))
  (cond (Nat.blt (Int.toNat x0) x2.length)
  (cond (!c40)
  (a31l0b x0 x1 x2 (0))
  (u31l0b x0 x1 x2 (ih (IntKind.i64.wrap (x0 + 1)) x1 x2)))
  none)
  none)
  none)
  none)
 (a31l0b x0 x1 x2 (1)))
set_option maxRecDepth 100000 in
set_option maxHeartbeats 4000000 in
theorem e31l0b (m : Nat) (x0 : Int) (x1 x2 : List (List Int)) : evC Try.prog ext T40 L31_1 200 (loopN Try.f31 0) (loopTail ([0, 1, 5], []) [4] [] (sumK 29 [0, 1, 5] [4] (q31l0b m))) (frameOf 29 [0, 1, 5] [wsl 0, wsl 1, .int .i64 x0]) ⟨[⟨true, (some (.tab [.fl .f32] x1))⟩, ⟨true, (some (.tab [.fl .f32] x2))⟩], 2, []⟩ = firstT ([((Nat.beq (r31l0b (m + 1) x0 x1 x2) 0), .ret, [.bool false], ⟨[⟨true, (some (.tab [.fl .f32] x1))⟩, ⟨true, (some (.tab [.fl .f32] x2))⟩], 2, []⟩), ((Nat.beq (r31l0b (m + 1) x0 x1 x2) 1), .exit 0, [anyV], ⟨[⟨true, (some (.tab [.fl .f32] x1))⟩, ⟨true, (some (.tab [.fl .f32] x2))⟩], 2, []⟩)].map fun (b, x) => (b, (x.1, frameOf 29 [4] x.2.1, x.2.2))) :=
 (show evC Try.prog ext T40 L31_1 200 (loopN Try.f31 0) (loopTail ([0, 1, 5], []) [4] [] (sumK 29 [0, 1, 5] [4] (q31l0b m))) (frameOf 29 [0, 1, 5] [wsl 0, wsl 1, .int .i64 x0]) ⟨[⟨true, (some (.tab [.fl .f32] x1))⟩, ⟨true, (some (.tab [.fl .f32] x2))⟩], 2, []⟩ = w31l0b (r31l0b m) x0 x1 x2 from by kernel_rfl).trans
 (show w31l0b (r31l0b m) x0 x1 x2 = a31l0b x0 x1 x2 (r31l0b (m + 1) x0 x1 x2) from by unfold w31l0b; show _ = a31l0b x0 x1 x2 (b31l0b (r31l0b m) x0 x1 x2); unfold b31l0b; exact (cond_both (a31l0b x0 x1 x2) _ (fun h0 => (cond_both (a31l0b x0 x1 x2) _ (fun h1 => (cond_t (ev_and2 h1) (cond_both (a31l0b x0 x1 x2) _ (fun h2 => (cond_t (ev_and2 h2) (cond_app (a31l0b x0 x1 x2) _ rfl (v31l0b x0 x1 x2 ((r31l0b m) (IntKind.i64.wrap (x0 + 1)) x1 x2))))) (fun h2 => rfl)))) (fun h1 => rfl))) (fun h0 => rfl)))
set_option maxRecDepth 100000 in
set_option maxHeartbeats 4000000 in
theorem qm31l0b : ∀ m, SumKOk Try.prog (loopN Try.f31 0) 29 [0, 1, 5] [4] (q31l0b m) := by
  intro m
  induction m with
  | zero =>
    intro vals s x h1 h2 h3
    unfold q31l0b at h3; split at h3
    · rename_i h; split at h3
      · rename_i hc; obtain ⟨rfl, rfl⟩ := hc; exact absurd h3 (by simp [r31l0b, firstT, Nat.beq])
      · exact qok31l0 _ _ _ h1 h2 h3
    · exact qok31l0 _ _ _ h1 h2 h3
  | succ m ih =>
    intro vals s x h1 h2 h3
    unfold q31l0b at h3; split at h3
    · rename_i h; split at h3
      · rename_i hc; obtain ⟨rfl, rfl⟩ := hc; exact sum_step ok40 extOk mixed (lok31_1.inner (by kernel_rfl)) ih h1 h2 h (e31l0b m _ _ _) rfl h3
      · exact qok31l0 _ _ _ h1 h2 h3
    · exact qok31l0 _ _ _ h1 h2 h3
noncomputable def Q31l0b : SumK := fun vals s => q31l0b (fuelOf vals s.h) vals s
theorem qok31l0b : SumKOk Try.prog (loopN Try.f31 0) 29 [0, 1, 5] [4] Q31l0b := fuel_ok qm31l0b fuelOf
noncomputable def L31_2 : LoopT := addL L31_1 5 ([0, 1, 5], []) (sumK 29 [0, 1, 5] [4] Q31l0b)
theorem lok31_2 : LfOkF Try.prog L31_2 Try.f31 := lfOkF_add lok31_1 qok31l0b (by kernel_rfl) (by kernel_rfl) (by kernel_rfl)

/-- laws.eqFloat32S -/
noncomputable def r31b (x0 x1 : List (List Int)) : Nat × Bool :=
 cond ((((x0.length : Nat) : Int) : Int) != ((x1.length : Nat) : Int))
  (0, false)
  (cond (Nat.beq (r31l0b (1000 + x1.length + x0.length) 0 x0 x1) 0)
  (0, false)
  (cond (Nat.beq (r31l0b (1000 + x1.length + x0.length) 0 x0 x1) 1)
  (0, true)
  (1, false)))
noncomputable def a31b (x0 x1 : List (List Int)) (p : Nat × Bool) : Res := firstT [((Nat.beq (p.1) 0), .bool (p.2), ⟨[⟨true, (some (.tab [.fl .f32] x0))⟩, ⟨true, (some (.tab [.fl .f32] x1))⟩], 2, []⟩)]
noncomputable def w31b (x0 x1 : List (List Int)) : Res :=
 (cond ((((x0.length : Nat) : Int) : Int) != ((x1.length : Nat) : Int))
 (a31b x0 x1 (0, false))
 (cond (Nat.beq (r31l0b (1000 + x1.length + x0.length) 0 x0 x1) 0)
  (a31b x0 x1 (0, false))
  (cond (Nat.beq (r31l0b (1000 + x1.length + x0.length) 0 x0 x1) 1)
  (a31b x0 x1 (0, true))
  none)))
set_option maxRecDepth 100000 in
set_option maxHeartbeats 4000000 in
theorem e31b (x0 x1 : List (List Int)) : evFn Try.prog ext T40 L31_2 200 Try.f31 [wsl 0, wsl 1] ⟨[⟨true, (some (.tab [.fl .f32] x0))⟩, ⟨true, (some (.tab [.fl .f32] x1))⟩], 2, []⟩ = firstT [((Nat.beq ((r31b x0 x1).1) 0), .bool ((r31b x0 x1).2), ⟨[⟨true, (some (.tab [.fl .f32] x0))⟩, ⟨true, (some (.tab [.fl .f32] x1))⟩], 2, []⟩)] :=
 (show evFn Try.prog ext T40 L31_2 200 Try.f31 [wsl 0, wsl 1] ⟨[⟨true, (some (.tab [.fl .f32] x0))⟩, ⟨true, (some (.tab [.fl .f32] x1))⟩], 2, []⟩ = w31b x0 x1 from by kernel_rfl).trans
 (show w31b x0 x1 = a31b x0 x1 (r31b x0 x1) from by unfold w31b r31b; exact (cond_app (a31b x0 x1) _ rfl (cond_app (a31b x0 x1) _ rfl (cond_app (a31b x0 x1) _ rfl rfl))))
noncomputable def s31b (args : List Value) (s : St) : List (Bool × Value × St) :=
 match args, s.h with
 | [.iface f0 .nilIface, .iface f1 .nilIface], [⟨true, some (.tab [.fl .f32] x0)⟩, ⟨true, some (.tab [.fl .f32] x1)⟩] => if f0 = 0 ∧ f1 = 1 then [((Nat.beq ((r31b x0 x1).1) 0), .bool ((r31b x0 x1).2), ⟨[⟨true, (some (.tab [.fl .f32] x0))⟩, ⟨true, (some (.tab [.fl .f32] x1))⟩], 2, []⟩)] else T40 31 args s
 | _, _ => T40 31 args s
noncomputable def T41 : CallF := addF T40 31 s31b
set_option maxRecDepth 100000 in
set_option maxHeartbeats 4000000 in
theorem ok41 : CfOk Try.prog T41 := by
  refine cfOk_add ok40 fun args s r s' h1 h2 h3 => ?_
  unfold s31b at h3; split at h3
  · rename_i h; split at h3
    · rename_i hc; obtain ⟨rfl, rfl⟩ := hc; exact callOk ok40 Try.func31 h1 h2 h lok31_2.body (e31b _ _) rfl h3
    · exact ok40 _ _ _ _ _ h1 h2 h3
  · exact ok40 _ _ _ _ _ h1 h2 h3

/-- laws.eqFloat32A4 -/
noncomputable def r128 (x0 x1 x2 x3 x4 x5 x6 x7 : Nat) : Bool :=
 cond (!(r27 (widen x0) (widen x4)))
  (false)
  (cond (!(r27 (widen x1) (widen x5)))
  (false)
  (cond (!(r27 (widen x2) (widen x6)))
  (false)
  (cond (!(r27 (widen x3) (widen x7)))
  (false)
  (true))))
noncomputable def a128 (x0 x1 x2 x3 x4 x5 x6 x7 : Nat) (p : Bool) : Res := firstT [(true, .bool p, st0)]
noncomputable def w128 (x0 x1 x2 x3 x4 x5 x6 x7 : Nat) : Res :=
 (cond (!(r27 (widen x0) (widen x4)))
 (a128 x0 x1 x2 x3 x4 x5 x6 x7 (false))
 (cond (!(r27 (widen x1) (widen x5)))
  (a128 x0 x1 x2 x3 x4 x5 x6 x7 (false))
  (cond (!(r27 (widen x2) (widen x6)))
  (a128 x0 x1 x2 x3 x4 x5 x6 x7 (false))
  (cond (!(r27 (widen x3) (widen x7)))
  (a128 x0 x1 x2 x3 x4 x5 x6 x7 (false))
  (a128 x0 x1 x2 x3 x4 x5 x6 x7 (true))))))
set_option maxRecDepth 100000 in
set_option maxHeartbeats 4000000 in
theorem e128 (x0 x1 x2 x3 x4 x5 x6 x7 : Nat) : evFn Try.prog ext T41 noL 200 Try.f128 [.agg #[.float .f32 x0, .float .f32 x1, .float .f32 x2, .float .f32 x3], .agg #[.float .f32 x4, .float .f32 x5, .float .f32 x6, .float .f32 x7]] st0 = firstT [(true, .bool (r128 x0 x1 x2 x3 x4 x5 x6 x7), st0)] :=
 (show evFn Try.prog ext T41 noL 200 Try.f128 [.agg #[.float .f32 x0, .float .f32 x1, .float .f32 x2, .float .f32 x3], .agg #[.float .f32 x4, .float .f32 x5, .float .f32 x6, .float .f32 x7]] st0 = w128 x0 x1 x2 x3 x4 x5 x6 x7 from by kernel_rfl).trans
 (show w128 x0 x1 x2 x3 x4 x5 x6 x7 = a128 x0 x1 x2 x3 x4 x5 x6 x7 (r128 x0 x1 x2 x3 x4 x5 x6 x7) from by unfold w128 r128; exact (cond_app (a128 x0 x1 x2 x3 x4 x5 x6 x7) _ rfl (cond_app (a128 x0 x1 x2 x3 x4 x5 x6 x7) _ rfl (cond_app (a128 x0 x1 x2 x3 x4 x5 x6 x7) _ rfl (cond_app (a128 x0 x1 x2 x3 x4 x5 x6 x7) _ rfl rfl)))))
noncomputable def s128 (args : List Value) (s : St) : List (Bool × Value × St) :=
 match args, s.h with
 | [.agg ⟨[.float .f32 x0, .float .f32 x1, .float .f32 x2, .float .f32 x3]⟩, .agg ⟨[.float .f32 x4, .float .f32 x5, .float .f32 x6, .float .f32 x7]⟩], [] => [(true, .bool (r128 x0 x1 x2 x3 x4 x5 x6 x7), st0)]
 | _, _ => T41 128 args s
noncomputable def T42 : CallF := addF T41 128 s128
set_option maxRecDepth 100000 in
set_option maxHeartbeats 4000000 in
theorem ok42 : CfOk Try.prog T42 := by
  refine cfOk_add ok41 fun args s r s' h1 h2 h3 => ?_
  unfold s128 at h3; split at h3
  · rename_i h; exact callOk ok41 Try.func128 h1 h2 h (lfOkF_no _ _).body (e128 _ _ _ _ _ _ _ _) rfl h3
  · exact ok41 _ _ _ _ _ h1 h2 h3

/-- laws.eqWall -/
noncomputable def r120 (x0 x1 : Int) (x2 x3 x4 x5 x6 x7 : Nat) (x8 x9 : Int) (x10 x11 x12 x13 x14 x15 : Nat) : Bool :=
 cond ((x0 : Int) != x8)
  (false)
  (cond ((x1 : Int) != x9)
  (false)
  (cond (!(r27 (widen x2) (widen x10)))
  (false)
  (cond (!(r27 (widen x3) (widen x11)))
  (false)
  (cond (!(r128 x4 x5 x6 x7 x12 x13 x14 x15))
  (false)
  (true)))))
noncomputable def a120 (x0 x1 : Int) (x2 x3 x4 x5 x6 x7 : Nat) (x8 x9 : Int) (x10 x11 x12 x13 x14 x15 : Nat) (p : Bool) : Res := firstT [(true, .bool p, st0)]
noncomputable def w120 (x0 x1 : Int) (x2 x3 x4 x5 x6 x7 : Nat) (x8 x9 : Int) (x10 x11 x12 x13 x14 x15 : Nat) : Res :=
 (cond ((x0 : Int) != x8)
 (a120 x0 x1 x2 x3 x4 x5 x6 x7 x8 x9 x10 x11 x12 x13 x14 x15 (false))
 (cond ((x1 : Int) != x9)
  (a120 x0 x1 x2 x3 x4 x5 x6 x7 x8 x9 x10 x11 x12 x13 x14 x15 (false))
  (cond (!(r27 (widen x2) (widen x10)))
  (a120 x0 x1 x2 x3 x4 x5 x6 x7 x8 x9 x10 x11 x12 x13 x14 x15 (false))
  (cond (!(r27 (widen x3) (widen x11)))
  (a120 x0 x1 x2 x3 x4 x5 x6 x7 x8 x9 x10 x11 x12 x13 x14 x15 (false))
  (cond (!(r128 x4 x5 x6 x7 x12 x13 x14 x15))
  (a120 x0 x1 x2 x3 x4 x5 x6 x7 x8 x9 x10 x11 x12 x13 x14 x15 (false))
  (a120 x0 x1 x2 x3 x4 x5 x6 x7 x8 x9 x10 x11 x12 x13 x14 x15 (true)))))))
set_option maxRecDepth 100000 in
set_option maxHeartbeats 4000000 in
theorem e120 (x0 x1 : Int) (x2 x3 x4 x5 x6 x7 : Nat) (x8 x9 : Int) (x10 x11 x12 x13 x14 x15 : Nat) : evFn Try.prog ext T42 noL 200 Try.f120 [.agg #[.int .i64 x0, .int .i64 x1, .float .f32 x2, .float .f32 x3, .float .f32 x4, .float .f32 x5, .float .f32 x6, .float .f32 x7], .agg #[.int .i64 x8, .int .i64 x9, .float .f32 x10, .float .f32 x11, .float .f32 x12, .float .f32 x13, .float .f32 x14, .float .f32 x15]] st0 = firstT [(true, .bool (r120 x0 x1 x2 x3 x4 x5 x6 x7 x8 x9 x10 x11 x12 x13 x14 x15), st0)] :=
 (show evFn Try.prog ext T42 noL 200 Try.f120 [.agg #[.int .i64 x0, .int .i64 x1, .float .f32 x2, .float .f32 x3, .float .f32 x4, .float .f32 x5, .float .f32 x6, .float .f32 x7], .agg #[.int .i64 x8, .int .i64 x9, .float .f32 x10, .float .f32 x11, .float .f32 x12, .float .f32 x13, .float .f32 x14, .float .f32 x15]] st0 = w120 x0 x1 x2 x3 x4 x5 x6 x7 x8 x9 x10 x11 x12 x13 x14 x15 from by kernel_rfl).trans
 (show w120 x0 x1 x2 x3 x4 x5 x6 x7 x8 x9 x10 x11 x12 x13 x14 x15 = a120 x0 x1 x2 x3 x4 x5 x6 x7 x8 x9 x10 x11 x12 x13 x14 x15 (r120 x0 x1 x2 x3 x4 x5 x6 x7 x8 x9 x10 x11 x12 x13 x14 x15) from by unfold w120 r120; exact (cond_app (a120 x0 x1 x2 x3 x4 x5 x6 x7 x8 x9 x10 x11 x12 x13 x14 x15) _ rfl (cond_app (a120 x0 x1 x2 x3 x4 x5 x6 x7 x8 x9 x10 x11 x12 x13 x14 x15) _ rfl (cond_app (a120 x0 x1 x2 x3 x4 x5 x6 x7 x8 x9 x10 x11 x12 x13 x14 x15) _ rfl (cond_app (a120 x0 x1 x2 x3 x4 x5 x6 x7 x8 x9 x10 x11 x12 x13 x14 x15) _ rfl (cond_app (a120 x0 x1 x2 x3 x4 x5 x6 x7 x8 x9 x10 x11 x12 x13 x14 x15) _ rfl rfl))))))
noncomputable def s120 (args : List Value) (s : St) : List (Bool × Value × St) :=
 match args, s.h with
 | [.agg ⟨[.int .i64 x0, .int .i64 x1, .float .f32 x2, .float .f32 x3, .float .f32 x4, .float .f32 x5, .float .f32 x6, .float .f32 x7]⟩, .agg ⟨[.int .i64 x8, .int .i64 x9, .float .f32 x10, .float .f32 x11, .float .f32 x12, .float .f32 x13, .float .f32 x14, .float .f32 x15]⟩], [] => [(true, .bool (r120 x0 x1 x2 x3 x4 x5 x6 x7 x8 x9 x10 x11 x12 x13 x14 x15), st0)]
 | _, _ => T42 120 args s
noncomputable def T43 : CallF := addF T42 120 s120
set_option maxRecDepth 100000 in
set_option maxHeartbeats 4000000 in
theorem ok43 : CfOk Try.prog T43 := by
  refine cfOk_add ok42 fun args s r s' h1 h2 h3 => ?_
  unfold s120 at h3; split at h3
  · rename_i h; exact callOk ok42 Try.func120 h1 h2 h (lfOkF_no _ _).body (e120 _ _ _ _ _ _ _ _ _ _ _ _ _ _ _ _) rfl h3
  · exact ok42 _ _ _ _ _ h1 h2 h3

/-- laws.eqWallS, loop 0: one round -/
noncomputable def b81l0b (ih : Int → List (List Int) → List (List Int) → Nat) (x0 : Int) (x1 x2 : List (List Int)) : Nat :=
 let c57 := (r120 ((x1.getD (Int.toNat x0) []).getD 0 0) ((x1.getD (Int.toNat x0) []).getD 1 0) (Int.toNat ((x1.getD (Int.toNat x0) []).getD 2 0)) (Int.toNat ((x1.getD (Int.toNat x0) []).getD 3 0)) (Int.toNat ((x1.getD (Int.toNat x0) []).getD 4 0)) (Int.toNat ((x1.getD (Int.toNat x0) []).getD 5 0)) (Int.toNat ((x1.getD (Int.toNat x0) []).getD 6 0)) (Int.toNat ((x1.getD (Int.toNat x0) []).getD 7 0)) ((x2.getD (Int.toNat x0) []).getD 0 0) ((x2.getD (Int.toNat x0) []).getD 1 0) (Int.toNat ((x2.getD (Int.toNat x0) []).getD 2 0)) (Int.toNat ((x2.getD (Int.toNat x0) []).getD 3 0)) (Int.toNat ((x2.getD (Int.toNat x0) []).getD 4 0)) (Int.toNat ((x2.getD (Int.toNat x0) []).getD 5 0)) (Int.toNat ((x2.getD (Int.toNat x0) []).getD 6 0)) (Int.toNat ((x2.getD (Int.toNat x0) []).getD 7 0)))
 cond (decide ((x0 : Int) < ((x1.length : Nat) : Int)))
  (cond ((decide ((0 : Int) ≤ x0)) && (Nat.blt (Int.toNat x0) x1.length))
  (cond ((decide ((0 : Int) ≤ x0)) && (Nat.blt (Int.toNat x0) x2.length))
  (cond (!c57)
  (0)
  (ih (IntKind.i64.wrap (x0 + 1)) x1 x2))
  (2))
  (2))
  (1)
noncomputable def r81l0b : Nat → Int → List (List Int) → List (List Int) → Nat
 | 0 => fun _ _ _ => (2)
 | m + 1 => b81l0b (r81l0b m)
noncomputable def a81l0b (x0 : Int) (x1 x2 : List (List Int)) (p : Nat) : Option (Fin' × List Value × St) := firstT ([((Nat.beq p 0), .ret, [.bool false], ⟨[⟨true, (some (.tab sc0 x1))⟩, ⟨true, (some (.tab sc0 x2))⟩], 2, []⟩), ((Nat.beq p 1), .exit 0, [anyV], ⟨[⟨true, (some (.tab sc0 x1))⟩, ⟨true, (some (.tab sc0 x2))⟩], 2, []⟩)].map fun (b, x) => (b, (x.1, frameOf 27 [4] x.2.1, x.2.2)))
noncomputable def u81l0b (x0 : Int) (x1 x2 : List (List Int)) (p : Nat) : Option (Fin' × List Value × St) := alts ([((Nat.beq p 0), .ret, [.bool false], ⟨[⟨true, (some (.tab sc0 x1))⟩, ⟨true, (some (.tab sc0 x2))⟩], 2, []⟩), ((Nat.beq p 1), .exit 0, [anyV], ⟨[⟨true, (some (.tab sc0 x1))⟩, ⟨true, (some (.tab sc0 x2))⟩], 2, []⟩)].map fun (b, x) => (b, (x.1, frameOf 27 [4] x.2.1, x.2.2))) some
theorem v81l0b (x0 : Int) (x1 x2 : List (List Int)) (p : Nat) : u81l0b x0 x1 x2 p = a81l0b x0 x1 x2 p := alts_first _
noncomputable def q81l0b (m : Nat) : SumK := fun vals s =>
 match vals, s.h with
 | [.iface f0 .nilIface, .iface f1 .nilIface, .int .i64 x0], [⟨true, some (.tab [.int .i64, .int .i64, .fl .f32, .fl .f32, .fl .f32, .fl .f32, .fl .f32, .fl .f32] x1)⟩, ⟨true, some (.tab [.int .i64, .int .i64, .fl .f32, .fl .f32, .fl .f32, .fl .f32, .fl .f32, .fl .f32] x2)⟩] => if f0 = 0 ∧ f1 = 1 then [((Nat.beq (r81l0b m x0 x1 x2) 0), .ret, [.bool false], ⟨[⟨true, (some (.tab sc0 x1))⟩, ⟨true, (some (.tab sc0 x2))⟩], 2, []⟩), ((Nat.beq (r81l0b m x0 x1 x2) 1), .exit 0, [anyV], ⟨[⟨true, (some (.tab sc0 x1))⟩, ⟨true, (some (.tab sc0 x2))⟩], 2, []⟩)] else Q81l0 vals s
 | _, _ => Q81l0 vals s
noncomputable def w81l0b (ih : Int → List (List Int) → List (List Int) → Nat) (x0 : Int) (x1 x2 : List (List Int)) : Option (Fin' × List Value × St) :=
 let c57 := (r120 ((x1.getD (Int.toNat x0) []).getD 0 0) ((x1.getD (Int.toNat x0) []).getD 1 0) (Int.toNat ((x1.getD (Int.toNat x0) []).getD 2 0)) (Int.toNat ((x1.getD (Int.toNat x0) []).getD 3 0)) (Int.toNat ((x1.getD (Int.toNat x0) []).getD 4 0)) (Int.toNat ((x1.getD (Int.toNat x0) []).getD 5 0)) (Int.toNat ((x1.getD (Int.toNat x0) []).getD 6 0)) (Int.toNat ((x1.getD (Int.toNat x0) []).getD 7 0)) ((x2.getD (Int.toNat x0) []).getD 0 0) ((x2.getD (Int.toNat x0) []).getD 1 0) (Int.toNat ((x2.getD (Int.toNat x0) []).getD 2 0)) (Int.toNat ((x2.getD (Int.toNat x0) []).getD 3 0)) (Int.toNat ((x2.getD (Int.toNat x0) []).getD 4 0)) (Int.toNat ((x2.getD (Int.toNat x0) []).getD 5 0)) (Int.toNat ((x2.getD (Int.toNat x0) []).getD 6 0)) (Int.toNat ((x2.getD (Int.toNat x0) []).getD 7 0)))
 (cond (decide ((x0 : Int) < ((x1.length : Nat) : Int)))
 (cond ((decide ((0 : Int) ≤ x0)) && (Nat.blt (Int.toNat x0) x1.length))
  (cond (Nat.blt (Int.toNat x0) x1.length)
  (cond ((decide ((0 : Int) ≤ x0)) && (Nat.blt (Int.toNat x0) x2.length))
  (cond (Nat.blt (Int.toNat x0) x2.length)
  (cond (!c57)
  (a81l0b x0 x1 x2 (0))
  (u81l0b x0 x1 x2 (ih (IntKind.i64.wrap (x0 + 1)) x1 x2)))
  none)
  none)
  none)
  none)
 (a81l0b x0 x1 x2 (1)))
set_option maxRecDepth 100000 in
set_option maxHeartbeats 4000000 in
theorem e81l0b (m : Nat) (x0 : Int) (x1 x2 : List (List Int)) : evC Try.prog ext T43 L81_1 200 (loopN Try.f81 0) (loopTail ([0, 1, 5], []) [4] [] (sumK 27 [0, 1, 5] [4] (q81l0b m))) (frameOf 27 [0, 1, 5] [wsl 0, wsl 1, .int .i64 x0]) ⟨[⟨true, (some (.tab sc0 x1))⟩, ⟨true, (some (.tab sc0 x2))⟩], 2, []⟩ = firstT ([((Nat.beq (r81l0b (m + 1) x0 x1 x2) 0), .ret, [.bool false], ⟨[⟨true, (some (.tab sc0 x1))⟩, ⟨true, (some (.tab sc0 x2))⟩], 2, []⟩), ((Nat.beq (r81l0b (m + 1) x0 x1 x2) 1), .exit 0, [anyV], ⟨[⟨true, (some (.tab sc0 x1))⟩, ⟨true, (some (.tab sc0 x2))⟩], 2, []⟩)].map fun (b, x) => (b, (x.1, frameOf 27 [4] x.2.1, x.2.2))) :=
 (show evC Try.prog ext T43 L81_1 200 (loopN Try.f81 0) (loopTail ([0, 1, 5], []) [4] [] (sumK 27 [0, 1, 5] [4] (q81l0b m))) (frameOf 27 [0, 1, 5] [wsl 0, wsl 1, .int .i64 x0]) ⟨[⟨true, (some (.tab sc0 x1))⟩, ⟨true, (some (.tab sc0 x2))⟩], 2, []⟩ = w81l0b (r81l0b m) x0 x1 x2 from by kernel_rfl).trans
 (show w81l0b (r81l0b m) x0 x1 x2 = a81l0b x0 x1 x2 (r81l0b (m + 1) x0 x1 x2) from by unfold w81l0b; show _ = a81l0b x0 x1 x2 (b81l0b (r81l0b m) x0 x1 x2); unfold b81l0b; exact (cond_both (a81l0b x0 x1 x2) _ (fun h0 => (cond_both (a81l0b x0 x1 x2) _ (fun h1 => (cond_t (ev_and2 h1) (cond_both (a81l0b x0 x1 x2) _ (fun h2 => (cond_t (ev_and2 h2) (cond_app (a81l0b x0 x1 x2) _ rfl (v81l0b x0 x1 x2 ((r81l0b m) (IntKind.i64.wrap (x0 + 1)) x1 x2))))) (fun h2 => rfl)))) (fun h1 => rfl))) (fun h0 => rfl)))
set_option maxRecDepth 100000 in
set_option maxHeartbeats 4000000 in
theorem qm81l0b : ∀ m, SumKOk Try.prog (loopN Try.f81 0) 27 [0, 1, 5] [4] (q81l0b m) := by
  intro m
  induction m with
  | zero =>
    intro vals s x h1 h2 h3
    unfold q81l0b at h3; split at h3
    · rename_i h; split at h3
      · rename_i hc; obtain ⟨rfl, rfl⟩ := hc; exact absurd h3 (by simp [r81l0b, firstT, Nat.beq])
      · exact qok81l0 _ _ _ h1 h2 h3
    · exact qok81l0 _ _ _ h1 h2 h3
  | succ m ih =>
    intro vals s x h1 h2 h3
    unfold q81l0b at h3; split at h3
    · rename_i h; split at h3
      · rename_i hc; obtain ⟨rfl, rfl⟩ := hc; exact sum_step ok43 extOk mixed (lok81_1.inner (by kernel_rfl)) ih h1 h2 h (e81l0b m _ _ _) rfl h3
      · exact qok81l0 _ _ _ h1 h2 h3
    · exact qok81l0 _ _ _ h1 h2 h3
noncomputable def Q81l0b : SumK := fun vals s => q81l0b (fuelOf vals s.h) vals s
theorem qok81l0b : SumKOk Try.prog (loopN Try.f81 0) 27 [0, 1, 5] [4] Q81l0b := fuel_ok qm81l0b fuelOf
noncomputable def L81_2 : LoopT := addL L81_1 5 ([0, 1, 5], []) (sumK 27 [0, 1, 5] [4] Q81l0b)
theorem lok81_2 : LfOkF Try.prog L81_2 Try.f81 := lfOkF_add lok81_1 qok81l0b (by kernel_rfl) (by kernel_rfl) (by kernel_rfl)

/-- laws.eqWallS -/
noncomputable def r81b (x0 x1 : List (List Int)) : Nat × Bool :=
 cond ((((x0.length : Nat) : Int) : Int) != ((x1.length : Nat) : Int))
  (0, false)
  (cond (Nat.beq (r81l0b (1000 + x1.length + x0.length) 0 x0 x1) 0)
  (0, false)
  (cond (Nat.beq (r81l0b (1000 + x1.length + x0.length) 0 x0 x1) 1)
  (0, true)
  (1, false)))
noncomputable def a81b (x0 x1 : List (List Int)) (p : Nat × Bool) : Res := firstT [((Nat.beq (p.1) 0), .bool (p.2), ⟨[⟨true, (some (.tab sc0 x0))⟩, ⟨true, (some (.tab sc0 x1))⟩], 2, []⟩)]
noncomputable def w81b (x0 x1 : List (List Int)) : Res :=
 (cond ((((x0.length : Nat) : Int) : Int) != ((x1.length : Nat) : Int))
 (a81b x0 x1 (0, false))
 (cond (Nat.beq (r81l0b (1000 + x1.length + x0.length) 0 x0 x1) 0)
  (a81b x0 x1 (0, false))
  (cond (Nat.beq (r81l0b (1000 + x1.length + x0.length) 0 x0 x1) 1)
  (a81b x0 x1 (0, true))
  none)))
set_option maxRecDepth 100000 in
set_option maxHeartbeats 4000000 in
theorem e81b (x0 x1 : List (List Int)) : evFn Try.prog ext T43 L81_2 200 Try.f81 [wsl 0, wsl 1] ⟨[⟨true, (some (.tab sc0 x0))⟩, ⟨true, (some (.tab sc0 x1))⟩], 2, []⟩ = firstT [((Nat.beq ((r81b x0 x1).1) 0), .bool ((r81b x0 x1).2), ⟨[⟨true, (some (.tab sc0 x0))⟩, ⟨true, (some (.tab sc0 x1))⟩], 2, []⟩)] :=
 (show evFn Try.prog ext T43 L81_2 200 Try.f81 [wsl 0, wsl 1] ⟨[⟨true, (some (.tab sc0 x0))⟩, ⟨true, (some (.tab sc0 x1))⟩], 2, []⟩ = w81b x0 x1 from by kernel_rfl).trans
 (show w81b x0 x1 = a81b x0 x1 (r81b x0 x1) from by unfold w81b r81b; exact (cond_app (a81b x0 x1) _ rfl (cond_app (a81b x0 x1) _ rfl (cond_app (a81b x0 x1) _ rfl rfl))))
noncomputable def s81b (args : List Value) (s : St) : List (Bool × Value × St) :=
 match args, s.h with
 | [.iface f0 .nilIface, .iface f1 .nilIface], [⟨true, some (.tab [.int .i64, .int .i64, .fl .f32, .fl .f32, .fl .f32, .fl .f32, .fl .f32, .fl .f32] x0)⟩, ⟨true, some (.tab [.int .i64, .int .i64, .fl .f32, .fl .f32, .fl .f32, .fl .f32, .fl .f32, .fl .f32] x1)⟩] => if f0 = 0 ∧ f1 = 1 then [((Nat.beq ((r81b x0 x1).1) 0), .bool ((r81b x0 x1).2), ⟨[⟨true, (some (.tab sc0 x0))⟩, ⟨true, (some (.tab sc0 x1))⟩], 2, []⟩)] else T43 81 args s
 | _, _ => T43 81 args s
noncomputable def T44 : CallF := addF T43 81 s81b
set_option maxRecDepth 100000 in
set_option maxHeartbeats 4000000 in
theorem ok44 : CfOk Try.prog T44 := by
  refine cfOk_add ok43 fun args s r s' h1 h2 h3 => ?_
  unfold s81b at h3; split at h3
  · rename_i h; split at h3
    · rename_i hc; obtain ⟨rfl, rfl⟩ := hc; exact callOk ok43 Try.func81 h1 h2 h lok81_2.body (e81b _ _) rfl h3
    · exact ok43 _ _ _ _ _ h1 h2 h3
  · exact ok43 _ _ _ _ _ h1 h2 h3

/-- laws.eqPane -/
noncomputable def r121 (x0 x1 : Int) (x2 x3 : Nat) (x4 x5 : Int) (x6 x7 : Nat) : Bool :=
 cond ((x0 : Int) != x4)
  (false)
  (cond ((x1 : Int) != x5)
  (false)
  (cond (!(r27 (widen x2) (widen x6)))
  (false)
  (cond (!(r27 (widen x3) (widen x7)))
  (false)
  (true))))
noncomputable def a121 (x0 x1 : Int) (x2 x3 : Nat) (x4 x5 : Int) (x6 x7 : Nat) (p : Bool) : Res := firstT [(true, .bool p, st0)]
noncomputable def w121 (x0 x1 : Int) (x2 x3 : Nat) (x4 x5 : Int) (x6 x7 : Nat) : Res :=
 (cond ((x0 : Int) != x4)
 (a121 x0 x1 x2 x3 x4 x5 x6 x7 (false))
 (cond ((x1 : Int) != x5)
  (a121 x0 x1 x2 x3 x4 x5 x6 x7 (false))
  (cond (!(r27 (widen x2) (widen x6)))
  (a121 x0 x1 x2 x3 x4 x5 x6 x7 (false))
  (cond (!(r27 (widen x3) (widen x7)))
  (a121 x0 x1 x2 x3 x4 x5 x6 x7 (false))
  (a121 x0 x1 x2 x3 x4 x5 x6 x7 (true))))))
set_option maxRecDepth 100000 in
set_option maxHeartbeats 4000000 in
theorem e121 (x0 x1 : Int) (x2 x3 : Nat) (x4 x5 : Int) (x6 x7 : Nat) : evFn Try.prog ext T44 noL 200 Try.f121 [.agg #[.int .i64 x0, .int .i64 x1, .float .f32 x2, .float .f32 x3], .agg #[.int .i64 x4, .int .i64 x5, .float .f32 x6, .float .f32 x7]] st0 = firstT [(true, .bool (r121 x0 x1 x2 x3 x4 x5 x6 x7), st0)] :=
 (show evFn Try.prog ext T44 noL 200 Try.f121 [.agg #[.int .i64 x0, .int .i64 x1, .float .f32 x2, .float .f32 x3], .agg #[.int .i64 x4, .int .i64 x5, .float .f32 x6, .float .f32 x7]] st0 = w121 x0 x1 x2 x3 x4 x5 x6 x7 from by kernel_rfl).trans
 (show w121 x0 x1 x2 x3 x4 x5 x6 x7 = a121 x0 x1 x2 x3 x4 x5 x6 x7 (r121 x0 x1 x2 x3 x4 x5 x6 x7) from by unfold w121 r121; exact (cond_app (a121 x0 x1 x2 x3 x4 x5 x6 x7) _ rfl (cond_app (a121 x0 x1 x2 x3 x4 x5 x6 x7) _ rfl (cond_app (a121 x0 x1 x2 x3 x4 x5 x6 x7) _ rfl (cond_app (a121 x0 x1 x2 x3 x4 x5 x6 x7) _ rfl rfl)))))
noncomputable def s121 (args : List Value) (s : St) : List (Bool × Value × St) :=
 match args, s.h with
 | [.agg ⟨[.int .i64 x0, .int .i64 x1, .float .f32 x2, .float .f32 x3]⟩, .agg ⟨[.int .i64 x4, .int .i64 x5, .float .f32 x6, .float .f32 x7]⟩], [] => [(true, .bool (r121 x0 x1 x2 x3 x4 x5 x6 x7), st0)]
 | _, _ => T44 121 args s
noncomputable def T45 : CallF := addF T44 121 s121
set_option maxRecDepth 100000 in
set_option maxHeartbeats 4000000 in
theorem ok45 : CfOk Try.prog T45 := by
  refine cfOk_add ok44 fun args s r s' h1 h2 h3 => ?_
  unfold s121 at h3; split at h3
  · rename_i h; exact callOk ok44 Try.func121 h1 h2 h (lfOkF_no _ _).body (e121 _ _ _ _ _ _ _ _) rfl h3
  · exact ok44 _ _ _ _ _ h1 h2 h3

/-- laws.eqPaneS, loop 0: one round -/
noncomputable def b82l0b (ih : Int → List (List Int) → List (List Int) → Nat) (x0 : Int) (x1 x2 : List (List Int)) : Nat :=
 let c74 := (r121 ((x1.getD (Int.toNat x0) []).getD 0 0) ((x1.getD (Int.toNat x0) []).getD 1 0) (Int.toNat ((x1.getD (Int.toNat x0) []).getD 2 0)) (Int.toNat ((x1.getD (Int.toNat x0) []).getD 3 0)) ((x2.getD (Int.toNat x0) []).getD 0 0) ((x2.getD (Int.toNat x0) []).getD 1 0) (Int.toNat ((x2.getD (Int.toNat x0) []).getD 2 0)) (Int.toNat ((x2.getD (Int.toNat x0) []).getD 3 0)))
 cond (decide ((x0 : Int) < ((x1.length : Nat) : Int)))
  (cond ((decide ((0 : Int) ≤ x0)) && (Nat.blt (Int.toNat x0) x1.length))
  (cond ((decide ((0 : Int) ≤ x0)) && (Nat.blt (Int.toNat x0) x2.length))
  (cond (!c74)
  (0)
  (ih (IntKind.i64.wrap (x0 + 1)) x1 x2))
  (2))
  (2))
  (1)
noncomputable def r82l0b : Nat → Int → List (List Int) → List (List Int) → Nat
 | 0 => fun _ _ _ => (2)
 | m + 1 => b82l0b (r82l0b m)
noncomputable def a82l0b (x0 : Int) (x1 x2 : List (List Int)) (p : Nat) : Option (Fin' × List Value × St) := firstT ([((Nat.beq p 0), .ret, [.bool false], ⟨[⟨true, (some (.tab sc1 x1))⟩, ⟨true, (some (.tab sc1 x2))⟩], 2, []⟩), ((Nat.beq p 1), .exit 0, [anyV], ⟨[⟨true, (some (.tab sc1 x1))⟩, ⟨true, (some (.tab sc1 x2))⟩], 2, []⟩)].map fun (b, x) => (b, (x.1, frameOf 27 [4] x.2.1, x.2.2)))
noncomputable def u82l0b (x0 : Int) (x1 x2 : List (List Int)) (p : Nat) : Option (Fin' × List Value × St) := alts ([((Nat.beq p 0), .ret, [.bool false], ⟨[⟨true, (some (.tab sc1 x1))⟩, ⟨true, (some (.tab sc1 x2))⟩], 2, []⟩), ((Nat.beq p 1), .exit 0, [anyV], ⟨[⟨true, (some (.tab sc1 x1))⟩, ⟨true, (some (.tab sc1 x2))⟩], 2, []⟩)].map fun (b, x) => (b, (x.1, frameOf 27 [4] x.2.1, x.2.2))) some
theorem v82l0b (x0 : Int) (x1 x2 : List (List Int)) (p : Nat) : u82l0b x0 x1 x2 p = a82l0b x0 x1 x2 p := alts_first _
noncomputable def q82l0b (m : Nat) : SumK := fun vals s =>
 match vals, s.h with
 | [.iface f0 .nilIface, .iface f1 .nilIface, .int .i64 x0], [⟨true, some (.tab [.int .i64, .int .i64, .fl .f32, .fl .f32] x1)⟩, ⟨true, some (.tab [.int .i64, .int .i64, .fl .f32, .fl .f32] x2)⟩] => if f0 = 0 ∧ f1 = 1 then [((Nat.beq (r82l0b m x0 x1 x2) 0), .ret, [.bool false], ⟨[⟨true, (some (.tab sc1 x1))⟩, ⟨true, (some (.tab sc1 x2))⟩], 2, []⟩), ((Nat.beq (r82l0b m x0 x1 x2) 1), .exit 0, [anyV], ⟨[⟨true, (some (.tab sc1 x1))⟩, ⟨true, (some (.tab sc1 x2))⟩], 2, []⟩)] else Q82l0 vals s
 | _, _ => Q82l0 vals s
noncomputable def w82l0b (ih : Int → List (List Int) → List (List Int) → Nat) (x0 : Int) (x1 x2 : List (List Int)) : Option (Fin' × List Value × St) :=
 let c74 := (r121 ((x1.getD (Int.toNat x0) []).getD 0 0) ((x1.getD (Int.toNat x0) []).getD 1 0) (Int.toNat ((x1.getD (Int.toNat x0) []).getD 2 0)) (Int.toNat ((x1.getD (Int.toNat x0) []).getD 3 0)) ((x2.getD (Int.toNat x0) []).getD 0 0) ((x2.getD (Int.toNat x0) []).getD 1 0) (Int.toNat ((x2.getD (Int.toNat x0) []).getD 2 0)) (Int.toNat ((x2.getD (Int.toNat x0) []).getD 3 0)))
 (cond (decide ((x0 : Int) < ((x1.length : Nat) : Int)))
 (cond ((decide ((0 : Int) ≤ x0)) && (Nat.blt (Int.toNat x0) x1.length))
  (cond (Nat.blt (Int.toNat x0) x1.length)
  (cond ((decide ((0 : Int) ≤ x0)) && (Nat.blt (Int.toNat x0) x2.length))
  (cond (Nat.blt (Int.toNat x0) x2.length)
  (cond (!c74)
  (a82l0b x0 x1 x2 (0))
  (u82l0b x0 x1 x2 (ih (IntKind.i64.wrap (x0 + 1)) x1 x2)))
  none)
  none)
  none)
  none)
 (a82l0b x0 x1 x2 (1)))
set_option maxRecDepth 100000 in
set_option maxHeartbeats 4000000 in
theorem e82l0b (m : Nat) (x0 : Int) (x1 x2 : List (List Int)) : evC Try.prog ext T45 L82_1 200 (loopN Try.f82 0) (loopTail ([0, 1, 5], []) [4] [] (sumK 27 [0, 1, 5] [4] (q82l0b m))) (frameOf 27 [0, 1, 5] [wsl 0, wsl 1, .int .i64 x0]) ⟨[⟨true, (some (.tab sc1 x1))⟩, ⟨true, (some (.tab sc1 x2))⟩], 2, []⟩ = firstT ([((Nat.beq (r82l0b (m + 1) x0 x1 x2) 0), .ret, [.bool false], ⟨[⟨true, (some (.tab sc1 x1))⟩, ⟨true, (some (.tab sc1 x2))⟩], 2, []⟩), ((Nat.beq (r82l0b (m + 1) x0 x1 x2) 1), .exit 0, [anyV], ⟨[⟨true, (some (.tab sc1 x1))⟩, ⟨true, (some (.tab sc1 x2))⟩], 2, []⟩)].map fun (b, x) => (b, (x.1, frameOf 27 [4] x.2.1, x.2.2))) :=
 (show evC Try.prog ext T45 L82_1 200 (loopN Try.f82 0) (loopTail ([0, 1, 5], []) [4] [] (sumK 27 [0, 1, 5] [4] (q82l0b m))) (frameOf 27 [0, 1, 5] [wsl 0, wsl 1, .int .i64 x0]) ⟨[⟨true, (some (.tab sc1 x1))⟩, ⟨true, (some (.tab sc1 x2))⟩], 2, []⟩ = w82l0b (r82l0b m) x0 x1 x2 from by kernel_rfl).trans
 (show w82l0b (r82l0b m) x0 x1 x2 = a82l0b x0 x1 x2 (r82l0b (m + 1) x0 x1 x2) from by unfold w82l0b; show _ = a82l0b x0 x1 x2 (b82l0b (r82l0b m) x0 x1 x2); unfold b82l0b; exact (cond_both (a82l0b x0 x1 x2) _ (fun h0 => (cond_both (a82l0b x0 x1 x2) _ (fun h1 => (cond_t (ev_and2 h1) (cond_both (a82l0b x0 x1 x2) _ (fun h2 => (cond_t (ev_and2 h2) (cond_app (a82l0b x0 x1 x2) _ rfl (v82l0b x0 x1 x2 ((r82l0b m) (IntKind.i64.wrap (x0 + 1)) x1 x2))))) (fun h2 => rfl)))) (fun h1 => rfl))) (fun h0 => rfl)))
set_option maxRecDepth 100000 in
set_option maxHeartbeats 4000000 in
theorem qm82l0b : ∀ m, SumKOk Try.prog (loopN Try.f82 0) 27 [0, 1, 5] [4] (q82l0b m) := by
  intro m
  induction m with
  | zero =>
    intro vals s x h1 h2 h3
    unfold q82l0b at h3; split at h3
    · rename_i h; split at h3
      · rename_i hc; obtain ⟨rfl, rfl⟩ := hc; exact absurd h3 (by simp [r82l0b, firstT, Nat.beq])
      · exact qok82l0 _ _ _ h1 h2 h3
    · exact qok82l0 _ _ _ h1 h2 h3
  | succ m ih =>
    intro vals s x h1 h2 h3
    unfold q82l0b at h3; split at h3
    · rename_i h; split at h3
      · rename_i hc; obtain ⟨rfl, rfl⟩ := hc; exact sum_step ok45 extOk mixed (lok82_1.inner (by kernel_rfl)) ih h1 h2 h (e82l0b m _ _ _) rfl h3
      · exact qok82l0 _ _ _ h1 h2 h3
    · exact qok82l0 _ _ _ h1 h2 h3
noncomputable def Q82l0b : SumK := fun vals s => q82l0b (fuelOf vals s.h) vals s
theorem qok82l0b : SumKOk Try.prog (loopN Try.f82 0) 27 [0, 1, 5] [4] Q82l0b := fuel_ok qm82l0b fuelOf
noncomputable def L82_2 : LoopT := addL L82_1 5 ([0, 1, 5], []) (sumK 27 [0, 1, 5] [4] Q82l0b)
theorem lok82_2 : LfOkF Try.prog L82_2 Try.f82 := lfOkF_add lok82_1 qok82l0b (by kernel_rfl) (by kernel_rfl) (by kernel_rfl)

/-- laws.eqPaneS -/
noncomputable def r82b (x0 x1 : List (List Int)) : Nat × Bool :=
 cond ((((x0.length : Nat) : Int) : Int) != ((x1.length : Nat) : Int))
  (0, false)
  (cond (Nat.beq (r82l0b (1000 + x1.length + x0.length) 0 x0 x1) 0)
  (0, false)
  (cond (Nat.beq (r82l0b (1000 + x1.length + x0.length) 0 x0 x1) 1)
  (0, true)
  (1, false)))
noncomputable def a82b (x0 x1 : List (List Int)) (p : Nat × Bool) : Res := firstT [((Nat.beq (p.1) 0), .bool (p.2), ⟨[⟨true, (some (.tab sc1 x0))⟩, ⟨true, (some (.tab sc1 x1))⟩], 2, []⟩)]
noncomputable def w82b (x0 x1 : List (List Int)) : Res :=
 (cond ((((x0.length : Nat) : Int) : Int) != ((x1.length : Nat) : Int))
 (a82b x0 x1 (0, false))
 (cond (Nat.beq (r82l0b (1000 + x1.length + x0.length) 0 x0 x1) 0)
  (a82b x0 x1 (0, false))
  (cond (Nat.beq (r82l0b (1000 + x1.length + x0.length) 0 x0 x1) 1)
  (a82b x0 x1 (0, true))
  none)))
set_option maxRecDepth 100000 in
set_option maxHeartbeats 4000000 in
theorem e82b (x0 x1 : List (List Int)) : evFn Try.prog ext T45 L82_2 200 Try.f82 [wsl 0, wsl 1] ⟨[⟨true, (some (.tab sc1 x0))⟩, ⟨true, (some (.tab sc1 x1))⟩], 2, []⟩ = firstT [((Nat.beq ((r82b x0 x1).1) 0), .bool ((r82b x0 x1).2), ⟨[⟨true, (some (.tab sc1 x0))⟩, ⟨true, (some (.tab sc1 x1))⟩], 2, []⟩)] :=
 (show evFn Try.prog ext T45 L82_2 200 Try.f82 [wsl 0, wsl 1] ⟨[⟨true, (some (.tab sc1 x0))⟩, ⟨true, (some (.tab sc1 x1))⟩], 2, []⟩ = w82b x0 x1 from by kernel_rfl).trans
 (show w82b x0 x1 = a82b x0 x1 (r82b x0 x1) from by unfold w82b r82b; exact (cond_app (a82b x0 x1) _ rfl (cond_app (a82b x0 x1) _ rfl (cond_app (a82b x0 x1) _ rfl rfl))))
noncomputable def s82b (args : List Value) (s : St) : List (Bool × Value × St) :=
 match args, s.h with
 | [.iface f0 .nilIface, .iface f1 .nilIface], [⟨true, some (.tab [.int .i64, .int .i64, .fl .f32, .fl .f32] x0)⟩, ⟨true, some (.tab [.int .i64, .int .i64, .fl .f32, .fl .f32] x1)⟩] => if f0 = 0 ∧ f1 = 1 then [((Nat.beq ((r82b x0 x1).1) 0), .bool ((r82b x0 x1).2), ⟨[⟨true, (some (.tab sc1 x0))⟩, ⟨true, (some (.tab sc1 x1))⟩], 2, []⟩)] else T45 82 args s
 | _, _ => T45 82 args s
noncomputable def T46 : CallF := addF T45 82 s82b
set_option maxRecDepth 100000 in
set_option maxHeartbeats 4000000 in
theorem ok46 : CfOk Try.prog T46 := by
  refine cfOk_add ok45 fun args s r s' h1 h2 h3 => ?_
  unfold s82b at h3; split at h3
  · rename_i h; split at h3
    · rename_i hc; obtain ⟨rfl, rfl⟩ := hc; exact callOk ok45 Try.func82 h1 h2 h lok82_2.body (e82b _ _) rfl h3
    · exact ok45 _ _ _ _ _ h1 h2 h3
  · exact ok45 _ _ _ _ _ h1 h2 h3

/-- laws.eqFlat -/
noncomputable def r28b (x0 x1 x2 x3 x4 x5 x6 x7 : List (List Int)) : Nat × Bool :=
 cond (Nat.beq ((r31b x0 x4).1) 0)
  (cond (!((r31b x0 x4).2))
  (0, false)
  (cond (Nat.beq ((r31b x1 x5).1) 0)
  (cond (!((r31b x1 x5).2))
  (0, false)
  (cond (Nat.beq ((r81b x2 x6).1) 0)
  (cond (!((r81b x2 x6).2))
  (0, false)
  (cond (Nat.beq ((r82b x3 x7).1) 0)
  (cond (!((r82b x3 x7).2))
  (0, false)
  (0, true))
  (1, false)))
  (1, false)))
  (1, false)))
  (1, false)
noncomputable def a28b (x0 x1 x2 x3 x4 x5 x6 x7 : List (List Int)) (p : Nat × Bool) : Res := firstT [((Nat.beq (p.1) 0), .bool (p.2), ⟨[⟨true, (some (.tab [.fl .f32] x0))⟩, ⟨true, (some (.tab [.fl .f32] x1))⟩, ⟨true, (some (.tab sc0 x2))⟩, ⟨true, (some (.tab sc1 x3))⟩, ⟨true, (some (.tab [.fl .f32] x4))⟩, ⟨true, (some (.tab [.fl .f32] x5))⟩, ⟨true, (some (.tab sc0 x6))⟩, ⟨true, (some (.tab sc1 x7))⟩], 8, []⟩)]
noncomputable def w28b (x0 x1 x2 x3 x4 x5 x6 x7 : List (List Int)) : Res :=
 (cond (Nat.beq ((r31b x0 x4).1) 0)
 (cond (!((r31b x0 x4).2))
  (a28b x0 x1 x2 x3 x4 x5 x6 x7 (0, false))
  (cond (Nat.beq ((r31b x1 x5).1) 0)
  (cond (!((r31b x1 x5).2))
  (a28b x0 x1 x2 x3 x4 x5 x6 x7 (0, false))
  (cond (Nat.beq ((r81b x2 x6).1) 0)
  (cond (!((r81b x2 x6).2))
  (a28b x0 x1 x2 x3 x4 x5 x6 x7 (0, false))
  (cond (Nat.beq ((r82b x3 x7).1) 0)
  (cond (!((r82b x3 x7).2))
  (a28b x0 x1 x2 x3 x4 x5 x6 x7 (0, false))
  (a28b x0 x1 x2 x3 x4 x5 x6 x7 (0, true)))
  none))
  none))
  none))
 none)
set_option maxRecDepth 100000 in
set_option maxHeartbeats 4000000 in
theorem e28b (x0 x1 x2 x3 x4 x5 x6 x7 : List (List Int)) : evFn Try.prog ext T46 noL 200 Try.f28 [.agg #[wsl 0, wsl 1, wsl 2, wsl 3], .agg #[wsl 4, wsl 5, wsl 6, wsl 7]] ⟨[⟨true, (some (.tab [.fl .f32] x0))⟩, ⟨true, (some (.tab [.fl .f32] x1))⟩, ⟨true, (some (.tab sc0 x2))⟩, ⟨true, (some (.tab sc1 x3))⟩, ⟨true, (some (.tab [.fl .f32] x4))⟩, ⟨true, (some (.tab [.fl .f32] x5))⟩, ⟨true, (some (.tab sc0 x6))⟩, ⟨true, (some (.tab sc1 x7))⟩], 8, []⟩ = firstT [((Nat.beq ((r28b x0 x1 x2 x3 x4 x5 x6 x7).1) 0), .bool ((r28b x0 x1 x2 x3 x4 x5 x6 x7).2), ⟨[⟨true, (some (.tab [.fl .f32] x0))⟩, ⟨true, (some (.tab [.fl .f32] x1))⟩, ⟨true, (some (.tab sc0 x2))⟩, ⟨true, (some (.tab sc1 x3))⟩, ⟨true, (some (.tab [.fl .f32] x4))⟩, ⟨true, (some (.tab [.fl .f32] x5))⟩, ⟨true, (some (.tab sc0 x6))⟩, ⟨true, (some (.tab sc1 x7))⟩], 8, []⟩)] :=
 (show evFn Try.prog ext T46 noL 200 Try.f28 [.agg #[wsl 0, wsl 1, wsl 2, wsl 3], .agg #[wsl 4, wsl 5, wsl 6, wsl 7]] ⟨[⟨true, (some (.tab [.fl .f32] x0))⟩, ⟨true, (some (.tab [.fl .f32] x1))⟩, ⟨true, (some (.tab sc0 x2))⟩, ⟨true, (some (.tab sc1 x3))⟩, ⟨true, (some (.tab [.fl .f32] x4))⟩, ⟨true, (some (.tab [.fl .f32] x5))⟩, ⟨true, (some (.tab sc0 x6))⟩, ⟨true, (some (.tab sc1 x7))⟩], 8, []⟩ = w28b x0 x1 x2 x3 x4 x5 x6 x7 from by kernel_rfl).trans
 (show w28b x0 x1 x2 x3 x4 x5 x6 x7 = a28b x0 x1 x2 x3 x4 x5 x6 x7 (r28b x0 x1 x2 x3 x4 x5 x6 x7) from by unfold w28b r28b; exact (cond_app (a28b x0 x1 x2 x3 x4 x5 x6 x7) _ (cond_app (a28b x0 x1 x2 x3 x4 x5 x6 x7) _ rfl (cond_app (a28b x0 x1 x2 x3 x4 x5 x6 x7) _ (cond_app (a28b x0 x1 x2 x3 x4 x5 x6 x7) _ rfl (cond_app (a28b x0 x1 x2 x3 x4 x5 x6 x7) _ (cond_app (a28b x0 x1 x2 x3 x4 x5 x6 x7) _ rfl (cond_app (a28b x0 x1 x2 x3 x4 x5 x6 x7) _ (cond_app (a28b x0 x1 x2 x3 x4 x5 x6 x7) _ rfl rfl) rfl)) rfl)) rfl)) rfl))
noncomputable def s28b (args : List Value) (s : St) : List (Bool × Value × St) :=
 match args, s.h with
 | [.agg ⟨[.iface f0 .nilIface, .iface f1 .nilIface, .iface f2 .nilIface, .iface f3 .nilIface]⟩, .agg ⟨[.iface f4 .nilIface, .iface f5 .nilIface, .iface f6 .nilIface, .iface f7 .nilIface]⟩], [⟨true, some (.tab [.fl .f32] x0)⟩, ⟨true, some (.tab [.fl .f32] x1)⟩, ⟨true, some (.tab [.int .i64, .int .i64, .fl .f32, .fl .f32, .fl .f32, .fl .f32, .fl .f32, .fl .f32] x2)⟩, ⟨true, some (.tab [.int .i64, .int .i64, .fl .f32, .fl .f32] x3)⟩, ⟨true, some (.tab [.fl .f32] x4)⟩, ⟨true, some (.tab [.fl .f32] x5)⟩, ⟨true, some (.tab [.int .i64, .int .i64, .fl .f32, .fl .f32, .fl .f32, .fl .f32, .fl .f32, .fl .f32] x6)⟩, ⟨true, some (.tab [.int .i64, .int .i64, .fl .f32, .fl .f32] x7)⟩] => if f0 = 0 ∧ f1 = 1 ∧ f2 = 2 ∧ f3 = 3 ∧ f4 = 4 ∧ f5 = 5 ∧ f6 = 6 ∧ f7 = 7 then [((Nat.beq ((r28b x0 x1 x2 x3 x4 x5 x6 x7).1) 0), .bool ((r28b x0 x1 x2 x3 x4 x5 x6 x7).2), ⟨[⟨true, (some (.tab [.fl .f32] x0))⟩, ⟨true, (some (.tab [.fl .f32] x1))⟩, ⟨true, (some (.tab sc0 x2))⟩, ⟨true, (some (.tab sc1 x3))⟩, ⟨true, (some (.tab [.fl .f32] x4))⟩, ⟨true, (some (.tab [.fl .f32] x5))⟩, ⟨true, (some (.tab sc0 x6))⟩, ⟨true, (some (.tab sc1 x7))⟩], 8, []⟩)] else T46 28 args s
 | _, _ => T46 28 args s
noncomputable def T47 : CallF := addF T46 28 s28b
set_option maxRecDepth 100000 in
set_option maxHeartbeats 4000000 in
theorem ok47 : CfOk Try.prog T47 := by
  refine cfOk_add ok46 fun args s r s' h1 h2 h3 => ?_
  unfold s28b at h3; split at h3
  · rename_i h; split at h3
    · rename_i hc; obtain ⟨rfl, rfl, rfl, rfl, rfl, rfl, rfl, rfl⟩ := hc; exact callOk ok46 Try.func28 h1 h2 h (lfOkF_no _ _).body (e28b _ _ _ _ _ _ _ _) rfl h3
    · exact ok46 _ _ _ _ _ h1 h2 h3
  · exact ok46 _ _ _ _ _ h1 h2 h3

/-- laws.markFloat32S, loop 0: one round -/
noncomputable def b33l0 (ih : Int → Int → List (List Int) → (Nat × Int × List (List Int))) (x0 x1 : Int) (x2 : List (List Int)) : Nat × Int × List (List Int) :=
 cond (decide ((x1 : Int) < ((x2.length : Nat) : Int)))
  (cond ((decide ((0 : Int) ≤ x1)) && (Nat.blt (Int.toNat x1) x2.length))
  (ih (IntKind.i64.wrap (x0 + 1)) (IntKind.i64.wrap (x1 + 1)) (x2.set (Int.toNat x1) [(((ofInt .f32 x0) : Nat) : Int)]))
  (1, 0, []))
  (0, x0, x2)
noncomputable def r33l0 : Nat → Int → Int → List (List Int) → (Nat × Int × List (List Int))
 | 0 => fun _ _ _ => (1, 0, [])
 | m + 1 => b33l0 (r33l0 m)
noncomputable def a33l0 (x0 x1 : Int) (x2 : List (List Int)) (p : Nat × Int × List (List Int)) : Option (Fin' × List Value × St) := firstT ([((Nat.beq (p.1) 0), .exit 0, [.int .i64 (p.2.1)], ⟨[⟨true, (some (.tab [.fl .f32] (p.2.2)))⟩], 1, [0]⟩)].map fun (b, x) => (b, (x.1, frameOf 20 [1] x.2.1, x.2.2)))
noncomputable def u33l0 (x0 x1 : Int) (x2 : List (List Int)) (p : Nat × Int × List (List Int)) : Option (Fin' × List Value × St) := alts ([((Nat.beq (p.1) 0), .exit 0, [.int .i64 (p.2.1)], ⟨[⟨true, (some (.tab [.fl .f32] (p.2.2)))⟩], 1, [0]⟩)].map fun (b, x) => (b, (x.1, frameOf 20 [1] x.2.1, x.2.2))) some
theorem v33l0 (x0 x1 : Int) (x2 : List (List Int)) (p : Nat × Int × List (List Int)) : u33l0 x0 x1 x2 p = a33l0 x0 x1 x2 p := alts_first _
noncomputable def q33l0 (m : Nat) : SumK := fun vals s =>
 match vals, s.h with
 | [.iface f0 .nilIface, .int .i64 x0, .int .i64 x1], [⟨true, some (.tab [.fl .f32] x2)⟩] => if f0 = 0 then [((Nat.beq ((r33l0 m x0 x1 x2).1) 0), .exit 0, [.int .i64 ((r33l0 m x0 x1 x2).2.1)], ⟨[⟨true, (some (.tab [.fl .f32] ((r33l0 m x0 x1 x2).2.2)))⟩], 1, [0]⟩)] else noQ vals s
 | _, _ => noQ vals s
noncomputable def w33l0 (ih : Int → Int → List (List Int) → (Nat × Int × List (List Int))) (x0 x1 : Int) (x2 : List (List Int)) : Option (Fin' × List Value × St) :=
 (cond (decide ((x1 : Int) < ((x2.length : Nat) : Int)))
 (cond ((decide ((0 : Int) ≤ x1)) && (Nat.blt (Int.toNat x1) x2.length))
  (cond (Nat.blt (Int.toNat x1) x2.length)
  (u33l0 x0 x1 x2 (ih (IntKind.i64.wrap (x0 + 1)) (IntKind.i64.wrap (x1 + 1)) (x2.set (Int.toNat x1) [(((ofInt .f32 x0) : Nat) : Int)])))
  none)
  none)
 (a33l0 x0 x1 x2 (0, x0, x2)))
set_option maxRecDepth 100000 in
set_option maxHeartbeats 4000000 in
theorem e33l0 (m : Nat) (x0 x1 : Int) (x2 : List (List Int)) : evC Try.prog ext T47 noL 200 (loopN Try.f33 0) (loopTail ([0, 1, 5], []) [1] [0] (sumK 20 [0, 1, 5] [1] (q33l0 m))) (frameOf 20 [0, 1, 5] [wsl 0, .int .i64 x0, .int .i64 x1]) ⟨[⟨true, (some (.tab [.fl .f32] x2))⟩], 1, []⟩ = firstT ([((Nat.beq ((r33l0 (m + 1) x0 x1 x2).1) 0), .exit 0, [.int .i64 ((r33l0 (m + 1) x0 x1 x2).2.1)], ⟨[⟨true, (some (.tab [.fl .f32] ((r33l0 (m + 1) x0 x1 x2).2.2)))⟩], 1, [0]⟩)].map fun (b, x) => (b, (x.1, frameOf 20 [1] x.2.1, x.2.2))) :=
 (show evC Try.prog ext T47 noL 200 (loopN Try.f33 0) (loopTail ([0, 1, 5], []) [1] [0] (sumK 20 [0, 1, 5] [1] (q33l0 m))) (frameOf 20 [0, 1, 5] [wsl 0, .int .i64 x0, .int .i64 x1]) ⟨[⟨true, (some (.tab [.fl .f32] x2))⟩], 1, []⟩ = w33l0 (r33l0 m) x0 x1 x2 from by kernel_rfl).trans
 (show w33l0 (r33l0 m) x0 x1 x2 = a33l0 x0 x1 x2 (r33l0 (m + 1) x0 x1 x2) from by unfold w33l0; show _ = a33l0 x0 x1 x2 (b33l0 (r33l0 m) x0 x1 x2); unfold b33l0; exact (cond_both (a33l0 x0 x1 x2) _ (fun h0 => (cond_both (a33l0 x0 x1 x2) _ (fun h1 => (cond_t (ev_and2 h1) (v33l0 x0 x1 x2 ((r33l0 m) (IntKind.i64.wrap (x0 + 1)) (IntKind.i64.wrap (x1 + 1)) (x2.set (Int.toNat x1) [(((ofInt .f32 x0) : Nat) : Int)]))))) (fun h1 => rfl))) (fun h0 => rfl)))
set_option maxRecDepth 100000 in
set_option maxHeartbeats 4000000 in
theorem qm33l0 : ∀ m, SumKOk Try.prog (loopN Try.f33 0) 20 [0, 1, 5] [1] (q33l0 m) := by
  intro m
  induction m with
  | zero =>
    intro vals s x h1 h2 h3
    unfold q33l0 at h3; split at h3
    · rename_i h; split at h3
      · rename_i hc; obtain ⟨rfl⟩ := hc; exact absurd h3 (by simp [r33l0, firstT, Nat.beq])
      · exact noQ_ok _ _ _ h1 h2 h3
    · exact noQ_ok _ _ _ h1 h2 h3
  | succ m ih =>
    intro vals s x h1 h2 h3
    unfold q33l0 at h3; split at h3
    · rename_i h; split at h3
      · rename_i hc; obtain ⟨rfl⟩ := hc; exact sum_step ok47 extOk mixed ((lfOkF_no _ _).inner (by kernel_rfl)) ih h1 h2 h (e33l0 m _ _ _) rfl h3
      · exact noQ_ok _ _ _ h1 h2 h3
    · exact noQ_ok _ _ _ h1 h2 h3
noncomputable def Q33l0 : SumK := fun vals s => q33l0 (fuelOf vals s.h) vals s
theorem qok33l0 : SumKOk Try.prog (loopN Try.f33 0) 20 [0, 1, 5] [1] Q33l0 := fuel_ok qm33l0 fuelOf
noncomputable def L33_1 : LoopT := addL noL 3 ([0, 1, 5], []) (sumK 20 [0, 1, 5] [1] Q33l0)
theorem lok33_1 : LfOkF Try.prog L33_1 Try.f33 := lfOkF_add (lfOkF_no _ _) qok33l0 (by kernel_rfl) (by kernel_rfl) (by kernel_rfl)

/-- laws.markFloat32S -/
noncomputable def r33 (x0 : Int) (x1 : List (List Int)) : Nat × Int × List (List Int) :=
 cond (Nat.beq ((r33l0 (1000 + x1.length) x0 0 x1).1) 0)
  (0, ((r33l0 (1000 + x1.length) x0 0 x1).2.1), ((r33l0 (1000 + x1.length) x0 0 x1).2.2))
  (1, 0, [])
noncomputable def a33 (x0 : Int) (x1 : List (List Int)) (p : Nat × Int × List (List Int)) : Res := firstT [((Nat.beq (p.1) 0), .int .i64 (p.2.1), ⟨[⟨true, (some (.tab [.fl .f32] (p.2.2)))⟩], 1, [0]⟩)]
noncomputable def w33 (x0 : Int) (x1 : List (List Int)) : Res :=
 (cond (Nat.beq ((r33l0 (1000 + x1.length) x0 0 x1).1) 0)
 (a33 x0 x1 (0, ((r33l0 (1000 + x1.length) x0 0 x1).2.1), ((r33l0 (1000 + x1.length) x0 0 x1).2.2)))
 none)
set_option maxRecDepth 100000 in
set_option maxHeartbeats 4000000 in
theorem e33 (x0 : Int) (x1 : List (List Int)) : evFn Try.prog ext T47 L33_1 200 Try.f33 [wsl 0, .int .i64 x0] ⟨[⟨true, (some (.tab [.fl .f32] x1))⟩], 1, []⟩ = firstT [((Nat.beq ((r33 x0 x1).1) 0), .int .i64 ((r33 x0 x1).2.1), ⟨[⟨true, (some (.tab [.fl .f32] ((r33 x0 x1).2.2)))⟩], 1, [0]⟩)] :=
 (show evFn Try.prog ext T47 L33_1 200 Try.f33 [wsl 0, .int .i64 x0] ⟨[⟨true, (some (.tab [.fl .f32] x1))⟩], 1, []⟩ = w33 x0 x1 from by kernel_rfl).trans
 (show w33 x0 x1 = a33 x0 x1 (r33 x0 x1) from by unfold w33 r33; exact (cond_app (a33 x0 x1) _ rfl rfl))
noncomputable def s33 (args : List Value) (s : St) : List (Bool × Value × St) :=
 match args, s.h with
 | [.iface f0 .nilIface, .int .i64 x0], [⟨true, some (.tab [.fl .f32] x1)⟩] => if f0 = 0 then [((Nat.beq ((r33 x0 x1).1) 0), .int .i64 ((r33 x0 x1).2.1), ⟨[⟨true, (some (.tab [.fl .f32] ((r33 x0 x1).2.2)))⟩], 1, [0]⟩)] else T47 33 args s
 | _, _ => T47 33 args s
noncomputable def T48 : CallF := addF T47 33 s33
set_option maxRecDepth 100000 in
set_option maxHeartbeats 4000000 in
theorem ok48 : CfOk Try.prog T48 := by
  refine cfOk_add ok47 fun args s r s' h1 h2 h3 => ?_
  unfold s33 at h3; split at h3
  · rename_i h; split at h3
    · rename_i hc; obtain ⟨rfl⟩ := hc; exact callOk ok47 Try.func33 h1 h2 h lok33_1.body (e33 _ _) rfl h3
    · exact ok47 _ _ _ _ _ h1 h2 h3
  · exact ok47 _ _ _ _ _ h1 h2 h3

/-- laws.markWallS, loop 1 -/
noncomputable def r85l1 (x0 x1 : Int) (x2 : List (List Int)) : Unit :=
 ()
noncomputable def a85l1 (x0 x1 : Int) (x2 : List (List Int)) (p : Unit) : Option (Fin' × List Value × St) := firstT ([(true, .exit 2, [wsl 0, .int .i64 x0, .int .i64 x1], ⟨[⟨true, (some (.tab sc0 x2))⟩], 1, []⟩)].map fun (b, x) => (b, (x.1, frameOf 58 [0, 1, 5] x.2.1, x.2.2)))
noncomputable def w85l1 (x0 x1 : Int) (x2 : List (List Int)) : Option (Fin' × List Value × St) :=
 (a85l1 x0 x1 x2 ())
set_option maxRecDepth 100000 in
set_option maxHeartbeats 4000000 in
theorem e85l1 (x0 x1 : Int) (x2 : List (List Int)) : evC Try.prog ext T48 noL 200 (loopN Try.f85 1) (loopTail ([0, 1, 5, 6], []) [0, 1, 5] [] (sumK 58 [0, 1, 5, 6] [0, 1, 5] noQ)) (frameOf 58 [0, 1, 5, 6] [wsl 0, .int .i64 x0, .int .i64 x1, .int .i64 4]) ⟨[⟨true, (some (.tab sc0 x2))⟩], 1, []⟩ = firstT ([(true, .exit 2, [wsl 0, .int .i64 x0, .int .i64 x1], ⟨[⟨true, (some (.tab sc0 x2))⟩], 1, []⟩)].map fun (b, x) => (b, (x.1, frameOf 58 [0, 1, 5] x.2.1, x.2.2))) :=
 (show evC Try.prog ext T48 noL 200 (loopN Try.f85 1) (loopTail ([0, 1, 5, 6], []) [0, 1, 5] [] (sumK 58 [0, 1, 5, 6] [0, 1, 5] noQ)) (frameOf 58 [0, 1, 5, 6] [wsl 0, .int .i64 x0, .int .i64 x1, .int .i64 4]) ⟨[⟨true, (some (.tab sc0 x2))⟩], 1, []⟩ = w85l1 x0 x1 x2 from by kernel_rfl).trans
 (show w85l1 x0 x1 x2 = a85l1 x0 x1 x2 (r85l1 x0 x1 x2) from by unfold w85l1 r85l1; exact rfl)
noncomputable def Q85l1 : SumK := fun vals s =>
 match vals, s.h with
 | [.iface f0 .nilIface, .int .i64 x0, .int .i64 x1, .int .i64 f1], [⟨true, some (.tab [.int .i64, .int .i64, .fl .f32, .fl .f32, .fl .f32, .fl .f32, .fl .f32, .fl .f32] x2)⟩] => if f0 = 0 ∧ f1 = 4 then [(true, .exit 2, [wsl 0, .int .i64 x0, .int .i64 x1], ⟨[⟨true, (some (.tab sc0 x2))⟩], 1, []⟩)] else noQ vals s
 | _, _ => noQ vals s
set_option maxRecDepth 100000 in
set_option maxHeartbeats 4000000 in
theorem qok85l1 : SumKOk Try.prog (loopN Try.f85 1) 58 [0, 1, 5, 6] [0, 1, 5] Q85l1 := by
  intro vals s x h1 h2 h3
  unfold Q85l1 at h3; split at h3
  · rename_i h; split at h3
    · rename_i hc; obtain ⟨rfl, rfl⟩ := hc; exact sum_step ok48 extOk mixed ((lfOkF_no _ _).inner (by kernel_rfl)) noQ_ok h1 h2 h (e85l1 _ _ _) rfl h3
    · exact noQ_ok _ _ _ h1 h2 h3
  · exact noQ_ok _ _ _ h1 h2 h3
noncomputable def L85_1 : LoopT := addL noL 14 ([0, 1, 5, 6], []) (sumK 58 [0, 1, 5, 6] [0, 1, 5] Q85l1)
theorem lok85_1 : LfOkF Try.prog L85_1 Try.f85 := lfOkF_add (lfOkF_no _ _) qok85l1 (by kernel_rfl) (by kernel_rfl) (by kernel_rfl)

/-- laws.markWallS, loop 1 -/
noncomputable def r85l1b (x0 x1 : Int) (x2 : List (List Int)) : Nat × Int × List (List Int) :=
 cond ((decide ((0 : Int) ≤ x1)) && (Nat.blt (Int.toNat x1) x2.length))
  (0, (IntKind.i64.wrap (x0 + 1)), (x2.modify (Int.toNat x1) (fun r => spl 8 r 7 [(((ofInt .f32 x0) : Nat) : Int)])))
  (1, 0, [])
noncomputable def a85l1b (x0 x1 : Int) (x2 : List (List Int)) (p : Nat × Int × List (List Int)) : Option (Fin' × List Value × St) := firstT ([((Nat.beq (p.1) 0), .exit 2, [wsl 0, .int .i64 (p.2.1), .int .i64 x1], ⟨[⟨true, (some (.tab sc0 (p.2.2)))⟩], 1, [0]⟩)].map fun (b, x) => (b, (x.1, frameOf 58 [0, 1, 5] x.2.1, x.2.2)))
noncomputable def w85l1b (x0 x1 : Int) (x2 : List (List Int)) : Option (Fin' × List Value × St) :=
 (cond ((decide ((0 : Int) ≤ x1)) && (Nat.blt (Int.toNat x1) x2.length))
 (cond (Nat.blt (Int.toNat x1) x2.length)
  (a85l1b x0 x1 x2 (0, (IntKind.i64.wrap (x0 + 1)), (x2.modify (Int.toNat x1) (fun r => spl 8 r 7 [(((ofInt .f32 x0) : Nat) : Int)]))))
  none)
 none)
set_option maxRecDepth 100000 in
set_option maxHeartbeats 4000000 in
theorem e85l1b (x0 x1 : Int) (x2 : List (List Int)) : evC Try.prog ext T48 L85_1 200 (loopN Try.f85 1) (loopTail ([0, 1, 5, 6], []) [0, 1, 5] [] (sumK 58 [0, 1, 5, 6] [0, 1, 5] Q85l1)) (frameOf 58 [0, 1, 5, 6] [wsl 0, .int .i64 x0, .int .i64 x1, .int .i64 3]) ⟨[⟨true, (some (.tab sc0 x2))⟩], 1, []⟩ = firstT ([((Nat.beq ((r85l1b x0 x1 x2).1) 0), .exit 2, [wsl 0, .int .i64 ((r85l1b x0 x1 x2).2.1), .int .i64 x1], ⟨[⟨true, (some (.tab sc0 ((r85l1b x0 x1 x2).2.2)))⟩], 1, [0]⟩)].map fun (b, x) => (b, (x.1, frameOf 58 [0, 1, 5] x.2.1, x.2.2))) :=
 (show evC Try.prog ext T48 L85_1 200 (loopN Try.f85 1) (loopTail ([0, 1, 5, 6], []) [0, 1, 5] [] (sumK 58 [0, 1, 5, 6] [0, 1, 5] Q85l1)) (frameOf 58 [0, 1, 5, 6] [wsl 0, .int .i64 x0, .int .i64 x1, .int .i64 3]) ⟨[⟨true, (some (.tab sc0 x2))⟩], 1, []⟩ = w85l1b x0 x1 x2 from by kernel_rfl).trans
 (show w85l1b x0 x1 x2 = a85l1b x0 x1 x2 (r85l1b x0 x1 x2) from by unfold w85l1b r85l1b; exact (cond_both (a85l1b x0 x1 x2) _ (fun h0 => (cond_t (ev_and2 h0) rfl)) (fun h0 => rfl)))
noncomputable def Q85l1b : SumK := fun vals s =>
 match vals, s.h with
 | [.iface f0 .nilIface, .int .i64 x0, .int .i64 x1, .int .i64 f1], [⟨true, some (.tab [.int .i64, .int .i64, .fl .f32, .fl .f32, .fl .f32, .fl .f32, .fl .f32, .fl .f32] x2)⟩] => if f0 = 0 ∧ f1 = 3 then [((Nat.beq ((r85l1b x0 x1 x2).1) 0), .exit 2, [wsl 0, .int .i64 ((r85l1b x0 x1 x2).2.1), .int .i64 x1], ⟨[⟨true, (some (.tab sc0 ((r85l1b x0 x1 x2).2.2)))⟩], 1, [0]⟩)] else Q85l1 vals s
 | _, _ => Q85l1 vals s
set_option maxRecDepth 100000 in
set_option maxHeartbeats 4000000 in
theorem qok85l1b : SumKOk Try.prog (loopN Try.f85 1) 58 [0, 1, 5, 6] [0, 1, 5] Q85l1b := by
  intro vals s x h1 h2 h3
  unfold Q85l1b at h3; split at h3
  · rename_i h; split at h3
    · rename_i hc; obtain ⟨rfl, rfl⟩ := hc; exact sum_step ok48 extOk mixed (lok85_1.inner (by kernel_rfl)) qok85l1 h1 h2 h (e85l1b _ _ _) rfl h3
    · exact qok85l1 _ _ _ h1 h2 h3
  · exact qok85l1 _ _ _ h1 h2 h3
noncomputable def L85_2 : LoopT := addL L85_1 14 ([0, 1, 5, 6], []) (sumK 58 [0, 1, 5, 6] [0, 1, 5] Q85l1b)
theorem lok85_2 : LfOkF Try.prog L85_2 Try.f85 := lfOkF_add lok85_1 qok85l1b (by kernel_rfl) (by kernel_rfl) (by kernel_rfl)

/-- laws.markWallS, loop 1 -/
noncomputable def r85l1c (x0 x1 : Int) (x2 : List (List Int)) : Nat × Int × List (List Int) :=
 let c92 := (r85l1b (IntKind.i64.wrap (x0 + 1)) x1 (x2.modify (Int.toNat x1) (fun r => spl 8 r 6 [(((ofInt .f32 x0) : Nat) : Int)])))
 cond ((decide ((0 : Int) ≤ x1)) && (Nat.blt (Int.toNat x1) x2.length))
  (cond (Nat.beq (c92.1) 0)
  (0, (c92.2.1), (c92.2.2))
  (1, 0, []))
  (1, 0, [])
noncomputable def a85l1c (x0 x1 : Int) (x2 : List (List Int)) (p : Nat × Int × List (List Int)) : Option (Fin' × List Value × St) := firstT ([((Nat.beq (p.1) 0), .exit 2, [wsl 0, .int .i64 (p.2.1), .int .i64 x1], ⟨[⟨true, (some (.tab sc0 (p.2.2)))⟩], 1, [0]⟩)].map fun (b, x) => (b, (x.1, frameOf 58 [0, 1, 5] x.2.1, x.2.2)))
noncomputable def w85l1c (x0 x1 : Int) (x2 : List (List Int)) : Option (Fin' × List Value × St) :=
 let c92 := (r85l1b (IntKind.i64.wrap (x0 + 1)) x1 (x2.modify (Int.toNat x1) (fun r => spl 8 r 6 [(((ofInt .f32 x0) : Nat) : Int)])))
 (cond ((decide ((0 : Int) ≤ x1)) && (Nat.blt (Int.toNat x1) x2.length))
 (cond (Nat.blt (Int.toNat x1) x2.length)
  (cond (Nat.beq (c92.1) 0)
  (a85l1c x0 x1 x2 (0, (c92.2.1), (c92.2.2)))
  none)
  none)
 none)
set_option maxRecDepth 100000 in
set_option maxHeartbeats 4000000 in
theorem e85l1c (x0 x1 : Int) (x2 : List (List Int)) : evC Try.prog ext T48 L85_2 200 (loopN Try.f85 1) (loopTail ([0, 1, 5, 6], []) [0, 1, 5] [] (sumK 58 [0, 1, 5, 6] [0, 1, 5] Q85l1b)) (frameOf 58 [0, 1, 5, 6] [wsl 0, .int .i64 x0, .int .i64 x1, .int .i64 2]) ⟨[⟨true, (some (.tab sc0 x2))⟩], 1, []⟩ = firstT ([((Nat.beq ((r85l1c x0 x1 x2).1) 0), .exit 2, [wsl 0, .int .i64 ((r85l1c x0 x1 x2).2.1), .int .i64 x1], ⟨[⟨true, (some (.tab sc0 ((r85l1c x0 x1 x2).2.2)))⟩], 1, [0]⟩)].map fun (b, x) => (b, (x.1, frameOf 58 [0, 1, 5] x.2.1, x.2.2))) :=
 (show evC Try.prog ext T48 L85_2 200 (loopN Try.f85 1) (loopTail ([0, 1, 5, 6], []) [0, 1, 5] [] (sumK 58 [0, 1, 5, 6] [0, 1, 5] Q85l1b)) (frameOf 58 [0, 1, 5, 6] [wsl 0, .int .i64 x0, .int .i64 x1, .int .i64 2]) ⟨[⟨true, (some (.tab sc0 x2))⟩], 1, []⟩ = w85l1c x0 x1 x2 from by kernel_rfl).trans
 (show w85l1c x0 x1 x2 = a85l1c x0 x1 x2 (r85l1c x0 x1 x2) from by unfold w85l1c r85l1c; exact (cond_both (a85l1c x0 x1 x2) _ (fun h0 => (cond_t (ev_and2 h0) (cond_app (a85l1c x0 x1 x2) _ rfl rfl))) (fun h0 => rfl)))
noncomputable def Q85l1c : SumK := fun vals s =>
 match vals, s.h with
 | [.iface f0 .nilIface, .int .i64 x0, .int .i64 x1, .int .i64 f1], [⟨true, some (.tab [.int .i64, .int .i64, .fl .f32, .fl .f32, .fl .f32, .fl .f32, .fl .f32, .fl .f32] x2)⟩] => if f0 = 0 ∧ f1 = 2 then [((Nat.beq ((r85l1c x0 x1 x2).1) 0), .exit 2, [wsl 0, .int .i64 ((r85l1c x0 x1 x2).2.1), .int .i64 x1], ⟨[⟨true, (some (.tab sc0 ((r85l1c x0 x1 x2).2.2)))⟩], 1, [0]⟩)] else Q85l1b vals s
 | _, _ => Q85l1b vals s
set_option maxRecDepth 100000 in
set_option maxHeartbeats 4000000 in
theorem qok85l1c : SumKOk Try.prog (loopN Try.f85 1) 58 [0, 1, 5, 6] [0, 1, 5] Q85l1c := by
  intro vals s x h1 h2 h3
  unfold Q85l1c at h3; split at h3
  · rename_i h; split at h3
    · rename_i hc; obtain ⟨rfl, rfl⟩ := hc; exact sum_step ok48 extOk mixed (lok85_2.inner (by kernel_rfl)) qok85l1b h1 h2 h (e85l1c _ _ _) rfl h3
    · exact qok85l1b _ _ _ h1 h2 h3
  · exact qok85l1b _ _ _ h1 h2 h3
noncomputable def L85_3 : LoopT := addL L85_2 14 ([0, 1, 5, 6], []) (sumK 58 [0, 1, 5, 6] [0, 1, 5] Q85l1c)
theorem lok85_3 : LfOkF Try.prog L85_3 Try.f85 := lfOkF_add lok85_2 qok85l1c (by kernel_rfl) (by kernel_rfl) (by kernel_rfl)
end Go.Proofs.Ytfnfapmncibjfaa
