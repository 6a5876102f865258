/- What the functions that the statements reach answer, part 4. -/
import Derived.Test.YtfnfapmncibjfaaSf3
namespace Go.Proofs.Ytfnfapmncibjfaa
open Go.Ab
set_option maxHeartbeats 4000000
set_option maxRecDepth 100000

/-- impl.stands -/
noncomputable def r114 (x0 x1 x2 : Int) : Bool :=
 cond (decide ((x0 : Int) ≥ 0)) (cond (decide ((x0 : Int) < x2)) (cond (decide ((x1 : Int) ≥ (-1))) (cond (decide ((x1 : Int) < x2)) (((x0 : Int) != x1)) (false)) (false)) (false)) (false)
noncomputable def a114 (x0 x1 x2 : Int) (p : Bool) : Res := firstT [(true, .bool p, st0)]
noncomputable def w114 (x0 x1 x2 : Int) : Res :=
 (cond (decide ((x0 : Int) ≥ 0))
 (cond (decide ((x0 : Int) < x2)) (cond (decide ((x1 : Int) ≥ (-1))) (cond (decide ((x1 : Int) < x2)) (a114 x0 x1 x2 (((x0 : Int) != x1))) (a114 x0 x1 x2 (false))) (a114 x0 x1 x2 (false))) (a114 x0 x1 x2 (false)))
 (a114 x0 x1 x2 (false)))
set_option maxRecDepth 100000 in
set_option maxHeartbeats 4000000 in
theorem e114 (x0 x1 x2 : Int) : evFn Try.prog ext T39 noL 200 Try.f114 [.int .i64 x0, .int .i64 x1, .int .i64 x2] st0 = firstT [(true, .bool (r114 x0 x1 x2), st0)] :=
 (show evFn Try.prog ext T39 noL 200 Try.f114 [.int .i64 x0, .int .i64 x1, .int .i64 x2] st0 = w114 x0 x1 x2 from by kernel_rfl).trans
 (show w114 x0 x1 x2 = a114 x0 x1 x2 (r114 x0 x1 x2) from by unfold w114 r114; exact (cond_app (a114 x0 x1 x2) _ (cond_app (a114 x0 x1 x2) _ (cond_app (a114 x0 x1 x2) _ (cond_app (a114 x0 x1 x2) _ rfl rfl) rfl) rfl) rfl))
noncomputable def s114 (args : List Value) (s : St) : List (Bool × Value × St) :=
 match args, s.h with
 | [.int .i64 x0, .int .i64 x1, .int .i64 x2], [] => [(true, .bool (r114 x0 x1 x2), st0)]
 | _, _ => T39 114 args s
noncomputable def T40 : CallF := addF T39 114 s114
set_option maxRecDepth 100000 in
set_option maxHeartbeats 4000000 in
theorem ok40 : CfOk Try.prog T40 := by
  refine cfOk_add ok39 fun args s r s' h1 h2 h3 => ?_
  unfold s114 at h3; split at h3
  · rename_i h; exact callOk ok39 Try.func114 h1 h2 h (lfOkF_no _ _).body (e114 _ _ _) rfl h3
  · exact ok39 _ _ _ _ _ h1 h2 h3

/-- impl.ValidFlat, loop 1: one round -/
noncomputable def b65l1 (ih : Int → Int → Int → List (List Int) → List (List Int) → List (List Int) → List (List Int) → Nat) (x0 x1 x2 : Int) (x3 x4 x5 x6 : List (List Int)) : Nat :=
 cond (decide ((x2 : Int) < x1)) (cond ((decide ((0 : Int) ≤ x2)) && (Nat.blt (Int.toNat x2) x3.length)) (cond (!(r114 ((x3.getD (Int.toNat x2) []).getD 0 0) ((x3.getD (Int.toNat x2) []).getD 1 0) x0)) (0) (cond (!(r111 (Int.toNat ((x3.getD (Int.toNat x2) []).getD 2 0)))) (0) (cond (!(r115 (Int.toNat ((x3.getD (Int.toNat x2) []).getD 2 0)) 1015021568 1120403456)) (0) (cond (!(r113 (Int.toNat ((x3.getD (Int.toNat x2) []).getD 3 0)))) (0) (cond (!(r68 (Int.toNat ((x3.getD (Int.toNat x2) []).getD 4 0)))) (0) (cond (!(r68 (Int.toNat ((x3.getD (Int.toNat x2) []).getD 5 0)))) (0) (cond (!(r68 (Int.toNat ((x3.getD (Int.toNat x2) []).getD 6 0)))) (0) (cond (!(r68 (Int.toNat ((x3.getD (Int.toNat x2) []).getD 7 0)))) (0) (ih x0 x1 (IntKind.i64.wrap (x2 + 1)) x3 x4 x5 x6))))))))) (2)) (1)
noncomputable def r65l1 : Nat → Int → Int → Int → List (List Int) → List (List Int) → List (List Int) → List (List Int) → Nat
 | 0 => fun _ _ _ _ _ _ _ => (2)
 | m + 1 => b65l1 (r65l1 m)
noncomputable def a65l1 (x0 x1 x2 : Int) (x3 x4 x5 x6 : List (List Int)) (p : Nat) : Option (Fin' × List Value × St) := firstT ([((Nat.beq p 0), .ret, [.pointer (some ⟨0, 0, some 0⟩), .bool false, .int .i64 x0], ⟨[⟨true, (some (.cells [wsl 2, wsl 3, wsl 1, wsl 4]))⟩, ⟨true, (some (.tab sc0 x3))⟩, ⟨true, (some (.tab [.fl .f32] x4))⟩, ⟨true, (some (.tab [.fl .f32] x5))⟩, ⟨true, (some (.tab sc1 x6))⟩], 5, []⟩), ((Nat.beq p 1), .exit 2, [.pointer (some ⟨0, 0, some 0⟩), anyV, .int .i64 x0], ⟨[⟨true, (some (.cells [wsl 2, wsl 3, wsl 1, wsl 4]))⟩, ⟨true, (some (.tab sc0 x3))⟩, ⟨true, (some (.tab [.fl .f32] x4))⟩, ⟨true, (some (.tab [.fl .f32] x5))⟩, ⟨true, (some (.tab sc1 x6))⟩], 5, []⟩)].map fun (b, x) => (b, (x.1, frameOf 129 [1, 2, 3] x.2.1, x.2.2)))
noncomputable def u65l1 (x0 x1 x2 : Int) (x3 x4 x5 x6 : List (List Int)) (p : Nat) : Option (Fin' × List Value × St) := alts ([((Nat.beq p 0), .ret, [.pointer (some ⟨0, 0, some 0⟩), .bool false, .int .i64 x0], ⟨[⟨true, (some (.cells [wsl 2, wsl 3, wsl 1, wsl 4]))⟩, ⟨true, (some (.tab sc0 x3))⟩, ⟨true, (some (.tab [.fl .f32] x4))⟩, ⟨true, (some (.tab [.fl .f32] x5))⟩, ⟨true, (some (.tab sc1 x6))⟩], 5, []⟩), ((Nat.beq p 1), .exit 2, [.pointer (some ⟨0, 0, some 0⟩), anyV, .int .i64 x0], ⟨[⟨true, (some (.cells [wsl 2, wsl 3, wsl 1, wsl 4]))⟩, ⟨true, (some (.tab sc0 x3))⟩, ⟨true, (some (.tab [.fl .f32] x4))⟩, ⟨true, (some (.tab [.fl .f32] x5))⟩, ⟨true, (some (.tab sc1 x6))⟩], 5, []⟩)].map fun (b, x) => (b, (x.1, frameOf 129 [1, 2, 3] x.2.1, x.2.2))) some
theorem v65l1 (x0 x1 x2 : Int) (x3 x4 x5 x6 : List (List Int)) (p : Nat) : u65l1 x0 x1 x2 x3 x4 x5 x6 p = a65l1 x0 x1 x2 x3 x4 x5 x6 p := alts_first _
noncomputable def q65l1 (m : Nat) : SumK := fun vals s =>
 match vals, s.h with
 | [.pointer (some ⟨f0, f1, some f2⟩), .int .i64 x0, .iface f3 .nilIface, .int .i64 x1, .int .i64 x2], [⟨true, some (.cells [.iface f4 .nilIface, .iface f5 .nilIface, .iface f6 .nilIface, .iface f7 .nilIface])⟩, ⟨true, some (.tab [.int .i64, .int .i64, .fl .f32, .fl .f32, .fl .f32, .fl .f32, .fl .f32, .fl .f32] x3)⟩, ⟨true, some (.tab [.fl .f32] x4)⟩, ⟨true, some (.tab [.fl .f32] x5)⟩, ⟨true, some (.tab [.int .i64, .int .i64, .fl .f32, .fl .f32] x6)⟩] => if f0 = 0 ∧ f1 = 0 ∧ f2 = 0 ∧ f3 = 1 ∧ f4 = 2 ∧ f5 = 3 ∧ f6 = 1 ∧ f7 = 4 then [((Nat.beq (r65l1 m x0 x1 x2 x3 x4 x5 x6) 0), .ret, [.pointer (some ⟨0, 0, some 0⟩), .bool false, .int .i64 x0], ⟨[⟨true, (some (.cells [wsl 2, wsl 3, wsl 1, wsl 4]))⟩, ⟨true, (some (.tab sc0 x3))⟩, ⟨true, (some (.tab [.fl .f32] x4))⟩, ⟨true, (some (.tab [.fl .f32] x5))⟩, ⟨true, (some (.tab sc1 x6))⟩], 5, []⟩), ((Nat.beq (r65l1 m x0 x1 x2 x3 x4 x5 x6) 1), .exit 2, [.pointer (some ⟨0, 0, some 0⟩), anyV, .int .i64 x0], ⟨[⟨true, (some (.cells [wsl 2, wsl 3, wsl 1, wsl 4]))⟩, ⟨true, (some (.tab sc0 x3))⟩, ⟨true, (some (.tab [.fl .f32] x4))⟩, ⟨true, (some (.tab [.fl .f32] x5))⟩, ⟨true, (some (.tab sc1 x6))⟩], 5, []⟩)] else noQ vals s
 | _, _ => noQ vals s
noncomputable def w65l1 (ih : Int → Int → Int → List (List Int) → List (List Int) → List (List Int) → List (List Int) → Nat) (x0 x1 x2 : Int) (x3 x4 x5 x6 : List (List Int)) : Option (Fin' × List Value × St) :=
 (cond (decide ((x2 : Int) < x1))
 (cond ((decide ((0 : Int) ≤ x2)) && (Nat.blt (Int.toNat x2) x3.length)) (cond (Nat.blt (Int.toNat x2) x3.length) (cond (!(r114 ((x3.getD (Int.toNat x2) []).getD 0 0) ((x3.getD (Int.toNat x2) []).getD 1 0) x0)) (a65l1 x0 x1 x2 x3 x4 x5 x6 (0)) (cond (!(r111 (Int.toNat ((x3.getD (Int.toNat x2) []).getD 2 0)))) (a65l1 x0 x1 x2 x3 x4 x5 x6 (0)) (cond (!(r115 (Int.toNat ((x3.getD (Int.toNat x2) []).getD 2 0)) 1015021568 1120403456)) (a65l1 x0 x1 x2 x3 x4 x5 x6 (0)) (cond (!(r113 (Int.toNat ((x3.getD (Int.toNat x2) []).getD 3 0)))) (a65l1 x0 x1 x2 x3 x4 x5 x6 (0)) (cond (!(r68 (Int.toNat ((x3.getD (Int.toNat x2) []).getD 4 0)))) (a65l1 x0 x1 x2 x3 x4 x5 x6 (0)) (cond (!(r68 (Int.toNat ((x3.getD (Int.toNat x2) []).getD 5 0)))) (a65l1 x0 x1 x2 x3 x4 x5 x6 (0)) (cond (!(r68 (Int.toNat ((x3.getD (Int.toNat x2) []).getD 6 0)))) (a65l1 x0 x1 x2 x3 x4 x5 x6 (0)) (cond (!(r68 (Int.toNat ((x3.getD (Int.toNat x2) []).getD 7 0)))) (a65l1 x0 x1 x2 x3 x4 x5 x6 (0)) (u65l1 x0 x1 x2 x3 x4 x5 x6 (ih x0 x1 (IntKind.i64.wrap (x2 + 1)) x3 x4 x5 x6)))))))))) none) none)
 (a65l1 x0 x1 x2 x3 x4 x5 x6 (1)))
set_option maxRecDepth 100000 in
set_option maxHeartbeats 4000000 in
theorem e65l1 (m : Nat) (x0 x1 x2 : Int) (x3 x4 x5 x6 : List (List Int)) : evC Try.prog ext T40 L65_1 200 (loopN Try.f65 1) (loopTail ([1, 3, 61, 62, 63], []) [1, 2, 3] [] (sumK 129 [1, 3, 61, 62, 63] [1, 2, 3] (q65l1 m))) (frameOf 129 [1, 3, 61, 62, 63] [.pointer (some ⟨0, 0, some 0⟩), .int .i64 x0, wsl 1, .int .i64 x1, .int .i64 x2]) ⟨[⟨true, (some (.cells [wsl 2, wsl 3, wsl 1, wsl 4]))⟩, ⟨true, (some (.tab sc0 x3))⟩, ⟨true, (some (.tab [.fl .f32] x4))⟩, ⟨true, (some (.tab [.fl .f32] x5))⟩, ⟨true, (some (.tab sc1 x6))⟩], 5, []⟩ = firstT ([((Nat.beq (r65l1 (m + 1) x0 x1 x2 x3 x4 x5 x6) 0), .ret, [.pointer (some ⟨0, 0, some 0⟩), .bool false, .int .i64 x0], ⟨[⟨true, (some (.cells [wsl 2, wsl 3, wsl 1, wsl 4]))⟩, ⟨true, (some (.tab sc0 x3))⟩, ⟨true, (some (.tab [.fl .f32] x4))⟩, ⟨true, (some (.tab [.fl .f32] x5))⟩, ⟨true, (some (.tab sc1 x6))⟩], 5, []⟩), ((Nat.beq (r65l1 (m + 1) x0 x1 x2 x3 x4 x5 x6) 1), .exit 2, [.pointer (some ⟨0, 0, some 0⟩), anyV, .int .i64 x0], ⟨[⟨true, (some (.cells [wsl 2, wsl 3, wsl 1, wsl 4]))⟩, ⟨true, (some (.tab sc0 x3))⟩, ⟨true, (some (.tab [.fl .f32] x4))⟩, ⟨true, (some (.tab [.fl .f32] x5))⟩, ⟨true, (some (.tab sc1 x6))⟩], 5, []⟩)].map fun (b, x) => (b, (x.1, frameOf 129 [1, 2, 3] x.2.1, x.2.2))) :=
 (show evC Try.prog ext T40 L65_1 200 (loopN Try.f65 1) (loopTail ([1, 3, 61, 62, 63], []) [1, 2, 3] [] (sumK 129 [1, 3, 61, 62, 63] [1, 2, 3] (q65l1 m))) (frameOf 129 [1, 3, 61, 62, 63] [.pointer (some ⟨0, 0, some 0⟩), .int .i64 x0, wsl 1, .int .i64 x1, .int .i64 x2]) ⟨[⟨true, (some (.cells [wsl 2, wsl 3, wsl 1, wsl 4]))⟩, ⟨true, (some (.tab sc0 x3))⟩, ⟨true, (some (.tab [.fl .f32] x4))⟩, ⟨true, (some (.tab [.fl .f32] x5))⟩, ⟨true, (some (.tab sc1 x6))⟩], 5, []⟩ = w65l1 (r65l1 m) x0 x1 x2 x3 x4 x5 x6 from by kernel_rfl).trans
 (show w65l1 (r65l1 m) x0 x1 x2 x3 x4 x5 x6 = a65l1 x0 x1 x2 x3 x4 x5 x6 (r65l1 (m + 1) x0 x1 x2 x3 x4 x5 x6) from by unfold w65l1; show _ = a65l1 x0 x1 x2 x3 x4 x5 x6 (b65l1 (r65l1 m) x0 x1 x2 x3 x4 x5 x6); unfold b65l1; exact (cond_both (a65l1 x0 x1 x2 x3 x4 x5 x6) _ (fun h0 => (cond_both (a65l1 x0 x1 x2 x3 x4 x5 x6) _ (fun h1 => (cond_t (ev_and2 h1) (cond_app (a65l1 x0 x1 x2 x3 x4 x5 x6) _ rfl (cond_app (a65l1 x0 x1 x2 x3 x4 x5 x6) _ rfl (cond_app (a65l1 x0 x1 x2 x3 x4 x5 x6) _ rfl (cond_app (a65l1 x0 x1 x2 x3 x4 x5 x6) _ rfl (cond_app (a65l1 x0 x1 x2 x3 x4 x5 x6) _ rfl (cond_app (a65l1 x0 x1 x2 x3 x4 x5 x6) _ rfl (cond_app (a65l1 x0 x1 x2 x3 x4 x5 x6) _ rfl (cond_app (a65l1 x0 x1 x2 x3 x4 x5 x6) _ rfl (v65l1 x0 x1 x2 x3 x4 x5 x6 ((r65l1 m) x0 x1 (IntKind.i64.wrap (x2 + 1)) x3 x4 x5 x6)))))))))))) (fun h1 => rfl))) (fun h0 => rfl)))
set_option maxRecDepth 100000 in
set_option maxHeartbeats 4000000 in
theorem qm65l1 : ∀ m, SumKOk Try.prog (loopN Try.f65 1) 129 [1, 3, 61, 62, 63] [1, 2, 3] (q65l1 m) := by
  intro m
  induction m with
  | zero =>
    intro vals s x h1 h2 h3
    unfold q65l1 at h3; split at h3
    · rename_i h; split at h3
      · rename_i hc; obtain ⟨rfl, rfl, rfl, rfl, rfl, rfl, rfl, rfl⟩ := hc; exact absurd h3 (by simp [r65l1, firstT, Nat.beq])
      · exact noQ_ok _ _ _ h1 h2 h3
    · exact noQ_ok _ _ _ h1 h2 h3
  | succ m ih =>
    intro vals s x h1 h2 h3
    unfold q65l1 at h3; split at h3
    · rename_i h; split at h3
      · rename_i hc; obtain ⟨rfl, rfl, rfl, rfl, rfl, rfl, rfl, rfl⟩ := hc; exact sum_step ok40 extOk mixed (lok65_1.inner (by kernel_rfl)) ih h1 h2 h (e65l1 m _ _ _ _ _ _ _) rfl h3
      · exact noQ_ok _ _ _ h1 h2 h3
    · exact noQ_ok _ _ _ h1 h2 h3
noncomputable def Q65l1 : SumK := fun vals s => q65l1 (fuelOf vals s.h) vals s
theorem qok65l1 : SumKOk Try.prog (loopN Try.f65 1) 129 [1, 3, 61, 62, 63] [1, 2, 3] Q65l1 := fuel_ok qm65l1 fuelOf
noncomputable def L65_2 : LoopT := addL L65_1 12 ([1, 3, 61, 62, 63], []) (sumK 129 [1, 3, 61, 62, 63] [1, 2, 3] Q65l1)
theorem lok65_2 : LfOkF Try.prog L65_2 Try.f65 := lfOkF_add lok65_1 qok65l1 (by kernel_rfl) (by kernel_rfl) (by kernel_rfl)

/-- impl.isUpTo -/
noncomputable def r67 (x0 x1 : Nat) : Bool :=
 cond (r111 x0) ((flt .f32 x0 x1 || feq .f32 x0 x1)) (false)
noncomputable def a67 (x0 x1 : Nat) (p : Bool) : Res := firstT [(true, .bool p, st0)]
noncomputable def w67 (x0 x1 : Nat) : Res :=
 (cond (r111 x0)
 (a67 x0 x1 ((flt .f32 x0 x1 || feq .f32 x0 x1)))
 (a67 x0 x1 (false)))
set_option maxRecDepth 100000 in
set_option maxHeartbeats 4000000 in
theorem e67 (x0 x1 : Nat) : evFn Try.prog ext T40 noL 200 Try.f67 [.float .f32 x0, .float .f32 x1] st0 = firstT [(true, .bool (r67 x0 x1), st0)] :=
 (show evFn Try.prog ext T40 noL 200 Try.f67 [.float .f32 x0, .float .f32 x1] st0 = w67 x0 x1 from by kernel_rfl).trans
 (show w67 x0 x1 = a67 x0 x1 (r67 x0 x1) from by unfold w67 r67; exact (cond_app (a67 x0 x1) _ rfl rfl))
noncomputable def s67 (args : List Value) (s : St) : List (Bool × Value × St) :=
 match args, s.h with
 | [.float .f32 x0, .float .f32 x1], [] => [(true, .bool (r67 x0 x1), st0)]
 | _, _ => T40 67 args s
noncomputable def T41 : CallF := addF T40 67 s67
set_option maxRecDepth 100000 in
set_option maxHeartbeats 4000000 in
theorem ok41 : CfOk Try.prog T41 := by
  refine cfOk_add ok40 fun args s r s' h1 h2 h3 => ?_
  unfold s67 at h3; split at h3
  · rename_i h; exact callOk ok40 Try.func67 h1 h2 h (lfOkF_no _ _).body (e67 _ _) rfl h3
  · exact ok40 _ _ _ _ _ h1 h2 h3

/-- impl.ValidFlat, loop 3: one round -/
noncomputable def b65l3 (ih : Int → Int → Int → List (List Int) → Nat) (x0 x1 x2 : Int) (x3 : List (List Int)) : Nat :=
 cond (decide ((x2 : Int) < x1)) (cond ((decide ((0 : Int) ≤ x2)) && (Nat.blt (Int.toNat x2) x3.length)) (cond (!(r114 ((x3.getD (Int.toNat x2) []).getD 0 0) ((x3.getD (Int.toNat x2) []).getD 1 0) x0)) (0) (cond (!(r67 (Int.toNat ((x3.getD (Int.toNat x2) []).getD 2 0)) 1120403456)) (0) (cond (!(r67 (Int.toNat ((x3.getD (Int.toNat x2) []).getD 3 0)) 1092616192)) (0) (ih x0 x1 (IntKind.i64.wrap (x2 + 1)) x3)))) (2)) (1)
noncomputable def r65l3 : Nat → Int → Int → Int → List (List Int) → Nat
 | 0 => fun _ _ _ _ => (2)
 | m + 1 => b65l3 (r65l3 m)
noncomputable def a65l3 (x0 x1 x2 : Int) (x3 : List (List Int)) (p : Nat) : Option (Fin' × List Value × St) := firstT ([((Nat.beq p 0), .ret, [.bool false], ⟨[⟨true, (some (.tab sc1 x3))⟩], 1, []⟩), ((Nat.beq p 1), .exit 6, [anyV], ⟨[⟨true, (some (.tab sc1 x3))⟩], 1, []⟩)].map fun (b, x) => (b, (x.1, frameOf 129 [2] x.2.1, x.2.2)))
noncomputable def u65l3 (x0 x1 x2 : Int) (x3 : List (List Int)) (p : Nat) : Option (Fin' × List Value × St) := alts ([((Nat.beq p 0), .ret, [.bool false], ⟨[⟨true, (some (.tab sc1 x3))⟩], 1, []⟩), ((Nat.beq p 1), .exit 6, [anyV], ⟨[⟨true, (some (.tab sc1 x3))⟩], 1, []⟩)].map fun (b, x) => (b, (x.1, frameOf 129 [2] x.2.1, x.2.2))) some
theorem v65l3 (x0 x1 x2 : Int) (x3 : List (List Int)) (p : Nat) : u65l3 x0 x1 x2 x3 p = a65l3 x0 x1 x2 x3 p := alts_first _
noncomputable def q65l3 (m : Nat) : SumK := fun vals s =>
 match vals, s.h with
 | [.int .i64 x0, .iface f0 .nilIface, .int .i64 x1, .int .i64 x2], [⟨true, some (.tab [.int .i64, .int .i64, .fl .f32, .fl .f32] x3)⟩] => if f0 = 0 then [((Nat.beq (r65l3 m x0 x1 x2 x3) 0), .ret, [.bool false], ⟨[⟨true, (some (.tab sc1 x3))⟩], 1, []⟩), ((Nat.beq (r65l3 m x0 x1 x2 x3) 1), .exit 6, [anyV], ⟨[⟨true, (some (.tab sc1 x3))⟩], 1, []⟩)] else noQ vals s
 | _, _ => noQ vals s
noncomputable def w65l3 (ih : Int → Int → Int → List (List Int) → Nat) (x0 x1 x2 : Int) (x3 : List (List Int)) : Option (Fin' × List Value × St) :=
 (cond (decide ((x2 : Int) < x1))
 (cond ((decide ((0 : Int) ≤ x2)) && (Nat.blt (Int.toNat x2) x3.length)) (cond (Nat.blt (Int.toNat x2) x3.length) (cond (!(r114 ((x3.getD (Int.toNat x2) []).getD 0 0) ((x3.getD (Int.toNat x2) []).getD 1 0) x0)) (a65l3 x0 x1 x2 x3 (0)) (cond (!(r67 (Int.toNat ((x3.getD (Int.toNat x2) []).getD 2 0)) 1120403456)) (a65l3 x0 x1 x2 x3 (0)) (cond (!(r67 (Int.toNat ((x3.getD (Int.toNat x2) []).getD 3 0)) 1092616192)) (a65l3 x0 x1 x2 x3 (0)) (u65l3 x0 x1 x2 x3 (ih x0 x1 (IntKind.i64.wrap (x2 + 1)) x3))))) none) none)
 (a65l3 x0 x1 x2 x3 (1)))
set_option maxRecDepth 100000 in
set_option maxHeartbeats 4000000 in
theorem e65l3 (m : Nat) (x0 x1 x2 : Int) (x3 : List (List Int)) : evC Try.prog ext T41 L65_2 200 (loopN Try.f65 3) (loopTail ([3, 103, 104, 105], []) [2] [] (sumK 129 [3, 103, 104, 105] [2] (q65l3 m))) (frameOf 129 [3, 103, 104, 105] [.int .i64 x0, wsl 0, .int .i64 x1, .int .i64 x2]) ⟨[⟨true, (some (.tab sc1 x3))⟩], 1, []⟩ = firstT ([((Nat.beq (r65l3 (m + 1) x0 x1 x2 x3) 0), .ret, [.bool false], ⟨[⟨true, (some (.tab sc1 x3))⟩], 1, []⟩), ((Nat.beq (r65l3 (m + 1) x0 x1 x2 x3) 1), .exit 6, [anyV], ⟨[⟨true, (some (.tab sc1 x3))⟩], 1, []⟩)].map fun (b, x) => (b, (x.1, frameOf 129 [2] x.2.1, x.2.2))) :=
 (show evC Try.prog ext T41 L65_2 200 (loopN Try.f65 3) (loopTail ([3, 103, 104, 105], []) [2] [] (sumK 129 [3, 103, 104, 105] [2] (q65l3 m))) (frameOf 129 [3, 103, 104, 105] [.int .i64 x0, wsl 0, .int .i64 x1, .int .i64 x2]) ⟨[⟨true, (some (.tab sc1 x3))⟩], 1, []⟩ = w65l3 (r65l3 m) x0 x1 x2 x3 from by kernel_rfl).trans
 (show w65l3 (r65l3 m) x0 x1 x2 x3 = a65l3 x0 x1 x2 x3 (r65l3 (m + 1) x0 x1 x2 x3) from by unfold w65l3; show _ = a65l3 x0 x1 x2 x3 (b65l3 (r65l3 m) x0 x1 x2 x3); unfold b65l3; exact (cond_both (a65l3 x0 x1 x2 x3) _ (fun h0 => (cond_both (a65l3 x0 x1 x2 x3) _ (fun h1 => (cond_t (ev_and2 h1) (cond_app (a65l3 x0 x1 x2 x3) _ rfl (cond_app (a65l3 x0 x1 x2 x3) _ rfl (cond_app (a65l3 x0 x1 x2 x3) _ rfl (v65l3 x0 x1 x2 x3 ((r65l3 m) x0 x1 (IntKind.i64.wrap (x2 + 1)) x3))))))) (fun h1 => rfl))) (fun h0 => rfl)))
set_option maxRecDepth 100000 in
set_option maxHeartbeats 4000000 in
theorem qm65l3 : ∀ m, SumKOk Try.prog (loopN Try.f65 3) 129 [3, 103, 104, 105] [2] (q65l3 m) := by
  intro m
  induction m with
  | zero =>
    intro vals s x h1 h2 h3
    unfold q65l3 at h3; split at h3
    · rename_i h; split at h3
      · rename_i hc; obtain ⟨rfl⟩ := hc; exact absurd h3 (by simp [r65l3, firstT, Nat.beq])
      · exact noQ_ok _ _ _ h1 h2 h3
    · exact noQ_ok _ _ _ h1 h2 h3
  | succ m ih =>
    intro vals s x h1 h2 h3
    unfold q65l3 at h3; split at h3
    · rename_i h; split at h3
      · rename_i hc; obtain ⟨rfl⟩ := hc; exact sum_step ok41 extOk mixed (lok65_2.inner (by kernel_rfl)) ih h1 h2 h (e65l3 m _ _ _ _) rfl h3
      · exact noQ_ok _ _ _ h1 h2 h3
    · exact noQ_ok _ _ _ h1 h2 h3
noncomputable def Q65l3 : SumK := fun vals s => q65l3 (fuelOf vals s.h) vals s
theorem qok65l3 : SumKOk Try.prog (loopN Try.f65 3) 129 [3, 103, 104, 105] [2] Q65l3 := fuel_ok qm65l3 fuelOf
noncomputable def L65_3 : LoopT := addL L65_2 24 ([3, 103, 104, 105], []) (sumK 129 [3, 103, 104, 105] [2] Q65l3)
theorem lok65_3 : LfOkF Try.prog L65_3 Try.f65 := lfOkF_add lok65_2 qok65l3 (by kernel_rfl) (by kernel_rfl) (by kernel_rfl)

/-- impl.ValidFlat -/
noncomputable def r65 (x0 x1 x2 x3 : List (List Int)) : Nat × Bool :=
 let c181 := (r65l0 (1000 + x3.length + x2.length + x1.length + x0.length) ((x0.length : Nat) : Int) ((x0.length : Nat) : Int) 0 x0 x1 x2 x3)
 let c182 := (r65l1 (1000 + x3.length + x1.length + x0.length + x2.length) ((x0.length : Nat) : Int) ((x2.length : Nat) : Int) 0 x2 x0 x1 x3)
 cond (decide ((((x0.length : Nat) : Int) : Int) < 1)) (0, false) (cond (decide ((((x0.length : Nat) : Int) : Int) > 5)) (0, false) (cond ((((x1.length : Nat) : Int) : Int) != ((x0.length : Nat) : Int)) (0, false) (cond (decide ((((x2.length : Nat) : Int) : Int) > 10)) (0, false) (cond (decide ((((x3.length : Nat) : Int) : Int) > 8)) (0, false) (cond (Nat.beq c181 0) (0, false) (cond (Nat.beq c181 1) (cond (Nat.beq c182 0) (0, false) (cond (Nat.beq c182 1) (cond (Nat.beq (r65l3 (1000 + x3.length) ((x0.length : Nat) : Int) ((x3.length : Nat) : Int) 0 x3) 0) (0, false) (cond (Nat.beq (r65l3 (1000 + x3.length) ((x0.length : Nat) : Int) ((x3.length : Nat) : Int) 0 x3) 1) (0, true) (1, false))) (1, false))) (1, false)))))))
noncomputable def a65 (x0 x1 x2 x3 : List (List Int)) (p : Nat × Bool) : Res := firstT [((Nat.beq (p.1) 0), .bool (p.2), ⟨[⟨true, (some (.tab [.fl .f32] x0))⟩, ⟨true, (some (.tab [.fl .f32] x1))⟩, ⟨true, (some (.tab sc0 x2))⟩, ⟨true, (some (.tab sc1 x3))⟩], 4, []⟩)]
noncomputable def w65 (x0 x1 x2 x3 : List (List Int)) : Res :=
 let c181 := (r65l0 (1000 + x3.length + x2.length + x1.length + x0.length) ((x0.length : Nat) : Int) ((x0.length : Nat) : Int) 0 x0 x1 x2 x3)
 let c182 := (r65l1 (1000 + x3.length + x1.length + x0.length + x2.length) ((x0.length : Nat) : Int) ((x2.length : Nat) : Int) 0 x2 x0 x1 x3)
 (cond (decide ((((x0.length : Nat) : Int) : Int) < 1))
 (a65 x0 x1 x2 x3 (0, false))
 (cond (decide ((((x0.length : Nat) : Int) : Int) > 5)) (a65 x0 x1 x2 x3 (0, false)) (cond ((((x1.length : Nat) : Int) : Int) != ((x0.length : Nat) : Int)) (a65 x0 x1 x2 x3 (0, false)) (cond (decide ((((x2.length : Nat) : Int) : Int) > 10)) (a65 x0 x1 x2 x3 (0, false)) (cond (decide ((((x3.length : Nat) : Int) : Int) > 8)) (a65 x0 x1 x2 x3 (0, false)) (cond (Nat.beq c181 0) (a65 x0 x1 x2 x3 (0, false)) (cond (Nat.beq c181 1) (cond (Nat.beq c182 0) (a65 x0 x1 x2 x3 (0, false)) (cond (Nat.beq c182 1) (cond (Nat.beq (r65l3 (1000 + x3.length) ((x0.length : Nat) : Int) ((x3.length : Nat) : Int) 0 x3) 0) (a65 x0 x1 x2 x3 (0, false)) (cond (Nat.beq (r65l3 (1000 + x3.length) ((x0.length : Nat) : Int) ((x3.length : Nat) : Int) 0 x3) 1) (a65 x0 x1 x2 x3 (0, true)) none)) none)) none)))))))
set_option maxRecDepth 100000 in
set_option maxHeartbeats 4000000 in
theorem e65 (x0 x1 x2 x3 : List (List Int)) : evFn Try.prog ext T41 L65_3 200 Try.f65 [.agg #[wsl 0, wsl 1, wsl 2, wsl 3]] ⟨[⟨true, (some (.tab [.fl .f32] x0))⟩, ⟨true, (some (.tab [.fl .f32] x1))⟩, ⟨true, (some (.tab sc0 x2))⟩, ⟨true, (some (.tab sc1 x3))⟩], 4, []⟩ = firstT [((Nat.beq ((r65 x0 x1 x2 x3).1) 0), .bool ((r65 x0 x1 x2 x3).2), ⟨[⟨true, (some (.tab [.fl .f32] x0))⟩, ⟨true, (some (.tab [.fl .f32] x1))⟩, ⟨true, (some (.tab sc0 x2))⟩, ⟨true, (some (.tab sc1 x3))⟩], 4, []⟩)] :=
 (show evFn Try.prog ext T41 L65_3 200 Try.f65 [.agg #[wsl 0, wsl 1, wsl 2, wsl 3]] ⟨[⟨true, (some (.tab [.fl .f32] x0))⟩, ⟨true, (some (.tab [.fl .f32] x1))⟩, ⟨true, (some (.tab sc0 x2))⟩, ⟨true, (some (.tab sc1 x3))⟩], 4, []⟩ = w65 x0 x1 x2 x3 from by kernel_rfl).trans
 (show w65 x0 x1 x2 x3 = a65 x0 x1 x2 x3 (r65 x0 x1 x2 x3) from by unfold w65 r65; exact (cond_app (a65 x0 x1 x2 x3) _ rfl (cond_app (a65 x0 x1 x2 x3) _ rfl (cond_app (a65 x0 x1 x2 x3) _ rfl (cond_app (a65 x0 x1 x2 x3) _ rfl (cond_app (a65 x0 x1 x2 x3) _ rfl (cond_app (a65 x0 x1 x2 x3) _ rfl (cond_app (a65 x0 x1 x2 x3) _ (cond_app (a65 x0 x1 x2 x3) _ rfl (cond_app (a65 x0 x1 x2 x3) _ (cond_app (a65 x0 x1 x2 x3) _ rfl (cond_app (a65 x0 x1 x2 x3) _ rfl rfl)) rfl)) rfl))))))))
noncomputable def s65 (args : List Value) (s : St) : List (Bool × Value × St) :=
 match args, s.h with
 | [.agg ⟨[.iface f0 .nilIface, .iface f1 .nilIface, .iface f2 .nilIface, .iface f3 .nilIface]⟩], [⟨true, some (.tab [.fl .f32] x0)⟩, ⟨true, some (.tab [.fl .f32] x1)⟩, ⟨true, some (.tab [.int .i64, .int .i64, .fl .f32, .fl .f32, .fl .f32, .fl .f32, .fl .f32, .fl .f32] x2)⟩, ⟨true, some (.tab [.int .i64, .int .i64, .fl .f32, .fl .f32] x3)⟩] => if f0 = 0 ∧ f1 = 1 ∧ f2 = 2 ∧ f3 = 3 then [((Nat.beq ((r65 x0 x1 x2 x3).1) 0), .bool ((r65 x0 x1 x2 x3).2), ⟨[⟨true, (some (.tab [.fl .f32] x0))⟩, ⟨true, (some (.tab [.fl .f32] x1))⟩, ⟨true, (some (.tab sc0 x2))⟩, ⟨true, (some (.tab sc1 x3))⟩], 4, []⟩)] else T41 65 args s
 | _, _ => T41 65 args s
noncomputable def T42 : CallF := addF T41 65 s65
set_option maxRecDepth 100000 in
set_option maxHeartbeats 4000000 in
theorem ok42 : CfOk Try.prog T42 := by
  refine cfOk_add ok41 fun args s r s' h1 h2 h3 => ?_
  unfold s65 at h3; split at h3
  · rename_i h; split at h3
    · rename_i hc; obtain ⟨rfl, rfl, rfl, rfl⟩ := hc; exact callOk ok41 Try.func65 h1 h2 h lok65_3.body (e65 _ _ _ _) rfl h3
    · exact ok41 _ _ _ _ _ h1 h2 h3
  · exact ok41 _ _ _ _ _ h1 h2 h3

/-- impl.isOutside -/
noncomputable def r66 (x0 : Nat) : Bool :=
 ((r115 x0 3262119936 1114636288))
noncomputable def a66 (x0 : Nat) (p : Bool) : Res := firstT [(true, .bool p, st0)]
noncomputable def w66 (x0 : Nat) : Res :=
 (a66 x0 ((r115 x0 3262119936 1114636288)))
set_option maxRecDepth 100000 in
set_option maxHeartbeats 4000000 in
theorem e66 (x0 : Nat) : evFn Try.prog ext T42 noL 200 Try.f66 [.float .f32 x0] st0 = firstT [(true, .bool (r66 x0), st0)] :=
 (show evFn Try.prog ext T42 noL 200 Try.f66 [.float .f32 x0] st0 = w66 x0 from by kernel_rfl).trans
 (show w66 x0 = a66 x0 (r66 x0) from by unfold w66 r66; exact rfl)
noncomputable def s66 (args : List Value) (s : St) : List (Bool × Value × St) :=
 match args, s.h with
 | [.float .f32 x0], [] => [(true, .bool (r66 x0), st0)]
 | _, _ => T42 66 args s
noncomputable def T43 : CallF := addF T42 66 s66
set_option maxRecDepth 100000 in
set_option maxHeartbeats 4000000 in
theorem ok43 : CfOk Try.prog T43 := by
  refine cfOk_add ok42 fun args s r s' h1 h2 h3 => ?_
  unfold s66 at h3; split at h3
  · rename_i h; exact callOk ok42 Try.func66 h1 h2 h (lfOkF_no _ _).body (e66 _) rfl h3
  · exact ok42 _ _ _ _ _ h1 h2 h3

/-- impl.areGains, loop 0: one round -/
noncomputable def b105l0 (ih : Int → Int → List (List Int) → Nat) (x0 x1 : Int) (x2 : List (List Int)) : Nat :=
 cond (decide ((x1 : Int) < x0)) (cond ((decide ((0 : Int) ≤ x1)) && (Nat.blt (Int.toNat x1) x2.length)) (cond (!(r115 (Int.toNat ((x2.getD (Int.toNat x1) []).getD 0 0)) 3351465984 1203982336)) (0) (ih x0 (IntKind.i64.wrap (x1 + 1)) x2)) (2)) (1)
noncomputable def r105l0 : Nat → Int → Int → List (List Int) → Nat
 | 0 => fun _ _ _ => (2)
 | m + 1 => b105l0 (r105l0 m)
noncomputable def a105l0 (x0 x1 : Int) (x2 : List (List Int)) (p : Nat) : Option (Fin' × List Value × St) := firstT ([((Nat.beq p 0), .ret, [.bool false], ⟨[⟨true, (some (.tab [.fl .f32] x2))⟩], 1, []⟩), ((Nat.beq p 1), .exit 0, [anyV], ⟨[⟨true, (some (.tab [.fl .f32] x2))⟩], 1, []⟩)].map fun (b, x) => (b, (x.1, frameOf 23 [4] x.2.1, x.2.2)))
noncomputable def u105l0 (x0 x1 : Int) (x2 : List (List Int)) (p : Nat) : Option (Fin' × List Value × St) := alts ([((Nat.beq p 0), .ret, [.bool false], ⟨[⟨true, (some (.tab [.fl .f32] x2))⟩], 1, []⟩), ((Nat.beq p 1), .exit 0, [anyV], ⟨[⟨true, (some (.tab [.fl .f32] x2))⟩], 1, []⟩)].map fun (b, x) => (b, (x.1, frameOf 23 [4] x.2.1, x.2.2))) some
theorem v105l0 (x0 x1 : Int) (x2 : List (List Int)) (p : Nat) : u105l0 x0 x1 x2 p = a105l0 x0 x1 x2 p := alts_first _
noncomputable def q105l0 (m : Nat) : SumK := fun vals s =>
 match vals, s.h with
 | [.iface f0 .nilIface, .int .i64 x0, .int .i64 x1], [⟨true, some (.tab [.fl .f32] x2)⟩] => if f0 = 0 then [((Nat.beq (r105l0 m x0 x1 x2) 0), .ret, [.bool false], ⟨[⟨true, (some (.tab [.fl .f32] x2))⟩], 1, []⟩), ((Nat.beq (r105l0 m x0 x1 x2) 1), .exit 0, [anyV], ⟨[⟨true, (some (.tab [.fl .f32] x2))⟩], 1, []⟩)] else noQ vals s
 | _, _ => noQ vals s
noncomputable def w105l0 (ih : Int → Int → List (List Int) → Nat) (x0 x1 : Int) (x2 : List (List Int)) : Option (Fin' × List Value × St) :=
 (cond (decide ((x1 : Int) < x0))
 (cond ((decide ((0 : Int) ≤ x1)) && (Nat.blt (Int.toNat x1) x2.length)) (cond (Nat.blt (Int.toNat x1) x2.length) (cond (!(r115 (Int.toNat ((x2.getD (Int.toNat x1) []).getD 0 0)) 3351465984 1203982336)) (a105l0 x0 x1 x2 (0)) (u105l0 x0 x1 x2 (ih x0 (IntKind.i64.wrap (x1 + 1)) x2))) none) none)
 (a105l0 x0 x1 x2 (1)))
set_option maxRecDepth 100000 in
set_option maxHeartbeats 4000000 in
theorem e105l0 (m : Nat) (x0 x1 : Int) (x2 : List (List Int)) : evC Try.prog ext T43 noL 200 (loopN Try.f105 0) (loopTail ([13, 14, 15], []) [4] [] (sumK 23 [13, 14, 15] [4] (q105l0 m))) (frameOf 23 [13, 14, 15] [wsl 0, .int .i64 x0, .int .i64 x1]) ⟨[⟨true, (some (.tab [.fl .f32] x2))⟩], 1, []⟩ = firstT ([((Nat.beq (r105l0 (m + 1) x0 x1 x2) 0), .ret, [.bool false], ⟨[⟨true, (some (.tab [.fl .f32] x2))⟩], 1, []⟩), ((Nat.beq (r105l0 (m + 1) x0 x1 x2) 1), .exit 0, [anyV], ⟨[⟨true, (some (.tab [.fl .f32] x2))⟩], 1, []⟩)].map fun (b, x) => (b, (x.1, frameOf 23 [4] x.2.1, x.2.2))) :=
 (show evC Try.prog ext T43 noL 200 (loopN Try.f105 0) (loopTail ([13, 14, 15], []) [4] [] (sumK 23 [13, 14, 15] [4] (q105l0 m))) (frameOf 23 [13, 14, 15] [wsl 0, .int .i64 x0, .int .i64 x1]) ⟨[⟨true, (some (.tab [.fl .f32] x2))⟩], 1, []⟩ = w105l0 (r105l0 m) x0 x1 x2 from by kernel_rfl).trans
 (show w105l0 (r105l0 m) x0 x1 x2 = a105l0 x0 x1 x2 (r105l0 (m + 1) x0 x1 x2) from by unfold w105l0; show _ = a105l0 x0 x1 x2 (b105l0 (r105l0 m) x0 x1 x2); unfold b105l0; exact (cond_both (a105l0 x0 x1 x2) _ (fun h0 => (cond_both (a105l0 x0 x1 x2) _ (fun h1 => (cond_t (ev_and2 h1) (cond_app (a105l0 x0 x1 x2) _ rfl (v105l0 x0 x1 x2 ((r105l0 m) x0 (IntKind.i64.wrap (x1 + 1)) x2))))) (fun h1 => rfl))) (fun h0 => rfl)))
set_option maxRecDepth 100000 in
set_option maxHeartbeats 4000000 in
theorem qm105l0 : ∀ m, SumKOk Try.prog (loopN Try.f105 0) 23 [13, 14, 15] [4] (q105l0 m) := by
  intro m
  induction m with
  | zero =>
    intro vals s x h1 h2 h3
    unfold q105l0 at h3; split at h3
    · rename_i h; split at h3
      · rename_i hc; obtain ⟨rfl⟩ := hc; exact absurd h3 (by simp [r105l0, firstT, Nat.beq])
      · exact noQ_ok _ _ _ h1 h2 h3
    · exact noQ_ok _ _ _ h1 h2 h3
  | succ m ih =>
    intro vals s x h1 h2 h3
    unfold q105l0 at h3; split at h3
    · rename_i h; split at h3
      · rename_i hc; obtain ⟨rfl⟩ := hc; exact sum_step ok43 extOk mixed ((lfOkF_no _ _).inner (by kernel_rfl)) ih h1 h2 h (e105l0 m _ _ _) rfl h3
      · exact noQ_ok _ _ _ h1 h2 h3
    · exact noQ_ok _ _ _ h1 h2 h3
noncomputable def Q105l0 : SumK := fun vals s => q105l0 (fuelOf vals s.h) vals s
theorem qok105l0 : SumKOk Try.prog (loopN Try.f105 0) 23 [13, 14, 15] [4] Q105l0 := fuel_ok qm105l0 fuelOf
noncomputable def L105_1 : LoopT := addL noL 5 ([13, 14, 15], []) (sumK 23 [13, 14, 15] [4] Q105l0)
theorem lok105_1 : LfOkF Try.prog L105_1 Try.f105 := lfOkF_add (lfOkF_no _ _) qok105l0 (by kernel_rfl) (by kernel_rfl) (by kernel_rfl)

/-- impl.areGains -/
noncomputable def r105 (x0 x1 x2 x3 x4 : List (List Int)) : Nat × Bool :=
 cond ((((x4.length : Nat) : Int) : Int) != ((x0.length : Nat) : Int)) (0, false) (cond (Nat.beq (r105l0 (1000 + x4.length) ((x4.length : Nat) : Int) 0 x4) 0) (0, false) (cond (Nat.beq (r105l0 (1000 + x4.length) ((x4.length : Nat) : Int) 0 x4) 1) (0, true) (1, false)))
noncomputable def a105 (x0 x1 x2 x3 x4 : List (List Int)) (p : Nat × Bool) : Res := firstT [((Nat.beq (p.1) 0), .bool (p.2), ⟨[⟨true, (some (.tab [.fl .f32] x0))⟩, ⟨true, (some (.tab [.fl .f32] x1))⟩, ⟨true, (some (.tab sc0 x2))⟩, ⟨true, (some (.tab sc1 x3))⟩, ⟨true, (some (.tab [.fl .f32] x4))⟩], 5, []⟩)]
noncomputable def w105 (x0 x1 x2 x3 x4 : List (List Int)) : Res :=
 (cond ((((x4.length : Nat) : Int) : Int) != ((x0.length : Nat) : Int))
 (a105 x0 x1 x2 x3 x4 (0, false))
 (cond (Nat.beq (r105l0 (1000 + x4.length) ((x4.length : Nat) : Int) 0 x4) 0) (a105 x0 x1 x2 x3 x4 (0, false)) (cond (Nat.beq (r105l0 (1000 + x4.length) ((x4.length : Nat) : Int) 0 x4) 1) (a105 x0 x1 x2 x3 x4 (0, true)) none)))
set_option maxRecDepth 100000 in
set_option maxHeartbeats 4000000 in
theorem e105 (x0 x1 x2 x3 x4 : List (List Int)) : evFn Try.prog ext T43 L105_1 200 Try.f105 [.agg #[wsl 0, wsl 1, wsl 2, wsl 3], wsl 4] ⟨[⟨true, (some (.tab [.fl .f32] x0))⟩, ⟨true, (some (.tab [.fl .f32] x1))⟩, ⟨true, (some (.tab sc0 x2))⟩, ⟨true, (some (.tab sc1 x3))⟩, ⟨true, (some (.tab [.fl .f32] x4))⟩], 5, []⟩ = firstT [((Nat.beq ((r105 x0 x1 x2 x3 x4).1) 0), .bool ((r105 x0 x1 x2 x3 x4).2), ⟨[⟨true, (some (.tab [.fl .f32] x0))⟩, ⟨true, (some (.tab [.fl .f32] x1))⟩, ⟨true, (some (.tab sc0 x2))⟩, ⟨true, (some (.tab sc1 x3))⟩, ⟨true, (some (.tab [.fl .f32] x4))⟩], 5, []⟩)] :=
 (show evFn Try.prog ext T43 L105_1 200 Try.f105 [.agg #[wsl 0, wsl 1, wsl 2, wsl 3], wsl 4] ⟨[⟨true, (some (.tab [.fl .f32] x0))⟩, ⟨true, (some (.tab [.fl .f32] x1))⟩, ⟨true, (some (.tab sc0 x2))⟩, ⟨true, (some (.tab sc1 x3))⟩, ⟨true, (some (.tab [.fl .f32] x4))⟩], 5, []⟩ = w105 x0 x1 x2 x3 x4 from by kernel_rfl).trans
 (show w105 x0 x1 x2 x3 x4 = a105 x0 x1 x2 x3 x4 (r105 x0 x1 x2 x3 x4) from by unfold w105 r105; exact (cond_app (a105 x0 x1 x2 x3 x4) _ rfl (cond_app (a105 x0 x1 x2 x3 x4) _ rfl (cond_app (a105 x0 x1 x2 x3 x4) _ rfl rfl))))
noncomputable def s105 (args : List Value) (s : St) : List (Bool × Value × St) :=
 match args, s.h with
 | [.agg ⟨[.iface f0 .nilIface, .iface f1 .nilIface, .iface f2 .nilIface, .iface f3 .nilIface]⟩, .iface f4 .nilIface], [⟨true, some (.tab [.fl .f32] x0)⟩, ⟨true, some (.tab [.fl .f32] x1)⟩, ⟨true, some (.tab [.int .i64, .int .i64, .fl .f32, .fl .f32, .fl .f32, .fl .f32, .fl .f32, .fl .f32] x2)⟩, ⟨true, some (.tab [.int .i64, .int .i64, .fl .f32, .fl .f32] x3)⟩, ⟨true, some (.tab [.fl .f32] x4)⟩] => if f0 = 0 ∧ f1 = 1 ∧ f2 = 2 ∧ f3 = 3 ∧ f4 = 4 then [((Nat.beq ((r105 x0 x1 x2 x3 x4).1) 0), .bool ((r105 x0 x1 x2 x3 x4).2), ⟨[⟨true, (some (.tab [.fl .f32] x0))⟩, ⟨true, (some (.tab [.fl .f32] x1))⟩, ⟨true, (some (.tab sc0 x2))⟩, ⟨true, (some (.tab sc1 x3))⟩, ⟨true, (some (.tab [.fl .f32] x4))⟩], 5, []⟩)] else T43 105 args s
 | _, _ => T43 105 args s
noncomputable def T44 : CallF := addF T43 105 s105
set_option maxRecDepth 100000 in
set_option maxHeartbeats 4000000 in
theorem ok44 : CfOk Try.prog T44 := by
  refine cfOk_add ok43 fun args s r s' h1 h2 h3 => ?_
  unfold s105 at h3; split at h3
  · rename_i h; split at h3
    · rename_i hc; obtain ⟨rfl, rfl, rfl, rfl, rfl⟩ := hc; exact callOk ok43 Try.func105 h1 h2 h lok105_1.body (e105 _ _ _ _ _) rfl h3
    · exact ok43 _ _ _ _ _ h1 h2 h3
  · exact ok43 _ _ _ _ _ h1 h2 h3

/-- impl.flatCode -/
noncomputable def r55 (x0 x1 : Nat) (x2 x3 x4 x5 x6 : List (List Int)) : Nat × Int :=
 cond (Nat.beq ((r65 x2 x3 x4 x5).1) 0) (cond (!((r65 x2 x3 x4 x5).2)) (0, 1) (cond (!(r66 x0)) (0, 2) (cond (!(r67 x1 1092616192)) (0, 2) (cond (Nat.beq ((r105 x2 x3 x4 x5 x6).1) 0) (cond (!((r105 x2 x3 x4 x5 x6).2)) (0, 2) (0, 0)) (1, 0))))) (1, 0)
noncomputable def a55 (x0 x1 : Nat) (x2 x3 x4 x5 x6 : List (List Int)) (p : Nat × Int) : Res := firstT [((Nat.beq (p.1) 0), .int .i64 (p.2), ⟨[⟨true, (some (.tab [.fl .f32] x2))⟩, ⟨true, (some (.tab [.fl .f32] x3))⟩, ⟨true, (some (.tab sc0 x4))⟩, ⟨true, (some (.tab sc1 x5))⟩, ⟨true, (some (.tab [.fl .f32] x6))⟩], 5, []⟩)]
noncomputable def w55 (x0 x1 : Nat) (x2 x3 x4 x5 x6 : List (List Int)) : Res :=
 (cond (Nat.beq ((r65 x2 x3 x4 x5).1) 0)
 (cond (!((r65 x2 x3 x4 x5).2)) (a55 x0 x1 x2 x3 x4 x5 x6 (0, 1)) (cond (!(r66 x0)) (a55 x0 x1 x2 x3 x4 x5 x6 (0, 2)) (cond (!(r67 x1 1092616192)) (a55 x0 x1 x2 x3 x4 x5 x6 (0, 2)) (cond (Nat.beq ((r105 x2 x3 x4 x5 x6).1) 0) (cond (!((r105 x2 x3 x4 x5 x6).2)) (a55 x0 x1 x2 x3 x4 x5 x6 (0, 2)) (a55 x0 x1 x2 x3 x4 x5 x6 (0, 0))) none))))
 none)
set_option maxRecDepth 100000 in
set_option maxHeartbeats 4000000 in
theorem e55 (x0 x1 : Nat) (x2 x3 x4 x5 x6 : List (List Int)) : evFn Try.prog ext T44 noL 200 Try.f55 [.agg #[wsl 0, wsl 1, wsl 2, wsl 3], .float .f32 x0, .float .f32 x1, wsl 4] ⟨[⟨true, (some (.tab [.fl .f32] x2))⟩, ⟨true, (some (.tab [.fl .f32] x3))⟩, ⟨true, (some (.tab sc0 x4))⟩, ⟨true, (some (.tab sc1 x5))⟩, ⟨true, (some (.tab [.fl .f32] x6))⟩], 5, []⟩ = firstT [((Nat.beq ((r55 x0 x1 x2 x3 x4 x5 x6).1) 0), .int .i64 ((r55 x0 x1 x2 x3 x4 x5 x6).2), ⟨[⟨true, (some (.tab [.fl .f32] x2))⟩, ⟨true, (some (.tab [.fl .f32] x3))⟩, ⟨true, (some (.tab sc0 x4))⟩, ⟨true, (some (.tab sc1 x5))⟩, ⟨true, (some (.tab [.fl .f32] x6))⟩], 5, []⟩)] :=
 (show evFn Try.prog ext T44 noL 200 Try.f55 [.agg #[wsl 0, wsl 1, wsl 2, wsl 3], .float .f32 x0, .float .f32 x1, wsl 4] ⟨[⟨true, (some (.tab [.fl .f32] x2))⟩, ⟨true, (some (.tab [.fl .f32] x3))⟩, ⟨true, (some (.tab sc0 x4))⟩, ⟨true, (some (.tab sc1 x5))⟩, ⟨true, (some (.tab [.fl .f32] x6))⟩], 5, []⟩ = w55 x0 x1 x2 x3 x4 x5 x6 from by kernel_rfl).trans
 (show w55 x0 x1 x2 x3 x4 x5 x6 = a55 x0 x1 x2 x3 x4 x5 x6 (r55 x0 x1 x2 x3 x4 x5 x6) from by unfold w55 r55; exact (cond_app (a55 x0 x1 x2 x3 x4 x5 x6) _ (cond_app (a55 x0 x1 x2 x3 x4 x5 x6) _ rfl (cond_app (a55 x0 x1 x2 x3 x4 x5 x6) _ rfl (cond_app (a55 x0 x1 x2 x3 x4 x5 x6) _ rfl (cond_app (a55 x0 x1 x2 x3 x4 x5 x6) _ (cond_app (a55 x0 x1 x2 x3 x4 x5 x6) _ rfl rfl) rfl)))) rfl))
noncomputable def s55 (args : List Value) (s : St) : List (Bool × Value × St) :=
 match args, s.h with
 | [.agg ⟨[.iface f0 .nilIface, .iface f1 .nilIface, .iface f2 .nilIface, .iface f3 .nilIface]⟩, .float .f32 x0, .float .f32 x1, .iface f4 .nilIface], [⟨true, some (.tab [.fl .f32] x2)⟩, ⟨true, some (.tab [.fl .f32] x3)⟩, ⟨true, some (.tab [.int .i64, .int .i64, .fl .f32, .fl .f32, .fl .f32, .fl .f32, .fl .f32, .fl .f32] x4)⟩, ⟨true, some (.tab [.int .i64, .int .i64, .fl .f32, .fl .f32] x5)⟩, ⟨true, some (.tab [.fl .f32] x6)⟩] => if f0 = 0 ∧ f1 = 1 ∧ f2 = 2 ∧ f3 = 3 ∧ f4 = 4 then [((Nat.beq ((r55 x0 x1 x2 x3 x4 x5 x6).1) 0), .int .i64 ((r55 x0 x1 x2 x3 x4 x5 x6).2), ⟨[⟨true, (some (.tab [.fl .f32] x2))⟩, ⟨true, (some (.tab [.fl .f32] x3))⟩, ⟨true, (some (.tab sc0 x4))⟩, ⟨true, (some (.tab sc1 x5))⟩, ⟨true, (some (.tab [.fl .f32] x6))⟩], 5, []⟩)] else T44 55 args s
 | _, _ => T44 55 args s
noncomputable def T45 : CallF := addF T44 55 s55
set_option maxRecDepth 100000 in
set_option maxHeartbeats 4000000 in
theorem ok45 : CfOk Try.prog T45 := by
  refine cfOk_add ok44 fun args s r s' h1 h2 h3 => ?_
  unfold s55 at h3; split at h3
  · rename_i h; split at h3
    · rename_i hc; obtain ⟨rfl, rfl, rfl, rfl, rfl⟩ := hc; exact callOk ok44 Try.func55 h1 h2 h (lfOkF_no _ _).body (e55 _ _ _ _ _ _ _) rfl h3
    · exact ok44 _ _ _ _ _ h1 h2 h3
  · exact ok44 _ _ _ _ _ h1 h2 h3

/-- impl.IsShare -/
noncomputable def r63 (x0 : Nat) : Bool :=
 cond (r111 x0) ((flt .f32 x0 1065353216 || feq .f32 x0 1065353216)) (false)
noncomputable def a63 (x0 : Nat) (p : Bool) : Res := firstT [(true, .bool p, st0)]
noncomputable def w63 (x0 : Nat) : Res :=
 (cond (r111 x0)
 (a63 x0 ((flt .f32 x0 1065353216 || feq .f32 x0 1065353216)))
 (a63 x0 (false)))
set_option maxRecDepth 100000 in
set_option maxHeartbeats 4000000 in
theorem e63 (x0 : Nat) : evFn Try.prog ext T45 noL 200 Try.f63 [.float .f32 x0] st0 = firstT [(true, .bool (r63 x0), st0)] :=
 (show evFn Try.prog ext T45 noL 200 Try.f63 [.float .f32 x0] st0 = w63 x0 from by kernel_rfl).trans
 (show w63 x0 = a63 x0 (r63 x0) from by unfold w63 r63; exact (cond_app (a63 x0) _ rfl rfl))
noncomputable def s63 (args : List Value) (s : St) : List (Bool × Value × St) :=
 match args, s.h with
 | [.float .f32 x0], [] => [(true, .bool (r63 x0), st0)]
 | _, _ => T45 63 args s
noncomputable def T46 : CallF := addF T45 63 s63
set_option maxRecDepth 100000 in
set_option maxHeartbeats 4000000 in
theorem ok46 : CfOk Try.prog T46 := by
  refine cfOk_add ok45 fun args s r s' h1 h2 h3 => ?_
  unfold s63 at h3; split at h3
  · rename_i h; exact callOk ok45 Try.func63 h1 h2 h (lfOkF_no _ _).body (e63 _) rfl h3
  · exact ok45 _ _ _ _ _ h1 h2 h3

/-- impl.ownFlat -/
noncomputable def r73 (x0 x1 x2 x3 : List (List Int)) : Nat × List (List Int) × List (List Int) × List (List Int) × List (List Int) :=
 cond (Nat.ble ((0 + x0.length) * 5) 140737488355328) (cond (Nat.ble ((0 + x1.length) * 5) 140737488355328) (cond (Nat.ble ((0 + x2.length) * 41) 140737488355328) (cond (Nat.ble ((0 + x3.length) * 25) 140737488355328) (0, (([] : List (List Int)) ++ x0), (([] : List (List Int)) ++ x1), (([] : List (List Int)) ++ x2), (([] : List (List Int)) ++ x3)) (1, [], [], [], [])) (1, [], [], [], [])) (1, [], [], [], [])) (1, [], [], [], [])
noncomputable def a73 (x0 x1 x2 x3 : List (List Int)) (p : Nat × List (List Int) × List (List Int) × List (List Int) × List (List Int)) : Res := firstT [((Nat.beq (p.1) 0), .agg #[wsl 4, wsl 5, wsl 6, wsl 7], ⟨[⟨true, (some (.tab [.fl .f32] x0))⟩, ⟨true, (some (.tab [.fl .f32] x1))⟩, ⟨true, (some (.tab sc0 x2))⟩, ⟨true, (some (.tab sc1 x3))⟩, ⟨true, (some (.tab [.fl .f32] (p.2.1)))⟩, ⟨true, (some (.tab [.fl .f32] (p.2.2.1)))⟩, ⟨true, (some (.tab sc0 (p.2.2.2.1)))⟩, ⟨true, (some (.tab sc1 (p.2.2.2.2)))⟩], 4, []⟩)]
noncomputable def w73 (x0 x1 x2 x3 : List (List Int)) : Res :=
 (cond (Nat.ble ((0 + x0.length) * 5) 140737488355328)
 (cond (Nat.ble ((0 + x1.length) * 5) 140737488355328) (cond (Nat.ble ((0 + x2.length) * 41) 140737488355328) (cond (Nat.ble ((0 + x3.length) * 25) 140737488355328) (a73 x0 x1 x2 x3 (0, (([] : List (List Int)) ++ x0), (([] : List (List Int)) ++ x1), (([] : List (List Int)) ++ x2), (([] : List (List Int)) ++ x3))) none) none) none)
 none)
set_option maxRecDepth 100000 in
set_option maxHeartbeats 4000000 in
theorem e73 (x0 x1 x2 x3 : List (List Int)) : evFn Try.prog ext T46 noL 200 Try.f73 [.agg #[wsl 0, wsl 1, wsl 2, wsl 3]] ⟨[⟨true, (some (.tab [.fl .f32] x0))⟩, ⟨true, (some (.tab [.fl .f32] x1))⟩, ⟨true, (some (.tab sc0 x2))⟩, ⟨true, (some (.tab sc1 x3))⟩], 4, []⟩ = firstT [((Nat.beq ((r73 x0 x1 x2 x3).1) 0), .agg #[wsl 4, wsl 5, wsl 6, wsl 7], ⟨[⟨true, (some (.tab [.fl .f32] x0))⟩, ⟨true, (some (.tab [.fl .f32] x1))⟩, ⟨true, (some (.tab sc0 x2))⟩, ⟨true, (some (.tab sc1 x3))⟩, ⟨true, (some (.tab [.fl .f32] ((r73 x0 x1 x2 x3).2.1)))⟩, ⟨true, (some (.tab [.fl .f32] ((r73 x0 x1 x2 x3).2.2.1)))⟩, ⟨true, (some (.tab sc0 ((r73 x0 x1 x2 x3).2.2.2.1)))⟩, ⟨true, (some (.tab sc1 ((r73 x0 x1 x2 x3).2.2.2.2)))⟩], 4, []⟩)] :=
 (show evFn Try.prog ext T46 noL 200 Try.f73 [.agg #[wsl 0, wsl 1, wsl 2, wsl 3]] ⟨[⟨true, (some (.tab [.fl .f32] x0))⟩, ⟨true, (some (.tab [.fl .f32] x1))⟩, ⟨true, (some (.tab sc0 x2))⟩, ⟨true, (some (.tab sc1 x3))⟩], 4, []⟩ = w73 x0 x1 x2 x3 from by kernel_rfl).trans
 (show w73 x0 x1 x2 x3 = a73 x0 x1 x2 x3 (r73 x0 x1 x2 x3) from by unfold w73 r73; exact (cond_app (a73 x0 x1 x2 x3) _ (cond_app (a73 x0 x1 x2 x3) _ (cond_app (a73 x0 x1 x2 x3) _ (cond_app (a73 x0 x1 x2 x3) _ rfl rfl) rfl) rfl) rfl))
noncomputable def s73 (args : List Value) (s : St) : List (Bool × Value × St) :=
 match args, s.h with
 | [.agg ⟨[.iface f0 .nilIface, .iface f1 .nilIface, .iface f2 .nilIface, .iface f3 .nilIface]⟩], [⟨true, some (.tab [.fl .f32] x0)⟩, ⟨true, some (.tab [.fl .f32] x1)⟩, ⟨true, some (.tab [.int .i64, .int .i64, .fl .f32, .fl .f32, .fl .f32, .fl .f32, .fl .f32, .fl .f32] x2)⟩, ⟨true, some (.tab [.int .i64, .int .i64, .fl .f32, .fl .f32] x3)⟩] => if f0 = 0 ∧ f1 = 1 ∧ f2 = 2 ∧ f3 = 3 then [((Nat.beq ((r73 x0 x1 x2 x3).1) 0), .agg #[wsl 4, wsl 5, wsl 6, wsl 7], ⟨[⟨true, (some (.tab [.fl .f32] x0))⟩, ⟨true, (some (.tab [.fl .f32] x1))⟩, ⟨true, (some (.tab sc0 x2))⟩, ⟨true, (some (.tab sc1 x3))⟩, ⟨true, (some (.tab [.fl .f32] ((r73 x0 x1 x2 x3).2.1)))⟩, ⟨true, (some (.tab [.fl .f32] ((r73 x0 x1 x2 x3).2.2.1)))⟩, ⟨true, (some (.tab sc0 ((r73 x0 x1 x2 x3).2.2.2.1)))⟩, ⟨true, (some (.tab sc1 ((r73 x0 x1 x2 x3).2.2.2.2)))⟩], 4, []⟩)] else T46 73 args s
 | _, _ => T46 73 args s
noncomputable def T47 : CallF := addF T46 73 s73
set_option maxRecDepth 100000 in
set_option maxHeartbeats 4000000 in
theorem ok47 : CfOk Try.prog T47 := by
  refine cfOk_add ok46 fun args s r s' h1 h2 h3 => ?_
  unfold s73 at h3; split at h3
  · rename_i h; split at h3
    · rename_i hc; obtain ⟨rfl, rfl, rfl, rfl⟩ := hc; exact callOk ok46 Try.func73 h1 h2 h (lfOkF_no _ _).body (e73 _ _ _ _) rfl h3
    · exact ok46 _ _ _ _ _ h1 h2 h3
  · exact ok46 _ _ _ _ _ h1 h2 h3

/-- impl.roomFlows, loop 0: one round -/
noncomputable def b97l0 (ih : Nat → Nat → Int → Int → List (List Int) → List (List Int) → List (List Int) → List (List Int) → List (List Int) → (Nat × List (List Int))) (x0 x1 : Nat) (x2 x3 : Int) (x4 x5 x6 x7 x8 : List (List Int)) : Nat × List (List Int) :=
 cond (decide ((x3 : Int) < x2)) (cond ((decide ((0 : Int) ≤ x3)) && (Nat.blt (Int.toNat x3) x5.length)) (cond ((decide ((0 : Int) ≤ ((x5.getD (Int.toNat x3) []).getD 0 0))) && (Nat.blt (Int.toNat ((x5.getD (Int.toNat x3) []).getD 0 0)) x4.length)) (cond ((decide ((0 : Int) ≤ ((x5.getD (Int.toNat x3) []).getD 0 0))) && (Nat.blt (Int.toNat ((x5.getD (Int.toNat x3) []).getD 0 0)) x6.length)) (cond ((((x5.getD (Int.toNat x3) []).getD 1 0) : Int) != (-1)) (cond ((decide ((0 : Int) ≤ ((x5.getD (Int.toNat x3) []).getD 1 0))) && (Nat.blt (Int.toNat ((x5.getD (Int.toNat x3) []).getD 1 0)) ((x4.set (Int.toNat ((x5.getD (Int.toNat x3) []).getD 0 0)) [(((fadd .f32 (Int.toNat ((x4.getD (Int.toNat ((x5.getD (Int.toNat x3) []).getD 0 0)) []).getD 0 0)) (fmul .f32 (fmul .f32 1073741824 (Int.toNat ((x5.getD (Int.toNat x3) []).getD 2 0))) (fsub .f32 (Int.toNat ((x5.getD (Int.toNat x3) []).getD 4 0)) (Int.toNat ((x6.getD (Int.toNat ((x5.getD (Int.toNat x3) []).getD 0 0)) []).getD 0 0))))) : Nat) : Int)]).length))) (cond ((decide ((0 : Int) ≤ ((x5.getD (Int.toNat x3) []).getD 1 0))) && (Nat.blt (Int.toNat ((x5.getD (Int.toNat x3) []).getD 1 0)) x6.length)) (ih x0 x1 x2 (IntKind.i64.wrap (x3 + 1)) ((x4.set (Int.toNat ((x5.getD (Int.toNat x3) []).getD 0 0)) [(((fadd .f32 (Int.toNat ((x4.getD (Int.toNat ((x5.getD (Int.toNat x3) []).getD 0 0)) []).getD 0 0)) (fmul .f32 (fmul .f32 1073741824 (Int.toNat ((x5.getD (Int.toNat x3) []).getD 2 0))) (fsub .f32 (Int.toNat ((x5.getD (Int.toNat x3) []).getD 4 0)) (Int.toNat ((x6.getD (Int.toNat ((x5.getD (Int.toNat x3) []).getD 0 0)) []).getD 0 0))))) : Nat) : Int)]).set (Int.toNat ((x5.getD (Int.toNat x3) []).getD 1 0)) [(((fadd .f32 (Int.toNat (((x4.set (Int.toNat ((x5.getD (Int.toNat x3) []).getD 0 0)) [(((fadd .f32 (Int.toNat ((x4.getD (Int.toNat ((x5.getD (Int.toNat x3) []).getD 0 0)) []).getD 0 0)) (fmul .f32 (fmul .f32 1073741824 (Int.toNat ((x5.getD (Int.toNat x3) []).getD 2 0))) (fsub .f32 (Int.toNat ((x5.getD (Int.toNat x3) []).getD 4 0)) (Int.toNat ((x6.getD (Int.toNat ((x5.getD (Int.toNat x3) []).getD 0 0)) []).getD 0 0))))) : Nat) : Int)]).getD (Int.toNat ((x5.getD (Int.toNat x3) []).getD 1 0)) []).getD 0 0)) (fmul .f32 (fmul .f32 1073741824 (Int.toNat ((x5.getD (Int.toNat x3) []).getD 2 0))) (fsub .f32 (Int.toNat ((x5.getD (Int.toNat x3) []).getD 7 0)) (Int.toNat ((x6.getD (Int.toNat ((x5.getD (Int.toNat x3) []).getD 1 0)) []).getD 0 0))))) : Nat) : Int)]) x5 x6 x7 x8) (1, [])) (1, [])) (ih x0 x1 x2 (IntKind.i64.wrap (x3 + 1)) (x4.set (Int.toNat ((x5.getD (Int.toNat x3) []).getD 0 0)) [(((fadd .f32 (Int.toNat ((x4.getD (Int.toNat ((x5.getD (Int.toNat x3) []).getD 0 0)) []).getD 0 0)) (fmul .f32 (fmul .f32 1073741824 (Int.toNat ((x5.getD (Int.toNat x3) []).getD 2 0))) (fsub .f32 (Int.toNat ((x5.getD (Int.toNat x3) []).getD 4 0)) (Int.toNat ((x6.getD (Int.toNat ((x5.getD (Int.toNat x3) []).getD 0 0)) []).getD 0 0))))) : Nat) : Int)]) x5 x6 x7 x8)) (1, [])) (1, [])) (1, [])) (0, x4)
noncomputable def r97l0 : Nat → Nat → Nat → Int → Int → List (List Int) → List (List Int) → List (List Int) → List (List Int) → List (List Int) → (Nat × List (List Int))
 | 0 => fun _ _ _ _ _ _ _ _ _ => (1, [])
 | m + 1 => b97l0 (r97l0 m)
noncomputable def a97l0 (x0 x1 : Nat) (x2 x3 : Int) (x4 x5 x6 x7 x8 : List (List Int)) (p : Nat × List (List Int)) : Option (Fin' × List Value × St) := firstT ([((Nat.beq (p.1) 0), .exit 0, [.float .f32 x0, .float .f32 x1, .pointer (some ⟨0, 0, some 0⟩), wsl 1], ⟨[⟨true, (some (.cells [wsl 3, wsl 4, wsl 2, wsl 5]))⟩, ⟨true, (some (.tab [.fl .f32] (p.2)))⟩, ⟨true, (some (.tab sc0 x5))⟩, ⟨true, (some (.tab [.fl .f32] x6))⟩, ⟨true, (some (.tab [.fl .f32] x7))⟩, ⟨true, (some (.tab sc1 x8))⟩], 6, [1]⟩)].map fun (b, x) => (b, (x.1, frameOf 132 [1, 2, 3, 7] x.2.1, x.2.2)))
noncomputable def u97l0 (x0 x1 : Nat) (x2 x3 : Int) (x4 x5 x6 x7 x8 : List (List Int)) (p : Nat × List (List Int)) : Option (Fin' × List Value × St) := alts ([((Nat.beq (p.1) 0), .exit 0, [.float .f32 x0, .float .f32 x1, .pointer (some ⟨0, 0, some 0⟩), wsl 1], ⟨[⟨true, (some (.cells [wsl 3, wsl 4, wsl 2, wsl 5]))⟩, ⟨true, (some (.tab [.fl .f32] (p.2)))⟩, ⟨true, (some (.tab sc0 x5))⟩, ⟨true, (some (.tab [.fl .f32] x6))⟩, ⟨true, (some (.tab [.fl .f32] x7))⟩, ⟨true, (some (.tab sc1 x8))⟩], 6, [1]⟩)].map fun (b, x) => (b, (x.1, frameOf 132 [1, 2, 3, 7] x.2.1, x.2.2))) some
theorem v97l0 (x0 x1 : Nat) (x2 x3 : Int) (x4 x5 x6 x7 x8 : List (List Int)) (p : Nat × List (List Int)) : u97l0 x0 x1 x2 x3 x4 x5 x6 x7 x8 p = a97l0 x0 x1 x2 x3 x4 x5 x6 x7 x8 p := alts_first _
noncomputable def q97l0 (m : Nat) : SumK := fun vals s =>
 match vals, s.h with
 | [.float .f32 x0, .float .f32 x1, .pointer (some ⟨f0, f1, some f2⟩), .iface f3 .nilIface, .iface f4 .nilIface, .int .i64 x2, .int .i64 x3], [⟨true, some (.cells [.iface f5 .nilIface, .iface f6 .nilIface, .iface f7 .nilIface, .iface f8 .nilIface])⟩, ⟨true, some (.tab [.fl .f32] x4)⟩, ⟨true, some (.tab [.int .i64, .int .i64, .fl .f32, .fl .f32, .fl .f32, .fl .f32, .fl .f32, .fl .f32] x5)⟩, ⟨true, some (.tab [.fl .f32] x6)⟩, ⟨true, some (.tab [.fl .f32] x7)⟩, ⟨true, some (.tab [.int .i64, .int .i64, .fl .f32, .fl .f32] x8)⟩] => if f0 = 0 ∧ f1 = 0 ∧ f2 = 0 ∧ f3 = 1 ∧ f4 = 2 ∧ f5 = 3 ∧ f6 = 4 ∧ f7 = 2 ∧ f8 = 5 then [((Nat.beq ((r97l0 m x0 x1 x2 x3 x4 x5 x6 x7 x8).1) 0), .exit 0, [.float .f32 x0, .float .f32 x1, .pointer (some ⟨0, 0, some 0⟩), wsl 1], ⟨[⟨true, (some (.cells [wsl 3, wsl 4, wsl 2, wsl 5]))⟩, ⟨true, (some (.tab [.fl .f32] ((r97l0 m x0 x1 x2 x3 x4 x5 x6 x7 x8).2)))⟩, ⟨true, (some (.tab sc0 x5))⟩, ⟨true, (some (.tab [.fl .f32] x6))⟩, ⟨true, (some (.tab [.fl .f32] x7))⟩, ⟨true, (some (.tab sc1 x8))⟩], 6, [1]⟩)] else noQ vals s
 | _, _ => noQ vals s
noncomputable def w97l0 (ih : Nat → Nat → Int → Int → List (List Int) → List (List Int) → List (List Int) → List (List Int) → List (List Int) → (Nat × List (List Int))) (x0 x1 : Nat) (x2 x3 : Int) (x4 x5 x6 x7 x8 : List (List Int)) : Option (Fin' × List Value × St) :=
 (cond (decide ((x3 : Int) < x2))
 (cond ((decide ((0 : Int) ≤ x3)) && (Nat.blt (Int.toNat x3) x5.length)) (cond (Nat.blt (Int.toNat x3) x5.length) (cond ((decide ((0 : Int) ≤ ((x5.getD (Int.toNat x3) []).getD 0 0))) && (Nat.blt (Int.toNat ((x5.getD (Int.toNat x3) []).getD 0 0)) x4.length)) (cond (Nat.blt (Int.toNat ((x5.getD (Int.toNat x3) []).getD 0 0)) x4.length) (cond ((decide ((0 : Int) ≤ ((x5.getD (Int.toNat x3) []).getD 0 0))) && (Nat.blt (Int.toNat ((x5.getD (Int.toNat x3) []).getD 0 0)) x6.length)) (cond (Nat.blt (Int.toNat ((x5.getD (Int.toNat x3) []).getD 0 0)) x6.length) (cond ((decide ((0 : Int) ≤ ((x5.getD (Int.toNat x3) []).getD 0 0))) && (Nat.blt (Int.toNat ((x5.getD (Int.toNat x3) []).getD 0 0)) x4.length)) (cond (Nat.blt (Int.toNat ((x5.getD (Int.toNat x3) []).getD 0 0)) x4.length) (cond ((((x5.getD (Int.toNat x3) []).getD 1 0) : Int) != (-1)) (cond ((decide ((0 : Int) ≤ ((x5.getD (Int.toNat x3) []).getD 1 0))) && (Nat.blt (Int.toNat ((x5.getD (Int.toNat x3) []).getD 1 0)) ((x4.set (Int.toNat ((x5.getD (Int.toNat x3) []).getD 0 0)) [(((fadd .f32 (Int.toNat ((x4.getD (Int.toNat ((x5.getD (Int.toNat x3) []).getD 0 0)) []).getD 0 0)) (fmul .f32 (fmul .f32 1073741824 (Int.toNat ((x5.getD (Int.toNat x3) []).getD 2 0))) (fsub .f32 (Int.toNat ((x5.getD (Int.toNat x3) []).getD 4 0)) (Int.toNat ((x6.getD (Int.toNat ((x5.getD (Int.toNat x3) []).getD 0 0)) []).getD 0 0))))) : Nat) : Int)]).length))) (cond (Nat.blt (Int.toNat ((x5.getD (Int.toNat x3) []).getD 1 0)) ((x4.set (Int.toNat ((x5.getD (Int.toNat x3) []).getD 0 0)) [(((fadd .f32 (Int.toNat ((x4.getD (Int.toNat ((x5.getD (Int.toNat x3) []).getD 0 0)) []).getD 0 0)) (fmul .f32 (fmul .f32 1073741824 (Int.toNat ((x5.getD (Int.toNat x3) []).getD 2 0))) (fsub .f32 (Int.toNat ((x5.getD (Int.toNat x3) []).getD 4 0)) (Int.toNat ((x6.getD (Int.toNat ((x5.getD (Int.toNat x3) []).getD 0 0)) []).getD 0 0))))) : Nat) : Int)]).length)) (cond ((decide ((0 : Int) ≤ ((x5.getD (Int.toNat x3) []).getD 1 0))) && (Nat.blt (Int.toNat ((x5.getD (Int.toNat x3) []).getD 1 0)) x6.length)) (cond (Nat.blt (Int.toNat ((x5.getD (Int.toNat x3) []).getD 1 0)) x6.length) (cond ((decide ((0 : Int) ≤ ((x5.getD (Int.toNat x3) []).getD 1 0))) && (Nat.blt (Int.toNat ((x5.getD (Int.toNat x3) []).getD 1 0)) ((x4.set (Int.toNat ((x5.getD (Int.toNat x3) []).getD 0 0)) [(((fadd .f32 (Int.toNat ((x4.getD (Int.toNat ((x5.getD (Int.toNat x3) []).getD 0 0)) []).getD 0 0)) (fmul .f32 (fmul .f32 1073741824 (Int.toNat ((x5.getD (Int.toNat x3) []).getD 2 0))) (fsub .f32 (Int.toNat ((x5.getD (Int.toNat x3) []).getD 4 0)) (Int.toNat ((x6.getD (Int.toNat ((x5.getD (Int.toNat x3) []).getD 0 0)) []).getD 0 0))))) : Nat) : Int)]).length))) (cond (Nat.blt (Int.toNat ((x5.getD (Int.toNat x3) []).getD 1 0)) ((x4.set (Int.toNat ((x5.getD (Int.toNat x3) []).getD 0 0)) [(((fadd .f32 (Int.toNat ((x4.getD (Int.toNat ((x5.getD (Int.toNat x3) []).getD 0 0)) []).getD 0 0)) (fmul .f32 (fmul .f32 1073741824 (Int.toNat ((x5.getD (Int.toNat x3) []).getD 2 0))) (fsub .f32 (Int.toNat ((x5.getD (Int.toNat x3) []).getD 4 0)) (Int.toNat ((x6.getD (Int.toNat ((x5.getD (Int.toNat x3) []).getD 0 0)) []).getD 0 0))))) : Nat) : Int)]).length)) (u97l0 x0 x1 x2 x3 x4 x5 x6 x7 x8 (ih x0 x1 x2 (IntKind.i64.wrap (x3 + 1)) ((x4.set (Int.toNat ((x5.getD (Int.toNat x3) []).getD 0 0)) [(((fadd .f32 (Int.toNat ((x4.getD (Int.toNat ((x5.getD (Int.toNat x3) []).getD 0 0)) []).getD 0 0)) (fmul .f32 (fmul .f32 1073741824 (Int.toNat ((x5.getD (Int.toNat x3) []).getD 2 0))) (fsub .f32 (Int.toNat ((x5.getD (Int.toNat x3) []).getD 4 0)) (Int.toNat ((x6.getD (Int.toNat ((x5.getD (Int.toNat x3) []).getD 0 0)) []).getD 0 0))))) : Nat) : Int)]).set (Int.toNat ((x5.getD (Int.toNat x3) []).getD 1 0)) [(((fadd .f32 (Int.toNat (((x4.set (Int.toNat ((x5.getD (Int.toNat x3) []).getD 0 0)) [(((fadd .f32 (Int.toNat ((x4.getD (Int.toNat ((x5.getD (Int.toNat x3) []).getD 0 0)) []).getD 0 0)) (fmul .f32 (fmul .f32 1073741824 (Int.toNat ((x5.getD (Int.toNat x3) []).getD 2 0))) (fsub .f32 (Int.toNat ((x5.getD (Int.toNat x3) []).getD 4 0)) (Int.toNat ((x6.getD (Int.toNat ((x5.getD (Int.toNat x3) []).getD 0 0)) []).getD 0 0))))) : Nat) : Int)]).getD (Int.toNat ((x5.getD (Int.toNat x3) []).getD 1 0)) []).getD 0 0)) (fmul .f32 (fmul .f32 1073741824 (Int.toNat ((x5.getD (Int.toNat x3) []).getD 2 0))) (fsub .f32 (Int.toNat ((x5.getD (Int.toNat x3) []).getD 7 0)) (Int.toNat ((x6.getD (Int.toNat ((x5.getD (Int.toNat x3) []).getD 1 0)) []).getD 0 0))))) : Nat) : Int)]) x5 x6 x7 x8)) none) none) none) none) none) none) (u97l0 x0 x1 x2 x3 x4 x5 x6 x7 x8 (ih x0 x1 x2 (IntKind.i64.wrap (x3 + 1)) (x4.set (Int.toNat ((x5.getD (Int.toNat x3) []).getD 0 0)) [(((fadd .f32 (Int.toNat ((x4.getD (Int.toNat ((x5.getD (Int.toNat x3) []).getD 0 0)) []).getD 0 0)) (fmul .f32 (fmul .f32 1073741824 (Int.toNat ((x5.getD (Int.toNat x3) []).getD 2 0))) (fsub .f32 (Int.toNat ((x5.getD (Int.toNat x3) []).getD 4 0)) (Int.toNat ((x6.getD (Int.toNat ((x5.getD (Int.toNat x3) []).getD 0 0)) []).getD 0 0))))) : Nat) : Int)]) x5 x6 x7 x8))) none) none) none) none) none) none) none) none)
 (a97l0 x0 x1 x2 x3 x4 x5 x6 x7 x8 (0, x4)))
set_option maxRecDepth 100000 in
set_option maxHeartbeats 4000000 in
theorem e97l0 (m : Nat) (x0 x1 : Nat) (x2 x3 : Int) (x4 x5 x6 x7 x8 : List (List Int)) : evC Try.prog ext T47 noL 200 (loopN Try.f97 0) (loopTail ([1, 2, 3, 7, 20, 21, 22], []) [1, 2, 3, 7] [1] (sumK 132 [1, 2, 3, 7, 20, 21, 22] [1, 2, 3, 7] (q97l0 m))) (frameOf 132 [1, 2, 3, 7, 20, 21, 22] [.float .f32 x0, .float .f32 x1, .pointer (some ⟨0, 0, some 0⟩), wsl 1, wsl 2, .int .i64 x2, .int .i64 x3]) ⟨[⟨true, (some (.cells [wsl 3, wsl 4, wsl 2, wsl 5]))⟩, ⟨true, (some (.tab [.fl .f32] x4))⟩, ⟨true, (some (.tab sc0 x5))⟩, ⟨true, (some (.tab [.fl .f32] x6))⟩, ⟨true, (some (.tab [.fl .f32] x7))⟩, ⟨true, (some (.tab sc1 x8))⟩], 6, []⟩ = firstT ([((Nat.beq ((r97l0 (m + 1) x0 x1 x2 x3 x4 x5 x6 x7 x8).1) 0), .exit 0, [.float .f32 x0, .float .f32 x1, .pointer (some ⟨0, 0, some 0⟩), wsl 1], ⟨[⟨true, (some (.cells [wsl 3, wsl 4, wsl 2, wsl 5]))⟩, ⟨true, (some (.tab [.fl .f32] ((r97l0 (m + 1) x0 x1 x2 x3 x4 x5 x6 x7 x8).2)))⟩, ⟨true, (some (.tab sc0 x5))⟩, ⟨true, (some (.tab [.fl .f32] x6))⟩, ⟨true, (some (.tab [.fl .f32] x7))⟩, ⟨true, (some (.tab sc1 x8))⟩], 6, [1]⟩)].map fun (b, x) => (b, (x.1, frameOf 132 [1, 2, 3, 7] x.2.1, x.2.2))) :=
 (show evC Try.prog ext T47 noL 200 (loopN Try.f97 0) (loopTail ([1, 2, 3, 7, 20, 21, 22], []) [1, 2, 3, 7] [1] (sumK 132 [1, 2, 3, 7, 20, 21, 22] [1, 2, 3, 7] (q97l0 m))) (frameOf 132 [1, 2, 3, 7, 20, 21, 22] [.float .f32 x0, .float .f32 x1, .pointer (some ⟨0, 0, some 0⟩), wsl 1, wsl 2, .int .i64 x2, .int .i64 x3]) ⟨[⟨true, (some (.cells [wsl 3, wsl 4, wsl 2, wsl 5]))⟩, ⟨true, (some (.tab [.fl .f32] x4))⟩, ⟨true, (some (.tab sc0 x5))⟩, ⟨true, (some (.tab [.fl .f32] x6))⟩, ⟨true, (some (.tab [.fl .f32] x7))⟩, ⟨true, (some (.tab sc1 x8))⟩], 6, []⟩ = w97l0 (r97l0 m) x0 x1 x2 x3 x4 x5 x6 x7 x8 from by kernel_rfl).trans
 (show w97l0 (r97l0 m) x0 x1 x2 x3 x4 x5 x6 x7 x8 = a97l0 x0 x1 x2 x3 x4 x5 x6 x7 x8 (r97l0 (m + 1) x0 x1 x2 x3 x4 x5 x6 x7 x8) from by unfold w97l0; show _ = a97l0 x0 x1 x2 x3 x4 x5 x6 x7 x8 (b97l0 (r97l0 m) x0 x1 x2 x3 x4 x5 x6 x7 x8); unfold b97l0; exact (cond_both (a97l0 x0 x1 x2 x3 x4 x5 x6 x7 x8) _ (fun h0 => (cond_both (a97l0 x0 x1 x2 x3 x4 x5 x6 x7 x8) _ (fun h1 => (cond_t (ev_and2 h1) (cond_both (a97l0 x0 x1 x2 x3 x4 x5 x6 x7 x8) _ (fun h2 => (cond_t (ev_and2 h2) (cond_both (a97l0 x0 x1 x2 x3 x4 x5 x6 x7 x8) _ (fun h3 => (cond_t (ev_and2 h3) (cond_t h2 (cond_t (ev_and2 h2) (cond_both (a97l0 x0 x1 x2 x3 x4 x5 x6 x7 x8) _ (fun h4 => (cond_both (a97l0 x0 x1 x2 x3 x4 x5 x6 x7 x8) _ (fun h5 => (cond_t (ev_and2 h5) (cond_both (a97l0 x0 x1 x2 x3 x4 x5 x6 x7 x8) _ (fun h6 => (cond_t (ev_and2 h6) (cond_t h5 (cond_t (ev_and2 h5) (v97l0 x0 x1 x2 x3 x4 x5 x6 x7 x8 ((r97l0 m) x0 x1 x2 (IntKind.i64.wrap (x3 + 1)) ((x4.set (Int.toNat ((x5.getD (Int.toNat x3) []).getD 0 0)) [(((fadd .f32 (Int.toNat ((x4.getD (Int.toNat ((x5.getD (Int.toNat x3) []).getD 0 0)) []).getD 0 0)) (fmul .f32 (fmul .f32 1073741824 (Int.toNat ((x5.getD (Int.toNat x3) []).getD 2 0))) (fsub .f32 (Int.toNat ((x5.getD (Int.toNat x3) []).getD 4 0)) (Int.toNat ((x6.getD (Int.toNat ((x5.getD (Int.toNat x3) []).getD 0 0)) []).getD 0 0))))) : Nat) : Int)]).set (Int.toNat ((x5.getD (Int.toNat x3) []).getD 1 0)) [(((fadd .f32 (Int.toNat (((x4.set (Int.toNat ((x5.getD (Int.toNat x3) []).getD 0 0)) [(((fadd .f32 (Int.toNat ((x4.getD (Int.toNat ((x5.getD (Int.toNat x3) []).getD 0 0)) []).getD 0 0)) (fmul .f32 (fmul .f32 1073741824 (Int.toNat ((x5.getD (Int.toNat x3) []).getD 2 0))) (fsub .f32 (Int.toNat ((x5.getD (Int.toNat x3) []).getD 4 0)) (Int.toNat ((x6.getD (Int.toNat ((x5.getD (Int.toNat x3) []).getD 0 0)) []).getD 0 0))))) : Nat) : Int)]).getD (Int.toNat ((x5.getD (Int.toNat x3) []).getD 1 0)) []).getD 0 0)) (fmul .f32 (fmul .f32 1073741824 (Int.toNat ((x5.getD (Int.toNat x3) []).getD 2 0))) (fsub .f32 (Int.toNat ((x5.getD (Int.toNat x3) []).getD 7 0)) (Int.toNat ((x6.getD (Int.toNat ((x5.getD (Int.toNat x3) []).getD 1 0)) []).getD 0 0))))) : Nat) : Int)]) x5 x6 x7 x8)))))) (fun h6 => rfl)))) (fun h5 => rfl))) (fun h4 => (v97l0 x0 x1 x2 x3 x4 x5 x6 x7 x8 ((r97l0 m) x0 x1 x2 (IntKind.i64.wrap (x3 + 1)) (x4.set (Int.toNat ((x5.getD (Int.toNat x3) []).getD 0 0)) [(((fadd .f32 (Int.toNat ((x4.getD (Int.toNat ((x5.getD (Int.toNat x3) []).getD 0 0)) []).getD 0 0)) (fmul .f32 (fmul .f32 1073741824 (Int.toNat ((x5.getD (Int.toNat x3) []).getD 2 0))) (fsub .f32 (Int.toNat ((x5.getD (Int.toNat x3) []).getD 4 0)) (Int.toNat ((x6.getD (Int.toNat ((x5.getD (Int.toNat x3) []).getD 0 0)) []).getD 0 0))))) : Nat) : Int)]) x5 x6 x7 x8)))))))) (fun h3 => rfl)))) (fun h2 => rfl)))) (fun h1 => rfl))) (fun h0 => rfl)))
set_option maxRecDepth 100000 in
set_option maxHeartbeats 4000000 in
theorem qm97l0 : ∀ m, SumKOk Try.prog (loopN Try.f97 0) 132 [1, 2, 3, 7, 20, 21, 22] [1, 2, 3, 7] (q97l0 m) := by
  intro m
  induction m with
  | zero =>
    intro vals s x h1 h2 h3
    unfold q97l0 at h3; split at h3
    · rename_i h; split at h3
      · rename_i hc; obtain ⟨rfl, rfl, rfl, rfl, rfl, rfl, rfl, rfl, rfl⟩ := hc; exact absurd h3 (by simp [r97l0, firstT, Nat.beq])
      · exact noQ_ok _ _ _ h1 h2 h3
    · exact noQ_ok _ _ _ h1 h2 h3
  | succ m ih =>
    intro vals s x h1 h2 h3
    unfold q97l0 at h3; split at h3
    · rename_i h; split at h3
      · rename_i hc; obtain ⟨rfl, rfl, rfl, rfl, rfl, rfl, rfl, rfl, rfl⟩ := hc; exact sum_step ok47 extOk mixed ((lfOkF_no _ _).inner (by kernel_rfl)) ih h1 h2 h (e97l0 m _ _ _ _ _ _ _ _ _) rfl h3
      · exact noQ_ok _ _ _ h1 h2 h3
    · exact noQ_ok _ _ _ h1 h2 h3
noncomputable def Q97l0 : SumK := fun vals s => q97l0 (fuelOf vals s.h) vals s
theorem qok97l0 : SumKOk Try.prog (loopN Try.f97 0) 132 [1, 2, 3, 7, 20, 21, 22] [1, 2, 3, 7] Q97l0 := fuel_ok qm97l0 fuelOf
noncomputable def L97_1 : LoopT := addL noL 4 ([1, 2, 3, 7, 20, 21, 22], []) (sumK 132 [1, 2, 3, 7, 20, 21, 22] [1, 2, 3, 7] Q97l0)
theorem lok97_1 : LfOkF Try.prog L97_1 Try.f97 := lfOkF_add (lfOkF_no _ _) qok97l0 (by kernel_rfl) (by kernel_rfl) (by kernel_rfl)

/-- impl.heatOf -/
noncomputable def r69 (x0 : Int) (x1 : Nat) (x2 : List (List Int)) : Nat × Nat :=
 cond ((x0 : Int) == (-1)) (0, x1) (cond ((decide ((0 : Int) ≤ x0)) && (Nat.blt (Int.toNat x0) x2.length)) (0, (Int.toNat ((x2.getD (Int.toNat x0) []).getD 0 0))) (1, 0))
noncomputable def a69 (x0 : Int) (x1 : Nat) (x2 : List (List Int)) (p : Nat × Nat) : Res := firstT [((Nat.beq (p.1) 0), .float .f32 (p.2), ⟨[⟨true, (some (.tab [.fl .f32] x2))⟩], 1, []⟩)]
noncomputable def w69 (x0 : Int) (x1 : Nat) (x2 : List (List Int)) : Res :=
 (cond ((x0 : Int) == (-1))
 (a69 x0 x1 x2 (0, x1))
 (cond ((decide ((0 : Int) ≤ x0)) && (Nat.blt (Int.toNat x0) x2.length)) (cond (Nat.blt (Int.toNat x0) x2.length) (a69 x0 x1 x2 (0, (Int.toNat ((x2.getD (Int.toNat x0) []).getD 0 0)))) none) none))
set_option maxRecDepth 100000 in
set_option maxHeartbeats 4000000 in
theorem e69 (x0 : Int) (x1 : Nat) (x2 : List (List Int)) : evFn Try.prog ext T47 noL 200 Try.f69 [wsl 0, .int .i64 x0, .float .f32 x1] ⟨[⟨true, (some (.tab [.fl .f32] x2))⟩], 1, []⟩ = firstT [((Nat.beq ((r69 x0 x1 x2).1) 0), .float .f32 ((r69 x0 x1 x2).2), ⟨[⟨true, (some (.tab [.fl .f32] x2))⟩], 1, []⟩)] :=
 (show evFn Try.prog ext T47 noL 200 Try.f69 [wsl 0, .int .i64 x0, .float .f32 x1] ⟨[⟨true, (some (.tab [.fl .f32] x2))⟩], 1, []⟩ = w69 x0 x1 x2 from by kernel_rfl).trans
 (show w69 x0 x1 x2 = a69 x0 x1 x2 (r69 x0 x1 x2) from by unfold w69 r69; exact (cond_both (a69 x0 x1 x2) _ (fun h0 => rfl) (fun h0 => (cond_both (a69 x0 x1 x2) _ (fun h1 => (cond_t (ev_and2 h1) rfl)) (fun h1 => rfl)))))
noncomputable def s69 (args : List Value) (s : St) : List (Bool × Value × St) :=
 match args, s.h with
 | [.iface f0 .nilIface, .int .i64 x0, .float .f32 x1], [⟨true, some (.tab [.fl .f32] x2)⟩] => if f0 = 0 then [((Nat.beq ((r69 x0 x1 x2).1) 0), .float .f32 ((r69 x0 x1 x2).2), ⟨[⟨true, (some (.tab [.fl .f32] x2))⟩], 1, []⟩)] else T47 69 args s
 | _, _ => T47 69 args s
noncomputable def T48 : CallF := addF T47 69 s69
set_option maxRecDepth 100000 in
set_option maxHeartbeats 4000000 in
theorem ok48 : CfOk Try.prog T48 := by
  refine cfOk_add ok47 fun args s r s' h1 h2 h3 => ?_
  unfold s69 at h3; split at h3
  · rename_i h; split at h3
    · rename_i hc; obtain ⟨rfl⟩ := hc; exact callOk ok47 Try.func69 h1 h2 h (lfOkF_no _ _).body (e69 _ _ _) rfl h3
    · exact ok47 _ _ _ _ _ h1 h2 h3
  · exact ok47 _ _ _ _ _ h1 h2 h3

/-- impl.roomFlows, loop 1: one round -/
noncomputable def b97l1 (ih : Nat → Nat → Int → Int → List (List Int) → List (List Int) → List (List Int) → List (List Int) → List (List Int) → (Nat × List (List Int))) (x0 x1 : Nat) (x2 x3 : Int) (x4 x5 x6 x7 x8 : List (List Int)) : Nat × List (List Int) :=
 cond (decide ((x3 : Int) < x2)) (cond ((decide ((0 : Int) ≤ x3)) && (Nat.blt (Int.toNat x3) x5.length)) (cond ((decide ((0 : Int) ≤ ((x5.getD (Int.toNat x3) []).getD 0 0))) && (Nat.blt (Int.toNat ((x5.getD (Int.toNat x3) []).getD 0 0)) x6.length)) (cond (Nat.beq ((r69 ((x5.getD (Int.toNat x3) []).getD 1 0) x0 x6).1) 0) (cond ((decide ((0 : Int) ≤ ((x5.getD (Int.toNat x3) []).getD 0 0))) && (Nat.blt (Int.toNat ((x5.getD (Int.toNat x3) []).getD 0 0)) x4.length)) (cond ((decide ((0 : Int) ≤ ((x5.getD (Int.toNat x3) []).getD 0 0))) && (Nat.blt (Int.toNat ((x5.getD (Int.toNat x3) []).getD 0 0)) ((x4.set (Int.toNat ((x5.getD (Int.toNat x3) []).getD 0 0)) [(((fadd .f32 (Int.toNat ((x4.getD (Int.toNat ((x5.getD (Int.toNat x3) []).getD 0 0)) []).getD 0 0)) (fmul .f32 (Int.toNat ((x5.getD (Int.toNat x3) []).getD 2 0)) (fsub .f32 ((r69 ((x5.getD (Int.toNat x3) []).getD 1 0) x0 x6).2) (Int.toNat ((x6.getD (Int.toNat ((x5.getD (Int.toNat x3) []).getD 0 0)) []).getD 0 0))))) : Nat) : Int)]).length))) (cond ((((x5.getD (Int.toNat x3) []).getD 1 0) : Int) != (-1)) (cond ((decide ((0 : Int) ≤ ((x5.getD (Int.toNat x3) []).getD 1 0))) && (Nat.blt (Int.toNat ((x5.getD (Int.toNat x3) []).getD 1 0)) (((x4.set (Int.toNat ((x5.getD (Int.toNat x3) []).getD 0 0)) [(((fadd .f32 (Int.toNat ((x4.getD (Int.toNat ((x5.getD (Int.toNat x3) []).getD 0 0)) []).getD 0 0)) (fmul .f32 (Int.toNat ((x5.getD (Int.toNat x3) []).getD 2 0)) (fsub .f32 ((r69 ((x5.getD (Int.toNat x3) []).getD 1 0) x0 x6).2) (Int.toNat ((x6.getD (Int.toNat ((x5.getD (Int.toNat x3) []).getD 0 0)) []).getD 0 0))))) : Nat) : Int)]).set (Int.toNat ((x5.getD (Int.toNat x3) []).getD 0 0)) [(((fadd .f32 (Int.toNat (((x4.set (Int.toNat ((x5.getD (Int.toNat x3) []).getD 0 0)) [(((fadd .f32 (Int.toNat ((x4.getD (Int.toNat ((x5.getD (Int.toNat x3) []).getD 0 0)) []).getD 0 0)) (fmul .f32 (Int.toNat ((x5.getD (Int.toNat x3) []).getD 2 0)) (fsub .f32 ((r69 ((x5.getD (Int.toNat x3) []).getD 1 0) x0 x6).2) (Int.toNat ((x6.getD (Int.toNat ((x5.getD (Int.toNat x3) []).getD 0 0)) []).getD 0 0))))) : Nat) : Int)]).getD (Int.toNat ((x5.getD (Int.toNat x3) []).getD 0 0)) []).getD 0 0)) (fmul .f32 (Int.toNat ((x5.getD (Int.toNat x3) []).getD 3 0)) x1)) : Nat) : Int)]).length))) (ih x0 x1 x2 (IntKind.i64.wrap (x3 + 1)) (((x4.set (Int.toNat ((x5.getD (Int.toNat x3) []).getD 0 0)) [(((fadd .f32 (Int.toNat ((x4.getD (Int.toNat ((x5.getD (Int.toNat x3) []).getD 0 0)) []).getD 0 0)) (fmul .f32 (Int.toNat ((x5.getD (Int.toNat x3) []).getD 2 0)) (fsub .f32 ((r69 ((x5.getD (Int.toNat x3) []).getD 1 0) x0 x6).2) (Int.toNat ((x6.getD (Int.toNat ((x5.getD (Int.toNat x3) []).getD 0 0)) []).getD 0 0))))) : Nat) : Int)]).set (Int.toNat ((x5.getD (Int.toNat x3) []).getD 0 0)) [(((fadd .f32 (Int.toNat (((x4.set (Int.toNat ((x5.getD (Int.toNat x3) []).getD 0 0)) [(((fadd .f32 (Int.toNat ((x4.getD (Int.toNat ((x5.getD (Int.toNat x3) []).getD 0 0)) []).getD 0 0)) (fmul .f32 (Int.toNat ((x5.getD (Int.toNat x3) []).getD 2 0)) (fsub .f32 ((r69 ((x5.getD (Int.toNat x3) []).getD 1 0) x0 x6).2) (Int.toNat ((x6.getD (Int.toNat ((x5.getD (Int.toNat x3) []).getD 0 0)) []).getD 0 0))))) : Nat) : Int)]).getD (Int.toNat ((x5.getD (Int.toNat x3) []).getD 0 0)) []).getD 0 0)) (fmul .f32 (Int.toNat ((x5.getD (Int.toNat x3) []).getD 3 0)) x1)) : Nat) : Int)]).set (Int.toNat ((x5.getD (Int.toNat x3) []).getD 1 0)) [(((fadd .f32 (Int.toNat ((((x4.set (Int.toNat ((x5.getD (Int.toNat x3) []).getD 0 0)) [(((fadd .f32 (Int.toNat ((x4.getD (Int.toNat ((x5.getD (Int.toNat x3) []).getD 0 0)) []).getD 0 0)) (fmul .f32 (Int.toNat ((x5.getD (Int.toNat x3) []).getD 2 0)) (fsub .f32 ((r69 ((x5.getD (Int.toNat x3) []).getD 1 0) x0 x6).2) (Int.toNat ((x6.getD (Int.toNat ((x5.getD (Int.toNat x3) []).getD 0 0)) []).getD 0 0))))) : Nat) : Int)]).set (Int.toNat ((x5.getD (Int.toNat x3) []).getD 0 0)) [(((fadd .f32 (Int.toNat (((x4.set (Int.toNat ((x5.getD (Int.toNat x3) []).getD 0 0)) [(((fadd .f32 (Int.toNat ((x4.getD (Int.toNat ((x5.getD (Int.toNat x3) []).getD 0 0)) []).getD 0 0)) (fmul .f32 (Int.toNat ((x5.getD (Int.toNat x3) []).getD 2 0)) (fsub .f32 ((r69 ((x5.getD (Int.toNat x3) []).getD 1 0) x0 x6).2) (Int.toNat ((x6.getD (Int.toNat ((x5.getD (Int.toNat x3) []).getD 0 0)) []).getD 0 0))))) : Nat) : Int)]).getD (Int.toNat ((x5.getD (Int.toNat x3) []).getD 0 0)) []).getD 0 0)) (fmul .f32 (Int.toNat ((x5.getD (Int.toNat x3) []).getD 3 0)) x1)) : Nat) : Int)]).getD (Int.toNat ((x5.getD (Int.toNat x3) []).getD 1 0)) []).getD 0 0)) (fmul .f32 (Int.toNat ((x5.getD (Int.toNat x3) []).getD 2 0)) (fsub .f32 (Int.toNat ((x6.getD (Int.toNat ((x5.getD (Int.toNat x3) []).getD 0 0)) []).getD 0 0)) ((r69 ((x5.getD (Int.toNat x3) []).getD 1 0) x0 x6).2)))) : Nat) : Int)]) x5 x6 x7 x8) (1, [])) (ih x0 x1 x2 (IntKind.i64.wrap (x3 + 1)) ((x4.set (Int.toNat ((x5.getD (Int.toNat x3) []).getD 0 0)) [(((fadd .f32 (Int.toNat ((x4.getD (Int.toNat ((x5.getD (Int.toNat x3) []).getD 0 0)) []).getD 0 0)) (fmul .f32 (Int.toNat ((x5.getD (Int.toNat x3) []).getD 2 0)) (fsub .f32 ((r69 ((x5.getD (Int.toNat x3) []).getD 1 0) x0 x6).2) (Int.toNat ((x6.getD (Int.toNat ((x5.getD (Int.toNat x3) []).getD 0 0)) []).getD 0 0))))) : Nat) : Int)]).set (Int.toNat ((x5.getD (Int.toNat x3) []).getD 0 0)) [(((fadd .f32 (Int.toNat (((x4.set (Int.toNat ((x5.getD (Int.toNat x3) []).getD 0 0)) [(((fadd .f32 (Int.toNat ((x4.getD (Int.toNat ((x5.getD (Int.toNat x3) []).getD 0 0)) []).getD 0 0)) (fmul .f32 (Int.toNat ((x5.getD (Int.toNat x3) []).getD 2 0)) (fsub .f32 ((r69 ((x5.getD (Int.toNat x3) []).getD 1 0) x0 x6).2) (Int.toNat ((x6.getD (Int.toNat ((x5.getD (Int.toNat x3) []).getD 0 0)) []).getD 0 0))))) : Nat) : Int)]).getD (Int.toNat ((x5.getD (Int.toNat x3) []).getD 0 0)) []).getD 0 0)) (fmul .f32 (Int.toNat ((x5.getD (Int.toNat x3) []).getD 3 0)) x1)) : Nat) : Int)]) x5 x6 x7 x8)) (1, [])) (1, [])) (1, [])) (1, [])) (1, [])) (0, x4)
noncomputable def r97l1 : Nat → Nat → Nat → Int → Int → List (List Int) → List (List Int) → List (List Int) → List (List Int) → List (List Int) → (Nat × List (List Int))
 | 0 => fun _ _ _ _ _ _ _ _ _ => (1, [])
 | m + 1 => b97l1 (r97l1 m)
noncomputable def a97l1 (x0 x1 : Nat) (x2 x3 : Int) (x4 x5 x6 x7 x8 : List (List Int)) (p : Nat × List (List Int)) : Option (Fin' × List Value × St) := firstT ([((Nat.beq (p.1) 0), .exit 2, [wsl 1], ⟨[⟨true, (some (.cells [wsl 3, wsl 4, wsl 5, wsl 2]))⟩, ⟨true, (some (.tab [.fl .f32] (p.2)))⟩, ⟨true, (some (.tab sc1 x5))⟩, ⟨true, (some (.tab [.fl .f32] x6))⟩, ⟨true, (some (.tab [.fl .f32] x7))⟩, ⟨true, (some (.tab sc0 x8))⟩], 6, [1]⟩)].map fun (b, x) => (b, (x.1, frameOf 132 [7] x.2.1, x.2.2)))
noncomputable def u97l1 (x0 x1 : Nat) (x2 x3 : Int) (x4 x5 x6 x7 x8 : List (List Int)) (p : Nat × List (List Int)) : Option (Fin' × List Value × St) := alts ([((Nat.beq (p.1) 0), .exit 2, [wsl 1], ⟨[⟨true, (some (.cells [wsl 3, wsl 4, wsl 5, wsl 2]))⟩, ⟨true, (some (.tab [.fl .f32] (p.2)))⟩, ⟨true, (some (.tab sc1 x5))⟩, ⟨true, (some (.tab [.fl .f32] x6))⟩, ⟨true, (some (.tab [.fl .f32] x7))⟩, ⟨true, (some (.tab sc0 x8))⟩], 6, [1]⟩)].map fun (b, x) => (b, (x.1, frameOf 132 [7] x.2.1, x.2.2))) some
theorem v97l1 (x0 x1 : Nat) (x2 x3 : Int) (x4 x5 x6 x7 x8 : List (List Int)) (p : Nat × List (List Int)) : u97l1 x0 x1 x2 x3 x4 x5 x6 x7 x8 p = a97l1 x0 x1 x2 x3 x4 x5 x6 x7 x8 p := alts_first _
noncomputable def q97l1 (m : Nat) : SumK := fun vals s =>
 match vals, s.h with
 | [.float .f32 x0, .float .f32 x1, .pointer (some ⟨f0, f1, some f2⟩), .iface f3 .nilIface, .iface f4 .nilIface, .int .i64 x2, .int .i64 x3], [⟨true, some (.cells [.iface f5 .nilIface, .iface f6 .nilIface, .iface f7 .nilIface, .iface f8 .nilIface])⟩, ⟨true, some (.tab [.fl .f32] x4)⟩, ⟨true, some (.tab [.int .i64, .int .i64, .fl .f32, .fl .f32] x5)⟩, ⟨true, some (.tab [.fl .f32] x6)⟩, ⟨true, some (.tab [.fl .f32] x7)⟩, ⟨true, some (.tab [.int .i64, .int .i64, .fl .f32, .fl .f32, .fl .f32, .fl .f32, .fl .f32, .fl .f32] x8)⟩] => if f0 = 0 ∧ f1 = 0 ∧ f2 = 0 ∧ f3 = 1 ∧ f4 = 2 ∧ f5 = 3 ∧ f6 = 4 ∧ f7 = 5 ∧ f8 = 2 then [((Nat.beq ((r97l1 m x0 x1 x2 x3 x4 x5 x6 x7 x8).1) 0), .exit 2, [wsl 1], ⟨[⟨true, (some (.cells [wsl 3, wsl 4, wsl 5, wsl 2]))⟩, ⟨true, (some (.tab [.fl .f32] ((r97l1 m x0 x1 x2 x3 x4 x5 x6 x7 x8).2)))⟩, ⟨true, (some (.tab sc1 x5))⟩, ⟨true, (some (.tab [.fl .f32] x6))⟩, ⟨true, (some (.tab [.fl .f32] x7))⟩, ⟨true, (some (.tab sc0 x8))⟩], 6, [1]⟩)] else noQ vals s
 | _, _ => noQ vals s
noncomputable def w97l1 (ih : Nat → Nat → Int → Int → List (List Int) → List (List Int) → List (List Int) → List (List Int) → List (List Int) → (Nat × List (List Int))) (x0 x1 : Nat) (x2 x3 : Int) (x4 x5 x6 x7 x8 : List (List Int)) : Option (Fin' × List Value × St) :=
 (cond (decide ((x3 : Int) < x2))
 (cond ((decide ((0 : Int) ≤ x3)) && (Nat.blt (Int.toNat x3) x5.length)) (cond (Nat.blt (Int.toNat x3) x5.length) (cond ((decide ((0 : Int) ≤ ((x5.getD (Int.toNat x3) []).getD 0 0))) && (Nat.blt (Int.toNat ((x5.getD (Int.toNat x3) []).getD 0 0)) x6.length)) (cond (Nat.blt (Int.toNat ((x5.getD (Int.toNat x3) []).getD 0 0)) x6.length) (cond (Nat.beq ((r69 ((x5.getD (Int.toNat x3) []).getD 1 0) x0 x6).1) 0) (cond ((decide ((0 : Int) ≤ ((x5.getD (Int.toNat x3) []).getD 0 0))) && (Nat.blt (Int.toNat ((x5.getD (Int.toNat x3) []).getD 0 0)) x4.length)) (cond (Nat.blt (Int.toNat ((x5.getD (Int.toNat x3) []).getD 0 0)) x4.length) (cond ((decide ((0 : Int) ≤ ((x5.getD (Int.toNat x3) []).getD 0 0))) && (Nat.blt (Int.toNat ((x5.getD (Int.toNat x3) []).getD 0 0)) x4.length)) (cond (Nat.blt (Int.toNat ((x5.getD (Int.toNat x3) []).getD 0 0)) x4.length) (cond ((decide ((0 : Int) ≤ ((x5.getD (Int.toNat x3) []).getD 0 0))) && (Nat.blt (Int.toNat ((x5.getD (Int.toNat x3) []).getD 0 0)) ((x4.set (Int.toNat ((x5.getD (Int.toNat x3) []).getD 0 0)) [(((fadd .f32 (Int.toNat ((x4.getD (Int.toNat ((x5.getD (Int.toNat x3) []).getD 0 0)) []).getD 0 0)) (fmul .f32 (Int.toNat ((x5.getD (Int.toNat x3) []).getD 2 0)) (fsub .f32 ((r69 ((x5.getD (Int.toNat x3) []).getD 1 0) x0 x6).2) (Int.toNat ((x6.getD (Int.toNat ((x5.getD (Int.toNat x3) []).getD 0 0)) []).getD 0 0))))) : Nat) : Int)]).length))) (cond (Nat.blt (Int.toNat ((x5.getD (Int.toNat x3) []).getD 0 0)) ((x4.set (Int.toNat ((x5.getD (Int.toNat x3) []).getD 0 0)) [(((fadd .f32 (Int.toNat ((x4.getD (Int.toNat ((x5.getD (Int.toNat x3) []).getD 0 0)) []).getD 0 0)) (fmul .f32 (Int.toNat ((x5.getD (Int.toNat x3) []).getD 2 0)) (fsub .f32 ((r69 ((x5.getD (Int.toNat x3) []).getD 1 0) x0 x6).2) (Int.toNat ((x6.getD (Int.toNat ((x5.getD (Int.toNat x3) []).getD 0 0)) []).getD 0 0))))) : Nat) : Int)]).length)) (cond ((decide ((0 : Int) ≤ ((x5.getD (Int.toNat x3) []).getD 0 0))) && (Nat.blt (Int.toNat ((x5.getD (Int.toNat x3) []).getD 0 0)) ((x4.set (Int.toNat ((x5.getD (Int.toNat x3) []).getD 0 0)) [(((fadd .f32 (Int.toNat ((x4.getD (Int.toNat ((x5.getD (Int.toNat x3) []).getD 0 0)) []).getD 0 0)) (fmul .f32 (Int.toNat ((x5.getD (Int.toNat x3) []).getD 2 0)) (fsub .f32 ((r69 ((x5.getD (Int.toNat x3) []).getD 1 0) x0 x6).2) (Int.toNat ((x6.getD (Int.toNat ((x5.getD (Int.toNat x3) []).getD 0 0)) []).getD 0 0))))) : Nat) : Int)]).length))) (cond (Nat.blt (Int.toNat ((x5.getD (Int.toNat x3) []).getD 0 0)) ((x4.set (Int.toNat ((x5.getD (Int.toNat x3) []).getD 0 0)) [(((fadd .f32 (Int.toNat ((x4.getD (Int.toNat ((x5.getD (Int.toNat x3) []).getD 0 0)) []).getD 0 0)) (fmul .f32 (Int.toNat ((x5.getD (Int.toNat x3) []).getD 2 0)) (fsub .f32 ((r69 ((x5.getD (Int.toNat x3) []).getD 1 0) x0 x6).2) (Int.toNat ((x6.getD (Int.toNat ((x5.getD (Int.toNat x3) []).getD 0 0)) []).getD 0 0))))) : Nat) : Int)]).length)) (cond ((((x5.getD (Int.toNat x3) []).getD 1 0) : Int) != (-1)) (cond ((decide ((0 : Int) ≤ ((x5.getD (Int.toNat x3) []).getD 1 0))) && (Nat.blt (Int.toNat ((x5.getD (Int.toNat x3) []).getD 1 0)) (((x4.set (Int.toNat ((x5.getD (Int.toNat x3) []).getD 0 0)) [(((fadd .f32 (Int.toNat ((x4.getD (Int.toNat ((x5.getD (Int.toNat x3) []).getD 0 0)) []).getD 0 0)) (fmul .f32 (Int.toNat ((x5.getD (Int.toNat x3) []).getD 2 0)) (fsub .f32 ((r69 ((x5.getD (Int.toNat x3) []).getD 1 0) x0 x6).2) (Int.toNat ((x6.getD (Int.toNat ((x5.getD (Int.toNat x3) []).getD 0 0)) []).getD 0 0))))) : Nat) : Int)]).set (Int.toNat ((x5.getD (Int.toNat x3) []).getD 0 0)) [(((fadd .f32 (Int.toNat (((x4.set (Int.toNat ((x5.getD (Int.toNat x3) []).getD 0 0)) [(((fadd .f32 (Int.toNat ((x4.getD (Int.toNat ((x5.getD (Int.toNat x3) []).getD 0 0)) []).getD 0 0)) (fmul .f32 (Int.toNat ((x5.getD (Int.toNat x3) []).getD 2 0)) (fsub .f32 ((r69 ((x5.getD (Int.toNat x3) []).getD 1 0) x0 x6).2) (Int.toNat ((x6.getD (Int.toNat ((x5.getD (Int.toNat x3) []).getD 0 0)) []).getD 0 0))))) : Nat) : Int)]).getD (Int.toNat ((x5.getD (Int.toNat x3) []).getD 0 0)) []).getD 0 0)) (fmul .f32 (Int.toNat ((x5.getD (Int.toNat x3) []).getD 3 0)) x1)) : Nat) : Int)]).length))) (cond (Nat.blt (Int.toNat ((x5.getD (Int.toNat x3) []).getD 1 0)) (((x4.set (Int.toNat ((x5.getD (Int.toNat x3) []).getD 0 0)) [(((fadd .f32 (Int.toNat ((x4.getD (Int.toNat ((x5.getD (Int.toNat x3) []).getD 0 0)) []).getD 0 0)) (fmul .f32 (Int.toNat ((x5.getD (Int.toNat x3) []).getD 2 0)) (fsub .f32 ((r69 ((x5.getD (Int.toNat x3) []).getD 1 0) x0 x6).2) (Int.toNat ((x6.getD (Int.toNat ((x5.getD (Int.toNat x3) []).getD 0 0)) []).getD 0 0))))) : Nat) : Int)]).set (Int.toNat ((x5.getD (Int.toNat x3) []).getD 0 0)) [(((fadd .f32 (Int.toNat (((x4.set (Int.toNat ((x5.getD (Int.toNat x3) []).getD 0 0)) [(((fadd .f32 (Int.toNat ((x4.getD (Int.toNat ((x5.getD (Int.toNat x3) []).getD 0 0)) []).getD 0 0)) (fmul .f32 (Int.toNat ((x5.getD (Int.toNat x3) []).getD 2 0)) (fsub .f32 ((r69 ((x5.getD (Int.toNat x3) []).getD 1 0) x0 x6).2) (Int.toNat ((x6.getD (Int.toNat ((x5.getD (Int.toNat x3) []).getD 0 0)) []).getD 0 0))))) : Nat) : Int)]).getD (Int.toNat ((x5.getD (Int.toNat x3) []).getD 0 0)) []).getD 0 0)) (fmul .f32 (Int.toNat ((x5.getD (Int.toNat x3) []).getD 3 0)) x1)) : Nat) : Int)]).length)) (cond ((decide ((0 : Int) ≤ ((x5.getD (Int.toNat x3) []).getD 1 0))) && (Nat.blt (Int.toNat ((x5.getD (Int.toNat x3) []).getD 1 0)) (((x4.set (Int.toNat ((x5.getD (Int.toNat x3) []).getD 0 0)) [(((fadd .f32 (Int.toNat ((x4.getD (Int.toNat ((x5.getD (Int.toNat x3) []).getD 0 0)) []).getD 0 0)) (fmul .f32 (Int.toNat ((x5.getD (Int.toNat x3) []).getD 2 0)) (fsub .f32 ((r69 ((x5.getD (Int.toNat x3) []).getD 1 0) x0 x6).2) (Int.toNat ((x6.getD (Int.toNat ((x5.getD (Int.toNat x3) []).getD 0 0)) []).getD 0 0))))) : Nat) : Int)]).set (Int.toNat ((x5.getD (Int.toNat x3) []).getD 0 0)) [(((fadd .f32 (Int.toNat (((x4.set (Int.toNat ((x5.getD (Int.toNat x3) []).getD 0 0)) [(((fadd .f32 (Int.toNat ((x4.getD (Int.toNat ((x5.getD (Int.toNat x3) []).getD 0 0)) []).getD 0 0)) (fmul .f32 (Int.toNat ((x5.getD (Int.toNat x3) []).getD 2 0)) (fsub .f32 ((r69 ((x5.getD (Int.toNat x3) []).getD 1 0) x0 x6).2) (Int.toNat ((x6.getD (Int.toNat ((x5.getD (Int.toNat x3) []).getD 0 0)) []).getD 0 0))))) : Nat) : Int)]).getD (Int.toNat ((x5.getD (Int.toNat x3) []).getD 0 0)) []).getD 0 0)) (fmul .f32 (Int.toNat ((x5.getD (Int.toNat x3) []).getD 3 0)) x1)) : Nat) : Int)]).length))) (cond (Nat.blt (Int.toNat ((x5.getD (Int.toNat x3) []).getD 1 0)) (((x4.set (Int.toNat ((x5.getD (Int.toNat x3) []).getD 0 0)) [(((fadd .f32 (Int.toNat ((x4.getD (Int.toNat ((x5.getD (Int.toNat x3) []).getD 0 0)) []).getD 0 0)) (fmul .f32 (Int.toNat ((x5.getD (Int.toNat x3) []).getD 2 0)) (fsub .f32 ((r69 ((x5.getD (Int.toNat x3) []).getD 1 0) x0 x6).2) (Int.toNat ((x6.getD (Int.toNat ((x5.getD (Int.toNat x3) []).getD 0 0)) []).getD 0 0))))) : Nat) : Int)]).set (Int.toNat ((x5.getD (Int.toNat x3) []).getD 0 0)) [(((fadd .f32 (Int.toNat (((x4.set (Int.toNat ((x5.getD (Int.toNat x3) []).getD 0 0)) [(((fadd .f32 (Int.toNat ((x4.getD (Int.toNat ((x5.getD (Int.toNat x3) []).getD 0 0)) []).getD 0 0)) (fmul .f32 (Int.toNat ((x5.getD (Int.toNat x3) []).getD 2 0)) (fsub .f32 ((r69 ((x5.getD (Int.toNat x3) []).getD 1 0) x0 x6).2) (Int.toNat ((x6.getD (Int.toNat ((x5.getD (Int.toNat x3) []).getD 0 0)) []).getD 0 0))))) : Nat) : Int)]).getD (Int.toNat ((x5.getD (Int.toNat x3) []).getD 0 0)) []).getD 0 0)) (fmul .f32 (Int.toNat ((x5.getD (Int.toNat x3) []).getD 3 0)) x1)) : Nat) : Int)]).length)) (u97l1 x0 x1 x2 x3 x4 x5 x6 x7 x8 (ih x0 x1 x2 (IntKind.i64.wrap (x3 + 1)) (((x4.set (Int.toNat ((x5.getD (Int.toNat x3) []).getD 0 0)) [(((fadd .f32 (Int.toNat ((x4.getD (Int.toNat ((x5.getD (Int.toNat x3) []).getD 0 0)) []).getD 0 0)) (fmul .f32 (Int.toNat ((x5.getD (Int.toNat x3) []).getD 2 0)) (fsub .f32 ((r69 ((x5.getD (Int.toNat x3) []).getD 1 0) x0 x6).2) (Int.toNat ((x6.getD (Int.toNat ((x5.getD (Int.toNat x3) []).getD 0 0)) []).getD 0 0))))) : Nat) : Int)]).set (Int.toNat ((x5.getD (Int.toNat x3) []).getD 0 0)) [(((fadd .f32 (Int.toNat (((x4.set (Int.toNat ((x5.getD (Int.toNat x3) []).getD 0 0)) [(((fadd .f32 (Int.toNat ((x4.getD (Int.toNat ((x5.getD (Int.toNat x3) []).getD 0 0)) []).getD 0 0)) (fmul .f32 (Int.toNat ((x5.getD (Int.toNat x3) []).getD 2 0)) (fsub .f32 ((r69 ((x5.getD (Int.toNat x3) []).getD 1 0) x0 x6).2) (Int.toNat ((x6.getD (Int.toNat ((x5.getD (Int.toNat x3) []).getD 0 0)) []).getD 0 0))))) : Nat) : Int)]).getD (Int.toNat ((x5.getD (Int.toNat x3) []).getD 0 0)) []).getD 0 0)) (fmul .f32 (Int.toNat ((x5.getD (Int.toNat x3) []).getD 3 0)) x1)) : Nat) : Int)]).set (Int.toNat ((x5.getD (Int.toNat x3) []).getD 1 0)) [(((fadd .f32 (Int.toNat ((((x4.set (Int.toNat ((x5.getD (Int.toNat x3) []).getD 0 0)) [(((fadd .f32 (Int.toNat ((x4.getD (Int.toNat ((x5.getD (Int.toNat x3) []).getD 0 0)) []).getD 0 0)) (fmul .f32 (Int.toNat ((x5.getD (Int.toNat x3) []).getD 2 0)) (fsub .f32 ((r69 ((x5.getD (Int.toNat x3) []).getD 1 0) x0 x6).2) (Int.toNat ((x6.getD (Int.toNat ((x5.getD (Int.toNat x3) []).getD 0 0)) []).getD 0 0))))) : Nat) : Int)]).set (Int.toNat ((x5.getD (Int.toNat x3) []).getD 0 0)) [(((fadd .f32 (Int.toNat (((x4.set (Int.toNat ((x5.getD (Int.toNat x3) []).getD 0 0)) [(((fadd .f32 (Int.toNat ((x4.getD (Int.toNat ((x5.getD (Int.toNat x3) []).getD 0 0)) []).getD 0 0)) (fmul .f32 (Int.toNat ((x5.getD (Int.toNat x3) []).getD 2 0)) (fsub .f32 ((r69 ((x5.getD (Int.toNat x3) []).getD 1 0) x0 x6).2) (Int.toNat ((x6.getD (Int.toNat ((x5.getD (Int.toNat x3) []).getD 0 0)) []).getD 0 0))))) : Nat) : Int)]).getD (Int.toNat ((x5.getD (Int.toNat x3) []).getD 0 0)) []).getD 0 0)) (fmul .f32 (Int.toNat ((x5.getD (Int.toNat x3) []).getD 3 0)) x1)) : Nat) : Int)]).getD (Int.toNat ((x5.getD (Int.toNat x3) []).getD 1 0)) []).getD 0 0)) (fmul .f32 (Int.toNat ((x5.getD (Int.toNat x3) []).getD 2 0)) (fsub .f32 (Int.toNat ((x6.getD (Int.toNat ((x5.getD (Int.toNat x3) []).getD 0 0)) []).getD 0 0)) ((r69 ((x5.getD (Int.toNat x3) []).getD 1 0) x0 x6).2)))) : Nat) : Int)]) x5 x6 x7 x8)) none) none) none) none) (u97l1 x0 x1 x2 x3 x4 x5 x6 x7 x8 (ih x0 x1 x2 (IntKind.i64.wrap (x3 + 1)) ((x4.set (Int.toNat ((x5.getD (Int.toNat x3) []).getD 0 0)) [(((fadd .f32 (Int.toNat ((x4.getD (Int.toNat ((x5.getD (Int.toNat x3) []).getD 0 0)) []).getD 0 0)) (fmul .f32 (Int.toNat ((x5.getD (Int.toNat x3) []).getD 2 0)) (fsub .f32 ((r69 ((x5.getD (Int.toNat x3) []).getD 1 0) x0 x6).2) (Int.toNat ((x6.getD (Int.toNat ((x5.getD (Int.toNat x3) []).getD 0 0)) []).getD 0 0))))) : Nat) : Int)]).set (Int.toNat ((x5.getD (Int.toNat x3) []).getD 0 0)) [(((fadd .f32 (Int.toNat (((x4.set (Int.toNat ((x5.getD (Int.toNat x3) []).getD 0 0)) [(((fadd .f32 (Int.toNat ((x4.getD (Int.toNat ((x5.getD (Int.toNat x3) []).getD 0 0)) []).getD 0 0)) (fmul .f32 (Int.toNat ((x5.getD (Int.toNat x3) []).getD 2 0)) (fsub .f32 ((r69 ((x5.getD (Int.toNat x3) []).getD 1 0) x0 x6).2) (Int.toNat ((x6.getD (Int.toNat ((x5.getD (Int.toNat x3) []).getD 0 0)) []).getD 0 0))))) : Nat) : Int)]).getD (Int.toNat ((x5.getD (Int.toNat x3) []).getD 0 0)) []).getD 0 0)) (fmul .f32 (Int.toNat ((x5.getD (Int.toNat x3) []).getD 3 0)) x1)) : Nat) : Int)]) x5 x6 x7 x8))) none) none) none) none) none) none) none) none) none) none) none) none) none)
 (a97l1 x0 x1 x2 x3 x4 x5 x6 x7 x8 (0, x4)))
set_option maxRecDepth 100000 in
set_option maxHeartbeats 4000000 in
theorem e97l1 (m : Nat) (x0 x1 : Nat) (x2 x3 : Int) (x4 x5 x6 x7 x8 : List (List Int)) : evC Try.prog ext T48 L97_1 200 (loopN Try.f97 1) (loopTail ([1, 2, 3, 7, 72, 73, 74], []) [7] [1] (sumK 132 [1, 2, 3, 7, 72, 73, 74] [7] (q97l1 m))) (frameOf 132 [1, 2, 3, 7, 72, 73, 74] [.float .f32 x0, .float .f32 x1, .pointer (some ⟨0, 0, some 0⟩), wsl 1, wsl 2, .int .i64 x2, .int .i64 x3]) ⟨[⟨true, (some (.cells [wsl 3, wsl 4, wsl 5, wsl 2]))⟩, ⟨true, (some (.tab [.fl .f32] x4))⟩, ⟨true, (some (.tab sc1 x5))⟩, ⟨true, (some (.tab [.fl .f32] x6))⟩, ⟨true, (some (.tab [.fl .f32] x7))⟩, ⟨true, (some (.tab sc0 x8))⟩], 6, []⟩ = firstT ([((Nat.beq ((r97l1 (m + 1) x0 x1 x2 x3 x4 x5 x6 x7 x8).1) 0), .exit 2, [wsl 1], ⟨[⟨true, (some (.cells [wsl 3, wsl 4, wsl 5, wsl 2]))⟩, ⟨true, (some (.tab [.fl .f32] ((r97l1 (m + 1) x0 x1 x2 x3 x4 x5 x6 x7 x8).2)))⟩, ⟨true, (some (.tab sc1 x5))⟩, ⟨true, (some (.tab [.fl .f32] x6))⟩, ⟨true, (some (.tab [.fl .f32] x7))⟩, ⟨true, (some (.tab sc0 x8))⟩], 6, [1]⟩)].map fun (b, x) => (b, (x.1, frameOf 132 [7] x.2.1, x.2.2))) :=
 (show evC Try.prog ext T48 L97_1 200 (loopN Try.f97 1) (loopTail ([1, 2, 3, 7, 72, 73, 74], []) [7] [1] (sumK 132 [1, 2, 3, 7, 72, 73, 74] [7] (q97l1 m))) (frameOf 132 [1, 2, 3, 7, 72, 73, 74] [.float .f32 x0, .float .f32 x1, .pointer (some ⟨0, 0, some 0⟩), wsl 1, wsl 2, .int .i64 x2, .int .i64 x3]) ⟨[⟨true, (some (.cells [wsl 3, wsl 4, wsl 5, wsl 2]))⟩, ⟨true, (some (.tab [.fl .f32] x4))⟩, ⟨true, (some (.tab sc1 x5))⟩, ⟨true, (some (.tab [.fl .f32] x6))⟩, ⟨true, (some (.tab [.fl .f32] x7))⟩, ⟨true, (some (.tab sc0 x8))⟩], 6, []⟩ = w97l1 (r97l1 m) x0 x1 x2 x3 x4 x5 x6 x7 x8 from by kernel_rfl).trans
 (show w97l1 (r97l1 m) x0 x1 x2 x3 x4 x5 x6 x7 x8 = a97l1 x0 x1 x2 x3 x4 x5 x6 x7 x8 (r97l1 (m + 1) x0 x1 x2 x3 x4 x5 x6 x7 x8) from by unfold w97l1; show _ = a97l1 x0 x1 x2 x3 x4 x5 x6 x7 x8 (b97l1 (r97l1 m) x0 x1 x2 x3 x4 x5 x6 x7 x8); unfold b97l1; exact (cond_both (a97l1 x0 x1 x2 x3 x4 x5 x6 x7 x8) _ (fun h0 => (cond_both (a97l1 x0 x1 x2 x3 x4 x5 x6 x7 x8) _ (fun h1 => (cond_t (ev_and2 h1) (cond_both (a97l1 x0 x1 x2 x3 x4 x5 x6 x7 x8) _ (fun h2 => (cond_t (ev_and2 h2) (cond_both (a97l1 x0 x1 x2 x3 x4 x5 x6 x7 x8) _ (fun h3 => (cond_both (a97l1 x0 x1 x2 x3 x4 x5 x6 x7 x8) _ (fun h4 => (cond_t (ev_and2 h4) (cond_t h4 (cond_t (ev_and2 h4) (cond_both (a97l1 x0 x1 x2 x3 x4 x5 x6 x7 x8) _ (fun h5 => (cond_t (ev_and2 h5) (cond_t h5 (cond_t (ev_and2 h5) (cond_both (a97l1 x0 x1 x2 x3 x4 x5 x6 x7 x8) _ (fun h6 => (cond_both (a97l1 x0 x1 x2 x3 x4 x5 x6 x7 x8) _ (fun h7 => (cond_t (ev_and2 h7) (cond_t h7 (cond_t (ev_and2 h7) (v97l1 x0 x1 x2 x3 x4 x5 x6 x7 x8 ((r97l1 m) x0 x1 x2 (IntKind.i64.wrap (x3 + 1)) (((x4.set (Int.toNat ((x5.getD (Int.toNat x3) []).getD 0 0)) [(((fadd .f32 (Int.toNat ((x4.getD (Int.toNat ((x5.getD (Int.toNat x3) []).getD 0 0)) []).getD 0 0)) (fmul .f32 (Int.toNat ((x5.getD (Int.toNat x3) []).getD 2 0)) (fsub .f32 ((r69 ((x5.getD (Int.toNat x3) []).getD 1 0) x0 x6).2) (Int.toNat ((x6.getD (Int.toNat ((x5.getD (Int.toNat x3) []).getD 0 0)) []).getD 0 0))))) : Nat) : Int)]).set (Int.toNat ((x5.getD (Int.toNat x3) []).getD 0 0)) [(((fadd .f32 (Int.toNat (((x4.set (Int.toNat ((x5.getD (Int.toNat x3) []).getD 0 0)) [(((fadd .f32 (Int.toNat ((x4.getD (Int.toNat ((x5.getD (Int.toNat x3) []).getD 0 0)) []).getD 0 0)) (fmul .f32 (Int.toNat ((x5.getD (Int.toNat x3) []).getD 2 0)) (fsub .f32 ((r69 ((x5.getD (Int.toNat x3) []).getD 1 0) x0 x6).2) (Int.toNat ((x6.getD (Int.toNat ((x5.getD (Int.toNat x3) []).getD 0 0)) []).getD 0 0))))) : Nat) : Int)]).getD (Int.toNat ((x5.getD (Int.toNat x3) []).getD 0 0)) []).getD 0 0)) (fmul .f32 (Int.toNat ((x5.getD (Int.toNat x3) []).getD 3 0)) x1)) : Nat) : Int)]).set (Int.toNat ((x5.getD (Int.toNat x3) []).getD 1 0)) [(((fadd .f32 (Int.toNat ((((x4.set (Int.toNat ((x5.getD (Int.toNat x3) []).getD 0 0)) [(((fadd .f32 (Int.toNat ((x4.getD (Int.toNat ((x5.getD (Int.toNat x3) []).getD 0 0)) []).getD 0 0)) (fmul .f32 (Int.toNat ((x5.getD (Int.toNat x3) []).getD 2 0)) (fsub .f32 ((r69 ((x5.getD (Int.toNat x3) []).getD 1 0) x0 x6).2) (Int.toNat ((x6.getD (Int.toNat ((x5.getD (Int.toNat x3) []).getD 0 0)) []).getD 0 0))))) : Nat) : Int)]).set (Int.toNat ((x5.getD (Int.toNat x3) []).getD 0 0)) [(((fadd .f32 (Int.toNat (((x4.set (Int.toNat ((x5.getD (Int.toNat x3) []).getD 0 0)) [(((fadd .f32 (Int.toNat ((x4.getD (Int.toNat ((x5.getD (Int.toNat x3) []).getD 0 0)) []).getD 0 0)) (fmul .f32 (Int.toNat ((x5.getD (Int.toNat x3) []).getD 2 0)) (fsub .f32 ((r69 ((x5.getD (Int.toNat x3) []).getD 1 0) x0 x6).2) (Int.toNat ((x6.getD (Int.toNat ((x5.getD (Int.toNat x3) []).getD 0 0)) []).getD 0 0))))) : Nat) : Int)]).getD (Int.toNat ((x5.getD (Int.toNat x3) []).getD 0 0)) []).getD 0 0)) (fmul .f32 (Int.toNat ((x5.getD (Int.toNat x3) []).getD 3 0)) x1)) : Nat) : Int)]).getD (Int.toNat ((x5.getD (Int.toNat x3) []).getD 1 0)) []).getD 0 0)) (fmul .f32 (Int.toNat ((x5.getD (Int.toNat x3) []).getD 2 0)) (fsub .f32 (Int.toNat ((x6.getD (Int.toNat ((x5.getD (Int.toNat x3) []).getD 0 0)) []).getD 0 0)) ((r69 ((x5.getD (Int.toNat x3) []).getD 1 0) x0 x6).2)))) : Nat) : Int)]) x5 x6 x7 x8)))))) (fun h7 => rfl))) (fun h6 => (v97l1 x0 x1 x2 x3 x4 x5 x6 x7 x8 ((r97l1 m) x0 x1 x2 (IntKind.i64.wrap (x3 + 1)) ((x4.set (Int.toNat ((x5.getD (Int.toNat x3) []).getD 0 0)) [(((fadd .f32 (Int.toNat ((x4.getD (Int.toNat ((x5.getD (Int.toNat x3) []).getD 0 0)) []).getD 0 0)) (fmul .f32 (Int.toNat ((x5.getD (Int.toNat x3) []).getD 2 0)) (fsub .f32 ((r69 ((x5.getD (Int.toNat x3) []).getD 1 0) x0 x6).2) (Int.toNat ((x6.getD (Int.toNat ((x5.getD (Int.toNat x3) []).getD 0 0)) []).getD 0 0))))) : Nat) : Int)]).set (Int.toNat ((x5.getD (Int.toNat x3) []).getD 0 0)) [(((fadd .f32 (Int.toNat (((x4.set (Int.toNat ((x5.getD (Int.toNat x3) []).getD 0 0)) [(((fadd .f32 (Int.toNat ((x4.getD (Int.toNat ((x5.getD (Int.toNat x3) []).getD 0 0)) []).getD 0 0)) (fmul .f32 (Int.toNat ((x5.getD (Int.toNat x3) []).getD 2 0)) (fsub .f32 ((r69 ((x5.getD (Int.toNat x3) []).getD 1 0) x0 x6).2) (Int.toNat ((x6.getD (Int.toNat ((x5.getD (Int.toNat x3) []).getD 0 0)) []).getD 0 0))))) : Nat) : Int)]).getD (Int.toNat ((x5.getD (Int.toNat x3) []).getD 0 0)) []).getD 0 0)) (fmul .f32 (Int.toNat ((x5.getD (Int.toNat x3) []).getD 3 0)) x1)) : Nat) : Int)]) x5 x6 x7 x8)))))))) (fun h5 => rfl)))))) (fun h4 => rfl))) (fun h3 => rfl)))) (fun h2 => rfl)))) (fun h1 => rfl))) (fun h0 => rfl)))
set_option maxRecDepth 100000 in
set_option maxHeartbeats 4000000 in
theorem qm97l1 : ∀ m, SumKOk Try.prog (loopN Try.f97 1) 132 [1, 2, 3, 7, 72, 73, 74] [7] (q97l1 m) := by
  intro m
  induction m with
  | zero =>
    intro vals s x h1 h2 h3
    unfold q97l1 at h3; split at h3
    · rename_i h; split at h3
      · rename_i hc; obtain ⟨rfl, rfl, rfl, rfl, rfl, rfl, rfl, rfl, rfl⟩ := hc; exact absurd h3 (by simp [r97l1, firstT, Nat.beq])
      · exact noQ_ok _ _ _ h1 h2 h3
    · exact noQ_ok _ _ _ h1 h2 h3
  | succ m ih =>
    intro vals s x h1 h2 h3
    unfold q97l1 at h3; split at h3
    · rename_i h; split at h3
      · rename_i hc; obtain ⟨rfl, rfl, rfl, rfl, rfl, rfl, rfl, rfl, rfl⟩ := hc; exact sum_step ok48 extOk mixed (lok97_1.inner (by kernel_rfl)) ih h1 h2 h (e97l1 m _ _ _ _ _ _ _ _ _) rfl h3
      · exact noQ_ok _ _ _ h1 h2 h3
    · exact noQ_ok _ _ _ h1 h2 h3
noncomputable def Q97l1 : SumK := fun vals s => q97l1 (fuelOf vals s.h) vals s
theorem qok97l1 : SumKOk Try.prog (loopN Try.f97 1) 132 [1, 2, 3, 7, 72, 73, 74] [7] Q97l1 := fuel_ok qm97l1 fuelOf
noncomputable def L97_2 : LoopT := addL L97_1 12 ([1, 2, 3, 7, 72, 73, 74], []) (sumK 132 [1, 2, 3, 7, 72, 73, 74] [7] Q97l1)
theorem lok97_2 : LfOkF Try.prog L97_2 Try.f97 := lfOkF_add lok97_1 qok97l1 (by kernel_rfl) (by kernel_rfl) (by kernel_rfl)

/-- impl.roomFlows -/
noncomputable def r97 (x0 x1 : Nat) (x2 x3 x4 x5 : List (List Int)) : Nat × List (List Int) :=
 let c183 := (r97l0 (1000 + x5.length + x3.length + x2.length + x4.length + (List.replicate x2.length ([0] : List Int)).length) x0 x1 ((x4.length : Nat) : Int) 0 (List.replicate x2.length ([0] : List Int)) x4 x2 x3 x5)
 let c184 := (r97l1 (1000 + x4.length + x3.length + x2.length + x5.length + (c183.2).length) x0 x1 ((x5.length : Nat) : Int) 0 (c183.2) x5 x2 x3 x4)
 cond (((decide ((0 : Int) ≤ ((x2.length : Nat) : Int)) && decide ((((x2.length : Nat) : Int) : Int) ≤ ((x2.length : Nat) : Int))) && decide (((4 : Nat) : Int) * ((x2.length : Nat) : Int) ≤ 281474976710656)) && decide (((x2.length : Nat) : Int) ≤ 9223372036854775807)) (cond (Nat.beq (c183.1) 0) (cond (Nat.beq (c184.1) 0) (0, (c184.2)) (1, [])) (1, [])) (1, [])
noncomputable def a97 (x0 x1 : Nat) (x2 x3 x4 x5 : List (List Int)) (p : Nat × List (List Int)) : Res := firstT [((Nat.beq (p.1) 0), wsl 4, ⟨[⟨true, (some (.tab [.fl .f32] x2))⟩, ⟨true, (some (.tab [.fl .f32] x3))⟩, ⟨true, (some (.tab sc0 x4))⟩, ⟨true, (some (.tab sc1 x5))⟩, ⟨true, (some (.tab [.fl .f32] (p.2)))⟩], 4, []⟩)]
noncomputable def w97 (x0 x1 : Nat) (x2 x3 x4 x5 : List (List Int)) : Res :=
 let c183 := (r97l0 (1000 + x5.length + x3.length + x2.length + x4.length + (List.replicate x2.length ([0] : List Int)).length) x0 x1 ((x4.length : Nat) : Int) 0 (List.replicate x2.length ([0] : List Int)) x4 x2 x3 x5)
 let c184 := (r97l1 (1000 + x4.length + x3.length + x2.length + x5.length + (c183.2).length) x0 x1 ((x5.length : Nat) : Int) 0 (c183.2) x5 x2 x3 x4)
 (cond (((decide ((0 : Int) ≤ ((x2.length : Nat) : Int)) && decide ((((x2.length : Nat) : Int) : Int) ≤ ((x2.length : Nat) : Int))) && decide (((4 : Nat) : Int) * ((x2.length : Nat) : Int) ≤ 281474976710656)) && decide (((x2.length : Nat) : Int) ≤ 9223372036854775807))
 (cond (Nat.beq (c183.1) 0) (cond (Nat.beq (c184.1) 0) (a97 x0 x1 x2 x3 x4 x5 (0, (c184.2))) none) none)
 none)
set_option maxRecDepth 100000 in
set_option maxHeartbeats 4000000 in
theorem e97 (x0 x1 : Nat) (x2 x3 x4 x5 : List (List Int)) : evFn Try.prog ext T48 L97_2 200 Try.f97 [.agg #[wsl 0, wsl 1, wsl 2, wsl 3], .float .f32 x0, .float .f32 x1] ⟨[⟨true, (some (.tab [.fl .f32] x2))⟩, ⟨true, (some (.tab [.fl .f32] x3))⟩, ⟨true, (some (.tab sc0 x4))⟩, ⟨true, (some (.tab sc1 x5))⟩], 4, []⟩ = firstT [((Nat.beq ((r97 x0 x1 x2 x3 x4 x5).1) 0), wsl 4, ⟨[⟨true, (some (.tab [.fl .f32] x2))⟩, ⟨true, (some (.tab [.fl .f32] x3))⟩, ⟨true, (some (.tab sc0 x4))⟩, ⟨true, (some (.tab sc1 x5))⟩, ⟨true, (some (.tab [.fl .f32] ((r97 x0 x1 x2 x3 x4 x5).2)))⟩], 4, []⟩)] :=
 (show evFn Try.prog ext T48 L97_2 200 Try.f97 [.agg #[wsl 0, wsl 1, wsl 2, wsl 3], .float .f32 x0, .float .f32 x1] ⟨[⟨true, (some (.tab [.fl .f32] x2))⟩, ⟨true, (some (.tab [.fl .f32] x3))⟩, ⟨true, (some (.tab sc0 x4))⟩, ⟨true, (some (.tab sc1 x5))⟩], 4, []⟩ = w97 x0 x1 x2 x3 x4 x5 from by kernel_rfl).trans
 (show w97 x0 x1 x2 x3 x4 x5 = a97 x0 x1 x2 x3 x4 x5 (r97 x0 x1 x2 x3 x4 x5) from by unfold w97 r97; exact (cond_app (a97 x0 x1 x2 x3 x4 x5) _ (cond_app (a97 x0 x1 x2 x3 x4 x5) _ (cond_app (a97 x0 x1 x2 x3 x4 x5) _ rfl rfl) rfl) rfl))
noncomputable def s97 (args : List Value) (s : St) : List (Bool × Value × St) :=
 match args, s.h with
 | [.agg ⟨[.iface f0 .nilIface, .iface f1 .nilIface, .iface f2 .nilIface, .iface f3 .nilIface]⟩, .float .f32 x0, .float .f32 x1], [⟨true, some (.tab [.fl .f32] x2)⟩, ⟨true, some (.tab [.fl .f32] x3)⟩, ⟨true, some (.tab [.int .i64, .int .i64, .fl .f32, .fl .f32, .fl .f32, .fl .f32, .fl .f32, .fl .f32] x4)⟩, ⟨true, some (.tab [.int .i64, .int .i64, .fl .f32, .fl .f32] x5)⟩] => if f0 = 0 ∧ f1 = 1 ∧ f2 = 2 ∧ f3 = 3 then [((Nat.beq ((r97 x0 x1 x2 x3 x4 x5).1) 0), wsl 4, ⟨[⟨true, (some (.tab [.fl .f32] x2))⟩, ⟨true, (some (.tab [.fl .f32] x3))⟩, ⟨true, (some (.tab sc0 x4))⟩, ⟨true, (some (.tab sc1 x5))⟩, ⟨true, (some (.tab [.fl .f32] ((r97 x0 x1 x2 x3 x4 x5).2)))⟩], 4, []⟩)] else T48 97 args s
 | _, _ => T48 97 args s
noncomputable def T49 : CallF := addF T48 97 s97
set_option maxRecDepth 100000 in
set_option maxHeartbeats 4000000 in
theorem ok49 : CfOk Try.prog T49 := by
  refine cfOk_add ok48 fun args s r s' h1 h2 h3 => ?_
  unfold s97 at h3; split at h3
  · rename_i h; split at h3
    · rename_i hc; obtain ⟨rfl, rfl, rfl, rfl⟩ := hc; exact callOk ok48 Try.func97 h1 h2 h lok97_2.body (e97 _ _ _ _ _ _) rfl h3
    · exact ok48 _ _ _ _ _ h1 h2 h3
  · exact ok48 _ _ _ _ _ h1 h2 h3

/-- impl.stepFlat, loop 0: one round -/
noncomputable def b64l0 (ih : Nat → Nat → Int → Int → List (List Int) → List (List Int) → List (List Int) → List (List Int) → List (List Int) → List (List Int) → List (List Int) → List (List Int) → List (List Int) → List (List Int) → (Nat × List (List Int))) (x0 x1 : Nat) (x2 x3 : Int) (x4 x5 x6 x7 x8 x9 x10 x11 x12 x13 : List (List Int)) : Nat × List (List Int) :=
 cond (decide ((x3 : Int) < x2)) (cond ((decide ((0 : Int) ≤ x3)) && (Nat.blt (Int.toNat x3) x10.length)) (cond ((decide ((0 : Int) ≤ x3)) && (Nat.blt (Int.toNat x3) x5.length)) (cond ((decide ((0 : Int) ≤ x3)) && (Nat.blt (Int.toNat x3) x4.length)) (cond ((decide ((0 : Int) ≤ x3)) && (Nat.blt (Int.toNat x3) x7.length)) (ih x0 x1 x2 (IntKind.i64.wrap (x3 + 1)) x4 x5 x6 x7 x8 x9 (x10.set (Int.toNat x3) [(((fadd .f32 (Int.toNat ((x10.getD (Int.toNat x3) []).getD 0 0)) (fdiv .f32 (fmul .f32 (fadd .f32 (Int.toNat ((x5.getD (Int.toNat x3) []).getD 0 0)) (Int.toNat ((x4.getD (Int.toNat x3) []).getD 0 0))) x1) (Int.toNat ((x7.getD (Int.toNat x3) []).getD 0 0)))) : Nat) : Int)]) x11 x12 x13) (1, [])) (1, [])) (1, [])) (1, [])) (0, x10)
noncomputable def r64l0 : Nat → Nat → Nat → Int → Int → List (List Int) → List (List Int) → List (List Int) → List (List Int) → List (List Int) → List (List Int) → List (List Int) → List (List Int) → List (List Int) → List (List Int) → (Nat × List (List Int))
 | 0 => fun _ _ _ _ _ _ _ _ _ _ _ _ _ _ => (1, [])
 | m + 1 => b64l0 (r64l0 m)
noncomputable def a64l0 (x0 x1 : Nat) (x2 x3 : Int) (x4 x5 x6 x7 x8 x9 x10 x11 x12 x13 : List (List Int)) (p : Nat × List (List Int)) : Option (Fin' × List Value × St) := firstT ([((Nat.beq (p.1) 0), .exit 0, [.float .f32 x0, .float .f32 x1, .pointer (some ⟨1, 0, some 0⟩), .pointer (some ⟨2, 0, some 0⟩), .pointer (some ⟨3, 0, some 0⟩)], ⟨[⟨true, (some (.tab [.fl .f32] x4))⟩, ⟨true, (some (.cells [wsl 5, wsl 6, wsl 7, wsl 8]))⟩, ⟨true, (some (.cells [.slice none 0 0, .slice none 0 0, .slice none 0 0, .slice none 0 0]))⟩, ⟨true, (some (.cells [wsl 9, wsl 10, wsl 11, wsl 12]))⟩, ⟨true, (some (.tab [.fl .f32] x5))⟩, ⟨true, (some (.tab [.fl .f32] x6))⟩, ⟨true, (some (.tab [.fl .f32] x7))⟩, ⟨true, (some (.tab sc0 x8))⟩, ⟨true, (some (.tab sc1 x9))⟩, ⟨true, (some (.tab [.fl .f32] (p.2)))⟩, ⟨true, (some (.tab [.fl .f32] x11))⟩, ⟨true, (some (.tab sc0 x12))⟩, ⟨true, (some (.tab sc1 x13))⟩], 13, [9]⟩)].map fun (b, x) => (b, (x.1, frameOf 161 [1, 4, 5, 10, 13] x.2.1, x.2.2)))
noncomputable def u64l0 (x0 x1 : Nat) (x2 x3 : Int) (x4 x5 x6 x7 x8 x9 x10 x11 x12 x13 : List (List Int)) (p : Nat × List (List Int)) : Option (Fin' × List Value × St) := alts ([((Nat.beq (p.1) 0), .exit 0, [.float .f32 x0, .float .f32 x1, .pointer (some ⟨1, 0, some 0⟩), .pointer (some ⟨2, 0, some 0⟩), .pointer (some ⟨3, 0, some 0⟩)], ⟨[⟨true, (some (.tab [.fl .f32] x4))⟩, ⟨true, (some (.cells [wsl 5, wsl 6, wsl 7, wsl 8]))⟩, ⟨true, (some (.cells [.slice none 0 0, .slice none 0 0, .slice none 0 0, .slice none 0 0]))⟩, ⟨true, (some (.cells [wsl 9, wsl 10, wsl 11, wsl 12]))⟩, ⟨true, (some (.tab [.fl .f32] x5))⟩, ⟨true, (some (.tab [.fl .f32] x6))⟩, ⟨true, (some (.tab [.fl .f32] x7))⟩, ⟨true, (some (.tab sc0 x8))⟩, ⟨true, (some (.tab sc1 x9))⟩, ⟨true, (some (.tab [.fl .f32] (p.2)))⟩, ⟨true, (some (.tab [.fl .f32] x11))⟩, ⟨true, (some (.tab sc0 x12))⟩, ⟨true, (some (.tab sc1 x13))⟩], 13, [9]⟩)].map fun (b, x) => (b, (x.1, frameOf 161 [1, 4, 5, 10, 13] x.2.1, x.2.2))) some
theorem v64l0 (x0 x1 : Nat) (x2 x3 : Int) (x4 x5 x6 x7 x8 x9 x10 x11 x12 x13 : List (List Int)) (p : Nat × List (List Int)) : u64l0 x0 x1 x2 x3 x4 x5 x6 x7 x8 x9 x10 x11 x12 x13 p = a64l0 x0 x1 x2 x3 x4 x5 x6 x7 x8 x9 x10 x11 x12 x13 p := alts_first _
noncomputable def q64l0 (m : Nat) : SumK := fun vals s =>
 match vals, s.h with
 | [.float .f32 x0, .iface f0 .nilIface, .float .f32 x1, .pointer (some ⟨f1, f2, some f3⟩), .pointer (some ⟨f4, f5, some f6⟩), .pointer (some ⟨f7, f8, some f9⟩), .iface f10 .nilIface, .int .i64 x2, .int .i64 x3], [⟨true, some (.tab [.fl .f32] x4)⟩, ⟨true, some (.cells [.iface f11 .nilIface, .iface f12 .nilIface, .iface f13 .nilIface, .iface f14 .nilIface])⟩, ⟨true, some (.cells [.slice none f15 f16, .slice none f17 f18, .slice none f19 f20, .slice none f21 f22])⟩, ⟨true, some (.cells [.iface f23 .nilIface, .iface f24 .nilIface, .iface f25 .nilIface, .iface f26 .nilIface])⟩, ⟨true, some (.tab [.fl .f32] x5)⟩, ⟨true, some (.tab [.fl .f32] x6)⟩, ⟨true, some (.tab [.fl .f32] x7)⟩, ⟨true, some (.tab [.int .i64, .int .i64, .fl .f32, .fl .f32, .fl .f32, .fl .f32, .fl .f32, .fl .f32] x8)⟩, ⟨true, some (.tab [.int .i64, .int .i64, .fl .f32, .fl .f32] x9)⟩, ⟨true, some (.tab [.fl .f32] x10)⟩, ⟨true, some (.tab [.fl .f32] x11)⟩, ⟨true, some (.tab [.int .i64, .int .i64, .fl .f32, .fl .f32, .fl .f32, .fl .f32, .fl .f32, .fl .f32] x12)⟩, ⟨true, some (.tab [.int .i64, .int .i64, .fl .f32, .fl .f32] x13)⟩] => if f0 = 0 ∧ f1 = 1 ∧ f2 = 0 ∧ f3 = 0 ∧ f4 = 2 ∧ f5 = 0 ∧ f6 = 0 ∧ f7 = 3 ∧ f8 = 0 ∧ f9 = 0 ∧ f10 = 4 ∧ f11 = 5 ∧ f12 = 6 ∧ f13 = 7 ∧ f14 = 8 ∧ f15 = 0 ∧ f16 = 0 ∧ f17 = 0 ∧ f18 = 0 ∧ f19 = 0 ∧ f20 = 0 ∧ f21 = 0 ∧ f22 = 0 ∧ f23 = 9 ∧ f24 = 10 ∧ f25 = 11 ∧ f26 = 12 then [((Nat.beq ((r64l0 m x0 x1 x2 x3 x4 x5 x6 x7 x8 x9 x10 x11 x12 x13).1) 0), .exit 0, [.float .f32 x0, .float .f32 x1, .pointer (some ⟨1, 0, some 0⟩), .pointer (some ⟨2, 0, some 0⟩), .pointer (some ⟨3, 0, some 0⟩)], ⟨[⟨true, (some (.tab [.fl .f32] x4))⟩, ⟨true, (some (.cells [wsl 5, wsl 6, wsl 7, wsl 8]))⟩, ⟨true, (some (.cells [.slice none 0 0, .slice none 0 0, .slice none 0 0, .slice none 0 0]))⟩, ⟨true, (some (.cells [wsl 9, wsl 10, wsl 11, wsl 12]))⟩, ⟨true, (some (.tab [.fl .f32] x5))⟩, ⟨true, (some (.tab [.fl .f32] x6))⟩, ⟨true, (some (.tab [.fl .f32] x7))⟩, ⟨true, (some (.tab sc0 x8))⟩, ⟨true, (some (.tab sc1 x9))⟩, ⟨true, (some (.tab [.fl .f32] ((r64l0 m x0 x1 x2 x3 x4 x5 x6 x7 x8 x9 x10 x11 x12 x13).2)))⟩, ⟨true, (some (.tab [.fl .f32] x11))⟩, ⟨true, (some (.tab sc0 x12))⟩, ⟨true, (some (.tab sc1 x13))⟩], 13, [9]⟩)] else noQ vals s
 | _, _ => noQ vals s
noncomputable def w64l0 (ih : Nat → Nat → Int → Int → List (List Int) → List (List Int) → List (List Int) → List (List Int) → List (List Int) → List (List Int) → List (List Int) → List (List Int) → List (List Int) → List (List Int) → (Nat × List (List Int))) (x0 x1 : Nat) (x2 x3 : Int) (x4 x5 x6 x7 x8 x9 x10 x11 x12 x13 : List (List Int)) : Option (Fin' × List Value × St) :=
 (cond (decide ((x3 : Int) < x2))
 (cond ((decide ((0 : Int) ≤ x3)) && (Nat.blt (Int.toNat x3) x10.length)) (cond (Nat.blt (Int.toNat x3) x10.length) (cond ((decide ((0 : Int) ≤ x3)) && (Nat.blt (Int.toNat x3) x5.length)) (cond (Nat.blt (Int.toNat x3) x5.length) (cond ((decide ((0 : Int) ≤ x3)) && (Nat.blt (Int.toNat x3) x4.length)) (cond (Nat.blt (Int.toNat x3) x4.length) (cond ((decide ((0 : Int) ≤ x3)) && (Nat.blt (Int.toNat x3) x7.length)) (cond (Nat.blt (Int.toNat x3) x7.length) (cond ((decide ((0 : Int) ≤ x3)) && (Nat.blt (Int.toNat x3) x10.length)) (cond (Nat.blt (Int.toNat x3) x10.length) (u64l0 x0 x1 x2 x3 x4 x5 x6 x7 x8 x9 x10 x11 x12 x13 (ih x0 x1 x2 (IntKind.i64.wrap (x3 + 1)) x4 x5 x6 x7 x8 x9 (x10.set (Int.toNat x3) [(((fadd .f32 (Int.toNat ((x10.getD (Int.toNat x3) []).getD 0 0)) (fdiv .f32 (fmul .f32 (fadd .f32 (Int.toNat ((x5.getD (Int.toNat x3) []).getD 0 0)) (Int.toNat ((x4.getD (Int.toNat x3) []).getD 0 0))) x1) (Int.toNat ((x7.getD (Int.toNat x3) []).getD 0 0)))) : Nat) : Int)]) x11 x12 x13)) none) none) none) none) none) none) none) none) none) none)
 (a64l0 x0 x1 x2 x3 x4 x5 x6 x7 x8 x9 x10 x11 x12 x13 (0, x10)))
set_option maxRecDepth 100000 in
set_option maxHeartbeats 4000000 in
theorem e64l0 (m : Nat) (x0 x1 : Nat) (x2 x3 : Int) (x4 x5 x6 x7 x8 x9 x10 x11 x12 x13 : List (List Int)) : evC Try.prog ext T49 noL 200 (loopN Try.f64 0) (loopTail ([1, 3, 4, 5, 10, 13, 14, 31, 32], []) [1, 4, 5, 10, 13] [9] (sumK 161 [1, 3, 4, 5, 10, 13, 14, 31, 32] [1, 4, 5, 10, 13] (q64l0 m))) (frameOf 161 [1, 3, 4, 5, 10, 13, 14, 31, 32] [.float .f32 x0, wsl 0, .float .f32 x1, .pointer (some ⟨1, 0, some 0⟩), .pointer (some ⟨2, 0, some 0⟩), .pointer (some ⟨3, 0, some 0⟩), wsl 4, .int .i64 x2, .int .i64 x3]) ⟨[⟨true, (some (.tab [.fl .f32] x4))⟩, ⟨true, (some (.cells [wsl 5, wsl 6, wsl 7, wsl 8]))⟩, ⟨true, (some (.cells [.slice none 0 0, .slice none 0 0, .slice none 0 0, .slice none 0 0]))⟩, ⟨true, (some (.cells [wsl 9, wsl 10, wsl 11, wsl 12]))⟩, ⟨true, (some (.tab [.fl .f32] x5))⟩, ⟨true, (some (.tab [.fl .f32] x6))⟩, ⟨true, (some (.tab [.fl .f32] x7))⟩, ⟨true, (some (.tab sc0 x8))⟩, ⟨true, (some (.tab sc1 x9))⟩, ⟨true, (some (.tab [.fl .f32] x10))⟩, ⟨true, (some (.tab [.fl .f32] x11))⟩, ⟨true, (some (.tab sc0 x12))⟩, ⟨true, (some (.tab sc1 x13))⟩], 13, []⟩ = firstT ([((Nat.beq ((r64l0 (m + 1) x0 x1 x2 x3 x4 x5 x6 x7 x8 x9 x10 x11 x12 x13).1) 0), .exit 0, [.float .f32 x0, .float .f32 x1, .pointer (some ⟨1, 0, some 0⟩), .pointer (some ⟨2, 0, some 0⟩), .pointer (some ⟨3, 0, some 0⟩)], ⟨[⟨true, (some (.tab [.fl .f32] x4))⟩, ⟨true, (some (.cells [wsl 5, wsl 6, wsl 7, wsl 8]))⟩, ⟨true, (some (.cells [.slice none 0 0, .slice none 0 0, .slice none 0 0, .slice none 0 0]))⟩, ⟨true, (some (.cells [wsl 9, wsl 10, wsl 11, wsl 12]))⟩, ⟨true, (some (.tab [.fl .f32] x5))⟩, ⟨true, (some (.tab [.fl .f32] x6))⟩, ⟨true, (some (.tab [.fl .f32] x7))⟩, ⟨true, (some (.tab sc0 x8))⟩, ⟨true, (some (.tab sc1 x9))⟩, ⟨true, (some (.tab [.fl .f32] ((r64l0 (m + 1) x0 x1 x2 x3 x4 x5 x6 x7 x8 x9 x10 x11 x12 x13).2)))⟩, ⟨true, (some (.tab [.fl .f32] x11))⟩, ⟨true, (some (.tab sc0 x12))⟩, ⟨true, (some (.tab sc1 x13))⟩], 13, [9]⟩)].map fun (b, x) => (b, (x.1, frameOf 161 [1, 4, 5, 10, 13] x.2.1, x.2.2))) :=
 (show evC Try.prog ext T49 noL 200 (loopN Try.f64 0) (loopTail ([1, 3, 4, 5, 10, 13, 14, 31, 32], []) [1, 4, 5, 10, 13] [9] (sumK 161 [1, 3, 4, 5, 10, 13, 14, 31, 32] [1, 4, 5, 10, 13] (q64l0 m))) (frameOf 161 [1, 3, 4, 5, 10, 13, 14, 31, 32] [.float .f32 x0, wsl 0, .float .f32 x1, .pointer (some ⟨1, 0, some 0⟩), .pointer (some ⟨2, 0, some 0⟩), .pointer (some ⟨3, 0, some 0⟩), wsl 4, .int .i64 x2, .int .i64 x3]) ⟨[⟨true, (some (.tab [.fl .f32] x4))⟩, ⟨true, (some (.cells [wsl 5, wsl 6, wsl 7, wsl 8]))⟩, ⟨true, (some (.cells [.slice none 0 0, .slice none 0 0, .slice none 0 0, .slice none 0 0]))⟩, ⟨true, (some (.cells [wsl 9, wsl 10, wsl 11, wsl 12]))⟩, ⟨true, (some (.tab [.fl .f32] x5))⟩, ⟨true, (some (.tab [.fl .f32] x6))⟩, ⟨true, (some (.tab [.fl .f32] x7))⟩, ⟨true, (some (.tab sc0 x8))⟩, ⟨true, (some (.tab sc1 x9))⟩, ⟨true, (some (.tab [.fl .f32] x10))⟩, ⟨true, (some (.tab [.fl .f32] x11))⟩, ⟨true, (some (.tab sc0 x12))⟩, ⟨true, (some (.tab sc1 x13))⟩], 13, []⟩ = w64l0 (r64l0 m) x0 x1 x2 x3 x4 x5 x6 x7 x8 x9 x10 x11 x12 x13 from by kernel_rfl).trans
 (show w64l0 (r64l0 m) x0 x1 x2 x3 x4 x5 x6 x7 x8 x9 x10 x11 x12 x13 = a64l0 x0 x1 x2 x3 x4 x5 x6 x7 x8 x9 x10 x11 x12 x13 (r64l0 (m + 1) x0 x1 x2 x3 x4 x5 x6 x7 x8 x9 x10 x11 x12 x13) from by unfold w64l0; show _ = a64l0 x0 x1 x2 x3 x4 x5 x6 x7 x8 x9 x10 x11 x12 x13 (b64l0 (r64l0 m) x0 x1 x2 x3 x4 x5 x6 x7 x8 x9 x10 x11 x12 x13); unfold b64l0; exact (cond_both (a64l0 x0 x1 x2 x3 x4 x5 x6 x7 x8 x9 x10 x11 x12 x13) _ (fun h0 => (cond_both (a64l0 x0 x1 x2 x3 x4 x5 x6 x7 x8 x9 x10 x11 x12 x13) _ (fun h1 => (cond_t (ev_and2 h1) (cond_both (a64l0 x0 x1 x2 x3 x4 x5 x6 x7 x8 x9 x10 x11 x12 x13) _ (fun h2 => (cond_t (ev_and2 h2) (cond_both (a64l0 x0 x1 x2 x3 x4 x5 x6 x7 x8 x9 x10 x11 x12 x13) _ (fun h3 => (cond_t (ev_and2 h3) (cond_both (a64l0 x0 x1 x2 x3 x4 x5 x6 x7 x8 x9 x10 x11 x12 x13) _ (fun h4 => (cond_t (ev_and2 h4) (cond_t h1 (cond_t (ev_and2 h1) (v64l0 x0 x1 x2 x3 x4 x5 x6 x7 x8 x9 x10 x11 x12 x13 ((r64l0 m) x0 x1 x2 (IntKind.i64.wrap (x3 + 1)) x4 x5 x6 x7 x8 x9 (x10.set (Int.toNat x3) [(((fadd .f32 (Int.toNat ((x10.getD (Int.toNat x3) []).getD 0 0)) (fdiv .f32 (fmul .f32 (fadd .f32 (Int.toNat ((x5.getD (Int.toNat x3) []).getD 0 0)) (Int.toNat ((x4.getD (Int.toNat x3) []).getD 0 0))) x1) (Int.toNat ((x7.getD (Int.toNat x3) []).getD 0 0)))) : Nat) : Int)]) x11 x12 x13)))))) (fun h4 => rfl)))) (fun h3 => rfl)))) (fun h2 => rfl)))) (fun h1 => rfl))) (fun h0 => rfl)))
set_option maxRecDepth 100000 in
set_option maxHeartbeats 4000000 in
theorem qm64l0 : ∀ m, SumKOk Try.prog (loopN Try.f64 0) 161 [1, 3, 4, 5, 10, 13, 14, 31, 32] [1, 4, 5, 10, 13] (q64l0 m) := by
  intro m
  induction m with
  | zero =>
    intro vals s x h1 h2 h3
    unfold q64l0 at h3; split at h3
    · rename_i h; split at h3
      · rename_i hc; obtain ⟨rfl, rfl, rfl, rfl, rfl, rfl, rfl, rfl, rfl, rfl, rfl, rfl, rfl, rfl, rfl, rfl, rfl, rfl, rfl, rfl, rfl, rfl, rfl, rfl, rfl, rfl, rfl⟩ := hc; exact absurd h3 (by simp [r64l0, firstT, Nat.beq])
      · exact noQ_ok _ _ _ h1 h2 h3
    · exact noQ_ok _ _ _ h1 h2 h3
  | succ m ih =>
    intro vals s x h1 h2 h3
    unfold q64l0 at h3; split at h3
    · rename_i h; split at h3
      · rename_i hc; obtain ⟨rfl, rfl, rfl, rfl, rfl, rfl, rfl, rfl, rfl, rfl, rfl, rfl, rfl, rfl, rfl, rfl, rfl, rfl, rfl, rfl, rfl, rfl, rfl, rfl, rfl, rfl, rfl⟩ := hc; exact sum_step ok49 extOk mixed ((lfOkF_no _ _).inner (by kernel_rfl)) ih h1 h2 h (e64l0 m _ _ _ _ _ _ _ _ _ _ _ _ _ _) rfl h3
      · exact noQ_ok _ _ _ h1 h2 h3
    · exact noQ_ok _ _ _ h1 h2 h3
noncomputable def Q64l0 : SumK := fun vals s => q64l0 (fuelOf vals s.h) vals s
theorem qok64l0 : SumKOk Try.prog (loopN Try.f64 0) 161 [1, 3, 4, 5, 10, 13, 14, 31, 32] [1, 4, 5, 10, 13] Q64l0 := fuel_ok qm64l0 fuelOf
noncomputable def L64_1 : LoopT := addL noL 5 ([1, 3, 4, 5, 10, 13, 14, 31, 32], []) (sumK 161 [1, 3, 4, 5, 10, 13, 14, 31, 32] [1, 4, 5, 10, 13] Q64l0)
theorem lok64_1 : LfOkF Try.prog L64_1 Try.f64 := lfOkF_add (lfOkF_no _ _) qok64l0 (by kernel_rfl) (by kernel_rfl) (by kernel_rfl)
end Go.Proofs.Ytfnfapmncibjfaa
