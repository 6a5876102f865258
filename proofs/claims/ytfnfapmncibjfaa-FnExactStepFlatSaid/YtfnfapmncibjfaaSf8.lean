/- What the functions that the statements reach answer, part 8. -/
import Derived.Test.YtfnfapmncibjfaaSf7
namespace Go.Proofs.Ytfnfapmncibjfaa
open Go.Ab
set_option maxHeartbeats 4000000
set_option maxRecDepth 100000

/-- laws.heldWallS, loop 0: one round -/
noncomputable def b89l0b (ih : Int → Int → List (List Int) → (Nat × Int × Int)) (x0 x1 : Int) (x2 : List (List Int)) : Nat × Int × Int :=
 cond (decide ((x1 : Int) < ((x2.length : Nat) : Int))) (cond ((decide ((0 : Int) ≤ x1)) && (Nat.blt (Int.toNat x1) x2.length)) (cond ((((x2.getD (Int.toNat x1) []).getD 0 0) : Int) != x0) (0, x0, 0) (cond ((((x2.getD (Int.toNat x1) []).getD 1 0) : Int) != (IntKind.i64.wrap (x0 + 1))) (0, (IntKind.i64.wrap (x0 + 1)), 0) (cond (!feq .f32 (Int.toNat ((x2.getD (Int.toNat x1) []).getD 2 0)) (ofInt .f32 (IntKind.i64.wrap ((IntKind.i64.wrap (x0 + 1)) + 1)))) (0, (IntKind.i64.wrap ((IntKind.i64.wrap (x0 + 1)) + 1)), 0) (cond (!feq .f32 (Int.toNat ((x2.getD (Int.toNat x1) []).getD 3 0)) (ofInt .f32 (IntKind.i64.wrap ((IntKind.i64.wrap ((IntKind.i64.wrap (x0 + 1)) + 1)) + 1)))) (0, (IntKind.i64.wrap ((IntKind.i64.wrap ((IntKind.i64.wrap (x0 + 1)) + 1)) + 1)), 0) (cond (Nat.beq ((r89l1e (IntKind.i64.wrap ((IntKind.i64.wrap ((IntKind.i64.wrap ((IntKind.i64.wrap (x0 + 1)) + 1)) + 1)) + 1)) x1 x2).1) 0) (0, ((r89l1e (IntKind.i64.wrap ((IntKind.i64.wrap ((IntKind.i64.wrap ((IntKind.i64.wrap (x0 + 1)) + 1)) + 1)) + 1)) x1 x2).2.1), 0) (cond (Nat.beq ((r89l1e (IntKind.i64.wrap ((IntKind.i64.wrap ((IntKind.i64.wrap ((IntKind.i64.wrap (x0 + 1)) + 1)) + 1)) + 1)) x1 x2).1) 1) (ih ((r89l1e (IntKind.i64.wrap ((IntKind.i64.wrap ((IntKind.i64.wrap ((IntKind.i64.wrap (x0 + 1)) + 1)) + 1)) + 1)) x1 x2).2.2) (IntKind.i64.wrap (x1 + 1)) x2) (2, 0, 0))))))) (2, 0, 0)) (1, 0, x0)
noncomputable def r89l0b : Nat → Int → Int → List (List Int) → (Nat × Int × Int)
 | 0 => fun _ _ _ => (2, 0, 0)
 | m + 1 => b89l0b (r89l0b m)
noncomputable def a89l0b (x0 x1 : Int) (x2 : List (List Int)) (p : Nat × Int × Int) : Option (Fin' × List Value × St) := firstT ([((Nat.beq (p.1) 0), .ret, [.int .i64 (p.2.1), .int .i64 (-1)], ⟨[⟨true, (some (.tab sc0 x2))⟩], 1, []⟩), ((Nat.beq (p.1) 1), .exit 0, [.int .i64 (p.2.2), anyV], ⟨[⟨true, (some (.tab sc0 x2))⟩], 1, []⟩)].map fun (b, x) => (b, (x.1, frameOf 68 [1, 4] x.2.1, x.2.2)))
noncomputable def u89l0b (x0 x1 : Int) (x2 : List (List Int)) (p : Nat × Int × Int) : Option (Fin' × List Value × St) := alts ([((Nat.beq (p.1) 0), .ret, [.int .i64 (p.2.1), .int .i64 (-1)], ⟨[⟨true, (some (.tab sc0 x2))⟩], 1, []⟩), ((Nat.beq (p.1) 1), .exit 0, [.int .i64 (p.2.2), anyV], ⟨[⟨true, (some (.tab sc0 x2))⟩], 1, []⟩)].map fun (b, x) => (b, (x.1, frameOf 68 [1, 4] x.2.1, x.2.2))) some
theorem v89l0b (x0 x1 : Int) (x2 : List (List Int)) (p : Nat × Int × Int) : u89l0b x0 x1 x2 p = a89l0b x0 x1 x2 p := alts_first _
noncomputable def q89l0b (m : Nat) : SumK := fun vals s =>
 match vals, s.h with
 | [.iface f0 .nilIface, .int .i64 x0, .int .i64 x1], [⟨true, some (.tab [.int .i64, .int .i64, .fl .f32, .fl .f32, .fl .f32, .fl .f32, .fl .f32, .fl .f32] x2)⟩] => if f0 = 0 then [((Nat.beq ((r89l0b m x0 x1 x2).1) 0), .ret, [.int .i64 ((r89l0b m x0 x1 x2).2.1), .int .i64 (-1)], ⟨[⟨true, (some (.tab sc0 x2))⟩], 1, []⟩), ((Nat.beq ((r89l0b m x0 x1 x2).1) 1), .exit 0, [.int .i64 ((r89l0b m x0 x1 x2).2.2), anyV], ⟨[⟨true, (some (.tab sc0 x2))⟩], 1, []⟩)] else Q89l0 vals s
 | _, _ => Q89l0 vals s
noncomputable def w89l0b (ih : Int → Int → List (List Int) → (Nat × Int × Int)) (x0 x1 : Int) (x2 : List (List Int)) : Option (Fin' × List Value × St) :=
 (cond (decide ((x1 : Int) < ((x2.length : Nat) : Int)))
 (cond ((decide ((0 : Int) ≤ x1)) && (Nat.blt (Int.toNat x1) x2.length)) (cond (Nat.blt (Int.toNat x1) x2.length) (cond ((((x2.getD (Int.toNat x1) []).getD 0 0) : Int) != x0) (a89l0b x0 x1 x2 (0, x0, 0)) (cond ((decide ((0 : Int) ≤ x1)) && (Nat.blt (Int.toNat x1) x2.length)) (cond (Nat.blt (Int.toNat x1) x2.length) (cond ((((x2.getD (Int.toNat x1) []).getD 1 0) : Int) != (IntKind.i64.wrap (x0 + 1))) (a89l0b x0 x1 x2 (0, (IntKind.i64.wrap (x0 + 1)), 0)) (cond ((decide ((0 : Int) ≤ x1)) && (Nat.blt (Int.toNat x1) x2.length)) (cond (Nat.blt (Int.toNat x1) x2.length) (cond (!feq .f32 (Int.toNat ((x2.getD (Int.toNat x1) []).getD 2 0)) (ofInt .f32 (IntKind.i64.wrap ((IntKind.i64.wrap (x0 + 1)) + 1)))) (a89l0b x0 x1 x2 (0, (IntKind.i64.wrap ((IntKind.i64.wrap (x0 + 1)) + 1)), 0)) (cond ((decide ((0 : Int) ≤ x1)) && (Nat.blt (Int.toNat x1) x2.length)) (cond (Nat.blt (Int.toNat x1) x2.length) (cond (!feq .f32 (Int.toNat ((x2.getD (Int.toNat x1) []).getD 3 0)) (ofInt .f32 (IntKind.i64.wrap ((IntKind.i64.wrap ((IntKind.i64.wrap (x0 + 1)) + 1)) + 1)))) (a89l0b x0 x1 x2 (0, (IntKind.i64.wrap ((IntKind.i64.wrap ((IntKind.i64.wrap (x0 + 1)) + 1)) + 1)), 0)) (cond (Nat.beq ((r89l1e (IntKind.i64.wrap ((IntKind.i64.wrap ((IntKind.i64.wrap ((IntKind.i64.wrap (x0 + 1)) + 1)) + 1)) + 1)) x1 x2).1) 0) (a89l0b x0 x1 x2 (0, ((r89l1e (IntKind.i64.wrap ((IntKind.i64.wrap ((IntKind.i64.wrap ((IntKind.i64.wrap (x0 + 1)) + 1)) + 1)) + 1)) x1 x2).2.1), 0)) (cond (Nat.beq ((r89l1e (IntKind.i64.wrap ((IntKind.i64.wrap ((IntKind.i64.wrap ((IntKind.i64.wrap (x0 + 1)) + 1)) + 1)) + 1)) x1 x2).1) 1) (u89l0b x0 x1 x2 (ih ((r89l1e (IntKind.i64.wrap ((IntKind.i64.wrap ((IntKind.i64.wrap ((IntKind.i64.wrap (x0 + 1)) + 1)) + 1)) + 1)) x1 x2).2.2) (IntKind.i64.wrap (x1 + 1)) x2)) none))) none) none)) none) none)) none) none)) none) none)
 (a89l0b x0 x1 x2 (1, 0, x0)))
set_option maxRecDepth 100000 in
set_option maxHeartbeats 4000000 in
theorem e89l0b (m : Nat) (x0 x1 : Int) (x2 : List (List Int)) : evC Try.prog ext T81 L89_6 200 (loopN Try.f89 0) (loopTail ([0, 1, 5], []) [1, 4] [] (sumK 68 [0, 1, 5] [1, 4] (q89l0b m))) (frameOf 68 [0, 1, 5] [wsl 0, .int .i64 x0, .int .i64 x1]) ⟨[⟨true, (some (.tab sc0 x2))⟩], 1, []⟩ = firstT ([((Nat.beq ((r89l0b (m + 1) x0 x1 x2).1) 0), .ret, [.int .i64 ((r89l0b (m + 1) x0 x1 x2).2.1), .int .i64 (-1)], ⟨[⟨true, (some (.tab sc0 x2))⟩], 1, []⟩), ((Nat.beq ((r89l0b (m + 1) x0 x1 x2).1) 1), .exit 0, [.int .i64 ((r89l0b (m + 1) x0 x1 x2).2.2), anyV], ⟨[⟨true, (some (.tab sc0 x2))⟩], 1, []⟩)].map fun (b, x) => (b, (x.1, frameOf 68 [1, 4] x.2.1, x.2.2))) :=
 (show evC Try.prog ext T81 L89_6 200 (loopN Try.f89 0) (loopTail ([0, 1, 5], []) [1, 4] [] (sumK 68 [0, 1, 5] [1, 4] (q89l0b m))) (frameOf 68 [0, 1, 5] [wsl 0, .int .i64 x0, .int .i64 x1]) ⟨[⟨true, (some (.tab sc0 x2))⟩], 1, []⟩ = w89l0b (r89l0b m) x0 x1 x2 from by kernel_rfl).trans
 (show w89l0b (r89l0b m) x0 x1 x2 = a89l0b x0 x1 x2 (r89l0b (m + 1) x0 x1 x2) from by unfold w89l0b; show _ = a89l0b x0 x1 x2 (b89l0b (r89l0b m) x0 x1 x2); unfold b89l0b; exact (cond_both (a89l0b x0 x1 x2) _ (fun h0 => (cond_both (a89l0b x0 x1 x2) _ (fun h1 => (cond_t (ev_and2 h1) (cond_both (a89l0b x0 x1 x2) _ (fun h2 => rfl) (fun h2 => (cond_t h1 (cond_t (ev_and2 h1) (cond_both (a89l0b x0 x1 x2) _ (fun h3 => rfl) (fun h3 => (cond_t h1 (cond_t (ev_and2 h1) (cond_both (a89l0b x0 x1 x2) _ (fun h4 => rfl) (fun h4 => (cond_t h1 (cond_t (ev_and2 h1) (cond_app (a89l0b x0 x1 x2) _ rfl (cond_app (a89l0b x0 x1 x2) _ rfl (cond_app (a89l0b x0 x1 x2) _ (v89l0b x0 x1 x2 ((r89l0b m) ((r89l1e (IntKind.i64.wrap ((IntKind.i64.wrap ((IntKind.i64.wrap ((IntKind.i64.wrap (x0 + 1)) + 1)) + 1)) + 1)) x1 x2).2.2) (IntKind.i64.wrap (x1 + 1)) x2)) rfl))))))))))))))))) (fun h1 => rfl))) (fun h0 => rfl)))
set_option maxRecDepth 100000 in
set_option maxHeartbeats 4000000 in
theorem qm89l0b : ∀ m, SumKOk Try.prog (loopN Try.f89 0) 68 [0, 1, 5] [1, 4] (q89l0b m) := by
  intro m
  induction m with
  | zero =>
    intro vals s x h1 h2 h3
    unfold q89l0b at h3; split at h3
    · rename_i h; split at h3
      · rename_i hc; obtain ⟨rfl⟩ := hc; exact absurd h3 (by simp [r89l0b, firstT, Nat.beq])
      · exact qok89l0 _ _ _ h1 h2 h3
    · exact qok89l0 _ _ _ h1 h2 h3
  | succ m ih =>
    intro vals s x h1 h2 h3
    unfold q89l0b at h3; split at h3
    · rename_i h; split at h3
      · rename_i hc; obtain ⟨rfl⟩ := hc; exact sum_step ok81 extOk mixed (lok89_6.inner (by kernel_rfl)) ih h1 h2 h (e89l0b m _ _ _) rfl h3
      · exact qok89l0 _ _ _ h1 h2 h3
    · exact qok89l0 _ _ _ h1 h2 h3
noncomputable def Q89l0b : SumK := fun vals s => q89l0b (fuelOf vals s.h) vals s
theorem qok89l0b : SumKOk Try.prog (loopN Try.f89 0) 68 [0, 1, 5] [1, 4] Q89l0b := fuel_ok qm89l0b fuelOf
noncomputable def L89_7 : LoopT := addL L89_6 3 ([0, 1, 5], []) (sumK 68 [0, 1, 5] [1, 4] Q89l0b)
theorem lok89_7 : LfOkF Try.prog L89_7 Try.f89 := lfOkF_add lok89_6 qok89l0b (by kernel_rfl) (by kernel_rfl) (by kernel_rfl)

/-- laws.heldWallS -/
noncomputable def r89b (x0 : Int) (x1 : List (List Int)) : Nat × Int :=
 cond (Nat.beq ((r89l0b (1000 + x1.length) x0 0 x1).1) 0) (0, (-1)) (cond (Nat.beq ((r89l0b (1000 + x1.length) x0 0 x1).1) 1) (0, ((r89l0b (1000 + x1.length) x0 0 x1).2.2)) (1, 0))
noncomputable def a89b (x0 : Int) (x1 : List (List Int)) (p : Nat × Int) : Res := firstT [((Nat.beq (p.1) 0), .int .i64 (p.2), ⟨[⟨true, (some (.tab sc0 x1))⟩], 1, []⟩)]
noncomputable def w89b (x0 : Int) (x1 : List (List Int)) : Res :=
 (cond (Nat.beq ((r89l0b (1000 + x1.length) x0 0 x1).1) 0)
 (a89b x0 x1 (0, (-1)))
 (cond (Nat.beq ((r89l0b (1000 + x1.length) x0 0 x1).1) 1) (a89b x0 x1 (0, ((r89l0b (1000 + x1.length) x0 0 x1).2.2))) none))
set_option maxRecDepth 100000 in
set_option maxHeartbeats 4000000 in
theorem e89b (x0 : Int) (x1 : List (List Int)) : evFn Try.prog ext T81 L89_7 200 Try.f89 [wsl 0, .int .i64 x0] ⟨[⟨true, (some (.tab sc0 x1))⟩], 1, []⟩ = firstT [((Nat.beq ((r89b x0 x1).1) 0), .int .i64 ((r89b x0 x1).2), ⟨[⟨true, (some (.tab sc0 x1))⟩], 1, []⟩)] :=
 (show evFn Try.prog ext T81 L89_7 200 Try.f89 [wsl 0, .int .i64 x0] ⟨[⟨true, (some (.tab sc0 x1))⟩], 1, []⟩ = w89b x0 x1 from by kernel_rfl).trans
 (show w89b x0 x1 = a89b x0 x1 (r89b x0 x1) from by unfold w89b r89b; exact (cond_app (a89b x0 x1) _ rfl (cond_app (a89b x0 x1) _ rfl rfl)))
noncomputable def s89b (args : List Value) (s : St) : List (Bool × Value × St) :=
 match args, s.h with
 | [.iface f0 .nilIface, .int .i64 x0], [⟨true, some (.tab [.int .i64, .int .i64, .fl .f32, .fl .f32, .fl .f32, .fl .f32, .fl .f32, .fl .f32] x1)⟩] => if f0 = 0 then [((Nat.beq ((r89b x0 x1).1) 0), .int .i64 ((r89b x0 x1).2), ⟨[⟨true, (some (.tab sc0 x1))⟩], 1, []⟩)] else T81 89 args s
 | _, _ => T81 89 args s
noncomputable def T82 : CallF := addF T81 89 s89b
set_option maxRecDepth 100000 in
set_option maxHeartbeats 4000000 in
theorem ok82 : CfOk Try.prog T82 := by
  refine cfOk_add ok81 fun args s r s' h1 h2 h3 => ?_
  unfold s89b at h3; split at h3
  · rename_i h; split at h3
    · rename_i hc; obtain ⟨rfl⟩ := hc; exact callOk ok81 Try.func89 h1 h2 h lok89_7.body (e89b _ _) rfl h3
    · exact ok81 _ _ _ _ _ h1 h2 h3
  · exact ok81 _ _ _ _ _ h1 h2 h3

/-- laws.heldPaneS, loop 0: one round -/
noncomputable def b90l0b (ih : Int → Int → List (List Int) → (Nat × Int × Int)) (x0 x1 : Int) (x2 : List (List Int)) : Nat × Int × Int :=
 cond (decide ((x1 : Int) < ((x2.length : Nat) : Int))) (cond ((decide ((0 : Int) ≤ x1)) && (Nat.blt (Int.toNat x1) x2.length)) (cond ((((x2.getD (Int.toNat x1) []).getD 0 0) : Int) != x0) (0, x0, 0) (cond ((((x2.getD (Int.toNat x1) []).getD 1 0) : Int) != (IntKind.i64.wrap (x0 + 1))) (0, (IntKind.i64.wrap (x0 + 1)), 0) (cond (!feq .f32 (Int.toNat ((x2.getD (Int.toNat x1) []).getD 2 0)) (ofInt .f32 (IntKind.i64.wrap ((IntKind.i64.wrap (x0 + 1)) + 1)))) (0, (IntKind.i64.wrap ((IntKind.i64.wrap (x0 + 1)) + 1)), 0) (cond (!feq .f32 (Int.toNat ((x2.getD (Int.toNat x1) []).getD 3 0)) (ofInt .f32 (IntKind.i64.wrap ((IntKind.i64.wrap ((IntKind.i64.wrap (x0 + 1)) + 1)) + 1)))) (0, (IntKind.i64.wrap ((IntKind.i64.wrap ((IntKind.i64.wrap (x0 + 1)) + 1)) + 1)), 0) (ih (IntKind.i64.wrap ((IntKind.i64.wrap ((IntKind.i64.wrap ((IntKind.i64.wrap (x0 + 1)) + 1)) + 1)) + 1)) (IntKind.i64.wrap (x1 + 1)) x2))))) (2, 0, 0)) (1, 0, x0)
noncomputable def r90l0b : Nat → Int → Int → List (List Int) → (Nat × Int × Int)
 | 0 => fun _ _ _ => (2, 0, 0)
 | m + 1 => b90l0b (r90l0b m)
noncomputable def a90l0b (x0 x1 : Int) (x2 : List (List Int)) (p : Nat × Int × Int) : Option (Fin' × List Value × St) := firstT ([((Nat.beq (p.1) 0), .ret, [.int .i64 (p.2.1), .int .i64 (-1)], ⟨[⟨true, (some (.tab sc1 x2))⟩], 1, []⟩), ((Nat.beq (p.1) 1), .exit 0, [.int .i64 (p.2.2), anyV], ⟨[⟨true, (some (.tab sc1 x2))⟩], 1, []⟩)].map fun (b, x) => (b, (x.1, frameOf 51 [1, 4] x.2.1, x.2.2)))
noncomputable def u90l0b (x0 x1 : Int) (x2 : List (List Int)) (p : Nat × Int × Int) : Option (Fin' × List Value × St) := alts ([((Nat.beq (p.1) 0), .ret, [.int .i64 (p.2.1), .int .i64 (-1)], ⟨[⟨true, (some (.tab sc1 x2))⟩], 1, []⟩), ((Nat.beq (p.1) 1), .exit 0, [.int .i64 (p.2.2), anyV], ⟨[⟨true, (some (.tab sc1 x2))⟩], 1, []⟩)].map fun (b, x) => (b, (x.1, frameOf 51 [1, 4] x.2.1, x.2.2))) some
theorem v90l0b (x0 x1 : Int) (x2 : List (List Int)) (p : Nat × Int × Int) : u90l0b x0 x1 x2 p = a90l0b x0 x1 x2 p := alts_first _
noncomputable def q90l0b (m : Nat) : SumK := fun vals s =>
 match vals, s.h with
 | [.iface f0 .nilIface, .int .i64 x0, .int .i64 x1], [⟨true, some (.tab [.int .i64, .int .i64, .fl .f32, .fl .f32] x2)⟩] => if f0 = 0 then [((Nat.beq ((r90l0b m x0 x1 x2).1) 0), .ret, [.int .i64 ((r90l0b m x0 x1 x2).2.1), .int .i64 (-1)], ⟨[⟨true, (some (.tab sc1 x2))⟩], 1, []⟩), ((Nat.beq ((r90l0b m x0 x1 x2).1) 1), .exit 0, [.int .i64 ((r90l0b m x0 x1 x2).2.2), anyV], ⟨[⟨true, (some (.tab sc1 x2))⟩], 1, []⟩)] else Q90l0 vals s
 | _, _ => Q90l0 vals s
noncomputable def w90l0b (ih : Int → Int → List (List Int) → (Nat × Int × Int)) (x0 x1 : Int) (x2 : List (List Int)) : Option (Fin' × List Value × St) :=
 (cond (decide ((x1 : Int) < ((x2.length : Nat) : Int)))
 (cond ((decide ((0 : Int) ≤ x1)) && (Nat.blt (Int.toNat x1) x2.length)) (cond (Nat.blt (Int.toNat x1) x2.length) (cond ((((x2.getD (Int.toNat x1) []).getD 0 0) : Int) != x0) (a90l0b x0 x1 x2 (0, x0, 0)) (cond ((decide ((0 : Int) ≤ x1)) && (Nat.blt (Int.toNat x1) x2.length)) (cond (Nat.blt (Int.toNat x1) x2.length) (cond ((((x2.getD (Int.toNat x1) []).getD 1 0) : Int) != (IntKind.i64.wrap (x0 + 1))) (a90l0b x0 x1 x2 (0, (IntKind.i64.wrap (x0 + 1)), 0)) (cond ((decide ((0 : Int) ≤ x1)) && (Nat.blt (Int.toNat x1) x2.length)) (cond (Nat.blt (Int.toNat x1) x2.length) (cond (!feq .f32 (Int.toNat ((x2.getD (Int.toNat x1) []).getD 2 0)) (ofInt .f32 (IntKind.i64.wrap ((IntKind.i64.wrap (x0 + 1)) + 1)))) (a90l0b x0 x1 x2 (0, (IntKind.i64.wrap ((IntKind.i64.wrap (x0 + 1)) + 1)), 0)) (cond ((decide ((0 : Int) ≤ x1)) && (Nat.blt (Int.toNat x1) x2.length)) (cond (Nat.blt (Int.toNat x1) x2.length) (cond (!feq .f32 (Int.toNat ((x2.getD (Int.toNat x1) []).getD 3 0)) (ofInt .f32 (IntKind.i64.wrap ((IntKind.i64.wrap ((IntKind.i64.wrap (x0 + 1)) + 1)) + 1)))) (a90l0b x0 x1 x2 (0, (IntKind.i64.wrap ((IntKind.i64.wrap ((IntKind.i64.wrap (x0 + 1)) + 1)) + 1)), 0)) (u90l0b x0 x1 x2 (ih (IntKind.i64.wrap ((IntKind.i64.wrap ((IntKind.i64.wrap ((IntKind.i64.wrap (x0 + 1)) + 1)) + 1)) + 1)) (IntKind.i64.wrap (x1 + 1)) x2))) none) none)) none) none)) none) none)) none) none)
 (a90l0b x0 x1 x2 (1, 0, x0)))
set_option maxRecDepth 100000 in
set_option maxHeartbeats 4000000 in
theorem e90l0b (m : Nat) (x0 x1 : Int) (x2 : List (List Int)) : evC Try.prog ext T82 L90_1 200 (loopN Try.f90 0) (loopTail ([0, 1, 5], []) [1, 4] [] (sumK 51 [0, 1, 5] [1, 4] (q90l0b m))) (frameOf 51 [0, 1, 5] [wsl 0, .int .i64 x0, .int .i64 x1]) ⟨[⟨true, (some (.tab sc1 x2))⟩], 1, []⟩ = firstT ([((Nat.beq ((r90l0b (m + 1) x0 x1 x2).1) 0), .ret, [.int .i64 ((r90l0b (m + 1) x0 x1 x2).2.1), .int .i64 (-1)], ⟨[⟨true, (some (.tab sc1 x2))⟩], 1, []⟩), ((Nat.beq ((r90l0b (m + 1) x0 x1 x2).1) 1), .exit 0, [.int .i64 ((r90l0b (m + 1) x0 x1 x2).2.2), anyV], ⟨[⟨true, (some (.tab sc1 x2))⟩], 1, []⟩)].map fun (b, x) => (b, (x.1, frameOf 51 [1, 4] x.2.1, x.2.2))) :=
 (show evC Try.prog ext T82 L90_1 200 (loopN Try.f90 0) (loopTail ([0, 1, 5], []) [1, 4] [] (sumK 51 [0, 1, 5] [1, 4] (q90l0b m))) (frameOf 51 [0, 1, 5] [wsl 0, .int .i64 x0, .int .i64 x1]) ⟨[⟨true, (some (.tab sc1 x2))⟩], 1, []⟩ = w90l0b (r90l0b m) x0 x1 x2 from by kernel_rfl).trans
 (show w90l0b (r90l0b m) x0 x1 x2 = a90l0b x0 x1 x2 (r90l0b (m + 1) x0 x1 x2) from by unfold w90l0b; show _ = a90l0b x0 x1 x2 (b90l0b (r90l0b m) x0 x1 x2); unfold b90l0b; exact (cond_both (a90l0b x0 x1 x2) _ (fun h0 => (cond_both (a90l0b x0 x1 x2) _ (fun h1 => (cond_t (ev_and2 h1) (cond_both (a90l0b x0 x1 x2) _ (fun h2 => rfl) (fun h2 => (cond_t h1 (cond_t (ev_and2 h1) (cond_both (a90l0b x0 x1 x2) _ (fun h3 => rfl) (fun h3 => (cond_t h1 (cond_t (ev_and2 h1) (cond_both (a90l0b x0 x1 x2) _ (fun h4 => rfl) (fun h4 => (cond_t h1 (cond_t (ev_and2 h1) (cond_app (a90l0b x0 x1 x2) _ rfl (v90l0b x0 x1 x2 ((r90l0b m) (IntKind.i64.wrap ((IntKind.i64.wrap ((IntKind.i64.wrap ((IntKind.i64.wrap (x0 + 1)) + 1)) + 1)) + 1)) (IntKind.i64.wrap (x1 + 1)) x2))))))))))))))))) (fun h1 => rfl))) (fun h0 => rfl)))
set_option maxRecDepth 100000 in
set_option maxHeartbeats 4000000 in
theorem qm90l0b : ∀ m, SumKOk Try.prog (loopN Try.f90 0) 51 [0, 1, 5] [1, 4] (q90l0b m) := by
  intro m
  induction m with
  | zero =>
    intro vals s x h1 h2 h3
    unfold q90l0b at h3; split at h3
    · rename_i h; split at h3
      · rename_i hc; obtain ⟨rfl⟩ := hc; exact absurd h3 (by simp [r90l0b, firstT, Nat.beq])
      · exact qok90l0 _ _ _ h1 h2 h3
    · exact qok90l0 _ _ _ h1 h2 h3
  | succ m ih =>
    intro vals s x h1 h2 h3
    unfold q90l0b at h3; split at h3
    · rename_i h; split at h3
      · rename_i hc; obtain ⟨rfl⟩ := hc; exact sum_step ok82 extOk mixed (lok90_1.inner (by kernel_rfl)) ih h1 h2 h (e90l0b m _ _ _) rfl h3
      · exact qok90l0 _ _ _ h1 h2 h3
    · exact qok90l0 _ _ _ h1 h2 h3
noncomputable def Q90l0b : SumK := fun vals s => q90l0b (fuelOf vals s.h) vals s
theorem qok90l0b : SumKOk Try.prog (loopN Try.f90 0) 51 [0, 1, 5] [1, 4] Q90l0b := fuel_ok qm90l0b fuelOf
noncomputable def L90_2 : LoopT := addL L90_1 3 ([0, 1, 5], []) (sumK 51 [0, 1, 5] [1, 4] Q90l0b)
theorem lok90_2 : LfOkF Try.prog L90_2 Try.f90 := lfOkF_add lok90_1 qok90l0b (by kernel_rfl) (by kernel_rfl) (by kernel_rfl)

/-- laws.heldPaneS -/
noncomputable def r90b (x0 : Int) (x1 : List (List Int)) : Nat × Int :=
 cond (Nat.beq ((r90l0b (1000 + x1.length) x0 0 x1).1) 0) (0, (-1)) (cond (Nat.beq ((r90l0b (1000 + x1.length) x0 0 x1).1) 1) (0, ((r90l0b (1000 + x1.length) x0 0 x1).2.2)) (1, 0))
noncomputable def a90b (x0 : Int) (x1 : List (List Int)) (p : Nat × Int) : Res := firstT [((Nat.beq (p.1) 0), .int .i64 (p.2), ⟨[⟨true, (some (.tab sc1 x1))⟩], 1, []⟩)]
noncomputable def w90b (x0 : Int) (x1 : List (List Int)) : Res :=
 (cond (Nat.beq ((r90l0b (1000 + x1.length) x0 0 x1).1) 0)
 (a90b x0 x1 (0, (-1)))
 (cond (Nat.beq ((r90l0b (1000 + x1.length) x0 0 x1).1) 1) (a90b x0 x1 (0, ((r90l0b (1000 + x1.length) x0 0 x1).2.2))) none))
set_option maxRecDepth 100000 in
set_option maxHeartbeats 4000000 in
theorem e90b (x0 : Int) (x1 : List (List Int)) : evFn Try.prog ext T82 L90_2 200 Try.f90 [wsl 0, .int .i64 x0] ⟨[⟨true, (some (.tab sc1 x1))⟩], 1, []⟩ = firstT [((Nat.beq ((r90b x0 x1).1) 0), .int .i64 ((r90b x0 x1).2), ⟨[⟨true, (some (.tab sc1 x1))⟩], 1, []⟩)] :=
 (show evFn Try.prog ext T82 L90_2 200 Try.f90 [wsl 0, .int .i64 x0] ⟨[⟨true, (some (.tab sc1 x1))⟩], 1, []⟩ = w90b x0 x1 from by kernel_rfl).trans
 (show w90b x0 x1 = a90b x0 x1 (r90b x0 x1) from by unfold w90b r90b; exact (cond_app (a90b x0 x1) _ rfl (cond_app (a90b x0 x1) _ rfl rfl)))
noncomputable def s90b (args : List Value) (s : St) : List (Bool × Value × St) :=
 match args, s.h with
 | [.iface f0 .nilIface, .int .i64 x0], [⟨true, some (.tab [.int .i64, .int .i64, .fl .f32, .fl .f32] x1)⟩] => if f0 = 0 then [((Nat.beq ((r90b x0 x1).1) 0), .int .i64 ((r90b x0 x1).2), ⟨[⟨true, (some (.tab sc1 x1))⟩], 1, []⟩)] else T82 90 args s
 | _, _ => T82 90 args s
noncomputable def T83 : CallF := addF T82 90 s90b
set_option maxRecDepth 100000 in
set_option maxHeartbeats 4000000 in
theorem ok83 : CfOk Try.prog T83 := by
  refine cfOk_add ok82 fun args s r s' h1 h2 h3 => ?_
  unfold s90b at h3; split at h3
  · rename_i h; split at h3
    · rename_i hc; obtain ⟨rfl⟩ := hc; exact callOk ok82 Try.func90 h1 h2 h lok90_2.body (e90b _ _) rfl h3
    · exact ok82 _ _ _ _ _ h1 h2 h3
  · exact ok82 _ _ _ _ _ h1 h2 h3

/-- laws.heldFlat -/
noncomputable def r37b (x0 : Int) (x1 x2 x3 x4 : List (List Int)) : Nat × Int :=
 cond (Nat.beq ((r34b x0 x1).1) 0) (cond (decide ((((r34b x0 x1).2) : Int) < 0)) (0, (-1)) (cond (Nat.beq ((r34b ((r34b x0 x1).2) x2).1) 0) (cond (decide ((((r34b ((r34b x0 x1).2) x2).2) : Int) < 0)) (0, (-1)) (cond (Nat.beq ((r89b ((r34b ((r34b x0 x1).2) x2).2) x3).1) 0) (cond (decide ((((r89b ((r34b ((r34b x0 x1).2) x2).2) x3).2) : Int) < 0)) (0, (-1)) (cond (Nat.beq ((r90b ((r89b ((r34b ((r34b x0 x1).2) x2).2) x3).2) x4).1) 0) (cond (decide ((((r90b ((r89b ((r34b ((r34b x0 x1).2) x2).2) x3).2) x4).2) : Int) < 0)) (0, (-1)) (0, ((r90b ((r89b ((r34b ((r34b x0 x1).2) x2).2) x3).2) x4).2))) (1, 0))) (1, 0))) (1, 0))) (1, 0)
noncomputable def a37b (x0 : Int) (x1 x2 x3 x4 : List (List Int)) (p : Nat × Int) : Res := firstT [((Nat.beq (p.1) 0), .int .i64 (p.2), ⟨[⟨true, (some (.tab [.fl .f32] x1))⟩, ⟨true, (some (.tab [.fl .f32] x2))⟩, ⟨true, (some (.tab sc0 x3))⟩, ⟨true, (some (.tab sc1 x4))⟩], 4, []⟩)]
noncomputable def w37b (x0 : Int) (x1 x2 x3 x4 : List (List Int)) : Res :=
 (cond (Nat.beq ((r34b x0 x1).1) 0)
 (cond (decide ((((r34b x0 x1).2) : Int) < 0)) (a37b x0 x1 x2 x3 x4 (0, (-1))) (cond (Nat.beq ((r34b ((r34b x0 x1).2) x2).1) 0) (cond (decide ((((r34b ((r34b x0 x1).2) x2).2) : Int) < 0)) (a37b x0 x1 x2 x3 x4 (0, (-1))) (cond (Nat.beq ((r89b ((r34b ((r34b x0 x1).2) x2).2) x3).1) 0) (cond (decide ((((r89b ((r34b ((r34b x0 x1).2) x2).2) x3).2) : Int) < 0)) (a37b x0 x1 x2 x3 x4 (0, (-1))) (cond (Nat.beq ((r90b ((r89b ((r34b ((r34b x0 x1).2) x2).2) x3).2) x4).1) 0) (cond (decide ((((r90b ((r89b ((r34b ((r34b x0 x1).2) x2).2) x3).2) x4).2) : Int) < 0)) (a37b x0 x1 x2 x3 x4 (0, (-1))) (a37b x0 x1 x2 x3 x4 (0, ((r90b ((r89b ((r34b ((r34b x0 x1).2) x2).2) x3).2) x4).2)))) none)) none)) none))
 none)
set_option maxRecDepth 100000 in
set_option maxHeartbeats 4000000 in
theorem e37b (x0 : Int) (x1 x2 x3 x4 : List (List Int)) : evFn Try.prog ext T83 noL 200 Try.f37 [.agg #[wsl 0, wsl 1, wsl 2, wsl 3], .int .i64 x0] ⟨[⟨true, (some (.tab [.fl .f32] x1))⟩, ⟨true, (some (.tab [.fl .f32] x2))⟩, ⟨true, (some (.tab sc0 x3))⟩, ⟨true, (some (.tab sc1 x4))⟩], 4, []⟩ = firstT [((Nat.beq ((r37b x0 x1 x2 x3 x4).1) 0), .int .i64 ((r37b x0 x1 x2 x3 x4).2), ⟨[⟨true, (some (.tab [.fl .f32] x1))⟩, ⟨true, (some (.tab [.fl .f32] x2))⟩, ⟨true, (some (.tab sc0 x3))⟩, ⟨true, (some (.tab sc1 x4))⟩], 4, []⟩)] :=
 (show evFn Try.prog ext T83 noL 200 Try.f37 [.agg #[wsl 0, wsl 1, wsl 2, wsl 3], .int .i64 x0] ⟨[⟨true, (some (.tab [.fl .f32] x1))⟩, ⟨true, (some (.tab [.fl .f32] x2))⟩, ⟨true, (some (.tab sc0 x3))⟩, ⟨true, (some (.tab sc1 x4))⟩], 4, []⟩ = w37b x0 x1 x2 x3 x4 from by kernel_rfl).trans
 (show w37b x0 x1 x2 x3 x4 = a37b x0 x1 x2 x3 x4 (r37b x0 x1 x2 x3 x4) from by unfold w37b r37b; exact (cond_app (a37b x0 x1 x2 x3 x4) _ (cond_app (a37b x0 x1 x2 x3 x4) _ rfl (cond_app (a37b x0 x1 x2 x3 x4) _ (cond_app (a37b x0 x1 x2 x3 x4) _ rfl (cond_app (a37b x0 x1 x2 x3 x4) _ (cond_app (a37b x0 x1 x2 x3 x4) _ rfl (cond_app (a37b x0 x1 x2 x3 x4) _ (cond_app (a37b x0 x1 x2 x3 x4) _ rfl rfl) rfl)) rfl)) rfl)) rfl))
noncomputable def s37b (args : List Value) (s : St) : List (Bool × Value × St) :=
 match args, s.h with
 | [.agg ⟨[.iface f0 .nilIface, .iface f1 .nilIface, .iface f2 .nilIface, .iface f3 .nilIface]⟩, .int .i64 x0], [⟨true, some (.tab [.fl .f32] x1)⟩, ⟨true, some (.tab [.fl .f32] x2)⟩, ⟨true, some (.tab [.int .i64, .int .i64, .fl .f32, .fl .f32, .fl .f32, .fl .f32, .fl .f32, .fl .f32] x3)⟩, ⟨true, some (.tab [.int .i64, .int .i64, .fl .f32, .fl .f32] x4)⟩] => if f0 = 0 ∧ f1 = 1 ∧ f2 = 2 ∧ f3 = 3 then [((Nat.beq ((r37b x0 x1 x2 x3 x4).1) 0), .int .i64 ((r37b x0 x1 x2 x3 x4).2), ⟨[⟨true, (some (.tab [.fl .f32] x1))⟩, ⟨true, (some (.tab [.fl .f32] x2))⟩, ⟨true, (some (.tab sc0 x3))⟩, ⟨true, (some (.tab sc1 x4))⟩], 4, []⟩)] else T83 37 args s
 | _, _ => T83 37 args s
noncomputable def T84 : CallF := addF T83 37 s37b
set_option maxRecDepth 100000 in
set_option maxHeartbeats 4000000 in
theorem ok84 : CfOk Try.prog T84 := by
  refine cfOk_add ok83 fun args s r s' h1 h2 h3 => ?_
  unfold s37b at h3; split at h3
  · rename_i h; split at h3
    · rename_i hc; obtain ⟨rfl, rfl, rfl, rfl⟩ := hc; exact callOk ok83 Try.func37 h1 h2 h (lfOkF_no _ _).body (e37b _ _ _ _ _) rfl h3
    · exact ok83 _ _ _ _ _ h1 h2 h3
  · exact ok83 _ _ _ _ _ h1 h2 h3

/-- laws.eqFloat32S, loop 0 -/
noncomputable def r31l0d (x0 : List (List Int)) : Unit :=
 ()
noncomputable def a31l0d (x0 : List (List Int)) (p : Unit) : Option (Fin' × List Value × St) := firstT ([(true, .exit 0, [anyV], ⟨[⟨true, (some (.tab [.fl .f32] x0))⟩], 1, []⟩)].map fun (b, x) => (b, (x.1, frameOf 29 [4] x.2.1, x.2.2)))
noncomputable def w31l0d (x0 : List (List Int)) : Option (Fin' × List Value × St) :=
 (a31l0d x0 ())
set_option maxRecDepth 100000 in
set_option maxHeartbeats 4000000 in
theorem e31l0d (x0 : List (List Int)) : evC Try.prog ext T84 L31_3 200 (loopN Try.f31 0) (loopTail ([0, 1, 5], []) [4] [] (sumK 29 [0, 1, 5] [4] Q31l0c)) (frameOf 29 [0, 1, 5] [.slice none 0 0, wsl 0, .int .i64 0]) ⟨[⟨true, (some (.tab [.fl .f32] x0))⟩], 1, []⟩ = firstT ([(true, .exit 0, [anyV], ⟨[⟨true, (some (.tab [.fl .f32] x0))⟩], 1, []⟩)].map fun (b, x) => (b, (x.1, frameOf 29 [4] x.2.1, x.2.2))) :=
 (show evC Try.prog ext T84 L31_3 200 (loopN Try.f31 0) (loopTail ([0, 1, 5], []) [4] [] (sumK 29 [0, 1, 5] [4] Q31l0c)) (frameOf 29 [0, 1, 5] [.slice none 0 0, wsl 0, .int .i64 0]) ⟨[⟨true, (some (.tab [.fl .f32] x0))⟩], 1, []⟩ = w31l0d x0 from by kernel_rfl).trans
 (show w31l0d x0 = a31l0d x0 (r31l0d x0) from by unfold w31l0d r31l0d; exact rfl)
noncomputable def Q31l0d : SumK := fun vals s =>
 match vals, s.h with
 | [.slice none f0 f1, .iface f2 .nilIface, .int .i64 f3], [⟨true, some (.tab [.fl .f32] x0)⟩] => if f0 = 0 ∧ f1 = 0 ∧ f2 = 0 ∧ f3 = 0 then [(true, .exit 0, [anyV], ⟨[⟨true, (some (.tab [.fl .f32] x0))⟩], 1, []⟩)] else Q31l0c vals s
 | _, _ => Q31l0c vals s
set_option maxRecDepth 100000 in
set_option maxHeartbeats 4000000 in
theorem qok31l0d : SumKOk Try.prog (loopN Try.f31 0) 29 [0, 1, 5] [4] Q31l0d := by
  intro vals s x h1 h2 h3
  unfold Q31l0d at h3; split at h3
  · rename_i h; split at h3
    · rename_i hc; obtain ⟨rfl, rfl, rfl, rfl⟩ := hc; exact sum_step ok84 extOk mixed (lok31_3.inner (by kernel_rfl)) qok31l0c h1 h2 h (e31l0d _) rfl h3
    · exact qok31l0c _ _ _ h1 h2 h3
  · exact qok31l0c _ _ _ h1 h2 h3
noncomputable def L31_4 : LoopT := addL L31_3 5 ([0, 1, 5], []) (sumK 29 [0, 1, 5] [4] Q31l0d)
theorem lok31_4 : LfOkF Try.prog L31_4 Try.f31 := lfOkF_add lok31_3 qok31l0d (by kernel_rfl) (by kernel_rfl) (by kernel_rfl)

/-- laws.eqFloat32S -/
noncomputable def r31d (x0 : List (List Int)) : Bool :=
 cond ((0 : Int) != ((x0.length : Nat) : Int)) (false) (true)
noncomputable def a31d (x0 : List (List Int)) (p : Bool) : Res := firstT [(true, .bool p, ⟨[⟨true, (some (.tab [.fl .f32] x0))⟩], 1, []⟩)]
noncomputable def w31d (x0 : List (List Int)) : Res :=
 (cond ((0 : Int) != ((x0.length : Nat) : Int))
 (a31d x0 (false))
 (a31d x0 (true)))
set_option maxRecDepth 100000 in
set_option maxHeartbeats 4000000 in
theorem e31d (x0 : List (List Int)) : evFn Try.prog ext T84 L31_4 200 Try.f31 [.slice none 0 0, wsl 0] ⟨[⟨true, (some (.tab [.fl .f32] x0))⟩], 1, []⟩ = firstT [(true, .bool (r31d x0), ⟨[⟨true, (some (.tab [.fl .f32] x0))⟩], 1, []⟩)] :=
 (show evFn Try.prog ext T84 L31_4 200 Try.f31 [.slice none 0 0, wsl 0] ⟨[⟨true, (some (.tab [.fl .f32] x0))⟩], 1, []⟩ = w31d x0 from by kernel_rfl).trans
 (show w31d x0 = a31d x0 (r31d x0) from by unfold w31d r31d; exact (cond_app (a31d x0) _ rfl rfl))
noncomputable def s31d (args : List Value) (s : St) : List (Bool × Value × St) :=
 match args, s.h with
 | [.slice none f0 f1, .iface f2 .nilIface], [⟨true, some (.tab [.fl .f32] x0)⟩] => if f0 = 0 ∧ f1 = 0 ∧ f2 = 0 then [(true, .bool (r31d x0), ⟨[⟨true, (some (.tab [.fl .f32] x0))⟩], 1, []⟩)] else T84 31 args s
 | _, _ => T84 31 args s
noncomputable def T85 : CallF := addF T84 31 s31d
set_option maxRecDepth 100000 in
set_option maxHeartbeats 4000000 in
theorem ok85 : CfOk Try.prog T85 := by
  refine cfOk_add ok84 fun args s r s' h1 h2 h3 => ?_
  unfold s31d at h3; split at h3
  · rename_i h; split at h3
    · rename_i hc; obtain ⟨rfl, rfl, rfl⟩ := hc; exact callOk ok84 Try.func31 h1 h2 h lok31_4.body (e31d _) rfl h3
    · exact ok84 _ _ _ _ _ h1 h2 h3
  · exact ok84 _ _ _ _ _ h1 h2 h3

/-- laws.eqWallS, loop 0 -/
noncomputable def r81l0d (x0 : List (List Int)) : Unit :=
 ()
noncomputable def a81l0d (x0 : List (List Int)) (p : Unit) : Option (Fin' × List Value × St) := firstT ([(true, .exit 0, [anyV], ⟨[⟨true, (some (.tab sc0 x0))⟩], 1, []⟩)].map fun (b, x) => (b, (x.1, frameOf 27 [4] x.2.1, x.2.2)))
noncomputable def w81l0d (x0 : List (List Int)) : Option (Fin' × List Value × St) :=
 (a81l0d x0 ())
set_option maxRecDepth 100000 in
set_option maxHeartbeats 4000000 in
theorem e81l0d (x0 : List (List Int)) : evC Try.prog ext T85 L81_3 200 (loopN Try.f81 0) (loopTail ([0, 1, 5], []) [4] [] (sumK 27 [0, 1, 5] [4] Q81l0c)) (frameOf 27 [0, 1, 5] [.slice none 0 0, wsl 0, .int .i64 0]) ⟨[⟨true, (some (.tab sc0 x0))⟩], 1, []⟩ = firstT ([(true, .exit 0, [anyV], ⟨[⟨true, (some (.tab sc0 x0))⟩], 1, []⟩)].map fun (b, x) => (b, (x.1, frameOf 27 [4] x.2.1, x.2.2))) :=
 (show evC Try.prog ext T85 L81_3 200 (loopN Try.f81 0) (loopTail ([0, 1, 5], []) [4] [] (sumK 27 [0, 1, 5] [4] Q81l0c)) (frameOf 27 [0, 1, 5] [.slice none 0 0, wsl 0, .int .i64 0]) ⟨[⟨true, (some (.tab sc0 x0))⟩], 1, []⟩ = w81l0d x0 from by kernel_rfl).trans
 (show w81l0d x0 = a81l0d x0 (r81l0d x0) from by unfold w81l0d r81l0d; exact rfl)
noncomputable def Q81l0d : SumK := fun vals s =>
 match vals, s.h with
 | [.slice none f0 f1, .iface f2 .nilIface, .int .i64 f3], [⟨true, some (.tab [.int .i64, .int .i64, .fl .f32, .fl .f32, .fl .f32, .fl .f32, .fl .f32, .fl .f32] x0)⟩] => if f0 = 0 ∧ f1 = 0 ∧ f2 = 0 ∧ f3 = 0 then [(true, .exit 0, [anyV], ⟨[⟨true, (some (.tab sc0 x0))⟩], 1, []⟩)] else Q81l0c vals s
 | _, _ => Q81l0c vals s
set_option maxRecDepth 100000 in
set_option maxHeartbeats 4000000 in
theorem qok81l0d : SumKOk Try.prog (loopN Try.f81 0) 27 [0, 1, 5] [4] Q81l0d := by
  intro vals s x h1 h2 h3
  unfold Q81l0d at h3; split at h3
  · rename_i h; split at h3
    · rename_i hc; obtain ⟨rfl, rfl, rfl, rfl⟩ := hc; exact sum_step ok85 extOk mixed (lok81_3.inner (by kernel_rfl)) qok81l0c h1 h2 h (e81l0d _) rfl h3
    · exact qok81l0c _ _ _ h1 h2 h3
  · exact qok81l0c _ _ _ h1 h2 h3
noncomputable def L81_4 : LoopT := addL L81_3 5 ([0, 1, 5], []) (sumK 27 [0, 1, 5] [4] Q81l0d)
theorem lok81_4 : LfOkF Try.prog L81_4 Try.f81 := lfOkF_add lok81_3 qok81l0d (by kernel_rfl) (by kernel_rfl) (by kernel_rfl)

/-- laws.eqWallS -/
noncomputable def r81d (x0 : List (List Int)) : Bool :=
 cond ((0 : Int) != ((x0.length : Nat) : Int)) (false) (true)
noncomputable def a81d (x0 : List (List Int)) (p : Bool) : Res := firstT [(true, .bool p, ⟨[⟨true, (some (.tab sc0 x0))⟩], 1, []⟩)]
noncomputable def w81d (x0 : List (List Int)) : Res :=
 (cond ((0 : Int) != ((x0.length : Nat) : Int))
 (a81d x0 (false))
 (a81d x0 (true)))
set_option maxRecDepth 100000 in
set_option maxHeartbeats 4000000 in
theorem e81d (x0 : List (List Int)) : evFn Try.prog ext T85 L81_4 200 Try.f81 [.slice none 0 0, wsl 0] ⟨[⟨true, (some (.tab sc0 x0))⟩], 1, []⟩ = firstT [(true, .bool (r81d x0), ⟨[⟨true, (some (.tab sc0 x0))⟩], 1, []⟩)] :=
 (show evFn Try.prog ext T85 L81_4 200 Try.f81 [.slice none 0 0, wsl 0] ⟨[⟨true, (some (.tab sc0 x0))⟩], 1, []⟩ = w81d x0 from by kernel_rfl).trans
 (show w81d x0 = a81d x0 (r81d x0) from by unfold w81d r81d; exact (cond_app (a81d x0) _ rfl rfl))
noncomputable def s81d (args : List Value) (s : St) : List (Bool × Value × St) :=
 match args, s.h with
 | [.slice none f0 f1, .iface f2 .nilIface], [⟨true, some (.tab [.int .i64, .int .i64, .fl .f32, .fl .f32, .fl .f32, .fl .f32, .fl .f32, .fl .f32] x0)⟩] => if f0 = 0 ∧ f1 = 0 ∧ f2 = 0 then [(true, .bool (r81d x0), ⟨[⟨true, (some (.tab sc0 x0))⟩], 1, []⟩)] else T85 81 args s
 | _, _ => T85 81 args s
noncomputable def T86 : CallF := addF T85 81 s81d
set_option maxRecDepth 100000 in
set_option maxHeartbeats 4000000 in
theorem ok86 : CfOk Try.prog T86 := by
  refine cfOk_add ok85 fun args s r s' h1 h2 h3 => ?_
  unfold s81d at h3; split at h3
  · rename_i h; split at h3
    · rename_i hc; obtain ⟨rfl, rfl, rfl⟩ := hc; exact callOk ok85 Try.func81 h1 h2 h lok81_4.body (e81d _) rfl h3
    · exact ok85 _ _ _ _ _ h1 h2 h3
  · exact ok85 _ _ _ _ _ h1 h2 h3

/-- laws.eqPaneS, loop 0 -/
noncomputable def r82l0d (x0 : List (List Int)) : Unit :=
 ()
noncomputable def a82l0d (x0 : List (List Int)) (p : Unit) : Option (Fin' × List Value × St) := firstT ([(true, .exit 0, [anyV], ⟨[⟨true, (some (.tab sc1 x0))⟩], 1, []⟩)].map fun (b, x) => (b, (x.1, frameOf 27 [4] x.2.1, x.2.2)))
noncomputable def w82l0d (x0 : List (List Int)) : Option (Fin' × List Value × St) :=
 (a82l0d x0 ())
set_option maxRecDepth 100000 in
set_option maxHeartbeats 4000000 in
theorem e82l0d (x0 : List (List Int)) : evC Try.prog ext T86 L82_3 200 (loopN Try.f82 0) (loopTail ([0, 1, 5], []) [4] [] (sumK 27 [0, 1, 5] [4] Q82l0c)) (frameOf 27 [0, 1, 5] [.slice none 0 0, wsl 0, .int .i64 0]) ⟨[⟨true, (some (.tab sc1 x0))⟩], 1, []⟩ = firstT ([(true, .exit 0, [anyV], ⟨[⟨true, (some (.tab sc1 x0))⟩], 1, []⟩)].map fun (b, x) => (b, (x.1, frameOf 27 [4] x.2.1, x.2.2))) :=
 (show evC Try.prog ext T86 L82_3 200 (loopN Try.f82 0) (loopTail ([0, 1, 5], []) [4] [] (sumK 27 [0, 1, 5] [4] Q82l0c)) (frameOf 27 [0, 1, 5] [.slice none 0 0, wsl 0, .int .i64 0]) ⟨[⟨true, (some (.tab sc1 x0))⟩], 1, []⟩ = w82l0d x0 from by kernel_rfl).trans
 (show w82l0d x0 = a82l0d x0 (r82l0d x0) from by unfold w82l0d r82l0d; exact rfl)
noncomputable def Q82l0d : SumK := fun vals s =>
 match vals, s.h with
 | [.slice none f0 f1, .iface f2 .nilIface, .int .i64 f3], [⟨true, some (.tab [.int .i64, .int .i64, .fl .f32, .fl .f32] x0)⟩] => if f0 = 0 ∧ f1 = 0 ∧ f2 = 0 ∧ f3 = 0 then [(true, .exit 0, [anyV], ⟨[⟨true, (some (.tab sc1 x0))⟩], 1, []⟩)] else Q82l0c vals s
 | _, _ => Q82l0c vals s
set_option maxRecDepth 100000 in
set_option maxHeartbeats 4000000 in
theorem qok82l0d : SumKOk Try.prog (loopN Try.f82 0) 27 [0, 1, 5] [4] Q82l0d := by
  intro vals s x h1 h2 h3
  unfold Q82l0d at h3; split at h3
  · rename_i h; split at h3
    · rename_i hc; obtain ⟨rfl, rfl, rfl, rfl⟩ := hc; exact sum_step ok86 extOk mixed (lok82_3.inner (by kernel_rfl)) qok82l0c h1 h2 h (e82l0d _) rfl h3
    · exact qok82l0c _ _ _ h1 h2 h3
  · exact qok82l0c _ _ _ h1 h2 h3
noncomputable def L82_4 : LoopT := addL L82_3 5 ([0, 1, 5], []) (sumK 27 [0, 1, 5] [4] Q82l0d)
theorem lok82_4 : LfOkF Try.prog L82_4 Try.f82 := lfOkF_add lok82_3 qok82l0d (by kernel_rfl) (by kernel_rfl) (by kernel_rfl)

/-- laws.eqPaneS -/
noncomputable def r82d (x0 : List (List Int)) : Bool :=
 cond ((0 : Int) != ((x0.length : Nat) : Int)) (false) (true)
noncomputable def a82d (x0 : List (List Int)) (p : Bool) : Res := firstT [(true, .bool p, ⟨[⟨true, (some (.tab sc1 x0))⟩], 1, []⟩)]
noncomputable def w82d (x0 : List (List Int)) : Res :=
 (cond ((0 : Int) != ((x0.length : Nat) : Int))
 (a82d x0 (false))
 (a82d x0 (true)))
set_option maxRecDepth 100000 in
set_option maxHeartbeats 4000000 in
theorem e82d (x0 : List (List Int)) : evFn Try.prog ext T86 L82_4 200 Try.f82 [.slice none 0 0, wsl 0] ⟨[⟨true, (some (.tab sc1 x0))⟩], 1, []⟩ = firstT [(true, .bool (r82d x0), ⟨[⟨true, (some (.tab sc1 x0))⟩], 1, []⟩)] :=
 (show evFn Try.prog ext T86 L82_4 200 Try.f82 [.slice none 0 0, wsl 0] ⟨[⟨true, (some (.tab sc1 x0))⟩], 1, []⟩ = w82d x0 from by kernel_rfl).trans
 (show w82d x0 = a82d x0 (r82d x0) from by unfold w82d r82d; exact (cond_app (a82d x0) _ rfl rfl))
noncomputable def s82d (args : List Value) (s : St) : List (Bool × Value × St) :=
 match args, s.h with
 | [.slice none f0 f1, .iface f2 .nilIface], [⟨true, some (.tab [.int .i64, .int .i64, .fl .f32, .fl .f32] x0)⟩] => if f0 = 0 ∧ f1 = 0 ∧ f2 = 0 then [(true, .bool (r82d x0), ⟨[⟨true, (some (.tab sc1 x0))⟩], 1, []⟩)] else T86 82 args s
 | _, _ => T86 82 args s
noncomputable def T87 : CallF := addF T86 82 s82d
set_option maxRecDepth 100000 in
set_option maxHeartbeats 4000000 in
theorem ok87 : CfOk Try.prog T87 := by
  refine cfOk_add ok86 fun args s r s' h1 h2 h3 => ?_
  unfold s82d at h3; split at h3
  · rename_i h; split at h3
    · rename_i hc; obtain ⟨rfl, rfl, rfl⟩ := hc; exact callOk ok86 Try.func82 h1 h2 h lok82_4.body (e82d _) rfl h3
    · exact ok86 _ _ _ _ _ h1 h2 h3
  · exact ok86 _ _ _ _ _ h1 h2 h3

/-- laws.eqFlat -/
noncomputable def r28d (x0 x1 x2 x3 : List (List Int)) : Bool :=
 cond (!(r31d x0)) (false) (cond (!(r31d x1)) (false) (cond (!(r81d x2)) (false) (cond (!(r82d x3)) (false) (true))))
noncomputable def a28d (x0 x1 x2 x3 : List (List Int)) (p : Bool) : Res := firstT [(true, .bool p, ⟨[⟨true, (some (.tab [.fl .f32] x0))⟩, ⟨true, (some (.tab [.fl .f32] x1))⟩, ⟨true, (some (.tab sc0 x2))⟩, ⟨true, (some (.tab sc1 x3))⟩], 4, []⟩)]
noncomputable def w28d (x0 x1 x2 x3 : List (List Int)) : Res :=
 (cond (!(r31d x0))
 (a28d x0 x1 x2 x3 (false))
 (cond (!(r31d x1)) (a28d x0 x1 x2 x3 (false)) (cond (!(r81d x2)) (a28d x0 x1 x2 x3 (false)) (cond (!(r82d x3)) (a28d x0 x1 x2 x3 (false)) (a28d x0 x1 x2 x3 (true))))))
set_option maxRecDepth 100000 in
set_option maxHeartbeats 4000000 in
theorem e28d (x0 x1 x2 x3 : List (List Int)) : evFn Try.prog ext T87 noL 200 Try.f28 [.agg #[.slice none 0 0, .slice none 0 0, .slice none 0 0, .slice none 0 0], .agg #[wsl 0, wsl 1, wsl 2, wsl 3]] ⟨[⟨true, (some (.tab [.fl .f32] x0))⟩, ⟨true, (some (.tab [.fl .f32] x1))⟩, ⟨true, (some (.tab sc0 x2))⟩, ⟨true, (some (.tab sc1 x3))⟩], 4, []⟩ = firstT [(true, .bool (r28d x0 x1 x2 x3), ⟨[⟨true, (some (.tab [.fl .f32] x0))⟩, ⟨true, (some (.tab [.fl .f32] x1))⟩, ⟨true, (some (.tab sc0 x2))⟩, ⟨true, (some (.tab sc1 x3))⟩], 4, []⟩)] :=
 (show evFn Try.prog ext T87 noL 200 Try.f28 [.agg #[.slice none 0 0, .slice none 0 0, .slice none 0 0, .slice none 0 0], .agg #[wsl 0, wsl 1, wsl 2, wsl 3]] ⟨[⟨true, (some (.tab [.fl .f32] x0))⟩, ⟨true, (some (.tab [.fl .f32] x1))⟩, ⟨true, (some (.tab sc0 x2))⟩, ⟨true, (some (.tab sc1 x3))⟩], 4, []⟩ = w28d x0 x1 x2 x3 from by kernel_rfl).trans
 (show w28d x0 x1 x2 x3 = a28d x0 x1 x2 x3 (r28d x0 x1 x2 x3) from by unfold w28d r28d; exact (cond_app (a28d x0 x1 x2 x3) _ rfl (cond_app (a28d x0 x1 x2 x3) _ rfl (cond_app (a28d x0 x1 x2 x3) _ rfl (cond_app (a28d x0 x1 x2 x3) _ rfl rfl)))))
noncomputable def s28d (args : List Value) (s : St) : List (Bool × Value × St) :=
 match args, s.h with
 | [.agg ⟨[.slice none f0 f1, .slice none f2 f3, .slice none f4 f5, .slice none f6 f7]⟩, .agg ⟨[.iface f8 .nilIface, .iface f9 .nilIface, .iface f10 .nilIface, .iface f11 .nilIface]⟩], [⟨true, some (.tab [.fl .f32] x0)⟩, ⟨true, some (.tab [.fl .f32] x1)⟩, ⟨true, some (.tab [.int .i64, .int .i64, .fl .f32, .fl .f32, .fl .f32, .fl .f32, .fl .f32, .fl .f32] x2)⟩, ⟨true, some (.tab [.int .i64, .int .i64, .fl .f32, .fl .f32] x3)⟩] => if f0 = 0 ∧ f1 = 0 ∧ f2 = 0 ∧ f3 = 0 ∧ f4 = 0 ∧ f5 = 0 ∧ f6 = 0 ∧ f7 = 0 ∧ f8 = 0 ∧ f9 = 1 ∧ f10 = 2 ∧ f11 = 3 then [(true, .bool (r28d x0 x1 x2 x3), ⟨[⟨true, (some (.tab [.fl .f32] x0))⟩, ⟨true, (some (.tab [.fl .f32] x1))⟩, ⟨true, (some (.tab sc0 x2))⟩, ⟨true, (some (.tab sc1 x3))⟩], 4, []⟩)] else T87 28 args s
 | _, _ => T87 28 args s
noncomputable def T88 : CallF := addF T87 28 s28d
set_option maxRecDepth 100000 in
set_option maxHeartbeats 4000000 in
theorem ok88 : CfOk Try.prog T88 := by
  refine cfOk_add ok87 fun args s r s' h1 h2 h3 => ?_
  unfold s28d at h3; split at h3
  · rename_i h; split at h3
    · rename_i hc; obtain ⟨rfl, rfl, rfl, rfl, rfl, rfl, rfl, rfl, rfl, rfl, rfl, rfl⟩ := hc; exact callOk ok87 Try.func28 h1 h2 h (lfOkF_no _ _).body (e28d _ _ _ _) rfl h3
    · exact ok87 _ _ _ _ _ h1 h2 h3
  · exact ok87 _ _ _ _ _ h1 h2 h3

/-- laws.FnExactStepFlat -/
noncomputable def r9 (x0 x1 x2 : Nat) (x3 x4 x5 x6 x7 : List (List Int)) : Nat × Bool :=
 let c180 := (r49 x0 x1 x2 ((r25 x3 x4 x5 x6).2.1) ((r25 x3 x4 x5 x6).2.2.1) ((r25 x3 x4 x5 x6).2.2.2.1) ((r25 x3 x4 x5 x6).2.2.2.2) ((r30 x7).2))
 let c327 := (r19 x0 x1 x2 ((r25 x3 x4 x5 x6).2.1) ((r25 x3 x4 x5 x6).2.2.1) ((r25 x3 x4 x5 x6).2.2.2.1) ((r25 x3 x4 x5 x6).2.2.2.2) ((r30 x7).2))
 let c364 := (r28b ((r25 x3 x4 x5 x6).2.1) ((r25 x3 x4 x5 x6).2.2.1) ((r25 x3 x4 x5 x6).2.2.2.1) ((r25 x3 x4 x5 x6).2.2.2.2) ((r25 x3 x4 x5 x6).2.1) ((r25 x3 x4 x5 x6).2.2.1) ((r25 x3 x4 x5 x6).2.2.2.1) ((r25 x3 x4 x5 x6).2.2.2.2))
 let c386 := (r33 ((r32 1 ((r25 x3 x4 x5 x6).2.1) ((r25 x3 x4 x5 x6).2.2.1) ((r25 x3 x4 x5 x6).2.2.2.1) ((r25 x3 x4 x5 x6).2.2.2.2)).2.1) ((r30 x7).2))
 let c399 := (r37b 1 ((r32 1 (c327.2.2.2.1) (c327.2.2.2.2.1) (c327.2.2.2.2.2.1) (c327.2.2.2.2.2.2)).2.2.1) ((r32 1 (c327.2.2.2.1) (c327.2.2.2.2.1) (c327.2.2.2.2.2.1) (c327.2.2.2.2.2.2)).2.2.2.1) ((r32 1 (c327.2.2.2.1) (c327.2.2.2.2.1) (c327.2.2.2.2.2.1) (c327.2.2.2.2.2.2)).2.2.2.2.1) ((r32 1 (c327.2.2.2.1) (c327.2.2.2.2.1) (c327.2.2.2.2.2.1) (c327.2.2.2.2.2.2)).2.2.2.2.2))
 let c400 := (r28b (c327.2.2.2.1) (c327.2.2.2.2.1) (c327.2.2.2.2.2.1) (c327.2.2.2.2.2.2) (c180.2.2.2.1) (c180.2.2.2.2.1) (c180.2.2.2.2.2.1) (c180.2.2.2.2.2.2))
 cond (decide ((((x7.length : Nat) : Int) : Int) > 1048576)) (0, true) (cond (decide (((r23 1048576 x3 x4 x5 x6) : Int) < 0)) (0, true) (cond (Nat.beq ((r25 x3 x4 x5 x6).1) 0) (cond (Nat.beq ((r30 x7).1) 0) (cond (Nat.beq (c180.1) 0) (cond (Nat.beq (c327.1) 0) (cond (!(r27 0 0)) (0, false) (cond (((c327.2.1) : Int) != (c180.2.1)) (0, false) (cond (Nat.beq (c364.1) 0) (cond (!(c364.2)) (0, false) (cond (Nat.beq ((r31b ((r30 x7).2) ((r30 x7).2)).1) 0) (cond (!((r31b ((r30 x7).2) ((r30 x7).2)).2)) (0, false) (cond (Nat.beq ((r32 1 ((r25 x3 x4 x5 x6).2.1) ((r25 x3 x4 x5 x6).2.2.1) ((r25 x3 x4 x5 x6).2.2.2.1) ((r25 x3 x4 x5 x6).2.2.2.2)).1) 0) (cond (Nat.beq (c386.1) 0) (cond (decide (((c386.2.1) : Int) < 0)) (0, false) (cond (decide (((r37 1) : Int) < 0)) (0, false) (cond (((r37 1) : Int) != 1) (0, false) (0, true)))) (1, false)) (1, false))) (1, false))) (1, false)))) (cond (Nat.beq (c327.1) 1) (cond (Nat.beq ((r28c (c327.2.2.2.1) (c327.2.2.2.2.1) (c327.2.2.2.2.2.1) (c327.2.2.2.2.2.2)).1) 0) (cond (!((r28c (c327.2.2.2.1) (c327.2.2.2.2.1) (c327.2.2.2.2.2.1) (c327.2.2.2.2.2.2)).2)) (0, false) (cond (!(r27 (widen (c327.2.2.1)) 0)) (0, false) (cond ((0 : Int) != (c180.2.1)) (0, false) (cond (Nat.beq (c364.1) 0) (cond (!(c364.2)) (0, false) (cond (Nat.beq ((r31b ((r30 x7).2) ((r30 x7).2)).1) 0) (cond (!((r31b ((r30 x7).2) ((r30 x7).2)).2)) (0, false) (cond (Nat.beq ((r32 1 ((r25 x3 x4 x5 x6).2.1) ((r25 x3 x4 x5 x6).2.2.1) ((r25 x3 x4 x5 x6).2.2.2.1) ((r25 x3 x4 x5 x6).2.2.2.2)).1) 0) (cond (Nat.beq (c386.1) 0) (cond (decide (((c386.2.1) : Int) < 0)) (0, false) (cond (Nat.beq ((r32 1 (c327.2.2.2.1) (c327.2.2.2.2.1) (c327.2.2.2.2.2.1) (c327.2.2.2.2.2.2)).1) 0) (cond (Nat.beq (c399.1) 0) (cond (decide (((c399.2) : Int) < 0)) (0, false) (cond (((c399.2) : Int) != ((r32 1 (c327.2.2.2.1) (c327.2.2.2.2.1) (c327.2.2.2.2.2.1) (c327.2.2.2.2.2.2)).2.1)) (0, false) (0, true))) (1, false)) (1, false))) (1, false)) (1, false))) (1, false))) (1, false))))) (1, false)) (1, false))) (cond (Nat.beq (c180.1) 1) (cond (Nat.beq (c327.1) 0) (cond (!(r28d (c180.2.2.2.1) (c180.2.2.2.2.1) (c180.2.2.2.2.2.1) (c180.2.2.2.2.2.2))) (0, false) (cond (!(r27 0 (widen (c180.2.2.1)))) (0, false) (cond (((c327.2.1) : Int) != 0) (0, false) (cond (Nat.beq (c364.1) 0) (cond (!(c364.2)) (0, false) (cond (Nat.beq ((r31b ((r30 x7).2) ((r30 x7).2)).1) 0) (cond (!((r31b ((r30 x7).2) ((r30 x7).2)).2)) (0, false) (cond (Nat.beq ((r32 1 ((r25 x3 x4 x5 x6).2.1) ((r25 x3 x4 x5 x6).2.2.1) ((r25 x3 x4 x5 x6).2.2.2.1) ((r25 x3 x4 x5 x6).2.2.2.2)).1) 0) (cond (Nat.beq (c386.1) 0) (cond (decide (((c386.2.1) : Int) < 0)) (0, false) (cond (decide (((r37 1) : Int) < 0)) (0, false) (cond (((r37 1) : Int) != 1) (0, false) (0, true)))) (1, false)) (1, false))) (1, false))) (1, false))))) (cond (Nat.beq (c327.1) 1) (cond (Nat.beq (c400.1) 0) (cond (!(c400.2)) (0, false) (cond (!(r27 (widen (c327.2.2.1)) (widen (c180.2.2.1)))) (0, false) (cond (Nat.beq (c364.1) 0) (cond (!(c364.2)) (0, false) (cond (Nat.beq ((r31b ((r30 x7).2) ((r30 x7).2)).1) 0) (cond (!((r31b ((r30 x7).2) ((r30 x7).2)).2)) (0, false) (cond (Nat.beq ((r32 1 ((r25 x3 x4 x5 x6).2.1) ((r25 x3 x4 x5 x6).2.2.1) ((r25 x3 x4 x5 x6).2.2.2.1) ((r25 x3 x4 x5 x6).2.2.2.2)).1) 0) (cond (Nat.beq (c386.1) 0) (cond (decide (((c386.2.1) : Int) < 0)) (0, false) (cond (Nat.beq ((r32 1 (c327.2.2.2.1) (c327.2.2.2.2.1) (c327.2.2.2.2.2.1) (c327.2.2.2.2.2.2)).1) 0) (cond (Nat.beq (c399.1) 0) (cond (decide (((c399.2) : Int) < 0)) (0, false) (cond (((c399.2) : Int) != ((r32 1 (c327.2.2.2.1) (c327.2.2.2.2.1) (c327.2.2.2.2.2.1) (c327.2.2.2.2.2.2)).2.1)) (0, false) (0, true))) (1, false)) (1, false))) (1, false)) (1, false))) (1, false))) (1, false)))) (1, false)) (1, false))) (1, false))) (1, false)) (1, false)))
noncomputable def a9 (x0 x1 x2 : Nat) (x3 x4 x5 x6 x7 : List (List Int)) (p : Nat × Bool) : Res := firstT [((Nat.beq (p.1) 0), .bool (p.2), ⟨[⟨false, (some (.tab [.fl .f32] x3))⟩, ⟨false, (some (.tab [.fl .f32] x4))⟩, ⟨false, (some (.tab sc0 x5))⟩, ⟨false, (some (.tab sc1 x6))⟩, ⟨false, (some (.tab [.fl .f32] x7))⟩], 5, []⟩)]
noncomputable def w9 (x0 x1 x2 : Nat) (x3 x4 x5 x6 x7 : List (List Int)) : Res :=
 let c180 := (r49 x0 x1 x2 ((r25 x3 x4 x5 x6).2.1) ((r25 x3 x4 x5 x6).2.2.1) ((r25 x3 x4 x5 x6).2.2.2.1) ((r25 x3 x4 x5 x6).2.2.2.2) ((r30 x7).2))
 let c327 := (r19 x0 x1 x2 ((r25 x3 x4 x5 x6).2.1) ((r25 x3 x4 x5 x6).2.2.1) ((r25 x3 x4 x5 x6).2.2.2.1) ((r25 x3 x4 x5 x6).2.2.2.2) ((r30 x7).2))
 let c364 := (r28b ((r25 x3 x4 x5 x6).2.1) ((r25 x3 x4 x5 x6).2.2.1) ((r25 x3 x4 x5 x6).2.2.2.1) ((r25 x3 x4 x5 x6).2.2.2.2) ((r25 x3 x4 x5 x6).2.1) ((r25 x3 x4 x5 x6).2.2.1) ((r25 x3 x4 x5 x6).2.2.2.1) ((r25 x3 x4 x5 x6).2.2.2.2))
 let c386 := (r33 ((r32 1 ((r25 x3 x4 x5 x6).2.1) ((r25 x3 x4 x5 x6).2.2.1) ((r25 x3 x4 x5 x6).2.2.2.1) ((r25 x3 x4 x5 x6).2.2.2.2)).2.1) ((r30 x7).2))
 let c399 := (r37b 1 ((r32 1 (c327.2.2.2.1) (c327.2.2.2.2.1) (c327.2.2.2.2.2.1) (c327.2.2.2.2.2.2)).2.2.1) ((r32 1 (c327.2.2.2.1) (c327.2.2.2.2.1) (c327.2.2.2.2.2.1) (c327.2.2.2.2.2.2)).2.2.2.1) ((r32 1 (c327.2.2.2.1) (c327.2.2.2.2.1) (c327.2.2.2.2.2.1) (c327.2.2.2.2.2.2)).2.2.2.2.1) ((r32 1 (c327.2.2.2.1) (c327.2.2.2.2.1) (c327.2.2.2.2.2.1) (c327.2.2.2.2.2.2)).2.2.2.2.2))
 let c400 := (r28b (c327.2.2.2.1) (c327.2.2.2.2.1) (c327.2.2.2.2.2.1) (c327.2.2.2.2.2.2) (c180.2.2.2.1) (c180.2.2.2.2.1) (c180.2.2.2.2.2.1) (c180.2.2.2.2.2.2))
 (cond (decide ((((x7.length : Nat) : Int) : Int) > 1048576))
 (a9 x0 x1 x2 x3 x4 x5 x6 x7 (0, true))
 (cond (decide (((r23 1048576 x3 x4 x5 x6) : Int) < 0)) (a9 x0 x1 x2 x3 x4 x5 x6 x7 (0, true)) (cond (Nat.beq ((r25 x3 x4 x5 x6).1) 0) (cond (Nat.beq ((r30 x7).1) 0) (cond (Nat.beq (c180.1) 0) (cond (Nat.beq ((r25 x3 x4 x5 x6).1) 0) (cond (Nat.beq ((r30 x7).1) 0) (cond (Nat.beq (c327.1) 0) (cond (!(r27 0 0)) (a9 x0 x1 x2 x3 x4 x5 x6 x7 (0, false)) (cond (((c327.2.1) : Int) != (c180.2.1)) (a9 x0 x1 x2 x3 x4 x5 x6 x7 (0, false)) (cond (Nat.beq ((r25 x3 x4 x5 x6).1) 0) (cond (Nat.beq (c364.1) 0) (cond (!(c364.2)) (a9 x0 x1 x2 x3 x4 x5 x6 x7 (0, false)) (cond (Nat.beq ((r30 x7).1) 0) (cond (Nat.beq ((r31b ((r30 x7).2) ((r30 x7).2)).1) 0) (cond (!((r31b ((r30 x7).2) ((r30 x7).2)).2)) (a9 x0 x1 x2 x3 x4 x5 x6 x7 (0, false)) (cond (Nat.beq ((r32 1 ((r25 x3 x4 x5 x6).2.1) ((r25 x3 x4 x5 x6).2.2.1) ((r25 x3 x4 x5 x6).2.2.2.1) ((r25 x3 x4 x5 x6).2.2.2.2)).1) 0) (cond (Nat.beq (c386.1) 0) (cond (decide (((c386.2.1) : Int) < 0)) (a9 x0 x1 x2 x3 x4 x5 x6 x7 (0, false)) (cond (!(r27 0 0)) (some (.bool false, ⟨[⟨false, (some (.tab [.fl .f32] x3))⟩, ⟨false, (some (.tab [.fl .f32] x4))⟩, ⟨false, (some (.tab sc0 x5))⟩, ⟨false, (some (.tab sc1 x6))⟩, ⟨false, (some (.tab [.fl .f32] x7))⟩], 5, []⟩)) (cond (((c327.2.1) : Int) != (c180.2.1)) (some (.bool false, ⟨[⟨false, (some (.tab [.fl .f32] x3))⟩, ⟨false, (some (.tab [.fl .f32] x4))⟩, ⟨false, (some (.tab sc0 x5))⟩, ⟨false, (some (.tab sc1 x6))⟩, ⟨false, (some (.tab [.fl .f32] x7))⟩], 5, []⟩)) (cond (decide (((r37 1) : Int) < 0)) (a9 x0 x1 x2 x3 x4 x5 x6 x7 (0, false)) (cond (((r37 1) : Int) != 1) (a9 x0 x1 x2 x3 x4 x5 x6 x7 (0, false)) (cond (Nat.beq ((r25 x3 x4 x5 x6).1) 0) (cond (Nat.beq ((r30 x7).1) 0) (cond (Nat.beq (c327.1) 0) (cond (!(r27 0 0)) (some (.bool false, ⟨[⟨false, (some (.tab [.fl .f32] x3))⟩, ⟨false, (some (.tab [.fl .f32] x4))⟩, ⟨false, (some (.tab sc0 x5))⟩, ⟨false, (some (.tab sc1 x6))⟩, ⟨false, (some (.tab [.fl .f32] x7))⟩], 5, []⟩)) (cond (((c327.2.1) : Int) != (c180.2.1)) (some (.bool false, ⟨[⟨false, (some (.tab [.fl .f32] x3))⟩, ⟨false, (some (.tab [.fl .f32] x4))⟩, ⟨false, (some (.tab sc0 x5))⟩, ⟨false, (some (.tab sc1 x6))⟩, ⟨false, (some (.tab [.fl .f32] x7))⟩], 5, []⟩)) (cond (decide (((r37 1) : Int) < 0)) (some (.bool false, ⟨[⟨false, (some (.tab [.fl .f32] x3))⟩, ⟨false, (some (.tab [.fl .f32] x4))⟩, ⟨false, (some (.tab sc0 x5))⟩, ⟨false, (some (.tab sc1 x6))⟩, ⟨false, (some (.tab [.fl .f32] x7))⟩], 5, []⟩)) (cond (((r37 1) : Int) != 1) (some (.bool false, ⟨[⟨false, (some (.tab [.fl .f32] x3))⟩, ⟨false, (some (.tab [.fl .f32] x4))⟩, ⟨false, (some (.tab sc0 x5))⟩, ⟨false, (some (.tab sc1 x6))⟩, ⟨false, (some (.tab [.fl .f32] x7))⟩], 5, []⟩)) (a9 x0 x1 x2 x3 x4 x5 x6 x7 (0, true)))))) (cond (Nat.beq (c327.1) 1) (cond (Nat.beq ((r28c (c327.2.2.2.1) (c327.2.2.2.2.1) (c327.2.2.2.2.2.1) (c327.2.2.2.2.2.2)).1) 0) (cond (!((r28c (c327.2.2.2.1) (c327.2.2.2.2.1) (c327.2.2.2.2.2.1) (c327.2.2.2.2.2.2)).2)) (some (.bool false, ⟨[⟨false, (some (.tab [.fl .f32] x3))⟩, ⟨false, (some (.tab [.fl .f32] x4))⟩, ⟨false, (some (.tab sc0 x5))⟩, ⟨false, (some (.tab sc1 x6))⟩, ⟨false, (some (.tab [.fl .f32] x7))⟩], 5, []⟩)) (cond (!(r27 (widen (c327.2.2.1)) 0)) (some (.bool false, ⟨[⟨false, (some (.tab [.fl .f32] x3))⟩, ⟨false, (some (.tab [.fl .f32] x4))⟩, ⟨false, (some (.tab sc0 x5))⟩, ⟨false, (some (.tab sc1 x6))⟩, ⟨false, (some (.tab [.fl .f32] x7))⟩], 5, []⟩)) (cond ((0 : Int) != (c180.2.1)) (some (.bool false, ⟨[⟨false, (some (.tab [.fl .f32] x3))⟩, ⟨false, (some (.tab [.fl .f32] x4))⟩, ⟨false, (some (.tab sc0 x5))⟩, ⟨false, (some (.tab sc1 x6))⟩, ⟨false, (some (.tab [.fl .f32] x7))⟩], 5, []⟩)) (cond (decide (((r37 1) : Int) < 0)) (some (.bool false, ⟨[⟨false, (some (.tab [.fl .f32] x3))⟩, ⟨false, (some (.tab [.fl .f32] x4))⟩, ⟨false, (some (.tab sc0 x5))⟩, ⟨false, (some (.tab sc1 x6))⟩, ⟨false, (some (.tab [.fl .f32] x7))⟩], 5, []⟩)) (cond (((r37 1) : Int) != 1) (some (.bool false, ⟨[⟨false, (some (.tab [.fl .f32] x3))⟩, ⟨false, (some (.tab [.fl .f32] x4))⟩, ⟨false, (some (.tab sc0 x5))⟩, ⟨false, (some (.tab sc1 x6))⟩, ⟨false, (some (.tab [.fl .f32] x7))⟩], 5, []⟩)) (some (.bool true, ⟨[⟨false, (some (.tab [.fl .f32] x3))⟩, ⟨false, (some (.tab [.fl .f32] x4))⟩, ⟨false, (some (.tab sc0 x5))⟩, ⟨false, (some (.tab sc1 x6))⟩, ⟨false, (some (.tab [.fl .f32] x7))⟩], 5, []⟩))))))) none) none)) none) none)))))) none) none)) none) none)) none) none))) (cond (Nat.beq (c327.1) 1) (cond (Nat.beq ((r28c (c327.2.2.2.1) (c327.2.2.2.2.1) (c327.2.2.2.2.2.1) (c327.2.2.2.2.2.2)).1) 0) (cond (!((r28c (c327.2.2.2.1) (c327.2.2.2.2.1) (c327.2.2.2.2.2.1) (c327.2.2.2.2.2.2)).2)) (a9 x0 x1 x2 x3 x4 x5 x6 x7 (0, false)) (cond (!(r27 (widen (c327.2.2.1)) 0)) (a9 x0 x1 x2 x3 x4 x5 x6 x7 (0, false)) (cond ((0 : Int) != (c180.2.1)) (a9 x0 x1 x2 x3 x4 x5 x6 x7 (0, false)) (cond (Nat.beq ((r25 x3 x4 x5 x6).1) 0) (cond (Nat.beq (c364.1) 0) (cond (!(c364.2)) (a9 x0 x1 x2 x3 x4 x5 x6 x7 (0, false)) (cond (Nat.beq ((r30 x7).1) 0) (cond (Nat.beq ((r31b ((r30 x7).2) ((r30 x7).2)).1) 0) (cond (!((r31b ((r30 x7).2) ((r30 x7).2)).2)) (a9 x0 x1 x2 x3 x4 x5 x6 x7 (0, false)) (cond (Nat.beq ((r32 1 ((r25 x3 x4 x5 x6).2.1) ((r25 x3 x4 x5 x6).2.2.1) ((r25 x3 x4 x5 x6).2.2.2.1) ((r25 x3 x4 x5 x6).2.2.2.2)).1) 0) (cond (Nat.beq (c386.1) 0) (cond (decide (((c386.2.1) : Int) < 0)) (a9 x0 x1 x2 x3 x4 x5 x6 x7 (0, false)) (cond (Nat.beq ((r28c (c327.2.2.2.1) (c327.2.2.2.2.1) (c327.2.2.2.2.2.1) (c327.2.2.2.2.2.2)).1) 0) (cond (!((r28c (c327.2.2.2.1) (c327.2.2.2.2.1) (c327.2.2.2.2.2.1) (c327.2.2.2.2.2.2)).2)) (some (.bool false, ⟨[⟨false, (some (.tab [.fl .f32] x3))⟩, ⟨false, (some (.tab [.fl .f32] x4))⟩, ⟨false, (some (.tab sc0 x5))⟩, ⟨false, (some (.tab sc1 x6))⟩, ⟨false, (some (.tab [.fl .f32] x7))⟩], 5, []⟩)) (cond (!(r27 (widen (c327.2.2.1)) 0)) (some (.bool false, ⟨[⟨false, (some (.tab [.fl .f32] x3))⟩, ⟨false, (some (.tab [.fl .f32] x4))⟩, ⟨false, (some (.tab sc0 x5))⟩, ⟨false, (some (.tab sc1 x6))⟩, ⟨false, (some (.tab [.fl .f32] x7))⟩], 5, []⟩)) (cond ((0 : Int) != (c180.2.1)) (some (.bool false, ⟨[⟨false, (some (.tab [.fl .f32] x3))⟩, ⟨false, (some (.tab [.fl .f32] x4))⟩, ⟨false, (some (.tab sc0 x5))⟩, ⟨false, (some (.tab sc1 x6))⟩, ⟨false, (some (.tab [.fl .f32] x7))⟩], 5, []⟩)) (cond (Nat.beq ((r32 1 (c327.2.2.2.1) (c327.2.2.2.2.1) (c327.2.2.2.2.2.1) (c327.2.2.2.2.2.2)).1) 0) (cond (Nat.beq (c399.1) 0) (cond (decide (((c399.2) : Int) < 0)) (a9 x0 x1 x2 x3 x4 x5 x6 x7 (0, false)) (cond (((c399.2) : Int) != ((r32 1 (c327.2.2.2.1) (c327.2.2.2.2.1) (c327.2.2.2.2.2.1) (c327.2.2.2.2.2.2)).2.1)) (a9 x0 x1 x2 x3 x4 x5 x6 x7 (0, false)) (cond (Nat.beq ((r25 x3 x4 x5 x6).1) 0) (cond (Nat.beq ((r30 x7).1) 0) (cond (Nat.beq (c327.1) 0) (cond (!(r27 0 0)) (some (.bool false, ⟨[⟨false, (some (.tab [.fl .f32] x3))⟩, ⟨false, (some (.tab [.fl .f32] x4))⟩, ⟨false, (some (.tab sc0 x5))⟩, ⟨false, (some (.tab sc1 x6))⟩, ⟨false, (some (.tab [.fl .f32] x7))⟩], 5, []⟩)) (cond (((c327.2.1) : Int) != (c180.2.1)) (some (.bool false, ⟨[⟨false, (some (.tab [.fl .f32] x3))⟩, ⟨false, (some (.tab [.fl .f32] x4))⟩, ⟨false, (some (.tab sc0 x5))⟩, ⟨false, (some (.tab sc1 x6))⟩, ⟨false, (some (.tab [.fl .f32] x7))⟩], 5, []⟩)) (cond (Nat.beq (c399.1) 0) (cond (decide (((c399.2) : Int) < 0)) (some (.bool false, ⟨[⟨false, (some (.tab [.fl .f32] x3))⟩, ⟨false, (some (.tab [.fl .f32] x4))⟩, ⟨false, (some (.tab sc0 x5))⟩, ⟨false, (some (.tab sc1 x6))⟩, ⟨false, (some (.tab [.fl .f32] x7))⟩], 5, []⟩)) (cond (((c399.2) : Int) != ((r32 1 (c327.2.2.2.1) (c327.2.2.2.2.1) (c327.2.2.2.2.2.1) (c327.2.2.2.2.2.2)).2.1)) (some (.bool false, ⟨[⟨false, (some (.tab [.fl .f32] x3))⟩, ⟨false, (some (.tab [.fl .f32] x4))⟩, ⟨false, (some (.tab sc0 x5))⟩, ⟨false, (some (.tab sc1 x6))⟩, ⟨false, (some (.tab [.fl .f32] x7))⟩], 5, []⟩)) (some (.bool true, ⟨[⟨false, (some (.tab [.fl .f32] x3))⟩, ⟨false, (some (.tab [.fl .f32] x4))⟩, ⟨false, (some (.tab sc0 x5))⟩, ⟨false, (some (.tab sc1 x6))⟩, ⟨false, (some (.tab [.fl .f32] x7))⟩], 5, []⟩)))) none))) (cond (Nat.beq (c327.1) 1) (cond (Nat.beq ((r28c (c327.2.2.2.1) (c327.2.2.2.2.1) (c327.2.2.2.2.2.1) (c327.2.2.2.2.2.2)).1) 0) (cond (!((r28c (c327.2.2.2.1) (c327.2.2.2.2.1) (c327.2.2.2.2.2.1) (c327.2.2.2.2.2.2)).2)) (some (.bool false, ⟨[⟨false, (some (.tab [.fl .f32] x3))⟩, ⟨false, (some (.tab [.fl .f32] x4))⟩, ⟨false, (some (.tab sc0 x5))⟩, ⟨false, (some (.tab sc1 x6))⟩, ⟨false, (some (.tab [.fl .f32] x7))⟩], 5, []⟩)) (cond (!(r27 (widen (c327.2.2.1)) 0)) (some (.bool false, ⟨[⟨false, (some (.tab [.fl .f32] x3))⟩, ⟨false, (some (.tab [.fl .f32] x4))⟩, ⟨false, (some (.tab sc0 x5))⟩, ⟨false, (some (.tab sc1 x6))⟩, ⟨false, (some (.tab [.fl .f32] x7))⟩], 5, []⟩)) (cond ((0 : Int) != (c180.2.1)) (some (.bool false, ⟨[⟨false, (some (.tab [.fl .f32] x3))⟩, ⟨false, (some (.tab [.fl .f32] x4))⟩, ⟨false, (some (.tab sc0 x5))⟩, ⟨false, (some (.tab sc1 x6))⟩, ⟨false, (some (.tab [.fl .f32] x7))⟩], 5, []⟩)) (cond (Nat.beq (c399.1) 0) (cond (decide (((c399.2) : Int) < 0)) (some (.bool false, ⟨[⟨false, (some (.tab [.fl .f32] x3))⟩, ⟨false, (some (.tab [.fl .f32] x4))⟩, ⟨false, (some (.tab sc0 x5))⟩, ⟨false, (some (.tab sc1 x6))⟩, ⟨false, (some (.tab [.fl .f32] x7))⟩], 5, []⟩)) (cond (((c399.2) : Int) != ((r32 1 (c327.2.2.2.1) (c327.2.2.2.2.1) (c327.2.2.2.2.2.1) (c327.2.2.2.2.2.2)).2.1)) (some (.bool false, ⟨[⟨false, (some (.tab [.fl .f32] x3))⟩, ⟨false, (some (.tab [.fl .f32] x4))⟩, ⟨false, (some (.tab sc0 x5))⟩, ⟨false, (some (.tab sc1 x6))⟩, ⟨false, (some (.tab [.fl .f32] x7))⟩], 5, []⟩)) (a9 x0 x1 x2 x3 x4 x5 x6 x7 (0, true)))) none)))) none) none)) none) none))) none) none)))) none)) none) none)) none) none)) none) none)))) none) none)) none) none) (cond (Nat.beq (c180.1) 1) (cond (Nat.beq ((r25 x3 x4 x5 x6).1) 0) (cond (Nat.beq ((r30 x7).1) 0) (cond (Nat.beq (c327.1) 0) (cond (!(r28d (c180.2.2.2.1) (c180.2.2.2.2.1) (c180.2.2.2.2.2.1) (c180.2.2.2.2.2.2))) (a9 x0 x1 x2 x3 x4 x5 x6 x7 (0, false)) (cond (!(r27 0 (widen (c180.2.2.1)))) (a9 x0 x1 x2 x3 x4 x5 x6 x7 (0, false)) (cond (((c327.2.1) : Int) != 0) (a9 x0 x1 x2 x3 x4 x5 x6 x7 (0, false)) (cond (Nat.beq ((r25 x3 x4 x5 x6).1) 0) (cond (Nat.beq (c364.1) 0) (cond (!(c364.2)) (a9 x0 x1 x2 x3 x4 x5 x6 x7 (0, false)) (cond (Nat.beq ((r30 x7).1) 0) (cond (Nat.beq ((r31b ((r30 x7).2) ((r30 x7).2)).1) 0) (cond (!((r31b ((r30 x7).2) ((r30 x7).2)).2)) (a9 x0 x1 x2 x3 x4 x5 x6 x7 (0, false)) (cond (Nat.beq ((r32 1 ((r25 x3 x4 x5 x6).2.1) ((r25 x3 x4 x5 x6).2.2.1) ((r25 x3 x4 x5 x6).2.2.2.1) ((r25 x3 x4 x5 x6).2.2.2.2)).1) 0) (cond (Nat.beq (c386.1) 0) (cond (decide (((c386.2.1) : Int) < 0)) (a9 x0 x1 x2 x3 x4 x5 x6 x7 (0, false)) (cond (!(r28d (c180.2.2.2.1) (c180.2.2.2.2.1) (c180.2.2.2.2.2.1) (c180.2.2.2.2.2.2))) (some (.bool false, ⟨[⟨false, (some (.tab [.fl .f32] x3))⟩, ⟨false, (some (.tab [.fl .f32] x4))⟩, ⟨false, (some (.tab sc0 x5))⟩, ⟨false, (some (.tab sc1 x6))⟩, ⟨false, (some (.tab [.fl .f32] x7))⟩], 5, []⟩)) (cond (!(r27 0 (widen (c180.2.2.1)))) (some (.bool false, ⟨[⟨false, (some (.tab [.fl .f32] x3))⟩, ⟨false, (some (.tab [.fl .f32] x4))⟩, ⟨false, (some (.tab sc0 x5))⟩, ⟨false, (some (.tab sc1 x6))⟩, ⟨false, (some (.tab [.fl .f32] x7))⟩], 5, []⟩)) (cond (((c327.2.1) : Int) != 0) (some (.bool false, ⟨[⟨false, (some (.tab [.fl .f32] x3))⟩, ⟨false, (some (.tab [.fl .f32] x4))⟩, ⟨false, (some (.tab sc0 x5))⟩, ⟨false, (some (.tab sc1 x6))⟩, ⟨false, (some (.tab [.fl .f32] x7))⟩], 5, []⟩)) (cond (decide (((r37 1) : Int) < 0)) (a9 x0 x1 x2 x3 x4 x5 x6 x7 (0, false)) (cond (((r37 1) : Int) != 1) (a9 x0 x1 x2 x3 x4 x5 x6 x7 (0, false)) (cond (Nat.beq ((r25 x3 x4 x5 x6).1) 0) (cond (Nat.beq ((r30 x7).1) 0) (cond (Nat.beq (c327.1) 0) (cond (!(r28d (c180.2.2.2.1) (c180.2.2.2.2.1) (c180.2.2.2.2.2.1) (c180.2.2.2.2.2.2))) (some (.bool false, ⟨[⟨false, (some (.tab [.fl .f32] x3))⟩, ⟨false, (some (.tab [.fl .f32] x4))⟩, ⟨false, (some (.tab sc0 x5))⟩, ⟨false, (some (.tab sc1 x6))⟩, ⟨false, (some (.tab [.fl .f32] x7))⟩], 5, []⟩)) (cond (!(r27 0 (widen (c180.2.2.1)))) (some (.bool false, ⟨[⟨false, (some (.tab [.fl .f32] x3))⟩, ⟨false, (some (.tab [.fl .f32] x4))⟩, ⟨false, (some (.tab sc0 x5))⟩, ⟨false, (some (.tab sc1 x6))⟩, ⟨false, (some (.tab [.fl .f32] x7))⟩], 5, []⟩)) (cond (((c327.2.1) : Int) != 0) (some (.bool false, ⟨[⟨false, (some (.tab [.fl .f32] x3))⟩, ⟨false, (some (.tab [.fl .f32] x4))⟩, ⟨false, (some (.tab sc0 x5))⟩, ⟨false, (some (.tab sc1 x6))⟩, ⟨false, (some (.tab [.fl .f32] x7))⟩], 5, []⟩)) (cond (decide (((r37 1) : Int) < 0)) (some (.bool false, ⟨[⟨false, (some (.tab [.fl .f32] x3))⟩, ⟨false, (some (.tab [.fl .f32] x4))⟩, ⟨false, (some (.tab sc0 x5))⟩, ⟨false, (some (.tab sc1 x6))⟩, ⟨false, (some (.tab [.fl .f32] x7))⟩], 5, []⟩)) (cond (((r37 1) : Int) != 1) (some (.bool false, ⟨[⟨false, (some (.tab [.fl .f32] x3))⟩, ⟨false, (some (.tab [.fl .f32] x4))⟩, ⟨false, (some (.tab sc0 x5))⟩, ⟨false, (some (.tab sc1 x6))⟩, ⟨false, (some (.tab [.fl .f32] x7))⟩], 5, []⟩)) (a9 x0 x1 x2 x3 x4 x5 x6 x7 (0, true))))))) (cond (Nat.beq (c327.1) 1) (cond (Nat.beq (c400.1) 0) (cond (!(c400.2)) (some (.bool false, ⟨[⟨false, (some (.tab [.fl .f32] x3))⟩, ⟨false, (some (.tab [.fl .f32] x4))⟩, ⟨false, (some (.tab sc0 x5))⟩, ⟨false, (some (.tab sc1 x6))⟩, ⟨false, (some (.tab [.fl .f32] x7))⟩], 5, []⟩)) (cond (!(r27 (widen (c327.2.2.1)) (widen (c180.2.2.1)))) (some (.bool false, ⟨[⟨false, (some (.tab [.fl .f32] x3))⟩, ⟨false, (some (.tab [.fl .f32] x4))⟩, ⟨false, (some (.tab sc0 x5))⟩, ⟨false, (some (.tab sc1 x6))⟩, ⟨false, (some (.tab [.fl .f32] x7))⟩], 5, []⟩)) (cond (decide (((r37 1) : Int) < 0)) (some (.bool false, ⟨[⟨false, (some (.tab [.fl .f32] x3))⟩, ⟨false, (some (.tab [.fl .f32] x4))⟩, ⟨false, (some (.tab sc0 x5))⟩, ⟨false, (some (.tab sc1 x6))⟩, ⟨false, (some (.tab [.fl .f32] x7))⟩], 5, []⟩)) (cond (((r37 1) : Int) != 1) (some (.bool false, ⟨[⟨false, (some (.tab [.fl .f32] x3))⟩, ⟨false, (some (.tab [.fl .f32] x4))⟩, ⟨false, (some (.tab sc0 x5))⟩, ⟨false, (some (.tab sc1 x6))⟩, ⟨false, (some (.tab [.fl .f32] x7))⟩], 5, []⟩)) (some (.bool true, ⟨[⟨false, (some (.tab [.fl .f32] x3))⟩, ⟨false, (some (.tab [.fl .f32] x4))⟩, ⟨false, (some (.tab sc0 x5))⟩, ⟨false, (some (.tab sc1 x6))⟩, ⟨false, (some (.tab [.fl .f32] x7))⟩], 5, []⟩)))))) none) none)) none) none))))))) none) none)) none) none)) none) none)))) (cond (Nat.beq (c327.1) 1) (cond (Nat.beq (c400.1) 0) (cond (!(c400.2)) (a9 x0 x1 x2 x3 x4 x5 x6 x7 (0, false)) (cond (!(r27 (widen (c327.2.2.1)) (widen (c180.2.2.1)))) (a9 x0 x1 x2 x3 x4 x5 x6 x7 (0, false)) (cond (Nat.beq ((r25 x3 x4 x5 x6).1) 0) (cond (Nat.beq (c364.1) 0) (cond (!(c364.2)) (a9 x0 x1 x2 x3 x4 x5 x6 x7 (0, false)) (cond (Nat.beq ((r30 x7).1) 0) (cond (Nat.beq ((r31b ((r30 x7).2) ((r30 x7).2)).1) 0) (cond (!((r31b ((r30 x7).2) ((r30 x7).2)).2)) (a9 x0 x1 x2 x3 x4 x5 x6 x7 (0, false)) (cond (Nat.beq ((r32 1 ((r25 x3 x4 x5 x6).2.1) ((r25 x3 x4 x5 x6).2.2.1) ((r25 x3 x4 x5 x6).2.2.2.1) ((r25 x3 x4 x5 x6).2.2.2.2)).1) 0) (cond (Nat.beq (c386.1) 0) (cond (decide (((c386.2.1) : Int) < 0)) (a9 x0 x1 x2 x3 x4 x5 x6 x7 (0, false)) (cond (Nat.beq (c400.1) 0) (cond (!(c400.2)) (some (.bool false, ⟨[⟨false, (some (.tab [.fl .f32] x3))⟩, ⟨false, (some (.tab [.fl .f32] x4))⟩, ⟨false, (some (.tab sc0 x5))⟩, ⟨false, (some (.tab sc1 x6))⟩, ⟨false, (some (.tab [.fl .f32] x7))⟩], 5, []⟩)) (cond (!(r27 (widen (c327.2.2.1)) (widen (c180.2.2.1)))) (some (.bool false, ⟨[⟨false, (some (.tab [.fl .f32] x3))⟩, ⟨false, (some (.tab [.fl .f32] x4))⟩, ⟨false, (some (.tab sc0 x5))⟩, ⟨false, (some (.tab sc1 x6))⟩, ⟨false, (some (.tab [.fl .f32] x7))⟩], 5, []⟩)) (cond (Nat.beq ((r32 1 (c327.2.2.2.1) (c327.2.2.2.2.1) (c327.2.2.2.2.2.1) (c327.2.2.2.2.2.2)).1) 0) (cond (Nat.beq (c399.1) 0) (cond (decide (((c399.2) : Int) < 0)) (a9 x0 x1 x2 x3 x4 x5 x6 x7 (0, false)) (cond (((c399.2) : Int) != ((r32 1 (c327.2.2.2.1) (c327.2.2.2.2.1) (c327.2.2.2.2.2.1) (c327.2.2.2.2.2.2)).2.1)) (a9 x0 x1 x2 x3 x4 x5 x6 x7 (0, false)) (cond (Nat.beq ((r25 x3 x4 x5 x6).1) 0) (cond (Nat.beq ((r30 x7).1) 0) (cond (Nat.beq (c327.1) 0) (cond (!(r28d (c180.2.2.2.1) (c180.2.2.2.2.1) (c180.2.2.2.2.2.1) (c180.2.2.2.2.2.2))) (some (.bool false, ⟨[⟨false, (some (.tab [.fl .f32] x3))⟩, ⟨false, (some (.tab [.fl .f32] x4))⟩, ⟨false, (some (.tab sc0 x5))⟩, ⟨false, (some (.tab sc1 x6))⟩, ⟨false, (some (.tab [.fl .f32] x7))⟩], 5, []⟩)) (cond (!(r27 0 (widen (c180.2.2.1)))) (some (.bool false, ⟨[⟨false, (some (.tab [.fl .f32] x3))⟩, ⟨false, (some (.tab [.fl .f32] x4))⟩, ⟨false, (some (.tab sc0 x5))⟩, ⟨false, (some (.tab sc1 x6))⟩, ⟨false, (some (.tab [.fl .f32] x7))⟩], 5, []⟩)) (cond (((c327.2.1) : Int) != 0) (some (.bool false, ⟨[⟨false, (some (.tab [.fl .f32] x3))⟩, ⟨false, (some (.tab [.fl .f32] x4))⟩, ⟨false, (some (.tab sc0 x5))⟩, ⟨false, (some (.tab sc1 x6))⟩, ⟨false, (some (.tab [.fl .f32] x7))⟩], 5, []⟩)) (cond (Nat.beq (c399.1) 0) (cond (decide (((c399.2) : Int) < 0)) (some (.bool false, ⟨[⟨false, (some (.tab [.fl .f32] x3))⟩, ⟨false, (some (.tab [.fl .f32] x4))⟩, ⟨false, (some (.tab sc0 x5))⟩, ⟨false, (some (.tab sc1 x6))⟩, ⟨false, (some (.tab [.fl .f32] x7))⟩], 5, []⟩)) (cond (((c399.2) : Int) != ((r32 1 (c327.2.2.2.1) (c327.2.2.2.2.1) (c327.2.2.2.2.2.1) (c327.2.2.2.2.2.2)).2.1)) (some (.bool false, ⟨[⟨false, (some (.tab [.fl .f32] x3))⟩, ⟨false, (some (.tab [.fl .f32] x4))⟩, ⟨false, (some (.tab sc0 x5))⟩, ⟨false, (some (.tab sc1 x6))⟩, ⟨false, (some (.tab [.fl .f32] x7))⟩], 5, []⟩)) (some (.bool true, ⟨[⟨false, (some (.tab [.fl .f32] x3))⟩, ⟨false, (some (.tab [.fl .f32] x4))⟩, ⟨false, (some (.tab sc0 x5))⟩, ⟨false, (some (.tab sc1 x6))⟩, ⟨false, (some (.tab [.fl .f32] x7))⟩], 5, []⟩)))) none)))) (cond (Nat.beq (c327.1) 1) (cond (Nat.beq (c400.1) 0) (cond (!(c400.2)) (some (.bool false, ⟨[⟨false, (some (.tab [.fl .f32] x3))⟩, ⟨false, (some (.tab [.fl .f32] x4))⟩, ⟨false, (some (.tab sc0 x5))⟩, ⟨false, (some (.tab sc1 x6))⟩, ⟨false, (some (.tab [.fl .f32] x7))⟩], 5, []⟩)) (cond (!(r27 (widen (c327.2.2.1)) (widen (c180.2.2.1)))) (some (.bool false, ⟨[⟨false, (some (.tab [.fl .f32] x3))⟩, ⟨false, (some (.tab [.fl .f32] x4))⟩, ⟨false, (some (.tab sc0 x5))⟩, ⟨false, (some (.tab sc1 x6))⟩, ⟨false, (some (.tab [.fl .f32] x7))⟩], 5, []⟩)) (cond (Nat.beq (c399.1) 0) (cond (decide (((c399.2) : Int) < 0)) (some (.bool false, ⟨[⟨false, (some (.tab [.fl .f32] x3))⟩, ⟨false, (some (.tab [.fl .f32] x4))⟩, ⟨false, (some (.tab sc0 x5))⟩, ⟨false, (some (.tab sc1 x6))⟩, ⟨false, (some (.tab [.fl .f32] x7))⟩], 5, []⟩)) (cond (((c399.2) : Int) != ((r32 1 (c327.2.2.2.1) (c327.2.2.2.2.1) (c327.2.2.2.2.2.1) (c327.2.2.2.2.2.2)).2.1)) (some (.bool false, ⟨[⟨false, (some (.tab [.fl .f32] x3))⟩, ⟨false, (some (.tab [.fl .f32] x4))⟩, ⟨false, (some (.tab sc0 x5))⟩, ⟨false, (some (.tab sc1 x6))⟩, ⟨false, (some (.tab [.fl .f32] x7))⟩], 5, []⟩)) (a9 x0 x1 x2 x3 x4 x5 x6 x7 (0, true)))) none))) none) none)) none) none))) none) none))) none)) none) none)) none) none)) none) none))) none) none)) none) none) none)) none) none)))
set_option maxRecDepth 100000 in
set_option maxHeartbeats 4000000 in
theorem e9 (x0 x1 x2 : Nat) (x3 x4 x5 x6 x7 : List (List Int)) : evFn Try.prog ext T88 noL 200 Try.f9 [.agg #[wsl 0, wsl 1, wsl 2, wsl 3], .float .f32 x0, .float .f32 x1, wsl 4, .float .f32 x2] ⟨[⟨false, (some (.tab [.fl .f32] x3))⟩, ⟨false, (some (.tab [.fl .f32] x4))⟩, ⟨false, (some (.tab sc0 x5))⟩, ⟨false, (some (.tab sc1 x6))⟩, ⟨false, (some (.tab [.fl .f32] x7))⟩], 5, []⟩ = firstT [((Nat.beq ((r9 x0 x1 x2 x3 x4 x5 x6 x7).1) 0), .bool ((r9 x0 x1 x2 x3 x4 x5 x6 x7).2), ⟨[⟨false, (some (.tab [.fl .f32] x3))⟩, ⟨false, (some (.tab [.fl .f32] x4))⟩, ⟨false, (some (.tab sc0 x5))⟩, ⟨false, (some (.tab sc1 x6))⟩, ⟨false, (some (.tab [.fl .f32] x7))⟩], 5, []⟩)] :=
 (show evFn Try.prog ext T88 noL 200 Try.f9 [.agg #[wsl 0, wsl 1, wsl 2, wsl 3], .float .f32 x0, .float .f32 x1, wsl 4, .float .f32 x2] ⟨[⟨false, (some (.tab [.fl .f32] x3))⟩, ⟨false, (some (.tab [.fl .f32] x4))⟩, ⟨false, (some (.tab sc0 x5))⟩, ⟨false, (some (.tab sc1 x6))⟩, ⟨false, (some (.tab [.fl .f32] x7))⟩], 5, []⟩ = w9 x0 x1 x2 x3 x4 x5 x6 x7 from by kernel_rfl).trans
 (show w9 x0 x1 x2 x3 x4 x5 x6 x7 = a9 x0 x1 x2 x3 x4 x5 x6 x7 (r9 x0 x1 x2 x3 x4 x5 x6 x7) from by unfold w9 r9; exact (cond_both (a9 x0 x1 x2 x3 x4 x5 x6 x7) _ (fun h0 => rfl) (fun h0 => (cond_both (a9 x0 x1 x2 x3 x4 x5 x6 x7) _ (fun h1 => rfl) (fun h1 => (cond_both (a9 x0 x1 x2 x3 x4 x5 x6 x7) _ (fun h2 => (cond_both (a9 x0 x1 x2 x3 x4 x5 x6 x7) _ (fun h3 => (cond_both (a9 x0 x1 x2 x3 x4 x5 x6 x7) _ (fun h4 => (cond_t h2 (cond_t h3 (cond_both (a9 x0 x1 x2 x3 x4 x5 x6 x7) _ (fun h5 => (cond_both (a9 x0 x1 x2 x3 x4 x5 x6 x7) _ (fun h6 => rfl) (fun h6 => (cond_both (a9 x0 x1 x2 x3 x4 x5 x6 x7) _ (fun h7 => rfl) (fun h7 => (cond_t h2 (cond_both (a9 x0 x1 x2 x3 x4 x5 x6 x7) _ (fun h8 => (cond_both (a9 x0 x1 x2 x3 x4 x5 x6 x7) _ (fun h9 => rfl) (fun h9 => (cond_t h3 (cond_both (a9 x0 x1 x2 x3 x4 x5 x6 x7) _ (fun h10 => (cond_both (a9 x0 x1 x2 x3 x4 x5 x6 x7) _ (fun h11 => rfl) (fun h11 => (cond_both (a9 x0 x1 x2 x3 x4 x5 x6 x7) _ (fun h12 => (cond_both (a9 x0 x1 x2 x3 x4 x5 x6 x7) _ (fun h13 => (cond_both (a9 x0 x1 x2 x3 x4 x5 x6 x7) _ (fun h14 => rfl) (fun h14 => (cond_f (ev_not0 (ev_notf h6)) (cond_f h7 (cond_both (a9 x0 x1 x2 x3 x4 x5 x6 x7) _ (fun h15 => rfl) (fun h15 => (cond_both (a9 x0 x1 x2 x3 x4 x5 x6 x7) _ (fun h16 => rfl) (fun h16 => (cond_t h2 (cond_t h3 (cond_t h5 (cond_f (ev_not0 (ev_notf h6)) (cond_f h7 (cond_f h15 (cond_f h16 rfl)))))))))))))))) (fun h13 => rfl))) (fun h12 => rfl))))) (fun h10 => rfl)))))) (fun h8 => rfl)))))))) (fun h5 => (cond_both (a9 x0 x1 x2 x3 x4 x5 x6 x7) _ (fun h6 => (cond_both (a9 x0 x1 x2 x3 x4 x5 x6 x7) _ (fun h7 => (cond_both (a9 x0 x1 x2 x3 x4 x5 x6 x7) _ (fun h8 => rfl) (fun h8 => (cond_both (a9 x0 x1 x2 x3 x4 x5 x6 x7) _ (fun h9 => rfl) (fun h9 => (cond_both (a9 x0 x1 x2 x3 x4 x5 x6 x7) _ (fun h10 => rfl) (fun h10 => (cond_t h2 (cond_both (a9 x0 x1 x2 x3 x4 x5 x6 x7) _ (fun h11 => (cond_both (a9 x0 x1 x2 x3 x4 x5 x6 x7) _ (fun h12 => rfl) (fun h12 => (cond_t h3 (cond_both (a9 x0 x1 x2 x3 x4 x5 x6 x7) _ (fun h13 => (cond_both (a9 x0 x1 x2 x3 x4 x5 x6 x7) _ (fun h14 => rfl) (fun h14 => (cond_both (a9 x0 x1 x2 x3 x4 x5 x6 x7) _ (fun h15 => (cond_both (a9 x0 x1 x2 x3 x4 x5 x6 x7) _ (fun h16 => (cond_both (a9 x0 x1 x2 x3 x4 x5 x6 x7) _ (fun h17 => rfl) (fun h17 => (cond_t h7 (cond_f (ev_not0 (ev_notf h8)) (cond_f (ev_not0 (ev_notf h9)) (cond_f h10 (cond_both (a9 x0 x1 x2 x3 x4 x5 x6 x7) _ (fun h18 => (cond_both (a9 x0 x1 x2 x3 x4 x5 x6 x7) _ (fun h19 => (cond_both (a9 x0 x1 x2 x3 x4 x5 x6 x7) _ (fun h20 => rfl) (fun h20 => (cond_both (a9 x0 x1 x2 x3 x4 x5 x6 x7) _ (fun h21 => rfl) (fun h21 => (cond_t h2 (cond_t h3 (cond_f h5 (cond_t h6 (cond_t h7 (cond_f (ev_not0 (ev_notf h8)) (cond_f (ev_not0 (ev_notf h9)) (cond_f h10 (cond_t h19 (cond_f h20 (cond_f h21 rfl)))))))))))))))) (fun h19 => rfl))) (fun h18 => rfl))))))))) (fun h16 => rfl))) (fun h15 => rfl))))) (fun h13 => rfl)))))) (fun h11 => rfl)))))))))) (fun h7 => rfl))) (fun h6 => rfl))))))) (fun h4 => (cond_both (a9 x0 x1 x2 x3 x4 x5 x6 x7) _ (fun h5 => (cond_t h2 (cond_t h3 (cond_both (a9 x0 x1 x2 x3 x4 x5 x6 x7) _ (fun h6 => (cond_both (a9 x0 x1 x2 x3 x4 x5 x6 x7) _ (fun h7 => rfl) (fun h7 => (cond_both (a9 x0 x1 x2 x3 x4 x5 x6 x7) _ (fun h8 => rfl) (fun h8 => (cond_both (a9 x0 x1 x2 x3 x4 x5 x6 x7) _ (fun h9 => rfl) (fun h9 => (cond_t h2 (cond_both (a9 x0 x1 x2 x3 x4 x5 x6 x7) _ (fun h10 => (cond_both (a9 x0 x1 x2 x3 x4 x5 x6 x7) _ (fun h11 => rfl) (fun h11 => (cond_t h3 (cond_both (a9 x0 x1 x2 x3 x4 x5 x6 x7) _ (fun h12 => (cond_both (a9 x0 x1 x2 x3 x4 x5 x6 x7) _ (fun h13 => rfl) (fun h13 => (cond_both (a9 x0 x1 x2 x3 x4 x5 x6 x7) _ (fun h14 => (cond_both (a9 x0 x1 x2 x3 x4 x5 x6 x7) _ (fun h15 => (cond_both (a9 x0 x1 x2 x3 x4 x5 x6 x7) _ (fun h16 => rfl) (fun h16 => (cond_f (ev_not0 (ev_notf h7)) (cond_f (ev_not0 (ev_notf h8)) (cond_f h9 (cond_both (a9 x0 x1 x2 x3 x4 x5 x6 x7) _ (fun h17 => rfl) (fun h17 => (cond_both (a9 x0 x1 x2 x3 x4 x5 x6 x7) _ (fun h18 => rfl) (fun h18 => (cond_t h2 (cond_t h3 (cond_t h6 (cond_f (ev_not0 (ev_notf h7)) (cond_f (ev_not0 (ev_notf h8)) (cond_f h9 (cond_f h17 (cond_f h18 rfl)))))))))))))))))) (fun h15 => rfl))) (fun h14 => rfl))))) (fun h12 => rfl)))))) (fun h10 => rfl)))))))))) (fun h6 => (cond_both (a9 x0 x1 x2 x3 x4 x5 x6 x7) _ (fun h7 => (cond_both (a9 x0 x1 x2 x3 x4 x5 x6 x7) _ (fun h8 => (cond_both (a9 x0 x1 x2 x3 x4 x5 x6 x7) _ (fun h9 => rfl) (fun h9 => (cond_both (a9 x0 x1 x2 x3 x4 x5 x6 x7) _ (fun h10 => rfl) (fun h10 => (cond_t h2 (cond_both (a9 x0 x1 x2 x3 x4 x5 x6 x7) _ (fun h11 => (cond_both (a9 x0 x1 x2 x3 x4 x5 x6 x7) _ (fun h12 => rfl) (fun h12 => (cond_t h3 (cond_both (a9 x0 x1 x2 x3 x4 x5 x6 x7) _ (fun h13 => (cond_both (a9 x0 x1 x2 x3 x4 x5 x6 x7) _ (fun h14 => rfl) (fun h14 => (cond_both (a9 x0 x1 x2 x3 x4 x5 x6 x7) _ (fun h15 => (cond_both (a9 x0 x1 x2 x3 x4 x5 x6 x7) _ (fun h16 => (cond_both (a9 x0 x1 x2 x3 x4 x5 x6 x7) _ (fun h17 => rfl) (fun h17 => (cond_t h8 (cond_f (ev_not0 (ev_notf h9)) (cond_f (ev_not0 (ev_notf h10)) (cond_both (a9 x0 x1 x2 x3 x4 x5 x6 x7) _ (fun h18 => (cond_both (a9 x0 x1 x2 x3 x4 x5 x6 x7) _ (fun h19 => (cond_both (a9 x0 x1 x2 x3 x4 x5 x6 x7) _ (fun h20 => rfl) (fun h20 => (cond_both (a9 x0 x1 x2 x3 x4 x5 x6 x7) _ (fun h21 => rfl) (fun h21 => (cond_t h2 (cond_t h3 (cond_f h6 (cond_t h7 (cond_t h8 (cond_f (ev_not0 (ev_notf h9)) (cond_f (ev_not0 (ev_notf h10)) (cond_t h19 (cond_f h20 (cond_f h21 rfl))))))))))))))) (fun h19 => rfl))) (fun h18 => rfl)))))))) (fun h16 => rfl))) (fun h15 => rfl))))) (fun h13 => rfl)))))) (fun h11 => rfl)))))))) (fun h8 => rfl))) (fun h7 => rfl))))))) (fun h5 => rfl))))) (fun h3 => rfl))) (fun h2 => rfl)))))))
noncomputable def s9 (args : List Value) (s : St) : List (Bool × Value × St) :=
 match args, s.h with
 | [.agg ⟨[.iface f0 .nilIface, .iface f1 .nilIface, .iface f2 .nilIface, .iface f3 .nilIface]⟩, .float .f32 x0, .float .f32 x1, .iface f4 .nilIface, .float .f32 x2], [⟨false, some (.tab [.fl .f32] x3)⟩, ⟨false, some (.tab [.fl .f32] x4)⟩, ⟨false, some (.tab [.int .i64, .int .i64, .fl .f32, .fl .f32, .fl .f32, .fl .f32, .fl .f32, .fl .f32] x5)⟩, ⟨false, some (.tab [.int .i64, .int .i64, .fl .f32, .fl .f32] x6)⟩, ⟨false, some (.tab [.fl .f32] x7)⟩] => if f0 = 0 ∧ f1 = 1 ∧ f2 = 2 ∧ f3 = 3 ∧ f4 = 4 then [((Nat.beq ((r9 x0 x1 x2 x3 x4 x5 x6 x7).1) 0), .bool ((r9 x0 x1 x2 x3 x4 x5 x6 x7).2), ⟨[⟨false, (some (.tab [.fl .f32] x3))⟩, ⟨false, (some (.tab [.fl .f32] x4))⟩, ⟨false, (some (.tab sc0 x5))⟩, ⟨false, (some (.tab sc1 x6))⟩, ⟨false, (some (.tab [.fl .f32] x7))⟩], 5, []⟩)] else T88 9 args s
 | _, _ => T88 9 args s
noncomputable def T89 : CallF := addF T88 9 s9
set_option maxRecDepth 100000 in
set_option maxHeartbeats 4000000 in
theorem ok89 : CfOk Try.prog T89 := by
  refine cfOk_add ok88 fun args s r s' h1 h2 h3 => ?_
  unfold s9 at h3; split at h3
  · rename_i h; split at h3
    · rename_i hc; obtain ⟨rfl, rfl, rfl, rfl, rfl⟩ := hc; exact callOk ok88 Try.func9 h1 h2 h (lfOkF_no _ _).body (e9 _ _ _ _ _ _ _ _) rfl h3
    · exact ok88 _ _ _ _ _ h1 h2 h3
  · exact ok88 _ _ _ _ _ h1 h2 h3
end Go.Proofs.Ytfnfapmncibjfaa
