/- What the functions that the statements reach answer, part 3. -/
import Derived.Test.YtfnfapmncibjfaaSw2
namespace Go.Proofs.Ytfnfapmncibjfaa
open Go.Ab
set_option maxHeartbeats 4000000
set_option maxRecDepth 100000

/-- laws.eqWallS, loop 0 -/
noncomputable def r81l0 : Unit :=
 ()
noncomputable def a81l0 (p : Unit) : Option (Fin' × List Value × St) := firstT ([(true, .exit 0, [anyV], st0)].map fun (b, x) => (b, (x.1, frameOf 27 [4] x.2.1, x.2.2)))
noncomputable def w81l0 : Option (Fin' × List Value × St) :=
 (a81l0 ())
set_option maxRecDepth 100000 in
set_option maxHeartbeats 4000000 in
theorem e81l0 : evC Try.prog ext T38 noL 200 (loopN Try.f81 0) (loopTail ([0, 1, 5], []) [4] [] (sumK 27 [0, 1, 5] [4] noQ)) (frameOf 27 [0, 1, 5] [.slice none 0 0, .slice none 0 0, .int .i64 0]) ⟨[], 0, []⟩ = firstT ([(true, .exit 0, [anyV], st0)].map fun (b, x) => (b, (x.1, frameOf 27 [4] x.2.1, x.2.2))) :=
 (show evC Try.prog ext T38 noL 200 (loopN Try.f81 0) (loopTail ([0, 1, 5], []) [4] [] (sumK 27 [0, 1, 5] [4] noQ)) (frameOf 27 [0, 1, 5] [.slice none 0 0, .slice none 0 0, .int .i64 0]) ⟨[], 0, []⟩ = w81l0 from by kernel_rfl).trans
 (show w81l0 = a81l0 r81l0 from by unfold w81l0 r81l0; exact rfl)
noncomputable def Q81l0 : SumK := fun vals s =>
 match vals, s.h with
 | [.slice none f0 f1, .slice none f2 f3, .int .i64 f4], [] => if f0 = 0 ∧ f1 = 0 ∧ f2 = 0 ∧ f3 = 0 ∧ f4 = 0 then [(true, .exit 0, [anyV], st0)] else noQ vals s
 | _, _ => noQ vals s
set_option maxRecDepth 100000 in
set_option maxHeartbeats 4000000 in
theorem qok81l0 : SumKOk Try.prog (loopN Try.f81 0) 27 [0, 1, 5] [4] Q81l0 := by
  intro vals s x h1 h2 h3
  unfold Q81l0 at h3; split at h3
  · rename_i h; split at h3
    · rename_i hc; obtain ⟨rfl, rfl, rfl, rfl, rfl⟩ := hc; exact sum_step ok38 extOk mixed ((lfOkF_no _ _).inner (by kernel_rfl)) noQ_ok h1 h2 h (e81l0) rfl h3
    · exact noQ_ok _ _ _ h1 h2 h3
  · exact noQ_ok _ _ _ h1 h2 h3
noncomputable def L81_1 : LoopT := addL noL 5 ([0, 1, 5], []) (sumK 27 [0, 1, 5] [4] Q81l0)
theorem lok81_1 : LfOkF Try.prog L81_1 Try.f81 := lfOkF_add (lfOkF_no _ _) qok81l0 (by kernel_rfl) (by kernel_rfl) (by kernel_rfl)

/-- laws.eqWallS -/
noncomputable def r81 : Unit :=
 ()
noncomputable def a81 (p : Unit) : Res := firstT [(true, .bool true, st0)]
noncomputable def w81 : Res :=
 (a81 ())
set_option maxRecDepth 100000 in
set_option maxHeartbeats 4000000 in
theorem e81 : evFn Try.prog ext T38 L81_1 200 Try.f81 [.slice none 0 0, .slice none 0 0] st0 = firstT [(true, .bool true, st0)] :=
 (show evFn Try.prog ext T38 L81_1 200 Try.f81 [.slice none 0 0, .slice none 0 0] st0 = w81 from by kernel_rfl).trans
 (show w81 = a81 r81 from by unfold w81 r81; exact rfl)
noncomputable def s81 (args : List Value) (s : St) : List (Bool × Value × St) :=
 match args, s.h with
 | [.slice none f0 f1, .slice none f2 f3], [] => if f0 = 0 ∧ f1 = 0 ∧ f2 = 0 ∧ f3 = 0 then [(true, .bool true, st0)] else T38 81 args s
 | _, _ => T38 81 args s
noncomputable def T39 : CallF := addF T38 81 s81
set_option maxRecDepth 100000 in
set_option maxHeartbeats 4000000 in
theorem ok39 : CfOk Try.prog T39 := by
  refine cfOk_add ok38 fun args s r s' h1 h2 h3 => ?_
  unfold s81 at h3; split at h3
  · rename_i h; split at h3
    · rename_i hc; obtain ⟨rfl, rfl, rfl, rfl⟩ := hc; exact callOk ok38 Try.func81 h1 h2 h lok81_1.body (e81) rfl h3
    · exact ok38 _ _ _ _ _ h1 h2 h3
  · exact ok38 _ _ _ _ _ h1 h2 h3

/-- laws.eqPaneS, loop 0 -/
noncomputable def r82l0 : Unit :=
 ()
noncomputable def a82l0 (p : Unit) : Option (Fin' × List Value × St) := firstT ([(true, .exit 0, [anyV], st0)].map fun (b, x) => (b, (x.1, frameOf 27 [4] x.2.1, x.2.2)))
noncomputable def w82l0 : Option (Fin' × List Value × St) :=
 (a82l0 ())
set_option maxRecDepth 100000 in
set_option maxHeartbeats 4000000 in
theorem e82l0 : evC Try.prog ext T39 noL 200 (loopN Try.f82 0) (loopTail ([0, 1, 5], []) [4] [] (sumK 27 [0, 1, 5] [4] noQ)) (frameOf 27 [0, 1, 5] [.slice none 0 0, .slice none 0 0, .int .i64 0]) ⟨[], 0, []⟩ = firstT ([(true, .exit 0, [anyV], st0)].map fun (b, x) => (b, (x.1, frameOf 27 [4] x.2.1, x.2.2))) :=
 (show evC Try.prog ext T39 noL 200 (loopN Try.f82 0) (loopTail ([0, 1, 5], []) [4] [] (sumK 27 [0, 1, 5] [4] noQ)) (frameOf 27 [0, 1, 5] [.slice none 0 0, .slice none 0 0, .int .i64 0]) ⟨[], 0, []⟩ = w82l0 from by kernel_rfl).trans
 (show w82l0 = a82l0 r82l0 from by unfold w82l0 r82l0; exact rfl)
noncomputable def Q82l0 : SumK := fun vals s =>
 match vals, s.h with
 | [.slice none f0 f1, .slice none f2 f3, .int .i64 f4], [] => if f0 = 0 ∧ f1 = 0 ∧ f2 = 0 ∧ f3 = 0 ∧ f4 = 0 then [(true, .exit 0, [anyV], st0)] else noQ vals s
 | _, _ => noQ vals s
set_option maxRecDepth 100000 in
set_option maxHeartbeats 4000000 in
theorem qok82l0 : SumKOk Try.prog (loopN Try.f82 0) 27 [0, 1, 5] [4] Q82l0 := by
  intro vals s x h1 h2 h3
  unfold Q82l0 at h3; split at h3
  · rename_i h; split at h3
    · rename_i hc; obtain ⟨rfl, rfl, rfl, rfl, rfl⟩ := hc; exact sum_step ok39 extOk mixed ((lfOkF_no _ _).inner (by kernel_rfl)) noQ_ok h1 h2 h (e82l0) rfl h3
    · exact noQ_ok _ _ _ h1 h2 h3
  · exact noQ_ok _ _ _ h1 h2 h3
noncomputable def L82_1 : LoopT := addL noL 5 ([0, 1, 5], []) (sumK 27 [0, 1, 5] [4] Q82l0)
theorem lok82_1 : LfOkF Try.prog L82_1 Try.f82 := lfOkF_add (lfOkF_no _ _) qok82l0 (by kernel_rfl) (by kernel_rfl) (by kernel_rfl)

/-- laws.eqPaneS -/
noncomputable def r82 : Unit :=
 ()
noncomputable def a82 (p : Unit) : Res := firstT [(true, .bool true, st0)]
noncomputable def w82 : Res :=
 (a82 ())
set_option maxRecDepth 100000 in
set_option maxHeartbeats 4000000 in
theorem e82 : evFn Try.prog ext T39 L82_1 200 Try.f82 [.slice none 0 0, .slice none 0 0] st0 = firstT [(true, .bool true, st0)] :=
 (show evFn Try.prog ext T39 L82_1 200 Try.f82 [.slice none 0 0, .slice none 0 0] st0 = w82 from by kernel_rfl).trans
 (show w82 = a82 r82 from by unfold w82 r82; exact rfl)
noncomputable def s82 (args : List Value) (s : St) : List (Bool × Value × St) :=
 match args, s.h with
 | [.slice none f0 f1, .slice none f2 f3], [] => if f0 = 0 ∧ f1 = 0 ∧ f2 = 0 ∧ f3 = 0 then [(true, .bool true, st0)] else T39 82 args s
 | _, _ => T39 82 args s
noncomputable def T40 : CallF := addF T39 82 s82
set_option maxRecDepth 100000 in
set_option maxHeartbeats 4000000 in
theorem ok40 : CfOk Try.prog T40 := by
  refine cfOk_add ok39 fun args s r s' h1 h2 h3 => ?_
  unfold s82 at h3; split at h3
  · rename_i h; split at h3
    · rename_i hc; obtain ⟨rfl, rfl, rfl, rfl⟩ := hc; exact callOk ok39 Try.func82 h1 h2 h lok82_1.body (e82) rfl h3
    · exact ok39 _ _ _ _ _ h1 h2 h3
  · exact ok39 _ _ _ _ _ h1 h2 h3

/-- laws.eqFlat -/
noncomputable def r28 : Unit :=
 ()
noncomputable def a28 (p : Unit) : Res := firstT [(true, .bool true, st0)]
noncomputable def w28 : Res :=
 (a28 ())
set_option maxRecDepth 100000 in
set_option maxHeartbeats 4000000 in
theorem e28 : evFn Try.prog ext T40 noL 200 Try.f28 [.agg #[.slice none 0 0, .slice none 0 0, .slice none 0 0, .slice none 0 0], .agg #[.slice none 0 0, .slice none 0 0, .slice none 0 0, .slice none 0 0]] st0 = firstT [(true, .bool true, st0)] :=
 (show evFn Try.prog ext T40 noL 200 Try.f28 [.agg #[.slice none 0 0, .slice none 0 0, .slice none 0 0, .slice none 0 0], .agg #[.slice none 0 0, .slice none 0 0, .slice none 0 0, .slice none 0 0]] st0 = w28 from by kernel_rfl).trans
 (show w28 = a28 r28 from by unfold w28 r28; exact rfl)
noncomputable def s28 (args : List Value) (s : St) : List (Bool × Value × St) :=
 match args, s.h with
 | [.agg ⟨[.slice none f0 f1, .slice none f2 f3, .slice none f4 f5, .slice none f6 f7]⟩, .agg ⟨[.slice none f8 f9, .slice none f10 f11, .slice none f12 f13, .slice none f14 f15]⟩], [] => if f0 = 0 ∧ f1 = 0 ∧ f2 = 0 ∧ f3 = 0 ∧ f4 = 0 ∧ f5 = 0 ∧ f6 = 0 ∧ f7 = 0 ∧ f8 = 0 ∧ f9 = 0 ∧ f10 = 0 ∧ f11 = 0 ∧ f12 = 0 ∧ f13 = 0 ∧ f14 = 0 ∧ f15 = 0 then [(true, .bool true, st0)] else T40 28 args s
 | _, _ => T40 28 args s
noncomputable def T41 : CallF := addF T40 28 s28
set_option maxRecDepth 100000 in
set_option maxHeartbeats 4000000 in
theorem ok41 : CfOk Try.prog T41 := by
  refine cfOk_add ok40 fun args s r s' h1 h2 h3 => ?_
  unfold s28 at h3; split at h3
  · rename_i h; split at h3
    · rename_i hc; obtain ⟨rfl, rfl, rfl, rfl, rfl, rfl, rfl, rfl, rfl, rfl, rfl, rfl, rfl, rfl, rfl, rfl⟩ := hc; exact callOk ok40 Try.func28 h1 h2 h (lfOkF_no _ _).body (e28) rfl h3
    · exact ok40 _ _ _ _ _ h1 h2 h3
  · exact ok40 _ _ _ _ _ h1 h2 h3

/-- laws.sameFloat -/
noncomputable def r27 (x0 x1 : Nat) : Bool :=
 cond (!feq .f64 x0 x0)
  ((!feq .f64 x1 x1))
  (cond (!feq .f64 x1 x1)
   (false)
   (cond (feq .f64 x0 0)
    (cond (feq .f64 x1 0)
     (((fgt .f64 (fdiv .f64 4607182418800017408 x0) 0) == (fgt .f64 (fdiv .f64 4607182418800017408 x1) 0)))
     ((feq .f64 x0 x1)))
    ((feq .f64 x0 x1))))
noncomputable def a27 (x0 x1 : Nat) (p : Bool) : Res := firstT [(true, .bool p, st0)]
noncomputable def w27 (x0 x1 : Nat) : Res :=
 (cond (!feq .f64 x0 x0)
 (cond (!feq .f64 x0 x0)
  (a27 x0 x1 ((!feq .f64 x1 x1)))
  (some (.bool false, st0)))
 (cond (!feq .f64 x1 x1)
  (cond (!feq .f64 x0 x0)
   (some (.bool (!feq .f64 x1 x1), st0))
   (a27 x0 x1 (false)))
  (cond (feq .f64 x0 0)
   (cond (feq .f64 x1 0)
    (a27 x0 x1 (((fgt .f64 (fdiv .f64 4607182418800017408 x0) 0) == (fgt .f64 (fdiv .f64 4607182418800017408 x1) 0))))
    (a27 x0 x1 ((feq .f64 x0 x1))))
   (a27 x0 x1 ((feq .f64 x0 x1))))))
set_option maxRecDepth 100000 in
set_option maxHeartbeats 4000000 in
theorem e27 (x0 x1 : Nat) : evFn Try.prog ext T41 noL 200 Try.f27 [.float .f64 x0, .float .f64 x1] st0 = firstT [(true, .bool (r27 x0 x1), st0)] :=
 (show evFn Try.prog ext T41 noL 200 Try.f27 [.float .f64 x0, .float .f64 x1] st0 = w27 x0 x1 from by kernel_rfl).trans
 (show w27 x0 x1 = a27 x0 x1 (r27 x0 x1) from by unfold w27 r27; exact (cond_both (a27 x0 x1) _ (fun h0 => (cond_t (ev_not1 (ev_nott h0)) rfl)) (fun h0 => (cond_both (a27 x0 x1) _ (fun h1 => (cond_f (ev_not0 (ev_notf h0)) rfl)) (fun h1 => (cond_app (a27 x0 x1) _ (cond_app (a27 x0 x1) _ rfl rfl) rfl))))))
noncomputable def s27 (args : List Value) (s : St) : List (Bool × Value × St) :=
 match args, s.h with
 | [.float .f64 x0, .float .f64 x1], [] => [(true, .bool (r27 x0 x1), st0)]
 | _, _ => T41 27 args s
noncomputable def T42 : CallF := addF T41 27 s27
set_option maxRecDepth 100000 in
set_option maxHeartbeats 4000000 in
theorem ok42 : CfOk Try.prog T42 := by
  refine cfOk_add ok41 fun args s r s' h1 h2 h3 => ?_
  unfold s27 at h3; split at h3
  · rename_i h; exact callOk ok41 Try.func27 h1 h2 h (lfOkF_no _ _).body (e27 _ _) rfl h3
  · exact ok41 _ _ _ _ _ h1 h2 h3

/-- laws.eqFloat32S, loop 0: one round -/
noncomputable def b31l0b (ih : Int → List (List Int) → List (List Int) → Nat) (x0 : Int) (x1 x2 : List (List Int)) : Nat :=
 let c57 := (r27 (widen (Int.toNat ((x1.getD (Int.toNat x0) []).getD 0 0))) (widen (Int.toNat ((x2.getD (Int.toNat x0) []).getD 0 0))))
 cond (decide ((x0 : Int) < ((x1.length : Nat) : Int)))
  (cond ((decide ((0 : Int) ≤ x0)) && (Nat.blt (Int.toNat x0) x1.length))
   (cond ((decide ((0 : Int) ≤ x0)) && (Nat.blt (Int.toNat x0) x2.length))
    (cond (!c57)
     (0)
     (ih (IntKind.i64.wrap (x0 + 1)) x1 x2))
    (2))
   (2))
  (1)
noncomputable def r31l0b : Nat → Int → List (List Int) → List (List Int) → Nat
 | 0 => fun _ _ _ => (2)
 | m + 1 => b31l0b (r31l0b m)
noncomputable def a31l0b (x0 : Int) (x1 x2 : List (List Int)) (p : Nat) : Option (Fin' × List Value × St) := firstT ([((Nat.beq p 0), .ret, [.bool false], ⟨[⟨true, (some (.tab [.fl .f32] x1))⟩, ⟨true, (some (.tab [.fl .f32] x2))⟩], 2, []⟩), ((Nat.beq p 1), .exit 0, [anyV], ⟨[⟨true, (some (.tab [.fl .f32] x1))⟩, ⟨true, (some (.tab [.fl .f32] x2))⟩], 2, []⟩)].map fun (b, x) => (b, (x.1, frameOf 29 [4] x.2.1, x.2.2)))
noncomputable def u31l0b (x0 : Int) (x1 x2 : List (List Int)) (p : Nat) : Option (Fin' × List Value × St) := alts ([((Nat.beq p 0), .ret, [.bool false], ⟨[⟨true, (some (.tab [.fl .f32] x1))⟩, ⟨true, (some (.tab [.fl .f32] x2))⟩], 2, []⟩), ((Nat.beq p 1), .exit 0, [anyV], ⟨[⟨true, (some (.tab [.fl .f32] x1))⟩, ⟨true, (some (.tab [.fl .f32] x2))⟩], 2, []⟩)].map fun (b, x) => (b, (x.1, frameOf 29 [4] x.2.1, x.2.2))) some
theorem v31l0b (x0 : Int) (x1 x2 : List (List Int)) (p : Nat) : u31l0b x0 x1 x2 p = a31l0b x0 x1 x2 p := alts_first _
noncomputable def q31l0b (m : Nat) : SumK := fun vals s =>
 match vals, s.h with
 | [.iface f0 .nilIface, .iface f1 .nilIface, .int .i64 x0], [⟨true, some (.tab [.fl .f32] x1)⟩, ⟨true, some (.tab [.fl .f32] x2)⟩] => if f0 = 0 ∧ f1 = 1 then [((Nat.beq (r31l0b m x0 x1 x2) 0), .ret, [.bool false], ⟨[⟨true, (some (.tab [.fl .f32] x1))⟩, ⟨true, (some (.tab [.fl .f32] x2))⟩], 2, []⟩), ((Nat.beq (r31l0b m x0 x1 x2) 1), .exit 0, [anyV], ⟨[⟨true, (some (.tab [.fl .f32] x1))⟩, ⟨true, (some (.tab [.fl .f32] x2))⟩], 2, []⟩)] else Q31l0 vals s
 | _, _ => Q31l0 vals s
noncomputable def w31l0b (ih : Int → List (List Int) → List (List Int) → Nat) (x0 : Int) (x1 x2 : List (List Int)) : Option (Fin' × List Value × St) :=
 let c57 := (r27 (widen (Int.toNat ((x1.getD (Int.toNat x0) []).getD 0 0))) (widen (Int.toNat ((x2.getD (Int.toNat x0) []).getD 0 0))))
 (cond (decide ((x0 : Int) < ((x1.length : Nat) : Int)))
 (cond ((decide ((0 : Int) ≤ x0)) && (Nat.blt (Int.toNat x0) x1.length))
  (cond (Nat.blt (Int.toNat x0) x1.length)
   (cond ((decide ((0 : Int) ≤ x0)) && (Nat.blt (Int.toNat x0) x2.length))
    (cond (Nat.blt (Int.toNat x0) x2.length)
     (cond (!c57)
      (a31l0b x0 x1 x2 (0))
      (u31l0b x0 x1 x2 (ih (IntKind.i64.wrap (x0 + 1)) x1 x2)))
     none)
    none)
   none)
  none)
 (a31l0b x0 x1 x2 (1)))
set_option maxRecDepth 100000 in
set_option maxHeartbeats 4000000 in
theorem e31l0b (m : Nat) (x0 : Int) (x1 x2 : List (List Int)) : evC Try.prog ext T42 L31_1 200 (loopN Try.f31 0) (loopTail ([0, 1, 5], []) [4] [] (sumK 29 [0, 1, 5] [4] (q31l0b m))) (frameOf 29 [0, 1, 5] [wsl 0, wsl 1, .int .i64 x0]) ⟨[⟨true, (some (.tab [.fl .f32] x1))⟩, ⟨true, (some (.tab [.fl .f32] x2))⟩], 2, []⟩ = firstT ([((Nat.beq (r31l0b (m + 1) x0 x1 x2) 0), .ret, [.bool false], ⟨[⟨true, (some (.tab [.fl .f32] x1))⟩, ⟨true, (some (.tab [.fl .f32] x2))⟩], 2, []⟩), ((Nat.beq (r31l0b (m + 1) x0 x1 x2) 1), .exit 0, [anyV], ⟨[⟨true, (some (.tab [.fl .f32] x1))⟩, ⟨true, (some (.tab [.fl .f32] x2))⟩], 2, []⟩)].map fun (b, x) => (b, (x.1, frameOf 29 [4] x.2.1, x.2.2))) :=
 (show evC Try.prog ext T42 L31_1 200 (loopN Try.f31 0) (loopTail ([0, 1, 5], []) [4] [] (sumK 29 [0, 1, 5] [4] (q31l0b m))) (frameOf 29 [0, 1, 5] [wsl 0, wsl 1, .int .i64 x0]) ⟨[⟨true, (some (.tab [.fl .f32] x1))⟩, ⟨true, (some (.tab [.fl .f32] x2))⟩], 2, []⟩ = w31l0b (r31l0b m) x0 x1 x2 from by kernel_rfl).trans
 (show w31l0b (r31l0b m) x0 x1 x2 = a31l0b x0 x1 x2 (r31l0b (m + 1) x0 x1 x2) from by unfold w31l0b; show _ = a31l0b x0 x1 x2 (b31l0b (r31l0b m) x0 x1 x2); unfold b31l0b; exact (cond_both (a31l0b x0 x1 x2) _ (fun h0 => (cond_both (a31l0b x0 x1 x2) _ (fun h1 => (cond_t (ev_and2 h1) (cond_both (a31l0b x0 x1 x2) _ (fun h2 => (cond_t (ev_and2 h2) (cond_app (a31l0b x0 x1 x2) _ rfl (v31l0b x0 x1 x2 ((r31l0b m) (IntKind.i64.wrap (x0 + 1)) x1 x2))))) (fun h2 => rfl)))) (fun h1 => rfl))) (fun h0 => rfl)))
set_option maxRecDepth 100000 in
set_option maxHeartbeats 4000000 in
theorem qm31l0b : ∀ m, SumKOk Try.prog (loopN Try.f31 0) 29 [0, 1, 5] [4] (q31l0b m) := by
  intro m
  induction m with
  | zero =>
    intro vals s x h1 h2 h3
    unfold q31l0b at h3; split at h3
    · rename_i h; split at h3
      · rename_i hc; obtain ⟨rfl, rfl⟩ := hc; exact absurd h3 (by simp [r31l0b, firstT, Nat.beq])
      · exact qok31l0 _ _ _ h1 h2 h3
    · exact qok31l0 _ _ _ h1 h2 h3
  | succ m ih =>
    intro vals s x h1 h2 h3
    unfold q31l0b at h3; split at h3
    · rename_i h; split at h3
      · rename_i hc; obtain ⟨rfl, rfl⟩ := hc; exact sum_step ok42 extOk mixed (lok31_1.inner (by kernel_rfl)) ih h1 h2 h (e31l0b m _ _ _) rfl h3
      · exact qok31l0 _ _ _ h1 h2 h3
    · exact qok31l0 _ _ _ h1 h2 h3
noncomputable def Q31l0b : SumK := fun vals s => q31l0b (fuelOf vals s.h) vals s
theorem qok31l0b : SumKOk Try.prog (loopN Try.f31 0) 29 [0, 1, 5] [4] Q31l0b := fuel_ok qm31l0b fuelOf
noncomputable def L31_2 : LoopT := addL L31_1 5 ([0, 1, 5], []) (sumK 29 [0, 1, 5] [4] Q31l0b)
theorem lok31_2 : LfOkF Try.prog L31_2 Try.f31 := lfOkF_add lok31_1 qok31l0b (by kernel_rfl) (by kernel_rfl) (by kernel_rfl)

/-- laws.eqFloat32S -/
noncomputable def r31b (x0 x1 : List (List Int)) : Nat × Bool :=
 cond ((((x0.length : Nat) : Int) : Int) != ((x1.length : Nat) : Int))
  (0, false)
  (cond (Nat.beq (r31l0b (1000 + x1.length + x0.length) 0 x0 x1) 0)
   (0, false)
   (cond (Nat.beq (r31l0b (1000 + x1.length + x0.length) 0 x0 x1) 1)
    (0, true)
    (1, false)))
noncomputable def a31b (x0 x1 : List (List Int)) (p : Nat × Bool) : Res := firstT [((Nat.beq (p.1) 0), .bool (p.2), ⟨[⟨true, (some (.tab [.fl .f32] x0))⟩, ⟨true, (some (.tab [.fl .f32] x1))⟩], 2, []⟩)]
noncomputable def w31b (x0 x1 : List (List Int)) : Res :=
 (cond ((((x0.length : Nat) : Int) : Int) != ((x1.length : Nat) : Int))
 (a31b x0 x1 (0, false))
 (cond (Nat.beq (r31l0b (1000 + x1.length + x0.length) 0 x0 x1) 0)
  (a31b x0 x1 (0, false))
  (cond (Nat.beq (r31l0b (1000 + x1.length + x0.length) 0 x0 x1) 1)
   (a31b x0 x1 (0, true))
   none)))
set_option maxRecDepth 100000 in
set_option maxHeartbeats 4000000 in
theorem e31b (x0 x1 : List (List Int)) : evFn Try.prog ext T42 L31_2 200 Try.f31 [wsl 0, wsl 1] ⟨[⟨true, (some (.tab [.fl .f32] x0))⟩, ⟨true, (some (.tab [.fl .f32] x1))⟩], 2, []⟩ = firstT [((Nat.beq ((r31b x0 x1).1) 0), .bool ((r31b x0 x1).2), ⟨[⟨true, (some (.tab [.fl .f32] x0))⟩, ⟨true, (some (.tab [.fl .f32] x1))⟩], 2, []⟩)] :=
 (show evFn Try.prog ext T42 L31_2 200 Try.f31 [wsl 0, wsl 1] ⟨[⟨true, (some (.tab [.fl .f32] x0))⟩, ⟨true, (some (.tab [.fl .f32] x1))⟩], 2, []⟩ = w31b x0 x1 from by kernel_rfl).trans
 (show w31b x0 x1 = a31b x0 x1 (r31b x0 x1) from by unfold w31b r31b; exact (cond_app (a31b x0 x1) _ rfl (cond_app (a31b x0 x1) _ rfl (cond_app (a31b x0 x1) _ rfl rfl))))
noncomputable def s31b (args : List Value) (s : St) : List (Bool × Value × St) :=
 match args, s.h with
 | [.iface f0 .nilIface, .iface f1 .nilIface], [⟨true, some (.tab [.fl .f32] x0)⟩, ⟨true, some (.tab [.fl .f32] x1)⟩] => if f0 = 0 ∧ f1 = 1 then [((Nat.beq ((r31b x0 x1).1) 0), .bool ((r31b x0 x1).2), ⟨[⟨true, (some (.tab [.fl .f32] x0))⟩, ⟨true, (some (.tab [.fl .f32] x1))⟩], 2, []⟩)] else T42 31 args s
 | _, _ => T42 31 args s
noncomputable def T43 : CallF := addF T42 31 s31b
set_option maxRecDepth 100000 in
set_option maxHeartbeats 4000000 in
theorem ok43 : CfOk Try.prog T43 := by
  refine cfOk_add ok42 fun args s r s' h1 h2 h3 => ?_
  unfold s31b at h3; split at h3
  · rename_i h; split at h3
    · rename_i hc; obtain ⟨rfl, rfl⟩ := hc; exact callOk ok42 Try.func31 h1 h2 h lok31_2.body (e31b _ _) rfl h3
    · exact ok42 _ _ _ _ _ h1 h2 h3
  · exact ok42 _ _ _ _ _ h1 h2 h3

/-- laws.eqFloat32A4 -/
noncomputable def r128 (x0 x1 x2 x3 x4 x5 x6 x7 : Nat) : Bool :=
 cond (!(r27 (widen x0) (widen x4)))
  (false)
  (cond (!(r27 (widen x1) (widen x5)))
   (false)
   (cond (!(r27 (widen x2) (widen x6)))
    (false)
    (cond (!(r27 (widen x3) (widen x7)))
     (false)
     (true))))
noncomputable def a128 (x0 x1 x2 x3 x4 x5 x6 x7 : Nat) (p : Bool) : Res := firstT [(true, .bool p, st0)]
noncomputable def w128 (x0 x1 x2 x3 x4 x5 x6 x7 : Nat) : Res :=
 (cond (!(r27 (widen x0) (widen x4)))
 (a128 x0 x1 x2 x3 x4 x5 x6 x7 (false))
 (cond (!(r27 (widen x1) (widen x5)))
  (a128 x0 x1 x2 x3 x4 x5 x6 x7 (false))
  (cond (!(r27 (widen x2) (widen x6)))
   (a128 x0 x1 x2 x3 x4 x5 x6 x7 (false))
   (cond (!(r27 (widen x3) (widen x7)))
    (a128 x0 x1 x2 x3 x4 x5 x6 x7 (false))
    (a128 x0 x1 x2 x3 x4 x5 x6 x7 (true))))))
set_option maxRecDepth 100000 in
set_option maxHeartbeats 4000000 in
theorem e128 (x0 x1 x2 x3 x4 x5 x6 x7 : Nat) : evFn Try.prog ext T43 noL 200 Try.f128 [.agg #[.float .f32 x0, .float .f32 x1, .float .f32 x2, .float .f32 x3], .agg #[.float .f32 x4, .float .f32 x5, .float .f32 x6, .float .f32 x7]] st0 = firstT [(true, .bool (r128 x0 x1 x2 x3 x4 x5 x6 x7), st0)] :=
 (show evFn Try.prog ext T43 noL 200 Try.f128 [.agg #[.float .f32 x0, .float .f32 x1, .float .f32 x2, .float .f32 x3], .agg #[.float .f32 x4, .float .f32 x5, .float .f32 x6, .float .f32 x7]] st0 = w128 x0 x1 x2 x3 x4 x5 x6 x7 from by kernel_rfl).trans
 (show w128 x0 x1 x2 x3 x4 x5 x6 x7 = a128 x0 x1 x2 x3 x4 x5 x6 x7 (r128 x0 x1 x2 x3 x4 x5 x6 x7) from by unfold w128 r128; exact (cond_app (a128 x0 x1 x2 x3 x4 x5 x6 x7) _ rfl (cond_app (a128 x0 x1 x2 x3 x4 x5 x6 x7) _ rfl (cond_app (a128 x0 x1 x2 x3 x4 x5 x6 x7) _ rfl (cond_app (a128 x0 x1 x2 x3 x4 x5 x6 x7) _ rfl rfl)))))
noncomputable def s128 (args : List Value) (s : St) : List (Bool × Value × St) :=
 match args, s.h with
 | [.agg ⟨[.float .f32 x0, .float .f32 x1, .float .f32 x2, .float .f32 x3]⟩, .agg ⟨[.float .f32 x4, .float .f32 x5, .float .f32 x6, .float .f32 x7]⟩], [] => [(true, .bool (r128 x0 x1 x2 x3 x4 x5 x6 x7), st0)]
 | _, _ => T43 128 args s
noncomputable def T44 : CallF := addF T43 128 s128
set_option maxRecDepth 100000 in
set_option maxHeartbeats 4000000 in
theorem ok44 : CfOk Try.prog T44 := by
  refine cfOk_add ok43 fun args s r s' h1 h2 h3 => ?_
  unfold s128 at h3; split at h3
  · rename_i h; exact callOk ok43 Try.func128 h1 h2 h (lfOkF_no _ _).body (e128 _ _ _ _ _ _ _ _) rfl h3
  · exact ok43 _ _ _ _ _ h1 h2 h3

/-- laws.eqWall -/
noncomputable def r120 (x0 x1 : Int) (x2 x3 x4 x5 x6 x7 : Nat) (x8 x9 : Int) (x10 x11 x12 x13 x14 x15 : Nat) : Bool :=
 cond ((x0 : Int) != x8)
  (false)
  (cond ((x1 : Int) != x9)
   (false)
   (cond (!(r27 (widen x2) (widen x10)))
    (false)
    (cond (!(r27 (widen x3) (widen x11)))
     (false)
     (cond (!(r128 x4 x5 x6 x7 x12 x13 x14 x15))
      (false)
      (true)))))
noncomputable def a120 (x0 x1 : Int) (x2 x3 x4 x5 x6 x7 : Nat) (x8 x9 : Int) (x10 x11 x12 x13 x14 x15 : Nat) (p : Bool) : Res := firstT [(true, .bool p, st0)]
noncomputable def w120 (x0 x1 : Int) (x2 x3 x4 x5 x6 x7 : Nat) (x8 x9 : Int) (x10 x11 x12 x13 x14 x15 : Nat) : Res :=
 (cond ((x0 : Int) != x8)
 (a120 x0 x1 x2 x3 x4 x5 x6 x7 x8 x9 x10 x11 x12 x13 x14 x15 (false))
 (cond ((x1 : Int) != x9)
  (a120 x0 x1 x2 x3 x4 x5 x6 x7 x8 x9 x10 x11 x12 x13 x14 x15 (false))
  (cond (!(r27 (widen x2) (widen x10)))
   (a120 x0 x1 x2 x3 x4 x5 x6 x7 x8 x9 x10 x11 x12 x13 x14 x15 (false))
   (cond (!(r27 (widen x3) (widen x11)))
    (a120 x0 x1 x2 x3 x4 x5 x6 x7 x8 x9 x10 x11 x12 x13 x14 x15 (false))
    (cond (!(r128 x4 x5 x6 x7 x12 x13 x14 x15))
     (a120 x0 x1 x2 x3 x4 x5 x6 x7 x8 x9 x10 x11 x12 x13 x14 x15 (false))
     (a120 x0 x1 x2 x3 x4 x5 x6 x7 x8 x9 x10 x11 x12 x13 x14 x15 (true)))))))
set_option maxRecDepth 100000 in
set_option maxHeartbeats 4000000 in
theorem e120 (x0 x1 : Int) (x2 x3 x4 x5 x6 x7 : Nat) (x8 x9 : Int) (x10 x11 x12 x13 x14 x15 : Nat) : evFn Try.prog ext T44 noL 200 Try.f120 [.agg #[.int .i64 x0, .int .i64 x1, .float .f32 x2, .float .f32 x3, .float .f32 x4, .float .f32 x5, .float .f32 x6, .float .f32 x7], .agg #[.int .i64 x8, .int .i64 x9, .float .f32 x10, .float .f32 x11, .float .f32 x12, .float .f32 x13, .float .f32 x14, .float .f32 x15]] st0 = firstT [(true, .bool (r120 x0 x1 x2 x3 x4 x5 x6 x7 x8 x9 x10 x11 x12 x13 x14 x15), st0)] :=
 (show evFn Try.prog ext T44 noL 200 Try.f120 [.agg #[.int .i64 x0, .int .i64 x1, .float .f32 x2, .float .f32 x3, .float .f32 x4, .float .f32 x5, .float .f32 x6, .float .f32 x7], .agg #[.int .i64 x8, .int .i64 x9, .float .f32 x10, .float .f32 x11, .float .f32 x12, .float .f32 x13, .float .f32 x14, .float .f32 x15]] st0 = w120 x0 x1 x2 x3 x4 x5 x6 x7 x8 x9 x10 x11 x12 x13 x14 x15 from by kernel_rfl).trans
 (show w120 x0 x1 x2 x3 x4 x5 x6 x7 x8 x9 x10 x11 x12 x13 x14 x15 = a120 x0 x1 x2 x3 x4 x5 x6 x7 x8 x9 x10 x11 x12 x13 x14 x15 (r120 x0 x1 x2 x3 x4 x5 x6 x7 x8 x9 x10 x11 x12 x13 x14 x15) from by unfold w120 r120; exact (cond_app (a120 x0 x1 x2 x3 x4 x5 x6 x7 x8 x9 x10 x11 x12 x13 x14 x15) _ rfl (cond_app (a120 x0 x1 x2 x3 x4 x5 x6 x7 x8 x9 x10 x11 x12 x13 x14 x15) _ rfl (cond_app (a120 x0 x1 x2 x3 x4 x5 x6 x7 x8 x9 x10 x11 x12 x13 x14 x15) _ rfl (cond_app (a120 x0 x1 x2 x3 x4 x5 x6 x7 x8 x9 x10 x11 x12 x13 x14 x15) _ rfl (cond_app (a120 x0 x1 x2 x3 x4 x5 x6 x7 x8 x9 x10 x11 x12 x13 x14 x15) _ rfl rfl))))))
noncomputable def s120 (args : List Value) (s : St) : List (Bool × Value × St) :=
 match args, s.h with
 | [.agg ⟨[.int .i64 x0, .int .i64 x1, .float .f32 x2, .float .f32 x3, .float .f32 x4, .float .f32 x5, .float .f32 x6, .float .f32 x7]⟩, .agg ⟨[.int .i64 x8, .int .i64 x9, .float .f32 x10, .float .f32 x11, .float .f32 x12, .float .f32 x13, .float .f32 x14, .float .f32 x15]⟩], [] => [(true, .bool (r120 x0 x1 x2 x3 x4 x5 x6 x7 x8 x9 x10 x11 x12 x13 x14 x15), st0)]
 | _, _ => T44 120 args s
noncomputable def T45 : CallF := addF T44 120 s120
set_option maxRecDepth 100000 in
set_option maxHeartbeats 4000000 in
theorem ok45 : CfOk Try.prog T45 := by
  refine cfOk_add ok44 fun args s r s' h1 h2 h3 => ?_
  unfold s120 at h3; split at h3
  · rename_i h; exact callOk ok44 Try.func120 h1 h2 h (lfOkF_no _ _).body (e120 _ _ _ _ _ _ _ _ _ _ _ _ _ _ _ _) rfl h3
  · exact ok44 _ _ _ _ _ h1 h2 h3

/-- laws.eqWallS, loop 0: one round -/
noncomputable def b81l0b (ih : Int → List (List Int) → List (List Int) → Nat) (x0 : Int) (x1 x2 : List (List Int)) : Nat :=
 let c74 := (r120 ((x1.getD (Int.toNat x0) []).getD 0 0) ((x1.getD (Int.toNat x0) []).getD 1 0) (Int.toNat ((x1.getD (Int.toNat x0) []).getD 2 0)) (Int.toNat ((x1.getD (Int.toNat x0) []).getD 3 0)) (Int.toNat ((x1.getD (Int.toNat x0) []).getD 4 0)) (Int.toNat ((x1.getD (Int.toNat x0) []).getD 5 0)) (Int.toNat ((x1.getD (Int.toNat x0) []).getD 6 0)) (Int.toNat ((x1.getD (Int.toNat x0) []).getD 7 0)) ((x2.getD (Int.toNat x0) []).getD 0 0) ((x2.getD (Int.toNat x0) []).getD 1 0) (Int.toNat ((x2.getD (Int.toNat x0) []).getD 2 0)) (Int.toNat ((x2.getD (Int.toNat x0) []).getD 3 0)) (Int.toNat ((x2.getD (Int.toNat x0) []).getD 4 0)) (Int.toNat ((x2.getD (Int.toNat x0) []).getD 5 0)) (Int.toNat ((x2.getD (Int.toNat x0) []).getD 6 0)) (Int.toNat ((x2.getD (Int.toNat x0) []).getD 7 0)))
 cond (decide ((x0 : Int) < ((x1.length : Nat) : Int)))
  (cond ((decide ((0 : Int) ≤ x0)) && (Nat.blt (Int.toNat x0) x1.length))
   (cond ((decide ((0 : Int) ≤ x0)) && (Nat.blt (Int.toNat x0) x2.length))
    (cond (!c74)
     (0)
     (ih (IntKind.i64.wrap (x0 + 1)) x1 x2))
    (2))
   (2))
  (1)
noncomputable def r81l0b : Nat → Int → List (List Int) → List (List Int) → Nat
 | 0 => fun _ _ _ => (2)
 | m + 1 => b81l0b (r81l0b m)
noncomputable def a81l0b (x0 : Int) (x1 x2 : List (List Int)) (p : Nat) : Option (Fin' × List Value × St) := firstT ([((Nat.beq p 0), .ret, [.bool false], ⟨[⟨true, (some (.tab sc0 x1))⟩, ⟨true, (some (.tab sc0 x2))⟩], 2, []⟩), ((Nat.beq p 1), .exit 0, [anyV], ⟨[⟨true, (some (.tab sc0 x1))⟩, ⟨true, (some (.tab sc0 x2))⟩], 2, []⟩)].map fun (b, x) => (b, (x.1, frameOf 27 [4] x.2.1, x.2.2)))
noncomputable def u81l0b (x0 : Int) (x1 x2 : List (List Int)) (p : Nat) : Option (Fin' × List Value × St) := alts ([((Nat.beq p 0), .ret, [.bool false], ⟨[⟨true, (some (.tab sc0 x1))⟩, ⟨true, (some (.tab sc0 x2))⟩], 2, []⟩), ((Nat.beq p 1), .exit 0, [anyV], ⟨[⟨true, (some (.tab sc0 x1))⟩, ⟨true, (some (.tab sc0 x2))⟩], 2, []⟩)].map fun (b, x) => (b, (x.1, frameOf 27 [4] x.2.1, x.2.2))) some
theorem v81l0b (x0 : Int) (x1 x2 : List (List Int)) (p : Nat) : u81l0b x0 x1 x2 p = a81l0b x0 x1 x2 p := alts_first _
noncomputable def q81l0b (m : Nat) : SumK := fun vals s =>
 match vals, s.h with
 | [.iface f0 .nilIface, .iface f1 .nilIface, .int .i64 x0], [⟨true, some (.tab [.int .i64, .int .i64, .fl .f32, .fl .f32, .fl .f32, .fl .f32, .fl .f32, .fl .f32] x1)⟩, ⟨true, some (.tab [.int .i64, .int .i64, .fl .f32, .fl .f32, .fl .f32, .fl .f32, .fl .f32, .fl .f32] x2)⟩] => if f0 = 0 ∧ f1 = 1 then [((Nat.beq (r81l0b m x0 x1 x2) 0), .ret, [.bool false], ⟨[⟨true, (some (.tab sc0 x1))⟩, ⟨true, (some (.tab sc0 x2))⟩], 2, []⟩), ((Nat.beq (r81l0b m x0 x1 x2) 1), .exit 0, [anyV], ⟨[⟨true, (some (.tab sc0 x1))⟩, ⟨true, (some (.tab sc0 x2))⟩], 2, []⟩)] else Q81l0 vals s
 | _, _ => Q81l0 vals s
noncomputable def w81l0b (ih : Int → List (List Int) → List (List Int) → Nat) (x0 : Int) (x1 x2 : List (List Int)) : Option (Fin' × List Value × St) :=
 let c74 := (r120 ((x1.getD (Int.toNat x0) []).getD 0 0) ((x1.getD (Int.toNat x0) []).getD 1 0) (Int.toNat ((x1.getD (Int.toNat x0) []).getD 2 0)) (Int.toNat ((x1.getD (Int.toNat x0) []).getD 3 0)) (Int.toNat ((x1.getD (Int.toNat x0) []).getD 4 0)) (Int.toNat ((x1.getD (Int.toNat x0) []).getD 5 0)) (Int.toNat ((x1.getD (Int.toNat x0) []).getD 6 0)) (Int.toNat ((x1.getD (Int.toNat x0) []).getD 7 0)) ((x2.getD (Int.toNat x0) []).getD 0 0) ((x2.getD (Int.toNat x0) []).getD 1 0) (Int.toNat ((x2.getD (Int.toNat x0) []).getD 2 0)) (Int.toNat ((x2.getD (Int.toNat x0) []).getD 3 0)) (Int.toNat ((x2.getD (Int.toNat x0) []).getD 4 0)) (Int.toNat ((x2.getD (Int.toNat x0) []).getD 5 0)) (Int.toNat ((x2.getD (Int.toNat x0) []).getD 6 0)) (Int.toNat ((x2.getD (Int.toNat x0) []).getD 7 0)))
 (cond (decide ((x0 : Int) < ((x1.length : Nat) : Int)))
 (cond ((decide ((0 : Int) ≤ x0)) && (Nat.blt (Int.toNat x0) x1.length))
  (cond (Nat.blt (Int.toNat x0) x1.length)
   (cond ((decide ((0 : Int) ≤ x0)) && (Nat.blt (Int.toNat x0) x2.length))
    (cond (Nat.blt (Int.toNat x0) x2.length)
     (cond (!c74)
      (a81l0b x0 x1 x2 (0))
      (u81l0b x0 x1 x2 (ih (IntKind.i64.wrap (x0 + 1)) x1 x2)))
     none)
    none)
   none)
  none)
 (a81l0b x0 x1 x2 (1)))
set_option maxRecDepth 100000 in
set_option maxHeartbeats 4000000 in
theorem e81l0b (m : Nat) (x0 : Int) (x1 x2 : List (List Int)) : evC Try.prog ext T45 L81_1 200 (loopN Try.f81 0) (loopTail ([0, 1, 5], []) [4] [] (sumK 27 [0, 1, 5] [4] (q81l0b m))) (frameOf 27 [0, 1, 5] [wsl 0, wsl 1, .int .i64 x0]) ⟨[⟨true, (some (.tab sc0 x1))⟩, ⟨true, (some (.tab sc0 x2))⟩], 2, []⟩ = firstT ([((Nat.beq (r81l0b (m + 1) x0 x1 x2) 0), .ret, [.bool false], ⟨[⟨true, (some (.tab sc0 x1))⟩, ⟨true, (some (.tab sc0 x2))⟩], 2, []⟩), ((Nat.beq (r81l0b (m + 1) x0 x1 x2) 1), .exit 0, [anyV], ⟨[⟨true, (some (.tab sc0 x1))⟩, ⟨true, (some (.tab sc0 x2))⟩], 2, []⟩)].map fun (b, x) => (b, (x.1, frameOf 27 [4] x.2.1, x.2.2))) :=
 (show evC Try.prog ext T45 L81_1 200 (loopN Try.f81 0) (loopTail ([0, 1, 5], []) [4] [] (sumK 27 [0, 1, 5] [4] (q81l0b m))) (frameOf 27 [0, 1, 5] [wsl 0, wsl 1, .int .i64 x0]) ⟨[⟨true, (some (.tab sc0 x1))⟩, ⟨true, (some (.tab sc0 x2))⟩], 2, []⟩ = w81l0b (r81l0b m) x0 x1 x2 from by kernel_rfl).trans
 (show w81l0b (r81l0b m) x0 x1 x2 = a81l0b x0 x1 x2 (r81l0b (m + 1) x0 x1 x2) from by unfold w81l0b; show _ = a81l0b x0 x1 x2 (b81l0b (r81l0b m) x0 x1 x2); unfold b81l0b; exact (cond_both (a81l0b x0 x1 x2) _ (fun h0 => (cond_both (a81l0b x0 x1 x2) _ (fun h1 => (cond_t (ev_and2 h1) (cond_both (a81l0b x0 x1 x2) _ (fun h2 => (cond_t (ev_and2 h2) (cond_app (a81l0b x0 x1 x2) _ rfl (v81l0b x0 x1 x2 ((r81l0b m) (IntKind.i64.wrap (x0 + 1)) x1 x2))))) (fun h2 => rfl)))) (fun h1 => rfl))) (fun h0 => rfl)))
set_option maxRecDepth 100000 in
set_option maxHeartbeats 4000000 in
theorem qm81l0b : ∀ m, SumKOk Try.prog (loopN Try.f81 0) 27 [0, 1, 5] [4] (q81l0b m) := by
  intro m
  induction m with
  | zero =>
    intro vals s x h1 h2 h3
    unfold q81l0b at h3; split at h3
    · rename_i h; split at h3
      · rename_i hc; obtain ⟨rfl, rfl⟩ := hc; exact absurd h3 (by simp [r81l0b, firstT, Nat.beq])
      · exact qok81l0 _ _ _ h1 h2 h3
    · exact qok81l0 _ _ _ h1 h2 h3
  | succ m ih =>
    intro vals s x h1 h2 h3
    unfold q81l0b at h3; split at h3
    · rename_i h; split at h3
      · rename_i hc; obtain ⟨rfl, rfl⟩ := hc; exact sum_step ok45 extOk mixed (lok81_1.inner (by kernel_rfl)) ih h1 h2 h (e81l0b m _ _ _) rfl h3
      · exact qok81l0 _ _ _ h1 h2 h3
    · exact qok81l0 _ _ _ h1 h2 h3
noncomputable def Q81l0b : SumK := fun vals s => q81l0b (fuelOf vals s.h) vals s
theorem qok81l0b : SumKOk Try.prog (loopN Try.f81 0) 27 [0, 1, 5] [4] Q81l0b := fuel_ok qm81l0b fuelOf
noncomputable def L81_2 : LoopT := addL L81_1 5 ([0, 1, 5], []) (sumK 27 [0, 1, 5] [4] Q81l0b)
theorem lok81_2 : LfOkF Try.prog L81_2 Try.f81 := lfOkF_add lok81_1 qok81l0b (by kernel_rfl) (by kernel_rfl) (by kernel_rfl)

/-- laws.eqWallS -/
noncomputable def r81b (x0 x1 : List (List Int)) : Nat × Bool :=
 cond ((((x0.length : Nat) : Int) : Int) != ((x1.length : Nat) : Int))
  (0, false)
  (cond (Nat.beq (r81l0b (1000 + x1.length + x0.length) 0 x0 x1) 0)
   (0, false)
   (cond (Nat.beq (r81l0b (1000 + x1.length + x0.length) 0 x0 x1) 1)
    (0, true)
    (1, false)))
noncomputable def a81b (x0 x1 : List (List Int)) (p : Nat × Bool) : Res := firstT [((Nat.beq (p.1) 0), .bool (p.2), ⟨[⟨true, (some (.tab sc0 x0))⟩, ⟨true, (some (.tab sc0 x1))⟩], 2, []⟩)]
noncomputable def w81b (x0 x1 : List (List Int)) : Res :=
 (cond ((((x0.length : Nat) : Int) : Int) != ((x1.length : Nat) : Int))
 (a81b x0 x1 (0, false))
 (cond (Nat.beq (r81l0b (1000 + x1.length + x0.length) 0 x0 x1) 0)
  (a81b x0 x1 (0, false))
  (cond (Nat.beq (r81l0b (1000 + x1.length + x0.length) 0 x0 x1) 1)
   (a81b x0 x1 (0, true))
   none)))
set_option maxRecDepth 100000 in
set_option maxHeartbeats 4000000 in
theorem e81b (x0 x1 : List (List Int)) : evFn Try.prog ext T45 L81_2 200 Try.f81 [wsl 0, wsl 1] ⟨[⟨true, (some (.tab sc0 x0))⟩, ⟨true, (some (.tab sc0 x1))⟩], 2, []⟩ = firstT [((Nat.beq ((r81b x0 x1).1) 0), .bool ((r81b x0 x1).2), ⟨[⟨true, (some (.tab sc0 x0))⟩, ⟨true, (some (.tab sc0 x1))⟩], 2, []⟩)] :=
 (show evFn Try.prog ext T45 L81_2 200 Try.f81 [wsl 0, wsl 1] ⟨[⟨true, (some (.tab sc0 x0))⟩, ⟨true, (some (.tab sc0 x1))⟩], 2, []⟩ = w81b x0 x1 from by kernel_rfl).trans
 (show w81b x0 x1 = a81b x0 x1 (r81b x0 x1) from by unfold w81b r81b; exact (cond_app (a81b x0 x1) _ rfl (cond_app (a81b x0 x1) _ rfl (cond_app (a81b x0 x1) _ rfl rfl))))
noncomputable def s81b (args : List Value) (s : St) : List (Bool × Value × St) :=
 match args, s.h with
 | [.iface f0 .nilIface, .iface f1 .nilIface], [⟨true, some (.tab [.int .i64, .int .i64, .fl .f32, .fl .f32, .fl .f32, .fl .f32, .fl .f32, .fl .f32] x0)⟩, ⟨true, some (.tab [.int .i64, .int .i64, .fl .f32, .fl .f32, .fl .f32, .fl .f32, .fl .f32, .fl .f32] x1)⟩] => if f0 = 0 ∧ f1 = 1 then [((Nat.beq ((r81b x0 x1).1) 0), .bool ((r81b x0 x1).2), ⟨[⟨true, (some (.tab sc0 x0))⟩, ⟨true, (some (.tab sc0 x1))⟩], 2, []⟩)] else T45 81 args s
 | _, _ => T45 81 args s
noncomputable def T46 : CallF := addF T45 81 s81b
set_option maxRecDepth 100000 in
set_option maxHeartbeats 4000000 in
theorem ok46 : CfOk Try.prog T46 := by
  refine cfOk_add ok45 fun args s r s' h1 h2 h3 => ?_
  unfold s81b at h3; split at h3
  · rename_i h; split at h3
    · rename_i hc; obtain ⟨rfl, rfl⟩ := hc; exact callOk ok45 Try.func81 h1 h2 h lok81_2.body (e81b _ _) rfl h3
    · exact ok45 _ _ _ _ _ h1 h2 h3
  · exact ok45 _ _ _ _ _ h1 h2 h3

/-- laws.eqPane -/
noncomputable def r121 (x0 x1 : Int) (x2 x3 : Nat) (x4 x5 : Int) (x6 x7 : Nat) : Bool :=
 cond ((x0 : Int) != x4)
  (false)
  (cond ((x1 : Int) != x5)
   (false)
   (cond (!(r27 (widen x2) (widen x6)))
    (false)
    (cond (!(r27 (widen x3) (widen x7)))
     (false)
     (true))))
noncomputable def a121 (x0 x1 : Int) (x2 x3 : Nat) (x4 x5 : Int) (x6 x7 : Nat) (p : Bool) : Res := firstT [(true, .bool p, st0)]
noncomputable def w121 (x0 x1 : Int) (x2 x3 : Nat) (x4 x5 : Int) (x6 x7 : Nat) : Res :=
 (cond ((x0 : Int) != x4)
 (a121 x0 x1 x2 x3 x4 x5 x6 x7 (false))
 (cond ((x1 : Int) != x5)
  (a121 x0 x1 x2 x3 x4 x5 x6 x7 (false))
  (cond (!(r27 (widen x2) (widen x6)))
   (a121 x0 x1 x2 x3 x4 x5 x6 x7 (false))
   (cond (!(r27 (widen x3) (widen x7)))
    (a121 x0 x1 x2 x3 x4 x5 x6 x7 (false))
    (a121 x0 x1 x2 x3 x4 x5 x6 x7 (true))))))
set_option maxRecDepth 100000 in
set_option maxHeartbeats 4000000 in
theorem e121 (x0 x1 : Int) (x2 x3 : Nat) (x4 x5 : Int) (x6 x7 : Nat) : evFn Try.prog ext T46 noL 200 Try.f121 [.agg #[.int .i64 x0, .int .i64 x1, .float .f32 x2, .float .f32 x3], .agg #[.int .i64 x4, .int .i64 x5, .float .f32 x6, .float .f32 x7]] st0 = firstT [(true, .bool (r121 x0 x1 x2 x3 x4 x5 x6 x7), st0)] :=
 (show evFn Try.prog ext T46 noL 200 Try.f121 [.agg #[.int .i64 x0, .int .i64 x1, .float .f32 x2, .float .f32 x3], .agg #[.int .i64 x4, .int .i64 x5, .float .f32 x6, .float .f32 x7]] st0 = w121 x0 x1 x2 x3 x4 x5 x6 x7 from by kernel_rfl).trans
 (show w121 x0 x1 x2 x3 x4 x5 x6 x7 = a121 x0 x1 x2 x3 x4 x5 x6 x7 (r121 x0 x1 x2 x3 x4 x5 x6 x7) from by unfold w121 r121; exact (cond_app (a121 x0 x1 x2 x3 x4 x5 x6 x7) _ rfl (cond_app (a121 x0 x1 x2 x3 x4 x5 x6 x7) _ rfl (cond_app (a121 x0 x1 x2 x3 x4 x5 x6 x7) _ rfl (cond_app (a121 x0 x1 x2 x3 x4 x5 x6 x7) _ rfl rfl)))))
noncomputable def s121 (args : List Value) (s : St) : List (Bool × Value × St) :=
 match args, s.h with
 | [.agg ⟨[.int .i64 x0, .int .i64 x1, .float .f32 x2, .float .f32 x3]⟩, .agg ⟨[.int .i64 x4, .int .i64 x5, .float .f32 x6, .float .f32 x7]⟩], [] => [(true, .bool (r121 x0 x1 x2 x3 x4 x5 x6 x7), st0)]
 | _, _ => T46 121 args s
noncomputable def T47 : CallF := addF T46 121 s121
set_option maxRecDepth 100000 in
set_option maxHeartbeats 4000000 in
theorem ok47 : CfOk Try.prog T47 := by
  refine cfOk_add ok46 fun args s r s' h1 h2 h3 => ?_
  unfold s121 at h3; split at h3
  · rename_i h; exact callOk ok46 Try.func121 h1 h2 h (lfOkF_no _ _).body (e121 _ _ _ _ _ _ _ _) rfl h3
  · exact ok46 _ _ _ _ _ h1 h2 h3

/-- laws.eqPaneS, loop 0: one round -/
noncomputable def b82l0b (ih : Int → List (List Int) → List (List Int) → Nat) (x0 : Int) (x1 x2 : List (List Int)) : Nat :=
 let c91 := (r121 ((x1.getD (Int.toNat x0) []).getD 0 0) ((x1.getD (Int.toNat x0) []).getD 1 0) (Int.toNat ((x1.getD (Int.toNat x0) []).getD 2 0)) (Int.toNat ((x1.getD (Int.toNat x0) []).getD 3 0)) ((x2.getD (Int.toNat x0) []).getD 0 0) ((x2.getD (Int.toNat x0) []).getD 1 0) (Int.toNat ((x2.getD (Int.toNat x0) []).getD 2 0)) (Int.toNat ((x2.getD (Int.toNat x0) []).getD 3 0)))
 cond (decide ((x0 : Int) < ((x1.length : Nat) : Int)))
  (cond ((decide ((0 : Int) ≤ x0)) && (Nat.blt (Int.toNat x0) x1.length))
   (cond ((decide ((0 : Int) ≤ x0)) && (Nat.blt (Int.toNat x0) x2.length))
    (cond (!c91)
     (0)
     (ih (IntKind.i64.wrap (x0 + 1)) x1 x2))
    (2))
   (2))
  (1)
noncomputable def r82l0b : Nat → Int → List (List Int) → List (List Int) → Nat
 | 0 => fun _ _ _ => (2)
 | m + 1 => b82l0b (r82l0b m)
noncomputable def a82l0b (x0 : Int) (x1 x2 : List (List Int)) (p : Nat) : Option (Fin' × List Value × St) := firstT ([((Nat.beq p 0), .ret, [.bool false], ⟨[⟨true, (some (.tab sc1 x1))⟩, ⟨true, (some (.tab sc1 x2))⟩], 2, []⟩), ((Nat.beq p 1), .exit 0, [anyV], ⟨[⟨true, (some (.tab sc1 x1))⟩, ⟨true, (some (.tab sc1 x2))⟩], 2, []⟩)].map fun (b, x) => (b, (x.1, frameOf 27 [4] x.2.1, x.2.2)))
noncomputable def u82l0b (x0 : Int) (x1 x2 : List (List Int)) (p : Nat) : Option (Fin' × List Value × St) := alts ([((Nat.beq p 0), .ret, [.bool false], ⟨[⟨true, (some (.tab sc1 x1))⟩, ⟨true, (some (.tab sc1 x2))⟩], 2, []⟩), ((Nat.beq p 1), .exit 0, [anyV], ⟨[⟨true, (some (.tab sc1 x1))⟩, ⟨true, (some (.tab sc1 x2))⟩], 2, []⟩)].map fun (b, x) => (b, (x.1, frameOf 27 [4] x.2.1, x.2.2))) some
theorem v82l0b (x0 : Int) (x1 x2 : List (List Int)) (p : Nat) : u82l0b x0 x1 x2 p = a82l0b x0 x1 x2 p := alts_first _
noncomputable def q82l0b (m : Nat) : SumK := fun vals s =>
 match vals, s.h with
 | [.iface f0 .nilIface, .iface f1 .nilIface, .int .i64 x0], [⟨true, some (.tab [.int .i64, .int .i64, .fl .f32, .fl .f32] x1)⟩, ⟨true, some (.tab [.int .i64, .int .i64, .fl .f32, .fl .f32] x2)⟩] => if f0 = 0 ∧ f1 = 1 then [((Nat.beq (r82l0b m x0 x1 x2) 0), .ret, [.bool false], ⟨[⟨true, (some (.tab sc1 x1))⟩, ⟨true, (some (.tab sc1 x2))⟩], 2, []⟩), ((Nat.beq (r82l0b m x0 x1 x2) 1), .exit 0, [anyV], ⟨[⟨true, (some (.tab sc1 x1))⟩, ⟨true, (some (.tab sc1 x2))⟩], 2, []⟩)] else Q82l0 vals s
 | _, _ => Q82l0 vals s
noncomputable def w82l0b (ih : Int → List (List Int) → List (List Int) → Nat) (x0 : Int) (x1 x2 : List (List Int)) : Option (Fin' × List Value × St) :=
 let c91 := (r121 ((x1.getD (Int.toNat x0) []).getD 0 0) ((x1.getD (Int.toNat x0) []).getD 1 0) (Int.toNat ((x1.getD (Int.toNat x0) []).getD 2 0)) (Int.toNat ((x1.getD (Int.toNat x0) []).getD 3 0)) ((x2.getD (Int.toNat x0) []).getD 0 0) ((x2.getD (Int.toNat x0) []).getD 1 0) (Int.toNat ((x2.getD (Int.toNat x0) []).getD 2 0)) (Int.toNat ((x2.getD (Int.toNat x0) []).getD 3 0)))
 (cond (decide ((x0 : Int) < ((x1.length : Nat) : Int)))
 (cond ((decide ((0 : Int) ≤ x0)) && (Nat.blt (Int.toNat x0) x1.length))
  (cond (Nat.blt (Int.toNat x0) x1.length)
   (cond ((decide ((0 : Int) ≤ x0)) && (Nat.blt (Int.toNat x0) x2.length))
    (cond (Nat.blt (Int.toNat x0) x2.length)
     (cond (!c91)
      (a82l0b x0 x1 x2 (0))
      (u82l0b x0 x1 x2 (ih (IntKind.i64.wrap (x0 + 1)) x1 x2)))
     none)
    none)
   none)
  none)
 (a82l0b x0 x1 x2 (1)))
set_option maxRecDepth 100000 in
set_option maxHeartbeats 4000000 in
theorem e82l0b (m : Nat) (x0 : Int) (x1 x2 : List (List Int)) : evC Try.prog ext T47 L82_1 200 (loopN Try.f82 0) (loopTail ([0, 1, 5], []) [4] [] (sumK 27 [0, 1, 5] [4] (q82l0b m))) (frameOf 27 [0, 1, 5] [wsl 0, wsl 1, .int .i64 x0]) ⟨[⟨true, (some (.tab sc1 x1))⟩, ⟨true, (some (.tab sc1 x2))⟩], 2, []⟩ = firstT ([((Nat.beq (r82l0b (m + 1) x0 x1 x2) 0), .ret, [.bool false], ⟨[⟨true, (some (.tab sc1 x1))⟩, ⟨true, (some (.tab sc1 x2))⟩], 2, []⟩), ((Nat.beq (r82l0b (m + 1) x0 x1 x2) 1), .exit 0, [anyV], ⟨[⟨true, (some (.tab sc1 x1))⟩, ⟨true, (some (.tab sc1 x2))⟩], 2, []⟩)].map fun (b, x) => (b, (x.1, frameOf 27 [4] x.2.1, x.2.2))) :=
 (show evC Try.prog ext T47 L82_1 200 (loopN Try.f82 0) (loopTail ([0, 1, 5], []) [4] [] (sumK 27 [0, 1, 5] [4] (q82l0b m))) (frameOf 27 [0, 1, 5] [wsl 0, wsl 1, .int .i64 x0]) ⟨[⟨true, (some (.tab sc1 x1))⟩, ⟨true, (some (.tab sc1 x2))⟩], 2, []⟩ = w82l0b (r82l0b m) x0 x1 x2 from by kernel_rfl).trans
 (show w82l0b (r82l0b m) x0 x1 x2 = a82l0b x0 x1 x2 (r82l0b (m + 1) x0 x1 x2) from by unfold w82l0b; show _ = a82l0b x0 x1 x2 (b82l0b (r82l0b m) x0 x1 x2); unfold b82l0b; exact (cond_both (a82l0b x0 x1 x2) _ (fun h0 => (cond_both (a82l0b x0 x1 x2) _ (fun h1 => (cond_t (ev_and2 h1) (cond_both (a82l0b x0 x1 x2) _ (fun h2 => (cond_t (ev_and2 h2) (cond_app (a82l0b x0 x1 x2) _ rfl (v82l0b x0 x1 x2 ((r82l0b m) (IntKind.i64.wrap (x0 + 1)) x1 x2))))) (fun h2 => rfl)))) (fun h1 => rfl))) (fun h0 => rfl)))
set_option maxRecDepth 100000 in
set_option maxHeartbeats 4000000 in
theorem qm82l0b : ∀ m, SumKOk Try.prog (loopN Try.f82 0) 27 [0, 1, 5] [4] (q82l0b m) := by
  intro m
  induction m with
  | zero =>
    intro vals s x h1 h2 h3
    unfold q82l0b at h3; split at h3
    · rename_i h; split at h3
      · rename_i hc; obtain ⟨rfl, rfl⟩ := hc; exact absurd h3 (by simp [r82l0b, firstT, Nat.beq])
      · exact qok82l0 _ _ _ h1 h2 h3
    · exact qok82l0 _ _ _ h1 h2 h3
  | succ m ih =>
    intro vals s x h1 h2 h3
    unfold q82l0b at h3; split at h3
    · rename_i h; split at h3
      · rename_i hc; obtain ⟨rfl, rfl⟩ := hc; exact sum_step ok47 extOk mixed (lok82_1.inner (by kernel_rfl)) ih h1 h2 h (e82l0b m _ _ _) rfl h3
      · exact qok82l0 _ _ _ h1 h2 h3
    · exact qok82l0 _ _ _ h1 h2 h3
noncomputable def Q82l0b : SumK := fun vals s => q82l0b (fuelOf vals s.h) vals s
theorem qok82l0b : SumKOk Try.prog (loopN Try.f82 0) 27 [0, 1, 5] [4] Q82l0b := fuel_ok qm82l0b fuelOf
noncomputable def L82_2 : LoopT := addL L82_1 5 ([0, 1, 5], []) (sumK 27 [0, 1, 5] [4] Q82l0b)
theorem lok82_2 : LfOkF Try.prog L82_2 Try.f82 := lfOkF_add lok82_1 qok82l0b (by kernel_rfl) (by kernel_rfl) (by kernel_rfl)

/-- laws.eqPaneS -/
noncomputable def r82b (x0 x1 : List (List Int)) : Nat × Bool :=
 cond ((((x0.length : Nat) : Int) : Int) != ((x1.length : Nat) : Int))
  (0, false)
  (cond (Nat.beq (r82l0b (1000 + x1.length + x0.length) 0 x0 x1) 0)
   (0, false)
   (cond (Nat.beq (r82l0b (1000 + x1.length + x0.length) 0 x0 x1) 1)
    (0, true)
    (1, false)))
noncomputable def a82b (x0 x1 : List (List Int)) (p : Nat × Bool) : Res := firstT [((Nat.beq (p.1) 0), .bool (p.2), ⟨[⟨true, (some (.tab sc1 x0))⟩, ⟨true, (some (.tab sc1 x1))⟩], 2, []⟩)]
noncomputable def w82b (x0 x1 : List (List Int)) : Res :=
 (cond ((((x0.length : Nat) : Int) : Int) != ((x1.length : Nat) : Int))
 (a82b x0 x1 (0, false))
 (cond (Nat.beq (r82l0b (1000 + x1.length + x0.length) 0 x0 x1) 0)
  (a82b x0 x1 (0, false))
  (cond (Nat.beq (r82l0b (1000 + x1.length + x0.length) 0 x0 x1) 1)
   (a82b x0 x1 (0, true))
   none)))
set_option maxRecDepth 100000 in
set_option maxHeartbeats 4000000 in
theorem e82b (x0 x1 : List (List Int)) : evFn Try.prog ext T47 L82_2 200 Try.f82 [wsl 0, wsl 1] ⟨[⟨true, (some (.tab sc1 x0))⟩, ⟨true, (some (.tab sc1 x1))⟩], 2, []⟩ = firstT [((Nat.beq ((r82b x0 x1).1) 0), .bool ((r82b x0 x1).2), ⟨[⟨true, (some (.tab sc1 x0))⟩, ⟨true, (some (.tab sc1 x1))⟩], 2, []⟩)] :=
 (show evFn Try.prog ext T47 L82_2 200 Try.f82 [wsl 0, wsl 1] ⟨[⟨true, (some (.tab sc1 x0))⟩, ⟨true, (some (.tab sc1 x1))⟩], 2, []⟩ = w82b x0 x1 from by kernel_rfl).trans
 (show w82b x0 x1 = a82b x0 x1 (r82b x0 x1) from by unfold w82b r82b; exact (cond_app (a82b x0 x1) _ rfl (cond_app (a82b x0 x1) _ rfl (cond_app (a82b x0 x1) _ rfl rfl))))
noncomputable def s82b (args : List Value) (s : St) : List (Bool × Value × St) :=
 match args, s.h with
 | [.iface f0 .nilIface, .iface f1 .nilIface], [⟨true, some (.tab [.int .i64, .int .i64, .fl .f32, .fl .f32] x0)⟩, ⟨true, some (.tab [.int .i64, .int .i64, .fl .f32, .fl .f32] x1)⟩] => if f0 = 0 ∧ f1 = 1 then [((Nat.beq ((r82b x0 x1).1) 0), .bool ((r82b x0 x1).2), ⟨[⟨true, (some (.tab sc1 x0))⟩, ⟨true, (some (.tab sc1 x1))⟩], 2, []⟩)] else T47 82 args s
 | _, _ => T47 82 args s
noncomputable def T48 : CallF := addF T47 82 s82b
set_option maxRecDepth 100000 in
set_option maxHeartbeats 4000000 in
theorem ok48 : CfOk Try.prog T48 := by
  refine cfOk_add ok47 fun args s r s' h1 h2 h3 => ?_
  unfold s82b at h3; split at h3
  · rename_i h; split at h3
    · rename_i hc; obtain ⟨rfl, rfl⟩ := hc; exact callOk ok47 Try.func82 h1 h2 h lok82_2.body (e82b _ _) rfl h3
    · exact ok47 _ _ _ _ _ h1 h2 h3
  · exact ok47 _ _ _ _ _ h1 h2 h3

/-- laws.eqFlat -/
noncomputable def r28b (x0 x1 x2 x3 x4 x5 x6 x7 : List (List Int)) : Nat × Bool :=
 cond (Nat.beq ((r31b x0 x4).1) 0)
  (cond (!((r31b x0 x4).2))
   (0, false)
   (cond (Nat.beq ((r31b x1 x5).1) 0)
    (cond (!((r31b x1 x5).2))
     (0, false)
     (cond (Nat.beq ((r81b x2 x6).1) 0)
      (cond (!((r81b x2 x6).2))
       (0, false)
       (cond (Nat.beq ((r82b x3 x7).1) 0)
        (cond (!((r82b x3 x7).2))
         (0, false)
         (0, true))
        (1, false)))
      (1, false)))
    (1, false)))
  (1, false)
noncomputable def a28b (x0 x1 x2 x3 x4 x5 x6 x7 : List (List Int)) (p : Nat × Bool) : Res := firstT [((Nat.beq (p.1) 0), .bool (p.2), ⟨[⟨true, (some (.tab [.fl .f32] x0))⟩, ⟨true, (some (.tab [.fl .f32] x1))⟩, ⟨true, (some (.tab sc0 x2))⟩, ⟨true, (some (.tab sc1 x3))⟩, ⟨true, (some (.tab [.fl .f32] x4))⟩, ⟨true, (some (.tab [.fl .f32] x5))⟩, ⟨true, (some (.tab sc0 x6))⟩, ⟨true, (some (.tab sc1 x7))⟩], 8, []⟩)]
noncomputable def w28b (x0 x1 x2 x3 x4 x5 x6 x7 : List (List Int)) : Res :=
 (cond (Nat.beq ((r31b x0 x4).1) 0)
 (cond (!((r31b x0 x4).2))
  (a28b x0 x1 x2 x3 x4 x5 x6 x7 (0, false))
  (cond (Nat.beq ((r31b x1 x5).1) 0)
   (cond (!((r31b x1 x5).2))
    (a28b x0 x1 x2 x3 x4 x5 x6 x7 (0, false))
    (cond (Nat.beq ((r81b x2 x6).1) 0)
     (cond (!((r81b x2 x6).2))
      (a28b x0 x1 x2 x3 x4 x5 x6 x7 (0, false))
      (cond (Nat.beq ((r82b x3 x7).1) 0)
       (cond (!((r82b x3 x7).2))
        (a28b x0 x1 x2 x3 x4 x5 x6 x7 (0, false))
        (a28b x0 x1 x2 x3 x4 x5 x6 x7 (0, true)))
       none))
     none))
   none))
 none)
set_option maxRecDepth 100000 in
set_option maxHeartbeats 4000000 in
theorem e28b (x0 x1 x2 x3 x4 x5 x6 x7 : List (List Int)) : evFn Try.prog ext T48 noL 200 Try.f28 [.agg #[wsl 0, wsl 1, wsl 2, wsl 3], .agg #[wsl 4, wsl 5, wsl 6, wsl 7]] ⟨[⟨true, (some (.tab [.fl .f32] x0))⟩, ⟨true, (some (.tab [.fl .f32] x1))⟩, ⟨true, (some (.tab sc0 x2))⟩, ⟨true, (some (.tab sc1 x3))⟩, ⟨true, (some (.tab [.fl .f32] x4))⟩, ⟨true, (some (.tab [.fl .f32] x5))⟩, ⟨true, (some (.tab sc0 x6))⟩, ⟨true, (some (.tab sc1 x7))⟩], 8, []⟩ = firstT [((Nat.beq ((r28b x0 x1 x2 x3 x4 x5 x6 x7).1) 0), .bool ((r28b x0 x1 x2 x3 x4 x5 x6 x7).2), ⟨[⟨true, (some (.tab [.fl .f32] x0))⟩, ⟨true, (some (.tab [.fl .f32] x1))⟩, ⟨true, (some (.tab sc0 x2))⟩, ⟨true, (some (.tab sc1 x3))⟩, ⟨true, (some (.tab [.fl .f32] x4))⟩, ⟨true, (some (.tab [.fl .f32] x5))⟩, ⟨true, (some (.tab sc0 x6))⟩, ⟨true, (some (.tab sc1 x7))⟩], 8, []⟩)] :=
 (show evFn Try.prog ext T48 noL 200 Try.f28 [.agg #[wsl 0, wsl 1, wsl 2, wsl 3], .agg #[wsl 4, wsl 5, wsl 6, wsl 7]] ⟨[⟨true, (some (.tab [.fl .f32] x0))⟩, ⟨true, (some (.tab [.fl .f32] x1))⟩, ⟨true, (some (.tab sc0 x2))⟩, ⟨true, (some (.tab sc1 x3))⟩, ⟨true, (some (.tab [.fl .f32] x4))⟩, ⟨true, (some (.tab [.fl .f32] x5))⟩, ⟨true, (some (.tab sc0 x6))⟩, ⟨true, (some (.tab sc1 x7))⟩], 8, []⟩ = w28b x0 x1 x2 x3 x4 x5 x6 x7 from by kernel_rfl).trans
 (show w28b x0 x1 x2 x3 x4 x5 x6 x7 = a28b x0 x1 x2 x3 x4 x5 x6 x7 (r28b x0 x1 x2 x3 x4 x5 x6 x7) from by unfold w28b r28b; exact (cond_app (a28b x0 x1 x2 x3 x4 x5 x6 x7) _ (cond_app (a28b x0 x1 x2 x3 x4 x5 x6 x7) _ rfl (cond_app (a28b x0 x1 x2 x3 x4 x5 x6 x7) _ (cond_app (a28b x0 x1 x2 x3 x4 x5 x6 x7) _ rfl (cond_app (a28b x0 x1 x2 x3 x4 x5 x6 x7) _ (cond_app (a28b x0 x1 x2 x3 x4 x5 x6 x7) _ rfl (cond_app (a28b x0 x1 x2 x3 x4 x5 x6 x7) _ (cond_app (a28b x0 x1 x2 x3 x4 x5 x6 x7) _ rfl rfl) rfl)) rfl)) rfl)) rfl))
noncomputable def s28b (args : List Value) (s : St) : List (Bool × Value × St) :=
 match args, s.h with
 | [.agg ⟨[.iface f0 .nilIface, .iface f1 .nilIface, .iface f2 .nilIface, .iface f3 .nilIface]⟩, .agg ⟨[.iface f4 .nilIface, .iface f5 .nilIface, .iface f6 .nilIface, .iface f7 .nilIface]⟩], [⟨true, some (.tab [.fl .f32] x0)⟩, ⟨true, some (.tab [.fl .f32] x1)⟩, ⟨true, some (.tab [.int .i64, .int .i64, .fl .f32, .fl .f32, .fl .f32, .fl .f32, .fl .f32, .fl .f32] x2)⟩, ⟨true, some (.tab [.int .i64, .int .i64, .fl .f32, .fl .f32] x3)⟩, ⟨true, some (.tab [.fl .f32] x4)⟩, ⟨true, some (.tab [.fl .f32] x5)⟩, ⟨true, some (.tab [.int .i64, .int .i64, .fl .f32, .fl .f32, .fl .f32, .fl .f32, .fl .f32, .fl .f32] x6)⟩, ⟨true, some (.tab [.int .i64, .int .i64, .fl .f32, .fl .f32] x7)⟩] => if f0 = 0 ∧ f1 = 1 ∧ f2 = 2 ∧ f3 = 3 ∧ f4 = 4 ∧ f5 = 5 ∧ f6 = 6 ∧ f7 = 7 then [((Nat.beq ((r28b x0 x1 x2 x3 x4 x5 x6 x7).1) 0), .bool ((r28b x0 x1 x2 x3 x4 x5 x6 x7).2), ⟨[⟨true, (some (.tab [.fl .f32] x0))⟩, ⟨true, (some (.tab [.fl .f32] x1))⟩, ⟨true, (some (.tab sc0 x2))⟩, ⟨true, (some (.tab sc1 x3))⟩, ⟨true, (some (.tab [.fl .f32] x4))⟩, ⟨true, (some (.tab [.fl .f32] x5))⟩, ⟨true, (some (.tab sc0 x6))⟩, ⟨true, (some (.tab sc1 x7))⟩], 8, []⟩)] else T48 28 args s
 | _, _ => T48 28 args s
noncomputable def T49 : CallF := addF T48 28 s28b
set_option maxRecDepth 100000 in
set_option maxHeartbeats 4000000 in
theorem ok49 : CfOk Try.prog T49 := by
  refine cfOk_add ok48 fun args s r s' h1 h2 h3 => ?_
  unfold s28b at h3; split at h3
  · rename_i h; split at h3
    · rename_i hc; obtain ⟨rfl, rfl, rfl, rfl, rfl, rfl, rfl, rfl⟩ := hc; exact callOk ok48 Try.func28 h1 h2 h (lfOkF_no _ _).body (e28b _ _ _ _ _ _ _ _) rfl h3
    · exact ok48 _ _ _ _ _ h1 h2 h3
  · exact ok48 _ _ _ _ _ h1 h2 h3

/-- laws.markFloat32S, loop 0: one round -/
noncomputable def b33l0 (ih : Int → Int → List (List Int) → (Nat × Int × List (List Int))) (x0 x1 : Int) (x2 : List (List Int)) : Nat × Int × List (List Int) :=
 cond (decide ((x1 : Int) < ((x2.length : Nat) : Int)))
  (cond ((decide ((0 : Int) ≤ x1)) && (Nat.blt (Int.toNat x1) x2.length))
   (ih (IntKind.i64.wrap (x0 + 1)) (IntKind.i64.wrap (x1 + 1)) (x2.set (Int.toNat x1) [(((ofInt .f32 x0) : Nat) : Int)]))
   (1, 0, []))
  (0, x0, x2)
noncomputable def r33l0 : Nat → Int → Int → List (List Int) → (Nat × Int × List (List Int))
 | 0 => fun _ _ _ => (1, 0, [])
 | m + 1 => b33l0 (r33l0 m)
noncomputable def a33l0 (x0 x1 : Int) (x2 : List (List Int)) (p : Nat × Int × List (List Int)) : Option (Fin' × List Value × St) := firstT ([((Nat.beq (p.1) 0), .exit 0, [.int .i64 (p.2.1)], ⟨[⟨true, (some (.tab [.fl .f32] (p.2.2)))⟩], 1, [0]⟩)].map fun (b, x) => (b, (x.1, frameOf 20 [1] x.2.1, x.2.2)))
noncomputable def u33l0 (x0 x1 : Int) (x2 : List (List Int)) (p : Nat × Int × List (List Int)) : Option (Fin' × List Value × St) := alts ([((Nat.beq (p.1) 0), .exit 0, [.int .i64 (p.2.1)], ⟨[⟨true, (some (.tab [.fl .f32] (p.2.2)))⟩], 1, [0]⟩)].map fun (b, x) => (b, (x.1, frameOf 20 [1] x.2.1, x.2.2))) some
theorem v33l0 (x0 x1 : Int) (x2 : List (List Int)) (p : Nat × Int × List (List Int)) : u33l0 x0 x1 x2 p = a33l0 x0 x1 x2 p := alts_first _
noncomputable def q33l0 (m : Nat) : SumK := fun vals s =>
 match vals, s.h with
 | [.iface f0 .nilIface, .int .i64 x0, .int .i64 x1], [⟨true, some (.tab [.fl .f32] x2)⟩] => if f0 = 0 then [((Nat.beq ((r33l0 m x0 x1 x2).1) 0), .exit 0, [.int .i64 ((r33l0 m x0 x1 x2).2.1)], ⟨[⟨true, (some (.tab [.fl .f32] ((r33l0 m x0 x1 x2).2.2)))⟩], 1, [0]⟩)] else noQ vals s
 | _, _ => noQ vals s
noncomputable def w33l0 (ih : Int → Int → List (List Int) → (Nat × Int × List (List Int))) (x0 x1 : Int) (x2 : List (List Int)) : Option (Fin' × List Value × St) :=
 (cond (decide ((x1 : Int) < ((x2.length : Nat) : Int)))
 (cond ((decide ((0 : Int) ≤ x1)) && (Nat.blt (Int.toNat x1) x2.length))
  (cond (Nat.blt (Int.toNat x1) x2.length)
   (u33l0 x0 x1 x2 (ih (IntKind.i64.wrap (x0 + 1)) (IntKind.i64.wrap (x1 + 1)) (x2.set (Int.toNat x1) [(((ofInt .f32 x0) : Nat) : Int)])))
   none)
  none)
 (a33l0 x0 x1 x2 (0, x0, x2)))
set_option maxRecDepth 100000 in
set_option maxHeartbeats 4000000 in
theorem e33l0 (m : Nat) (x0 x1 : Int) (x2 : List (List Int)) : evC Try.prog ext T49 noL 200 (loopN Try.f33 0) (loopTail ([0, 1, 5], []) [1] [0] (sumK 20 [0, 1, 5] [1] (q33l0 m))) (frameOf 20 [0, 1, 5] [wsl 0, .int .i64 x0, .int .i64 x1]) ⟨[⟨true, (some (.tab [.fl .f32] x2))⟩], 1, []⟩ = firstT ([((Nat.beq ((r33l0 (m + 1) x0 x1 x2).1) 0), .exit 0, [.int .i64 ((r33l0 (m + 1) x0 x1 x2).2.1)], ⟨[⟨true, (some (.tab [.fl .f32] ((r33l0 (m + 1) x0 x1 x2).2.2)))⟩], 1, [0]⟩)].map fun (b, x) => (b, (x.1, frameOf 20 [1] x.2.1, x.2.2))) :=
 (show evC Try.prog ext T49 noL 200 (loopN Try.f33 0) (loopTail ([0, 1, 5], []) [1] [0] (sumK 20 [0, 1, 5] [1] (q33l0 m))) (frameOf 20 [0, 1, 5] [wsl 0, .int .i64 x0, .int .i64 x1]) ⟨[⟨true, (some (.tab [.fl .f32] x2))⟩], 1, []⟩ = w33l0 (r33l0 m) x0 x1 x2 from by kernel_rfl).trans
 (show w33l0 (r33l0 m) x0 x1 x2 = a33l0 x0 x1 x2 (r33l0 (m + 1) x0 x1 x2) from by unfold w33l0; show _ = a33l0 x0 x1 x2 (b33l0 (r33l0 m) x0 x1 x2); unfold b33l0; exact (cond_both (a33l0 x0 x1 x2) _ (fun h0 => (cond_both (a33l0 x0 x1 x2) _ (fun h1 => (cond_t (ev_and2 h1) (v33l0 x0 x1 x2 ((r33l0 m) (IntKind.i64.wrap (x0 + 1)) (IntKind.i64.wrap (x1 + 1)) (x2.set (Int.toNat x1) [(((ofInt .f32 x0) : Nat) : Int)]))))) (fun h1 => rfl))) (fun h0 => rfl)))
set_option maxRecDepth 100000 in
set_option maxHeartbeats 4000000 in
theorem qm33l0 : ∀ m, SumKOk Try.prog (loopN Try.f33 0) 20 [0, 1, 5] [1] (q33l0 m) := by
  intro m
  induction m with
  | zero =>
    intro vals s x h1 h2 h3
    unfold q33l0 at h3; split at h3
    · rename_i h; split at h3
      · rename_i hc; obtain ⟨rfl⟩ := hc; exact absurd h3 (by simp [r33l0, firstT, Nat.beq])
      · exact noQ_ok _ _ _ h1 h2 h3
    · exact noQ_ok _ _ _ h1 h2 h3
  | succ m ih =>
    intro vals s x h1 h2 h3
    unfold q33l0 at h3; split at h3
    · rename_i h; split at h3
      · rename_i hc; obtain ⟨rfl⟩ := hc; exact sum_step ok49 extOk mixed ((lfOkF_no _ _).inner (by kernel_rfl)) ih h1 h2 h (e33l0 m _ _ _) rfl h3
      · exact noQ_ok _ _ _ h1 h2 h3
    · exact noQ_ok _ _ _ h1 h2 h3
noncomputable def Q33l0 : SumK := fun vals s => q33l0 (fuelOf vals s.h) vals s
theorem qok33l0 : SumKOk Try.prog (loopN Try.f33 0) 20 [0, 1, 5] [1] Q33l0 := fuel_ok qm33l0 fuelOf
noncomputable def L33_1 : LoopT := addL noL 3 ([0, 1, 5], []) (sumK 20 [0, 1, 5] [1] Q33l0)
theorem lok33_1 : LfOkF Try.prog L33_1 Try.f33 := lfOkF_add (lfOkF_no _ _) qok33l0 (by kernel_rfl) (by kernel_rfl) (by kernel_rfl)

/-- laws.markFloat32S -/
noncomputable def r33 (x0 : Int) (x1 : List (List Int)) : Nat × Int × List (List Int) :=
 cond (Nat.beq ((r33l0 (1000 + x1.length) x0 0 x1).1) 0)
  (0, ((r33l0 (1000 + x1.length) x0 0 x1).2.1), ((r33l0 (1000 + x1.length) x0 0 x1).2.2))
  (1, 0, [])
noncomputable def a33 (x0 : Int) (x1 : List (List Int)) (p : Nat × Int × List (List Int)) : Res := firstT [((Nat.beq (p.1) 0), .int .i64 (p.2.1), ⟨[⟨true, (some (.tab [.fl .f32] (p.2.2)))⟩], 1, [0]⟩)]
noncomputable def w33 (x0 : Int) (x1 : List (List Int)) : Res :=
 (cond (Nat.beq ((r33l0 (1000 + x1.length) x0 0 x1).1) 0)
 (a33 x0 x1 (0, ((r33l0 (1000 + x1.length) x0 0 x1).2.1), ((r33l0 (1000 + x1.length) x0 0 x1).2.2)))
 none)
set_option maxRecDepth 100000 in
set_option maxHeartbeats 4000000 in
theorem e33 (x0 : Int) (x1 : List (List Int)) : evFn Try.prog ext T49 L33_1 200 Try.f33 [wsl 0, .int .i64 x0] ⟨[⟨true, (some (.tab [.fl .f32] x1))⟩], 1, []⟩ = firstT [((Nat.beq ((r33 x0 x1).1) 0), .int .i64 ((r33 x0 x1).2.1), ⟨[⟨true, (some (.tab [.fl .f32] ((r33 x0 x1).2.2)))⟩], 1, [0]⟩)] :=
 (show evFn Try.prog ext T49 L33_1 200 Try.f33 [wsl 0, .int .i64 x0] ⟨[⟨true, (some (.tab [.fl .f32] x1))⟩], 1, []⟩ = w33 x0 x1 from by kernel_rfl).trans
 (show w33 x0 x1 = a33 x0 x1 (r33 x0 x1) from by unfold w33 r33; exact (cond_app (a33 x0 x1) _ rfl rfl))
noncomputable def s33 (args : List Value) (s : St) : List (Bool × Value × St) :=
 match args, s.h with
 | [.iface f0 .nilIface, .int .i64 x0], [⟨true, some (.tab [.fl .f32] x1)⟩] => if f0 = 0 then [((Nat.beq ((r33 x0 x1).1) 0), .int .i64 ((r33 x0 x1).2.1), ⟨[⟨true, (some (.tab [.fl .f32] ((r33 x0 x1).2.2)))⟩], 1, [0]⟩)] else T49 33 args s
 | _, _ => T49 33 args s
noncomputable def T50 : CallF := addF T49 33 s33
set_option maxRecDepth 100000 in
set_option maxHeartbeats 4000000 in
theorem ok50 : CfOk Try.prog T50 := by
  refine cfOk_add ok49 fun args s r s' h1 h2 h3 => ?_
  unfold s33 at h3; split at h3
  · rename_i h; split at h3
    · rename_i hc; obtain ⟨rfl⟩ := hc; exact callOk ok49 Try.func33 h1 h2 h lok33_1.body (e33 _ _) rfl h3
    · exact ok49 _ _ _ _ _ h1 h2 h3
  · exact ok49 _ _ _ _ _ h1 h2 h3

/-- laws.markWallS, loop 1 -/
noncomputable def r85l1 (x0 x1 : Int) (x2 : List (List Int)) : Unit :=
 ()
noncomputable def a85l1 (x0 x1 : Int) (x2 : List (List Int)) (p : Unit) : Option (Fin' × List Value × St) := firstT ([(true, .exit 2, [wsl 0, .int .i64 x0, .int .i64 x1], ⟨[⟨true, (some (.tab sc0 x2))⟩], 1, []⟩)].map fun (b, x) => (b, (x.1, frameOf 58 [0, 1, 5] x.2.1, x.2.2)))
noncomputable def w85l1 (x0 x1 : Int) (x2 : List (List Int)) : Option (Fin' × List Value × St) :=
 (a85l1 x0 x1 x2 ())
set_option maxRecDepth 100000 in
set_option maxHeartbeats 4000000 in
theorem e85l1 (x0 x1 : Int) (x2 : List (List Int)) : evC Try.prog ext T50 noL 200 (loopN Try.f85 1) (loopTail ([0, 1, 5, 6], []) [0, 1, 5] [] (sumK 58 [0, 1, 5, 6] [0, 1, 5] noQ)) (frameOf 58 [0, 1, 5, 6] [wsl 0, .int .i64 x0, .int .i64 x1, .int .i64 4]) ⟨[⟨true, (some (.tab sc0 x2))⟩], 1, []⟩ = firstT ([(true, .exit 2, [wsl 0, .int .i64 x0, .int .i64 x1], ⟨[⟨true, (some (.tab sc0 x2))⟩], 1, []⟩)].map fun (b, x) => (b, (x.1, frameOf 58 [0, 1, 5] x.2.1, x.2.2))) :=
 (show evC Try.prog ext T50 noL 200 (loopN Try.f85 1) (loopTail ([0, 1, 5, 6], []) [0, 1, 5] [] (sumK 58 [0, 1, 5, 6] [0, 1, 5] noQ)) (frameOf 58 [0, 1, 5, 6] [wsl 0, .int .i64 x0, .int .i64 x1, .int .i64 4]) ⟨[⟨true, (some (.tab sc0 x2))⟩], 1, []⟩ = w85l1 x0 x1 x2 from by kernel_rfl).trans
 (show w85l1 x0 x1 x2 = a85l1 x0 x1 x2 (r85l1 x0 x1 x2) from by unfold w85l1 r85l1; exact rfl)
noncomputable def Q85l1 : SumK := fun vals s =>
 match vals, s.h with
 | [.iface f0 .nilIface, .int .i64 x0, .int .i64 x1, .int .i64 f1], [⟨true, some (.tab [.int .i64, .int .i64, .fl .f32, .fl .f32, .fl .f32, .fl .f32, .fl .f32, .fl .f32] x2)⟩] => if f0 = 0 ∧ f1 = 4 then [(true, .exit 2, [wsl 0, .int .i64 x0, .int .i64 x1], ⟨[⟨true, (some (.tab sc0 x2))⟩], 1, []⟩)] else noQ vals s
 | _, _ => noQ vals s
set_option maxRecDepth 100000 in
set_option maxHeartbeats 4000000 in
theorem qok85l1 : SumKOk Try.prog (loopN Try.f85 1) 58 [0, 1, 5, 6] [0, 1, 5] Q85l1 := by
  intro vals s x h1 h2 h3
  unfold Q85l1 at h3; split at h3
  · rename_i h; split at h3
    · rename_i hc; obtain ⟨rfl, rfl⟩ := hc; exact sum_step ok50 extOk mixed ((lfOkF_no _ _).inner (by kernel_rfl)) noQ_ok h1 h2 h (e85l1 _ _ _) rfl h3
    · exact noQ_ok _ _ _ h1 h2 h3
  · exact noQ_ok _ _ _ h1 h2 h3
noncomputable def L85_1 : LoopT := addL noL 14 ([0, 1, 5, 6], []) (sumK 58 [0, 1, 5, 6] [0, 1, 5] Q85l1)
theorem lok85_1 : LfOkF Try.prog L85_1 Try.f85 := lfOkF_add (lfOkF_no _ _) qok85l1 (by kernel_rfl) (by kernel_rfl) (by kernel_rfl)

/-- laws.markWallS, loop 1 -/
noncomputable def r85l1b (x0 x1 : Int) (x2 : List (List Int)) : Nat × Int × List (List Int) :=
 cond ((decide ((0 : Int) ≤ x1)) && (Nat.blt (Int.toNat x1) x2.length))
  (0, (IntKind.i64.wrap (x0 + 1)), (x2.modify (Int.toNat x1) (fun r => spl 8 r 7 [(((ofInt .f32 x0) : Nat) : Int)])))
  (1, 0, [])
noncomputable def a85l1b (x0 x1 : Int) (x2 : List (List Int)) (p : Nat × Int × List (List Int)) : Option (Fin' × List Value × St) := firstT ([((Nat.beq (p.1) 0), .exit 2, [wsl 0, .int .i64 (p.2.1), .int .i64 x1], ⟨[⟨true, (some (.tab sc0 (p.2.2)))⟩], 1, [0]⟩)].map fun (b, x) => (b, (x.1, frameOf 58 [0, 1, 5] x.2.1, x.2.2)))
noncomputable def w85l1b (x0 x1 : Int) (x2 : List (List Int)) : Option (Fin' × List Value × St) :=
 (cond ((decide ((0 : Int) ≤ x1)) && (Nat.blt (Int.toNat x1) x2.length))
 (cond (Nat.blt (Int.toNat x1) x2.length)
  (a85l1b x0 x1 x2 (0, (IntKind.i64.wrap (x0 + 1)), (x2.modify (Int.toNat x1) (fun r => spl 8 r 7 [(((ofInt .f32 x0) : Nat) : Int)]))))
  none)
 none)
set_option maxRecDepth 100000 in
set_option maxHeartbeats 4000000 in
theorem e85l1b (x0 x1 : Int) (x2 : List (List Int)) : evC Try.prog ext T50 L85_1 200 (loopN Try.f85 1) (loopTail ([0, 1, 5, 6], []) [0, 1, 5] [] (sumK 58 [0, 1, 5, 6] [0, 1, 5] Q85l1)) (frameOf 58 [0, 1, 5, 6] [wsl 0, .int .i64 x0, .int .i64 x1, .int .i64 3]) ⟨[⟨true, (some (.tab sc0 x2))⟩], 1, []⟩ = firstT ([((Nat.beq ((r85l1b x0 x1 x2).1) 0), .exit 2, [wsl 0, .int .i64 ((r85l1b x0 x1 x2).2.1), .int .i64 x1], ⟨[⟨true, (some (.tab sc0 ((r85l1b x0 x1 x2).2.2)))⟩], 1, [0]⟩)].map fun (b, x) => (b, (x.1, frameOf 58 [0, 1, 5] x.2.1, x.2.2))) :=
 (show evC Try.prog ext T50 L85_1 200 (loopN Try.f85 1) (loopTail ([0, 1, 5, 6], []) [0, 1, 5] [] (sumK 58 [0, 1, 5, 6] [0, 1, 5] Q85l1)) (frameOf 58 [0, 1, 5, 6] [wsl 0, .int .i64 x0, .int .i64 x1, .int .i64 3]) ⟨[⟨true, (some (.tab sc0 x2))⟩], 1, []⟩ = w85l1b x0 x1 x2 from by kernel_rfl).trans
 (show w85l1b x0 x1 x2 = a85l1b x0 x1 x2 (r85l1b x0 x1 x2) from by unfold w85l1b r85l1b; exact (cond_both (a85l1b x0 x1 x2) _ (fun h0 => (cond_t (ev_and2 h0) rfl)) (fun h0 => rfl)))
noncomputable def Q85l1b : SumK := fun vals s =>
 match vals, s.h with
 | [.iface f0 .nilIface, .int .i64 x0, .int .i64 x1, .int .i64 f1], [⟨true, some (.tab [.int .i64, .int .i64, .fl .f32, .fl .f32, .fl .f32, .fl .f32, .fl .f32, .fl .f32] x2)⟩] => if f0 = 0 ∧ f1 = 3 then [((Nat.beq ((r85l1b x0 x1 x2).1) 0), .exit 2, [wsl 0, .int .i64 ((r85l1b x0 x1 x2).2.1), .int .i64 x1], ⟨[⟨true, (some (.tab sc0 ((r85l1b x0 x1 x2).2.2)))⟩], 1, [0]⟩)] else Q85l1 vals s
 | _, _ => Q85l1 vals s
set_option maxRecDepth 100000 in
set_option maxHeartbeats 4000000 in
theorem qok85l1b : SumKOk Try.prog (loopN Try.f85 1) 58 [0, 1, 5, 6] [0, 1, 5] Q85l1b := by
  intro vals s x h1 h2 h3
  unfold Q85l1b at h3; split at h3
  · rename_i h; split at h3
    · rename_i hc; obtain ⟨rfl, rfl⟩ := hc; exact sum_step ok50 extOk mixed (lok85_1.inner (by kernel_rfl)) qok85l1 h1 h2 h (e85l1b _ _ _) rfl h3
    · exact qok85l1 _ _ _ h1 h2 h3
  · exact qok85l1 _ _ _ h1 h2 h3
noncomputable def L85_2 : LoopT := addL L85_1 14 ([0, 1, 5, 6], []) (sumK 58 [0, 1, 5, 6] [0, 1, 5] Q85l1b)
theorem lok85_2 : LfOkF Try.prog L85_2 Try.f85 := lfOkF_add lok85_1 qok85l1b (by kernel_rfl) (by kernel_rfl) (by kernel_rfl)

/-- laws.markWallS, loop 1 -/
noncomputable def r85l1c (x0 x1 : Int) (x2 : List (List Int)) : Nat × Int × List (List Int) :=
 let c109 := (r85l1b (IntKind.i64.wrap (x0 + 1)) x1 (x2.modify (Int.toNat x1) (fun r => spl 8 r 6 [(((ofInt .f32 x0) : Nat) : Int)])))
 cond ((decide ((0 : Int) ≤ x1)) && (Nat.blt (Int.toNat x1) x2.length))
  (cond (Nat.beq (c109.1) 0)
   (0, (c109.2.1), (c109.2.2))
   (1, 0, []))
  (1, 0, [])
noncomputable def a85l1c (x0 x1 : Int) (x2 : List (List Int)) (p : Nat × Int × List (List Int)) : Option (Fin' × List Value × St) := firstT ([((Nat.beq (p.1) 0), .exit 2, [wsl 0, .int .i64 (p.2.1), .int .i64 x1], ⟨[⟨true, (some (.tab sc0 (p.2.2)))⟩], 1, [0]⟩)].map fun (b, x) => (b, (x.1, frameOf 58 [0, 1, 5] x.2.1, x.2.2)))
noncomputable def w85l1c (x0 x1 : Int) (x2 : List (List Int)) : Option (Fin' × List Value × St) :=
 let c109 := (r85l1b (IntKind.i64.wrap (x0 + 1)) x1 (x2.modify (Int.toNat x1) (fun r => spl 8 r 6 [(((ofInt .f32 x0) : Nat) : Int)])))
 (cond ((decide ((0 : Int) ≤ x1)) && (Nat.blt (Int.toNat x1) x2.length))
 (cond (Nat.blt (Int.toNat x1) x2.length)
  (cond (Nat.beq (c109.1) 0)
   (a85l1c x0 x1 x2 (0, (c109.2.1), (c109.2.2)))
   none)
  none)
 none)
set_option maxRecDepth 100000 in
set_option maxHeartbeats 4000000 in
theorem e85l1c (x0 x1 : Int) (x2 : List (List Int)) : evC Try.prog ext T50 L85_2 200 (loopN Try.f85 1) (loopTail ([0, 1, 5, 6], []) [0, 1, 5] [] (sumK 58 [0, 1, 5, 6] [0, 1, 5] Q85l1b)) (frameOf 58 [0, 1, 5, 6] [wsl 0, .int .i64 x0, .int .i64 x1, .int .i64 2]) ⟨[⟨true, (some (.tab sc0 x2))⟩], 1, []⟩ = firstT ([((Nat.beq ((r85l1c x0 x1 x2).1) 0), .exit 2, [wsl 0, .int .i64 ((r85l1c x0 x1 x2).2.1), .int .i64 x1], ⟨[⟨true, (some (.tab sc0 ((r85l1c x0 x1 x2).2.2)))⟩], 1, [0]⟩)].map fun (b, x) => (b, (x.1, frameOf 58 [0, 1, 5] x.2.1, x.2.2))) :=
 (show evC Try.prog ext T50 L85_2 200 (loopN Try.f85 1) (loopTail ([0, 1, 5, 6], []) [0, 1, 5] [] (sumK 58 [0, 1, 5, 6] [0, 1, 5] Q85l1b)) (frameOf 58 [0, 1, 5, 6] [wsl 0, .int .i64 x0, .int .i64 x1, .int .i64 2]) ⟨[⟨true, (some (.tab sc0 x2))⟩], 1, []⟩ = w85l1c x0 x1 x2 from by kernel_rfl).trans
 (show w85l1c x0 x1 x2 = a85l1c x0 x1 x2 (r85l1c x0 x1 x2) from by unfold w85l1c r85l1c; exact (cond_both (a85l1c x0 x1 x2) _ (fun h0 => (cond_t (ev_and2 h0) (cond_app (a85l1c x0 x1 x2) _ rfl rfl))) (fun h0 => rfl)))
noncomputable def Q85l1c : SumK := fun vals s =>
 match vals, s.h with
 | [.iface f0 .nilIface, .int .i64 x0, .int .i64 x1, .int .i64 f1], [⟨true, some (.tab [.int .i64, .int .i64, .fl .f32, .fl .f32, .fl .f32, .fl .f32, .fl .f32, .fl .f32] x2)⟩] => if f0 = 0 ∧ f1 = 2 then [((Nat.beq ((r85l1c x0 x1 x2).1) 0), .exit 2, [wsl 0, .int .i64 ((r85l1c x0 x1 x2).2.1), .int .i64 x1], ⟨[⟨true, (some (.tab sc0 ((r85l1c x0 x1 x2).2.2)))⟩], 1, [0]⟩)] else Q85l1b vals s
 | _, _ => Q85l1b vals s
set_option maxRecDepth 100000 in
set_option maxHeartbeats 4000000 in
theorem qok85l1c : SumKOk Try.prog (loopN Try.f85 1) 58 [0, 1, 5, 6] [0, 1, 5] Q85l1c := by
  intro vals s x h1 h2 h3
  unfold Q85l1c at h3; split at h3
  · rename_i h; split at h3
    · rename_i hc; obtain ⟨rfl, rfl⟩ := hc; exact sum_step ok50 extOk mixed (lok85_2.inner (by kernel_rfl)) qok85l1b h1 h2 h (e85l1c _ _ _) rfl h3
    · exact qok85l1b _ _ _ h1 h2 h3
  · exact qok85l1b _ _ _ h1 h2 h3
noncomputable def L85_3 : LoopT := addL L85_2 14 ([0, 1, 5, 6], []) (sumK 58 [0, 1, 5, 6] [0, 1, 5] Q85l1c)
theorem lok85_3 : LfOkF Try.prog L85_3 Try.f85 := lfOkF_add lok85_2 qok85l1c (by kernel_rfl) (by kernel_rfl) (by kernel_rfl)

/-- laws.markWallS, loop 1 -/
noncomputable def r85l1d (x0 x1 : Int) (x2 : List (List Int)) : Nat × Int × List (List Int) :=
 let c110 := (r85l1c (IntKind.i64.wrap (x0 + 1)) x1 (x2.modify (Int.toNat x1) (fun r => spl 8 r 5 [(((ofInt .f32 x0) : Nat) : Int)])))
 cond ((decide ((0 : Int) ≤ x1)) && (Nat.blt (Int.toNat x1) x2.length))
  (cond (Nat.beq (c110.1) 0)
   (0, (c110.2.1), (c110.2.2))
   (1, 0, []))
  (1, 0, [])
noncomputable def a85l1d (x0 x1 : Int) (x2 : List (List Int)) (p : Nat × Int × List (List Int)) : Option (Fin' × List Value × St) := firstT ([((Nat.beq (p.1) 0), .exit 2, [wsl 0, .int .i64 (p.2.1), .int .i64 x1], ⟨[⟨true, (some (.tab sc0 (p.2.2)))⟩], 1, [0]⟩)].map fun (b, x) => (b, (x.1, frameOf 58 [0, 1, 5] x.2.1, x.2.2)))
noncomputable def w85l1d (x0 x1 : Int) (x2 : List (List Int)) : Option (Fin' × List Value × St) :=
 let c110 := (r85l1c (IntKind.i64.wrap (x0 + 1)) x1 (x2.modify (Int.toNat x1) (fun r => spl 8 r 5 [(((ofInt .f32 x0) : Nat) : Int)])))
 (cond ((decide ((0 : Int) ≤ x1)) && (Nat.blt (Int.toNat x1) x2.length))
 (cond (Nat.blt (Int.toNat x1) x2.length)
  (cond (Nat.beq (c110.1) 0)
   (a85l1d x0 x1 x2 (0, (c110.2.1), (c110.2.2)))
   none)
  none)
 none)
set_option maxRecDepth 100000 in
set_option maxHeartbeats 4000000 in
theorem e85l1d (x0 x1 : Int) (x2 : List (List Int)) : evC Try.prog ext T50 L85_3 200 (loopN Try.f85 1) (loopTail ([0, 1, 5, 6], []) [0, 1, 5] [] (sumK 58 [0, 1, 5, 6] [0, 1, 5] Q85l1c)) (frameOf 58 [0, 1, 5, 6] [wsl 0, .int .i64 x0, .int .i64 x1, .int .i64 1]) ⟨[⟨true, (some (.tab sc0 x2))⟩], 1, []⟩ = firstT ([((Nat.beq ((r85l1d x0 x1 x2).1) 0), .exit 2, [wsl 0, .int .i64 ((r85l1d x0 x1 x2).2.1), .int .i64 x1], ⟨[⟨true, (some (.tab sc0 ((r85l1d x0 x1 x2).2.2)))⟩], 1, [0]⟩)].map fun (b, x) => (b, (x.1, frameOf 58 [0, 1, 5] x.2.1, x.2.2))) :=
 (show evC Try.prog ext T50 L85_3 200 (loopN Try.f85 1) (loopTail ([0, 1, 5, 6], []) [0, 1, 5] [] (sumK 58 [0, 1, 5, 6] [0, 1, 5] Q85l1c)) (frameOf 58 [0, 1, 5, 6] [wsl 0, .int .i64 x0, .int .i64 x1, .int .i64 1]) ⟨[⟨true, (some (.tab sc0 x2))⟩], 1, []⟩ = w85l1d x0 x1 x2 from by kernel_rfl).trans
 (show w85l1d x0 x1 x2 = a85l1d x0 x1 x2 (r85l1d x0 x1 x2) from by unfold w85l1d r85l1d; exact (cond_both (a85l1d x0 x1 x2) _ (fun h0 => (cond_t (ev_and2 h0) (cond_app (a85l1d x0 x1 x2) _ rfl rfl))) (fun h0 => rfl)))
noncomputable def Q85l1d : SumK := fun vals s =>
 match vals, s.h with
 | [.iface f0 .nilIface, .int .i64 x0, .int .i64 x1, .int .i64 f1], [⟨true, some (.tab [.int .i64, .int .i64, .fl .f32, .fl .f32, .fl .f32, .fl .f32, .fl .f32, .fl .f32] x2)⟩] => if f0 = 0 ∧ f1 = 1 then [((Nat.beq ((r85l1d x0 x1 x2).1) 0), .exit 2, [wsl 0, .int .i64 ((r85l1d x0 x1 x2).2.1), .int .i64 x1], ⟨[⟨true, (some (.tab sc0 ((r85l1d x0 x1 x2).2.2)))⟩], 1, [0]⟩)] else Q85l1c vals s
 | _, _ => Q85l1c vals s
set_option maxRecDepth 100000 in
set_option maxHeartbeats 4000000 in
theorem qok85l1d : SumKOk Try.prog (loopN Try.f85 1) 58 [0, 1, 5, 6] [0, 1, 5] Q85l1d := by
  intro vals s x h1 h2 h3
  unfold Q85l1d at h3; split at h3
  · rename_i h; split at h3
    · rename_i hc; obtain ⟨rfl, rfl⟩ := hc; exact sum_step ok50 extOk mixed (lok85_3.inner (by kernel_rfl)) qok85l1c h1 h2 h (e85l1d _ _ _) rfl h3
    · exact qok85l1c _ _ _ h1 h2 h3
  · exact qok85l1c _ _ _ h1 h2 h3
noncomputable def L85_4 : LoopT := addL L85_3 14 ([0, 1, 5, 6], []) (sumK 58 [0, 1, 5, 6] [0, 1, 5] Q85l1d)
theorem lok85_4 : LfOkF Try.prog L85_4 Try.f85 := lfOkF_add lok85_3 qok85l1d (by kernel_rfl) (by kernel_rfl) (by kernel_rfl)

/-- laws.markWallS, loop 1 -/
noncomputable def r85l1e (x0 x1 : Int) (x2 : List (List Int)) : Nat × Int × List (List Int) :=
 let c111 := (r85l1d (IntKind.i64.wrap (x0 + 1)) x1 (x2.modify (Int.toNat x1) (fun r => spl 8 r 4 [(((ofInt .f32 x0) : Nat) : Int)])))
 cond ((decide ((0 : Int) ≤ x1)) && (Nat.blt (Int.toNat x1) x2.length))
  (cond (Nat.beq (c111.1) 0)
   (0, (c111.2.1), (c111.2.2))
   (1, 0, []))
  (1, 0, [])
noncomputable def a85l1e (x0 x1 : Int) (x2 : List (List Int)) (p : Nat × Int × List (List Int)) : Option (Fin' × List Value × St) := firstT ([((Nat.beq (p.1) 0), .exit 2, [wsl 0, .int .i64 (p.2.1), .int .i64 x1], ⟨[⟨true, (some (.tab sc0 (p.2.2)))⟩], 1, [0]⟩)].map fun (b, x) => (b, (x.1, frameOf 58 [0, 1, 5] x.2.1, x.2.2)))
noncomputable def w85l1e (x0 x1 : Int) (x2 : List (List Int)) : Option (Fin' × List Value × St) :=
 let c111 := (r85l1d (IntKind.i64.wrap (x0 + 1)) x1 (x2.modify (Int.toNat x1) (fun r => spl 8 r 4 [(((ofInt .f32 x0) : Nat) : Int)])))
 (cond ((decide ((0 : Int) ≤ x1)) && (Nat.blt (Int.toNat x1) x2.length))
 (cond (Nat.blt (Int.toNat x1) x2.length)
  (cond (Nat.beq (c111.1) 0)
   (a85l1e x0 x1 x2 (0, (c111.2.1), (c111.2.2)))
   none)
  none)
 none)
set_option maxRecDepth 100000 in
set_option maxHeartbeats 4000000 in
theorem e85l1e (x0 x1 : Int) (x2 : List (List Int)) : evC Try.prog ext T50 L85_4 200 (loopN Try.f85 1) (loopTail ([0, 1, 5, 6], []) [0, 1, 5] [] (sumK 58 [0, 1, 5, 6] [0, 1, 5] Q85l1d)) (frameOf 58 [0, 1, 5, 6] [wsl 0, .int .i64 x0, .int .i64 x1, .int .i64 0]) ⟨[⟨true, (some (.tab sc0 x2))⟩], 1, []⟩ = firstT ([((Nat.beq ((r85l1e x0 x1 x2).1) 0), .exit 2, [wsl 0, .int .i64 ((r85l1e x0 x1 x2).2.1), .int .i64 x1], ⟨[⟨true, (some (.tab sc0 ((r85l1e x0 x1 x2).2.2)))⟩], 1, [0]⟩)].map fun (b, x) => (b, (x.1, frameOf 58 [0, 1, 5] x.2.1, x.2.2))) :=
 (show evC Try.prog ext T50 L85_4 200 (loopN Try.f85 1) (loopTail ([0, 1, 5, 6], []) [0, 1, 5] [] (sumK 58 [0, 1, 5, 6] [0, 1, 5] Q85l1d)) (frameOf 58 [0, 1, 5, 6] [wsl 0, .int .i64 x0, .int .i64 x1, .int .i64 0]) ⟨[⟨true, (some (.tab sc0 x2))⟩], 1, []⟩ = w85l1e x0 x1 x2 from by kernel_rfl).trans
 (show w85l1e x0 x1 x2 = a85l1e x0 x1 x2 (r85l1e x0 x1 x2) from by unfold w85l1e r85l1e; exact (cond_both (a85l1e x0 x1 x2) _ (fun h0 => (cond_t (ev_and2 h0) (cond_app (a85l1e x0 x1 x2) _ rfl rfl))) (fun h0 => rfl)))
noncomputable def Q85l1e : SumK := fun vals s =>
 match vals, s.h with
 | [.iface f0 .nilIface, .int .i64 x0, .int .i64 x1, .int .i64 f1], [⟨true, some (.tab [.int .i64, .int .i64, .fl .f32, .fl .f32, .fl .f32, .fl .f32, .fl .f32, .fl .f32] x2)⟩] => if f0 = 0 ∧ f1 = 0 then [((Nat.beq ((r85l1e x0 x1 x2).1) 0), .exit 2, [wsl 0, .int .i64 ((r85l1e x0 x1 x2).2.1), .int .i64 x1], ⟨[⟨true, (some (.tab sc0 ((r85l1e x0 x1 x2).2.2)))⟩], 1, [0]⟩)] else Q85l1d vals s
 | _, _ => Q85l1d vals s
set_option maxRecDepth 100000 in
set_option maxHeartbeats 4000000 in
theorem qok85l1e : SumKOk Try.prog (loopN Try.f85 1) 58 [0, 1, 5, 6] [0, 1, 5] Q85l1e := by
  intro vals s x h1 h2 h3
  unfold Q85l1e at h3; split at h3
  · rename_i h; split at h3
    · rename_i hc; obtain ⟨rfl, rfl⟩ := hc; exact sum_step ok50 extOk mixed (lok85_4.inner (by kernel_rfl)) qok85l1d h1 h2 h (e85l1e _ _ _) rfl h3
    · exact qok85l1d _ _ _ h1 h2 h3
  · exact qok85l1d _ _ _ h1 h2 h3
noncomputable def L85_5 : LoopT := addL L85_4 14 ([0, 1, 5, 6], []) (sumK 58 [0, 1, 5, 6] [0, 1, 5] Q85l1e)
theorem lok85_5 : LfOkF Try.prog L85_5 Try.f85 := lfOkF_add lok85_4 qok85l1e (by kernel_rfl) (by kernel_rfl) (by kernel_rfl)

/-- laws.markWallS, loop 0: one round -/
noncomputable def b85l0 (ih : Int → Int → List (List Int) → (Nat × Int × List (List Int))) (x0 x1 : Int) (x2 : List (List Int)) : Nat × Int × List (List Int) :=
 let c113 := (r85l1e (IntKind.i64.wrap ((IntKind.i64.wrap ((IntKind.i64.wrap ((IntKind.i64.wrap (x0 + 1)) + 1)) + 1)) + 1)) x1 ((((x2.modify (Int.toNat x1) (fun r => spl 8 r 0 [x0])).modify (Int.toNat x1) (fun r => spl 8 r 1 [(IntKind.i64.wrap (x0 + 1))])).modify (Int.toNat x1) (fun r => spl 8 r 2 [(((ofInt .f32 (IntKind.i64.wrap ((IntKind.i64.wrap (x0 + 1)) + 1))) : Nat) : Int)])).modify (Int.toNat x1) (fun r => spl 8 r 3 [(((ofInt .f32 (IntKind.i64.wrap ((IntKind.i64.wrap ((IntKind.i64.wrap (x0 + 1)) + 1)) + 1))) : Nat) : Int)])))
 cond (decide ((x1 : Int) < ((x2.length : Nat) : Int)))
  (cond ((decide ((0 : Int) ≤ x1)) && (Nat.blt (Int.toNat x1) x2.length))
   (cond ((decide ((0 : Int) ≤ x1)) && (Nat.blt (Int.toNat x1) ((x2.modify (Int.toNat x1) (fun r => spl 8 r 0 [x0])).length)))
    (cond ((decide ((0 : Int) ≤ x1)) && (Nat.blt (Int.toNat x1) (((x2.modify (Int.toNat x1) (fun r => spl 8 r 0 [x0])).modify (Int.toNat x1) (fun r => spl 8 r 1 [(IntKind.i64.wrap (x0 + 1))])).length)))
     (cond ((decide ((0 : Int) ≤ x1)) && (Nat.blt (Int.toNat x1) ((((x2.modify (Int.toNat x1) (fun r => spl 8 r 0 [x0])).modify (Int.toNat x1) (fun r => spl 8 r 1 [(IntKind.i64.wrap (x0 + 1))])).modify (Int.toNat x1) (fun r => spl 8 r 2 [(((ofInt .f32 (IntKind.i64.wrap ((IntKind.i64.wrap (x0 + 1)) + 1))) : Nat) : Int)])).length)))
      (cond (Nat.beq (c113.1) 0)
       (ih (c113.2.1) (IntKind.i64.wrap (x1 + 1)) (c113.2.2))
       (1, 0, []))
      (1, 0, []))
     (1, 0, []))
    (1, 0, []))
   (1, 0, []))
  (0, x0, x2)
noncomputable def r85l0 : Nat → Int → Int → List (List Int) → (Nat × Int × List (List Int))
 | 0 => fun _ _ _ => (1, 0, [])
 | m + 1 => b85l0 (r85l0 m)
noncomputable def a85l0 (x0 x1 : Int) (x2 : List (List Int)) (p : Nat × Int × List (List Int)) : Option (Fin' × List Value × St) := firstT ([((Nat.beq (p.1) 0), .exit 0, [.int .i64 (p.2.1)], ⟨[⟨true, (some (.tab sc0 (p.2.2)))⟩], 1, [0]⟩)].map fun (b, x) => (b, (x.1, frameOf 58 [1] x.2.1, x.2.2)))
noncomputable def u85l0 (x0 x1 : Int) (x2 : List (List Int)) (p : Nat × Int × List (List Int)) : Option (Fin' × List Value × St) := alts ([((Nat.beq (p.1) 0), .exit 0, [.int .i64 (p.2.1)], ⟨[⟨true, (some (.tab sc0 (p.2.2)))⟩], 1, [0]⟩)].map fun (b, x) => (b, (x.1, frameOf 58 [1] x.2.1, x.2.2))) some
theorem v85l0 (x0 x1 : Int) (x2 : List (List Int)) (p : Nat × Int × List (List Int)) : u85l0 x0 x1 x2 p = a85l0 x0 x1 x2 p := alts_first _
noncomputable def q85l0 (m : Nat) : SumK := fun vals s =>
 match vals, s.h with
 | [.iface f0 .nilIface, .int .i64 x0, .int .i64 x1], [⟨true, some (.tab [.int .i64, .int .i64, .fl .f32, .fl .f32, .fl .f32, .fl .f32, .fl .f32, .fl .f32] x2)⟩] => if f0 = 0 then [((Nat.beq ((r85l0 m x0 x1 x2).1) 0), .exit 0, [.int .i64 ((r85l0 m x0 x1 x2).2.1)], ⟨[⟨true, (some (.tab sc0 ((r85l0 m x0 x1 x2).2.2)))⟩], 1, [0]⟩)] else noQ vals s
 | _, _ => noQ vals s
noncomputable def w85l0 (ih : Int → Int → List (List Int) → (Nat × Int × List (List Int))) (x0 x1 : Int) (x2 : List (List Int)) : Option (Fin' × List Value × St) :=
 let c113 := (r85l1e (IntKind.i64.wrap ((IntKind.i64.wrap ((IntKind.i64.wrap ((IntKind.i64.wrap (x0 + 1)) + 1)) + 1)) + 1)) x1 ((((x2.modify (Int.toNat x1) (fun r => spl 8 r 0 [x0])).modify (Int.toNat x1) (fun r => spl 8 r 1 [(IntKind.i64.wrap (x0 + 1))])).modify (Int.toNat x1) (fun r => spl 8 r 2 [(((ofInt .f32 (IntKind.i64.wrap ((IntKind.i64.wrap (x0 + 1)) + 1))) : Nat) : Int)])).modify (Int.toNat x1) (fun r => spl 8 r 3 [(((ofInt .f32 (IntKind.i64.wrap ((IntKind.i64.wrap ((IntKind.i64.wrap (x0 + 1)) + 1)) + 1))) : Nat) : Int)])))
 (cond (decide ((x1 : Int) < ((x2.length : Nat) : Int)))
 (cond ((decide ((0 : Int) ≤ x1)) && (Nat.blt (Int.toNat x1) x2.length))
  (cond (Nat.blt (Int.toNat x1) x2.length)
   (cond ((decide ((0 : Int) ≤ x1)) && (Nat.blt (Int.toNat x1) ((x2.modify (Int.toNat x1) (fun r => spl 8 r 0 [x0])).length)))
    (cond (Nat.blt (Int.toNat x1) ((x2.modify (Int.toNat x1) (fun r => spl 8 r 0 [x0])).length))
     (cond ((decide ((0 : Int) ≤ x1)) && (Nat.blt (Int.toNat x1) (((x2.modify (Int.toNat x1) (fun r => spl 8 r 0 [x0])).modify (Int.toNat x1) (fun r => spl 8 r 1 [(IntKind.i64.wrap (x0 + 1))])).length)))
      (cond (Nat.blt (Int.toNat x1) (((x2.modify (Int.toNat x1) (fun r => spl 8 r 0 [x0])).modify (Int.toNat x1) (fun r => spl 8 r 1 [(IntKind.i64.wrap (x0 + 1))])).length))
       (cond ((decide ((0 : Int) ≤ x1)) && (Nat.blt (Int.toNat x1) ((((x2.modify (Int.toNat x1) (fun r => spl 8 r 0 [x0])).modify (Int.toNat x1) (fun r => spl 8 r 1 [(IntKind.i64.wrap (x0 + 1))])).modify (Int.toNat x1) (fun r => spl 8 r 2 [(((ofInt .f32 (IntKind.i64.wrap ((IntKind.i64.wrap (x0 + 1)) + 1))) : Nat) : Int)])).length)))
        (cond (Nat.blt (Int.toNat x1) ((((x2.modify (Int.toNat x1) (fun r => spl 8 r 0 [x0])).modify (Int.toNat x1) (fun r => spl 8 r 1 [(IntKind.i64.wrap (x0 + 1))])).modify (Int.toNat x1) (fun r => spl 8 r 2 [(((ofInt .f32 (IntKind.i64.wrap ((IntKind.i64.wrap (x0 + 1)) + 1))) : Nat) : Int)])).length))
         (cond (Nat.beq (c113.1) 0)
          (u85l0 x0 x1 x2 (ih (c113.2.1) (IntKind.i64.wrap (x1 + 1)) (c113.2.2)))
          none)
         none)
        none)
       none)
      none)
     none)
    none)
   none)
  none)
 (a85l0 x0 x1 x2 (0, x0, x2)))
set_option maxRecDepth 100000 in
set_option maxHeartbeats 4000000 in
theorem e85l0 (m : Nat) (x0 x1 : Int) (x2 : List (List Int)) : evC Try.prog ext T50 L85_5 200 (loopN Try.f85 0) (loopTail ([0, 1, 5], []) [1] [0] (sumK 58 [0, 1, 5] [1] (q85l0 m))) (frameOf 58 [0, 1, 5] [wsl 0, .int .i64 x0, .int .i64 x1]) ⟨[⟨true, (some (.tab sc0 x2))⟩], 1, []⟩ = firstT ([((Nat.beq ((r85l0 (m + 1) x0 x1 x2).1) 0), .exit 0, [.int .i64 ((r85l0 (m + 1) x0 x1 x2).2.1)], ⟨[⟨true, (some (.tab sc0 ((r85l0 (m + 1) x0 x1 x2).2.2)))⟩], 1, [0]⟩)].map fun (b, x) => (b, (x.1, frameOf 58 [1] x.2.1, x.2.2))) :=
 (show evC Try.prog ext T50 L85_5 200 (loopN Try.f85 0) (loopTail ([0, 1, 5], []) [1] [0] (sumK 58 [0, 1, 5] [1] (q85l0 m))) (frameOf 58 [0, 1, 5] [wsl 0, .int .i64 x0, .int .i64 x1]) ⟨[⟨true, (some (.tab sc0 x2))⟩], 1, []⟩ = w85l0 (r85l0 m) x0 x1 x2 from by kernel_rfl).trans
 (show w85l0 (r85l0 m) x0 x1 x2 = a85l0 x0 x1 x2 (r85l0 (m + 1) x0 x1 x2) from by unfold w85l0; show _ = a85l0 x0 x1 x2 (b85l0 (r85l0 m) x0 x1 x2); unfold b85l0; exact (cond_both (a85l0 x0 x1 x2) _ (fun h0 => (cond_both (a85l0 x0 x1 x2) _ (fun h1 => (cond_t (ev_and2 h1) (cond_both (a85l0 x0 x1 x2) _ (fun h2 => (cond_t (ev_and2 h2) (cond_both (a85l0 x0 x1 x2) _ (fun h3 => (cond_t (ev_and2 h3) (cond_both (a85l0 x0 x1 x2) _ (fun h4 => (cond_t (ev_and2 h4) (cond_app (a85l0 x0 x1 x2) _ (v85l0 x0 x1 x2 ((r85l0 m) ((r85l1e (IntKind.i64.wrap ((IntKind.i64.wrap ((IntKind.i64.wrap ((IntKind.i64.wrap (x0 + 1)) + 1)) + 1)) + 1)) x1 ((((x2.modify (Int.toNat x1) (fun r => spl 8 r 0 [x0])).modify (Int.toNat x1) (fun r => spl 8 r 1 [(IntKind.i64.wrap (x0 + 1))])).modify (Int.toNat x1) (fun r => spl 8 r 2 [(((ofInt .f32 (IntKind.i64.wrap ((IntKind.i64.wrap (x0 + 1)) + 1))) : Nat) : Int)])).modify (Int.toNat x1) (fun r => spl 8 r 3 [(((ofInt .f32 (IntKind.i64.wrap ((IntKind.i64.wrap ((IntKind.i64.wrap (x0 + 1)) + 1)) + 1))) : Nat) : Int)]))).2.1) (IntKind.i64.wrap (x1 + 1)) ((r85l1e (IntKind.i64.wrap ((IntKind.i64.wrap ((IntKind.i64.wrap ((IntKind.i64.wrap (x0 + 1)) + 1)) + 1)) + 1)) x1 ((((x2.modify (Int.toNat x1) (fun r => spl 8 r 0 [x0])).modify (Int.toNat x1) (fun r => spl 8 r 1 [(IntKind.i64.wrap (x0 + 1))])).modify (Int.toNat x1) (fun r => spl 8 r 2 [(((ofInt .f32 (IntKind.i64.wrap ((IntKind.i64.wrap (x0 + 1)) + 1))) : Nat) : Int)])).modify (Int.toNat x1) (fun r => spl 8 r 3 [(((ofInt .f32 (IntKind.i64.wrap ((IntKind.i64.wrap ((IntKind.i64.wrap (x0 + 1)) + 1)) + 1))) : Nat) : Int)]))).2.2))) rfl))) (fun h4 => rfl)))) (fun h3 => rfl)))) (fun h2 => rfl)))) (fun h1 => rfl))) (fun h0 => rfl)))
set_option maxRecDepth 100000 in
set_option maxHeartbeats 4000000 in
theorem qm85l0 : ∀ m, SumKOk Try.prog (loopN Try.f85 0) 58 [0, 1, 5] [1] (q85l0 m) := by
  intro m
  induction m with
  | zero =>
    intro vals s x h1 h2 h3
    unfold q85l0 at h3; split at h3
    · rename_i h; split at h3
      · rename_i hc; obtain ⟨rfl⟩ := hc; exact absurd h3 (by simp [r85l0, firstT, Nat.beq])
      · exact noQ_ok _ _ _ h1 h2 h3
    · exact noQ_ok _ _ _ h1 h2 h3
  | succ m ih =>
    intro vals s x h1 h2 h3
    unfold q85l0 at h3; split at h3
    · rename_i h; split at h3
      · rename_i hc; obtain ⟨rfl⟩ := hc; exact sum_step ok50 extOk mixed (lok85_5.inner (by kernel_rfl)) ih h1 h2 h (e85l0 m _ _ _) rfl h3
      · exact noQ_ok _ _ _ h1 h2 h3
    · exact noQ_ok _ _ _ h1 h2 h3
noncomputable def Q85l0 : SumK := fun vals s => q85l0 (fuelOf vals s.h) vals s
theorem qok85l0 : SumKOk Try.prog (loopN Try.f85 0) 58 [0, 1, 5] [1] Q85l0 := fuel_ok qm85l0 fuelOf
noncomputable def L85_6 : LoopT := addL L85_5 3 ([0, 1, 5], []) (sumK 58 [0, 1, 5] [1] Q85l0)
theorem lok85_6 : LfOkF Try.prog L85_6 Try.f85 := lfOkF_add lok85_5 qok85l0 (by kernel_rfl) (by kernel_rfl) (by kernel_rfl)

/-- laws.markWallS -/
noncomputable def r85 (x0 : Int) (x1 : List (List Int)) : Nat × Int × List (List Int) :=
 cond (Nat.beq ((r85l0 (1000 + x1.length) x0 0 x1).1) 0)
  (0, ((r85l0 (1000 + x1.length) x0 0 x1).2.1), ((r85l0 (1000 + x1.length) x0 0 x1).2.2))
  (1, 0, [])
noncomputable def a85 (x0 : Int) (x1 : List (List Int)) (p : Nat × Int × List (List Int)) : Res := firstT [((Nat.beq (p.1) 0), .int .i64 (p.2.1), ⟨[⟨true, (some (.tab sc0 (p.2.2)))⟩], 1, [0]⟩)]
noncomputable def w85 (x0 : Int) (x1 : List (List Int)) : Res :=
 (cond (Nat.beq ((r85l0 (1000 + x1.length) x0 0 x1).1) 0)
 (a85 x0 x1 (0, ((r85l0 (1000 + x1.length) x0 0 x1).2.1), ((r85l0 (1000 + x1.length) x0 0 x1).2.2)))
 none)
set_option maxRecDepth 100000 in
set_option maxHeartbeats 4000000 in
theorem e85 (x0 : Int) (x1 : List (List Int)) : evFn Try.prog ext T50 L85_6 200 Try.f85 [wsl 0, .int .i64 x0] ⟨[⟨true, (some (.tab sc0 x1))⟩], 1, []⟩ = firstT [((Nat.beq ((r85 x0 x1).1) 0), .int .i64 ((r85 x0 x1).2.1), ⟨[⟨true, (some (.tab sc0 ((r85 x0 x1).2.2)))⟩], 1, [0]⟩)] :=
 (show evFn Try.prog ext T50 L85_6 200 Try.f85 [wsl 0, .int .i64 x0] ⟨[⟨true, (some (.tab sc0 x1))⟩], 1, []⟩ = w85 x0 x1 from by kernel_rfl).trans
 (show w85 x0 x1 = a85 x0 x1 (r85 x0 x1) from by unfold w85 r85; exact (cond_app (a85 x0 x1) _ rfl rfl))
noncomputable def s85 (args : List Value) (s : St) : List (Bool × Value × St) :=
 match args, s.h with
 | [.iface f0 .nilIface, .int .i64 x0], [⟨true, some (.tab [.int .i64, .int .i64, .fl .f32, .fl .f32, .fl .f32, .fl .f32, .fl .f32, .fl .f32] x1)⟩] => if f0 = 0 then [((Nat.beq ((r85 x0 x1).1) 0), .int .i64 ((r85 x0 x1).2.1), ⟨[⟨true, (some (.tab sc0 ((r85 x0 x1).2.2)))⟩], 1, [0]⟩)] else T50 85 args s
 | _, _ => T50 85 args s
noncomputable def T51 : CallF := addF T50 85 s85
set_option maxRecDepth 100000 in
set_option maxHeartbeats 4000000 in
theorem ok51 : CfOk Try.prog T51 := by
  refine cfOk_add ok50 fun args s r s' h1 h2 h3 => ?_
  unfold s85 at h3; split at h3
  · rename_i h; split at h3
    · rename_i hc; obtain ⟨rfl⟩ := hc; exact callOk ok50 Try.func85 h1 h2 h lok85_6.body (e85 _ _) rfl h3
    · exact ok50 _ _ _ _ _ h1 h2 h3
  · exact ok50 _ _ _ _ _ h1 h2 h3

/-- laws.markPaneS, loop 0: one round -/
noncomputable def b86l0 (ih : Int → Int → List (List Int) → (Nat × Int × List (List Int))) (x0 x1 : Int) (x2 : List (List Int)) : Nat × Int × List (List Int) :=
 cond (decide ((x1 : Int) < ((x2.length : Nat) : Int)))
  (cond ((decide ((0 : Int) ≤ x1)) && (Nat.blt (Int.toNat x1) x2.length))
   (cond ((decide ((0 : Int) ≤ x1)) && (Nat.blt (Int.toNat x1) ((x2.modify (Int.toNat x1) (fun r => spl 4 r 0 [x0])).length)))
    (cond ((decide ((0 : Int) ≤ x1)) && (Nat.blt (Int.toNat x1) (((x2.modify (Int.toNat x1) (fun r => spl 4 r 0 [x0])).modify (Int.toNat x1) (fun r => spl 4 r 1 [(IntKind.i64.wrap (x0 + 1))])).length)))
     (cond ((decide ((0 : Int) ≤ x1)) && (Nat.blt (Int.toNat x1) ((((x2.modify (Int.toNat x1) (fun r => spl 4 r 0 [x0])).modify (Int.toNat x1) (fun r => spl 4 r 1 [(IntKind.i64.wrap (x0 + 1))])).modify (Int.toNat x1) (fun r => spl 4 r 2 [(((ofInt .f32 (IntKind.i64.wrap ((IntKind.i64.wrap (x0 + 1)) + 1))) : Nat) : Int)])).length)))
      (ih (IntKind.i64.wrap ((IntKind.i64.wrap ((IntKind.i64.wrap ((IntKind.i64.wrap (x0 + 1)) + 1)) + 1)) + 1)) (IntKind.i64.wrap (x1 + 1)) ((((x2.modify (Int.toNat x1) (fun r => spl 4 r 0 [x0])).modify (Int.toNat x1) (fun r => spl 4 r 1 [(IntKind.i64.wrap (x0 + 1))])).modify (Int.toNat x1) (fun r => spl 4 r 2 [(((ofInt .f32 (IntKind.i64.wrap ((IntKind.i64.wrap (x0 + 1)) + 1))) : Nat) : Int)])).modify (Int.toNat x1) (fun r => spl 4 r 3 [(((ofInt .f32 (IntKind.i64.wrap ((IntKind.i64.wrap ((IntKind.i64.wrap (x0 + 1)) + 1)) + 1))) : Nat) : Int)])))
      (1, 0, []))
     (1, 0, []))
    (1, 0, []))
   (1, 0, []))
  (0, x0, x2)
noncomputable def r86l0 : Nat → Int → Int → List (List Int) → (Nat × Int × List (List Int))
 | 0 => fun _ _ _ => (1, 0, [])
 | m + 1 => b86l0 (r86l0 m)
noncomputable def a86l0 (x0 x1 : Int) (x2 : List (List Int)) (p : Nat × Int × List (List Int)) : Option (Fin' × List Value × St) := firstT ([((Nat.beq (p.1) 0), .exit 0, [.int .i64 (p.2.1)], ⟨[⟨true, (some (.tab sc1 (p.2.2)))⟩], 1, [0]⟩)].map fun (b, x) => (b, (x.1, frameOf 43 [1] x.2.1, x.2.2)))
noncomputable def u86l0 (x0 x1 : Int) (x2 : List (List Int)) (p : Nat × Int × List (List Int)) : Option (Fin' × List Value × St) := alts ([((Nat.beq (p.1) 0), .exit 0, [.int .i64 (p.2.1)], ⟨[⟨true, (some (.tab sc1 (p.2.2)))⟩], 1, [0]⟩)].map fun (b, x) => (b, (x.1, frameOf 43 [1] x.2.1, x.2.2))) some
theorem v86l0 (x0 x1 : Int) (x2 : List (List Int)) (p : Nat × Int × List (List Int)) : u86l0 x0 x1 x2 p = a86l0 x0 x1 x2 p := alts_first _
noncomputable def q86l0 (m : Nat) : SumK := fun vals s =>
 match vals, s.h with
 | [.iface f0 .nilIface, .int .i64 x0, .int .i64 x1], [⟨true, some (.tab [.int .i64, .int .i64, .fl .f32, .fl .f32] x2)⟩] => if f0 = 0 then [((Nat.beq ((r86l0 m x0 x1 x2).1) 0), .exit 0, [.int .i64 ((r86l0 m x0 x1 x2).2.1)], ⟨[⟨true, (some (.tab sc1 ((r86l0 m x0 x1 x2).2.2)))⟩], 1, [0]⟩)] else noQ vals s
 | _, _ => noQ vals s
noncomputable def w86l0 (ih : Int → Int → List (List Int) → (Nat × Int × List (List Int))) (x0 x1 : Int) (x2 : List (List Int)) : Option (Fin' × List Value × St) :=
 (cond (decide ((x1 : Int) < ((x2.length : Nat) : Int)))
 (cond ((decide ((0 : Int) ≤ x1)) && (Nat.blt (Int.toNat x1) x2.length))
  (cond (Nat.blt (Int.toNat x1) x2.length)
   (cond ((decide ((0 : Int) ≤ x1)) && (Nat.blt (Int.toNat x1) ((x2.modify (Int.toNat x1) (fun r => spl 4 r 0 [x0])).length)))
    (cond (Nat.blt (Int.toNat x1) ((x2.modify (Int.toNat x1) (fun r => spl 4 r 0 [x0])).length))
     (cond ((decide ((0 : Int) ≤ x1)) && (Nat.blt (Int.toNat x1) (((x2.modify (Int.toNat x1) (fun r => spl 4 r 0 [x0])).modify (Int.toNat x1) (fun r => spl 4 r 1 [(IntKind.i64.wrap (x0 + 1))])).length)))
      (cond (Nat.blt (Int.toNat x1) (((x2.modify (Int.toNat x1) (fun r => spl 4 r 0 [x0])).modify (Int.toNat x1) (fun r => spl 4 r 1 [(IntKind.i64.wrap (x0 + 1))])).length))
       (cond ((decide ((0 : Int) ≤ x1)) && (Nat.blt (Int.toNat x1) ((((x2.modify (Int.toNat x1) (fun r => spl 4 r 0 [x0])).modify (Int.toNat x1) (fun r => spl 4 r 1 [(IntKind.i64.wrap (x0 + 1))])).modify (Int.toNat x1) (fun r => spl 4 r 2 [(((ofInt .f32 (IntKind.i64.wrap ((IntKind.i64.wrap (x0 + 1)) + 1))) : Nat) : Int)])).length)))
        (cond (Nat.blt (Int.toNat x1) ((((x2.modify (Int.toNat x1) (fun r => spl 4 r 0 [x0])).modify (Int.toNat x1) (fun r => spl 4 r 1 [(IntKind.i64.wrap (x0 + 1))])).modify (Int.toNat x1) (fun r => spl 4 r 2 [(((ofInt .f32 (IntKind.i64.wrap ((IntKind.i64.wrap (x0 + 1)) + 1))) : Nat) : Int)])).length))
         (u86l0 x0 x1 x2 (ih (IntKind.i64.wrap ((IntKind.i64.wrap ((IntKind.i64.wrap ((IntKind.i64.wrap (x0 + 1)) + 1)) + 1)) + 1)) (IntKind.i64.wrap (x1 + 1)) ((((x2.modify (Int.toNat x1) (fun r => spl 4 r 0 [x0])).modify (Int.toNat x1) (fun r => spl 4 r 1 [(IntKind.i64.wrap (x0 + 1))])).modify (Int.toNat x1) (fun r => spl 4 r 2 [(((ofInt .f32 (IntKind.i64.wrap ((IntKind.i64.wrap (x0 + 1)) + 1))) : Nat) : Int)])).modify (Int.toNat x1) (fun r => spl 4 r 3 [(((ofInt .f32 (IntKind.i64.wrap ((IntKind.i64.wrap ((IntKind.i64.wrap (x0 + 1)) + 1)) + 1))) : Nat) : Int)]))))
         none)
        none)
       none)
      none)
     none)
    none)
   none)
  none)
 (a86l0 x0 x1 x2 (0, x0, x2)))
set_option maxRecDepth 100000 in
set_option maxHeartbeats 4000000 in
theorem e86l0 (m : Nat) (x0 x1 : Int) (x2 : List (List Int)) : evC Try.prog ext T51 noL 200 (loopN Try.f86 0) (loopTail ([0, 1, 5], []) [1] [0] (sumK 43 [0, 1, 5] [1] (q86l0 m))) (frameOf 43 [0, 1, 5] [wsl 0, .int .i64 x0, .int .i64 x1]) ⟨[⟨true, (some (.tab sc1 x2))⟩], 1, []⟩ = firstT ([((Nat.beq ((r86l0 (m + 1) x0 x1 x2).1) 0), .exit 0, [.int .i64 ((r86l0 (m + 1) x0 x1 x2).2.1)], ⟨[⟨true, (some (.tab sc1 ((r86l0 (m + 1) x0 x1 x2).2.2)))⟩], 1, [0]⟩)].map fun (b, x) => (b, (x.1, frameOf 43 [1] x.2.1, x.2.2))) :=
 (show evC Try.prog ext T51 noL 200 (loopN Try.f86 0) (loopTail ([0, 1, 5], []) [1] [0] (sumK 43 [0, 1, 5] [1] (q86l0 m))) (frameOf 43 [0, 1, 5] [wsl 0, .int .i64 x0, .int .i64 x1]) ⟨[⟨true, (some (.tab sc1 x2))⟩], 1, []⟩ = w86l0 (r86l0 m) x0 x1 x2 from by kernel_rfl).trans
 (show w86l0 (r86l0 m) x0 x1 x2 = a86l0 x0 x1 x2 (r86l0 (m + 1) x0 x1 x2) from by unfold w86l0; show _ = a86l0 x0 x1 x2 (b86l0 (r86l0 m) x0 x1 x2); unfold b86l0; exact (cond_both (a86l0 x0 x1 x2) _ (fun h0 => (cond_both (a86l0 x0 x1 x2) _ (fun h1 => (cond_t (ev_and2 h1) (cond_both (a86l0 x0 x1 x2) _ (fun h2 => (cond_t (ev_and2 h2) (cond_both (a86l0 x0 x1 x2) _ (fun h3 => (cond_t (ev_and2 h3) (cond_both (a86l0 x0 x1 x2) _ (fun h4 => (cond_t (ev_and2 h4) (v86l0 x0 x1 x2 ((r86l0 m) (IntKind.i64.wrap ((IntKind.i64.wrap ((IntKind.i64.wrap ((IntKind.i64.wrap (x0 + 1)) + 1)) + 1)) + 1)) (IntKind.i64.wrap (x1 + 1)) ((((x2.modify (Int.toNat x1) (fun r => spl 4 r 0 [x0])).modify (Int.toNat x1) (fun r => spl 4 r 1 [(IntKind.i64.wrap (x0 + 1))])).modify (Int.toNat x1) (fun r => spl 4 r 2 [(((ofInt .f32 (IntKind.i64.wrap ((IntKind.i64.wrap (x0 + 1)) + 1))) : Nat) : Int)])).modify (Int.toNat x1) (fun r => spl 4 r 3 [(((ofInt .f32 (IntKind.i64.wrap ((IntKind.i64.wrap ((IntKind.i64.wrap (x0 + 1)) + 1)) + 1))) : Nat) : Int)])))))) (fun h4 => rfl)))) (fun h3 => rfl)))) (fun h2 => rfl)))) (fun h1 => rfl))) (fun h0 => rfl)))
set_option maxRecDepth 100000 in
set_option maxHeartbeats 4000000 in
theorem qm86l0 : ∀ m, SumKOk Try.prog (loopN Try.f86 0) 43 [0, 1, 5] [1] (q86l0 m) := by
  intro m
  induction m with
  | zero =>
    intro vals s x h1 h2 h3
    unfold q86l0 at h3; split at h3
    · rename_i h; split at h3
      · rename_i hc; obtain ⟨rfl⟩ := hc; exact absurd h3 (by simp [r86l0, firstT, Nat.beq])
      · exact noQ_ok _ _ _ h1 h2 h3
    · exact noQ_ok _ _ _ h1 h2 h3
  | succ m ih =>
    intro vals s x h1 h2 h3
    unfold q86l0 at h3; split at h3
    · rename_i h; split at h3
      · rename_i hc; obtain ⟨rfl⟩ := hc; exact sum_step ok51 extOk mixed ((lfOkF_no _ _).inner (by kernel_rfl)) ih h1 h2 h (e86l0 m _ _ _) rfl h3
      · exact noQ_ok _ _ _ h1 h2 h3
    · exact noQ_ok _ _ _ h1 h2 h3
noncomputable def Q86l0 : SumK := fun vals s => q86l0 (fuelOf vals s.h) vals s
theorem qok86l0 : SumKOk Try.prog (loopN Try.f86 0) 43 [0, 1, 5] [1] Q86l0 := fuel_ok qm86l0 fuelOf
noncomputable def L86_1 : LoopT := addL noL 3 ([0, 1, 5], []) (sumK 43 [0, 1, 5] [1] Q86l0)
theorem lok86_1 : LfOkF Try.prog L86_1 Try.f86 := lfOkF_add (lfOkF_no _ _) qok86l0 (by kernel_rfl) (by kernel_rfl) (by kernel_rfl)

/-- laws.markPaneS -/
noncomputable def r86 (x0 : Int) (x1 : List (List Int)) : Nat × Int × List (List Int) :=
 cond (Nat.beq ((r86l0 (1000 + x1.length) x0 0 x1).1) 0)
  (0, ((r86l0 (1000 + x1.length) x0 0 x1).2.1), ((r86l0 (1000 + x1.length) x0 0 x1).2.2))
  (1, 0, [])
noncomputable def a86 (x0 : Int) (x1 : List (List Int)) (p : Nat × Int × List (List Int)) : Res := firstT [((Nat.beq (p.1) 0), .int .i64 (p.2.1), ⟨[⟨true, (some (.tab sc1 (p.2.2)))⟩], 1, [0]⟩)]
noncomputable def w86 (x0 : Int) (x1 : List (List Int)) : Res :=
 (cond (Nat.beq ((r86l0 (1000 + x1.length) x0 0 x1).1) 0)
 (a86 x0 x1 (0, ((r86l0 (1000 + x1.length) x0 0 x1).2.1), ((r86l0 (1000 + x1.length) x0 0 x1).2.2)))
 none)
set_option maxRecDepth 100000 in
set_option maxHeartbeats 4000000 in
theorem e86 (x0 : Int) (x1 : List (List Int)) : evFn Try.prog ext T51 L86_1 200 Try.f86 [wsl 0, .int .i64 x0] ⟨[⟨true, (some (.tab sc1 x1))⟩], 1, []⟩ = firstT [((Nat.beq ((r86 x0 x1).1) 0), .int .i64 ((r86 x0 x1).2.1), ⟨[⟨true, (some (.tab sc1 ((r86 x0 x1).2.2)))⟩], 1, [0]⟩)] :=
 (show evFn Try.prog ext T51 L86_1 200 Try.f86 [wsl 0, .int .i64 x0] ⟨[⟨true, (some (.tab sc1 x1))⟩], 1, []⟩ = w86 x0 x1 from by kernel_rfl).trans
 (show w86 x0 x1 = a86 x0 x1 (r86 x0 x1) from by unfold w86 r86; exact (cond_app (a86 x0 x1) _ rfl rfl))
noncomputable def s86 (args : List Value) (s : St) : List (Bool × Value × St) :=
 match args, s.h with
 | [.iface f0 .nilIface, .int .i64 x0], [⟨true, some (.tab [.int .i64, .int .i64, .fl .f32, .fl .f32] x1)⟩] => if f0 = 0 then [((Nat.beq ((r86 x0 x1).1) 0), .int .i64 ((r86 x0 x1).2.1), ⟨[⟨true, (some (.tab sc1 ((r86 x0 x1).2.2)))⟩], 1, [0]⟩)] else T51 86 args s
 | _, _ => T51 86 args s
noncomputable def T52 : CallF := addF T51 86 s86
set_option maxRecDepth 100000 in
set_option maxHeartbeats 4000000 in
theorem ok52 : CfOk Try.prog T52 := by
  refine cfOk_add ok51 fun args s r s' h1 h2 h3 => ?_
  unfold s86 at h3; split at h3
  · rename_i h; split at h3
    · rename_i hc; obtain ⟨rfl⟩ := hc; exact callOk ok51 Try.func86 h1 h2 h lok86_1.body (e86 _ _) rfl h3
    · exact ok51 _ _ _ _ _ h1 h2 h3
  · exact ok51 _ _ _ _ _ h1 h2 h3

/-- laws.markFlat -/
noncomputable def r32 (x0 : Int) (x1 x2 x3 x4 : List (List Int)) : Nat × Int × List (List Int) × List (List Int) × List (List Int) × List (List Int) :=
 cond (Nat.beq ((r33 x0 x1).1) 0)
  (cond (Nat.beq ((r33 ((r33 x0 x1).2.1) x2).1) 0)
   (cond (Nat.beq ((r85 ((r33 ((r33 x0 x1).2.1) x2).2.1) x3).1) 0)
    (cond (Nat.beq ((r86 ((r85 ((r33 ((r33 x0 x1).2.1) x2).2.1) x3).2.1) x4).1) 0)
     (0, ((r86 ((r85 ((r33 ((r33 x0 x1).2.1) x2).2.1) x3).2.1) x4).2.1), ((r33 x0 x1).2.2), ((r33 ((r33 x0 x1).2.1) x2).2.2), ((r85 ((r33 ((r33 x0 x1).2.1) x2).2.1) x3).2.2), ((r86 ((r85 ((r33 ((r33 x0 x1).2.1) x2).2.1) x3).2.1) x4).2.2))
     (1, 0, [], [], [], []))
    (1, 0, [], [], [], []))
   (1, 0, [], [], [], []))
  (1, 0, [], [], [], [])
noncomputable def a32 (x0 : Int) (x1 x2 x3 x4 : List (List Int)) (p : Nat × Int × List (List Int) × List (List Int) × List (List Int) × List (List Int)) : Res := firstT [((Nat.beq (p.1) 0), .int .i64 (p.2.1), ⟨[⟨true, (some (.tab [.fl .f32] (p.2.2.1)))⟩, ⟨true, (some (.tab [.fl .f32] (p.2.2.2.1)))⟩, ⟨true, (some (.tab sc0 (p.2.2.2.2.1)))⟩, ⟨true, (some (.tab sc1 (p.2.2.2.2.2)))⟩], 4, [0, 1, 2, 3]⟩)]
noncomputable def w32 (x0 : Int) (x1 x2 x3 x4 : List (List Int)) : Res :=
 (cond (Nat.beq ((r33 x0 x1).1) 0)
 (cond (Nat.beq ((r33 ((r33 x0 x1).2.1) x2).1) 0)
  (cond (Nat.beq ((r85 ((r33 ((r33 x0 x1).2.1) x2).2.1) x3).1) 0)
   (cond (Nat.beq ((r86 ((r85 ((r33 ((r33 x0 x1).2.1) x2).2.1) x3).2.1) x4).1) 0)
    (a32 x0 x1 x2 x3 x4 (0, ((r86 ((r85 ((r33 ((r33 x0 x1).2.1) x2).2.1) x3).2.1) x4).2.1), ((r33 x0 x1).2.2), ((r33 ((r33 x0 x1).2.1) x2).2.2), ((r85 ((r33 ((r33 x0 x1).2.1) x2).2.1) x3).2.2), ((r86 ((r85 ((r33 ((r33 x0 x1).2.1) x2).2.1) x3).2.1) x4).2.2)))
    none)
   none)
  none)
 none)
set_option maxRecDepth 100000 in
set_option maxHeartbeats 4000000 in
theorem e32 (x0 : Int) (x1 x2 x3 x4 : List (List Int)) : evFn Try.prog ext T52 noL 200 Try.f32 [.agg #[wsl 0, wsl 1, wsl 2, wsl 3], .int .i64 x0] ⟨[⟨true, (some (.tab [.fl .f32] x1))⟩, ⟨true, (some (.tab [.fl .f32] x2))⟩, ⟨true, (some (.tab sc0 x3))⟩, ⟨true, (some (.tab sc1 x4))⟩], 4, []⟩ = firstT [((Nat.beq ((r32 x0 x1 x2 x3 x4).1) 0), .int .i64 ((r32 x0 x1 x2 x3 x4).2.1), ⟨[⟨true, (some (.tab [.fl .f32] ((r32 x0 x1 x2 x3 x4).2.2.1)))⟩, ⟨true, (some (.tab [.fl .f32] ((r32 x0 x1 x2 x3 x4).2.2.2.1)))⟩, ⟨true, (some (.tab sc0 ((r32 x0 x1 x2 x3 x4).2.2.2.2.1)))⟩, ⟨true, (some (.tab sc1 ((r32 x0 x1 x2 x3 x4).2.2.2.2.2)))⟩], 4, [0, 1, 2, 3]⟩)] :=
 (show evFn Try.prog ext T52 noL 200 Try.f32 [.agg #[wsl 0, wsl 1, wsl 2, wsl 3], .int .i64 x0] ⟨[⟨true, (some (.tab [.fl .f32] x1))⟩, ⟨true, (some (.tab [.fl .f32] x2))⟩, ⟨true, (some (.tab sc0 x3))⟩, ⟨true, (some (.tab sc1 x4))⟩], 4, []⟩ = w32 x0 x1 x2 x3 x4 from by kernel_rfl).trans
 (show w32 x0 x1 x2 x3 x4 = a32 x0 x1 x2 x3 x4 (r32 x0 x1 x2 x3 x4) from by unfold w32 r32; exact (cond_app (a32 x0 x1 x2 x3 x4) _ (cond_app (a32 x0 x1 x2 x3 x4) _ (cond_app (a32 x0 x1 x2 x3 x4) _ (cond_app (a32 x0 x1 x2 x3 x4) _ rfl rfl) rfl) rfl) rfl))
noncomputable def s32 (args : List Value) (s : St) : List (Bool × Value × St) :=
 match args, s.h with
 | [.agg ⟨[.iface f0 .nilIface, .iface f1 .nilIface, .iface f2 .nilIface, .iface f3 .nilIface]⟩, .int .i64 x0], [⟨true, some (.tab [.fl .f32] x1)⟩, ⟨true, some (.tab [.fl .f32] x2)⟩, ⟨true, some (.tab [.int .i64, .int .i64, .fl .f32, .fl .f32, .fl .f32, .fl .f32, .fl .f32, .fl .f32] x3)⟩, ⟨true, some (.tab [.int .i64, .int .i64, .fl .f32, .fl .f32] x4)⟩] => if f0 = 0 ∧ f1 = 1 ∧ f2 = 2 ∧ f3 = 3 then [((Nat.beq ((r32 x0 x1 x2 x3 x4).1) 0), .int .i64 ((r32 x0 x1 x2 x3 x4).2.1), ⟨[⟨true, (some (.tab [.fl .f32] ((r32 x0 x1 x2 x3 x4).2.2.1)))⟩, ⟨true, (some (.tab [.fl .f32] ((r32 x0 x1 x2 x3 x4).2.2.2.1)))⟩, ⟨true, (some (.tab sc0 ((r32 x0 x1 x2 x3 x4).2.2.2.2.1)))⟩, ⟨true, (some (.tab sc1 ((r32 x0 x1 x2 x3 x4).2.2.2.2.2)))⟩], 4, [0, 1, 2, 3]⟩)] else T52 32 args s
 | _, _ => T52 32 args s
noncomputable def T53 : CallF := addF T52 32 s32
set_option maxRecDepth 100000 in
set_option maxHeartbeats 4000000 in
theorem ok53 : CfOk Try.prog T53 := by
  refine cfOk_add ok52 fun args s r s' h1 h2 h3 => ?_
  unfold s32 at h3; split at h3
  · rename_i h; split at h3
    · rename_i hc; obtain ⟨rfl, rfl, rfl, rfl⟩ := hc; exact callOk ok52 Try.func32 h1 h2 h (lfOkF_no _ _).body (e32 _ _ _ _ _) rfl h3
    · exact ok52 _ _ _ _ _ h1 h2 h3
  · exact ok52 _ _ _ _ _ h1 h2 h3

/-- laws.markFloat32S, loop 0 -/
noncomputable def r33l0b (x0 : Int) : Unit :=
 ()
noncomputable def a33l0b (x0 : Int) (p : Unit) : Option (Fin' × List Value × St) := firstT ([(true, .exit 0, [.int .i64 x0], st0)].map fun (b, x) => (b, (x.1, frameOf 20 [1] x.2.1, x.2.2)))
noncomputable def w33l0b (x0 : Int) : Option (Fin' × List Value × St) :=
 (a33l0b x0 ())
set_option maxRecDepth 100000 in
set_option maxHeartbeats 4000000 in
theorem e33l0b (x0 : Int) : evC Try.prog ext T53 L33_1 200 (loopN Try.f33 0) (loopTail ([0, 1, 5], []) [1] [] (sumK 20 [0, 1, 5] [1] Q33l0)) (frameOf 20 [0, 1, 5] [.slice none 0 0, .int .i64 x0, .int .i64 0]) ⟨[], 0, []⟩ = firstT ([(true, .exit 0, [.int .i64 x0], st0)].map fun (b, x) => (b, (x.1, frameOf 20 [1] x.2.1, x.2.2))) :=
 (show evC Try.prog ext T53 L33_1 200 (loopN Try.f33 0) (loopTail ([0, 1, 5], []) [1] [] (sumK 20 [0, 1, 5] [1] Q33l0)) (frameOf 20 [0, 1, 5] [.slice none 0 0, .int .i64 x0, .int .i64 0]) ⟨[], 0, []⟩ = w33l0b x0 from by kernel_rfl).trans
 (show w33l0b x0 = a33l0b x0 (r33l0b x0) from by unfold w33l0b r33l0b; exact rfl)
noncomputable def Q33l0b : SumK := fun vals s =>
 match vals, s.h with
 | [.slice none f0 f1, .int .i64 x0, .int .i64 f2], [] => if f0 = 0 ∧ f1 = 0 ∧ f2 = 0 then [(true, .exit 0, [.int .i64 x0], st0)] else Q33l0 vals s
 | _, _ => Q33l0 vals s
set_option maxRecDepth 100000 in
set_option maxHeartbeats 4000000 in
theorem qok33l0b : SumKOk Try.prog (loopN Try.f33 0) 20 [0, 1, 5] [1] Q33l0b := by
  intro vals s x h1 h2 h3
  unfold Q33l0b at h3; split at h3
  · rename_i h; split at h3
    · rename_i hc; obtain ⟨rfl, rfl, rfl⟩ := hc; exact sum_step ok53 extOk mixed (lok33_1.inner (by kernel_rfl)) qok33l0 h1 h2 h (e33l0b _) rfl h3
    · exact qok33l0 _ _ _ h1 h2 h3
  · exact qok33l0 _ _ _ h1 h2 h3
noncomputable def L33_2 : LoopT := addL L33_1 3 ([0, 1, 5], []) (sumK 20 [0, 1, 5] [1] Q33l0b)
theorem lok33_2 : LfOkF Try.prog L33_2 Try.f33 := lfOkF_add lok33_1 qok33l0b (by kernel_rfl) (by kernel_rfl) (by kernel_rfl)

/-- laws.markFloat32S -/
noncomputable def r33b (x0 : Int) : Unit :=
 ()
noncomputable def a33b (x0 : Int) (p : Unit) : Res := firstT [(true, .int .i64 x0, st0)]
noncomputable def w33b (x0 : Int) : Res :=
 (a33b x0 ())
set_option maxRecDepth 100000 in
set_option maxHeartbeats 4000000 in
theorem e33b (x0 : Int) : evFn Try.prog ext T53 L33_2 200 Try.f33 [.slice none 0 0, .int .i64 x0] st0 = firstT [(true, .int .i64 x0, st0)] :=
 (show evFn Try.prog ext T53 L33_2 200 Try.f33 [.slice none 0 0, .int .i64 x0] st0 = w33b x0 from by kernel_rfl).trans
 (show w33b x0 = a33b x0 (r33b x0) from by unfold w33b r33b; exact rfl)
noncomputable def s33b (args : List Value) (s : St) : List (Bool × Value × St) :=
 match args, s.h with
 | [.slice none f0 f1, .int .i64 x0], [] => if f0 = 0 ∧ f1 = 0 then [(true, .int .i64 x0, st0)] else T53 33 args s
 | _, _ => T53 33 args s
noncomputable def T54 : CallF := addF T53 33 s33b
set_option maxRecDepth 100000 in
set_option maxHeartbeats 4000000 in
theorem ok54 : CfOk Try.prog T54 := by
  refine cfOk_add ok53 fun args s r s' h1 h2 h3 => ?_
  unfold s33b at h3; split at h3
  · rename_i h; split at h3
    · rename_i hc; obtain ⟨rfl, rfl⟩ := hc; exact callOk ok53 Try.func33 h1 h2 h lok33_2.body (e33b _) rfl h3
    · exact ok53 _ _ _ _ _ h1 h2 h3
  · exact ok53 _ _ _ _ _ h1 h2 h3

/-- laws.markWallS, loop 0 -/
noncomputable def r85l0b (x0 : Int) : Unit :=
 ()
noncomputable def a85l0b (x0 : Int) (p : Unit) : Option (Fin' × List Value × St) := firstT ([(true, .exit 0, [.int .i64 x0], st0)].map fun (b, x) => (b, (x.1, frameOf 58 [1] x.2.1, x.2.2)))
noncomputable def w85l0b (x0 : Int) : Option (Fin' × List Value × St) :=
 (a85l0b x0 ())
set_option maxRecDepth 100000 in
set_option maxHeartbeats 4000000 in
theorem e85l0b (x0 : Int) : evC Try.prog ext T54 L85_6 200 (loopN Try.f85 0) (loopTail ([0, 1, 5], []) [1] [] (sumK 58 [0, 1, 5] [1] Q85l0)) (frameOf 58 [0, 1, 5] [.slice none 0 0, .int .i64 x0, .int .i64 0]) ⟨[], 0, []⟩ = firstT ([(true, .exit 0, [.int .i64 x0], st0)].map fun (b, x) => (b, (x.1, frameOf 58 [1] x.2.1, x.2.2))) :=
 (show evC Try.prog ext T54 L85_6 200 (loopN Try.f85 0) (loopTail ([0, 1, 5], []) [1] [] (sumK 58 [0, 1, 5] [1] Q85l0)) (frameOf 58 [0, 1, 5] [.slice none 0 0, .int .i64 x0, .int .i64 0]) ⟨[], 0, []⟩ = w85l0b x0 from by kernel_rfl).trans
 (show w85l0b x0 = a85l0b x0 (r85l0b x0) from by unfold w85l0b r85l0b; exact rfl)
noncomputable def Q85l0b : SumK := fun vals s =>
 match vals, s.h with
 | [.slice none f0 f1, .int .i64 x0, .int .i64 f2], [] => if f0 = 0 ∧ f1 = 0 ∧ f2 = 0 then [(true, .exit 0, [.int .i64 x0], st0)] else Q85l0 vals s
 | _, _ => Q85l0 vals s
set_option maxRecDepth 100000 in
set_option maxHeartbeats 4000000 in
theorem qok85l0b : SumKOk Try.prog (loopN Try.f85 0) 58 [0, 1, 5] [1] Q85l0b := by
  intro vals s x h1 h2 h3
  unfold Q85l0b at h3; split at h3
  · rename_i h; split at h3
    · rename_i hc; obtain ⟨rfl, rfl, rfl⟩ := hc; exact sum_step ok54 extOk mixed (lok85_6.inner (by kernel_rfl)) qok85l0 h1 h2 h (e85l0b _) rfl h3
    · exact qok85l0 _ _ _ h1 h2 h3
  · exact qok85l0 _ _ _ h1 h2 h3
noncomputable def L85_7 : LoopT := addL L85_6 3 ([0, 1, 5], []) (sumK 58 [0, 1, 5] [1] Q85l0b)
theorem lok85_7 : LfOkF Try.prog L85_7 Try.f85 := lfOkF_add lok85_6 qok85l0b (by kernel_rfl) (by kernel_rfl) (by kernel_rfl)

/-- laws.markWallS -/
noncomputable def r85b (x0 : Int) : Unit :=
 ()
noncomputable def a85b (x0 : Int) (p : Unit) : Res := firstT [(true, .int .i64 x0, st0)]
noncomputable def w85b (x0 : Int) : Res :=
 (a85b x0 ())
set_option maxRecDepth 100000 in
set_option maxHeartbeats 4000000 in
theorem e85b (x0 : Int) : evFn Try.prog ext T54 L85_7 200 Try.f85 [.slice none 0 0, .int .i64 x0] st0 = firstT [(true, .int .i64 x0, st0)] :=
 (show evFn Try.prog ext T54 L85_7 200 Try.f85 [.slice none 0 0, .int .i64 x0] st0 = w85b x0 from by kernel_rfl).trans
 (show w85b x0 = a85b x0 (r85b x0) from by unfold w85b r85b; exact rfl)
noncomputable def s85b (args : List Value) (s : St) : List (Bool × Value × St) :=
 match args, s.h with
 | [.slice none f0 f1, .int .i64 x0], [] => if f0 = 0 ∧ f1 = 0 then [(true, .int .i64 x0, st0)] else T54 85 args s
 | _, _ => T54 85 args s
noncomputable def T55 : CallF := addF T54 85 s85b
set_option maxRecDepth 100000 in
set_option maxHeartbeats 4000000 in
theorem ok55 : CfOk Try.prog T55 := by
  refine cfOk_add ok54 fun args s r s' h1 h2 h3 => ?_
  unfold s85b at h3; split at h3
  · rename_i h; split at h3
    · rename_i hc; obtain ⟨rfl, rfl⟩ := hc; exact callOk ok54 Try.func85 h1 h2 h lok85_7.body (e85b _) rfl h3
    · exact ok54 _ _ _ _ _ h1 h2 h3
  · exact ok54 _ _ _ _ _ h1 h2 h3

/-- laws.markPaneS, loop 0 -/
noncomputable def r86l0b (x0 : Int) : Unit :=
 ()
noncomputable def a86l0b (x0 : Int) (p : Unit) : Option (Fin' × List Value × St) := firstT ([(true, .exit 0, [.int .i64 x0], st0)].map fun (b, x) => (b, (x.1, frameOf 43 [1] x.2.1, x.2.2)))
noncomputable def w86l0b (x0 : Int) : Option (Fin' × List Value × St) :=
 (a86l0b x0 ())
set_option maxRecDepth 100000 in
set_option maxHeartbeats 4000000 in
theorem e86l0b (x0 : Int) : evC Try.prog ext T55 L86_1 200 (loopN Try.f86 0) (loopTail ([0, 1, 5], []) [1] [] (sumK 43 [0, 1, 5] [1] Q86l0)) (frameOf 43 [0, 1, 5] [.slice none 0 0, .int .i64 x0, .int .i64 0]) ⟨[], 0, []⟩ = firstT ([(true, .exit 0, [.int .i64 x0], st0)].map fun (b, x) => (b, (x.1, frameOf 43 [1] x.2.1, x.2.2))) :=
 (show evC Try.prog ext T55 L86_1 200 (loopN Try.f86 0) (loopTail ([0, 1, 5], []) [1] [] (sumK 43 [0, 1, 5] [1] Q86l0)) (frameOf 43 [0, 1, 5] [.slice none 0 0, .int .i64 x0, .int .i64 0]) ⟨[], 0, []⟩ = w86l0b x0 from by kernel_rfl).trans
 (show w86l0b x0 = a86l0b x0 (r86l0b x0) from by unfold w86l0b r86l0b; exact rfl)
noncomputable def Q86l0b : SumK := fun vals s =>
 match vals, s.h with
 | [.slice none f0 f1, .int .i64 x0, .int .i64 f2], [] => if f0 = 0 ∧ f1 = 0 ∧ f2 = 0 then [(true, .exit 0, [.int .i64 x0], st0)] else Q86l0 vals s
 | _, _ => Q86l0 vals s
set_option maxRecDepth 100000 in
set_option maxHeartbeats 4000000 in
theorem qok86l0b : SumKOk Try.prog (loopN Try.f86 0) 43 [0, 1, 5] [1] Q86l0b := by
  intro vals s x h1 h2 h3
  unfold Q86l0b at h3; split at h3
  · rename_i h; split at h3
    · rename_i hc; obtain ⟨rfl, rfl, rfl⟩ := hc; exact sum_step ok55 extOk mixed (lok86_1.inner (by kernel_rfl)) qok86l0 h1 h2 h (e86l0b _) rfl h3
    · exact qok86l0 _ _ _ h1 h2 h3
  · exact qok86l0 _ _ _ h1 h2 h3
noncomputable def L86_2 : LoopT := addL L86_1 3 ([0, 1, 5], []) (sumK 43 [0, 1, 5] [1] Q86l0b)
theorem lok86_2 : LfOkF Try.prog L86_2 Try.f86 := lfOkF_add lok86_1 qok86l0b (by kernel_rfl) (by kernel_rfl) (by kernel_rfl)

/-- laws.markPaneS -/
noncomputable def r86b (x0 : Int) : Unit :=
 ()
noncomputable def a86b (x0 : Int) (p : Unit) : Res := firstT [(true, .int .i64 x0, st0)]
noncomputable def w86b (x0 : Int) : Res :=
 (a86b x0 ())
set_option maxRecDepth 100000 in
set_option maxHeartbeats 4000000 in
theorem e86b (x0 : Int) : evFn Try.prog ext T55 L86_2 200 Try.f86 [.slice none 0 0, .int .i64 x0] st0 = firstT [(true, .int .i64 x0, st0)] :=
 (show evFn Try.prog ext T55 L86_2 200 Try.f86 [.slice none 0 0, .int .i64 x0] st0 = w86b x0 from by kernel_rfl).trans
 (show w86b x0 = a86b x0 (r86b x0) from by unfold w86b r86b; exact rfl)
noncomputable def s86b (args : List Value) (s : St) : List (Bool × Value × St) :=
 match args, s.h with
 | [.slice none f0 f1, .int .i64 x0], [] => if f0 = 0 ∧ f1 = 0 then [(true, .int .i64 x0, st0)] else T55 86 args s
 | _, _ => T55 86 args s
noncomputable def T56 : CallF := addF T55 86 s86b
set_option maxRecDepth 100000 in
set_option maxHeartbeats 4000000 in
theorem ok56 : CfOk Try.prog T56 := by
  refine cfOk_add ok55 fun args s r s' h1 h2 h3 => ?_
  unfold s86b at h3; split at h3
  · rename_i h; split at h3
    · rename_i hc; obtain ⟨rfl, rfl⟩ := hc; exact callOk ok55 Try.func86 h1 h2 h lok86_2.body (e86b _) rfl h3
    · exact ok55 _ _ _ _ _ h1 h2 h3
  · exact ok55 _ _ _ _ _ h1 h2 h3

/-- laws.markFlat -/
noncomputable def r32b (x0 : Int) : Unit :=
 ()
noncomputable def a32b (x0 : Int) (p : Unit) : Res := firstT [(true, .int .i64 x0, st0)]
noncomputable def w32b (x0 : Int) : Res :=
 (a32b x0 ())
set_option maxRecDepth 100000 in
set_option maxHeartbeats 4000000 in
theorem e32b (x0 : Int) : evFn Try.prog ext T56 noL 200 Try.f32 [.agg #[.slice none 0 0, .slice none 0 0, .slice none 0 0, .slice none 0 0], .int .i64 x0] st0 = firstT [(true, .int .i64 x0, st0)] :=
 (show evFn Try.prog ext T56 noL 200 Try.f32 [.agg #[.slice none 0 0, .slice none 0 0, .slice none 0 0, .slice none 0 0], .int .i64 x0] st0 = w32b x0 from by kernel_rfl).trans
 (show w32b x0 = a32b x0 (r32b x0) from by unfold w32b r32b; exact rfl)
noncomputable def s32b (args : List Value) (s : St) : List (Bool × Value × St) :=
 match args, s.h with
 | [.agg ⟨[.slice none f0 f1, .slice none f2 f3, .slice none f4 f5, .slice none f6 f7]⟩, .int .i64 x0], [] => if f0 = 0 ∧ f1 = 0 ∧ f2 = 0 ∧ f3 = 0 ∧ f4 = 0 ∧ f5 = 0 ∧ f6 = 0 ∧ f7 = 0 then [(true, .int .i64 x0, st0)] else T56 32 args s
 | _, _ => T56 32 args s
noncomputable def T57 : CallF := addF T56 32 s32b
set_option maxRecDepth 100000 in
set_option maxHeartbeats 4000000 in
theorem ok57 : CfOk Try.prog T57 := by
  refine cfOk_add ok56 fun args s r s' h1 h2 h3 => ?_
  unfold s32b at h3; split at h3
  · rename_i h; split at h3
    · rename_i hc; obtain ⟨rfl, rfl, rfl, rfl, rfl, rfl, rfl, rfl⟩ := hc; exact callOk ok56 Try.func32 h1 h2 h (lfOkF_no _ _).body (e32b _) rfl h3
    · exact ok56 _ _ _ _ _ h1 h2 h3
  · exact ok56 _ _ _ _ _ h1 h2 h3

/-- laws.heldFloat32S, loop 0 -/
noncomputable def r34l0 (x0 : Int) : Unit :=
 ()
noncomputable def a34l0 (x0 : Int) (p : Unit) : Option (Fin' × List Value × St) := firstT ([(true, .exit 0, [.int .i64 x0, anyV], st0)].map fun (b, x) => (b, (x.1, frameOf 22 [1, 4] x.2.1, x.2.2)))
noncomputable def w34l0 (x0 : Int) : Option (Fin' × List Value × St) :=
 (a34l0 x0 ())
set_option maxRecDepth 100000 in
set_option maxHeartbeats 4000000 in
theorem e34l0 (x0 : Int) : evC Try.prog ext T57 noL 200 (loopN Try.f34 0) (loopTail ([0, 1, 5], []) [1, 4] [] (sumK 22 [0, 1, 5] [1, 4] noQ)) (frameOf 22 [0, 1, 5] [.slice none 0 0, .int .i64 x0, .int .i64 0]) ⟨[], 0, []⟩ = firstT ([(true, .exit 0, [.int .i64 x0, anyV], st0)].map fun (b, x) => (b, (x.1, frameOf 22 [1, 4] x.2.1, x.2.2))) :=
 (show evC Try.prog ext T57 noL 200 (loopN Try.f34 0) (loopTail ([0, 1, 5], []) [1, 4] [] (sumK 22 [0, 1, 5] [1, 4] noQ)) (frameOf 22 [0, 1, 5] [.slice none 0 0, .int .i64 x0, .int .i64 0]) ⟨[], 0, []⟩ = w34l0 x0 from by kernel_rfl).trans
 (show w34l0 x0 = a34l0 x0 (r34l0 x0) from by unfold w34l0 r34l0; exact rfl)
noncomputable def Q34l0 : SumK := fun vals s =>
 match vals, s.h with
 | [.slice none f0 f1, .int .i64 x0, .int .i64 f2], [] => if f0 = 0 ∧ f1 = 0 ∧ f2 = 0 then [(true, .exit 0, [.int .i64 x0, anyV], st0)] else noQ vals s
 | _, _ => noQ vals s
set_option maxRecDepth 100000 in
set_option maxHeartbeats 4000000 in
theorem qok34l0 : SumKOk Try.prog (loopN Try.f34 0) 22 [0, 1, 5] [1, 4] Q34l0 := by
  intro vals s x h1 h2 h3
  unfold Q34l0 at h3; split at h3
  · rename_i h; split at h3
    · rename_i hc; obtain ⟨rfl, rfl, rfl⟩ := hc; exact sum_step ok57 extOk mixed ((lfOkF_no _ _).inner (by kernel_rfl)) noQ_ok h1 h2 h (e34l0 _) rfl h3
    · exact noQ_ok _ _ _ h1 h2 h3
  · exact noQ_ok _ _ _ h1 h2 h3
noncomputable def L34_1 : LoopT := addL noL 3 ([0, 1, 5], []) (sumK 22 [0, 1, 5] [1, 4] Q34l0)
theorem lok34_1 : LfOkF Try.prog L34_1 Try.f34 := lfOkF_add (lfOkF_no _ _) qok34l0 (by kernel_rfl) (by kernel_rfl) (by kernel_rfl)

/-- laws.heldFloat32S -/
noncomputable def r34 (x0 : Int) : Unit :=
 ()
noncomputable def a34 (x0 : Int) (p : Unit) : Res := firstT [(true, .int .i64 x0, st0)]
noncomputable def w34 (x0 : Int) : Res :=
 (a34 x0 ())
set_option maxRecDepth 100000 in
set_option maxHeartbeats 4000000 in
theorem e34 (x0 : Int) : evFn Try.prog ext T57 L34_1 200 Try.f34 [.slice none 0 0, .int .i64 x0] st0 = firstT [(true, .int .i64 x0, st0)] :=
 (show evFn Try.prog ext T57 L34_1 200 Try.f34 [.slice none 0 0, .int .i64 x0] st0 = w34 x0 from by kernel_rfl).trans
 (show w34 x0 = a34 x0 (r34 x0) from by unfold w34 r34; exact rfl)
noncomputable def s34 (args : List Value) (s : St) : List (Bool × Value × St) :=
 match args, s.h with
 | [.slice none f0 f1, .int .i64 x0], [] => if f0 = 0 ∧ f1 = 0 then [(true, .int .i64 x0, st0)] else T57 34 args s
 | _, _ => T57 34 args s
noncomputable def T58 : CallF := addF T57 34 s34
set_option maxRecDepth 100000 in
set_option maxHeartbeats 4000000 in
theorem ok58 : CfOk Try.prog T58 := by
  refine cfOk_add ok57 fun args s r s' h1 h2 h3 => ?_
  unfold s34 at h3; split at h3
  · rename_i h; split at h3
    · rename_i hc; obtain ⟨rfl, rfl⟩ := hc; exact callOk ok57 Try.func34 h1 h2 h lok34_1.body (e34 _) rfl h3
    · exact ok57 _ _ _ _ _ h1 h2 h3
  · exact ok57 _ _ _ _ _ h1 h2 h3
end Go.Proofs.Ytfnfapmncibjfaa
