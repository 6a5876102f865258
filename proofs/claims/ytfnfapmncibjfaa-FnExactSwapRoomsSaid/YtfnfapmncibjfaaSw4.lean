/- What the functions that the statements reach answer, part 4. -/
import Derived.Test.YtfnfapmncibjfaaSw3
namespace Go.Proofs.Ytfnfapmncibjfaa
open Go.Ab
set_option maxHeartbeats 4000000
set_option maxRecDepth 100000

/-- laws.heldWallS, loop 0 -/
noncomputable def r89l0 (x0 : Int) : Unit :=
 ()
noncomputable def a89l0 (x0 : Int) (p : Unit) : Option (Fin' × List Value × St) := firstT ([(true, .exit 0, [.int .i64 x0, anyV], st0)].map fun (b, x) => (b, (x.1, frameOf 68 [1, 4] x.2.1, x.2.2)))
noncomputable def w89l0 (x0 : Int) : Option (Fin' × List Value × St) :=
 (a89l0 x0 ())
set_option maxRecDepth 100000 in
set_option maxHeartbeats 4000000 in
theorem e89l0 (x0 : Int) : evC Try.prog ext T58 noL 200 (loopN Try.f89 0) (loopTail ([0, 1, 5], []) [1, 4] [] (sumK 68 [0, 1, 5] [1, 4] noQ)) (frameOf 68 [0, 1, 5] [.slice none 0 0, .int .i64 x0, .int .i64 0]) ⟨[], 0, []⟩ = firstT ([(true, .exit 0, [.int .i64 x0, anyV], st0)].map fun (b, x) => (b, (x.1, frameOf 68 [1, 4] x.2.1, x.2.2))) :=
 (show evC Try.prog ext T58 noL 200 (loopN Try.f89 0) (loopTail ([0, 1, 5], []) [1, 4] [] (sumK 68 [0, 1, 5] [1, 4] noQ)) (frameOf 68 [0, 1, 5] [.slice none 0 0, .int .i64 x0, .int .i64 0]) ⟨[], 0, []⟩ = w89l0 x0 from by kernel_rfl).trans
 (show w89l0 x0 = a89l0 x0 (r89l0 x0) from by unfold w89l0 r89l0; exact rfl)
noncomputable def Q89l0 : SumK := fun vals s =>
 match vals, s.h with
 | [.slice none f0 f1, .int .i64 x0, .int .i64 f2], [] => if f0 = 0 ∧ f1 = 0 ∧ f2 = 0 then [(true, .exit 0, [.int .i64 x0, anyV], st0)] else noQ vals s
 | _, _ => noQ vals s
set_option maxRecDepth 100000 in
set_option maxHeartbeats 4000000 in
theorem qok89l0 : SumKOk Try.prog (loopN Try.f89 0) 68 [0, 1, 5] [1, 4] Q89l0 := by
  intro vals s x h1 h2 h3
  unfold Q89l0 at h3; split at h3
  · rename_i h; split at h3
    · rename_i hc; obtain ⟨rfl, rfl, rfl⟩ := hc; exact sum_step ok58 extOk mixed ((lfOkF_no _ _).inner (by kernel_rfl)) noQ_ok h1 h2 h (e89l0 _) rfl h3
    · exact noQ_ok _ _ _ h1 h2 h3
  · exact noQ_ok _ _ _ h1 h2 h3
noncomputable def L89_1 : LoopT := addL noL 3 ([0, 1, 5], []) (sumK 68 [0, 1, 5] [1, 4] Q89l0)
theorem lok89_1 : LfOkF Try.prog L89_1 Try.f89 := lfOkF_add (lfOkF_no _ _) qok89l0 (by kernel_rfl) (by kernel_rfl) (by kernel_rfl)

/-- laws.heldWallS -/
noncomputable def r89 (x0 : Int) : Unit :=
 ()
noncomputable def a89 (x0 : Int) (p : Unit) : Res := firstT [(true, .int .i64 x0, st0)]
noncomputable def w89 (x0 : Int) : Res :=
 (a89 x0 ())
set_option maxRecDepth 100000 in
set_option maxHeartbeats 4000000 in
theorem e89 (x0 : Int) : evFn Try.prog ext T58 L89_1 200 Try.f89 [.slice none 0 0, .int .i64 x0] st0 = firstT [(true, .int .i64 x0, st0)] :=
 (show evFn Try.prog ext T58 L89_1 200 Try.f89 [.slice none 0 0, .int .i64 x0] st0 = w89 x0 from by kernel_rfl).trans
 (show w89 x0 = a89 x0 (r89 x0) from by unfold w89 r89; exact rfl)
noncomputable def s89 (args : List Value) (s : St) : List (Bool × Value × St) :=
 match args, s.h with
 | [.slice none f0 f1, .int .i64 x0], [] => if f0 = 0 ∧ f1 = 0 then [(true, .int .i64 x0, st0)] else T58 89 args s
 | _, _ => T58 89 args s
noncomputable def T59 : CallF := addF T58 89 s89
set_option maxRecDepth 100000 in
set_option maxHeartbeats 4000000 in
theorem ok59 : CfOk Try.prog T59 := by
  refine cfOk_add ok58 fun args s r s' h1 h2 h3 => ?_
  unfold s89 at h3; split at h3
  · rename_i h; split at h3
    · rename_i hc; obtain ⟨rfl, rfl⟩ := hc; exact callOk ok58 Try.func89 h1 h2 h lok89_1.body (e89 _) rfl h3
    · exact ok58 _ _ _ _ _ h1 h2 h3
  · exact ok58 _ _ _ _ _ h1 h2 h3

/-- laws.heldPaneS, loop 0 -/
noncomputable def r90l0 (x0 : Int) : Unit :=
 ()
noncomputable def a90l0 (x0 : Int) (p : Unit) : Option (Fin' × List Value × St) := firstT ([(true, .exit 0, [.int .i64 x0, anyV], st0)].map fun (b, x) => (b, (x.1, frameOf 51 [1, 4] x.2.1, x.2.2)))
noncomputable def w90l0 (x0 : Int) : Option (Fin' × List Value × St) :=
 (a90l0 x0 ())
set_option maxRecDepth 100000 in
set_option maxHeartbeats 4000000 in
theorem e90l0 (x0 : Int) : evC Try.prog ext T59 noL 200 (loopN Try.f90 0) (loopTail ([0, 1, 5], []) [1, 4] [] (sumK 51 [0, 1, 5] [1, 4] noQ)) (frameOf 51 [0, 1, 5] [.slice none 0 0, .int .i64 x0, .int .i64 0]) ⟨[], 0, []⟩ = firstT ([(true, .exit 0, [.int .i64 x0, anyV], st0)].map fun (b, x) => (b, (x.1, frameOf 51 [1, 4] x.2.1, x.2.2))) :=
 (show evC Try.prog ext T59 noL 200 (loopN Try.f90 0) (loopTail ([0, 1, 5], []) [1, 4] [] (sumK 51 [0, 1, 5] [1, 4] noQ)) (frameOf 51 [0, 1, 5] [.slice none 0 0, .int .i64 x0, .int .i64 0]) ⟨[], 0, []⟩ = w90l0 x0 from by kernel_rfl).trans
 (show w90l0 x0 = a90l0 x0 (r90l0 x0) from by unfold w90l0 r90l0; exact rfl)
noncomputable def Q90l0 : SumK := fun vals s =>
 match vals, s.h with
 | [.slice none f0 f1, .int .i64 x0, .int .i64 f2], [] => if f0 = 0 ∧ f1 = 0 ∧ f2 = 0 then [(true, .exit 0, [.int .i64 x0, anyV], st0)] else noQ vals s
 | _, _ => noQ vals s
set_option maxRecDepth 100000 in
set_option maxHeartbeats 4000000 in
theorem qok90l0 : SumKOk Try.prog (loopN Try.f90 0) 51 [0, 1, 5] [1, 4] Q90l0 := by
  intro vals s x h1 h2 h3
  unfold Q90l0 at h3; split at h3
  · rename_i h; split at h3
    · rename_i hc; obtain ⟨rfl, rfl, rfl⟩ := hc; exact sum_step ok59 extOk mixed ((lfOkF_no _ _).inner (by kernel_rfl)) noQ_ok h1 h2 h (e90l0 _) rfl h3
    · exact noQ_ok _ _ _ h1 h2 h3
  · exact noQ_ok _ _ _ h1 h2 h3
noncomputable def L90_1 : LoopT := addL noL 3 ([0, 1, 5], []) (sumK 51 [0, 1, 5] [1, 4] Q90l0)
theorem lok90_1 : LfOkF Try.prog L90_1 Try.f90 := lfOkF_add (lfOkF_no _ _) qok90l0 (by kernel_rfl) (by kernel_rfl) (by kernel_rfl)

/-- laws.heldPaneS -/
noncomputable def r90 (x0 : Int) : Unit :=
 ()
noncomputable def a90 (x0 : Int) (p : Unit) : Res := firstT [(true, .int .i64 x0, st0)]
noncomputable def w90 (x0 : Int) : Res :=
 (a90 x0 ())
set_option maxRecDepth 100000 in
set_option maxHeartbeats 4000000 in
theorem e90 (x0 : Int) : evFn Try.prog ext T59 L90_1 200 Try.f90 [.slice none 0 0, .int .i64 x0] st0 = firstT [(true, .int .i64 x0, st0)] :=
 (show evFn Try.prog ext T59 L90_1 200 Try.f90 [.slice none 0 0, .int .i64 x0] st0 = w90 x0 from by kernel_rfl).trans
 (show w90 x0 = a90 x0 (r90 x0) from by unfold w90 r90; exact rfl)
noncomputable def s90 (args : List Value) (s : St) : List (Bool × Value × St) :=
 match args, s.h with
 | [.slice none f0 f1, .int .i64 x0], [] => if f0 = 0 ∧ f1 = 0 then [(true, .int .i64 x0, st0)] else T59 90 args s
 | _, _ => T59 90 args s
noncomputable def T60 : CallF := addF T59 90 s90
set_option maxRecDepth 100000 in
set_option maxHeartbeats 4000000 in
theorem ok60 : CfOk Try.prog T60 := by
  refine cfOk_add ok59 fun args s r s' h1 h2 h3 => ?_
  unfold s90 at h3; split at h3
  · rename_i h; split at h3
    · rename_i hc; obtain ⟨rfl, rfl⟩ := hc; exact callOk ok59 Try.func90 h1 h2 h lok90_1.body (e90 _) rfl h3
    · exact ok59 _ _ _ _ _ h1 h2 h3
  · exact ok59 _ _ _ _ _ h1 h2 h3

/-- laws.heldFlat -/
noncomputable def r37 (x0 : Int) : Int :=
 cond (decide ((x0 : Int) < 0))
  ((-1))
  (x0)
noncomputable def a37 (x0 : Int) (p : Int) : Res := firstT [(true, .int .i64 p, st0)]
noncomputable def w37 (x0 : Int) : Res :=
 (cond (decide ((x0 : Int) < 0))
 (a37 x0 ((-1)))
 (cond (decide ((x0 : Int) < 0))
  (some (.int .i64 (-1), st0))
  (cond (decide ((x0 : Int) < 0))
   (some (.int .i64 (-1), st0))
   (cond (decide ((x0 : Int) < 0))
    (some (.int .i64 (-1), st0))
    (a37 x0 (x0))))))
set_option maxRecDepth 100000 in
set_option maxHeartbeats 4000000 in
theorem e37 (x0 : Int) : evFn Try.prog ext T60 noL 200 Try.f37 [.agg #[.slice none 0 0, .slice none 0 0, .slice none 0 0, .slice none 0 0], .int .i64 x0] st0 = firstT [(true, .int .i64 (r37 x0), st0)] :=
 (show evFn Try.prog ext T60 noL 200 Try.f37 [.agg #[.slice none 0 0, .slice none 0 0, .slice none 0 0, .slice none 0 0], .int .i64 x0] st0 = w37 x0 from by kernel_rfl).trans
 (show w37 x0 = a37 x0 (r37 x0) from by unfold w37 r37; exact (cond_both (a37 x0) _ (fun h0 => rfl) (fun h0 => (cond_f h0 (cond_f h0 (cond_f h0 rfl))))))
noncomputable def s37 (args : List Value) (s : St) : List (Bool × Value × St) :=
 match args, s.h with
 | [.agg ⟨[.slice none f0 f1, .slice none f2 f3, .slice none f4 f5, .slice none f6 f7]⟩, .int .i64 x0], [] => if f0 = 0 ∧ f1 = 0 ∧ f2 = 0 ∧ f3 = 0 ∧ f4 = 0 ∧ f5 = 0 ∧ f6 = 0 ∧ f7 = 0 then [(true, .int .i64 (r37 x0), st0)] else T60 37 args s
 | _, _ => T60 37 args s
noncomputable def T61 : CallF := addF T60 37 s37
set_option maxRecDepth 100000 in
set_option maxHeartbeats 4000000 in
theorem ok61 : CfOk Try.prog T61 := by
  refine cfOk_add ok60 fun args s r s' h1 h2 h3 => ?_
  unfold s37 at h3; split at h3
  · rename_i h; split at h3
    · rename_i hc; obtain ⟨rfl, rfl, rfl, rfl, rfl, rfl, rfl, rfl⟩ := hc; exact callOk ok60 Try.func37 h1 h2 h (lfOkF_no _ _).body (e37 _) rfl h3
    · exact ok60 _ _ _ _ _ h1 h2 h3
  · exact ok60 _ _ _ _ _ h1 h2 h3

/-- laws.eqFloat32S, loop 0 -/
noncomputable def r31l0c (x0 : List (List Int)) : Nat :=
 cond (decide ((0 : Int) < ((x0.length : Nat) : Int)))
  (cond (Nat.blt 0 x0.length)
   (1)
   (1))
  (0)
noncomputable def a31l0c (x0 : List (List Int)) (p : Nat) : Option (Fin' × List Value × St) := firstT ([((Nat.beq p 0), .exit 0, [anyV], ⟨[⟨true, (some (.tab [.fl .f32] x0))⟩], 1, []⟩)].map fun (b, x) => (b, (x.1, frameOf 29 [4] x.2.1, x.2.2)))
noncomputable def w31l0c (x0 : List (List Int)) : Option (Fin' × List Value × St) :=
 (cond (decide ((0 : Int) < ((x0.length : Nat) : Int)))
 (cond (Nat.blt 0 x0.length)
  (cond (Nat.blt 0 x0.length)
   none
   none)
  none)
 (a31l0c x0 (0)))
set_option maxRecDepth 100000 in
set_option maxHeartbeats 4000000 in
theorem e31l0c (x0 : List (List Int)) : evC Try.prog ext T61 L31_2 200 (loopN Try.f31 0) (loopTail ([0, 1, 5], []) [4] [] (sumK 29 [0, 1, 5] [4] Q31l0b)) (frameOf 29 [0, 1, 5] [wsl 0, .slice none 0 0, .int .i64 0]) ⟨[⟨true, (some (.tab [.fl .f32] x0))⟩], 1, []⟩ = firstT ([((Nat.beq (r31l0c x0) 0), .exit 0, [anyV], ⟨[⟨true, (some (.tab [.fl .f32] x0))⟩], 1, []⟩)].map fun (b, x) => (b, (x.1, frameOf 29 [4] x.2.1, x.2.2))) :=
 (show evC Try.prog ext T61 L31_2 200 (loopN Try.f31 0) (loopTail ([0, 1, 5], []) [4] [] (sumK 29 [0, 1, 5] [4] Q31l0b)) (frameOf 29 [0, 1, 5] [wsl 0, .slice none 0 0, .int .i64 0]) ⟨[⟨true, (some (.tab [.fl .f32] x0))⟩], 1, []⟩ = w31l0c x0 from by kernel_rfl).trans
 (show w31l0c x0 = a31l0c x0 (r31l0c x0) from by unfold w31l0c r31l0c; exact (cond_both (a31l0c x0) _ (fun h0 => (cond_both (a31l0c x0) _ (fun h1 => (cond_t h1 rfl)) (fun h1 => rfl))) (fun h0 => rfl)))
noncomputable def Q31l0c : SumK := fun vals s =>
 match vals, s.h with
 | [.iface f0 .nilIface, .slice none f1 f2, .int .i64 f3], [⟨true, some (.tab [.fl .f32] x0)⟩] => if f0 = 0 ∧ f1 = 0 ∧ f2 = 0 ∧ f3 = 0 then [((Nat.beq (r31l0c x0) 0), .exit 0, [anyV], ⟨[⟨true, (some (.tab [.fl .f32] x0))⟩], 1, []⟩)] else Q31l0b vals s
 | _, _ => Q31l0b vals s
set_option maxRecDepth 100000 in
set_option maxHeartbeats 4000000 in
theorem qok31l0c : SumKOk Try.prog (loopN Try.f31 0) 29 [0, 1, 5] [4] Q31l0c := by
  intro vals s x h1 h2 h3
  unfold Q31l0c at h3; split at h3
  · rename_i h; split at h3
    · rename_i hc; obtain ⟨rfl, rfl, rfl, rfl⟩ := hc; exact sum_step ok61 extOk mixed (lok31_2.inner (by kernel_rfl)) qok31l0b h1 h2 h (e31l0c _) rfl h3
    · exact qok31l0b _ _ _ h1 h2 h3
  · exact qok31l0b _ _ _ h1 h2 h3
noncomputable def L31_3 : LoopT := addL L31_2 5 ([0, 1, 5], []) (sumK 29 [0, 1, 5] [4] Q31l0c)
theorem lok31_3 : LfOkF Try.prog L31_3 Try.f31 := lfOkF_add lok31_2 qok31l0c (by kernel_rfl) (by kernel_rfl) (by kernel_rfl)

/-- laws.eqFloat32S -/
noncomputable def r31c (x0 : List (List Int)) : Nat × Bool :=
 cond ((((x0.length : Nat) : Int) : Int) != 0)
  (0, false)
  (cond (Nat.beq (r31l0c x0) 0)
   (0, true)
   (1, false))
noncomputable def a31c (x0 : List (List Int)) (p : Nat × Bool) : Res := firstT [((Nat.beq (p.1) 0), .bool (p.2), ⟨[⟨true, (some (.tab [.fl .f32] x0))⟩], 1, []⟩)]
noncomputable def w31c (x0 : List (List Int)) : Res :=
 (cond ((((x0.length : Nat) : Int) : Int) != 0)
 (a31c x0 (0, false))
 (cond (Nat.beq (r31l0c x0) 0)
  (a31c x0 (0, true))
  none))
set_option maxRecDepth 100000 in
set_option maxHeartbeats 4000000 in
theorem e31c (x0 : List (List Int)) : evFn Try.prog ext T61 L31_3 200 Try.f31 [wsl 0, .slice none 0 0] ⟨[⟨true, (some (.tab [.fl .f32] x0))⟩], 1, []⟩ = firstT [((Nat.beq ((r31c x0).1) 0), .bool ((r31c x0).2), ⟨[⟨true, (some (.tab [.fl .f32] x0))⟩], 1, []⟩)] :=
 (show evFn Try.prog ext T61 L31_3 200 Try.f31 [wsl 0, .slice none 0 0] ⟨[⟨true, (some (.tab [.fl .f32] x0))⟩], 1, []⟩ = w31c x0 from by kernel_rfl).trans
 (show w31c x0 = a31c x0 (r31c x0) from by unfold w31c r31c; exact (cond_app (a31c x0) _ rfl (cond_app (a31c x0) _ rfl rfl)))
noncomputable def s31c (args : List Value) (s : St) : List (Bool × Value × St) :=
 match args, s.h with
 | [.iface f0 .nilIface, .slice none f1 f2], [⟨true, some (.tab [.fl .f32] x0)⟩] => if f0 = 0 ∧ f1 = 0 ∧ f2 = 0 then [((Nat.beq ((r31c x0).1) 0), .bool ((r31c x0).2), ⟨[⟨true, (some (.tab [.fl .f32] x0))⟩], 1, []⟩)] else T61 31 args s
 | _, _ => T61 31 args s
noncomputable def T62 : CallF := addF T61 31 s31c
set_option maxRecDepth 100000 in
set_option maxHeartbeats 4000000 in
theorem ok62 : CfOk Try.prog T62 := by
  refine cfOk_add ok61 fun args s r s' h1 h2 h3 => ?_
  unfold s31c at h3; split at h3
  · rename_i h; split at h3
    · rename_i hc; obtain ⟨rfl, rfl, rfl⟩ := hc; exact callOk ok61 Try.func31 h1 h2 h lok31_3.body (e31c _) rfl h3
    · exact ok61 _ _ _ _ _ h1 h2 h3
  · exact ok61 _ _ _ _ _ h1 h2 h3

/-- laws.eqWallS, loop 0 -/
noncomputable def r81l0c (x0 : List (List Int)) : Nat :=
 cond (decide ((0 : Int) < ((x0.length : Nat) : Int)))
  (cond (Nat.blt 0 x0.length)
   (1)
   (1))
  (0)
noncomputable def a81l0c (x0 : List (List Int)) (p : Nat) : Option (Fin' × List Value × St) := firstT ([((Nat.beq p 0), .exit 0, [anyV], ⟨[⟨true, (some (.tab sc0 x0))⟩], 1, []⟩)].map fun (b, x) => (b, (x.1, frameOf 27 [4] x.2.1, x.2.2)))
noncomputable def w81l0c (x0 : List (List Int)) : Option (Fin' × List Value × St) :=
 (cond (decide ((0 : Int) < ((x0.length : Nat) : Int)))
 (cond (Nat.blt 0 x0.length)
  (cond (Nat.blt 0 x0.length)
   none
   none)
  none)
 (a81l0c x0 (0)))
set_option maxRecDepth 100000 in
set_option maxHeartbeats 4000000 in
theorem e81l0c (x0 : List (List Int)) : evC Try.prog ext T62 L81_2 200 (loopN Try.f81 0) (loopTail ([0, 1, 5], []) [4] [] (sumK 27 [0, 1, 5] [4] Q81l0b)) (frameOf 27 [0, 1, 5] [wsl 0, .slice none 0 0, .int .i64 0]) ⟨[⟨true, (some (.tab sc0 x0))⟩], 1, []⟩ = firstT ([((Nat.beq (r81l0c x0) 0), .exit 0, [anyV], ⟨[⟨true, (some (.tab sc0 x0))⟩], 1, []⟩)].map fun (b, x) => (b, (x.1, frameOf 27 [4] x.2.1, x.2.2))) :=
 (show evC Try.prog ext T62 L81_2 200 (loopN Try.f81 0) (loopTail ([0, 1, 5], []) [4] [] (sumK 27 [0, 1, 5] [4] Q81l0b)) (frameOf 27 [0, 1, 5] [wsl 0, .slice none 0 0, .int .i64 0]) ⟨[⟨true, (some (.tab sc0 x0))⟩], 1, []⟩ = w81l0c x0 from by kernel_rfl).trans
 (show w81l0c x0 = a81l0c x0 (r81l0c x0) from by unfold w81l0c r81l0c; exact (cond_both (a81l0c x0) _ (fun h0 => (cond_both (a81l0c x0) _ (fun h1 => (cond_t h1 rfl)) (fun h1 => rfl))) (fun h0 => rfl)))
noncomputable def Q81l0c : SumK := fun vals s =>
 match vals, s.h with
 | [.iface f0 .nilIface, .slice none f1 f2, .int .i64 f3], [⟨true, some (.tab [.int .i64, .int .i64, .fl .f32, .fl .f32, .fl .f32, .fl .f32, .fl .f32, .fl .f32] x0)⟩] => if f0 = 0 ∧ f1 = 0 ∧ f2 = 0 ∧ f3 = 0 then [((Nat.beq (r81l0c x0) 0), .exit 0, [anyV], ⟨[⟨true, (some (.tab sc0 x0))⟩], 1, []⟩)] else Q81l0b vals s
 | _, _ => Q81l0b vals s
set_option maxRecDepth 100000 in
set_option maxHeartbeats 4000000 in
theorem qok81l0c : SumKOk Try.prog (loopN Try.f81 0) 27 [0, 1, 5] [4] Q81l0c := by
  intro vals s x h1 h2 h3
  unfold Q81l0c at h3; split at h3
  · rename_i h; split at h3
    · rename_i hc; obtain ⟨rfl, rfl, rfl, rfl⟩ := hc; exact sum_step ok62 extOk mixed (lok81_2.inner (by kernel_rfl)) qok81l0b h1 h2 h (e81l0c _) rfl h3
    · exact qok81l0b _ _ _ h1 h2 h3
  · exact qok81l0b _ _ _ h1 h2 h3
noncomputable def L81_3 : LoopT := addL L81_2 5 ([0, 1, 5], []) (sumK 27 [0, 1, 5] [4] Q81l0c)
theorem lok81_3 : LfOkF Try.prog L81_3 Try.f81 := lfOkF_add lok81_2 qok81l0c (by kernel_rfl) (by kernel_rfl) (by kernel_rfl)

/-- laws.eqWallS -/
noncomputable def r81c (x0 : List (List Int)) : Nat × Bool :=
 cond ((((x0.length : Nat) : Int) : Int) != 0)
  (0, false)
  (cond (Nat.beq (r81l0c x0) 0)
   (0, true)
   (1, false))
noncomputable def a81c (x0 : List (List Int)) (p : Nat × Bool) : Res := firstT [((Nat.beq (p.1) 0), .bool (p.2), ⟨[⟨true, (some (.tab sc0 x0))⟩], 1, []⟩)]
noncomputable def w81c (x0 : List (List Int)) : Res :=
 (cond ((((x0.length : Nat) : Int) : Int) != 0)
 (a81c x0 (0, false))
 (cond (Nat.beq (r81l0c x0) 0)
  (a81c x0 (0, true))
  none))
set_option maxRecDepth 100000 in
set_option maxHeartbeats 4000000 in
theorem e81c (x0 : List (List Int)) : evFn Try.prog ext T62 L81_3 200 Try.f81 [wsl 0, .slice none 0 0] ⟨[⟨true, (some (.tab sc0 x0))⟩], 1, []⟩ = firstT [((Nat.beq ((r81c x0).1) 0), .bool ((r81c x0).2), ⟨[⟨true, (some (.tab sc0 x0))⟩], 1, []⟩)] :=
 (show evFn Try.prog ext T62 L81_3 200 Try.f81 [wsl 0, .slice none 0 0] ⟨[⟨true, (some (.tab sc0 x0))⟩], 1, []⟩ = w81c x0 from by kernel_rfl).trans
 (show w81c x0 = a81c x0 (r81c x0) from by unfold w81c r81c; exact (cond_app (a81c x0) _ rfl (cond_app (a81c x0) _ rfl rfl)))
noncomputable def s81c (args : List Value) (s : St) : List (Bool × Value × St) :=
 match args, s.h with
 | [.iface f0 .nilIface, .slice none f1 f2], [⟨true, some (.tab [.int .i64, .int .i64, .fl .f32, .fl .f32, .fl .f32, .fl .f32, .fl .f32, .fl .f32] x0)⟩] => if f0 = 0 ∧ f1 = 0 ∧ f2 = 0 then [((Nat.beq ((r81c x0).1) 0), .bool ((r81c x0).2), ⟨[⟨true, (some (.tab sc0 x0))⟩], 1, []⟩)] else T62 81 args s
 | _, _ => T62 81 args s
noncomputable def T63 : CallF := addF T62 81 s81c
set_option maxRecDepth 100000 in
set_option maxHeartbeats 4000000 in
theorem ok63 : CfOk Try.prog T63 := by
  refine cfOk_add ok62 fun args s r s' h1 h2 h3 => ?_
  unfold s81c at h3; split at h3
  · rename_i h; split at h3
    · rename_i hc; obtain ⟨rfl, rfl, rfl⟩ := hc; exact callOk ok62 Try.func81 h1 h2 h lok81_3.body (e81c _) rfl h3
    · exact ok62 _ _ _ _ _ h1 h2 h3
  · exact ok62 _ _ _ _ _ h1 h2 h3

/-- laws.eqPaneS, loop 0 -/
noncomputable def r82l0c (x0 : List (List Int)) : Nat :=
 cond (decide ((0 : Int) < ((x0.length : Nat) : Int)))
  (cond (Nat.blt 0 x0.length)
   (1)
   (1))
  (0)
noncomputable def a82l0c (x0 : List (List Int)) (p : Nat) : Option (Fin' × List Value × St) := firstT ([((Nat.beq p 0), .exit 0, [anyV], ⟨[⟨true, (some (.tab sc1 x0))⟩], 1, []⟩)].map fun (b, x) => (b, (x.1, frameOf 27 [4] x.2.1, x.2.2)))
noncomputable def w82l0c (x0 : List (List Int)) : Option (Fin' × List Value × St) :=
 (cond (decide ((0 : Int) < ((x0.length : Nat) : Int)))
 (cond (Nat.blt 0 x0.length)
  (cond (Nat.blt 0 x0.length)
   none
   none)
  none)
 (a82l0c x0 (0)))
set_option maxRecDepth 100000 in
set_option maxHeartbeats 4000000 in
theorem e82l0c (x0 : List (List Int)) : evC Try.prog ext T63 L82_2 200 (loopN Try.f82 0) (loopTail ([0, 1, 5], []) [4] [] (sumK 27 [0, 1, 5] [4] Q82l0b)) (frameOf 27 [0, 1, 5] [wsl 0, .slice none 0 0, .int .i64 0]) ⟨[⟨true, (some (.tab sc1 x0))⟩], 1, []⟩ = firstT ([((Nat.beq (r82l0c x0) 0), .exit 0, [anyV], ⟨[⟨true, (some (.tab sc1 x0))⟩], 1, []⟩)].map fun (b, x) => (b, (x.1, frameOf 27 [4] x.2.1, x.2.2))) :=
 (show evC Try.prog ext T63 L82_2 200 (loopN Try.f82 0) (loopTail ([0, 1, 5], []) [4] [] (sumK 27 [0, 1, 5] [4] Q82l0b)) (frameOf 27 [0, 1, 5] [wsl 0, .slice none 0 0, .int .i64 0]) ⟨[⟨true, (some (.tab sc1 x0))⟩], 1, []⟩ = w82l0c x0 from by kernel_rfl).trans
 (show w82l0c x0 = a82l0c x0 (r82l0c x0) from by unfold w82l0c r82l0c; exact (cond_both (a82l0c x0) _ (fun h0 => (cond_both (a82l0c x0) _ (fun h1 => (cond_t h1 rfl)) (fun h1 => rfl))) (fun h0 => rfl)))
noncomputable def Q82l0c : SumK := fun vals s =>
 match vals, s.h with
 | [.iface f0 .nilIface, .slice none f1 f2, .int .i64 f3], [⟨true, some (.tab [.int .i64, .int .i64, .fl .f32, .fl .f32] x0)⟩] => if f0 = 0 ∧ f1 = 0 ∧ f2 = 0 ∧ f3 = 0 then [((Nat.beq (r82l0c x0) 0), .exit 0, [anyV], ⟨[⟨true, (some (.tab sc1 x0))⟩], 1, []⟩)] else Q82l0b vals s
 | _, _ => Q82l0b vals s
set_option maxRecDepth 100000 in
set_option maxHeartbeats 4000000 in
theorem qok82l0c : SumKOk Try.prog (loopN Try.f82 0) 27 [0, 1, 5] [4] Q82l0c := by
  intro vals s x h1 h2 h3
  unfold Q82l0c at h3; split at h3
  · rename_i h; split at h3
    · rename_i hc; obtain ⟨rfl, rfl, rfl, rfl⟩ := hc; exact sum_step ok63 extOk mixed (lok82_2.inner (by kernel_rfl)) qok82l0b h1 h2 h (e82l0c _) rfl h3
    · exact qok82l0b _ _ _ h1 h2 h3
  · exact qok82l0b _ _ _ h1 h2 h3
noncomputable def L82_3 : LoopT := addL L82_2 5 ([0, 1, 5], []) (sumK 27 [0, 1, 5] [4] Q82l0c)
theorem lok82_3 : LfOkF Try.prog L82_3 Try.f82 := lfOkF_add lok82_2 qok82l0c (by kernel_rfl) (by kernel_rfl) (by kernel_rfl)

/-- laws.eqPaneS -/
noncomputable def r82c (x0 : List (List Int)) : Nat × Bool :=
 cond ((((x0.length : Nat) : Int) : Int) != 0)
  (0, false)
  (cond (Nat.beq (r82l0c x0) 0)
   (0, true)
   (1, false))
noncomputable def a82c (x0 : List (List Int)) (p : Nat × Bool) : Res := firstT [((Nat.beq (p.1) 0), .bool (p.2), ⟨[⟨true, (some (.tab sc1 x0))⟩], 1, []⟩)]
noncomputable def w82c (x0 : List (List Int)) : Res :=
 (cond ((((x0.length : Nat) : Int) : Int) != 0)
 (a82c x0 (0, false))
 (cond (Nat.beq (r82l0c x0) 0)
  (a82c x0 (0, true))
  none))
set_option maxRecDepth 100000 in
set_option maxHeartbeats 4000000 in
theorem e82c (x0 : List (List Int)) : evFn Try.prog ext T63 L82_3 200 Try.f82 [wsl 0, .slice none 0 0] ⟨[⟨true, (some (.tab sc1 x0))⟩], 1, []⟩ = firstT [((Nat.beq ((r82c x0).1) 0), .bool ((r82c x0).2), ⟨[⟨true, (some (.tab sc1 x0))⟩], 1, []⟩)] :=
 (show evFn Try.prog ext T63 L82_3 200 Try.f82 [wsl 0, .slice none 0 0] ⟨[⟨true, (some (.tab sc1 x0))⟩], 1, []⟩ = w82c x0 from by kernel_rfl).trans
 (show w82c x0 = a82c x0 (r82c x0) from by unfold w82c r82c; exact (cond_app (a82c x0) _ rfl (cond_app (a82c x0) _ rfl rfl)))
noncomputable def s82c (args : List Value) (s : St) : List (Bool × Value × St) :=
 match args, s.h with
 | [.iface f0 .nilIface, .slice none f1 f2], [⟨true, some (.tab [.int .i64, .int .i64, .fl .f32, .fl .f32] x0)⟩] => if f0 = 0 ∧ f1 = 0 ∧ f2 = 0 then [((Nat.beq ((r82c x0).1) 0), .bool ((r82c x0).2), ⟨[⟨true, (some (.tab sc1 x0))⟩], 1, []⟩)] else T63 82 args s
 | _, _ => T63 82 args s
noncomputable def T64 : CallF := addF T63 82 s82c
set_option maxRecDepth 100000 in
set_option maxHeartbeats 4000000 in
theorem ok64 : CfOk Try.prog T64 := by
  refine cfOk_add ok63 fun args s r s' h1 h2 h3 => ?_
  unfold s82c at h3; split at h3
  · rename_i h; split at h3
    · rename_i hc; obtain ⟨rfl, rfl, rfl⟩ := hc; exact callOk ok63 Try.func82 h1 h2 h lok82_3.body (e82c _) rfl h3
    · exact ok63 _ _ _ _ _ h1 h2 h3
  · exact ok63 _ _ _ _ _ h1 h2 h3

/-- laws.eqFlat -/
noncomputable def r28c (x0 x1 x2 x3 : List (List Int)) : Nat × Bool :=
 cond (Nat.beq ((r31c x0).1) 0)
  (cond (!((r31c x0).2))
   (0, false)
   (cond (Nat.beq ((r31c x1).1) 0)
    (cond (!((r31c x1).2))
     (0, false)
     (cond (Nat.beq ((r81c x2).1) 0)
      (cond (!((r81c x2).2))
       (0, false)
       (cond (Nat.beq ((r82c x3).1) 0)
        (cond (!((r82c x3).2))
         (0, false)
         (0, true))
        (1, false)))
      (1, false)))
    (1, false)))
  (1, false)
noncomputable def a28c (x0 x1 x2 x3 : List (List Int)) (p : Nat × Bool) : Res := firstT [((Nat.beq (p.1) 0), .bool (p.2), ⟨[⟨true, (some (.tab [.fl .f32] x0))⟩, ⟨true, (some (.tab [.fl .f32] x1))⟩, ⟨true, (some (.tab sc0 x2))⟩, ⟨true, (some (.tab sc1 x3))⟩], 4, []⟩)]
noncomputable def w28c (x0 x1 x2 x3 : List (List Int)) : Res :=
 (cond (Nat.beq ((r31c x0).1) 0)
 (cond (!((r31c x0).2))
  (a28c x0 x1 x2 x3 (0, false))
  (cond (Nat.beq ((r31c x1).1) 0)
   (cond (!((r31c x1).2))
    (a28c x0 x1 x2 x3 (0, false))
    (cond (Nat.beq ((r81c x2).1) 0)
     (cond (!((r81c x2).2))
      (a28c x0 x1 x2 x3 (0, false))
      (cond (Nat.beq ((r82c x3).1) 0)
       (cond (!((r82c x3).2))
        (a28c x0 x1 x2 x3 (0, false))
        (a28c x0 x1 x2 x3 (0, true)))
       none))
     none))
   none))
 none)
set_option maxRecDepth 100000 in
set_option maxHeartbeats 4000000 in
theorem e28c (x0 x1 x2 x3 : List (List Int)) : evFn Try.prog ext T64 noL 200 Try.f28 [.agg #[wsl 0, wsl 1, wsl 2, wsl 3], .agg #[.slice none 0 0, .slice none 0 0, .slice none 0 0, .slice none 0 0]] ⟨[⟨true, (some (.tab [.fl .f32] x0))⟩, ⟨true, (some (.tab [.fl .f32] x1))⟩, ⟨true, (some (.tab sc0 x2))⟩, ⟨true, (some (.tab sc1 x3))⟩], 4, []⟩ = firstT [((Nat.beq ((r28c x0 x1 x2 x3).1) 0), .bool ((r28c x0 x1 x2 x3).2), ⟨[⟨true, (some (.tab [.fl .f32] x0))⟩, ⟨true, (some (.tab [.fl .f32] x1))⟩, ⟨true, (some (.tab sc0 x2))⟩, ⟨true, (some (.tab sc1 x3))⟩], 4, []⟩)] :=
 (show evFn Try.prog ext T64 noL 200 Try.f28 [.agg #[wsl 0, wsl 1, wsl 2, wsl 3], .agg #[.slice none 0 0, .slice none 0 0, .slice none 0 0, .slice none 0 0]] ⟨[⟨true, (some (.tab [.fl .f32] x0))⟩, ⟨true, (some (.tab [.fl .f32] x1))⟩, ⟨true, (some (.tab sc0 x2))⟩, ⟨true, (some (.tab sc1 x3))⟩], 4, []⟩ = w28c x0 x1 x2 x3 from by kernel_rfl).trans
 (show w28c x0 x1 x2 x3 = a28c x0 x1 x2 x3 (r28c x0 x1 x2 x3) from by unfold w28c r28c; exact (cond_app (a28c x0 x1 x2 x3) _ (cond_app (a28c x0 x1 x2 x3) _ rfl (cond_app (a28c x0 x1 x2 x3) _ (cond_app (a28c x0 x1 x2 x3) _ rfl (cond_app (a28c x0 x1 x2 x3) _ (cond_app (a28c x0 x1 x2 x3) _ rfl (cond_app (a28c x0 x1 x2 x3) _ (cond_app (a28c x0 x1 x2 x3) _ rfl rfl) rfl)) rfl)) rfl)) rfl))
noncomputable def s28c (args : List Value) (s : St) : List (Bool × Value × St) :=
 match args, s.h with
 | [.agg ⟨[.iface f0 .nilIface, .iface f1 .nilIface, .iface f2 .nilIface, .iface f3 .nilIface]⟩, .agg ⟨[.slice none f4 f5, .slice none f6 f7, .slice none f8 f9, .slice none f10 f11]⟩], [⟨true, some (.tab [.fl .f32] x0)⟩, ⟨true, some (.tab [.fl .f32] x1)⟩, ⟨true, some (.tab [.int .i64, .int .i64, .fl .f32, .fl .f32, .fl .f32, .fl .f32, .fl .f32, .fl .f32] x2)⟩, ⟨true, some (.tab [.int .i64, .int .i64, .fl .f32, .fl .f32] x3)⟩] => if f0 = 0 ∧ f1 = 1 ∧ f2 = 2 ∧ f3 = 3 ∧ f4 = 0 ∧ f5 = 0 ∧ f6 = 0 ∧ f7 = 0 ∧ f8 = 0 ∧ f9 = 0 ∧ f10 = 0 ∧ f11 = 0 then [((Nat.beq ((r28c x0 x1 x2 x3).1) 0), .bool ((r28c x0 x1 x2 x3).2), ⟨[⟨true, (some (.tab [.fl .f32] x0))⟩, ⟨true, (some (.tab [.fl .f32] x1))⟩, ⟨true, (some (.tab sc0 x2))⟩, ⟨true, (some (.tab sc1 x3))⟩], 4, []⟩)] else T64 28 args s
 | _, _ => T64 28 args s
noncomputable def T65 : CallF := addF T64 28 s28c
set_option maxRecDepth 100000 in
set_option maxHeartbeats 4000000 in
theorem ok65 : CfOk Try.prog T65 := by
  refine cfOk_add ok64 fun args s r s' h1 h2 h3 => ?_
  unfold s28c at h3; split at h3
  · rename_i h; split at h3
    · rename_i hc; obtain ⟨rfl, rfl, rfl, rfl, rfl, rfl, rfl, rfl, rfl, rfl, rfl, rfl⟩ := hc; exact callOk ok64 Try.func28 h1 h2 h (lfOkF_no _ _).body (e28c _ _ _ _) rfl h3
    · exact ok64 _ _ _ _ _ h1 h2 h3
  · exact ok64 _ _ _ _ _ h1 h2 h3

/-- laws.heldFloat32S, loop 0: one round -/
noncomputable def b34l0b (ih : Int → Int → List (List Int) → (Nat × Int × Int)) (x0 x1 : Int) (x2 : List (List Int)) : Nat × Int × Int :=
 cond (decide ((x1 : Int) < ((x2.length : Nat) : Int)))
  (cond ((decide ((0 : Int) ≤ x1)) && (Nat.blt (Int.toNat x1) x2.length))
   (cond (!feq .f32 (Int.toNat ((x2.getD (Int.toNat x1) []).getD 0 0)) (ofInt .f32 x0))
    (0, x0, 0)
    (ih (IntKind.i64.wrap (x0 + 1)) (IntKind.i64.wrap (x1 + 1)) x2))
   (2, 0, 0))
  (1, 0, x0)
noncomputable def r34l0b : Nat → Int → Int → List (List Int) → (Nat × Int × Int)
 | 0 => fun _ _ _ => (2, 0, 0)
 | m + 1 => b34l0b (r34l0b m)
noncomputable def a34l0b (x0 x1 : Int) (x2 : List (List Int)) (p : Nat × Int × Int) : Option (Fin' × List Value × St) := firstT ([((Nat.beq (p.1) 0), .ret, [.int .i64 (p.2.1), .int .i64 (-1)], ⟨[⟨true, (some (.tab [.fl .f32] x2))⟩], 1, []⟩), ((Nat.beq (p.1) 1), .exit 0, [.int .i64 (p.2.2), anyV], ⟨[⟨true, (some (.tab [.fl .f32] x2))⟩], 1, []⟩)].map fun (b, x) => (b, (x.1, frameOf 22 [1, 4] x.2.1, x.2.2)))
noncomputable def u34l0b (x0 x1 : Int) (x2 : List (List Int)) (p : Nat × Int × Int) : Option (Fin' × List Value × St) := alts ([((Nat.beq (p.1) 0), .ret, [.int .i64 (p.2.1), .int .i64 (-1)], ⟨[⟨true, (some (.tab [.fl .f32] x2))⟩], 1, []⟩), ((Nat.beq (p.1) 1), .exit 0, [.int .i64 (p.2.2), anyV], ⟨[⟨true, (some (.tab [.fl .f32] x2))⟩], 1, []⟩)].map fun (b, x) => (b, (x.1, frameOf 22 [1, 4] x.2.1, x.2.2))) some
theorem v34l0b (x0 x1 : Int) (x2 : List (List Int)) (p : Nat × Int × Int) : u34l0b x0 x1 x2 p = a34l0b x0 x1 x2 p := alts_first _
noncomputable def q34l0b (m : Nat) : SumK := fun vals s =>
 match vals, s.h with
 | [.iface f0 .nilIface, .int .i64 x0, .int .i64 x1], [⟨true, some (.tab [.fl .f32] x2)⟩] => if f0 = 0 then [((Nat.beq ((r34l0b m x0 x1 x2).1) 0), .ret, [.int .i64 ((r34l0b m x0 x1 x2).2.1), .int .i64 (-1)], ⟨[⟨true, (some (.tab [.fl .f32] x2))⟩], 1, []⟩), ((Nat.beq ((r34l0b m x0 x1 x2).1) 1), .exit 0, [.int .i64 ((r34l0b m x0 x1 x2).2.2), anyV], ⟨[⟨true, (some (.tab [.fl .f32] x2))⟩], 1, []⟩)] else Q34l0 vals s
 | _, _ => Q34l0 vals s
noncomputable def w34l0b (ih : Int → Int → List (List Int) → (Nat × Int × Int)) (x0 x1 : Int) (x2 : List (List Int)) : Option (Fin' × List Value × St) :=
 (cond (decide ((x1 : Int) < ((x2.length : Nat) : Int)))
 (cond ((decide ((0 : Int) ≤ x1)) && (Nat.blt (Int.toNat x1) x2.length))
  (cond (Nat.blt (Int.toNat x1) x2.length)
   (cond (!feq .f32 (Int.toNat ((x2.getD (Int.toNat x1) []).getD 0 0)) (ofInt .f32 x0))
    (a34l0b x0 x1 x2 (0, x0, 0))
    (u34l0b x0 x1 x2 (ih (IntKind.i64.wrap (x0 + 1)) (IntKind.i64.wrap (x1 + 1)) x2)))
   none)
  none)
 (a34l0b x0 x1 x2 (1, 0, x0)))
set_option maxRecDepth 100000 in
set_option maxHeartbeats 4000000 in
theorem e34l0b (m : Nat) (x0 x1 : Int) (x2 : List (List Int)) : evC Try.prog ext T65 L34_1 200 (loopN Try.f34 0) (loopTail ([0, 1, 5], []) [1, 4] [] (sumK 22 [0, 1, 5] [1, 4] (q34l0b m))) (frameOf 22 [0, 1, 5] [wsl 0, .int .i64 x0, .int .i64 x1]) ⟨[⟨true, (some (.tab [.fl .f32] x2))⟩], 1, []⟩ = firstT ([((Nat.beq ((r34l0b (m + 1) x0 x1 x2).1) 0), .ret, [.int .i64 ((r34l0b (m + 1) x0 x1 x2).2.1), .int .i64 (-1)], ⟨[⟨true, (some (.tab [.fl .f32] x2))⟩], 1, []⟩), ((Nat.beq ((r34l0b (m + 1) x0 x1 x2).1) 1), .exit 0, [.int .i64 ((r34l0b (m + 1) x0 x1 x2).2.2), anyV], ⟨[⟨true, (some (.tab [.fl .f32] x2))⟩], 1, []⟩)].map fun (b, x) => (b, (x.1, frameOf 22 [1, 4] x.2.1, x.2.2))) :=
 (show evC Try.prog ext T65 L34_1 200 (loopN Try.f34 0) (loopTail ([0, 1, 5], []) [1, 4] [] (sumK 22 [0, 1, 5] [1, 4] (q34l0b m))) (frameOf 22 [0, 1, 5] [wsl 0, .int .i64 x0, .int .i64 x1]) ⟨[⟨true, (some (.tab [.fl .f32] x2))⟩], 1, []⟩ = w34l0b (r34l0b m) x0 x1 x2 from by kernel_rfl).trans
 (show w34l0b (r34l0b m) x0 x1 x2 = a34l0b x0 x1 x2 (r34l0b (m + 1) x0 x1 x2) from by unfold w34l0b; show _ = a34l0b x0 x1 x2 (b34l0b (r34l0b m) x0 x1 x2); unfold b34l0b; exact (cond_both (a34l0b x0 x1 x2) _ (fun h0 => (cond_both (a34l0b x0 x1 x2) _ (fun h1 => (cond_t (ev_and2 h1) (cond_app (a34l0b x0 x1 x2) _ rfl (v34l0b x0 x1 x2 ((r34l0b m) (IntKind.i64.wrap (x0 + 1)) (IntKind.i64.wrap (x1 + 1)) x2))))) (fun h1 => rfl))) (fun h0 => rfl)))
set_option maxRecDepth 100000 in
set_option maxHeartbeats 4000000 in
theorem qm34l0b : ∀ m, SumKOk Try.prog (loopN Try.f34 0) 22 [0, 1, 5] [1, 4] (q34l0b m) := by
  intro m
  induction m with
  | zero =>
    intro vals s x h1 h2 h3
    unfold q34l0b at h3; split at h3
    · rename_i h; split at h3
      · rename_i hc; obtain ⟨rfl⟩ := hc; exact absurd h3 (by simp [r34l0b, firstT, Nat.beq])
      · exact qok34l0 _ _ _ h1 h2 h3
    · exact qok34l0 _ _ _ h1 h2 h3
  | succ m ih =>
    intro vals s x h1 h2 h3
    unfold q34l0b at h3; split at h3
    · rename_i h; split at h3
      · rename_i hc; obtain ⟨rfl⟩ := hc; exact sum_step ok65 extOk mixed (lok34_1.inner (by kernel_rfl)) ih h1 h2 h (e34l0b m _ _ _) rfl h3
      · exact qok34l0 _ _ _ h1 h2 h3
    · exact qok34l0 _ _ _ h1 h2 h3
noncomputable def Q34l0b : SumK := fun vals s => q34l0b (fuelOf vals s.h) vals s
theorem qok34l0b : SumKOk Try.prog (loopN Try.f34 0) 22 [0, 1, 5] [1, 4] Q34l0b := fuel_ok qm34l0b fuelOf
noncomputable def L34_2 : LoopT := addL L34_1 3 ([0, 1, 5], []) (sumK 22 [0, 1, 5] [1, 4] Q34l0b)
theorem lok34_2 : LfOkF Try.prog L34_2 Try.f34 := lfOkF_add lok34_1 qok34l0b (by kernel_rfl) (by kernel_rfl) (by kernel_rfl)

/-- laws.heldFloat32S -/
noncomputable def r34b (x0 : Int) (x1 : List (List Int)) : Nat × Int :=
 cond (Nat.beq ((r34l0b (1000 + x1.length) x0 0 x1).1) 0)
  (0, (-1))
  (cond (Nat.beq ((r34l0b (1000 + x1.length) x0 0 x1).1) 1)
   (0, ((r34l0b (1000 + x1.length) x0 0 x1).2.2))
   (1, 0))
noncomputable def a34b (x0 : Int) (x1 : List (List Int)) (p : Nat × Int) : Res := firstT [((Nat.beq (p.1) 0), .int .i64 (p.2), ⟨[⟨true, (some (.tab [.fl .f32] x1))⟩], 1, []⟩)]
noncomputable def w34b (x0 : Int) (x1 : List (List Int)) : Res :=
 (cond (Nat.beq ((r34l0b (1000 + x1.length) x0 0 x1).1) 0)
 (a34b x0 x1 (0, (-1)))
 (cond (Nat.beq ((r34l0b (1000 + x1.length) x0 0 x1).1) 1)
  (a34b x0 x1 (0, ((r34l0b (1000 + x1.length) x0 0 x1).2.2)))
  none))
set_option maxRecDepth 100000 in
set_option maxHeartbeats 4000000 in
theorem e34b (x0 : Int) (x1 : List (List Int)) : evFn Try.prog ext T65 L34_2 200 Try.f34 [wsl 0, .int .i64 x0] ⟨[⟨true, (some (.tab [.fl .f32] x1))⟩], 1, []⟩ = firstT [((Nat.beq ((r34b x0 x1).1) 0), .int .i64 ((r34b x0 x1).2), ⟨[⟨true, (some (.tab [.fl .f32] x1))⟩], 1, []⟩)] :=
 (show evFn Try.prog ext T65 L34_2 200 Try.f34 [wsl 0, .int .i64 x0] ⟨[⟨true, (some (.tab [.fl .f32] x1))⟩], 1, []⟩ = w34b x0 x1 from by kernel_rfl).trans
 (show w34b x0 x1 = a34b x0 x1 (r34b x0 x1) from by unfold w34b r34b; exact (cond_app (a34b x0 x1) _ rfl (cond_app (a34b x0 x1) _ rfl rfl)))
noncomputable def s34b (args : List Value) (s : St) : List (Bool × Value × St) :=
 match args, s.h with
 | [.iface f0 .nilIface, .int .i64 x0], [⟨true, some (.tab [.fl .f32] x1)⟩] => if f0 = 0 then [((Nat.beq ((r34b x0 x1).1) 0), .int .i64 ((r34b x0 x1).2), ⟨[⟨true, (some (.tab [.fl .f32] x1))⟩], 1, []⟩)] else T65 34 args s
 | _, _ => T65 34 args s
noncomputable def T66 : CallF := addF T65 34 s34b
set_option maxRecDepth 100000 in
set_option maxHeartbeats 4000000 in
theorem ok66 : CfOk Try.prog T66 := by
  refine cfOk_add ok65 fun args s r s' h1 h2 h3 => ?_
  unfold s34b at h3; split at h3
  · rename_i h; split at h3
    · rename_i hc; obtain ⟨rfl⟩ := hc; exact callOk ok65 Try.func34 h1 h2 h lok34_2.body (e34b _ _) rfl h3
    · exact ok65 _ _ _ _ _ h1 h2 h3
  · exact ok65 _ _ _ _ _ h1 h2 h3

/-- laws.heldWallS, loop 1 -/
noncomputable def r89l1 (x0 x1 : Int) (x2 : List (List Int)) : Unit :=
 ()
noncomputable def a89l1 (x0 x1 : Int) (x2 : List (List Int)) (p : Unit) : Option (Fin' × List Value × St) := firstT ([(true, .exit 2, [wsl 0, .int .i64 x0, anyV, .int .i64 x1], ⟨[⟨true, (some (.tab sc0 x2))⟩], 1, []⟩)].map fun (b, x) => (b, (x.1, frameOf 68 [0, 1, 4, 5] x.2.1, x.2.2)))
noncomputable def w89l1 (x0 x1 : Int) (x2 : List (List Int)) : Option (Fin' × List Value × St) :=
 (a89l1 x0 x1 x2 ())
set_option maxRecDepth 100000 in
set_option maxHeartbeats 4000000 in
theorem e89l1 (x0 x1 : Int) (x2 : List (List Int)) : evC Try.prog ext T66 L89_1 200 (loopN Try.f89 1) (loopTail ([0, 1, 5, 6], []) [0, 1, 4, 5] [] (sumK 68 [0, 1, 5, 6] [0, 1, 4, 5] noQ)) (frameOf 68 [0, 1, 5, 6] [wsl 0, .int .i64 x0, .int .i64 x1, .int .i64 4]) ⟨[⟨true, (some (.tab sc0 x2))⟩], 1, []⟩ = firstT ([(true, .exit 2, [wsl 0, .int .i64 x0, anyV, .int .i64 x1], ⟨[⟨true, (some (.tab sc0 x2))⟩], 1, []⟩)].map fun (b, x) => (b, (x.1, frameOf 68 [0, 1, 4, 5] x.2.1, x.2.2))) :=
 (show evC Try.prog ext T66 L89_1 200 (loopN Try.f89 1) (loopTail ([0, 1, 5, 6], []) [0, 1, 4, 5] [] (sumK 68 [0, 1, 5, 6] [0, 1, 4, 5] noQ)) (frameOf 68 [0, 1, 5, 6] [wsl 0, .int .i64 x0, .int .i64 x1, .int .i64 4]) ⟨[⟨true, (some (.tab sc0 x2))⟩], 1, []⟩ = w89l1 x0 x1 x2 from by kernel_rfl).trans
 (show w89l1 x0 x1 x2 = a89l1 x0 x1 x2 (r89l1 x0 x1 x2) from by unfold w89l1 r89l1; exact rfl)
noncomputable def Q89l1 : SumK := fun vals s =>
 match vals, s.h with
 | [.iface f0 .nilIface, .int .i64 x0, .int .i64 x1, .int .i64 f1], [⟨true, some (.tab [.int .i64, .int .i64, .fl .f32, .fl .f32, .fl .f32, .fl .f32, .fl .f32, .fl .f32] x2)⟩] => if f0 = 0 ∧ f1 = 4 then [(true, .exit 2, [wsl 0, .int .i64 x0, anyV, .int .i64 x1], ⟨[⟨true, (some (.tab sc0 x2))⟩], 1, []⟩)] else noQ vals s
 | _, _ => noQ vals s
set_option maxRecDepth 100000 in
set_option maxHeartbeats 4000000 in
theorem qok89l1 : SumKOk Try.prog (loopN Try.f89 1) 68 [0, 1, 5, 6] [0, 1, 4, 5] Q89l1 := by
  intro vals s x h1 h2 h3
  unfold Q89l1 at h3; split at h3
  · rename_i h; split at h3
    · rename_i hc; obtain ⟨rfl, rfl⟩ := hc; exact sum_step ok66 extOk mixed (lok89_1.inner (by kernel_rfl)) noQ_ok h1 h2 h (e89l1 _ _ _) rfl h3
    · exact noQ_ok _ _ _ h1 h2 h3
  · exact noQ_ok _ _ _ h1 h2 h3
noncomputable def L89_2 : LoopT := addL L89_1 18 ([0, 1, 5, 6], []) (sumK 68 [0, 1, 5, 6] [0, 1, 4, 5] Q89l1)
theorem lok89_2 : LfOkF Try.prog L89_2 Try.f89 := lfOkF_add lok89_1 qok89l1 (by kernel_rfl) (by kernel_rfl) (by kernel_rfl)

/-- laws.heldWallS, loop 1 -/
noncomputable def r89l1b (x0 x1 : Int) (x2 : List (List Int)) : Nat × Int :=
 cond ((decide ((0 : Int) ≤ x1)) && (Nat.blt (Int.toNat x1) x2.length))
  (cond (!feq .f32 (Int.toNat ((x2.getD (Int.toNat x1) []).getD 7 0)) (ofInt .f32 x0))
   (0, 0)
   (1, (IntKind.i64.wrap (x0 + 1))))
  (2, 0)
noncomputable def a89l1b (x0 x1 : Int) (x2 : List (List Int)) (p : Nat × Int) : Option (Fin' × List Value × St) := firstT ([((Nat.beq (p.1) 0), .ret, [wsl 0, .int .i64 x0, .int .i64 (-1), .int .i64 x1], ⟨[⟨true, (some (.tab sc0 x2))⟩], 1, []⟩), ((Nat.beq (p.1) 1), .exit 2, [wsl 0, .int .i64 (p.2), anyV, .int .i64 x1], ⟨[⟨true, (some (.tab sc0 x2))⟩], 1, []⟩)].map fun (b, x) => (b, (x.1, frameOf 68 [0, 1, 4, 5] x.2.1, x.2.2)))
noncomputable def w89l1b (x0 x1 : Int) (x2 : List (List Int)) : Option (Fin' × List Value × St) :=
 (cond ((decide ((0 : Int) ≤ x1)) && (Nat.blt (Int.toNat x1) x2.length))
 (cond (Nat.blt (Int.toNat x1) x2.length)
  (cond (!feq .f32 (Int.toNat ((x2.getD (Int.toNat x1) []).getD 7 0)) (ofInt .f32 x0))
   (a89l1b x0 x1 x2 (0, 0))
   (a89l1b x0 x1 x2 (1, (IntKind.i64.wrap (x0 + 1)))))
  none)
 none)
set_option maxRecDepth 100000 in
set_option maxHeartbeats 4000000 in
theorem e89l1b (x0 x1 : Int) (x2 : List (List Int)) : evC Try.prog ext T66 L89_2 200 (loopN Try.f89 1) (loopTail ([0, 1, 5, 6], []) [0, 1, 4, 5] [] (sumK 68 [0, 1, 5, 6] [0, 1, 4, 5] Q89l1)) (frameOf 68 [0, 1, 5, 6] [wsl 0, .int .i64 x0, .int .i64 x1, .int .i64 3]) ⟨[⟨true, (some (.tab sc0 x2))⟩], 1, []⟩ = firstT ([((Nat.beq ((r89l1b x0 x1 x2).1) 0), .ret, [wsl 0, .int .i64 x0, .int .i64 (-1), .int .i64 x1], ⟨[⟨true, (some (.tab sc0 x2))⟩], 1, []⟩), ((Nat.beq ((r89l1b x0 x1 x2).1) 1), .exit 2, [wsl 0, .int .i64 ((r89l1b x0 x1 x2).2), anyV, .int .i64 x1], ⟨[⟨true, (some (.tab sc0 x2))⟩], 1, []⟩)].map fun (b, x) => (b, (x.1, frameOf 68 [0, 1, 4, 5] x.2.1, x.2.2))) :=
 (show evC Try.prog ext T66 L89_2 200 (loopN Try.f89 1) (loopTail ([0, 1, 5, 6], []) [0, 1, 4, 5] [] (sumK 68 [0, 1, 5, 6] [0, 1, 4, 5] Q89l1)) (frameOf 68 [0, 1, 5, 6] [wsl 0, .int .i64 x0, .int .i64 x1, .int .i64 3]) ⟨[⟨true, (some (.tab sc0 x2))⟩], 1, []⟩ = w89l1b x0 x1 x2 from by kernel_rfl).trans
 (show w89l1b x0 x1 x2 = a89l1b x0 x1 x2 (r89l1b x0 x1 x2) from by unfold w89l1b r89l1b; exact (cond_both (a89l1b x0 x1 x2) _ (fun h0 => (cond_t (ev_and2 h0) (cond_app (a89l1b x0 x1 x2) _ rfl rfl))) (fun h0 => rfl)))
noncomputable def Q89l1b : SumK := fun vals s =>
 match vals, s.h with
 | [.iface f0 .nilIface, .int .i64 x0, .int .i64 x1, .int .i64 f1], [⟨true, some (.tab [.int .i64, .int .i64, .fl .f32, .fl .f32, .fl .f32, .fl .f32, .fl .f32, .fl .f32] x2)⟩] => if f0 = 0 ∧ f1 = 3 then [((Nat.beq ((r89l1b x0 x1 x2).1) 0), .ret, [wsl 0, .int .i64 x0, .int .i64 (-1), .int .i64 x1], ⟨[⟨true, (some (.tab sc0 x2))⟩], 1, []⟩), ((Nat.beq ((r89l1b x0 x1 x2).1) 1), .exit 2, [wsl 0, .int .i64 ((r89l1b x0 x1 x2).2), anyV, .int .i64 x1], ⟨[⟨true, (some (.tab sc0 x2))⟩], 1, []⟩)] else Q89l1 vals s
 | _, _ => Q89l1 vals s
set_option maxRecDepth 100000 in
set_option maxHeartbeats 4000000 in
theorem qok89l1b : SumKOk Try.prog (loopN Try.f89 1) 68 [0, 1, 5, 6] [0, 1, 4, 5] Q89l1b := by
  intro vals s x h1 h2 h3
  unfold Q89l1b at h3; split at h3
  · rename_i h; split at h3
    · rename_i hc; obtain ⟨rfl, rfl⟩ := hc; exact sum_step ok66 extOk mixed (lok89_2.inner (by kernel_rfl)) qok89l1 h1 h2 h (e89l1b _ _ _) rfl h3
    · exact qok89l1 _ _ _ h1 h2 h3
  · exact qok89l1 _ _ _ h1 h2 h3
noncomputable def L89_3 : LoopT := addL L89_2 18 ([0, 1, 5, 6], []) (sumK 68 [0, 1, 5, 6] [0, 1, 4, 5] Q89l1b)
theorem lok89_3 : LfOkF Try.prog L89_3 Try.f89 := lfOkF_add lok89_2 qok89l1b (by kernel_rfl) (by kernel_rfl) (by kernel_rfl)

/-- laws.heldWallS, loop 1 -/
noncomputable def r89l1c (x0 x1 : Int) (x2 : List (List Int)) : Nat × Int × Int :=
 cond ((decide ((0 : Int) ≤ x1)) && (Nat.blt (Int.toNat x1) x2.length))
  (cond (!feq .f32 (Int.toNat ((x2.getD (Int.toNat x1) []).getD 6 0)) (ofInt .f32 x0))
   (0, x0, 0)
   (cond (Nat.beq ((r89l1b (IntKind.i64.wrap (x0 + 1)) x1 x2).1) 0)
    (0, (IntKind.i64.wrap (x0 + 1)), 0)
    (cond (Nat.beq ((r89l1b (IntKind.i64.wrap (x0 + 1)) x1 x2).1) 1)
     (1, 0, ((r89l1b (IntKind.i64.wrap (x0 + 1)) x1 x2).2))
     (2, 0, 0))))
  (2, 0, 0)
noncomputable def a89l1c (x0 x1 : Int) (x2 : List (List Int)) (p : Nat × Int × Int) : Option (Fin' × List Value × St) := firstT ([((Nat.beq (p.1) 0), .ret, [wsl 0, .int .i64 (p.2.1), .int .i64 (-1), .int .i64 x1], ⟨[⟨true, (some (.tab sc0 x2))⟩], 1, []⟩), ((Nat.beq (p.1) 1), .exit 2, [wsl 0, .int .i64 (p.2.2), anyV, .int .i64 x1], ⟨[⟨true, (some (.tab sc0 x2))⟩], 1, []⟩)].map fun (b, x) => (b, (x.1, frameOf 68 [0, 1, 4, 5] x.2.1, x.2.2)))
noncomputable def w89l1c (x0 x1 : Int) (x2 : List (List Int)) : Option (Fin' × List Value × St) :=
 (cond ((decide ((0 : Int) ≤ x1)) && (Nat.blt (Int.toNat x1) x2.length))
 (cond (Nat.blt (Int.toNat x1) x2.length)
  (cond (!feq .f32 (Int.toNat ((x2.getD (Int.toNat x1) []).getD 6 0)) (ofInt .f32 x0))
   (a89l1c x0 x1 x2 (0, x0, 0))
   (cond (Nat.beq ((r89l1b (IntKind.i64.wrap (x0 + 1)) x1 x2).1) 0)
    (a89l1c x0 x1 x2 (0, (IntKind.i64.wrap (x0 + 1)), 0))
    (cond (Nat.beq ((r89l1b (IntKind.i64.wrap (x0 + 1)) x1 x2).1) 1)
     (a89l1c x0 x1 x2 (1, 0, ((r89l1b (IntKind.i64.wrap (x0 + 1)) x1 x2).2)))
     none)))
  none)
 none)
set_option maxRecDepth 100000 in
set_option maxHeartbeats 4000000 in
theorem e89l1c (x0 x1 : Int) (x2 : List (List Int)) : evC Try.prog ext T66 L89_3 200 (loopN Try.f89 1) (loopTail ([0, 1, 5, 6], []) [0, 1, 4, 5] [] (sumK 68 [0, 1, 5, 6] [0, 1, 4, 5] Q89l1b)) (frameOf 68 [0, 1, 5, 6] [wsl 0, .int .i64 x0, .int .i64 x1, .int .i64 2]) ⟨[⟨true, (some (.tab sc0 x2))⟩], 1, []⟩ = firstT ([((Nat.beq ((r89l1c x0 x1 x2).1) 0), .ret, [wsl 0, .int .i64 ((r89l1c x0 x1 x2).2.1), .int .i64 (-1), .int .i64 x1], ⟨[⟨true, (some (.tab sc0 x2))⟩], 1, []⟩), ((Nat.beq ((r89l1c x0 x1 x2).1) 1), .exit 2, [wsl 0, .int .i64 ((r89l1c x0 x1 x2).2.2), anyV, .int .i64 x1], ⟨[⟨true, (some (.tab sc0 x2))⟩], 1, []⟩)].map fun (b, x) => (b, (x.1, frameOf 68 [0, 1, 4, 5] x.2.1, x.2.2))) :=
 (show evC Try.prog ext T66 L89_3 200 (loopN Try.f89 1) (loopTail ([0, 1, 5, 6], []) [0, 1, 4, 5] [] (sumK 68 [0, 1, 5, 6] [0, 1, 4, 5] Q89l1b)) (frameOf 68 [0, 1, 5, 6] [wsl 0, .int .i64 x0, .int .i64 x1, .int .i64 2]) ⟨[⟨true, (some (.tab sc0 x2))⟩], 1, []⟩ = w89l1c x0 x1 x2 from by kernel_rfl).trans
 (show w89l1c x0 x1 x2 = a89l1c x0 x1 x2 (r89l1c x0 x1 x2) from by unfold w89l1c r89l1c; exact (cond_both (a89l1c x0 x1 x2) _ (fun h0 => (cond_t (ev_and2 h0) (cond_app (a89l1c x0 x1 x2) _ rfl (cond_app (a89l1c x0 x1 x2) _ rfl (cond_app (a89l1c x0 x1 x2) _ rfl rfl))))) (fun h0 => rfl)))
noncomputable def Q89l1c : SumK := fun vals s =>
 match vals, s.h with
 | [.iface f0 .nilIface, .int .i64 x0, .int .i64 x1, .int .i64 f1], [⟨true, some (.tab [.int .i64, .int .i64, .fl .f32, .fl .f32, .fl .f32, .fl .f32, .fl .f32, .fl .f32] x2)⟩] => if f0 = 0 ∧ f1 = 2 then [((Nat.beq ((r89l1c x0 x1 x2).1) 0), .ret, [wsl 0, .int .i64 ((r89l1c x0 x1 x2).2.1), .int .i64 (-1), .int .i64 x1], ⟨[⟨true, (some (.tab sc0 x2))⟩], 1, []⟩), ((Nat.beq ((r89l1c x0 x1 x2).1) 1), .exit 2, [wsl 0, .int .i64 ((r89l1c x0 x1 x2).2.2), anyV, .int .i64 x1], ⟨[⟨true, (some (.tab sc0 x2))⟩], 1, []⟩)] else Q89l1b vals s
 | _, _ => Q89l1b vals s
set_option maxRecDepth 100000 in
set_option maxHeartbeats 4000000 in
theorem qok89l1c : SumKOk Try.prog (loopN Try.f89 1) 68 [0, 1, 5, 6] [0, 1, 4, 5] Q89l1c := by
  intro vals s x h1 h2 h3
  unfold Q89l1c at h3; split at h3
  · rename_i h; split at h3
    · rename_i hc; obtain ⟨rfl, rfl⟩ := hc; exact sum_step ok66 extOk mixed (lok89_3.inner (by kernel_rfl)) qok89l1b h1 h2 h (e89l1c _ _ _) rfl h3
    · exact qok89l1b _ _ _ h1 h2 h3
  · exact qok89l1b _ _ _ h1 h2 h3
noncomputable def L89_4 : LoopT := addL L89_3 18 ([0, 1, 5, 6], []) (sumK 68 [0, 1, 5, 6] [0, 1, 4, 5] Q89l1c)
theorem lok89_4 : LfOkF Try.prog L89_4 Try.f89 := lfOkF_add lok89_3 qok89l1c (by kernel_rfl) (by kernel_rfl) (by kernel_rfl)

/-- laws.heldWallS, loop 1 -/
noncomputable def r89l1d (x0 x1 : Int) (x2 : List (List Int)) : Nat × Int × Int :=
 cond ((decide ((0 : Int) ≤ x1)) && (Nat.blt (Int.toNat x1) x2.length))
  (cond (!feq .f32 (Int.toNat ((x2.getD (Int.toNat x1) []).getD 5 0)) (ofInt .f32 x0))
   (0, x0, 0)
   (cond (Nat.beq ((r89l1c (IntKind.i64.wrap (x0 + 1)) x1 x2).1) 0)
    (0, ((r89l1c (IntKind.i64.wrap (x0 + 1)) x1 x2).2.1), 0)
    (cond (Nat.beq ((r89l1c (IntKind.i64.wrap (x0 + 1)) x1 x2).1) 1)
     (1, 0, ((r89l1c (IntKind.i64.wrap (x0 + 1)) x1 x2).2.2))
     (2, 0, 0))))
  (2, 0, 0)
noncomputable def a89l1d (x0 x1 : Int) (x2 : List (List Int)) (p : Nat × Int × Int) : Option (Fin' × List Value × St) := firstT ([((Nat.beq (p.1) 0), .ret, [wsl 0, .int .i64 (p.2.1), .int .i64 (-1), .int .i64 x1], ⟨[⟨true, (some (.tab sc0 x2))⟩], 1, []⟩), ((Nat.beq (p.1) 1), .exit 2, [wsl 0, .int .i64 (p.2.2), anyV, .int .i64 x1], ⟨[⟨true, (some (.tab sc0 x2))⟩], 1, []⟩)].map fun (b, x) => (b, (x.1, frameOf 68 [0, 1, 4, 5] x.2.1, x.2.2)))
noncomputable def w89l1d (x0 x1 : Int) (x2 : List (List Int)) : Option (Fin' × List Value × St) :=
 (cond ((decide ((0 : Int) ≤ x1)) && (Nat.blt (Int.toNat x1) x2.length))
 (cond (Nat.blt (Int.toNat x1) x2.length)
  (cond (!feq .f32 (Int.toNat ((x2.getD (Int.toNat x1) []).getD 5 0)) (ofInt .f32 x0))
   (a89l1d x0 x1 x2 (0, x0, 0))
   (cond (Nat.beq ((r89l1c (IntKind.i64.wrap (x0 + 1)) x1 x2).1) 0)
    (a89l1d x0 x1 x2 (0, ((r89l1c (IntKind.i64.wrap (x0 + 1)) x1 x2).2.1), 0))
    (cond (Nat.beq ((r89l1c (IntKind.i64.wrap (x0 + 1)) x1 x2).1) 1)
     (a89l1d x0 x1 x2 (1, 0, ((r89l1c (IntKind.i64.wrap (x0 + 1)) x1 x2).2.2)))
     none)))
  none)
 none)
set_option maxRecDepth 100000 in
set_option maxHeartbeats 4000000 in
theorem e89l1d (x0 x1 : Int) (x2 : List (List Int)) : evC Try.prog ext T66 L89_4 200 (loopN Try.f89 1) (loopTail ([0, 1, 5, 6], []) [0, 1, 4, 5] [] (sumK 68 [0, 1, 5, 6] [0, 1, 4, 5] Q89l1c)) (frameOf 68 [0, 1, 5, 6] [wsl 0, .int .i64 x0, .int .i64 x1, .int .i64 1]) ⟨[⟨true, (some (.tab sc0 x2))⟩], 1, []⟩ = firstT ([((Nat.beq ((r89l1d x0 x1 x2).1) 0), .ret, [wsl 0, .int .i64 ((r89l1d x0 x1 x2).2.1), .int .i64 (-1), .int .i64 x1], ⟨[⟨true, (some (.tab sc0 x2))⟩], 1, []⟩), ((Nat.beq ((r89l1d x0 x1 x2).1) 1), .exit 2, [wsl 0, .int .i64 ((r89l1d x0 x1 x2).2.2), anyV, .int .i64 x1], ⟨[⟨true, (some (.tab sc0 x2))⟩], 1, []⟩)].map fun (b, x) => (b, (x.1, frameOf 68 [0, 1, 4, 5] x.2.1, x.2.2))) :=
 (show evC Try.prog ext T66 L89_4 200 (loopN Try.f89 1) (loopTail ([0, 1, 5, 6], []) [0, 1, 4, 5] [] (sumK 68 [0, 1, 5, 6] [0, 1, 4, 5] Q89l1c)) (frameOf 68 [0, 1, 5, 6] [wsl 0, .int .i64 x0, .int .i64 x1, .int .i64 1]) ⟨[⟨true, (some (.tab sc0 x2))⟩], 1, []⟩ = w89l1d x0 x1 x2 from by kernel_rfl).trans
 (show w89l1d x0 x1 x2 = a89l1d x0 x1 x2 (r89l1d x0 x1 x2) from by unfold w89l1d r89l1d; exact (cond_both (a89l1d x0 x1 x2) _ (fun h0 => (cond_t (ev_and2 h0) (cond_app (a89l1d x0 x1 x2) _ rfl (cond_app (a89l1d x0 x1 x2) _ rfl (cond_app (a89l1d x0 x1 x2) _ rfl rfl))))) (fun h0 => rfl)))
noncomputable def Q89l1d : SumK := fun vals s =>
 match vals, s.h with
 | [.iface f0 .nilIface, .int .i64 x0, .int .i64 x1, .int .i64 f1], [⟨true, some (.tab [.int .i64, .int .i64, .fl .f32, .fl .f32, .fl .f32, .fl .f32, .fl .f32, .fl .f32] x2)⟩] => if f0 = 0 ∧ f1 = 1 then [((Nat.beq ((r89l1d x0 x1 x2).1) 0), .ret, [wsl 0, .int .i64 ((r89l1d x0 x1 x2).2.1), .int .i64 (-1), .int .i64 x1], ⟨[⟨true, (some (.tab sc0 x2))⟩], 1, []⟩), ((Nat.beq ((r89l1d x0 x1 x2).1) 1), .exit 2, [wsl 0, .int .i64 ((r89l1d x0 x1 x2).2.2), anyV, .int .i64 x1], ⟨[⟨true, (some (.tab sc0 x2))⟩], 1, []⟩)] else Q89l1c vals s
 | _, _ => Q89l1c vals s
set_option maxRecDepth 100000 in
set_option maxHeartbeats 4000000 in
theorem qok89l1d : SumKOk Try.prog (loopN Try.f89 1) 68 [0, 1, 5, 6] [0, 1, 4, 5] Q89l1d := by
  intro vals s x h1 h2 h3
  unfold Q89l1d at h3; split at h3
  · rename_i h; split at h3
    · rename_i hc; obtain ⟨rfl, rfl⟩ := hc; exact sum_step ok66 extOk mixed (lok89_4.inner (by kernel_rfl)) qok89l1c h1 h2 h (e89l1d _ _ _) rfl h3
    · exact qok89l1c _ _ _ h1 h2 h3
  · exact qok89l1c _ _ _ h1 h2 h3
noncomputable def L89_5 : LoopT := addL L89_4 18 ([0, 1, 5, 6], []) (sumK 68 [0, 1, 5, 6] [0, 1, 4, 5] Q89l1d)
theorem lok89_5 : LfOkF Try.prog L89_5 Try.f89 := lfOkF_add lok89_4 qok89l1d (by kernel_rfl) (by kernel_rfl) (by kernel_rfl)

/-- laws.heldWallS, loop 1 -/
noncomputable def r89l1e (x0 x1 : Int) (x2 : List (List Int)) : Nat × Int × Int :=
 cond ((decide ((0 : Int) ≤ x1)) && (Nat.blt (Int.toNat x1) x2.length))
  (cond (!feq .f32 (Int.toNat ((x2.getD (Int.toNat x1) []).getD 4 0)) (ofInt .f32 x0))
   (0, x0, 0)
   (cond (Nat.beq ((r89l1d (IntKind.i64.wrap (x0 + 1)) x1 x2).1) 0)
    (0, ((r89l1d (IntKind.i64.wrap (x0 + 1)) x1 x2).2.1), 0)
    (cond (Nat.beq ((r89l1d (IntKind.i64.wrap (x0 + 1)) x1 x2).1) 1)
     (1, 0, ((r89l1d (IntKind.i64.wrap (x0 + 1)) x1 x2).2.2))
     (2, 0, 0))))
  (2, 0, 0)
noncomputable def a89l1e (x0 x1 : Int) (x2 : List (List Int)) (p : Nat × Int × Int) : Option (Fin' × List Value × St) := firstT ([((Nat.beq (p.1) 0), .ret, [wsl 0, .int .i64 (p.2.1), .int .i64 (-1), .int .i64 x1], ⟨[⟨true, (some (.tab sc0 x2))⟩], 1, []⟩), ((Nat.beq (p.1) 1), .exit 2, [wsl 0, .int .i64 (p.2.2), anyV, .int .i64 x1], ⟨[⟨true, (some (.tab sc0 x2))⟩], 1, []⟩)].map fun (b, x) => (b, (x.1, frameOf 68 [0, 1, 4, 5] x.2.1, x.2.2)))
noncomputable def w89l1e (x0 x1 : Int) (x2 : List (List Int)) : Option (Fin' × List Value × St) :=
 (cond ((decide ((0 : Int) ≤ x1)) && (Nat.blt (Int.toNat x1) x2.length))
 (cond (Nat.blt (Int.toNat x1) x2.length)
  (cond (!feq .f32 (Int.toNat ((x2.getD (Int.toNat x1) []).getD 4 0)) (ofInt .f32 x0))
   (a89l1e x0 x1 x2 (0, x0, 0))
   (cond (Nat.beq ((r89l1d (IntKind.i64.wrap (x0 + 1)) x1 x2).1) 0)
    (a89l1e x0 x1 x2 (0, ((r89l1d (IntKind.i64.wrap (x0 + 1)) x1 x2).2.1), 0))
    (cond (Nat.beq ((r89l1d (IntKind.i64.wrap (x0 + 1)) x1 x2).1) 1)
     (a89l1e x0 x1 x2 (1, 0, ((r89l1d (IntKind.i64.wrap (x0 + 1)) x1 x2).2.2)))
     none)))
  none)
 none)
set_option maxRecDepth 100000 in
set_option maxHeartbeats 4000000 in
theorem e89l1e (x0 x1 : Int) (x2 : List (List Int)) : evC Try.prog ext T66 L89_5 200 (loopN Try.f89 1) (loopTail ([0, 1, 5, 6], []) [0, 1, 4, 5] [] (sumK 68 [0, 1, 5, 6] [0, 1, 4, 5] Q89l1d)) (frameOf 68 [0, 1, 5, 6] [wsl 0, .int .i64 x0, .int .i64 x1, .int .i64 0]) ⟨[⟨true, (some (.tab sc0 x2))⟩], 1, []⟩ = firstT ([((Nat.beq ((r89l1e x0 x1 x2).1) 0), .ret, [wsl 0, .int .i64 ((r89l1e x0 x1 x2).2.1), .int .i64 (-1), .int .i64 x1], ⟨[⟨true, (some (.tab sc0 x2))⟩], 1, []⟩), ((Nat.beq ((r89l1e x0 x1 x2).1) 1), .exit 2, [wsl 0, .int .i64 ((r89l1e x0 x1 x2).2.2), anyV, .int .i64 x1], ⟨[⟨true, (some (.tab sc0 x2))⟩], 1, []⟩)].map fun (b, x) => (b, (x.1, frameOf 68 [0, 1, 4, 5] x.2.1, x.2.2))) :=
 (show evC Try.prog ext T66 L89_5 200 (loopN Try.f89 1) (loopTail ([0, 1, 5, 6], []) [0, 1, 4, 5] [] (sumK 68 [0, 1, 5, 6] [0, 1, 4, 5] Q89l1d)) (frameOf 68 [0, 1, 5, 6] [wsl 0, .int .i64 x0, .int .i64 x1, .int .i64 0]) ⟨[⟨true, (some (.tab sc0 x2))⟩], 1, []⟩ = w89l1e x0 x1 x2 from by kernel_rfl).trans
 (show w89l1e x0 x1 x2 = a89l1e x0 x1 x2 (r89l1e x0 x1 x2) from by unfold w89l1e r89l1e; exact (cond_both (a89l1e x0 x1 x2) _ (fun h0 => (cond_t (ev_and2 h0) (cond_app (a89l1e x0 x1 x2) _ rfl (cond_app (a89l1e x0 x1 x2) _ rfl (cond_app (a89l1e x0 x1 x2) _ rfl rfl))))) (fun h0 => rfl)))
noncomputable def Q89l1e : SumK := fun vals s =>
 match vals, s.h with
 | [.iface f0 .nilIface, .int .i64 x0, .int .i64 x1, .int .i64 f1], [⟨true, some (.tab [.int .i64, .int .i64, .fl .f32, .fl .f32, .fl .f32, .fl .f32, .fl .f32, .fl .f32] x2)⟩] => if f0 = 0 ∧ f1 = 0 then [((Nat.beq ((r89l1e x0 x1 x2).1) 0), .ret, [wsl 0, .int .i64 ((r89l1e x0 x1 x2).2.1), .int .i64 (-1), .int .i64 x1], ⟨[⟨true, (some (.tab sc0 x2))⟩], 1, []⟩), ((Nat.beq ((r89l1e x0 x1 x2).1) 1), .exit 2, [wsl 0, .int .i64 ((r89l1e x0 x1 x2).2.2), anyV, .int .i64 x1], ⟨[⟨true, (some (.tab sc0 x2))⟩], 1, []⟩)] else Q89l1d vals s
 | _, _ => Q89l1d vals s
set_option maxRecDepth 100000 in
set_option maxHeartbeats 4000000 in
theorem qok89l1e : SumKOk Try.prog (loopN Try.f89 1) 68 [0, 1, 5, 6] [0, 1, 4, 5] Q89l1e := by
  intro vals s x h1 h2 h3
  unfold Q89l1e at h3; split at h3
  · rename_i h; split at h3
    · rename_i hc; obtain ⟨rfl, rfl⟩ := hc; exact sum_step ok66 extOk mixed (lok89_5.inner (by kernel_rfl)) qok89l1d h1 h2 h (e89l1e _ _ _) rfl h3
    · exact qok89l1d _ _ _ h1 h2 h3
  · exact qok89l1d _ _ _ h1 h2 h3
noncomputable def L89_6 : LoopT := addL L89_5 18 ([0, 1, 5, 6], []) (sumK 68 [0, 1, 5, 6] [0, 1, 4, 5] Q89l1e)
theorem lok89_6 : LfOkF Try.prog L89_6 Try.f89 := lfOkF_add lok89_5 qok89l1e (by kernel_rfl) (by kernel_rfl) (by kernel_rfl)

/-- laws.heldWallS, loop 0: one round -/
noncomputable def b89l0b (ih : Int → Int → List (List Int) → (Nat × Int × Int)) (x0 x1 : Int) (x2 : List (List Int)) : Nat × Int × Int :=
 cond (decide ((x1 : Int) < ((x2.length : Nat) : Int)))
  (cond ((decide ((0 : Int) ≤ x1)) && (Nat.blt (Int.toNat x1) x2.length))
   (cond ((((x2.getD (Int.toNat x1) []).getD 0 0) : Int) != x0)
    (0, x0, 0)
    (cond ((((x2.getD (Int.toNat x1) []).getD 1 0) : Int) != (IntKind.i64.wrap (x0 + 1)))
     (0, (IntKind.i64.wrap (x0 + 1)), 0)
     (cond (!feq .f32 (Int.toNat ((x2.getD (Int.toNat x1) []).getD 2 0)) (ofInt .f32 (IntKind.i64.wrap ((IntKind.i64.wrap (x0 + 1)) + 1))))
      (0, (IntKind.i64.wrap ((IntKind.i64.wrap (x0 + 1)) + 1)), 0)
      (cond (!feq .f32 (Int.toNat ((x2.getD (Int.toNat x1) []).getD 3 0)) (ofInt .f32 (IntKind.i64.wrap ((IntKind.i64.wrap ((IntKind.i64.wrap (x0 + 1)) + 1)) + 1))))
       (0, (IntKind.i64.wrap ((IntKind.i64.wrap ((IntKind.i64.wrap (x0 + 1)) + 1)) + 1)), 0)
       (cond (Nat.beq ((r89l1e (IntKind.i64.wrap ((IntKind.i64.wrap ((IntKind.i64.wrap ((IntKind.i64.wrap (x0 + 1)) + 1)) + 1)) + 1)) x1 x2).1) 0)
        (0, ((r89l1e (IntKind.i64.wrap ((IntKind.i64.wrap ((IntKind.i64.wrap ((IntKind.i64.wrap (x0 + 1)) + 1)) + 1)) + 1)) x1 x2).2.1), 0)
        (cond (Nat.beq ((r89l1e (IntKind.i64.wrap ((IntKind.i64.wrap ((IntKind.i64.wrap ((IntKind.i64.wrap (x0 + 1)) + 1)) + 1)) + 1)) x1 x2).1) 1)
         (ih ((r89l1e (IntKind.i64.wrap ((IntKind.i64.wrap ((IntKind.i64.wrap ((IntKind.i64.wrap (x0 + 1)) + 1)) + 1)) + 1)) x1 x2).2.2) (IntKind.i64.wrap (x1 + 1)) x2)
         (2, 0, 0)))))))
   (2, 0, 0))
  (1, 0, x0)
noncomputable def r89l0b : Nat → Int → Int → List (List Int) → (Nat × Int × Int)
 | 0 => fun _ _ _ => (2, 0, 0)
 | m + 1 => b89l0b (r89l0b m)
noncomputable def a89l0b (x0 x1 : Int) (x2 : List (List Int)) (p : Nat × Int × Int) : Option (Fin' × List Value × St) := firstT ([((Nat.beq (p.1) 0), .ret, [.int .i64 (p.2.1), .int .i64 (-1)], ⟨[⟨true, (some (.tab sc0 x2))⟩], 1, []⟩), ((Nat.beq (p.1) 1), .exit 0, [.int .i64 (p.2.2), anyV], ⟨[⟨true, (some (.tab sc0 x2))⟩], 1, []⟩)].map fun (b, x) => (b, (x.1, frameOf 68 [1, 4] x.2.1, x.2.2)))
noncomputable def u89l0b (x0 x1 : Int) (x2 : List (List Int)) (p : Nat × Int × Int) : Option (Fin' × List Value × St) := alts ([((Nat.beq (p.1) 0), .ret, [.int .i64 (p.2.1), .int .i64 (-1)], ⟨[⟨true, (some (.tab sc0 x2))⟩], 1, []⟩), ((Nat.beq (p.1) 1), .exit 0, [.int .i64 (p.2.2), anyV], ⟨[⟨true, (some (.tab sc0 x2))⟩], 1, []⟩)].map fun (b, x) => (b, (x.1, frameOf 68 [1, 4] x.2.1, x.2.2))) some
theorem v89l0b (x0 x1 : Int) (x2 : List (List Int)) (p : Nat × Int × Int) : u89l0b x0 x1 x2 p = a89l0b x0 x1 x2 p := alts_first _
noncomputable def q89l0b (m : Nat) : SumK := fun vals s =>
 match vals, s.h with
 | [.iface f0 .nilIface, .int .i64 x0, .int .i64 x1], [⟨true, some (.tab [.int .i64, .int .i64, .fl .f32, .fl .f32, .fl .f32, .fl .f32, .fl .f32, .fl .f32] x2)⟩] => if f0 = 0 then [((Nat.beq ((r89l0b m x0 x1 x2).1) 0), .ret, [.int .i64 ((r89l0b m x0 x1 x2).2.1), .int .i64 (-1)], ⟨[⟨true, (some (.tab sc0 x2))⟩], 1, []⟩), ((Nat.beq ((r89l0b m x0 x1 x2).1) 1), .exit 0, [.int .i64 ((r89l0b m x0 x1 x2).2.2), anyV], ⟨[⟨true, (some (.tab sc0 x2))⟩], 1, []⟩)] else Q89l0 vals s
 | _, _ => Q89l0 vals s
noncomputable def w89l0b (ih : Int → Int → List (List Int) → (Nat × Int × Int)) (x0 x1 : Int) (x2 : List (List Int)) : Option (Fin' × List Value × St) :=
 (cond (decide ((x1 : Int) < ((x2.length : Nat) : Int)))
 (cond ((decide ((0 : Int) ≤ x1)) && (Nat.blt (Int.toNat x1) x2.length))
  (cond (Nat.blt (Int.toNat x1) x2.length)
   (cond ((((x2.getD (Int.toNat x1) []).getD 0 0) : Int) != x0)
    (a89l0b x0 x1 x2 (0, x0, 0))
    (cond ((decide ((0 : Int) ≤ x1)) && (Nat.blt (Int.toNat x1) x2.length))
     (cond (Nat.blt (Int.toNat x1) x2.length)
      (cond ((((x2.getD (Int.toNat x1) []).getD 1 0) : Int) != (IntKind.i64.wrap (x0 + 1)))
       (a89l0b x0 x1 x2 (0, (IntKind.i64.wrap (x0 + 1)), 0))
       (cond ((decide ((0 : Int) ≤ x1)) && (Nat.blt (Int.toNat x1) x2.length))
        (cond (Nat.blt (Int.toNat x1) x2.length)
         (cond (!feq .f32 (Int.toNat ((x2.getD (Int.toNat x1) []).getD 2 0)) (ofInt .f32 (IntKind.i64.wrap ((IntKind.i64.wrap (x0 + 1)) + 1))))
          (a89l0b x0 x1 x2 (0, (IntKind.i64.wrap ((IntKind.i64.wrap (x0 + 1)) + 1)), 0))
          (cond ((decide ((0 : Int) ≤ x1)) && (Nat.blt (Int.toNat x1) x2.length))
           (cond (Nat.blt (Int.toNat x1) x2.length)
            (cond (!feq .f32 (Int.toNat ((x2.getD (Int.toNat x1) []).getD 3 0)) (ofInt .f32 (IntKind.i64.wrap ((IntKind.i64.wrap ((IntKind.i64.wrap (x0 + 1)) + 1)) + 1))))
             (a89l0b x0 x1 x2 (0, (IntKind.i64.wrap ((IntKind.i64.wrap ((IntKind.i64.wrap (x0 + 1)) + 1)) + 1)), 0))
             (cond (Nat.beq ((r89l1e (IntKind.i64.wrap ((IntKind.i64.wrap ((IntKind.i64.wrap ((IntKind.i64.wrap (x0 + 1)) + 1)) + 1)) + 1)) x1 x2).1) 0)
              (a89l0b x0 x1 x2 (0, ((r89l1e (IntKind.i64.wrap ((IntKind.i64.wrap ((IntKind.i64.wrap ((IntKind.i64.wrap (x0 + 1)) + 1)) + 1)) + 1)) x1 x2).2.1), 0))
              (cond (Nat.beq ((r89l1e (IntKind.i64.wrap ((IntKind.i64.wrap ((IntKind.i64.wrap ((IntKind.i64.wrap (x0 + 1)) + 1)) + 1)) + 1)) x1 x2).1) 1)
               (u89l0b x0 x1 x2 (ih ((r89l1e (IntKind.i64.wrap ((IntKind.i64.wrap ((IntKind.i64.wrap ((IntKind.i64.wrap (x0 + 1)) + 1)) + 1)) + 1)) x1 x2).2.2) (IntKind.i64.wrap (x1 + 1)) x2))
               none)))
            none)
           none))
         none)
        none))
      none)
     none))
   none)
  none)
 (a89l0b x0 x1 x2 (1, 0, x0)))
set_option maxRecDepth 100000 in
set_option maxHeartbeats 4000000 in
theorem e89l0b (m : Nat) (x0 x1 : Int) (x2 : List (List Int)) : evC Try.prog ext T66 L89_6 200 (loopN Try.f89 0) (loopTail ([0, 1, 5], []) [1, 4] [] (sumK 68 [0, 1, 5] [1, 4] (q89l0b m))) (frameOf 68 [0, 1, 5] [wsl 0, .int .i64 x0, .int .i64 x1]) ⟨[⟨true, (some (.tab sc0 x2))⟩], 1, []⟩ = firstT ([((Nat.beq ((r89l0b (m + 1) x0 x1 x2).1) 0), .ret, [.int .i64 ((r89l0b (m + 1) x0 x1 x2).2.1), .int .i64 (-1)], ⟨[⟨true, (some (.tab sc0 x2))⟩], 1, []⟩), ((Nat.beq ((r89l0b (m + 1) x0 x1 x2).1) 1), .exit 0, [.int .i64 ((r89l0b (m + 1) x0 x1 x2).2.2), anyV], ⟨[⟨true, (some (.tab sc0 x2))⟩], 1, []⟩)].map fun (b, x) => (b, (x.1, frameOf 68 [1, 4] x.2.1, x.2.2))) :=
 (show evC Try.prog ext T66 L89_6 200 (loopN Try.f89 0) (loopTail ([0, 1, 5], []) [1, 4] [] (sumK 68 [0, 1, 5] [1, 4] (q89l0b m))) (frameOf 68 [0, 1, 5] [wsl 0, .int .i64 x0, .int .i64 x1]) ⟨[⟨true, (some (.tab sc0 x2))⟩], 1, []⟩ = w89l0b (r89l0b m) x0 x1 x2 from by kernel_rfl).trans
 (show w89l0b (r89l0b m) x0 x1 x2 = a89l0b x0 x1 x2 (r89l0b (m + 1) x0 x1 x2) from by unfold w89l0b; show _ = a89l0b x0 x1 x2 (b89l0b (r89l0b m) x0 x1 x2); unfold b89l0b; exact (cond_both (a89l0b x0 x1 x2) _ (fun h0 => (cond_both (a89l0b x0 x1 x2) _ (fun h1 => (cond_t (ev_and2 h1) (cond_both (a89l0b x0 x1 x2) _ (fun h2 => rfl) (fun h2 => (cond_t h1 (cond_t (ev_and2 h1) (cond_both (a89l0b x0 x1 x2) _ (fun h3 => rfl) (fun h3 => (cond_t h1 (cond_t (ev_and2 h1) (cond_both (a89l0b x0 x1 x2) _ (fun h4 => rfl) (fun h4 => (cond_t h1 (cond_t (ev_and2 h1) (cond_app (a89l0b x0 x1 x2) _ rfl (cond_app (a89l0b x0 x1 x2) _ rfl (cond_app (a89l0b x0 x1 x2) _ (v89l0b x0 x1 x2 ((r89l0b m) ((r89l1e (IntKind.i64.wrap ((IntKind.i64.wrap ((IntKind.i64.wrap ((IntKind.i64.wrap (x0 + 1)) + 1)) + 1)) + 1)) x1 x2).2.2) (IntKind.i64.wrap (x1 + 1)) x2)) rfl))))))))))))))))) (fun h1 => rfl))) (fun h0 => rfl)))
set_option maxRecDepth 100000 in
set_option maxHeartbeats 4000000 in
theorem qm89l0b : ∀ m, SumKOk Try.prog (loopN Try.f89 0) 68 [0, 1, 5] [1, 4] (q89l0b m) := by
  intro m
  induction m with
  | zero =>
    intro vals s x h1 h2 h3
    unfold q89l0b at h3; split at h3
    · rename_i h; split at h3
      · rename_i hc; obtain ⟨rfl⟩ := hc; exact absurd h3 (by simp [r89l0b, firstT, Nat.beq])
      · exact qok89l0 _ _ _ h1 h2 h3
    · exact qok89l0 _ _ _ h1 h2 h3
  | succ m ih =>
    intro vals s x h1 h2 h3
    unfold q89l0b at h3; split at h3
    · rename_i h; split at h3
      · rename_i hc; obtain ⟨rfl⟩ := hc; exact sum_step ok66 extOk mixed (lok89_6.inner (by kernel_rfl)) ih h1 h2 h (e89l0b m _ _ _) rfl h3
      · exact qok89l0 _ _ _ h1 h2 h3
    · exact qok89l0 _ _ _ h1 h2 h3
noncomputable def Q89l0b : SumK := fun vals s => q89l0b (fuelOf vals s.h) vals s
theorem qok89l0b : SumKOk Try.prog (loopN Try.f89 0) 68 [0, 1, 5] [1, 4] Q89l0b := fuel_ok qm89l0b fuelOf
noncomputable def L89_7 : LoopT := addL L89_6 3 ([0, 1, 5], []) (sumK 68 [0, 1, 5] [1, 4] Q89l0b)
theorem lok89_7 : LfOkF Try.prog L89_7 Try.f89 := lfOkF_add lok89_6 qok89l0b (by kernel_rfl) (by kernel_rfl) (by kernel_rfl)

/-- laws.heldWallS -/
noncomputable def r89b (x0 : Int) (x1 : List (List Int)) : Nat × Int :=
 cond (Nat.beq ((r89l0b (1000 + x1.length) x0 0 x1).1) 0)
  (0, (-1))
  (cond (Nat.beq ((r89l0b (1000 + x1.length) x0 0 x1).1) 1)
   (0, ((r89l0b (1000 + x1.length) x0 0 x1).2.2))
   (1, 0))
noncomputable def a89b (x0 : Int) (x1 : List (List Int)) (p : Nat × Int) : Res := firstT [((Nat.beq (p.1) 0), .int .i64 (p.2), ⟨[⟨true, (some (.tab sc0 x1))⟩], 1, []⟩)]
noncomputable def w89b (x0 : Int) (x1 : List (List Int)) : Res :=
 (cond (Nat.beq ((r89l0b (1000 + x1.length) x0 0 x1).1) 0)
 (a89b x0 x1 (0, (-1)))
 (cond (Nat.beq ((r89l0b (1000 + x1.length) x0 0 x1).1) 1)
  (a89b x0 x1 (0, ((r89l0b (1000 + x1.length) x0 0 x1).2.2)))
  none))
set_option maxRecDepth 100000 in
set_option maxHeartbeats 4000000 in
theorem e89b (x0 : Int) (x1 : List (List Int)) : evFn Try.prog ext T66 L89_7 200 Try.f89 [wsl 0, .int .i64 x0] ⟨[⟨true, (some (.tab sc0 x1))⟩], 1, []⟩ = firstT [((Nat.beq ((r89b x0 x1).1) 0), .int .i64 ((r89b x0 x1).2), ⟨[⟨true, (some (.tab sc0 x1))⟩], 1, []⟩)] :=
 (show evFn Try.prog ext T66 L89_7 200 Try.f89 [wsl 0, .int .i64 x0] ⟨[⟨true, (some (.tab sc0 x1))⟩], 1, []⟩ = w89b x0 x1 from by kernel_rfl).trans
 (show w89b x0 x1 = a89b x0 x1 (r89b x0 x1) from by unfold w89b r89b; exact (cond_app (a89b x0 x1) _ rfl (cond_app (a89b x0 x1) _ rfl rfl)))
noncomputable def s89b (args : List Value) (s : St) : List (Bool × Value × St) :=
 match args, s.h with
 | [.iface f0 .nilIface, .int .i64 x0], [⟨true, some (.tab [.int .i64, .int .i64, .fl .f32, .fl .f32, .fl .f32, .fl .f32, .fl .f32, .fl .f32] x1)⟩] => if f0 = 0 then [((Nat.beq ((r89b x0 x1).1) 0), .int .i64 ((r89b x0 x1).2), ⟨[⟨true, (some (.tab sc0 x1))⟩], 1, []⟩)] else T66 89 args s
 | _, _ => T66 89 args s
noncomputable def T67 : CallF := addF T66 89 s89b
set_option maxRecDepth 100000 in
set_option maxHeartbeats 4000000 in
theorem ok67 : CfOk Try.prog T67 := by
  refine cfOk_add ok66 fun args s r s' h1 h2 h3 => ?_
  unfold s89b at h3; split at h3
  · rename_i h; split at h3
    · rename_i hc; obtain ⟨rfl⟩ := hc; exact callOk ok66 Try.func89 h1 h2 h lok89_7.body (e89b _ _) rfl h3
    · exact ok66 _ _ _ _ _ h1 h2 h3
  · exact ok66 _ _ _ _ _ h1 h2 h3

/-- laws.heldPaneS, loop 0: one round -/
noncomputable def b90l0b (ih : Int → Int → List (List Int) → (Nat × Int × Int)) (x0 x1 : Int) (x2 : List (List Int)) : Nat × Int × Int :=
 cond (decide ((x1 : Int) < ((x2.length : Nat) : Int)))
  (cond ((decide ((0 : Int) ≤ x1)) && (Nat.blt (Int.toNat x1) x2.length))
   (cond ((((x2.getD (Int.toNat x1) []).getD 0 0) : Int) != x0)
    (0, x0, 0)
    (cond ((((x2.getD (Int.toNat x1) []).getD 1 0) : Int) != (IntKind.i64.wrap (x0 + 1)))
     (0, (IntKind.i64.wrap (x0 + 1)), 0)
     (cond (!feq .f32 (Int.toNat ((x2.getD (Int.toNat x1) []).getD 2 0)) (ofInt .f32 (IntKind.i64.wrap ((IntKind.i64.wrap (x0 + 1)) + 1))))
      (0, (IntKind.i64.wrap ((IntKind.i64.wrap (x0 + 1)) + 1)), 0)
      (cond (!feq .f32 (Int.toNat ((x2.getD (Int.toNat x1) []).getD 3 0)) (ofInt .f32 (IntKind.i64.wrap ((IntKind.i64.wrap ((IntKind.i64.wrap (x0 + 1)) + 1)) + 1))))
       (0, (IntKind.i64.wrap ((IntKind.i64.wrap ((IntKind.i64.wrap (x0 + 1)) + 1)) + 1)), 0)
       (ih (IntKind.i64.wrap ((IntKind.i64.wrap ((IntKind.i64.wrap ((IntKind.i64.wrap (x0 + 1)) + 1)) + 1)) + 1)) (IntKind.i64.wrap (x1 + 1)) x2)))))
   (2, 0, 0))
  (1, 0, x0)
noncomputable def r90l0b : Nat → Int → Int → List (List Int) → (Nat × Int × Int)
 | 0 => fun _ _ _ => (2, 0, 0)
 | m + 1 => b90l0b (r90l0b m)
noncomputable def a90l0b (x0 x1 : Int) (x2 : List (List Int)) (p : Nat × Int × Int) : Option (Fin' × List Value × St) := firstT ([((Nat.beq (p.1) 0), .ret, [.int .i64 (p.2.1), .int .i64 (-1)], ⟨[⟨true, (some (.tab sc1 x2))⟩], 1, []⟩), ((Nat.beq (p.1) 1), .exit 0, [.int .i64 (p.2.2), anyV], ⟨[⟨true, (some (.tab sc1 x2))⟩], 1, []⟩)].map fun (b, x) => (b, (x.1, frameOf 51 [1, 4] x.2.1, x.2.2)))
noncomputable def u90l0b (x0 x1 : Int) (x2 : List (List Int)) (p : Nat × Int × Int) : Option (Fin' × List Value × St) := alts ([((Nat.beq (p.1) 0), .ret, [.int .i64 (p.2.1), .int .i64 (-1)], ⟨[⟨true, (some (.tab sc1 x2))⟩], 1, []⟩), ((Nat.beq (p.1) 1), .exit 0, [.int .i64 (p.2.2), anyV], ⟨[⟨true, (some (.tab sc1 x2))⟩], 1, []⟩)].map fun (b, x) => (b, (x.1, frameOf 51 [1, 4] x.2.1, x.2.2))) some
theorem v90l0b (x0 x1 : Int) (x2 : List (List Int)) (p : Nat × Int × Int) : u90l0b x0 x1 x2 p = a90l0b x0 x1 x2 p := alts_first _
noncomputable def q90l0b (m : Nat) : SumK := fun vals s =>
 match vals, s.h with
 | [.iface f0 .nilIface, .int .i64 x0, .int .i64 x1], [⟨true, some (.tab [.int .i64, .int .i64, .fl .f32, .fl .f32] x2)⟩] => if f0 = 0 then [((Nat.beq ((r90l0b m x0 x1 x2).1) 0), .ret, [.int .i64 ((r90l0b m x0 x1 x2).2.1), .int .i64 (-1)], ⟨[⟨true, (some (.tab sc1 x2))⟩], 1, []⟩), ((Nat.beq ((r90l0b m x0 x1 x2).1) 1), .exit 0, [.int .i64 ((r90l0b m x0 x1 x2).2.2), anyV], ⟨[⟨true, (some (.tab sc1 x2))⟩], 1, []⟩)] else Q90l0 vals s
 | _, _ => Q90l0 vals s
noncomputable def w90l0b (ih : Int → Int → List (List Int) → (Nat × Int × Int)) (x0 x1 : Int) (x2 : List (List Int)) : Option (Fin' × List Value × St) :=
 (cond (decide ((x1 : Int) < ((x2.length : Nat) : Int)))
 (cond ((decide ((0 : Int) ≤ x1)) && (Nat.blt (Int.toNat x1) x2.length))
  (cond (Nat.blt (Int.toNat x1) x2.length)
   (cond ((((x2.getD (Int.toNat x1) []).getD 0 0) : Int) != x0)
    (a90l0b x0 x1 x2 (0, x0, 0))
    (cond ((decide ((0 : Int) ≤ x1)) && (Nat.blt (Int.toNat x1) x2.length))
     (cond (Nat.blt (Int.toNat x1) x2.length)
      (cond ((((x2.getD (Int.toNat x1) []).getD 1 0) : Int) != (IntKind.i64.wrap (x0 + 1)))
       (a90l0b x0 x1 x2 (0, (IntKind.i64.wrap (x0 + 1)), 0))
       (cond ((decide ((0 : Int) ≤ x1)) && (Nat.blt (Int.toNat x1) x2.length))
        (cond (Nat.blt (Int.toNat x1) x2.length)
         (cond (!feq .f32 (Int.toNat ((x2.getD (Int.toNat x1) []).getD 2 0)) (ofInt .f32 (IntKind.i64.wrap ((IntKind.i64.wrap (x0 + 1)) + 1))))
          (a90l0b x0 x1 x2 (0, (IntKind.i64.wrap ((IntKind.i64.wrap (x0 + 1)) + 1)), 0))
          (cond ((decide ((0 : Int) ≤ x1)) && (Nat.blt (Int.toNat x1) x2.length))
           (cond (Nat.blt (Int.toNat x1) x2.length)
            (cond (!feq .f32 (Int.toNat ((x2.getD (Int.toNat x1) []).getD 3 0)) (ofInt .f32 (IntKind.i64.wrap ((IntKind.i64.wrap ((IntKind.i64.wrap (x0 + 1)) + 1)) + 1))))
             (a90l0b x0 x1 x2 (0, (IntKind.i64.wrap ((IntKind.i64.wrap ((IntKind.i64.wrap (x0 + 1)) + 1)) + 1)), 0))
             (u90l0b x0 x1 x2 (ih (IntKind.i64.wrap ((IntKind.i64.wrap ((IntKind.i64.wrap ((IntKind.i64.wrap (x0 + 1)) + 1)) + 1)) + 1)) (IntKind.i64.wrap (x1 + 1)) x2)))
            none)
           none))
         none)
        none))
      none)
     none))
   none)
  none)
 (a90l0b x0 x1 x2 (1, 0, x0)))
set_option maxRecDepth 100000 in
set_option maxHeartbeats 4000000 in
theorem e90l0b (m : Nat) (x0 x1 : Int) (x2 : List (List Int)) : evC Try.prog ext T67 L90_1 200 (loopN Try.f90 0) (loopTail ([0, 1, 5], []) [1, 4] [] (sumK 51 [0, 1, 5] [1, 4] (q90l0b m))) (frameOf 51 [0, 1, 5] [wsl 0, .int .i64 x0, .int .i64 x1]) ⟨[⟨true, (some (.tab sc1 x2))⟩], 1, []⟩ = firstT ([((Nat.beq ((r90l0b (m + 1) x0 x1 x2).1) 0), .ret, [.int .i64 ((r90l0b (m + 1) x0 x1 x2).2.1), .int .i64 (-1)], ⟨[⟨true, (some (.tab sc1 x2))⟩], 1, []⟩), ((Nat.beq ((r90l0b (m + 1) x0 x1 x2).1) 1), .exit 0, [.int .i64 ((r90l0b (m + 1) x0 x1 x2).2.2), anyV], ⟨[⟨true, (some (.tab sc1 x2))⟩], 1, []⟩)].map fun (b, x) => (b, (x.1, frameOf 51 [1, 4] x.2.1, x.2.2))) :=
 (show evC Try.prog ext T67 L90_1 200 (loopN Try.f90 0) (loopTail ([0, 1, 5], []) [1, 4] [] (sumK 51 [0, 1, 5] [1, 4] (q90l0b m))) (frameOf 51 [0, 1, 5] [wsl 0, .int .i64 x0, .int .i64 x1]) ⟨[⟨true, (some (.tab sc1 x2))⟩], 1, []⟩ = w90l0b (r90l0b m) x0 x1 x2 from by kernel_rfl).trans
 (show w90l0b (r90l0b m) x0 x1 x2 = a90l0b x0 x1 x2 (r90l0b (m + 1) x0 x1 x2) from by unfold w90l0b; show _ = a90l0b x0 x1 x2 (b90l0b (r90l0b m) x0 x1 x2); unfold b90l0b; exact (cond_both (a90l0b x0 x1 x2) _ (fun h0 => (cond_both (a90l0b x0 x1 x2) _ (fun h1 => (cond_t (ev_and2 h1) (cond_both (a90l0b x0 x1 x2) _ (fun h2 => rfl) (fun h2 => (cond_t h1 (cond_t (ev_and2 h1) (cond_both (a90l0b x0 x1 x2) _ (fun h3 => rfl) (fun h3 => (cond_t h1 (cond_t (ev_and2 h1) (cond_both (a90l0b x0 x1 x2) _ (fun h4 => rfl) (fun h4 => (cond_t h1 (cond_t (ev_and2 h1) (cond_app (a90l0b x0 x1 x2) _ rfl (v90l0b x0 x1 x2 ((r90l0b m) (IntKind.i64.wrap ((IntKind.i64.wrap ((IntKind.i64.wrap ((IntKind.i64.wrap (x0 + 1)) + 1)) + 1)) + 1)) (IntKind.i64.wrap (x1 + 1)) x2))))))))))))))))) (fun h1 => rfl))) (fun h0 => rfl)))
set_option maxRecDepth 100000 in
set_option maxHeartbeats 4000000 in
theorem qm90l0b : ∀ m, SumKOk Try.prog (loopN Try.f90 0) 51 [0, 1, 5] [1, 4] (q90l0b m) := by
  intro m
  induction m with
  | zero =>
    intro vals s x h1 h2 h3
    unfold q90l0b at h3; split at h3
    · rename_i h; split at h3
      · rename_i hc; obtain ⟨rfl⟩ := hc; exact absurd h3 (by simp [r90l0b, firstT, Nat.beq])
      · exact qok90l0 _ _ _ h1 h2 h3
    · exact qok90l0 _ _ _ h1 h2 h3
  | succ m ih =>
    intro vals s x h1 h2 h3
    unfold q90l0b at h3; split at h3
    · rename_i h; split at h3
      · rename_i hc; obtain ⟨rfl⟩ := hc; exact sum_step ok67 extOk mixed (lok90_1.inner (by kernel_rfl)) ih h1 h2 h (e90l0b m _ _ _) rfl h3
      · exact qok90l0 _ _ _ h1 h2 h3
    · exact qok90l0 _ _ _ h1 h2 h3
noncomputable def Q90l0b : SumK := fun vals s => q90l0b (fuelOf vals s.h) vals s
theorem qok90l0b : SumKOk Try.prog (loopN Try.f90 0) 51 [0, 1, 5] [1, 4] Q90l0b := fuel_ok qm90l0b fuelOf
noncomputable def L90_2 : LoopT := addL L90_1 3 ([0, 1, 5], []) (sumK 51 [0, 1, 5] [1, 4] Q90l0b)
theorem lok90_2 : LfOkF Try.prog L90_2 Try.f90 := lfOkF_add lok90_1 qok90l0b (by kernel_rfl) (by kernel_rfl) (by kernel_rfl)

/-- laws.heldPaneS -/
noncomputable def r90b (x0 : Int) (x1 : List (List Int)) : Nat × Int :=
 cond (Nat.beq ((r90l0b (1000 + x1.length) x0 0 x1).1) 0)
  (0, (-1))
  (cond (Nat.beq ((r90l0b (1000 + x1.length) x0 0 x1).1) 1)
   (0, ((r90l0b (1000 + x1.length) x0 0 x1).2.2))
   (1, 0))
noncomputable def a90b (x0 : Int) (x1 : List (List Int)) (p : Nat × Int) : Res := firstT [((Nat.beq (p.1) 0), .int .i64 (p.2), ⟨[⟨true, (some (.tab sc1 x1))⟩], 1, []⟩)]
noncomputable def w90b (x0 : Int) (x1 : List (List Int)) : Res :=
 (cond (Nat.beq ((r90l0b (1000 + x1.length) x0 0 x1).1) 0)
 (a90b x0 x1 (0, (-1)))
 (cond (Nat.beq ((r90l0b (1000 + x1.length) x0 0 x1).1) 1)
  (a90b x0 x1 (0, ((r90l0b (1000 + x1.length) x0 0 x1).2.2)))
  none))
set_option maxRecDepth 100000 in
set_option maxHeartbeats 4000000 in
theorem e90b (x0 : Int) (x1 : List (List Int)) : evFn Try.prog ext T67 L90_2 200 Try.f90 [wsl 0, .int .i64 x0] ⟨[⟨true, (some (.tab sc1 x1))⟩], 1, []⟩ = firstT [((Nat.beq ((r90b x0 x1).1) 0), .int .i64 ((r90b x0 x1).2), ⟨[⟨true, (some (.tab sc1 x1))⟩], 1, []⟩)] :=
 (show evFn Try.prog ext T67 L90_2 200 Try.f90 [wsl 0, .int .i64 x0] ⟨[⟨true, (some (.tab sc1 x1))⟩], 1, []⟩ = w90b x0 x1 from by kernel_rfl).trans
 (show w90b x0 x1 = a90b x0 x1 (r90b x0 x1) from by unfold w90b r90b; exact (cond_app (a90b x0 x1) _ rfl (cond_app (a90b x0 x1) _ rfl rfl)))
noncomputable def s90b (args : List Value) (s : St) : List (Bool × Value × St) :=
 match args, s.h with
 | [.iface f0 .nilIface, .int .i64 x0], [⟨true, some (.tab [.int .i64, .int .i64, .fl .f32, .fl .f32] x1)⟩] => if f0 = 0 then [((Nat.beq ((r90b x0 x1).1) 0), .int .i64 ((r90b x0 x1).2), ⟨[⟨true, (some (.tab sc1 x1))⟩], 1, []⟩)] else T67 90 args s
 | _, _ => T67 90 args s
noncomputable def T68 : CallF := addF T67 90 s90b
set_option maxRecDepth 100000 in
set_option maxHeartbeats 4000000 in
theorem ok68 : CfOk Try.prog T68 := by
  refine cfOk_add ok67 fun args s r s' h1 h2 h3 => ?_
  unfold s90b at h3; split at h3
  · rename_i h; split at h3
    · rename_i hc; obtain ⟨rfl⟩ := hc; exact callOk ok67 Try.func90 h1 h2 h lok90_2.body (e90b _ _) rfl h3
    · exact ok67 _ _ _ _ _ h1 h2 h3
  · exact ok67 _ _ _ _ _ h1 h2 h3

/-- laws.heldFlat -/
noncomputable def r37b (x0 : Int) (x1 x2 x3 x4 : List (List Int)) : Nat × Int :=
 cond (Nat.beq ((r34b x0 x1).1) 0)
  (cond (decide ((((r34b x0 x1).2) : Int) < 0))
   (0, (-1))
   (cond (Nat.beq ((r34b ((r34b x0 x1).2) x2).1) 0)
    (cond (decide ((((r34b ((r34b x0 x1).2) x2).2) : Int) < 0))
     (0, (-1))
     (cond (Nat.beq ((r89b ((r34b ((r34b x0 x1).2) x2).2) x3).1) 0)
      (cond (decide ((((r89b ((r34b ((r34b x0 x1).2) x2).2) x3).2) : Int) < 0))
       (0, (-1))
       (cond (Nat.beq ((r90b ((r89b ((r34b ((r34b x0 x1).2) x2).2) x3).2) x4).1) 0)
        (cond (decide ((((r90b ((r89b ((r34b ((r34b x0 x1).2) x2).2) x3).2) x4).2) : Int) < 0))
         (0, (-1))
         (0, ((r90b ((r89b ((r34b ((r34b x0 x1).2) x2).2) x3).2) x4).2)))
        (1, 0)))
      (1, 0)))
    (1, 0)))
  (1, 0)
noncomputable def a37b (x0 : Int) (x1 x2 x3 x4 : List (List Int)) (p : Nat × Int) : Res := firstT [((Nat.beq (p.1) 0), .int .i64 (p.2), ⟨[⟨true, (some (.tab [.fl .f32] x1))⟩, ⟨true, (some (.tab [.fl .f32] x2))⟩, ⟨true, (some (.tab sc0 x3))⟩, ⟨true, (some (.tab sc1 x4))⟩], 4, []⟩)]
noncomputable def w37b (x0 : Int) (x1 x2 x3 x4 : List (List Int)) : Res :=
 (cond (Nat.beq ((r34b x0 x1).1) 0)
 (cond (decide ((((r34b x0 x1).2) : Int) < 0))
  (a37b x0 x1 x2 x3 x4 (0, (-1)))
  (cond (Nat.beq ((r34b ((r34b x0 x1).2) x2).1) 0)
   (cond (decide ((((r34b ((r34b x0 x1).2) x2).2) : Int) < 0))
    (a37b x0 x1 x2 x3 x4 (0, (-1)))
    (cond (Nat.beq ((r89b ((r34b ((r34b x0 x1).2) x2).2) x3).1) 0)
     (cond (decide ((((r89b ((r34b ((r34b x0 x1).2) x2).2) x3).2) : Int) < 0))
      (a37b x0 x1 x2 x3 x4 (0, (-1)))
      (cond (Nat.beq ((r90b ((r89b ((r34b ((r34b x0 x1).2) x2).2) x3).2) x4).1) 0)
       (cond (decide ((((r90b ((r89b ((r34b ((r34b x0 x1).2) x2).2) x3).2) x4).2) : Int) < 0))
        (a37b x0 x1 x2 x3 x4 (0, (-1)))
        (a37b x0 x1 x2 x3 x4 (0, ((r90b ((r89b ((r34b ((r34b x0 x1).2) x2).2) x3).2) x4).2))))
       none))
     none))
   none))
 none)
set_option maxRecDepth 100000 in
set_option maxHeartbeats 4000000 in
theorem e37b (x0 : Int) (x1 x2 x3 x4 : List (List Int)) : evFn Try.prog ext T68 noL 200 Try.f37 [.agg #[wsl 0, wsl 1, wsl 2, wsl 3], .int .i64 x0] ⟨[⟨true, (some (.tab [.fl .f32] x1))⟩, ⟨true, (some (.tab [.fl .f32] x2))⟩, ⟨true, (some (.tab sc0 x3))⟩, ⟨true, (some (.tab sc1 x4))⟩], 4, []⟩ = firstT [((Nat.beq ((r37b x0 x1 x2 x3 x4).1) 0), .int .i64 ((r37b x0 x1 x2 x3 x4).2), ⟨[⟨true, (some (.tab [.fl .f32] x1))⟩, ⟨true, (some (.tab [.fl .f32] x2))⟩, ⟨true, (some (.tab sc0 x3))⟩, ⟨true, (some (.tab sc1 x4))⟩], 4, []⟩)] :=
 (show evFn Try.prog ext T68 noL 200 Try.f37 [.agg #[wsl 0, wsl 1, wsl 2, wsl 3], .int .i64 x0] ⟨[⟨true, (some (.tab [.fl .f32] x1))⟩, ⟨true, (some (.tab [.fl .f32] x2))⟩, ⟨true, (some (.tab sc0 x3))⟩, ⟨true, (some (.tab sc1 x4))⟩], 4, []⟩ = w37b x0 x1 x2 x3 x4 from by kernel_rfl).trans
 (show w37b x0 x1 x2 x3 x4 = a37b x0 x1 x2 x3 x4 (r37b x0 x1 x2 x3 x4) from by unfold w37b r37b; exact (cond_app (a37b x0 x1 x2 x3 x4) _ (cond_app (a37b x0 x1 x2 x3 x4) _ rfl (cond_app (a37b x0 x1 x2 x3 x4) _ (cond_app (a37b x0 x1 x2 x3 x4) _ rfl (cond_app (a37b x0 x1 x2 x3 x4) _ (cond_app (a37b x0 x1 x2 x3 x4) _ rfl (cond_app (a37b x0 x1 x2 x3 x4) _ (cond_app (a37b x0 x1 x2 x3 x4) _ rfl rfl) rfl)) rfl)) rfl)) rfl))
noncomputable def s37b (args : List Value) (s : St) : List (Bool × Value × St) :=
 match args, s.h with
 | [.agg ⟨[.iface f0 .nilIface, .iface f1 .nilIface, .iface f2 .nilIface, .iface f3 .nilIface]⟩, .int .i64 x0], [⟨true, some (.tab [.fl .f32] x1)⟩, ⟨true, some (.tab [.fl .f32] x2)⟩, ⟨true, some (.tab [.int .i64, .int .i64, .fl .f32, .fl .f32, .fl .f32, .fl .f32, .fl .f32, .fl .f32] x3)⟩, ⟨true, some (.tab [.int .i64, .int .i64, .fl .f32, .fl .f32] x4)⟩] => if f0 = 0 ∧ f1 = 1 ∧ f2 = 2 ∧ f3 = 3 then [((Nat.beq ((r37b x0 x1 x2 x3 x4).1) 0), .int .i64 ((r37b x0 x1 x2 x3 x4).2), ⟨[⟨true, (some (.tab [.fl .f32] x1))⟩, ⟨true, (some (.tab [.fl .f32] x2))⟩, ⟨true, (some (.tab sc0 x3))⟩, ⟨true, (some (.tab sc1 x4))⟩], 4, []⟩)] else T68 37 args s
 | _, _ => T68 37 args s
noncomputable def T69 : CallF := addF T68 37 s37b
set_option maxRecDepth 100000 in
set_option maxHeartbeats 4000000 in
theorem ok69 : CfOk Try.prog T69 := by
  refine cfOk_add ok68 fun args s r s' h1 h2 h3 => ?_
  unfold s37b at h3; split at h3
  · rename_i h; split at h3
    · rename_i hc; obtain ⟨rfl, rfl, rfl, rfl⟩ := hc; exact callOk ok68 Try.func37 h1 h2 h (lfOkF_no _ _).body (e37b _ _ _ _ _) rfl h3
    · exact ok68 _ _ _ _ _ h1 h2 h3
  · exact ok68 _ _ _ _ _ h1 h2 h3

/-- laws.eqFloat32S, loop 0 -/
noncomputable def r31l0d (x0 : List (List Int)) : Unit :=
 ()
noncomputable def a31l0d (x0 : List (List Int)) (p : Unit) : Option (Fin' × List Value × St) := firstT ([(true, .exit 0, [anyV], ⟨[⟨true, (some (.tab [.fl .f32] x0))⟩], 1, []⟩)].map fun (b, x) => (b, (x.1, frameOf 29 [4] x.2.1, x.2.2)))
noncomputable def w31l0d (x0 : List (List Int)) : Option (Fin' × List Value × St) :=
 (a31l0d x0 ())
set_option maxRecDepth 100000 in
set_option maxHeartbeats 4000000 in
theorem e31l0d (x0 : List (List Int)) : evC Try.prog ext T69 L31_3 200 (loopN Try.f31 0) (loopTail ([0, 1, 5], []) [4] [] (sumK 29 [0, 1, 5] [4] Q31l0c)) (frameOf 29 [0, 1, 5] [.slice none 0 0, wsl 0, .int .i64 0]) ⟨[⟨true, (some (.tab [.fl .f32] x0))⟩], 1, []⟩ = firstT ([(true, .exit 0, [anyV], ⟨[⟨true, (some (.tab [.fl .f32] x0))⟩], 1, []⟩)].map fun (b, x) => (b, (x.1, frameOf 29 [4] x.2.1, x.2.2))) :=
 (show evC Try.prog ext T69 L31_3 200 (loopN Try.f31 0) (loopTail ([0, 1, 5], []) [4] [] (sumK 29 [0, 1, 5] [4] Q31l0c)) (frameOf 29 [0, 1, 5] [.slice none 0 0, wsl 0, .int .i64 0]) ⟨[⟨true, (some (.tab [.fl .f32] x0))⟩], 1, []⟩ = w31l0d x0 from by kernel_rfl).trans
 (show w31l0d x0 = a31l0d x0 (r31l0d x0) from by unfold w31l0d r31l0d; exact rfl)
noncomputable def Q31l0d : SumK := fun vals s =>
 match vals, s.h with
 | [.slice none f0 f1, .iface f2 .nilIface, .int .i64 f3], [⟨true, some (.tab [.fl .f32] x0)⟩] => if f0 = 0 ∧ f1 = 0 ∧ f2 = 0 ∧ f3 = 0 then [(true, .exit 0, [anyV], ⟨[⟨true, (some (.tab [.fl .f32] x0))⟩], 1, []⟩)] else Q31l0c vals s
 | _, _ => Q31l0c vals s
set_option maxRecDepth 100000 in
set_option maxHeartbeats 4000000 in
theorem qok31l0d : SumKOk Try.prog (loopN Try.f31 0) 29 [0, 1, 5] [4] Q31l0d := by
  intro vals s x h1 h2 h3
  unfold Q31l0d at h3; split at h3
  · rename_i h; split at h3
    · rename_i hc; obtain ⟨rfl, rfl, rfl, rfl⟩ := hc; exact sum_step ok69 extOk mixed (lok31_3.inner (by kernel_rfl)) qok31l0c h1 h2 h (e31l0d _) rfl h3
    · exact qok31l0c _ _ _ h1 h2 h3
  · exact qok31l0c _ _ _ h1 h2 h3
noncomputable def L31_4 : LoopT := addL L31_3 5 ([0, 1, 5], []) (sumK 29 [0, 1, 5] [4] Q31l0d)
theorem lok31_4 : LfOkF Try.prog L31_4 Try.f31 := lfOkF_add lok31_3 qok31l0d (by kernel_rfl) (by kernel_rfl) (by kernel_rfl)

/-- laws.eqFloat32S -/
noncomputable def r31d (x0 : List (List Int)) : Bool :=
 cond ((0 : Int) != ((x0.length : Nat) : Int))
  (false)
  (true)
noncomputable def a31d (x0 : List (List Int)) (p : Bool) : Res := firstT [(true, .bool p, ⟨[⟨true, (some (.tab [.fl .f32] x0))⟩], 1, []⟩)]
noncomputable def w31d (x0 : List (List Int)) : Res :=
 (cond ((0 : Int) != ((x0.length : Nat) : Int))
 (a31d x0 (false))
 (a31d x0 (true)))
set_option maxRecDepth 100000 in
set_option maxHeartbeats 4000000 in
theorem e31d (x0 : List (List Int)) : evFn Try.prog ext T69 L31_4 200 Try.f31 [.slice none 0 0, wsl 0] ⟨[⟨true, (some (.tab [.fl .f32] x0))⟩], 1, []⟩ = firstT [(true, .bool (r31d x0), ⟨[⟨true, (some (.tab [.fl .f32] x0))⟩], 1, []⟩)] :=
 (show evFn Try.prog ext T69 L31_4 200 Try.f31 [.slice none 0 0, wsl 0] ⟨[⟨true, (some (.tab [.fl .f32] x0))⟩], 1, []⟩ = w31d x0 from by kernel_rfl).trans
 (show w31d x0 = a31d x0 (r31d x0) from by unfold w31d r31d; exact (cond_app (a31d x0) _ rfl rfl))
noncomputable def s31d (args : List Value) (s : St) : List (Bool × Value × St) :=
 match args, s.h with
 | [.slice none f0 f1, .iface f2 .nilIface], [⟨true, some (.tab [.fl .f32] x0)⟩] => if f0 = 0 ∧ f1 = 0 ∧ f2 = 0 then [(true, .bool (r31d x0), ⟨[⟨true, (some (.tab [.fl .f32] x0))⟩], 1, []⟩)] else T69 31 args s
 | _, _ => T69 31 args s
noncomputable def T70 : CallF := addF T69 31 s31d
set_option maxRecDepth 100000 in
set_option maxHeartbeats 4000000 in
theorem ok70 : CfOk Try.prog T70 := by
  refine cfOk_add ok69 fun args s r s' h1 h2 h3 => ?_
  unfold s31d at h3; split at h3
  · rename_i h; split at h3
    · rename_i hc; obtain ⟨rfl, rfl, rfl⟩ := hc; exact callOk ok69 Try.func31 h1 h2 h lok31_4.body (e31d _) rfl h3
    · exact ok69 _ _ _ _ _ h1 h2 h3
  · exact ok69 _ _ _ _ _ h1 h2 h3

/-- laws.eqWallS, loop 0 -/
noncomputable def r81l0d (x0 : List (List Int)) : Unit :=
 ()
noncomputable def a81l0d (x0 : List (List Int)) (p : Unit) : Option (Fin' × List Value × St) := firstT ([(true, .exit 0, [anyV], ⟨[⟨true, (some (.tab sc0 x0))⟩], 1, []⟩)].map fun (b, x) => (b, (x.1, frameOf 27 [4] x.2.1, x.2.2)))
noncomputable def w81l0d (x0 : List (List Int)) : Option (Fin' × List Value × St) :=
 (a81l0d x0 ())
set_option maxRecDepth 100000 in
set_option maxHeartbeats 4000000 in
theorem e81l0d (x0 : List (List Int)) : evC Try.prog ext T70 L81_3 200 (loopN Try.f81 0) (loopTail ([0, 1, 5], []) [4] [] (sumK 27 [0, 1, 5] [4] Q81l0c)) (frameOf 27 [0, 1, 5] [.slice none 0 0, wsl 0, .int .i64 0]) ⟨[⟨true, (some (.tab sc0 x0))⟩], 1, []⟩ = firstT ([(true, .exit 0, [anyV], ⟨[⟨true, (some (.tab sc0 x0))⟩], 1, []⟩)].map fun (b, x) => (b, (x.1, frameOf 27 [4] x.2.1, x.2.2))) :=
 (show evC Try.prog ext T70 L81_3 200 (loopN Try.f81 0) (loopTail ([0, 1, 5], []) [4] [] (sumK 27 [0, 1, 5] [4] Q81l0c)) (frameOf 27 [0, 1, 5] [.slice none 0 0, wsl 0, .int .i64 0]) ⟨[⟨true, (some (.tab sc0 x0))⟩], 1, []⟩ = w81l0d x0 from by kernel_rfl).trans
 (show w81l0d x0 = a81l0d x0 (r81l0d x0) from by unfold w81l0d r81l0d; exact rfl)
noncomputable def Q81l0d : SumK := fun vals s =>
 match vals, s.h with
 | [.slice none f0 f1, .iface f2 .nilIface, .int .i64 f3], [⟨true, some (.tab [.int .i64, .int .i64, .fl .f32, .fl .f32, .fl .f32, .fl .f32, .fl .f32, .fl .f32] x0)⟩] => if f0 = 0 ∧ f1 = 0 ∧ f2 = 0 ∧ f3 = 0 then [(true, .exit 0, [anyV], ⟨[⟨true, (some (.tab sc0 x0))⟩], 1, []⟩)] else Q81l0c vals s
 | _, _ => Q81l0c vals s
set_option maxRecDepth 100000 in
set_option maxHeartbeats 4000000 in
theorem qok81l0d : SumKOk Try.prog (loopN Try.f81 0) 27 [0, 1, 5] [4] Q81l0d := by
  intro vals s x h1 h2 h3
  unfold Q81l0d at h3; split at h3
  · rename_i h; split at h3
    · rename_i hc; obtain ⟨rfl, rfl, rfl, rfl⟩ := hc; exact sum_step ok70 extOk mixed (lok81_3.inner (by kernel_rfl)) qok81l0c h1 h2 h (e81l0d _) rfl h3
    · exact qok81l0c _ _ _ h1 h2 h3
  · exact qok81l0c _ _ _ h1 h2 h3
noncomputable def L81_4 : LoopT := addL L81_3 5 ([0, 1, 5], []) (sumK 27 [0, 1, 5] [4] Q81l0d)
theorem lok81_4 : LfOkF Try.prog L81_4 Try.f81 := lfOkF_add lok81_3 qok81l0d (by kernel_rfl) (by kernel_rfl) (by kernel_rfl)

/-- laws.eqWallS -/
noncomputable def r81d (x0 : List (List Int)) : Bool :=
 cond ((0 : Int) != ((x0.length : Nat) : Int))
  (false)
  (true)
noncomputable def a81d (x0 : List (List Int)) (p : Bool) : Res := firstT [(true, .bool p, ⟨[⟨true, (some (.tab sc0 x0))⟩], 1, []⟩)]
noncomputable def w81d (x0 : List (List Int)) : Res :=
 (cond ((0 : Int) != ((x0.length : Nat) : Int))
 (a81d x0 (false))
 (a81d x0 (true)))
set_option maxRecDepth 100000 in
set_option maxHeartbeats 4000000 in
theorem e81d (x0 : List (List Int)) : evFn Try.prog ext T70 L81_4 200 Try.f81 [.slice none 0 0, wsl 0] ⟨[⟨true, (some (.tab sc0 x0))⟩], 1, []⟩ = firstT [(true, .bool (r81d x0), ⟨[⟨true, (some (.tab sc0 x0))⟩], 1, []⟩)] :=
 (show evFn Try.prog ext T70 L81_4 200 Try.f81 [.slice none 0 0, wsl 0] ⟨[⟨true, (some (.tab sc0 x0))⟩], 1, []⟩ = w81d x0 from by kernel_rfl).trans
 (show w81d x0 = a81d x0 (r81d x0) from by unfold w81d r81d; exact (cond_app (a81d x0) _ rfl rfl))
noncomputable def s81d (args : List Value) (s : St) : List (Bool × Value × St) :=
 match args, s.h with
 | [.slice none f0 f1, .iface f2 .nilIface], [⟨true, some (.tab [.int .i64, .int .i64, .fl .f32, .fl .f32, .fl .f32, .fl .f32, .fl .f32, .fl .f32] x0)⟩] => if f0 = 0 ∧ f1 = 0 ∧ f2 = 0 then [(true, .bool (r81d x0), ⟨[⟨true, (some (.tab sc0 x0))⟩], 1, []⟩)] else T70 81 args s
 | _, _ => T70 81 args s
noncomputable def T71 : CallF := addF T70 81 s81d
set_option maxRecDepth 100000 in
set_option maxHeartbeats 4000000 in
theorem ok71 : CfOk Try.prog T71 := by
  refine cfOk_add ok70 fun args s r s' h1 h2 h3 => ?_
  unfold s81d at h3; split at h3
  · rename_i h; split at h3
    · rename_i hc; obtain ⟨rfl, rfl, rfl⟩ := hc; exact callOk ok70 Try.func81 h1 h2 h lok81_4.body (e81d _) rfl h3
    · exact ok70 _ _ _ _ _ h1 h2 h3
  · exact ok70 _ _ _ _ _ h1 h2 h3

/-- laws.eqPaneS, loop 0 -/
noncomputable def r82l0d (x0 : List (List Int)) : Unit :=
 ()
noncomputable def a82l0d (x0 : List (List Int)) (p : Unit) : Option (Fin' × List Value × St) := firstT ([(true, .exit 0, [anyV], ⟨[⟨true, (some (.tab sc1 x0))⟩], 1, []⟩)].map fun (b, x) => (b, (x.1, frameOf 27 [4] x.2.1, x.2.2)))
noncomputable def w82l0d (x0 : List (List Int)) : Option (Fin' × List Value × St) :=
 (a82l0d x0 ())
set_option maxRecDepth 100000 in
set_option maxHeartbeats 4000000 in
theorem e82l0d (x0 : List (List Int)) : evC Try.prog ext T71 L82_3 200 (loopN Try.f82 0) (loopTail ([0, 1, 5], []) [4] [] (sumK 27 [0, 1, 5] [4] Q82l0c)) (frameOf 27 [0, 1, 5] [.slice none 0 0, wsl 0, .int .i64 0]) ⟨[⟨true, (some (.tab sc1 x0))⟩], 1, []⟩ = firstT ([(true, .exit 0, [anyV], ⟨[⟨true, (some (.tab sc1 x0))⟩], 1, []⟩)].map fun (b, x) => (b, (x.1, frameOf 27 [4] x.2.1, x.2.2))) :=
 (show evC Try.prog ext T71 L82_3 200 (loopN Try.f82 0) (loopTail ([0, 1, 5], []) [4] [] (sumK 27 [0, 1, 5] [4] Q82l0c)) (frameOf 27 [0, 1, 5] [.slice none 0 0, wsl 0, .int .i64 0]) ⟨[⟨true, (some (.tab sc1 x0))⟩], 1, []⟩ = w82l0d x0 from by kernel_rfl).trans
 (show w82l0d x0 = a82l0d x0 (r82l0d x0) from by unfold w82l0d r82l0d; exact rfl)
noncomputable def Q82l0d : SumK := fun vals s =>
 match vals, s.h with
 | [.slice none f0 f1, .iface f2 .nilIface, .int .i64 f3], [⟨true, some (.tab [.int .i64, .int .i64, .fl .f32, .fl .f32] x0)⟩] => if f0 = 0 ∧ f1 = 0 ∧ f2 = 0 ∧ f3 = 0 then [(true, .exit 0, [anyV], ⟨[⟨true, (some (.tab sc1 x0))⟩], 1, []⟩)] else Q82l0c vals s
 | _, _ => Q82l0c vals s
set_option maxRecDepth 100000 in
set_option maxHeartbeats 4000000 in
theorem qok82l0d : SumKOk Try.prog (loopN Try.f82 0) 27 [0, 1, 5] [4] Q82l0d := by
  intro vals s x h1 h2 h3
  unfold Q82l0d at h3; split at h3
  · rename_i h; split at h3
    · rename_i hc; obtain ⟨rfl, rfl, rfl, rfl⟩ := hc; exact sum_step ok71 extOk mixed (lok82_3.inner (by kernel_rfl)) qok82l0c h1 h2 h (e82l0d _) rfl h3
    · exact qok82l0c _ _ _ h1 h2 h3
  · exact qok82l0c _ _ _ h1 h2 h3
noncomputable def L82_4 : LoopT := addL L82_3 5 ([0, 1, 5], []) (sumK 27 [0, 1, 5] [4] Q82l0d)
theorem lok82_4 : LfOkF Try.prog L82_4 Try.f82 := lfOkF_add lok82_3 qok82l0d (by kernel_rfl) (by kernel_rfl) (by kernel_rfl)

/-- laws.eqPaneS -/
noncomputable def r82d (x0 : List (List Int)) : Bool :=
 cond ((0 : Int) != ((x0.length : Nat) : Int))
  (false)
  (true)
noncomputable def a82d (x0 : List (List Int)) (p : Bool) : Res := firstT [(true, .bool p, ⟨[⟨true, (some (.tab sc1 x0))⟩], 1, []⟩)]
noncomputable def w82d (x0 : List (List Int)) : Res :=
 (cond ((0 : Int) != ((x0.length : Nat) : Int))
 (a82d x0 (false))
 (a82d x0 (true)))
set_option maxRecDepth 100000 in
set_option maxHeartbeats 4000000 in
theorem e82d (x0 : List (List Int)) : evFn Try.prog ext T71 L82_4 200 Try.f82 [.slice none 0 0, wsl 0] ⟨[⟨true, (some (.tab sc1 x0))⟩], 1, []⟩ = firstT [(true, .bool (r82d x0), ⟨[⟨true, (some (.tab sc1 x0))⟩], 1, []⟩)] :=
 (show evFn Try.prog ext T71 L82_4 200 Try.f82 [.slice none 0 0, wsl 0] ⟨[⟨true, (some (.tab sc1 x0))⟩], 1, []⟩ = w82d x0 from by kernel_rfl).trans
 (show w82d x0 = a82d x0 (r82d x0) from by unfold w82d r82d; exact (cond_app (a82d x0) _ rfl rfl))
noncomputable def s82d (args : List Value) (s : St) : List (Bool × Value × St) :=
 match args, s.h with
 | [.slice none f0 f1, .iface f2 .nilIface], [⟨true, some (.tab [.int .i64, .int .i64, .fl .f32, .fl .f32] x0)⟩] => if f0 = 0 ∧ f1 = 0 ∧ f2 = 0 then [(true, .bool (r82d x0), ⟨[⟨true, (some (.tab sc1 x0))⟩], 1, []⟩)] else T71 82 args s
 | _, _ => T71 82 args s
noncomputable def T72 : CallF := addF T71 82 s82d
set_option maxRecDepth 100000 in
set_option maxHeartbeats 4000000 in
theorem ok72 : CfOk Try.prog T72 := by
  refine cfOk_add ok71 fun args s r s' h1 h2 h3 => ?_
  unfold s82d at h3; split at h3
  · rename_i h; split at h3
    · rename_i hc; obtain ⟨rfl, rfl, rfl⟩ := hc; exact callOk ok71 Try.func82 h1 h2 h lok82_4.body (e82d _) rfl h3
    · exact ok71 _ _ _ _ _ h1 h2 h3
  · exact ok71 _ _ _ _ _ h1 h2 h3

/-- laws.eqFlat -/
noncomputable def r28d (x0 x1 x2 x3 : List (List Int)) : Bool :=
 cond (!(r31d x0))
  (false)
  (cond (!(r31d x1))
   (false)
   (cond (!(r81d x2))
    (false)
    (cond (!(r82d x3))
     (false)
     (true))))
noncomputable def a28d (x0 x1 x2 x3 : List (List Int)) (p : Bool) : Res := firstT [(true, .bool p, ⟨[⟨true, (some (.tab [.fl .f32] x0))⟩, ⟨true, (some (.tab [.fl .f32] x1))⟩, ⟨true, (some (.tab sc0 x2))⟩, ⟨true, (some (.tab sc1 x3))⟩], 4, []⟩)]
noncomputable def w28d (x0 x1 x2 x3 : List (List Int)) : Res :=
 (cond (!(r31d x0))
 (a28d x0 x1 x2 x3 (false))
 (cond (!(r31d x1))
  (a28d x0 x1 x2 x3 (false))
  (cond (!(r81d x2))
   (a28d x0 x1 x2 x3 (false))
   (cond (!(r82d x3))
    (a28d x0 x1 x2 x3 (false))
    (a28d x0 x1 x2 x3 (true))))))
set_option maxRecDepth 100000 in
set_option maxHeartbeats 4000000 in
theorem e28d (x0 x1 x2 x3 : List (List Int)) : evFn Try.prog ext T72 noL 200 Try.f28 [.agg #[.slice none 0 0, .slice none 0 0, .slice none 0 0, .slice none 0 0], .agg #[wsl 0, wsl 1, wsl 2, wsl 3]] ⟨[⟨true, (some (.tab [.fl .f32] x0))⟩, ⟨true, (some (.tab [.fl .f32] x1))⟩, ⟨true, (some (.tab sc0 x2))⟩, ⟨true, (some (.tab sc1 x3))⟩], 4, []⟩ = firstT [(true, .bool (r28d x0 x1 x2 x3), ⟨[⟨true, (some (.tab [.fl .f32] x0))⟩, ⟨true, (some (.tab [.fl .f32] x1))⟩, ⟨true, (some (.tab sc0 x2))⟩, ⟨true, (some (.tab sc1 x3))⟩], 4, []⟩)] :=
 (show evFn Try.prog ext T72 noL 200 Try.f28 [.agg #[.slice none 0 0, .slice none 0 0, .slice none 0 0, .slice none 0 0], .agg #[wsl 0, wsl 1, wsl 2, wsl 3]] ⟨[⟨true, (some (.tab [.fl .f32] x0))⟩, ⟨true, (some (.tab [.fl .f32] x1))⟩, ⟨true, (some (.tab sc0 x2))⟩, ⟨true, (some (.tab sc1 x3))⟩], 4, []⟩ = w28d x0 x1 x2 x3 from by kernel_rfl).trans
 (show w28d x0 x1 x2 x3 = a28d x0 x1 x2 x3 (r28d x0 x1 x2 x3) from by unfold w28d r28d; exact (cond_app (a28d x0 x1 x2 x3) _ rfl (cond_app (a28d x0 x1 x2 x3) _ rfl (cond_app (a28d x0 x1 x2 x3) _ rfl (cond_app (a28d x0 x1 x2 x3) _ rfl rfl)))))
noncomputable def s28d (args : List Value) (s : St) : List (Bool × Value × St) :=
 match args, s.h with
 | [.agg ⟨[.slice none f0 f1, .slice none f2 f3, .slice none f4 f5, .slice none f6 f7]⟩, .agg ⟨[.iface f8 .nilIface, .iface f9 .nilIface, .iface f10 .nilIface, .iface f11 .nilIface]⟩], [⟨true, some (.tab [.fl .f32] x0)⟩, ⟨true, some (.tab [.fl .f32] x1)⟩, ⟨true, some (.tab [.int .i64, .int .i64, .fl .f32, .fl .f32, .fl .f32, .fl .f32, .fl .f32, .fl .f32] x2)⟩, ⟨true, some (.tab [.int .i64, .int .i64, .fl .f32, .fl .f32] x3)⟩] => if f0 = 0 ∧ f1 = 0 ∧ f2 = 0 ∧ f3 = 0 ∧ f4 = 0 ∧ f5 = 0 ∧ f6 = 0 ∧ f7 = 0 ∧ f8 = 0 ∧ f9 = 1 ∧ f10 = 2 ∧ f11 = 3 then [(true, .bool (r28d x0 x1 x2 x3), ⟨[⟨true, (some (.tab [.fl .f32] x0))⟩, ⟨true, (some (.tab [.fl .f32] x1))⟩, ⟨true, (some (.tab sc0 x2))⟩, ⟨true, (some (.tab sc1 x3))⟩], 4, []⟩)] else T72 28 args s
 | _, _ => T72 28 args s
noncomputable def T73 : CallF := addF T72 28 s28d
set_option maxRecDepth 100000 in
set_option maxHeartbeats 4000000 in
theorem ok73 : CfOk Try.prog T73 := by
  refine cfOk_add ok72 fun args s r s' h1 h2 h3 => ?_
  unfold s28d at h3; split at h3
  · rename_i h; split at h3
    · rename_i hc; obtain ⟨rfl, rfl, rfl, rfl, rfl, rfl, rfl, rfl, rfl, rfl, rfl, rfl⟩ := hc; exact callOk ok72 Try.func28 h1 h2 h (lfOkF_no _ _).body (e28d _ _ _ _) rfl h3
    · exact ok72 _ _ _ _ _ h1 h2 h3
  · exact ok72 _ _ _ _ _ h1 h2 h3
end Go.Proofs.Ytfnfapmncibjfaa
