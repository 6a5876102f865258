/- What the functions that the statements reach answer, part 7. -/
import Derived.Test.YtfnfapmncibjfaaSf6
namespace Go.Proofs.Ytfnfapmncibjfaa
open Go.Ab
set_option maxHeartbeats 4000000
set_option maxRecDepth 100000

/-- laws.markWallS, loop 1 -/
noncomputable def r85l1 (x0 x1 : Int) (x2 : List (List Int)) : Unit :=
 ()
noncomputable def a85l1 (x0 x1 : Int) (x2 : List (List Int)) (p : Unit) : Option (Fin' × List Value × St) := firstT ([(true, .exit 2, [wsl 0, .int .i64 x0, .int .i64 x1], ⟨[⟨true, (some (.tab sc0 x2))⟩], 1, []⟩)].map fun (b, x) => (b, (x.1, frameOf 58 [0, 1, 5] x.2.1, x.2.2)))
noncomputable def w85l1 (x0 x1 : Int) (x2 : List (List Int)) : Option (Fin' × List Value × St) :=
 (a85l1 x0 x1 x2 ())
set_option maxRecDepth 100000 in
set_option maxHeartbeats 4000000 in
theorem e85l1 (x0 x1 : Int) (x2 : List (List Int)) : evC Try.prog ext T65 noL 200 (loopN Try.f85 1) (loopTail ([0, 1, 5, 6], []) [0, 1, 5] [] (sumK 58 [0, 1, 5, 6] [0, 1, 5] noQ)) (frameOf 58 [0, 1, 5, 6] [wsl 0, .int .i64 x0, .int .i64 x1, .int .i64 4]) ⟨[⟨true, (some (.tab sc0 x2))⟩], 1, []⟩ = firstT ([(true, .exit 2, [wsl 0, .int .i64 x0, .int .i64 x1], ⟨[⟨true, (some (.tab sc0 x2))⟩], 1, []⟩)].map fun (b, x) => (b, (x.1, frameOf 58 [0, 1, 5] x.2.1, x.2.2))) :=
 (show evC Try.prog ext T65 noL 200 (loopN Try.f85 1) (loopTail ([0, 1, 5, 6], []) [0, 1, 5] [] (sumK 58 [0, 1, 5, 6] [0, 1, 5] noQ)) (frameOf 58 [0, 1, 5, 6] [wsl 0, .int .i64 x0, .int .i64 x1, .int .i64 4]) ⟨[⟨true, (some (.tab sc0 x2))⟩], 1, []⟩ = w85l1 x0 x1 x2 from by kernel_rfl).trans
 (show w85l1 x0 x1 x2 = a85l1 x0 x1 x2 (r85l1 x0 x1 x2) from by unfold w85l1 r85l1; exact rfl)
noncomputable def Q85l1 : SumK := fun vals s =>
 match vals, s.h with
 | [.iface f0 .nilIface, .int .i64 x0, .int .i64 x1, .int .i64 f1], [⟨true, some (.tab [.int .i64, .int .i64, .fl .f32, .fl .f32, .fl .f32, .fl .f32, .fl .f32, .fl .f32] x2)⟩] => if f0 = 0 ∧ f1 = 4 then [(true, .exit 2, [wsl 0, .int .i64 x0, .int .i64 x1], ⟨[⟨true, (some (.tab sc0 x2))⟩], 1, []⟩)] else noQ vals s
 | _, _ => noQ vals s
set_option maxRecDepth 100000 in
set_option maxHeartbeats 4000000 in
theorem qok85l1 : SumKOk Try.prog (loopN Try.f85 1) 58 [0, 1, 5, 6] [0, 1, 5] Q85l1 := by
  intro vals s x h1 h2 h3
  unfold Q85l1 at h3; split at h3
  · rename_i h; split at h3
    · rename_i hc; obtain ⟨rfl, rfl⟩ := hc; exact sum_step ok65 extOk mixed ((lfOkF_no _ _).inner (by kernel_rfl)) noQ_ok h1 h2 h (e85l1 _ _ _) rfl h3
    · exact noQ_ok _ _ _ h1 h2 h3
  · exact noQ_ok _ _ _ h1 h2 h3
noncomputable def L85_1 : LoopT := addL noL 14 ([0, 1, 5, 6], []) (sumK 58 [0, 1, 5, 6] [0, 1, 5] Q85l1)
theorem lok85_1 : LfOkF Try.prog L85_1 Try.f85 := lfOkF_add (lfOkF_no _ _) qok85l1 (by kernel_rfl) (by kernel_rfl) (by kernel_rfl)

/-- laws.markWallS, loop 1 -/
noncomputable def r85l1b (x0 x1 : Int) (x2 : List (List Int)) : Nat × Int × List (List Int) :=
 cond ((decide ((0 : Int) ≤ x1)) && (Nat.blt (Int.toNat x1) x2.length)) (0, (IntKind.i64.wrap (x0 + 1)), (x2.modify (Int.toNat x1) (fun r => spl 8 r 7 [(((ofInt .f32 x0) : Nat) : Int)]))) (1, 0, [])
noncomputable def a85l1b (x0 x1 : Int) (x2 : List (List Int)) (p : Nat × Int × List (List Int)) : Option (Fin' × List Value × St) := firstT ([((Nat.beq (p.1) 0), .exit 2, [wsl 0, .int .i64 (p.2.1), .int .i64 x1], ⟨[⟨true, (some (.tab sc0 (p.2.2)))⟩], 1, [0]⟩)].map fun (b, x) => (b, (x.1, frameOf 58 [0, 1, 5] x.2.1, x.2.2)))
noncomputable def w85l1b (x0 x1 : Int) (x2 : List (List Int)) : Option (Fin' × List Value × St) :=
 (cond ((decide ((0 : Int) ≤ x1)) && (Nat.blt (Int.toNat x1) x2.length))
 (cond (Nat.blt (Int.toNat x1) x2.length) (a85l1b x0 x1 x2 (0, (IntKind.i64.wrap (x0 + 1)), (x2.modify (Int.toNat x1) (fun r => spl 8 r 7 [(((ofInt .f32 x0) : Nat) : Int)])))) none)
 none)
set_option maxRecDepth 100000 in
set_option maxHeartbeats 4000000 in
theorem e85l1b (x0 x1 : Int) (x2 : List (List Int)) : evC Try.prog ext T65 L85_1 200 (loopN Try.f85 1) (loopTail ([0, 1, 5, 6], []) [0, 1, 5] [] (sumK 58 [0, 1, 5, 6] [0, 1, 5] Q85l1)) (frameOf 58 [0, 1, 5, 6] [wsl 0, .int .i64 x0, .int .i64 x1, .int .i64 3]) ⟨[⟨true, (some (.tab sc0 x2))⟩], 1, []⟩ = firstT ([((Nat.beq ((r85l1b x0 x1 x2).1) 0), .exit 2, [wsl 0, .int .i64 ((r85l1b x0 x1 x2).2.1), .int .i64 x1], ⟨[⟨true, (some (.tab sc0 ((r85l1b x0 x1 x2).2.2)))⟩], 1, [0]⟩)].map fun (b, x) => (b, (x.1, frameOf 58 [0, 1, 5] x.2.1, x.2.2))) :=
 (show evC Try.prog ext T65 L85_1 200 (loopN Try.f85 1) (loopTail ([0, 1, 5, 6], []) [0, 1, 5] [] (sumK 58 [0, 1, 5, 6] [0, 1, 5] Q85l1)) (frameOf 58 [0, 1, 5, 6] [wsl 0, .int .i64 x0, .int .i64 x1, .int .i64 3]) ⟨[⟨true, (some (.tab sc0 x2))⟩], 1, []⟩ = w85l1b x0 x1 x2 from by kernel_rfl).trans
 (show w85l1b x0 x1 x2 = a85l1b x0 x1 x2 (r85l1b x0 x1 x2) from by unfold w85l1b r85l1b; exact (cond_both (a85l1b x0 x1 x2) _ (fun h0 => (cond_t (ev_and2 h0) rfl)) (fun h0 => rfl)))
noncomputable def Q85l1b : SumK := fun vals s =>
 match vals, s.h with
 | [.iface f0 .nilIface, .int .i64 x0, .int .i64 x1, .int .i64 f1], [⟨true, some (.tab [.int .i64, .int .i64, .fl .f32, .fl .f32, .fl .f32, .fl .f32, .fl .f32, .fl .f32] x2)⟩] => if f0 = 0 ∧ f1 = 3 then [((Nat.beq ((r85l1b x0 x1 x2).1) 0), .exit 2, [wsl 0, .int .i64 ((r85l1b x0 x1 x2).2.1), .int .i64 x1], ⟨[⟨true, (some (.tab sc0 ((r85l1b x0 x1 x2).2.2)))⟩], 1, [0]⟩)] else Q85l1 vals s
 | _, _ => Q85l1 vals s
set_option maxRecDepth 100000 in
set_option maxHeartbeats 4000000 in
theorem qok85l1b : SumKOk Try.prog (loopN Try.f85 1) 58 [0, 1, 5, 6] [0, 1, 5] Q85l1b := by
  intro vals s x h1 h2 h3
  unfold Q85l1b at h3; split at h3
  · rename_i h; split at h3
    · rename_i hc; obtain ⟨rfl, rfl⟩ := hc; exact sum_step ok65 extOk mixed (lok85_1.inner (by kernel_rfl)) qok85l1 h1 h2 h (e85l1b _ _ _) rfl h3
    · exact qok85l1 _ _ _ h1 h2 h3
  · exact qok85l1 _ _ _ h1 h2 h3
noncomputable def L85_2 : LoopT := addL L85_1 14 ([0, 1, 5, 6], []) (sumK 58 [0, 1, 5, 6] [0, 1, 5] Q85l1b)
theorem lok85_2 : LfOkF Try.prog L85_2 Try.f85 := lfOkF_add lok85_1 qok85l1b (by kernel_rfl) (by kernel_rfl) (by kernel_rfl)

/-- laws.markWallS, loop 1 -/
noncomputable def r85l1c (x0 x1 : Int) (x2 : List (List Int)) : Nat × Int × List (List Int) :=
 let c381 := (r85l1b (IntKind.i64.wrap (x0 + 1)) x1 (x2.modify (Int.toNat x1) (fun r => spl 8 r 6 [(((ofInt .f32 x0) : Nat) : Int)])))
 cond ((decide ((0 : Int) ≤ x1)) && (Nat.blt (Int.toNat x1) x2.length)) (cond (Nat.beq (c381.1) 0) (0, (c381.2.1), (c381.2.2)) (1, 0, [])) (1, 0, [])
noncomputable def a85l1c (x0 x1 : Int) (x2 : List (List Int)) (p : Nat × Int × List (List Int)) : Option (Fin' × List Value × St) := firstT ([((Nat.beq (p.1) 0), .exit 2, [wsl 0, .int .i64 (p.2.1), .int .i64 x1], ⟨[⟨true, (some (.tab sc0 (p.2.2)))⟩], 1, [0]⟩)].map fun (b, x) => (b, (x.1, frameOf 58 [0, 1, 5] x.2.1, x.2.2)))
noncomputable def w85l1c (x0 x1 : Int) (x2 : List (List Int)) : Option (Fin' × List Value × St) :=
 let c381 := (r85l1b (IntKind.i64.wrap (x0 + 1)) x1 (x2.modify (Int.toNat x1) (fun r => spl 8 r 6 [(((ofInt .f32 x0) : Nat) : Int)])))
 (cond ((decide ((0 : Int) ≤ x1)) && (Nat.blt (Int.toNat x1) x2.length))
 (cond (Nat.blt (Int.toNat x1) x2.length) (cond (Nat.beq (c381.1) 0) (a85l1c x0 x1 x2 (0, (c381.2.1), (c381.2.2))) none) none)
 none)
set_option maxRecDepth 100000 in
set_option maxHeartbeats 4000000 in
theorem e85l1c (x0 x1 : Int) (x2 : List (List Int)) : evC Try.prog ext T65 L85_2 200 (loopN Try.f85 1) (loopTail ([0, 1, 5, 6], []) [0, 1, 5] [] (sumK 58 [0, 1, 5, 6] [0, 1, 5] Q85l1b)) (frameOf 58 [0, 1, 5, 6] [wsl 0, .int .i64 x0, .int .i64 x1, .int .i64 2]) ⟨[⟨true, (some (.tab sc0 x2))⟩], 1, []⟩ = firstT ([((Nat.beq ((r85l1c x0 x1 x2).1) 0), .exit 2, [wsl 0, .int .i64 ((r85l1c x0 x1 x2).2.1), .int .i64 x1], ⟨[⟨true, (some (.tab sc0 ((r85l1c x0 x1 x2).2.2)))⟩], 1, [0]⟩)].map fun (b, x) => (b, (x.1, frameOf 58 [0, 1, 5] x.2.1, x.2.2))) :=
 (show evC Try.prog ext T65 L85_2 200 (loopN Try.f85 1) (loopTail ([0, 1, 5, 6], []) [0, 1, 5] [] (sumK 58 [0, 1, 5, 6] [0, 1, 5] Q85l1b)) (frameOf 58 [0, 1, 5, 6] [wsl 0, .int .i64 x0, .int .i64 x1, .int .i64 2]) ⟨[⟨true, (some (.tab sc0 x2))⟩], 1, []⟩ = w85l1c x0 x1 x2 from by kernel_rfl).trans
 (show w85l1c x0 x1 x2 = a85l1c x0 x1 x2 (r85l1c x0 x1 x2) from by unfold w85l1c r85l1c; exact (cond_both (a85l1c x0 x1 x2) _ (fun h0 => (cond_t (ev_and2 h0) (cond_app (a85l1c x0 x1 x2) _ rfl rfl))) (fun h0 => rfl)))
noncomputable def Q85l1c : SumK := fun vals s =>
 match vals, s.h with
 | [.iface f0 .nilIface, .int .i64 x0, .int .i64 x1, .int .i64 f1], [⟨true, some (.tab [.int .i64, .int .i64, .fl .f32, .fl .f32, .fl .f32, .fl .f32, .fl .f32, .fl .f32] x2)⟩] => if f0 = 0 ∧ f1 = 2 then [((Nat.beq ((r85l1c x0 x1 x2).1) 0), .exit 2, [wsl 0, .int .i64 ((r85l1c x0 x1 x2).2.1), .int .i64 x1], ⟨[⟨true, (some (.tab sc0 ((r85l1c x0 x1 x2).2.2)))⟩], 1, [0]⟩)] else Q85l1b vals s
 | _, _ => Q85l1b vals s
set_option maxRecDepth 100000 in
set_option maxHeartbeats 4000000 in
theorem qok85l1c : SumKOk Try.prog (loopN Try.f85 1) 58 [0, 1, 5, 6] [0, 1, 5] Q85l1c := by
  intro vals s x h1 h2 h3
  unfold Q85l1c at h3; split at h3
  · rename_i h; split at h3
    · rename_i hc; obtain ⟨rfl, rfl⟩ := hc; exact sum_step ok65 extOk mixed (lok85_2.inner (by kernel_rfl)) qok85l1b h1 h2 h (e85l1c _ _ _) rfl h3
    · exact qok85l1b _ _ _ h1 h2 h3
  · exact qok85l1b _ _ _ h1 h2 h3
noncomputable def L85_3 : LoopT := addL L85_2 14 ([0, 1, 5, 6], []) (sumK 58 [0, 1, 5, 6] [0, 1, 5] Q85l1c)
theorem lok85_3 : LfOkF Try.prog L85_3 Try.f85 := lfOkF_add lok85_2 qok85l1c (by kernel_rfl) (by kernel_rfl) (by kernel_rfl)

/-- laws.markWallS, loop 1 -/
noncomputable def r85l1d (x0 x1 : Int) (x2 : List (List Int)) : Nat × Int × List (List Int) :=
 let c382 := (r85l1c (IntKind.i64.wrap (x0 + 1)) x1 (x2.modify (Int.toNat x1) (fun r => spl 8 r 5 [(((ofInt .f32 x0) : Nat) : Int)])))
 cond ((decide ((0 : Int) ≤ x1)) && (Nat.blt (Int.toNat x1) x2.length)) (cond (Nat.beq (c382.1) 0) (0, (c382.2.1), (c382.2.2)) (1, 0, [])) (1, 0, [])
noncomputable def a85l1d (x0 x1 : Int) (x2 : List (List Int)) (p : Nat × Int × List (List Int)) : Option (Fin' × List Value × St) := firstT ([((Nat.beq (p.1) 0), .exit 2, [wsl 0, .int .i64 (p.2.1), .int .i64 x1], ⟨[⟨true, (some (.tab sc0 (p.2.2)))⟩], 1, [0]⟩)].map fun (b, x) => (b, (x.1, frameOf 58 [0, 1, 5] x.2.1, x.2.2)))
noncomputable def w85l1d (x0 x1 : Int) (x2 : List (List Int)) : Option (Fin' × List Value × St) :=
 let c382 := (r85l1c (IntKind.i64.wrap (x0 + 1)) x1 (x2.modify (Int.toNat x1) (fun r => spl 8 r 5 [(((ofInt .f32 x0) : Nat) : Int)])))
 (cond ((decide ((0 : Int) ≤ x1)) && (Nat.blt (Int.toNat x1) x2.length))
 (cond (Nat.blt (Int.toNat x1) x2.length) (cond (Nat.beq (c382.1) 0) (a85l1d x0 x1 x2 (0, (c382.2.1), (c382.2.2))) none) none)
 none)
set_option maxRecDepth 100000 in
set_option maxHeartbeats 4000000 in
theorem e85l1d (x0 x1 : Int) (x2 : List (List Int)) : evC Try.prog ext T65 L85_3 200 (loopN Try.f85 1) (loopTail ([0, 1, 5, 6], []) [0, 1, 5] [] (sumK 58 [0, 1, 5, 6] [0, 1, 5] Q85l1c)) (frameOf 58 [0, 1, 5, 6] [wsl 0, .int .i64 x0, .int .i64 x1, .int .i64 1]) ⟨[⟨true, (some (.tab sc0 x2))⟩], 1, []⟩ = firstT ([((Nat.beq ((r85l1d x0 x1 x2).1) 0), .exit 2, [wsl 0, .int .i64 ((r85l1d x0 x1 x2).2.1), .int .i64 x1], ⟨[⟨true, (some (.tab sc0 ((r85l1d x0 x1 x2).2.2)))⟩], 1, [0]⟩)].map fun (b, x) => (b, (x.1, frameOf 58 [0, 1, 5] x.2.1, x.2.2))) :=
 (show evC Try.prog ext T65 L85_3 200 (loopN Try.f85 1) (loopTail ([0, 1, 5, 6], []) [0, 1, 5] [] (sumK 58 [0, 1, 5, 6] [0, 1, 5] Q85l1c)) (frameOf 58 [0, 1, 5, 6] [wsl 0, .int .i64 x0, .int .i64 x1, .int .i64 1]) ⟨[⟨true, (some (.tab sc0 x2))⟩], 1, []⟩ = w85l1d x0 x1 x2 from by kernel_rfl).trans
 (show w85l1d x0 x1 x2 = a85l1d x0 x1 x2 (r85l1d x0 x1 x2) from by unfold w85l1d r85l1d; exact (cond_both (a85l1d x0 x1 x2) _ (fun h0 => (cond_t (ev_and2 h0) (cond_app (a85l1d x0 x1 x2) _ rfl rfl))) (fun h0 => rfl)))
noncomputable def Q85l1d : SumK := fun vals s =>
 match vals, s.h with
 | [.iface f0 .nilIface, .int .i64 x0, .int .i64 x1, .int .i64 f1], [⟨true, some (.tab [.int .i64, .int .i64, .fl .f32, .fl .f32, .fl .f32, .fl .f32, .fl .f32, .fl .f32] x2)⟩] => if f0 = 0 ∧ f1 = 1 then [((Nat.beq ((r85l1d x0 x1 x2).1) 0), .exit 2, [wsl 0, .int .i64 ((r85l1d x0 x1 x2).2.1), .int .i64 x1], ⟨[⟨true, (some (.tab sc0 ((r85l1d x0 x1 x2).2.2)))⟩], 1, [0]⟩)] else Q85l1c vals s
 | _, _ => Q85l1c vals s
set_option maxRecDepth 100000 in
set_option maxHeartbeats 4000000 in
theorem qok85l1d : SumKOk Try.prog (loopN Try.f85 1) 58 [0, 1, 5, 6] [0, 1, 5] Q85l1d := by
  intro vals s x h1 h2 h3
  unfold Q85l1d at h3; split at h3
  · rename_i h; split at h3
    · rename_i hc; obtain ⟨rfl, rfl⟩ := hc; exact sum_step ok65 extOk mixed (lok85_3.inner (by kernel_rfl)) qok85l1c h1 h2 h (e85l1d _ _ _) rfl h3
    · exact qok85l1c _ _ _ h1 h2 h3
  · exact qok85l1c _ _ _ h1 h2 h3
noncomputable def L85_4 : LoopT := addL L85_3 14 ([0, 1, 5, 6], []) (sumK 58 [0, 1, 5, 6] [0, 1, 5] Q85l1d)
theorem lok85_4 : LfOkF Try.prog L85_4 Try.f85 := lfOkF_add lok85_3 qok85l1d (by kernel_rfl) (by kernel_rfl) (by kernel_rfl)

/-- laws.markWallS, loop 1 -/
noncomputable def r85l1e (x0 x1 : Int) (x2 : List (List Int)) : Nat × Int × List (List Int) :=
 let c383 := (r85l1d (IntKind.i64.wrap (x0 + 1)) x1 (x2.modify (Int.toNat x1) (fun r => spl 8 r 4 [(((ofInt .f32 x0) : Nat) : Int)])))
 cond ((decide ((0 : Int) ≤ x1)) && (Nat.blt (Int.toNat x1) x2.length)) (cond (Nat.beq (c383.1) 0) (0, (c383.2.1), (c383.2.2)) (1, 0, [])) (1, 0, [])
noncomputable def a85l1e (x0 x1 : Int) (x2 : List (List Int)) (p : Nat × Int × List (List Int)) : Option (Fin' × List Value × St) := firstT ([((Nat.beq (p.1) 0), .exit 2, [wsl 0, .int .i64 (p.2.1), .int .i64 x1], ⟨[⟨true, (some (.tab sc0 (p.2.2)))⟩], 1, [0]⟩)].map fun (b, x) => (b, (x.1, frameOf 58 [0, 1, 5] x.2.1, x.2.2)))
noncomputable def w85l1e (x0 x1 : Int) (x2 : List (List Int)) : Option (Fin' × List Value × St) :=
 let c383 := (r85l1d (IntKind.i64.wrap (x0 + 1)) x1 (x2.modify (Int.toNat x1) (fun r => spl 8 r 4 [(((ofInt .f32 x0) : Nat) : Int)])))
 (cond ((decide ((0 : Int) ≤ x1)) && (Nat.blt (Int.toNat x1) x2.length))
 (cond (Nat.blt (Int.toNat x1) x2.length) (cond (Nat.beq (c383.1) 0) (a85l1e x0 x1 x2 (0, (c383.2.1), (c383.2.2))) none) none)
 none)
set_option maxRecDepth 100000 in
set_option maxHeartbeats 4000000 in
theorem e85l1e (x0 x1 : Int) (x2 : List (List Int)) : evC Try.prog ext T65 L85_4 200 (loopN Try.f85 1) (loopTail ([0, 1, 5, 6], []) [0, 1, 5] [] (sumK 58 [0, 1, 5, 6] [0, 1, 5] Q85l1d)) (frameOf 58 [0, 1, 5, 6] [wsl 0, .int .i64 x0, .int .i64 x1, .int .i64 0]) ⟨[⟨true, (some (.tab sc0 x2))⟩], 1, []⟩ = firstT ([((Nat.beq ((r85l1e x0 x1 x2).1) 0), .exit 2, [wsl 0, .int .i64 ((r85l1e x0 x1 x2).2.1), .int .i64 x1], ⟨[⟨true, (some (.tab sc0 ((r85l1e x0 x1 x2).2.2)))⟩], 1, [0]⟩)].map fun (b, x) => (b, (x.1, frameOf 58 [0, 1, 5] x.2.1, x.2.2))) :=
 (show evC Try.prog ext T65 L85_4 200 (loopN Try.f85 1) (loopTail ([0, 1, 5, 6], []) [0, 1, 5] [] (sumK 58 [0, 1, 5, 6] [0, 1, 5] Q85l1d)) (frameOf 58 [0, 1, 5, 6] [wsl 0, .int .i64 x0, .int .i64 x1, .int .i64 0]) ⟨[⟨true, (some (.tab sc0 x2))⟩], 1, []⟩ = w85l1e x0 x1 x2 from by kernel_rfl).trans
 (show w85l1e x0 x1 x2 = a85l1e x0 x1 x2 (r85l1e x0 x1 x2) from by unfold w85l1e r85l1e; exact (cond_both (a85l1e x0 x1 x2) _ (fun h0 => (cond_t (ev_and2 h0) (cond_app (a85l1e x0 x1 x2) _ rfl rfl))) (fun h0 => rfl)))
noncomputable def Q85l1e : SumK := fun vals s =>
 match vals, s.h with
 | [.iface f0 .nilIface, .int .i64 x0, .int .i64 x1, .int .i64 f1], [⟨true, some (.tab [.int .i64, .int .i64, .fl .f32, .fl .f32, .fl .f32, .fl .f32, .fl .f32, .fl .f32] x2)⟩] => if f0 = 0 ∧ f1 = 0 then [((Nat.beq ((r85l1e x0 x1 x2).1) 0), .exit 2, [wsl 0, .int .i64 ((r85l1e x0 x1 x2).2.1), .int .i64 x1], ⟨[⟨true, (some (.tab sc0 ((r85l1e x0 x1 x2).2.2)))⟩], 1, [0]⟩)] else Q85l1d vals s
 | _, _ => Q85l1d vals s
set_option maxRecDepth 100000 in
set_option maxHeartbeats 4000000 in
theorem qok85l1e : SumKOk Try.prog (loopN Try.f85 1) 58 [0, 1, 5, 6] [0, 1, 5] Q85l1e := by
  intro vals s x h1 h2 h3
  unfold Q85l1e at h3; split at h3
  · rename_i h; split at h3
    · rename_i hc; obtain ⟨rfl, rfl⟩ := hc; exact sum_step ok65 extOk mixed (lok85_4.inner (by kernel_rfl)) qok85l1d h1 h2 h (e85l1e _ _ _) rfl h3
    · exact qok85l1d _ _ _ h1 h2 h3
  · exact qok85l1d _ _ _ h1 h2 h3
noncomputable def L85_5 : LoopT := addL L85_4 14 ([0, 1, 5, 6], []) (sumK 58 [0, 1, 5, 6] [0, 1, 5] Q85l1e)
theorem lok85_5 : LfOkF Try.prog L85_5 Try.f85 := lfOkF_add lok85_4 qok85l1e (by kernel_rfl) (by kernel_rfl) (by kernel_rfl)

/-- laws.markWallS, loop 0: one round -/
noncomputable def b85l0 (ih : Int → Int → List (List Int) → (Nat × Int × List (List Int))) (x0 x1 : Int) (x2 : List (List Int)) : Nat × Int × List (List Int) :=
 let c385 := (r85l1e (IntKind.i64.wrap ((IntKind.i64.wrap ((IntKind.i64.wrap ((IntKind.i64.wrap (x0 + 1)) + 1)) + 1)) + 1)) x1 ((((x2.modify (Int.toNat x1) (fun r => spl 8 r 0 [x0])).modify (Int.toNat x1) (fun r => spl 8 r 1 [(IntKind.i64.wrap (x0 + 1))])).modify (Int.toNat x1) (fun r => spl 8 r 2 [(((ofInt .f32 (IntKind.i64.wrap ((IntKind.i64.wrap (x0 + 1)) + 1))) : Nat) : Int)])).modify (Int.toNat x1) (fun r => spl 8 r 3 [(((ofInt .f32 (IntKind.i64.wrap ((IntKind.i64.wrap ((IntKind.i64.wrap (x0 + 1)) + 1)) + 1))) : Nat) : Int)])))
 cond (decide ((x1 : Int) < ((x2.length : Nat) : Int))) (cond ((decide ((0 : Int) ≤ x1)) && (Nat.blt (Int.toNat x1) x2.length)) (cond ((decide ((0 : Int) ≤ x1)) && (Nat.blt (Int.toNat x1) ((x2.modify (Int.toNat x1) (fun r => spl 8 r 0 [x0])).length))) (cond ((decide ((0 : Int) ≤ x1)) && (Nat.blt (Int.toNat x1) (((x2.modify (Int.toNat x1) (fun r => spl 8 r 0 [x0])).modify (Int.toNat x1) (fun r => spl 8 r 1 [(IntKind.i64.wrap (x0 + 1))])).length))) (cond ((decide ((0 : Int) ≤ x1)) && (Nat.blt (Int.toNat x1) ((((x2.modify (Int.toNat x1) (fun r => spl 8 r 0 [x0])).modify (Int.toNat x1) (fun r => spl 8 r 1 [(IntKind.i64.wrap (x0 + 1))])).modify (Int.toNat x1) (fun r => spl 8 r 2 [(((ofInt .f32 (IntKind.i64.wrap ((IntKind.i64.wrap (x0 + 1)) + 1))) : Nat) : Int)])).length))) (cond (Nat.beq (c385.1) 0) (ih (c385.2.1) (IntKind.i64.wrap (x1 + 1)) (c385.2.2)) (1, 0, [])) (1, 0, [])) (1, 0, [])) (1, 0, [])) (1, 0, [])) (0, x0, x2)
noncomputable def r85l0 : Nat → Int → Int → List (List Int) → (Nat × Int × List (List Int))
 | 0 => fun _ _ _ => (1, 0, [])
 | m + 1 => b85l0 (r85l0 m)
noncomputable def a85l0 (x0 x1 : Int) (x2 : List (List Int)) (p : Nat × Int × List (List Int)) : Option (Fin' × List Value × St) := firstT ([((Nat.beq (p.1) 0), .exit 0, [.int .i64 (p.2.1)], ⟨[⟨true, (some (.tab sc0 (p.2.2)))⟩], 1, [0]⟩)].map fun (b, x) => (b, (x.1, frameOf 58 [1] x.2.1, x.2.2)))
noncomputable def u85l0 (x0 x1 : Int) (x2 : List (List Int)) (p : Nat × Int × List (List Int)) : Option (Fin' × List Value × St) := alts ([((Nat.beq (p.1) 0), .exit 0, [.int .i64 (p.2.1)], ⟨[⟨true, (some (.tab sc0 (p.2.2)))⟩], 1, [0]⟩)].map fun (b, x) => (b, (x.1, frameOf 58 [1] x.2.1, x.2.2))) some
theorem v85l0 (x0 x1 : Int) (x2 : List (List Int)) (p : Nat × Int × List (List Int)) : u85l0 x0 x1 x2 p = a85l0 x0 x1 x2 p := alts_first _
noncomputable def q85l0 (m : Nat) : SumK := fun vals s =>
 match vals, s.h with
 | [.iface f0 .nilIface, .int .i64 x0, .int .i64 x1], [⟨true, some (.tab [.int .i64, .int .i64, .fl .f32, .fl .f32, .fl .f32, .fl .f32, .fl .f32, .fl .f32] x2)⟩] => if f0 = 0 then [((Nat.beq ((r85l0 m x0 x1 x2).1) 0), .exit 0, [.int .i64 ((r85l0 m x0 x1 x2).2.1)], ⟨[⟨true, (some (.tab sc0 ((r85l0 m x0 x1 x2).2.2)))⟩], 1, [0]⟩)] else noQ vals s
 | _, _ => noQ vals s
noncomputable def w85l0 (ih : Int → Int → List (List Int) → (Nat × Int × List (List Int))) (x0 x1 : Int) (x2 : List (List Int)) : Option (Fin' × List Value × St) :=
 let c385 := (r85l1e (IntKind.i64.wrap ((IntKind.i64.wrap ((IntKind.i64.wrap ((IntKind.i64.wrap (x0 + 1)) + 1)) + 1)) + 1)) x1 ((((x2.modify (Int.toNat x1) (fun r => spl 8 r 0 [x0])).modify (Int.toNat x1) (fun r => spl 8 r 1 [(IntKind.i64.wrap (x0 + 1))])).modify (Int.toNat x1) (fun r => spl 8 r 2 [(((ofInt .f32 (IntKind.i64.wrap ((IntKind.i64.wrap (x0 + 1)) + 1))) : Nat) : Int)])).modify (Int.toNat x1) (fun r => spl 8 r 3 [(((ofInt .f32 (IntKind.i64.wrap ((IntKind.i64.wrap ((IntKind.i64.wrap (x0 + 1)) + 1)) + 1))) : Nat) : Int)])))
 (cond (decide ((x1 : Int) < ((x2.length : Nat) : Int)))
 (cond ((decide ((0 : Int) ≤ x1)) && (Nat.blt (Int.toNat x1) x2.length)) (cond (Nat.blt (Int.toNat x1) x2.length) (cond ((decide ((0 : Int) ≤ x1)) && (Nat.blt (Int.toNat x1) ((x2.modify (Int.toNat x1) (fun r => spl 8 r 0 [x0])).length))) (cond (Nat.blt (Int.toNat x1) ((x2.modify (Int.toNat x1) (fun r => spl 8 r 0 [x0])).length)) (cond ((decide ((0 : Int) ≤ x1)) && (Nat.blt (Int.toNat x1) (((x2.modify (Int.toNat x1) (fun r => spl 8 r 0 [x0])).modify (Int.toNat x1) (fun r => spl 8 r 1 [(IntKind.i64.wrap (x0 + 1))])).length))) (cond (Nat.blt (Int.toNat x1) (((x2.modify (Int.toNat x1) (fun r => spl 8 r 0 [x0])).modify (Int.toNat x1) (fun r => spl 8 r 1 [(IntKind.i64.wrap (x0 + 1))])).length)) (cond ((decide ((0 : Int) ≤ x1)) && (Nat.blt (Int.toNat x1) ((((x2.modify (Int.toNat x1) (fun r => spl 8 r 0 [x0])).modify (Int.toNat x1) (fun r => spl 8 r 1 [(IntKind.i64.wrap (x0 + 1))])).modify (Int.toNat x1) (fun r => spl 8 r 2 [(((ofInt .f32 (IntKind.i64.wrap ((IntKind.i64.wrap (x0 + 1)) + 1))) : Nat) : Int)])).length))) (cond (Nat.blt (Int.toNat x1) ((((x2.modify (Int.toNat x1) (fun r => spl 8 r 0 [x0])).modify (Int.toNat x1) (fun r => spl 8 r 1 [(IntKind.i64.wrap (x0 + 1))])).modify (Int.toNat x1) (fun r => spl 8 r 2 [(((ofInt .f32 (IntKind.i64.wrap ((IntKind.i64.wrap (x0 + 1)) + 1))) : Nat) : Int)])).length)) (cond (Nat.beq (c385.1) 0) (u85l0 x0 x1 x2 (ih (c385.2.1) (IntKind.i64.wrap (x1 + 1)) (c385.2.2))) none) none) none) none) none) none) none) none) none)
 (a85l0 x0 x1 x2 (0, x0, x2)))
set_option maxRecDepth 100000 in
set_option maxHeartbeats 4000000 in
theorem e85l0 (m : Nat) (x0 x1 : Int) (x2 : List (List Int)) : evC Try.prog ext T65 L85_5 200 (loopN Try.f85 0) (loopTail ([0, 1, 5], []) [1] [0] (sumK 58 [0, 1, 5] [1] (q85l0 m))) (frameOf 58 [0, 1, 5] [wsl 0, .int .i64 x0, .int .i64 x1]) ⟨[⟨true, (some (.tab sc0 x2))⟩], 1, []⟩ = firstT ([((Nat.beq ((r85l0 (m + 1) x0 x1 x2).1) 0), .exit 0, [.int .i64 ((r85l0 (m + 1) x0 x1 x2).2.1)], ⟨[⟨true, (some (.tab sc0 ((r85l0 (m + 1) x0 x1 x2).2.2)))⟩], 1, [0]⟩)].map fun (b, x) => (b, (x.1, frameOf 58 [1] x.2.1, x.2.2))) :=
 (show evC Try.prog ext T65 L85_5 200 (loopN Try.f85 0) (loopTail ([0, 1, 5], []) [1] [0] (sumK 58 [0, 1, 5] [1] (q85l0 m))) (frameOf 58 [0, 1, 5] [wsl 0, .int .i64 x0, .int .i64 x1]) ⟨[⟨true, (some (.tab sc0 x2))⟩], 1, []⟩ = w85l0 (r85l0 m) x0 x1 x2 from by kernel_rfl).trans
 (show w85l0 (r85l0 m) x0 x1 x2 = a85l0 x0 x1 x2 (r85l0 (m + 1) x0 x1 x2) from by unfold w85l0; show _ = a85l0 x0 x1 x2 (b85l0 (r85l0 m) x0 x1 x2); unfold b85l0; exact (cond_both (a85l0 x0 x1 x2) _ (fun h0 => (cond_both (a85l0 x0 x1 x2) _ (fun h1 => (cond_t (ev_and2 h1) (cond_both (a85l0 x0 x1 x2) _ (fun h2 => (cond_t (ev_and2 h2) (cond_both (a85l0 x0 x1 x2) _ (fun h3 => (cond_t (ev_and2 h3) (cond_both (a85l0 x0 x1 x2) _ (fun h4 => (cond_t (ev_and2 h4) (cond_app (a85l0 x0 x1 x2) _ (v85l0 x0 x1 x2 ((r85l0 m) ((r85l1e (IntKind.i64.wrap ((IntKind.i64.wrap ((IntKind.i64.wrap ((IntKind.i64.wrap (x0 + 1)) + 1)) + 1)) + 1)) x1 ((((x2.modify (Int.toNat x1) (fun r => spl 8 r 0 [x0])).modify (Int.toNat x1) (fun r => spl 8 r 1 [(IntKind.i64.wrap (x0 + 1))])).modify (Int.toNat x1) (fun r => spl 8 r 2 [(((ofInt .f32 (IntKind.i64.wrap ((IntKind.i64.wrap (x0 + 1)) + 1))) : Nat) : Int)])).modify (Int.toNat x1) (fun r => spl 8 r 3 [(((ofInt .f32 (IntKind.i64.wrap ((IntKind.i64.wrap ((IntKind.i64.wrap (x0 + 1)) + 1)) + 1))) : Nat) : Int)]))).2.1) (IntKind.i64.wrap (x1 + 1)) ((r85l1e (IntKind.i64.wrap ((IntKind.i64.wrap ((IntKind.i64.wrap ((IntKind.i64.wrap (x0 + 1)) + 1)) + 1)) + 1)) x1 ((((x2.modify (Int.toNat x1) (fun r => spl 8 r 0 [x0])).modify (Int.toNat x1) (fun r => spl 8 r 1 [(IntKind.i64.wrap (x0 + 1))])).modify (Int.toNat x1) (fun r => spl 8 r 2 [(((ofInt .f32 (IntKind.i64.wrap ((IntKind.i64.wrap (x0 + 1)) + 1))) : Nat) : Int)])).modify (Int.toNat x1) (fun r => spl 8 r 3 [(((ofInt .f32 (IntKind.i64.wrap ((IntKind.i64.wrap ((IntKind.i64.wrap (x0 + 1)) + 1)) + 1))) : Nat) : Int)]))).2.2))) rfl))) (fun h4 => rfl)))) (fun h3 => rfl)))) (fun h2 => rfl)))) (fun h1 => rfl))) (fun h0 => rfl)))
set_option maxRecDepth 100000 in
set_option maxHeartbeats 4000000 in
theorem qm85l0 : ∀ m, SumKOk Try.prog (loopN Try.f85 0) 58 [0, 1, 5] [1] (q85l0 m) := by
  intro m
  induction m with
  | zero =>
    intro vals s x h1 h2 h3
    unfold q85l0 at h3; split at h3
    · rename_i h; split at h3
      · rename_i hc; obtain ⟨rfl⟩ := hc; exact absurd h3 (by simp [r85l0, firstT, Nat.beq])
      · exact noQ_ok _ _ _ h1 h2 h3
    · exact noQ_ok _ _ _ h1 h2 h3
  | succ m ih =>
    intro vals s x h1 h2 h3
    unfold q85l0 at h3; split at h3
    · rename_i h; split at h3
      · rename_i hc; obtain ⟨rfl⟩ := hc; exact sum_step ok65 extOk mixed (lok85_5.inner (by kernel_rfl)) ih h1 h2 h (e85l0 m _ _ _) rfl h3
      · exact noQ_ok _ _ _ h1 h2 h3
    · exact noQ_ok _ _ _ h1 h2 h3
noncomputable def Q85l0 : SumK := fun vals s => q85l0 (fuelOf vals s.h) vals s
theorem qok85l0 : SumKOk Try.prog (loopN Try.f85 0) 58 [0, 1, 5] [1] Q85l0 := fuel_ok qm85l0 fuelOf
noncomputable def L85_6 : LoopT := addL L85_5 3 ([0, 1, 5], []) (sumK 58 [0, 1, 5] [1] Q85l0)
theorem lok85_6 : LfOkF Try.prog L85_6 Try.f85 := lfOkF_add lok85_5 qok85l0 (by kernel_rfl) (by kernel_rfl) (by kernel_rfl)

/-- laws.markWallS -/
noncomputable def r85 (x0 : Int) (x1 : List (List Int)) : Nat × Int × List (List Int) :=
 cond (Nat.beq ((r85l0 (1000 + x1.length) x0 0 x1).1) 0) (0, ((r85l0 (1000 + x1.length) x0 0 x1).2.1), ((r85l0 (1000 + x1.length) x0 0 x1).2.2)) (1, 0, [])
noncomputable def a85 (x0 : Int) (x1 : List (List Int)) (p : Nat × Int × List (List Int)) : Res := firstT [((Nat.beq (p.1) 0), .int .i64 (p.2.1), ⟨[⟨true, (some (.tab sc0 (p.2.2)))⟩], 1, [0]⟩)]
noncomputable def w85 (x0 : Int) (x1 : List (List Int)) : Res :=
 (cond (Nat.beq ((r85l0 (1000 + x1.length) x0 0 x1).1) 0)
 (a85 x0 x1 (0, ((r85l0 (1000 + x1.length) x0 0 x1).2.1), ((r85l0 (1000 + x1.length) x0 0 x1).2.2)))
 none)
set_option maxRecDepth 100000 in
set_option maxHeartbeats 4000000 in
theorem e85 (x0 : Int) (x1 : List (List Int)) : evFn Try.prog ext T65 L85_6 200 Try.f85 [wsl 0, .int .i64 x0] ⟨[⟨true, (some (.tab sc0 x1))⟩], 1, []⟩ = firstT [((Nat.beq ((r85 x0 x1).1) 0), .int .i64 ((r85 x0 x1).2.1), ⟨[⟨true, (some (.tab sc0 ((r85 x0 x1).2.2)))⟩], 1, [0]⟩)] :=
 (show evFn Try.prog ext T65 L85_6 200 Try.f85 [wsl 0, .int .i64 x0] ⟨[⟨true, (some (.tab sc0 x1))⟩], 1, []⟩ = w85 x0 x1 from by kernel_rfl).trans
 (show w85 x0 x1 = a85 x0 x1 (r85 x0 x1) from by unfold w85 r85; exact (cond_app (a85 x0 x1) _ rfl rfl))
noncomputable def s85 (args : List Value) (s : St) : List (Bool × Value × St) :=
 match args, s.h with
 | [.iface f0 .nilIface, .int .i64 x0], [⟨true, some (.tab [.int .i64, .int .i64, .fl .f32, .fl .f32, .fl .f32, .fl .f32, .fl .f32, .fl .f32] x1)⟩] => if f0 = 0 then [((Nat.beq ((r85 x0 x1).1) 0), .int .i64 ((r85 x0 x1).2.1), ⟨[⟨true, (some (.tab sc0 ((r85 x0 x1).2.2)))⟩], 1, [0]⟩)] else T65 85 args s
 | _, _ => T65 85 args s
noncomputable def T66 : CallF := addF T65 85 s85
set_option maxRecDepth 100000 in
set_option maxHeartbeats 4000000 in
theorem ok66 : CfOk Try.prog T66 := by
  refine cfOk_add ok65 fun args s r s' h1 h2 h3 => ?_
  unfold s85 at h3; split at h3
  · rename_i h; split at h3
    · rename_i hc; obtain ⟨rfl⟩ := hc; exact callOk ok65 Try.func85 h1 h2 h lok85_6.body (e85 _ _) rfl h3
    · exact ok65 _ _ _ _ _ h1 h2 h3
  · exact ok65 _ _ _ _ _ h1 h2 h3

/-- laws.markPaneS, loop 0: one round -/
noncomputable def b86l0 (ih : Int → Int → List (List Int) → (Nat × Int × List (List Int))) (x0 x1 : Int) (x2 : List (List Int)) : Nat × Int × List (List Int) :=
 cond (decide ((x1 : Int) < ((x2.length : Nat) : Int))) (cond ((decide ((0 : Int) ≤ x1)) && (Nat.blt (Int.toNat x1) x2.length)) (cond ((decide ((0 : Int) ≤ x1)) && (Nat.blt (Int.toNat x1) ((x2.modify (Int.toNat x1) (fun r => spl 4 r 0 [x0])).length))) (cond ((decide ((0 : Int) ≤ x1)) && (Nat.blt (Int.toNat x1) (((x2.modify (Int.toNat x1) (fun r => spl 4 r 0 [x0])).modify (Int.toNat x1) (fun r => spl 4 r 1 [(IntKind.i64.wrap (x0 + 1))])).length))) (cond ((decide ((0 : Int) ≤ x1)) && (Nat.blt (Int.toNat x1) ((((x2.modify (Int.toNat x1) (fun r => spl 4 r 0 [x0])).modify (Int.toNat x1) (fun r => spl 4 r 1 [(IntKind.i64.wrap (x0 + 1))])).modify (Int.toNat x1) (fun r => spl 4 r 2 [(((ofInt .f32 (IntKind.i64.wrap ((IntKind.i64.wrap (x0 + 1)) + 1))) : Nat) : Int)])).length))) (ih (IntKind.i64.wrap ((IntKind.i64.wrap ((IntKind.i64.wrap ((IntKind.i64.wrap (x0 + 1)) + 1)) + 1)) + 1)) (IntKind.i64.wrap (x1 + 1)) ((((x2.modify (Int.toNat x1) (fun r => spl 4 r 0 [x0])).modify (Int.toNat x1) (fun r => spl 4 r 1 [(IntKind.i64.wrap (x0 + 1))])).modify (Int.toNat x1) (fun r => spl 4 r 2 [(((ofInt .f32 (IntKind.i64.wrap ((IntKind.i64.wrap (x0 + 1)) + 1))) : Nat) : Int)])).modify (Int.toNat x1) (fun r => spl 4 r 3 [(((ofInt .f32 (IntKind.i64.wrap ((IntKind.i64.wrap ((IntKind.i64.wrap (x0 + 1)) + 1)) + 1))) : Nat) : Int)]))) (1, 0, [])) (1, 0, [])) (1, 0, [])) (1, 0, [])) (0, x0, x2)
noncomputable def r86l0 : Nat → Int → Int → List (List Int) → (Nat × Int × List (List Int))
 | 0 => fun _ _ _ => (1, 0, [])
 | m + 1 => b86l0 (r86l0 m)
noncomputable def a86l0 (x0 x1 : Int) (x2 : List (List Int)) (p : Nat × Int × List (List Int)) : Option (Fin' × List Value × St) := firstT ([((Nat.beq (p.1) 0), .exit 0, [.int .i64 (p.2.1)], ⟨[⟨true, (some (.tab sc1 (p.2.2)))⟩], 1, [0]⟩)].map fun (b, x) => (b, (x.1, frameOf 43 [1] x.2.1, x.2.2)))
noncomputable def u86l0 (x0 x1 : Int) (x2 : List (List Int)) (p : Nat × Int × List (List Int)) : Option (Fin' × List Value × St) := alts ([((Nat.beq (p.1) 0), .exit 0, [.int .i64 (p.2.1)], ⟨[⟨true, (some (.tab sc1 (p.2.2)))⟩], 1, [0]⟩)].map fun (b, x) => (b, (x.1, frameOf 43 [1] x.2.1, x.2.2))) some
theorem v86l0 (x0 x1 : Int) (x2 : List (List Int)) (p : Nat × Int × List (List Int)) : u86l0 x0 x1 x2 p = a86l0 x0 x1 x2 p := alts_first _
noncomputable def q86l0 (m : Nat) : SumK := fun vals s =>
 match vals, s.h with
 | [.iface f0 .nilIface, .int .i64 x0, .int .i64 x1], [⟨true, some (.tab [.int .i64, .int .i64, .fl .f32, .fl .f32] x2)⟩] => if f0 = 0 then [((Nat.beq ((r86l0 m x0 x1 x2).1) 0), .exit 0, [.int .i64 ((r86l0 m x0 x1 x2).2.1)], ⟨[⟨true, (some (.tab sc1 ((r86l0 m x0 x1 x2).2.2)))⟩], 1, [0]⟩)] else noQ vals s
 | _, _ => noQ vals s
noncomputable def w86l0 (ih : Int → Int → List (List Int) → (Nat × Int × List (List Int))) (x0 x1 : Int) (x2 : List (List Int)) : Option (Fin' × List Value × St) :=
 (cond (decide ((x1 : Int) < ((x2.length : Nat) : Int)))
 (cond ((decide ((0 : Int) ≤ x1)) && (Nat.blt (Int.toNat x1) x2.length)) (cond (Nat.blt (Int.toNat x1) x2.length) (cond ((decide ((0 : Int) ≤ x1)) && (Nat.blt (Int.toNat x1) ((x2.modify (Int.toNat x1) (fun r => spl 4 r 0 [x0])).length))) (cond (Nat.blt (Int.toNat x1) ((x2.modify (Int.toNat x1) (fun r => spl 4 r 0 [x0])).length)) (cond ((decide ((0 : Int) ≤ x1)) && (Nat.blt (Int.toNat x1) (((x2.modify (Int.toNat x1) (fun r => spl 4 r 0 [x0])).modify (Int.toNat x1) (fun r => spl 4 r 1 [(IntKind.i64.wrap (x0 + 1))])).length))) (cond (Nat.blt (Int.toNat x1) (((x2.modify (Int.toNat x1) (fun r => spl 4 r 0 [x0])).modify (Int.toNat x1) (fun r => spl 4 r 1 [(IntKind.i64.wrap (x0 + 1))])).length)) (cond ((decide ((0 : Int) ≤ x1)) && (Nat.blt (Int.toNat x1) ((((x2.modify (Int.toNat x1) (fun r => spl 4 r 0 [x0])).modify (Int.toNat x1) (fun r => spl 4 r 1 [(IntKind.i64.wrap (x0 + 1))])).modify (Int.toNat x1) (fun r => spl 4 r 2 [(((ofInt .f32 (IntKind.i64.wrap ((IntKind.i64.wrap (x0 + 1)) + 1))) : Nat) : Int)])).length))) (cond (Nat.blt (Int.toNat x1) ((((x2.modify (Int.toNat x1) (fun r => spl 4 r 0 [x0])).modify (Int.toNat x1) (fun r => spl 4 r 1 [(IntKind.i64.wrap (x0 + 1))])).modify (Int.toNat x1) (fun r => spl 4 r 2 [(((ofInt .f32 (IntKind.i64.wrap ((IntKind.i64.wrap (x0 + 1)) + 1))) : Nat) : Int)])).length)) (u86l0 x0 x1 x2 (ih (IntKind.i64.wrap ((IntKind.i64.wrap ((IntKind.i64.wrap ((IntKind.i64.wrap (x0 + 1)) + 1)) + 1)) + 1)) (IntKind.i64.wrap (x1 + 1)) ((((x2.modify (Int.toNat x1) (fun r => spl 4 r 0 [x0])).modify (Int.toNat x1) (fun r => spl 4 r 1 [(IntKind.i64.wrap (x0 + 1))])).modify (Int.toNat x1) (fun r => spl 4 r 2 [(((ofInt .f32 (IntKind.i64.wrap ((IntKind.i64.wrap (x0 + 1)) + 1))) : Nat) : Int)])).modify (Int.toNat x1) (fun r => spl 4 r 3 [(((ofInt .f32 (IntKind.i64.wrap ((IntKind.i64.wrap ((IntKind.i64.wrap (x0 + 1)) + 1)) + 1))) : Nat) : Int)])))) none) none) none) none) none) none) none) none)
 (a86l0 x0 x1 x2 (0, x0, x2)))
set_option maxRecDepth 100000 in
set_option maxHeartbeats 4000000 in
theorem e86l0 (m : Nat) (x0 x1 : Int) (x2 : List (List Int)) : evC Try.prog ext T66 noL 200 (loopN Try.f86 0) (loopTail ([0, 1, 5], []) [1] [0] (sumK 43 [0, 1, 5] [1] (q86l0 m))) (frameOf 43 [0, 1, 5] [wsl 0, .int .i64 x0, .int .i64 x1]) ⟨[⟨true, (some (.tab sc1 x2))⟩], 1, []⟩ = firstT ([((Nat.beq ((r86l0 (m + 1) x0 x1 x2).1) 0), .exit 0, [.int .i64 ((r86l0 (m + 1) x0 x1 x2).2.1)], ⟨[⟨true, (some (.tab sc1 ((r86l0 (m + 1) x0 x1 x2).2.2)))⟩], 1, [0]⟩)].map fun (b, x) => (b, (x.1, frameOf 43 [1] x.2.1, x.2.2))) :=
 (show evC Try.prog ext T66 noL 200 (loopN Try.f86 0) (loopTail ([0, 1, 5], []) [1] [0] (sumK 43 [0, 1, 5] [1] (q86l0 m))) (frameOf 43 [0, 1, 5] [wsl 0, .int .i64 x0, .int .i64 x1]) ⟨[⟨true, (some (.tab sc1 x2))⟩], 1, []⟩ = w86l0 (r86l0 m) x0 x1 x2 from by kernel_rfl).trans
 (show w86l0 (r86l0 m) x0 x1 x2 = a86l0 x0 x1 x2 (r86l0 (m + 1) x0 x1 x2) from by unfold w86l0; show _ = a86l0 x0 x1 x2 (b86l0 (r86l0 m) x0 x1 x2); unfold b86l0; exact (cond_both (a86l0 x0 x1 x2) _ (fun h0 => (cond_both (a86l0 x0 x1 x2) _ (fun h1 => (cond_t (ev_and2 h1) (cond_both (a86l0 x0 x1 x2) _ (fun h2 => (cond_t (ev_and2 h2) (cond_both (a86l0 x0 x1 x2) _ (fun h3 => (cond_t (ev_and2 h3) (cond_both (a86l0 x0 x1 x2) _ (fun h4 => (cond_t (ev_and2 h4) (v86l0 x0 x1 x2 ((r86l0 m) (IntKind.i64.wrap ((IntKind.i64.wrap ((IntKind.i64.wrap ((IntKind.i64.wrap (x0 + 1)) + 1)) + 1)) + 1)) (IntKind.i64.wrap (x1 + 1)) ((((x2.modify (Int.toNat x1) (fun r => spl 4 r 0 [x0])).modify (Int.toNat x1) (fun r => spl 4 r 1 [(IntKind.i64.wrap (x0 + 1))])).modify (Int.toNat x1) (fun r => spl 4 r 2 [(((ofInt .f32 (IntKind.i64.wrap ((IntKind.i64.wrap (x0 + 1)) + 1))) : Nat) : Int)])).modify (Int.toNat x1) (fun r => spl 4 r 3 [(((ofInt .f32 (IntKind.i64.wrap ((IntKind.i64.wrap ((IntKind.i64.wrap (x0 + 1)) + 1)) + 1))) : Nat) : Int)])))))) (fun h4 => rfl)))) (fun h3 => rfl)))) (fun h2 => rfl)))) (fun h1 => rfl))) (fun h0 => rfl)))
set_option maxRecDepth 100000 in
set_option maxHeartbeats 4000000 in
theorem qm86l0 : ∀ m, SumKOk Try.prog (loopN Try.f86 0) 43 [0, 1, 5] [1] (q86l0 m) := by
  intro m
  induction m with
  | zero =>
    intro vals s x h1 h2 h3
    unfold q86l0 at h3; split at h3
    · rename_i h; split at h3
      · rename_i hc; obtain ⟨rfl⟩ := hc; exact absurd h3 (by simp [r86l0, firstT, Nat.beq])
      · exact noQ_ok _ _ _ h1 h2 h3
    · exact noQ_ok _ _ _ h1 h2 h3
  | succ m ih =>
    intro vals s x h1 h2 h3
    unfold q86l0 at h3; split at h3
    · rename_i h; split at h3
      · rename_i hc; obtain ⟨rfl⟩ := hc; exact sum_step ok66 extOk mixed ((lfOkF_no _ _).inner (by kernel_rfl)) ih h1 h2 h (e86l0 m _ _ _) rfl h3
      · exact noQ_ok _ _ _ h1 h2 h3
    · exact noQ_ok _ _ _ h1 h2 h3
noncomputable def Q86l0 : SumK := fun vals s => q86l0 (fuelOf vals s.h) vals s
theorem qok86l0 : SumKOk Try.prog (loopN Try.f86 0) 43 [0, 1, 5] [1] Q86l0 := fuel_ok qm86l0 fuelOf
noncomputable def L86_1 : LoopT := addL noL 3 ([0, 1, 5], []) (sumK 43 [0, 1, 5] [1] Q86l0)
theorem lok86_1 : LfOkF Try.prog L86_1 Try.f86 := lfOkF_add (lfOkF_no _ _) qok86l0 (by kernel_rfl) (by kernel_rfl) (by kernel_rfl)

/-- laws.markPaneS -/
noncomputable def r86 (x0 : Int) (x1 : List (List Int)) : Nat × Int × List (List Int) :=
 cond (Nat.beq ((r86l0 (1000 + x1.length) x0 0 x1).1) 0) (0, ((r86l0 (1000 + x1.length) x0 0 x1).2.1), ((r86l0 (1000 + x1.length) x0 0 x1).2.2)) (1, 0, [])
noncomputable def a86 (x0 : Int) (x1 : List (List Int)) (p : Nat × Int × List (List Int)) : Res := firstT [((Nat.beq (p.1) 0), .int .i64 (p.2.1), ⟨[⟨true, (some (.tab sc1 (p.2.2)))⟩], 1, [0]⟩)]
noncomputable def w86 (x0 : Int) (x1 : List (List Int)) : Res :=
 (cond (Nat.beq ((r86l0 (1000 + x1.length) x0 0 x1).1) 0)
 (a86 x0 x1 (0, ((r86l0 (1000 + x1.length) x0 0 x1).2.1), ((r86l0 (1000 + x1.length) x0 0 x1).2.2)))
 none)
set_option maxRecDepth 100000 in
set_option maxHeartbeats 4000000 in
theorem e86 (x0 : Int) (x1 : List (List Int)) : evFn Try.prog ext T66 L86_1 200 Try.f86 [wsl 0, .int .i64 x0] ⟨[⟨true, (some (.tab sc1 x1))⟩], 1, []⟩ = firstT [((Nat.beq ((r86 x0 x1).1) 0), .int .i64 ((r86 x0 x1).2.1), ⟨[⟨true, (some (.tab sc1 ((r86 x0 x1).2.2)))⟩], 1, [0]⟩)] :=
 (show evFn Try.prog ext T66 L86_1 200 Try.f86 [wsl 0, .int .i64 x0] ⟨[⟨true, (some (.tab sc1 x1))⟩], 1, []⟩ = w86 x0 x1 from by kernel_rfl).trans
 (show w86 x0 x1 = a86 x0 x1 (r86 x0 x1) from by unfold w86 r86; exact (cond_app (a86 x0 x1) _ rfl rfl))
noncomputable def s86 (args : List Value) (s : St) : List (Bool × Value × St) :=
 match args, s.h with
 | [.iface f0 .nilIface, .int .i64 x0], [⟨true, some (.tab [.int .i64, .int .i64, .fl .f32, .fl .f32] x1)⟩] => if f0 = 0 then [((Nat.beq ((r86 x0 x1).1) 0), .int .i64 ((r86 x0 x1).2.1), ⟨[⟨true, (some (.tab sc1 ((r86 x0 x1).2.2)))⟩], 1, [0]⟩)] else T66 86 args s
 | _, _ => T66 86 args s
noncomputable def T67 : CallF := addF T66 86 s86
set_option maxRecDepth 100000 in
set_option maxHeartbeats 4000000 in
theorem ok67 : CfOk Try.prog T67 := by
  refine cfOk_add ok66 fun args s r s' h1 h2 h3 => ?_
  unfold s86 at h3; split at h3
  · rename_i h; split at h3
    · rename_i hc; obtain ⟨rfl⟩ := hc; exact callOk ok66 Try.func86 h1 h2 h lok86_1.body (e86 _ _) rfl h3
    · exact ok66 _ _ _ _ _ h1 h2 h3
  · exact ok66 _ _ _ _ _ h1 h2 h3

/-- laws.markFlat -/
noncomputable def r32 (x0 : Int) (x1 x2 x3 x4 : List (List Int)) : Nat × Int × List (List Int) × List (List Int) × List (List Int) × List (List Int) :=
 cond (Nat.beq ((r33 x0 x1).1) 0) (cond (Nat.beq ((r33 ((r33 x0 x1).2.1) x2).1) 0) (cond (Nat.beq ((r85 ((r33 ((r33 x0 x1).2.1) x2).2.1) x3).1) 0) (cond (Nat.beq ((r86 ((r85 ((r33 ((r33 x0 x1).2.1) x2).2.1) x3).2.1) x4).1) 0) (0, ((r86 ((r85 ((r33 ((r33 x0 x1).2.1) x2).2.1) x3).2.1) x4).2.1), ((r33 x0 x1).2.2), ((r33 ((r33 x0 x1).2.1) x2).2.2), ((r85 ((r33 ((r33 x0 x1).2.1) x2).2.1) x3).2.2), ((r86 ((r85 ((r33 ((r33 x0 x1).2.1) x2).2.1) x3).2.1) x4).2.2)) (1, 0, [], [], [], [])) (1, 0, [], [], [], [])) (1, 0, [], [], [], [])) (1, 0, [], [], [], [])
noncomputable def a32 (x0 : Int) (x1 x2 x3 x4 : List (List Int)) (p : Nat × Int × List (List Int) × List (List Int) × List (List Int) × List (List Int)) : Res := firstT [((Nat.beq (p.1) 0), .int .i64 (p.2.1), ⟨[⟨true, (some (.tab [.fl .f32] (p.2.2.1)))⟩, ⟨true, (some (.tab [.fl .f32] (p.2.2.2.1)))⟩, ⟨true, (some (.tab sc0 (p.2.2.2.2.1)))⟩, ⟨true, (some (.tab sc1 (p.2.2.2.2.2)))⟩], 4, [0, 1, 2, 3]⟩)]
noncomputable def w32 (x0 : Int) (x1 x2 x3 x4 : List (List Int)) : Res :=
 (cond (Nat.beq ((r33 x0 x1).1) 0)
 (cond (Nat.beq ((r33 ((r33 x0 x1).2.1) x2).1) 0) (cond (Nat.beq ((r85 ((r33 ((r33 x0 x1).2.1) x2).2.1) x3).1) 0) (cond (Nat.beq ((r86 ((r85 ((r33 ((r33 x0 x1).2.1) x2).2.1) x3).2.1) x4).1) 0) (a32 x0 x1 x2 x3 x4 (0, ((r86 ((r85 ((r33 ((r33 x0 x1).2.1) x2).2.1) x3).2.1) x4).2.1), ((r33 x0 x1).2.2), ((r33 ((r33 x0 x1).2.1) x2).2.2), ((r85 ((r33 ((r33 x0 x1).2.1) x2).2.1) x3).2.2), ((r86 ((r85 ((r33 ((r33 x0 x1).2.1) x2).2.1) x3).2.1) x4).2.2))) none) none) none)
 none)
set_option maxRecDepth 100000 in
set_option maxHeartbeats 4000000 in
theorem e32 (x0 : Int) (x1 x2 x3 x4 : List (List Int)) : evFn Try.prog ext T67 noL 200 Try.f32 [.agg #[wsl 0, wsl 1, wsl 2, wsl 3], .int .i64 x0] ⟨[⟨true, (some (.tab [.fl .f32] x1))⟩, ⟨true, (some (.tab [.fl .f32] x2))⟩, ⟨true, (some (.tab sc0 x3))⟩, ⟨true, (some (.tab sc1 x4))⟩], 4, []⟩ = firstT [((Nat.beq ((r32 x0 x1 x2 x3 x4).1) 0), .int .i64 ((r32 x0 x1 x2 x3 x4).2.1), ⟨[⟨true, (some (.tab [.fl .f32] ((r32 x0 x1 x2 x3 x4).2.2.1)))⟩, ⟨true, (some (.tab [.fl .f32] ((r32 x0 x1 x2 x3 x4).2.2.2.1)))⟩, ⟨true, (some (.tab sc0 ((r32 x0 x1 x2 x3 x4).2.2.2.2.1)))⟩, ⟨true, (some (.tab sc1 ((r32 x0 x1 x2 x3 x4).2.2.2.2.2)))⟩], 4, [0, 1, 2, 3]⟩)] :=
 (show evFn Try.prog ext T67 noL 200 Try.f32 [.agg #[wsl 0, wsl 1, wsl 2, wsl 3], .int .i64 x0] ⟨[⟨true, (some (.tab [.fl .f32] x1))⟩, ⟨true, (some (.tab [.fl .f32] x2))⟩, ⟨true, (some (.tab sc0 x3))⟩, ⟨true, (some (.tab sc1 x4))⟩], 4, []⟩ = w32 x0 x1 x2 x3 x4 from by kernel_rfl).trans
 (show w32 x0 x1 x2 x3 x4 = a32 x0 x1 x2 x3 x4 (r32 x0 x1 x2 x3 x4) from by unfold w32 r32; exact (cond_app (a32 x0 x1 x2 x3 x4) _ (cond_app (a32 x0 x1 x2 x3 x4) _ (cond_app (a32 x0 x1 x2 x3 x4) _ (cond_app (a32 x0 x1 x2 x3 x4) _ rfl rfl) rfl) rfl) rfl))
noncomputable def s32 (args : List Value) (s : St) : List (Bool × Value × St) :=
 match args, s.h with
 | [.agg ⟨[.iface f0 .nilIface, .iface f1 .nilIface, .iface f2 .nilIface, .iface f3 .nilIface]⟩, .int .i64 x0], [⟨true, some (.tab [.fl .f32] x1)⟩, ⟨true, some (.tab [.fl .f32] x2)⟩, ⟨true, some (.tab [.int .i64, .int .i64, .fl .f32, .fl .f32, .fl .f32, .fl .f32, .fl .f32, .fl .f32] x3)⟩, ⟨true, some (.tab [.int .i64, .int .i64, .fl .f32, .fl .f32] x4)⟩] => if f0 = 0 ∧ f1 = 1 ∧ f2 = 2 ∧ f3 = 3 then [((Nat.beq ((r32 x0 x1 x2 x3 x4).1) 0), .int .i64 ((r32 x0 x1 x2 x3 x4).2.1), ⟨[⟨true, (some (.tab [.fl .f32] ((r32 x0 x1 x2 x3 x4).2.2.1)))⟩, ⟨true, (some (.tab [.fl .f32] ((r32 x0 x1 x2 x3 x4).2.2.2.1)))⟩, ⟨true, (some (.tab sc0 ((r32 x0 x1 x2 x3 x4).2.2.2.2.1)))⟩, ⟨true, (some (.tab sc1 ((r32 x0 x1 x2 x3 x4).2.2.2.2.2)))⟩], 4, [0, 1, 2, 3]⟩)] else T67 32 args s
 | _, _ => T67 32 args s
noncomputable def T68 : CallF := addF T67 32 s32
set_option maxRecDepth 100000 in
set_option maxHeartbeats 4000000 in
theorem ok68 : CfOk Try.prog T68 := by
  refine cfOk_add ok67 fun args s r s' h1 h2 h3 => ?_
  unfold s32 at h3; split at h3
  · rename_i h; split at h3
    · rename_i hc; obtain ⟨rfl, rfl, rfl, rfl⟩ := hc; exact callOk ok67 Try.func32 h1 h2 h (lfOkF_no _ _).body (e32 _ _ _ _ _) rfl h3
    · exact ok67 _ _ _ _ _ h1 h2 h3
  · exact ok67 _ _ _ _ _ h1 h2 h3

/-- laws.markFloat32S, loop 0 -/
noncomputable def r33l0b (x0 : Int) : Unit :=
 ()
noncomputable def a33l0b (x0 : Int) (p : Unit) : Option (Fin' × List Value × St) := firstT ([(true, .exit 0, [.int .i64 x0], st0)].map fun (b, x) => (b, (x.1, frameOf 20 [1] x.2.1, x.2.2)))
noncomputable def w33l0b (x0 : Int) : Option (Fin' × List Value × St) :=
 (a33l0b x0 ())
set_option maxRecDepth 100000 in
set_option maxHeartbeats 4000000 in
theorem e33l0b (x0 : Int) : evC Try.prog ext T68 L33_1 200 (loopN Try.f33 0) (loopTail ([0, 1, 5], []) [1] [] (sumK 20 [0, 1, 5] [1] Q33l0)) (frameOf 20 [0, 1, 5] [.slice none 0 0, .int .i64 x0, .int .i64 0]) ⟨[], 0, []⟩ = firstT ([(true, .exit 0, [.int .i64 x0], st0)].map fun (b, x) => (b, (x.1, frameOf 20 [1] x.2.1, x.2.2))) :=
 (show evC Try.prog ext T68 L33_1 200 (loopN Try.f33 0) (loopTail ([0, 1, 5], []) [1] [] (sumK 20 [0, 1, 5] [1] Q33l0)) (frameOf 20 [0, 1, 5] [.slice none 0 0, .int .i64 x0, .int .i64 0]) ⟨[], 0, []⟩ = w33l0b x0 from by kernel_rfl).trans
 (show w33l0b x0 = a33l0b x0 (r33l0b x0) from by unfold w33l0b r33l0b; exact rfl)
noncomputable def Q33l0b : SumK := fun vals s =>
 match vals, s.h with
 | [.slice none f0 f1, .int .i64 x0, .int .i64 f2], [] => if f0 = 0 ∧ f1 = 0 ∧ f2 = 0 then [(true, .exit 0, [.int .i64 x0], st0)] else Q33l0 vals s
 | _, _ => Q33l0 vals s
set_option maxRecDepth 100000 in
set_option maxHeartbeats 4000000 in
theorem qok33l0b : SumKOk Try.prog (loopN Try.f33 0) 20 [0, 1, 5] [1] Q33l0b := by
  intro vals s x h1 h2 h3
  unfold Q33l0b at h3; split at h3
  · rename_i h; split at h3
    · rename_i hc; obtain ⟨rfl, rfl, rfl⟩ := hc; exact sum_step ok68 extOk mixed (lok33_1.inner (by kernel_rfl)) qok33l0 h1 h2 h (e33l0b _) rfl h3
    · exact qok33l0 _ _ _ h1 h2 h3
  · exact qok33l0 _ _ _ h1 h2 h3
noncomputable def L33_2 : LoopT := addL L33_1 3 ([0, 1, 5], []) (sumK 20 [0, 1, 5] [1] Q33l0b)
theorem lok33_2 : LfOkF Try.prog L33_2 Try.f33 := lfOkF_add lok33_1 qok33l0b (by kernel_rfl) (by kernel_rfl) (by kernel_rfl)

/-- laws.markFloat32S -/
noncomputable def r33b (x0 : Int) : Unit :=
 ()
noncomputable def a33b (x0 : Int) (p : Unit) : Res := firstT [(true, .int .i64 x0, st0)]
noncomputable def w33b (x0 : Int) : Res :=
 (a33b x0 ())
set_option maxRecDepth 100000 in
set_option maxHeartbeats 4000000 in
theorem e33b (x0 : Int) : evFn Try.prog ext T68 L33_2 200 Try.f33 [.slice none 0 0, .int .i64 x0] st0 = firstT [(true, .int .i64 x0, st0)] :=
 (show evFn Try.prog ext T68 L33_2 200 Try.f33 [.slice none 0 0, .int .i64 x0] st0 = w33b x0 from by kernel_rfl).trans
 (show w33b x0 = a33b x0 (r33b x0) from by unfold w33b r33b; exact rfl)
noncomputable def s33b (args : List Value) (s : St) : List (Bool × Value × St) :=
 match args, s.h with
 | [.slice none f0 f1, .int .i64 x0], [] => if f0 = 0 ∧ f1 = 0 then [(true, .int .i64 x0, st0)] else T68 33 args s
 | _, _ => T68 33 args s
noncomputable def T69 : CallF := addF T68 33 s33b
set_option maxRecDepth 100000 in
set_option maxHeartbeats 4000000 in
theorem ok69 : CfOk Try.prog T69 := by
  refine cfOk_add ok68 fun args s r s' h1 h2 h3 => ?_
  unfold s33b at h3; split at h3
  · rename_i h; split at h3
    · rename_i hc; obtain ⟨rfl, rfl⟩ := hc; exact callOk ok68 Try.func33 h1 h2 h lok33_2.body (e33b _) rfl h3
    · exact ok68 _ _ _ _ _ h1 h2 h3
  · exact ok68 _ _ _ _ _ h1 h2 h3

/-- laws.markWallS, loop 0 -/
noncomputable def r85l0b (x0 : Int) : Unit :=
 ()
noncomputable def a85l0b (x0 : Int) (p : Unit) : Option (Fin' × List Value × St) := firstT ([(true, .exit 0, [.int .i64 x0], st0)].map fun (b, x) => (b, (x.1, frameOf 58 [1] x.2.1, x.2.2)))
noncomputable def w85l0b (x0 : Int) : Option (Fin' × List Value × St) :=
 (a85l0b x0 ())
set_option maxRecDepth 100000 in
set_option maxHeartbeats 4000000 in
theorem e85l0b (x0 : Int) : evC Try.prog ext T69 L85_6 200 (loopN Try.f85 0) (loopTail ([0, 1, 5], []) [1] [] (sumK 58 [0, 1, 5] [1] Q85l0)) (frameOf 58 [0, 1, 5] [.slice none 0 0, .int .i64 x0, .int .i64 0]) ⟨[], 0, []⟩ = firstT ([(true, .exit 0, [.int .i64 x0], st0)].map fun (b, x) => (b, (x.1, frameOf 58 [1] x.2.1, x.2.2))) :=
 (show evC Try.prog ext T69 L85_6 200 (loopN Try.f85 0) (loopTail ([0, 1, 5], []) [1] [] (sumK 58 [0, 1, 5] [1] Q85l0)) (frameOf 58 [0, 1, 5] [.slice none 0 0, .int .i64 x0, .int .i64 0]) ⟨[], 0, []⟩ = w85l0b x0 from by kernel_rfl).trans
 (show w85l0b x0 = a85l0b x0 (r85l0b x0) from by unfold w85l0b r85l0b; exact rfl)
noncomputable def Q85l0b : SumK := fun vals s =>
 match vals, s.h with
 | [.slice none f0 f1, .int .i64 x0, .int .i64 f2], [] => if f0 = 0 ∧ f1 = 0 ∧ f2 = 0 then [(true, .exit 0, [.int .i64 x0], st0)] else Q85l0 vals s
 | _, _ => Q85l0 vals s
set_option maxRecDepth 100000 in
set_option maxHeartbeats 4000000 in
theorem qok85l0b : SumKOk Try.prog (loopN Try.f85 0) 58 [0, 1, 5] [1] Q85l0b := by
  intro vals s x h1 h2 h3
  unfold Q85l0b at h3; split at h3
  · rename_i h; split at h3
    · rename_i hc; obtain ⟨rfl, rfl, rfl⟩ := hc; exact sum_step ok69 extOk mixed (lok85_6.inner (by kernel_rfl)) qok85l0 h1 h2 h (e85l0b _) rfl h3
    · exact qok85l0 _ _ _ h1 h2 h3
  · exact qok85l0 _ _ _ h1 h2 h3
noncomputable def L85_7 : LoopT := addL L85_6 3 ([0, 1, 5], []) (sumK 58 [0, 1, 5] [1] Q85l0b)
theorem lok85_7 : LfOkF Try.prog L85_7 Try.f85 := lfOkF_add lok85_6 qok85l0b (by kernel_rfl) (by kernel_rfl) (by kernel_rfl)

/-- laws.markWallS -/
noncomputable def r85b (x0 : Int) : Unit :=
 ()
noncomputable def a85b (x0 : Int) (p : Unit) : Res := firstT [(true, .int .i64 x0, st0)]
noncomputable def w85b (x0 : Int) : Res :=
 (a85b x0 ())
set_option maxRecDepth 100000 in
set_option maxHeartbeats 4000000 in
theorem e85b (x0 : Int) : evFn Try.prog ext T69 L85_7 200 Try.f85 [.slice none 0 0, .int .i64 x0] st0 = firstT [(true, .int .i64 x0, st0)] :=
 (show evFn Try.prog ext T69 L85_7 200 Try.f85 [.slice none 0 0, .int .i64 x0] st0 = w85b x0 from by kernel_rfl).trans
 (show w85b x0 = a85b x0 (r85b x0) from by unfold w85b r85b; exact rfl)
noncomputable def s85b (args : List Value) (s : St) : List (Bool × Value × St) :=
 match args, s.h with
 | [.slice none f0 f1, .int .i64 x0], [] => if f0 = 0 ∧ f1 = 0 then [(true, .int .i64 x0, st0)] else T69 85 args s
 | _, _ => T69 85 args s
noncomputable def T70 : CallF := addF T69 85 s85b
set_option maxRecDepth 100000 in
set_option maxHeartbeats 4000000 in
theorem ok70 : CfOk Try.prog T70 := by
  refine cfOk_add ok69 fun args s r s' h1 h2 h3 => ?_
  unfold s85b at h3; split at h3
  · rename_i h; split at h3
    · rename_i hc; obtain ⟨rfl, rfl⟩ := hc; exact callOk ok69 Try.func85 h1 h2 h lok85_7.body (e85b _) rfl h3
    · exact ok69 _ _ _ _ _ h1 h2 h3
  · exact ok69 _ _ _ _ _ h1 h2 h3

/-- laws.markPaneS, loop 0 -/
noncomputable def r86l0b (x0 : Int) : Unit :=
 ()
noncomputable def a86l0b (x0 : Int) (p : Unit) : Option (Fin' × List Value × St) := firstT ([(true, .exit 0, [.int .i64 x0], st0)].map fun (b, x) => (b, (x.1, frameOf 43 [1] x.2.1, x.2.2)))
noncomputable def w86l0b (x0 : Int) : Option (Fin' × List Value × St) :=
 (a86l0b x0 ())
set_option maxRecDepth 100000 in
set_option maxHeartbeats 4000000 in
theorem e86l0b (x0 : Int) : evC Try.prog ext T70 L86_1 200 (loopN Try.f86 0) (loopTail ([0, 1, 5], []) [1] [] (sumK 43 [0, 1, 5] [1] Q86l0)) (frameOf 43 [0, 1, 5] [.slice none 0 0, .int .i64 x0, .int .i64 0]) ⟨[], 0, []⟩ = firstT ([(true, .exit 0, [.int .i64 x0], st0)].map fun (b, x) => (b, (x.1, frameOf 43 [1] x.2.1, x.2.2))) :=
 (show evC Try.prog ext T70 L86_1 200 (loopN Try.f86 0) (loopTail ([0, 1, 5], []) [1] [] (sumK 43 [0, 1, 5] [1] Q86l0)) (frameOf 43 [0, 1, 5] [.slice none 0 0, .int .i64 x0, .int .i64 0]) ⟨[], 0, []⟩ = w86l0b x0 from by kernel_rfl).trans
 (show w86l0b x0 = a86l0b x0 (r86l0b x0) from by unfold w86l0b r86l0b; exact rfl)
noncomputable def Q86l0b : SumK := fun vals s =>
 match vals, s.h with
 | [.slice none f0 f1, .int .i64 x0, .int .i64 f2], [] => if f0 = 0 ∧ f1 = 0 ∧ f2 = 0 then [(true, .exit 0, [.int .i64 x0], st0)] else Q86l0 vals s
 | _, _ => Q86l0 vals s
set_option maxRecDepth 100000 in
set_option maxHeartbeats 4000000 in
theorem qok86l0b : SumKOk Try.prog (loopN Try.f86 0) 43 [0, 1, 5] [1] Q86l0b := by
  intro vals s x h1 h2 h3
  unfold Q86l0b at h3; split at h3
  · rename_i h; split at h3
    · rename_i hc; obtain ⟨rfl, rfl, rfl⟩ := hc; exact sum_step ok70 extOk mixed (lok86_1.inner (by kernel_rfl)) qok86l0 h1 h2 h (e86l0b _) rfl h3
    · exact qok86l0 _ _ _ h1 h2 h3
  · exact qok86l0 _ _ _ h1 h2 h3
noncomputable def L86_2 : LoopT := addL L86_1 3 ([0, 1, 5], []) (sumK 43 [0, 1, 5] [1] Q86l0b)
theorem lok86_2 : LfOkF Try.prog L86_2 Try.f86 := lfOkF_add lok86_1 qok86l0b (by kernel_rfl) (by kernel_rfl) (by kernel_rfl)

/-- laws.markPaneS -/
noncomputable def r86b (x0 : Int) : Unit :=
 ()
noncomputable def a86b (x0 : Int) (p : Unit) : Res := firstT [(true, .int .i64 x0, st0)]
noncomputable def w86b (x0 : Int) : Res :=
 (a86b x0 ())
set_option maxRecDepth 100000 in
set_option maxHeartbeats 4000000 in
theorem e86b (x0 : Int) : evFn Try.prog ext T70 L86_2 200 Try.f86 [.slice none 0 0, .int .i64 x0] st0 = firstT [(true, .int .i64 x0, st0)] :=
 (show evFn Try.prog ext T70 L86_2 200 Try.f86 [.slice none 0 0, .int .i64 x0] st0 = w86b x0 from by kernel_rfl).trans
 (show w86b x0 = a86b x0 (r86b x0) from by unfold w86b r86b; exact rfl)
noncomputable def s86b (args : List Value) (s : St) : List (Bool × Value × St) :=
 match args, s.h with
 | [.slice none f0 f1, .int .i64 x0], [] => if f0 = 0 ∧ f1 = 0 then [(true, .int .i64 x0, st0)] else T70 86 args s
 | _, _ => T70 86 args s
noncomputable def T71 : CallF := addF T70 86 s86b
set_option maxRecDepth 100000 in
set_option maxHeartbeats 4000000 in
theorem ok71 : CfOk Try.prog T71 := by
  refine cfOk_add ok70 fun args s r s' h1 h2 h3 => ?_
  unfold s86b at h3; split at h3
  · rename_i h; split at h3
    · rename_i hc; obtain ⟨rfl, rfl⟩ := hc; exact callOk ok70 Try.func86 h1 h2 h lok86_2.body (e86b _) rfl h3
    · exact ok70 _ _ _ _ _ h1 h2 h3
  · exact ok70 _ _ _ _ _ h1 h2 h3

/-- laws.markFlat -/
noncomputable def r32b (x0 : Int) : Unit :=
 ()
noncomputable def a32b (x0 : Int) (p : Unit) : Res := firstT [(true, .int .i64 x0, st0)]
noncomputable def w32b (x0 : Int) : Res :=
 (a32b x0 ())
set_option maxRecDepth 100000 in
set_option maxHeartbeats 4000000 in
theorem e32b (x0 : Int) : evFn Try.prog ext T71 noL 200 Try.f32 [.agg #[.slice none 0 0, .slice none 0 0, .slice none 0 0, .slice none 0 0], .int .i64 x0] st0 = firstT [(true, .int .i64 x0, st0)] :=
 (show evFn Try.prog ext T71 noL 200 Try.f32 [.agg #[.slice none 0 0, .slice none 0 0, .slice none 0 0, .slice none 0 0], .int .i64 x0] st0 = w32b x0 from by kernel_rfl).trans
 (show w32b x0 = a32b x0 (r32b x0) from by unfold w32b r32b; exact rfl)
noncomputable def s32b (args : List Value) (s : St) : List (Bool × Value × St) :=
 match args, s.h with
 | [.agg ⟨[.slice none f0 f1, .slice none f2 f3, .slice none f4 f5, .slice none f6 f7]⟩, .int .i64 x0], [] => if f0 = 0 ∧ f1 = 0 ∧ f2 = 0 ∧ f3 = 0 ∧ f4 = 0 ∧ f5 = 0 ∧ f6 = 0 ∧ f7 = 0 then [(true, .int .i64 x0, st0)] else T71 32 args s
 | _, _ => T71 32 args s
noncomputable def T72 : CallF := addF T71 32 s32b
set_option maxRecDepth 100000 in
set_option maxHeartbeats 4000000 in
theorem ok72 : CfOk Try.prog T72 := by
  refine cfOk_add ok71 fun args s r s' h1 h2 h3 => ?_
  unfold s32b at h3; split at h3
  · rename_i h; split at h3
    · rename_i hc; obtain ⟨rfl, rfl, rfl, rfl, rfl, rfl, rfl, rfl⟩ := hc; exact callOk ok71 Try.func32 h1 h2 h (lfOkF_no _ _).body (e32b _) rfl h3
    · exact ok71 _ _ _ _ _ h1 h2 h3
  · exact ok71 _ _ _ _ _ h1 h2 h3

/-- laws.heldFloat32S, loop 0 -/
noncomputable def r34l0 (x0 : Int) : Unit :=
 ()
noncomputable def a34l0 (x0 : Int) (p : Unit) : Option (Fin' × List Value × St) := firstT ([(true, .exit 0, [.int .i64 x0, anyV], st0)].map fun (b, x) => (b, (x.1, frameOf 22 [1, 4] x.2.1, x.2.2)))
noncomputable def w34l0 (x0 : Int) : Option (Fin' × List Value × St) :=
 (a34l0 x0 ())
set_option maxRecDepth 100000 in
set_option maxHeartbeats 4000000 in
theorem e34l0 (x0 : Int) : evC Try.prog ext T72 noL 200 (loopN Try.f34 0) (loopTail ([0, 1, 5], []) [1, 4] [] (sumK 22 [0, 1, 5] [1, 4] noQ)) (frameOf 22 [0, 1, 5] [.slice none 0 0, .int .i64 x0, .int .i64 0]) ⟨[], 0, []⟩ = firstT ([(true, .exit 0, [.int .i64 x0, anyV], st0)].map fun (b, x) => (b, (x.1, frameOf 22 [1, 4] x.2.1, x.2.2))) :=
 (show evC Try.prog ext T72 noL 200 (loopN Try.f34 0) (loopTail ([0, 1, 5], []) [1, 4] [] (sumK 22 [0, 1, 5] [1, 4] noQ)) (frameOf 22 [0, 1, 5] [.slice none 0 0, .int .i64 x0, .int .i64 0]) ⟨[], 0, []⟩ = w34l0 x0 from by kernel_rfl).trans
 (show w34l0 x0 = a34l0 x0 (r34l0 x0) from by unfold w34l0 r34l0; exact rfl)
noncomputable def Q34l0 : SumK := fun vals s =>
 match vals, s.h with
 | [.slice none f0 f1, .int .i64 x0, .int .i64 f2], [] => if f0 = 0 ∧ f1 = 0 ∧ f2 = 0 then [(true, .exit 0, [.int .i64 x0, anyV], st0)] else noQ vals s
 | _, _ => noQ vals s
set_option maxRecDepth 100000 in
set_option maxHeartbeats 4000000 in
theorem qok34l0 : SumKOk Try.prog (loopN Try.f34 0) 22 [0, 1, 5] [1, 4] Q34l0 := by
  intro vals s x h1 h2 h3
  unfold Q34l0 at h3; split at h3
  · rename_i h; split at h3
    · rename_i hc; obtain ⟨rfl, rfl, rfl⟩ := hc; exact sum_step ok72 extOk mixed ((lfOkF_no _ _).inner (by kernel_rfl)) noQ_ok h1 h2 h (e34l0 _) rfl h3
    · exact noQ_ok _ _ _ h1 h2 h3
  · exact noQ_ok _ _ _ h1 h2 h3
noncomputable def L34_1 : LoopT := addL noL 3 ([0, 1, 5], []) (sumK 22 [0, 1, 5] [1, 4] Q34l0)
theorem lok34_1 : LfOkF Try.prog L34_1 Try.f34 := lfOkF_add (lfOkF_no _ _) qok34l0 (by kernel_rfl) (by kernel_rfl) (by kernel_rfl)

/-- laws.heldFloat32S -/
noncomputable def r34 (x0 : Int) : Unit :=
 ()
noncomputable def a34 (x0 : Int) (p : Unit) : Res := firstT [(true, .int .i64 x0, st0)]
noncomputable def w34 (x0 : Int) : Res :=
 (a34 x0 ())
set_option maxRecDepth 100000 in
set_option maxHeartbeats 4000000 in
theorem e34 (x0 : Int) : evFn Try.prog ext T72 L34_1 200 Try.f34 [.slice none 0 0, .int .i64 x0] st0 = firstT [(true, .int .i64 x0, st0)] :=
 (show evFn Try.prog ext T72 L34_1 200 Try.f34 [.slice none 0 0, .int .i64 x0] st0 = w34 x0 from by kernel_rfl).trans
 (show w34 x0 = a34 x0 (r34 x0) from by unfold w34 r34; exact rfl)
noncomputable def s34 (args : List Value) (s : St) : List (Bool × Value × St) :=
 match args, s.h with
 | [.slice none f0 f1, .int .i64 x0], [] => if f0 = 0 ∧ f1 = 0 then [(true, .int .i64 x0, st0)] else T72 34 args s
 | _, _ => T72 34 args s
noncomputable def T73 : CallF := addF T72 34 s34
set_option maxRecDepth 100000 in
set_option maxHeartbeats 4000000 in
theorem ok73 : CfOk Try.prog T73 := by
  refine cfOk_add ok72 fun args s r s' h1 h2 h3 => ?_
  unfold s34 at h3; split at h3
  · rename_i h; split at h3
    · rename_i hc; obtain ⟨rfl, rfl⟩ := hc; exact callOk ok72 Try.func34 h1 h2 h lok34_1.body (e34 _) rfl h3
    · exact ok72 _ _ _ _ _ h1 h2 h3
  · exact ok72 _ _ _ _ _ h1 h2 h3

/-- laws.heldWallS, loop 0 -/
noncomputable def r89l0 (x0 : Int) : Unit :=
 ()
noncomputable def a89l0 (x0 : Int) (p : Unit) : Option (Fin' × List Value × St) := firstT ([(true, .exit 0, [.int .i64 x0, anyV], st0)].map fun (b, x) => (b, (x.1, frameOf 68 [1, 4] x.2.1, x.2.2)))
noncomputable def w89l0 (x0 : Int) : Option (Fin' × List Value × St) :=
 (a89l0 x0 ())
set_option maxRecDepth 100000 in
set_option maxHeartbeats 4000000 in
theorem e89l0 (x0 : Int) : evC Try.prog ext T73 noL 200 (loopN Try.f89 0) (loopTail ([0, 1, 5], []) [1, 4] [] (sumK 68 [0, 1, 5] [1, 4] noQ)) (frameOf 68 [0, 1, 5] [.slice none 0 0, .int .i64 x0, .int .i64 0]) ⟨[], 0, []⟩ = firstT ([(true, .exit 0, [.int .i64 x0, anyV], st0)].map fun (b, x) => (b, (x.1, frameOf 68 [1, 4] x.2.1, x.2.2))) :=
 (show evC Try.prog ext T73 noL 200 (loopN Try.f89 0) (loopTail ([0, 1, 5], []) [1, 4] [] (sumK 68 [0, 1, 5] [1, 4] noQ)) (frameOf 68 [0, 1, 5] [.slice none 0 0, .int .i64 x0, .int .i64 0]) ⟨[], 0, []⟩ = w89l0 x0 from by kernel_rfl).trans
 (show w89l0 x0 = a89l0 x0 (r89l0 x0) from by unfold w89l0 r89l0; exact rfl)
noncomputable def Q89l0 : SumK := fun vals s =>
 match vals, s.h with
 | [.slice none f0 f1, .int .i64 x0, .int .i64 f2], [] => if f0 = 0 ∧ f1 = 0 ∧ f2 = 0 then [(true, .exit 0, [.int .i64 x0, anyV], st0)] else noQ vals s
 | _, _ => noQ vals s
set_option maxRecDepth 100000 in
set_option maxHeartbeats 4000000 in
theorem qok89l0 : SumKOk Try.prog (loopN Try.f89 0) 68 [0, 1, 5] [1, 4] Q89l0 := by
  intro vals s x h1 h2 h3
  unfold Q89l0 at h3; split at h3
  · rename_i h; split at h3
    · rename_i hc; obtain ⟨rfl, rfl, rfl⟩ := hc; exact sum_step ok73 extOk mixed ((lfOkF_no _ _).inner (by kernel_rfl)) noQ_ok h1 h2 h (e89l0 _) rfl h3
    · exact noQ_ok _ _ _ h1 h2 h3
  · exact noQ_ok _ _ _ h1 h2 h3
noncomputable def L89_1 : LoopT := addL noL 3 ([0, 1, 5], []) (sumK 68 [0, 1, 5] [1, 4] Q89l0)
theorem lok89_1 : LfOkF Try.prog L89_1 Try.f89 := lfOkF_add (lfOkF_no _ _) qok89l0 (by kernel_rfl) (by kernel_rfl) (by kernel_rfl)

/-- laws.heldWallS -/
noncomputable def r89 (x0 : Int) : Unit :=
 ()
noncomputable def a89 (x0 : Int) (p : Unit) : Res := firstT [(true, .int .i64 x0, st0)]
noncomputable def w89 (x0 : Int) : Res :=
 (a89 x0 ())
set_option maxRecDepth 100000 in
set_option maxHeartbeats 4000000 in
theorem e89 (x0 : Int) : evFn Try.prog ext T73 L89_1 200 Try.f89 [.slice none 0 0, .int .i64 x0] st0 = firstT [(true, .int .i64 x0, st0)] :=
 (show evFn Try.prog ext T73 L89_1 200 Try.f89 [.slice none 0 0, .int .i64 x0] st0 = w89 x0 from by kernel_rfl).trans
 (show w89 x0 = a89 x0 (r89 x0) from by unfold w89 r89; exact rfl)
noncomputable def s89 (args : List Value) (s : St) : List (Bool × Value × St) :=
 match args, s.h with
 | [.slice none f0 f1, .int .i64 x0], [] => if f0 = 0 ∧ f1 = 0 then [(true, .int .i64 x0, st0)] else T73 89 args s
 | _, _ => T73 89 args s
noncomputable def T74 : CallF := addF T73 89 s89
set_option maxRecDepth 100000 in
set_option maxHeartbeats 4000000 in
theorem ok74 : CfOk Try.prog T74 := by
  refine cfOk_add ok73 fun args s r s' h1 h2 h3 => ?_
  unfold s89 at h3; split at h3
  · rename_i h; split at h3
    · rename_i hc; obtain ⟨rfl, rfl⟩ := hc; exact callOk ok73 Try.func89 h1 h2 h lok89_1.body (e89 _) rfl h3
    · exact ok73 _ _ _ _ _ h1 h2 h3
  · exact ok73 _ _ _ _ _ h1 h2 h3

/-- laws.heldPaneS, loop 0 -/
noncomputable def r90l0 (x0 : Int) : Unit :=
 ()
noncomputable def a90l0 (x0 : Int) (p : Unit) : Option (Fin' × List Value × St) := firstT ([(true, .exit 0, [.int .i64 x0, anyV], st0)].map fun (b, x) => (b, (x.1, frameOf 51 [1, 4] x.2.1, x.2.2)))
noncomputable def w90l0 (x0 : Int) : Option (Fin' × List Value × St) :=
 (a90l0 x0 ())
set_option maxRecDepth 100000 in
set_option maxHeartbeats 4000000 in
theorem e90l0 (x0 : Int) : evC Try.prog ext T74 noL 200 (loopN Try.f90 0) (loopTail ([0, 1, 5], []) [1, 4] [] (sumK 51 [0, 1, 5] [1, 4] noQ)) (frameOf 51 [0, 1, 5] [.slice none 0 0, .int .i64 x0, .int .i64 0]) ⟨[], 0, []⟩ = firstT ([(true, .exit 0, [.int .i64 x0, anyV], st0)].map fun (b, x) => (b, (x.1, frameOf 51 [1, 4] x.2.1, x.2.2))) :=
 (show evC Try.prog ext T74 noL 200 (loopN Try.f90 0) (loopTail ([0, 1, 5], []) [1, 4] [] (sumK 51 [0, 1, 5] [1, 4] noQ)) (frameOf 51 [0, 1, 5] [.slice none 0 0, .int .i64 x0, .int .i64 0]) ⟨[], 0, []⟩ = w90l0 x0 from by kernel_rfl).trans
 (show w90l0 x0 = a90l0 x0 (r90l0 x0) from by unfold w90l0 r90l0; exact rfl)
noncomputable def Q90l0 : SumK := fun vals s =>
 match vals, s.h with
 | [.slice none f0 f1, .int .i64 x0, .int .i64 f2], [] => if f0 = 0 ∧ f1 = 0 ∧ f2 = 0 then [(true, .exit 0, [.int .i64 x0, anyV], st0)] else noQ vals s
 | _, _ => noQ vals s
set_option maxRecDepth 100000 in
set_option maxHeartbeats 4000000 in
theorem qok90l0 : SumKOk Try.prog (loopN Try.f90 0) 51 [0, 1, 5] [1, 4] Q90l0 := by
  intro vals s x h1 h2 h3
  unfold Q90l0 at h3; split at h3
  · rename_i h; split at h3
    · rename_i hc; obtain ⟨rfl, rfl, rfl⟩ := hc; exact sum_step ok74 extOk mixed ((lfOkF_no _ _).inner (by kernel_rfl)) noQ_ok h1 h2 h (e90l0 _) rfl h3
    · exact noQ_ok _ _ _ h1 h2 h3
  · exact noQ_ok _ _ _ h1 h2 h3
noncomputable def L90_1 : LoopT := addL noL 3 ([0, 1, 5], []) (sumK 51 [0, 1, 5] [1, 4] Q90l0)
theorem lok90_1 : LfOkF Try.prog L90_1 Try.f90 := lfOkF_add (lfOkF_no _ _) qok90l0 (by kernel_rfl) (by kernel_rfl) (by kernel_rfl)

/-- laws.heldPaneS -/
noncomputable def r90 (x0 : Int) : Unit :=
 ()
noncomputable def a90 (x0 : Int) (p : Unit) : Res := firstT [(true, .int .i64 x0, st0)]
noncomputable def w90 (x0 : Int) : Res :=
 (a90 x0 ())
set_option maxRecDepth 100000 in
set_option maxHeartbeats 4000000 in
theorem e90 (x0 : Int) : evFn Try.prog ext T74 L90_1 200 Try.f90 [.slice none 0 0, .int .i64 x0] st0 = firstT [(true, .int .i64 x0, st0)] :=
 (show evFn Try.prog ext T74 L90_1 200 Try.f90 [.slice none 0 0, .int .i64 x0] st0 = w90 x0 from by kernel_rfl).trans
 (show w90 x0 = a90 x0 (r90 x0) from by unfold w90 r90; exact rfl)
noncomputable def s90 (args : List Value) (s : St) : List (Bool × Value × St) :=
 match args, s.h with
 | [.slice none f0 f1, .int .i64 x0], [] => if f0 = 0 ∧ f1 = 0 then [(true, .int .i64 x0, st0)] else T74 90 args s
 | _, _ => T74 90 args s
noncomputable def T75 : CallF := addF T74 90 s90
set_option maxRecDepth 100000 in
set_option maxHeartbeats 4000000 in
theorem ok75 : CfOk Try.prog T75 := by
  refine cfOk_add ok74 fun args s r s' h1 h2 h3 => ?_
  unfold s90 at h3; split at h3
  · rename_i h; split at h3
    · rename_i hc; obtain ⟨rfl, rfl⟩ := hc; exact callOk ok74 Try.func90 h1 h2 h lok90_1.body (e90 _) rfl h3
    · exact ok74 _ _ _ _ _ h1 h2 h3
  · exact ok74 _ _ _ _ _ h1 h2 h3

/-- laws.heldFlat -/
noncomputable def r37 (x0 : Int) : Int :=
 cond (decide ((x0 : Int) < 0)) ((-1)) (x0)
noncomputable def a37 (x0 : Int) (p : Int) : Res := firstT [(true, .int .i64 p, st0)]
noncomputable def w37 (x0 : Int) : Res :=
 (cond (decide ((x0 : Int) < 0))
 (a37 x0 ((-1)))
 (cond (decide ((x0 : Int) < 0)) (some (.int .i64 (-1), st0)) (cond (decide ((x0 : Int) < 0)) (some (.int .i64 (-1), st0)) (cond (decide ((x0 : Int) < 0)) (some (.int .i64 (-1), st0)) (a37 x0 (x0))))))
set_option maxRecDepth 100000 in
set_option maxHeartbeats 4000000 in
theorem e37 (x0 : Int) : evFn Try.prog ext T75 noL 200 Try.f37 [.agg #[.slice none 0 0, .slice none 0 0, .slice none 0 0, .slice none 0 0], .int .i64 x0] st0 = firstT [(true, .int .i64 (r37 x0), st0)] :=
 (show evFn Try.prog ext T75 noL 200 Try.f37 [.agg #[.slice none 0 0, .slice none 0 0, .slice none 0 0, .slice none 0 0], .int .i64 x0] st0 = w37 x0 from by kernel_rfl).trans
 (show w37 x0 = a37 x0 (r37 x0) from by unfold w37 r37; exact (cond_both (a37 x0) _ (fun h0 => rfl) (fun h0 => (cond_f h0 (cond_f h0 (cond_f h0 rfl))))))
noncomputable def s37 (args : List Value) (s : St) : List (Bool × Value × St) :=
 match args, s.h with
 | [.agg ⟨[.slice none f0 f1, .slice none f2 f3, .slice none f4 f5, .slice none f6 f7]⟩, .int .i64 x0], [] => if f0 = 0 ∧ f1 = 0 ∧ f2 = 0 ∧ f3 = 0 ∧ f4 = 0 ∧ f5 = 0 ∧ f6 = 0 ∧ f7 = 0 then [(true, .int .i64 (r37 x0), st0)] else T75 37 args s
 | _, _ => T75 37 args s
noncomputable def T76 : CallF := addF T75 37 s37
set_option maxRecDepth 100000 in
set_option maxHeartbeats 4000000 in
theorem ok76 : CfOk Try.prog T76 := by
  refine cfOk_add ok75 fun args s r s' h1 h2 h3 => ?_
  unfold s37 at h3; split at h3
  · rename_i h; split at h3
    · rename_i hc; obtain ⟨rfl, rfl, rfl, rfl, rfl, rfl, rfl, rfl⟩ := hc; exact callOk ok75 Try.func37 h1 h2 h (lfOkF_no _ _).body (e37 _) rfl h3
    · exact ok75 _ _ _ _ _ h1 h2 h3
  · exact ok75 _ _ _ _ _ h1 h2 h3

/-- laws.eqFloat32S, loop 0 -/
noncomputable def r31l0c (x0 : List (List Int)) : Nat :=
 cond (decide ((0 : Int) < ((x0.length : Nat) : Int))) (cond (Nat.blt 0 x0.length) (1) (1)) (0)
noncomputable def a31l0c (x0 : List (List Int)) (p : Nat) : Option (Fin' × List Value × St) := firstT ([((Nat.beq p 0), .exit 0, [anyV], ⟨[⟨true, (some (.tab [.fl .f32] x0))⟩], 1, []⟩)].map fun (b, x) => (b, (x.1, frameOf 29 [4] x.2.1, x.2.2)))
noncomputable def w31l0c (x0 : List (List Int)) : Option (Fin' × List Value × St) :=
 (cond (decide ((0 : Int) < ((x0.length : Nat) : Int)))
 (cond (Nat.blt 0 x0.length) (cond (Nat.blt 0 x0.length) none none) none)
 (a31l0c x0 (0)))
set_option maxRecDepth 100000 in
set_option maxHeartbeats 4000000 in
theorem e31l0c (x0 : List (List Int)) : evC Try.prog ext T76 L31_2 200 (loopN Try.f31 0) (loopTail ([0, 1, 5], []) [4] [] (sumK 29 [0, 1, 5] [4] Q31l0b)) (frameOf 29 [0, 1, 5] [wsl 0, .slice none 0 0, .int .i64 0]) ⟨[⟨true, (some (.tab [.fl .f32] x0))⟩], 1, []⟩ = firstT ([((Nat.beq (r31l0c x0) 0), .exit 0, [anyV], ⟨[⟨true, (some (.tab [.fl .f32] x0))⟩], 1, []⟩)].map fun (b, x) => (b, (x.1, frameOf 29 [4] x.2.1, x.2.2))) :=
 (show evC Try.prog ext T76 L31_2 200 (loopN Try.f31 0) (loopTail ([0, 1, 5], []) [4] [] (sumK 29 [0, 1, 5] [4] Q31l0b)) (frameOf 29 [0, 1, 5] [wsl 0, .slice none 0 0, .int .i64 0]) ⟨[⟨true, (some (.tab [.fl .f32] x0))⟩], 1, []⟩ = w31l0c x0 from by kernel_rfl).trans
 (show w31l0c x0 = a31l0c x0 (r31l0c x0) from by unfold w31l0c r31l0c; exact (cond_both (a31l0c x0) _ (fun h0 => (cond_both (a31l0c x0) _ (fun h1 => (cond_t h1 rfl)) (fun h1 => rfl))) (fun h0 => rfl)))
noncomputable def Q31l0c : SumK := fun vals s =>
 match vals, s.h with
 | [.iface f0 .nilIface, .slice none f1 f2, .int .i64 f3], [⟨true, some (.tab [.fl .f32] x0)⟩] => if f0 = 0 ∧ f1 = 0 ∧ f2 = 0 ∧ f3 = 0 then [((Nat.beq (r31l0c x0) 0), .exit 0, [anyV], ⟨[⟨true, (some (.tab [.fl .f32] x0))⟩], 1, []⟩)] else Q31l0b vals s
 | _, _ => Q31l0b vals s
set_option maxRecDepth 100000 in
set_option maxHeartbeats 4000000 in
theorem qok31l0c : SumKOk Try.prog (loopN Try.f31 0) 29 [0, 1, 5] [4] Q31l0c := by
  intro vals s x h1 h2 h3
  unfold Q31l0c at h3; split at h3
  · rename_i h; split at h3
    · rename_i hc; obtain ⟨rfl, rfl, rfl, rfl⟩ := hc; exact sum_step ok76 extOk mixed (lok31_2.inner (by kernel_rfl)) qok31l0b h1 h2 h (e31l0c _) rfl h3
    · exact qok31l0b _ _ _ h1 h2 h3
  · exact qok31l0b _ _ _ h1 h2 h3
noncomputable def L31_3 : LoopT := addL L31_2 5 ([0, 1, 5], []) (sumK 29 [0, 1, 5] [4] Q31l0c)
theorem lok31_3 : LfOkF Try.prog L31_3 Try.f31 := lfOkF_add lok31_2 qok31l0c (by kernel_rfl) (by kernel_rfl) (by kernel_rfl)

/-- laws.eqFloat32S -/
noncomputable def r31c (x0 : List (List Int)) : Nat × Bool :=
 cond ((((x0.length : Nat) : Int) : Int) != 0) (0, false) (cond (Nat.beq (r31l0c x0) 0) (0, true) (1, false))
noncomputable def a31c (x0 : List (List Int)) (p : Nat × Bool) : Res := firstT [((Nat.beq (p.1) 0), .bool (p.2), ⟨[⟨true, (some (.tab [.fl .f32] x0))⟩], 1, []⟩)]
noncomputable def w31c (x0 : List (List Int)) : Res :=
 (cond ((((x0.length : Nat) : Int) : Int) != 0)
 (a31c x0 (0, false))
 (cond (Nat.beq (r31l0c x0) 0) (a31c x0 (0, true)) none))
set_option maxRecDepth 100000 in
set_option maxHeartbeats 4000000 in
theorem e31c (x0 : List (List Int)) : evFn Try.prog ext T76 L31_3 200 Try.f31 [wsl 0, .slice none 0 0] ⟨[⟨true, (some (.tab [.fl .f32] x0))⟩], 1, []⟩ = firstT [((Nat.beq ((r31c x0).1) 0), .bool ((r31c x0).2), ⟨[⟨true, (some (.tab [.fl .f32] x0))⟩], 1, []⟩)] :=
 (show evFn Try.prog ext T76 L31_3 200 Try.f31 [wsl 0, .slice none 0 0] ⟨[⟨true, (some (.tab [.fl .f32] x0))⟩], 1, []⟩ = w31c x0 from by kernel_rfl).trans
 (show w31c x0 = a31c x0 (r31c x0) from by unfold w31c r31c; exact (cond_app (a31c x0) _ rfl (cond_app (a31c x0) _ rfl rfl)))
noncomputable def s31c (args : List Value) (s : St) : List (Bool × Value × St) :=
 match args, s.h with
 | [.iface f0 .nilIface, .slice none f1 f2], [⟨true, some (.tab [.fl .f32] x0)⟩] => if f0 = 0 ∧ f1 = 0 ∧ f2 = 0 then [((Nat.beq ((r31c x0).1) 0), .bool ((r31c x0).2), ⟨[⟨true, (some (.tab [.fl .f32] x0))⟩], 1, []⟩)] else T76 31 args s
 | _, _ => T76 31 args s
noncomputable def T77 : CallF := addF T76 31 s31c
set_option maxRecDepth 100000 in
set_option maxHeartbeats 4000000 in
theorem ok77 : CfOk Try.prog T77 := by
  refine cfOk_add ok76 fun args s r s' h1 h2 h3 => ?_
  unfold s31c at h3; split at h3
  · rename_i h; split at h3
    · rename_i hc; obtain ⟨rfl, rfl, rfl⟩ := hc; exact callOk ok76 Try.func31 h1 h2 h lok31_3.body (e31c _) rfl h3
    · exact ok76 _ _ _ _ _ h1 h2 h3
  · exact ok76 _ _ _ _ _ h1 h2 h3

/-- laws.eqWallS, loop 0 -/
noncomputable def r81l0c (x0 : List (List Int)) : Nat :=
 cond (decide ((0 : Int) < ((x0.length : Nat) : Int))) (cond (Nat.blt 0 x0.length) (1) (1)) (0)
noncomputable def a81l0c (x0 : List (List Int)) (p : Nat) : Option (Fin' × List Value × St) := firstT ([((Nat.beq p 0), .exit 0, [anyV], ⟨[⟨true, (some (.tab sc0 x0))⟩], 1, []⟩)].map fun (b, x) => (b, (x.1, frameOf 27 [4] x.2.1, x.2.2)))
noncomputable def w81l0c (x0 : List (List Int)) : Option (Fin' × List Value × St) :=
 (cond (decide ((0 : Int) < ((x0.length : Nat) : Int)))
 (cond (Nat.blt 0 x0.length) (cond (Nat.blt 0 x0.length) none none) none)
 (a81l0c x0 (0)))
set_option maxRecDepth 100000 in
set_option maxHeartbeats 4000000 in
theorem e81l0c (x0 : List (List Int)) : evC Try.prog ext T77 L81_2 200 (loopN Try.f81 0) (loopTail ([0, 1, 5], []) [4] [] (sumK 27 [0, 1, 5] [4] Q81l0b)) (frameOf 27 [0, 1, 5] [wsl 0, .slice none 0 0, .int .i64 0]) ⟨[⟨true, (some (.tab sc0 x0))⟩], 1, []⟩ = firstT ([((Nat.beq (r81l0c x0) 0), .exit 0, [anyV], ⟨[⟨true, (some (.tab sc0 x0))⟩], 1, []⟩)].map fun (b, x) => (b, (x.1, frameOf 27 [4] x.2.1, x.2.2))) :=
 (show evC Try.prog ext T77 L81_2 200 (loopN Try.f81 0) (loopTail ([0, 1, 5], []) [4] [] (sumK 27 [0, 1, 5] [4] Q81l0b)) (frameOf 27 [0, 1, 5] [wsl 0, .slice none 0 0, .int .i64 0]) ⟨[⟨true, (some (.tab sc0 x0))⟩], 1, []⟩ = w81l0c x0 from by kernel_rfl).trans
 (show w81l0c x0 = a81l0c x0 (r81l0c x0) from by unfold w81l0c r81l0c; exact (cond_both (a81l0c x0) _ (fun h0 => (cond_both (a81l0c x0) _ (fun h1 => (cond_t h1 rfl)) (fun h1 => rfl))) (fun h0 => rfl)))
noncomputable def Q81l0c : SumK := fun vals s =>
 match vals, s.h with
 | [.iface f0 .nilIface, .slice none f1 f2, .int .i64 f3], [⟨true, some (.tab [.int .i64, .int .i64, .fl .f32, .fl .f32, .fl .f32, .fl .f32, .fl .f32, .fl .f32] x0)⟩] => if f0 = 0 ∧ f1 = 0 ∧ f2 = 0 ∧ f3 = 0 then [((Nat.beq (r81l0c x0) 0), .exit 0, [anyV], ⟨[⟨true, (some (.tab sc0 x0))⟩], 1, []⟩)] else Q81l0b vals s
 | _, _ => Q81l0b vals s
set_option maxRecDepth 100000 in
set_option maxHeartbeats 4000000 in
theorem qok81l0c : SumKOk Try.prog (loopN Try.f81 0) 27 [0, 1, 5] [4] Q81l0c := by
  intro vals s x h1 h2 h3
  unfold Q81l0c at h3; split at h3
  · rename_i h; split at h3
    · rename_i hc; obtain ⟨rfl, rfl, rfl, rfl⟩ := hc; exact sum_step ok77 extOk mixed (lok81_2.inner (by kernel_rfl)) qok81l0b h1 h2 h (e81l0c _) rfl h3
    · exact qok81l0b _ _ _ h1 h2 h3
  · exact qok81l0b _ _ _ h1 h2 h3
noncomputable def L81_3 : LoopT := addL L81_2 5 ([0, 1, 5], []) (sumK 27 [0, 1, 5] [4] Q81l0c)
theorem lok81_3 : LfOkF Try.prog L81_3 Try.f81 := lfOkF_add lok81_2 qok81l0c (by kernel_rfl) (by kernel_rfl) (by kernel_rfl)

/-- laws.eqWallS -/
noncomputable def r81c (x0 : List (List Int)) : Nat × Bool :=
 cond ((((x0.length : Nat) : Int) : Int) != 0) (0, false) (cond (Nat.beq (r81l0c x0) 0) (0, true) (1, false))
noncomputable def a81c (x0 : List (List Int)) (p : Nat × Bool) : Res := firstT [((Nat.beq (p.1) 0), .bool (p.2), ⟨[⟨true, (some (.tab sc0 x0))⟩], 1, []⟩)]
noncomputable def w81c (x0 : List (List Int)) : Res :=
 (cond ((((x0.length : Nat) : Int) : Int) != 0)
 (a81c x0 (0, false))
 (cond (Nat.beq (r81l0c x0) 0) (a81c x0 (0, true)) none))
set_option maxRecDepth 100000 in
set_option maxHeartbeats 4000000 in
theorem e81c (x0 : List (List Int)) : evFn Try.prog ext T77 L81_3 200 Try.f81 [wsl 0, .slice none 0 0] ⟨[⟨true, (some (.tab sc0 x0))⟩], 1, []⟩ = firstT [((Nat.beq ((r81c x0).1) 0), .bool ((r81c x0).2), ⟨[⟨true, (some (.tab sc0 x0))⟩], 1, []⟩)] :=
 (show evFn Try.prog ext T77 L81_3 200 Try.f81 [wsl 0, .slice none 0 0] ⟨[⟨true, (some (.tab sc0 x0))⟩], 1, []⟩ = w81c x0 from by kernel_rfl).trans
 (show w81c x0 = a81c x0 (r81c x0) from by unfold w81c r81c; exact (cond_app (a81c x0) _ rfl (cond_app (a81c x0) _ rfl rfl)))
noncomputable def s81c (args : List Value) (s : St) : List (Bool × Value × St) :=
 match args, s.h with
 | [.iface f0 .nilIface, .slice none f1 f2], [⟨true, some (.tab [.int .i64, .int .i64, .fl .f32, .fl .f32, .fl .f32, .fl .f32, .fl .f32, .fl .f32] x0)⟩] => if f0 = 0 ∧ f1 = 0 ∧ f2 = 0 then [((Nat.beq ((r81c x0).1) 0), .bool ((r81c x0).2), ⟨[⟨true, (some (.tab sc0 x0))⟩], 1, []⟩)] else T77 81 args s
 | _, _ => T77 81 args s
noncomputable def T78 : CallF := addF T77 81 s81c
set_option maxRecDepth 100000 in
set_option maxHeartbeats 4000000 in
theorem ok78 : CfOk Try.prog T78 := by
  refine cfOk_add ok77 fun args s r s' h1 h2 h3 => ?_
  unfold s81c at h3; split at h3
  · rename_i h; split at h3
    · rename_i hc; obtain ⟨rfl, rfl, rfl⟩ := hc; exact callOk ok77 Try.func81 h1 h2 h lok81_3.body (e81c _) rfl h3
    · exact ok77 _ _ _ _ _ h1 h2 h3
  · exact ok77 _ _ _ _ _ h1 h2 h3

/-- laws.eqPaneS, loop 0 -/
noncomputable def r82l0c (x0 : List (List Int)) : Nat :=
 cond (decide ((0 : Int) < ((x0.length : Nat) : Int))) (cond (Nat.blt 0 x0.length) (1) (1)) (0)
noncomputable def a82l0c (x0 : List (List Int)) (p : Nat) : Option (Fin' × List Value × St) := firstT ([((Nat.beq p 0), .exit 0, [anyV], ⟨[⟨true, (some (.tab sc1 x0))⟩], 1, []⟩)].map fun (b, x) => (b, (x.1, frameOf 27 [4] x.2.1, x.2.2)))
noncomputable def w82l0c (x0 : List (List Int)) : Option (Fin' × List Value × St) :=
 (cond (decide ((0 : Int) < ((x0.length : Nat) : Int)))
 (cond (Nat.blt 0 x0.length) (cond (Nat.blt 0 x0.length) none none) none)
 (a82l0c x0 (0)))
set_option maxRecDepth 100000 in
set_option maxHeartbeats 4000000 in
theorem e82l0c (x0 : List (List Int)) : evC Try.prog ext T78 L82_2 200 (loopN Try.f82 0) (loopTail ([0, 1, 5], []) [4] [] (sumK 27 [0, 1, 5] [4] Q82l0b)) (frameOf 27 [0, 1, 5] [wsl 0, .slice none 0 0, .int .i64 0]) ⟨[⟨true, (some (.tab sc1 x0))⟩], 1, []⟩ = firstT ([((Nat.beq (r82l0c x0) 0), .exit 0, [anyV], ⟨[⟨true, (some (.tab sc1 x0))⟩], 1, []⟩)].map fun (b, x) => (b, (x.1, frameOf 27 [4] x.2.1, x.2.2))) :=
 (show evC Try.prog ext T78 L82_2 200 (loopN Try.f82 0) (loopTail ([0, 1, 5], []) [4] [] (sumK 27 [0, 1, 5] [4] Q82l0b)) (frameOf 27 [0, 1, 5] [wsl 0, .slice none 0 0, .int .i64 0]) ⟨[⟨true, (some (.tab sc1 x0))⟩], 1, []⟩ = w82l0c x0 from by kernel_rfl).trans
 (show w82l0c x0 = a82l0c x0 (r82l0c x0) from by unfold w82l0c r82l0c; exact (cond_both (a82l0c x0) _ (fun h0 => (cond_both (a82l0c x0) _ (fun h1 => (cond_t h1 rfl)) (fun h1 => rfl))) (fun h0 => rfl)))
noncomputable def Q82l0c : SumK := fun vals s =>
 match vals, s.h with
 | [.iface f0 .nilIface, .slice none f1 f2, .int .i64 f3], [⟨true, some (.tab [.int .i64, .int .i64, .fl .f32, .fl .f32] x0)⟩] => if f0 = 0 ∧ f1 = 0 ∧ f2 = 0 ∧ f3 = 0 then [((Nat.beq (r82l0c x0) 0), .exit 0, [anyV], ⟨[⟨true, (some (.tab sc1 x0))⟩], 1, []⟩)] else Q82l0b vals s
 | _, _ => Q82l0b vals s
set_option maxRecDepth 100000 in
set_option maxHeartbeats 4000000 in
theorem qok82l0c : SumKOk Try.prog (loopN Try.f82 0) 27 [0, 1, 5] [4] Q82l0c := by
  intro vals s x h1 h2 h3
  unfold Q82l0c at h3; split at h3
  · rename_i h; split at h3
    · rename_i hc; obtain ⟨rfl, rfl, rfl, rfl⟩ := hc; exact sum_step ok78 extOk mixed (lok82_2.inner (by kernel_rfl)) qok82l0b h1 h2 h (e82l0c _) rfl h3
    · exact qok82l0b _ _ _ h1 h2 h3
  · exact qok82l0b _ _ _ h1 h2 h3
noncomputable def L82_3 : LoopT := addL L82_2 5 ([0, 1, 5], []) (sumK 27 [0, 1, 5] [4] Q82l0c)
theorem lok82_3 : LfOkF Try.prog L82_3 Try.f82 := lfOkF_add lok82_2 qok82l0c (by kernel_rfl) (by kernel_rfl) (by kernel_rfl)

/-- laws.eqPaneS -/
noncomputable def r82c (x0 : List (List Int)) : Nat × Bool :=
 cond ((((x0.length : Nat) : Int) : Int) != 0) (0, false) (cond (Nat.beq (r82l0c x0) 0) (0, true) (1, false))
noncomputable def a82c (x0 : List (List Int)) (p : Nat × Bool) : Res := firstT [((Nat.beq (p.1) 0), .bool (p.2), ⟨[⟨true, (some (.tab sc1 x0))⟩], 1, []⟩)]
noncomputable def w82c (x0 : List (List Int)) : Res :=
 (cond ((((x0.length : Nat) : Int) : Int) != 0)
 (a82c x0 (0, false))
 (cond (Nat.beq (r82l0c x0) 0) (a82c x0 (0, true)) none))
set_option maxRecDepth 100000 in
set_option maxHeartbeats 4000000 in
theorem e82c (x0 : List (List Int)) : evFn Try.prog ext T78 L82_3 200 Try.f82 [wsl 0, .slice none 0 0] ⟨[⟨true, (some (.tab sc1 x0))⟩], 1, []⟩ = firstT [((Nat.beq ((r82c x0).1) 0), .bool ((r82c x0).2), ⟨[⟨true, (some (.tab sc1 x0))⟩], 1, []⟩)] :=
 (show evFn Try.prog ext T78 L82_3 200 Try.f82 [wsl 0, .slice none 0 0] ⟨[⟨true, (some (.tab sc1 x0))⟩], 1, []⟩ = w82c x0 from by kernel_rfl).trans
 (show w82c x0 = a82c x0 (r82c x0) from by unfold w82c r82c; exact (cond_app (a82c x0) _ rfl (cond_app (a82c x0) _ rfl rfl)))
noncomputable def s82c (args : List Value) (s : St) : List (Bool × Value × St) :=
 match args, s.h with
 | [.iface f0 .nilIface, .slice none f1 f2], [⟨true, some (.tab [.int .i64, .int .i64, .fl .f32, .fl .f32] x0)⟩] => if f0 = 0 ∧ f1 = 0 ∧ f2 = 0 then [((Nat.beq ((r82c x0).1) 0), .bool ((r82c x0).2), ⟨[⟨true, (some (.tab sc1 x0))⟩], 1, []⟩)] else T78 82 args s
 | _, _ => T78 82 args s
noncomputable def T79 : CallF := addF T78 82 s82c
set_option maxRecDepth 100000 in
set_option maxHeartbeats 4000000 in
theorem ok79 : CfOk Try.prog T79 := by
  refine cfOk_add ok78 fun args s r s' h1 h2 h3 => ?_
  unfold s82c at h3; split at h3
  · rename_i h; split at h3
    · rename_i hc; obtain ⟨rfl, rfl, rfl⟩ := hc; exact callOk ok78 Try.func82 h1 h2 h lok82_3.body (e82c _) rfl h3
    · exact ok78 _ _ _ _ _ h1 h2 h3
  · exact ok78 _ _ _ _ _ h1 h2 h3

/-- laws.eqFlat -/
noncomputable def r28c (x0 x1 x2 x3 : List (List Int)) : Nat × Bool :=
 cond (Nat.beq ((r31c x0).1) 0) (cond (!((r31c x0).2)) (0, false) (cond (Nat.beq ((r31c x1).1) 0) (cond (!((r31c x1).2)) (0, false) (cond (Nat.beq ((r81c x2).1) 0) (cond (!((r81c x2).2)) (0, false) (cond (Nat.beq ((r82c x3).1) 0) (cond (!((r82c x3).2)) (0, false) (0, true)) (1, false))) (1, false))) (1, false))) (1, false)
noncomputable def a28c (x0 x1 x2 x3 : List (List Int)) (p : Nat × Bool) : Res := firstT [((Nat.beq (p.1) 0), .bool (p.2), ⟨[⟨true, (some (.tab [.fl .f32] x0))⟩, ⟨true, (some (.tab [.fl .f32] x1))⟩, ⟨true, (some (.tab sc0 x2))⟩, ⟨true, (some (.tab sc1 x3))⟩], 4, []⟩)]
noncomputable def w28c (x0 x1 x2 x3 : List (List Int)) : Res :=
 (cond (Nat.beq ((r31c x0).1) 0)
 (cond (!((r31c x0).2)) (a28c x0 x1 x2 x3 (0, false)) (cond (Nat.beq ((r31c x1).1) 0) (cond (!((r31c x1).2)) (a28c x0 x1 x2 x3 (0, false)) (cond (Nat.beq ((r81c x2).1) 0) (cond (!((r81c x2).2)) (a28c x0 x1 x2 x3 (0, false)) (cond (Nat.beq ((r82c x3).1) 0) (cond (!((r82c x3).2)) (a28c x0 x1 x2 x3 (0, false)) (a28c x0 x1 x2 x3 (0, true))) none)) none)) none))
 none)
set_option maxRecDepth 100000 in
set_option maxHeartbeats 4000000 in
theorem e28c (x0 x1 x2 x3 : List (List Int)) : evFn Try.prog ext T79 noL 200 Try.f28 [.agg #[wsl 0, wsl 1, wsl 2, wsl 3], .agg #[.slice none 0 0, .slice none 0 0, .slice none 0 0, .slice none 0 0]] ⟨[⟨true, (some (.tab [.fl .f32] x0))⟩, ⟨true, (some (.tab [.fl .f32] x1))⟩, ⟨true, (some (.tab sc0 x2))⟩, ⟨true, (some (.tab sc1 x3))⟩], 4, []⟩ = firstT [((Nat.beq ((r28c x0 x1 x2 x3).1) 0), .bool ((r28c x0 x1 x2 x3).2), ⟨[⟨true, (some (.tab [.fl .f32] x0))⟩, ⟨true, (some (.tab [.fl .f32] x1))⟩, ⟨true, (some (.tab sc0 x2))⟩, ⟨true, (some (.tab sc1 x3))⟩], 4, []⟩)] :=
 (show evFn Try.prog ext T79 noL 200 Try.f28 [.agg #[wsl 0, wsl 1, wsl 2, wsl 3], .agg #[.slice none 0 0, .slice none 0 0, .slice none 0 0, .slice none 0 0]] ⟨[⟨true, (some (.tab [.fl .f32] x0))⟩, ⟨true, (some (.tab [.fl .f32] x1))⟩, ⟨true, (some (.tab sc0 x2))⟩, ⟨true, (some (.tab sc1 x3))⟩], 4, []⟩ = w28c x0 x1 x2 x3 from by kernel_rfl).trans
 (show w28c x0 x1 x2 x3 = a28c x0 x1 x2 x3 (r28c x0 x1 x2 x3) from by unfold w28c r28c; exact (cond_app (a28c x0 x1 x2 x3) _ (cond_app (a28c x0 x1 x2 x3) _ rfl (cond_app (a28c x0 x1 x2 x3) _ (cond_app (a28c x0 x1 x2 x3) _ rfl (cond_app (a28c x0 x1 x2 x3) _ (cond_app (a28c x0 x1 x2 x3) _ rfl (cond_app (a28c x0 x1 x2 x3) _ (cond_app (a28c x0 x1 x2 x3) _ rfl rfl) rfl)) rfl)) rfl)) rfl))
noncomputable def s28c (args : List Value) (s : St) : List (Bool × Value × St) :=
 match args, s.h with
 | [.agg ⟨[.iface f0 .nilIface, .iface f1 .nilIface, .iface f2 .nilIface, .iface f3 .nilIface]⟩, .agg ⟨[.slice none f4 f5, .slice none f6 f7, .slice none f8 f9, .slice none f10 f11]⟩], [⟨true, some (.tab [.fl .f32] x0)⟩, ⟨true, some (.tab [.fl .f32] x1)⟩, ⟨true, some (.tab [.int .i64, .int .i64, .fl .f32, .fl .f32, .fl .f32, .fl .f32, .fl .f32, .fl .f32] x2)⟩, ⟨true, some (.tab [.int .i64, .int .i64, .fl .f32, .fl .f32] x3)⟩] => if f0 = 0 ∧ f1 = 1 ∧ f2 = 2 ∧ f3 = 3 ∧ f4 = 0 ∧ f5 = 0 ∧ f6 = 0 ∧ f7 = 0 ∧ f8 = 0 ∧ f9 = 0 ∧ f10 = 0 ∧ f11 = 0 then [((Nat.beq ((r28c x0 x1 x2 x3).1) 0), .bool ((r28c x0 x1 x2 x3).2), ⟨[⟨true, (some (.tab [.fl .f32] x0))⟩, ⟨true, (some (.tab [.fl .f32] x1))⟩, ⟨true, (some (.tab sc0 x2))⟩, ⟨true, (some (.tab sc1 x3))⟩], 4, []⟩)] else T79 28 args s
 | _, _ => T79 28 args s
noncomputable def T80 : CallF := addF T79 28 s28c
set_option maxRecDepth 100000 in
set_option maxHeartbeats 4000000 in
theorem ok80 : CfOk Try.prog T80 := by
  refine cfOk_add ok79 fun args s r s' h1 h2 h3 => ?_
  unfold s28c at h3; split at h3
  · rename_i h; split at h3
    · rename_i hc; obtain ⟨rfl, rfl, rfl, rfl, rfl, rfl, rfl, rfl, rfl, rfl, rfl, rfl⟩ := hc; exact callOk ok79 Try.func28 h1 h2 h (lfOkF_no _ _).body (e28c _ _ _ _) rfl h3
    · exact ok79 _ _ _ _ _ h1 h2 h3
  · exact ok79 _ _ _ _ _ h1 h2 h3

/-- laws.heldFloat32S, loop 0: one round -/
noncomputable def b34l0b (ih : Int → Int → List (List Int) → (Nat × Int × Int)) (x0 x1 : Int) (x2 : List (List Int)) : Nat × Int × Int :=
 cond (decide ((x1 : Int) < ((x2.length : Nat) : Int))) (cond ((decide ((0 : Int) ≤ x1)) && (Nat.blt (Int.toNat x1) x2.length)) (cond (!feq .f32 (Int.toNat ((x2.getD (Int.toNat x1) []).getD 0 0)) (ofInt .f32 x0)) (0, x0, 0) (ih (IntKind.i64.wrap (x0 + 1)) (IntKind.i64.wrap (x1 + 1)) x2)) (2, 0, 0)) (1, 0, x0)
noncomputable def r34l0b : Nat → Int → Int → List (List Int) → (Nat × Int × Int)
 | 0 => fun _ _ _ => (2, 0, 0)
 | m + 1 => b34l0b (r34l0b m)
noncomputable def a34l0b (x0 x1 : Int) (x2 : List (List Int)) (p : Nat × Int × Int) : Option (Fin' × List Value × St) := firstT ([((Nat.beq (p.1) 0), .ret, [.int .i64 (p.2.1), .int .i64 (-1)], ⟨[⟨true, (some (.tab [.fl .f32] x2))⟩], 1, []⟩), ((Nat.beq (p.1) 1), .exit 0, [.int .i64 (p.2.2), anyV], ⟨[⟨true, (some (.tab [.fl .f32] x2))⟩], 1, []⟩)].map fun (b, x) => (b, (x.1, frameOf 22 [1, 4] x.2.1, x.2.2)))
noncomputable def u34l0b (x0 x1 : Int) (x2 : List (List Int)) (p : Nat × Int × Int) : Option (Fin' × List Value × St) := alts ([((Nat.beq (p.1) 0), .ret, [.int .i64 (p.2.1), .int .i64 (-1)], ⟨[⟨true, (some (.tab [.fl .f32] x2))⟩], 1, []⟩), ((Nat.beq (p.1) 1), .exit 0, [.int .i64 (p.2.2), anyV], ⟨[⟨true, (some (.tab [.fl .f32] x2))⟩], 1, []⟩)].map fun (b, x) => (b, (x.1, frameOf 22 [1, 4] x.2.1, x.2.2))) some
theorem v34l0b (x0 x1 : Int) (x2 : List (List Int)) (p : Nat × Int × Int) : u34l0b x0 x1 x2 p = a34l0b x0 x1 x2 p := alts_first _
noncomputable def q34l0b (m : Nat) : SumK := fun vals s =>
 match vals, s.h with
 | [.iface f0 .nilIface, .int .i64 x0, .int .i64 x1], [⟨true, some (.tab [.fl .f32] x2)⟩] => if f0 = 0 then [((Nat.beq ((r34l0b m x0 x1 x2).1) 0), .ret, [.int .i64 ((r34l0b m x0 x1 x2).2.1), .int .i64 (-1)], ⟨[⟨true, (some (.tab [.fl .f32] x2))⟩], 1, []⟩), ((Nat.beq ((r34l0b m x0 x1 x2).1) 1), .exit 0, [.int .i64 ((r34l0b m x0 x1 x2).2.2), anyV], ⟨[⟨true, (some (.tab [.fl .f32] x2))⟩], 1, []⟩)] else Q34l0 vals s
 | _, _ => Q34l0 vals s
noncomputable def w34l0b (ih : Int → Int → List (List Int) → (Nat × Int × Int)) (x0 x1 : Int) (x2 : List (List Int)) : Option (Fin' × List Value × St) :=
 (cond (decide ((x1 : Int) < ((x2.length : Nat) : Int)))
 (cond ((decide ((0 : Int) ≤ x1)) && (Nat.blt (Int.toNat x1) x2.length)) (cond (Nat.blt (Int.toNat x1) x2.length) (cond (!feq .f32 (Int.toNat ((x2.getD (Int.toNat x1) []).getD 0 0)) (ofInt .f32 x0)) (a34l0b x0 x1 x2 (0, x0, 0)) (u34l0b x0 x1 x2 (ih (IntKind.i64.wrap (x0 + 1)) (IntKind.i64.wrap (x1 + 1)) x2))) none) none)
 (a34l0b x0 x1 x2 (1, 0, x0)))
set_option maxRecDepth 100000 in
set_option maxHeartbeats 4000000 in
theorem e34l0b (m : Nat) (x0 x1 : Int) (x2 : List (List Int)) : evC Try.prog ext T80 L34_1 200 (loopN Try.f34 0) (loopTail ([0, 1, 5], []) [1, 4] [] (sumK 22 [0, 1, 5] [1, 4] (q34l0b m))) (frameOf 22 [0, 1, 5] [wsl 0, .int .i64 x0, .int .i64 x1]) ⟨[⟨true, (some (.tab [.fl .f32] x2))⟩], 1, []⟩ = firstT ([((Nat.beq ((r34l0b (m + 1) x0 x1 x2).1) 0), .ret, [.int .i64 ((r34l0b (m + 1) x0 x1 x2).2.1), .int .i64 (-1)], ⟨[⟨true, (some (.tab [.fl .f32] x2))⟩], 1, []⟩), ((Nat.beq ((r34l0b (m + 1) x0 x1 x2).1) 1), .exit 0, [.int .i64 ((r34l0b (m + 1) x0 x1 x2).2.2), anyV], ⟨[⟨true, (some (.tab [.fl .f32] x2))⟩], 1, []⟩)].map fun (b, x) => (b, (x.1, frameOf 22 [1, 4] x.2.1, x.2.2))) :=
 (show evC Try.prog ext T80 L34_1 200 (loopN Try.f34 0) (loopTail ([0, 1, 5], []) [1, 4] [] (sumK 22 [0, 1, 5] [1, 4] (q34l0b m))) (frameOf 22 [0, 1, 5] [wsl 0, .int .i64 x0, .int .i64 x1]) ⟨[⟨true, (some (.tab [.fl .f32] x2))⟩], 1, []⟩ = w34l0b (r34l0b m) x0 x1 x2 from by kernel_rfl).trans
 (show w34l0b (r34l0b m) x0 x1 x2 = a34l0b x0 x1 x2 (r34l0b (m + 1) x0 x1 x2) from by unfold w34l0b; show _ = a34l0b x0 x1 x2 (b34l0b (r34l0b m) x0 x1 x2); unfold b34l0b; exact (cond_both (a34l0b x0 x1 x2) _ (fun h0 => (cond_both (a34l0b x0 x1 x2) _ (fun h1 => (cond_t (ev_and2 h1) (cond_app (a34l0b x0 x1 x2) _ rfl (v34l0b x0 x1 x2 ((r34l0b m) (IntKind.i64.wrap (x0 + 1)) (IntKind.i64.wrap (x1 + 1)) x2))))) (fun h1 => rfl))) (fun h0 => rfl)))
set_option maxRecDepth 100000 in
set_option maxHeartbeats 4000000 in
theorem qm34l0b : ∀ m, SumKOk Try.prog (loopN Try.f34 0) 22 [0, 1, 5] [1, 4] (q34l0b m) := by
  intro m
  induction m with
  | zero =>
    intro vals s x h1 h2 h3
    unfold q34l0b at h3; split at h3
    · rename_i h; split at h3
      · rename_i hc; obtain ⟨rfl⟩ := hc; exact absurd h3 (by simp [r34l0b, firstT, Nat.beq])
      · exact qok34l0 _ _ _ h1 h2 h3
    · exact qok34l0 _ _ _ h1 h2 h3
  | succ m ih =>
    intro vals s x h1 h2 h3
    unfold q34l0b at h3; split at h3
    · rename_i h; split at h3
      · rename_i hc; obtain ⟨rfl⟩ := hc; exact sum_step ok80 extOk mixed (lok34_1.inner (by kernel_rfl)) ih h1 h2 h (e34l0b m _ _ _) rfl h3
      · exact qok34l0 _ _ _ h1 h2 h3
    · exact qok34l0 _ _ _ h1 h2 h3
noncomputable def Q34l0b : SumK := fun vals s => q34l0b (fuelOf vals s.h) vals s
theorem qok34l0b : SumKOk Try.prog (loopN Try.f34 0) 22 [0, 1, 5] [1, 4] Q34l0b := fuel_ok qm34l0b fuelOf
noncomputable def L34_2 : LoopT := addL L34_1 3 ([0, 1, 5], []) (sumK 22 [0, 1, 5] [1, 4] Q34l0b)
theorem lok34_2 : LfOkF Try.prog L34_2 Try.f34 := lfOkF_add lok34_1 qok34l0b (by kernel_rfl) (by kernel_rfl) (by kernel_rfl)

/-- laws.heldFloat32S -/
noncomputable def r34b (x0 : Int) (x1 : List (List Int)) : Nat × Int :=
 cond (Nat.beq ((r34l0b (1000 + x1.length) x0 0 x1).1) 0) (0, (-1)) (cond (Nat.beq ((r34l0b (1000 + x1.length) x0 0 x1).1) 1) (0, ((r34l0b (1000 + x1.length) x0 0 x1).2.2)) (1, 0))
noncomputable def a34b (x0 : Int) (x1 : List (List Int)) (p : Nat × Int) : Res := firstT [((Nat.beq (p.1) 0), .int .i64 (p.2), ⟨[⟨true, (some (.tab [.fl .f32] x1))⟩], 1, []⟩)]
noncomputable def w34b (x0 : Int) (x1 : List (List Int)) : Res :=
 (cond (Nat.beq ((r34l0b (1000 + x1.length) x0 0 x1).1) 0)
 (a34b x0 x1 (0, (-1)))
 (cond (Nat.beq ((r34l0b (1000 + x1.length) x0 0 x1).1) 1) (a34b x0 x1 (0, ((r34l0b (1000 + x1.length) x0 0 x1).2.2))) none))
set_option maxRecDepth 100000 in
set_option maxHeartbeats 4000000 in
theorem e34b (x0 : Int) (x1 : List (List Int)) : evFn Try.prog ext T80 L34_2 200 Try.f34 [wsl 0, .int .i64 x0] ⟨[⟨true, (some (.tab [.fl .f32] x1))⟩], 1, []⟩ = firstT [((Nat.beq ((r34b x0 x1).1) 0), .int .i64 ((r34b x0 x1).2), ⟨[⟨true, (some (.tab [.fl .f32] x1))⟩], 1, []⟩)] :=
 (show evFn Try.prog ext T80 L34_2 200 Try.f34 [wsl 0, .int .i64 x0] ⟨[⟨true, (some (.tab [.fl .f32] x1))⟩], 1, []⟩ = w34b x0 x1 from by kernel_rfl).trans
 (show w34b x0 x1 = a34b x0 x1 (r34b x0 x1) from by unfold w34b r34b; exact (cond_app (a34b x0 x1) _ rfl (cond_app (a34b x0 x1) _ rfl rfl)))
noncomputable def s34b (args : List Value) (s : St) : List (Bool × Value × St) :=
 match args, s.h with
 | [.iface f0 .nilIface, .int .i64 x0], [⟨true, some (.tab [.fl .f32] x1)⟩] => if f0 = 0 then [((Nat.beq ((r34b x0 x1).1) 0), .int .i64 ((r34b x0 x1).2), ⟨[⟨true, (some (.tab [.fl .f32] x1))⟩], 1, []⟩)] else T80 34 args s
 | _, _ => T80 34 args s
noncomputable def T81 : CallF := addF T80 34 s34b
set_option maxRecDepth 100000 in
set_option maxHeartbeats 4000000 in
theorem ok81 : CfOk Try.prog T81 := by
  refine cfOk_add ok80 fun args s r s' h1 h2 h3 => ?_
  unfold s34b at h3; split at h3
  · rename_i h; split at h3
    · rename_i hc; obtain ⟨rfl⟩ := hc; exact callOk ok80 Try.func34 h1 h2 h lok34_2.body (e34b _ _) rfl h3
    · exact ok80 _ _ _ _ _ h1 h2 h3
  · exact ok80 _ _ _ _ _ h1 h2 h3

/-- laws.heldWallS, loop 1 -/
noncomputable def r89l1 (x0 x1 : Int) (x2 : List (List Int)) : Unit :=
 ()
noncomputable def a89l1 (x0 x1 : Int) (x2 : List (List Int)) (p : Unit) : Option (Fin' × List Value × St) := firstT ([(true, .exit 2, [wsl 0, .int .i64 x0, anyV, .int .i64 x1], ⟨[⟨true, (some (.tab sc0 x2))⟩], 1, []⟩)].map fun (b, x) => (b, (x.1, frameOf 68 [0, 1, 4, 5] x.2.1, x.2.2)))
noncomputable def w89l1 (x0 x1 : Int) (x2 : List (List Int)) : Option (Fin' × List Value × St) :=
 (a89l1 x0 x1 x2 ())
set_option maxRecDepth 100000 in
set_option maxHeartbeats 4000000 in
theorem e89l1 (x0 x1 : Int) (x2 : List (List Int)) : evC Try.prog ext T81 L89_1 200 (loopN Try.f89 1) (loopTail ([0, 1, 5, 6], []) [0, 1, 4, 5] [] (sumK 68 [0, 1, 5, 6] [0, 1, 4, 5] noQ)) (frameOf 68 [0, 1, 5, 6] [wsl 0, .int .i64 x0, .int .i64 x1, .int .i64 4]) ⟨[⟨true, (some (.tab sc0 x2))⟩], 1, []⟩ = firstT ([(true, .exit 2, [wsl 0, .int .i64 x0, anyV, .int .i64 x1], ⟨[⟨true, (some (.tab sc0 x2))⟩], 1, []⟩)].map fun (b, x) => (b, (x.1, frameOf 68 [0, 1, 4, 5] x.2.1, x.2.2))) :=
 (show evC Try.prog ext T81 L89_1 200 (loopN Try.f89 1) (loopTail ([0, 1, 5, 6], []) [0, 1, 4, 5] [] (sumK 68 [0, 1, 5, 6] [0, 1, 4, 5] noQ)) (frameOf 68 [0, 1, 5, 6] [wsl 0, .int .i64 x0, .int .i64 x1, .int .i64 4]) ⟨[⟨true, (some (.tab sc0 x2))⟩], 1, []⟩ = w89l1 x0 x1 x2 from by kernel_rfl).trans
 (show w89l1 x0 x1 x2 = a89l1 x0 x1 x2 (r89l1 x0 x1 x2) from by unfold w89l1 r89l1; exact rfl)
noncomputable def Q89l1 : SumK := fun vals s =>
 match vals, s.h with
 | [.iface f0 .nilIface, .int .i64 x0, .int .i64 x1, .int .i64 f1], [⟨true, some (.tab [.int .i64, .int .i64, .fl .f32, .fl .f32, .fl .f32, .fl .f32, .fl .f32, .fl .f32] x2)⟩] => if f0 = 0 ∧ f1 = 4 then [(true, .exit 2, [wsl 0, .int .i64 x0, anyV, .int .i64 x1], ⟨[⟨true, (some (.tab sc0 x2))⟩], 1, []⟩)] else noQ vals s
 | _, _ => noQ vals s
set_option maxRecDepth 100000 in
set_option maxHeartbeats 4000000 in
theorem qok89l1 : SumKOk Try.prog (loopN Try.f89 1) 68 [0, 1, 5, 6] [0, 1, 4, 5] Q89l1 := by
  intro vals s x h1 h2 h3
  unfold Q89l1 at h3; split at h3
  · rename_i h; split at h3
    · rename_i hc; obtain ⟨rfl, rfl⟩ := hc; exact sum_step ok81 extOk mixed (lok89_1.inner (by kernel_rfl)) noQ_ok h1 h2 h (e89l1 _ _ _) rfl h3
    · exact noQ_ok _ _ _ h1 h2 h3
  · exact noQ_ok _ _ _ h1 h2 h3
noncomputable def L89_2 : LoopT := addL L89_1 18 ([0, 1, 5, 6], []) (sumK 68 [0, 1, 5, 6] [0, 1, 4, 5] Q89l1)
theorem lok89_2 : LfOkF Try.prog L89_2 Try.f89 := lfOkF_add lok89_1 qok89l1 (by kernel_rfl) (by kernel_rfl) (by kernel_rfl)

/-- laws.heldWallS, loop 1 -/
noncomputable def r89l1b (x0 x1 : Int) (x2 : List (List Int)) : Nat × Int :=
 cond ((decide ((0 : Int) ≤ x1)) && (Nat.blt (Int.toNat x1) x2.length)) (cond (!feq .f32 (Int.toNat ((x2.getD (Int.toNat x1) []).getD 7 0)) (ofInt .f32 x0)) (0, 0) (1, (IntKind.i64.wrap (x0 + 1)))) (2, 0)
noncomputable def a89l1b (x0 x1 : Int) (x2 : List (List Int)) (p : Nat × Int) : Option (Fin' × List Value × St) := firstT ([((Nat.beq (p.1) 0), .ret, [wsl 0, .int .i64 x0, .int .i64 (-1), .int .i64 x1], ⟨[⟨true, (some (.tab sc0 x2))⟩], 1, []⟩), ((Nat.beq (p.1) 1), .exit 2, [wsl 0, .int .i64 (p.2), anyV, .int .i64 x1], ⟨[⟨true, (some (.tab sc0 x2))⟩], 1, []⟩)].map fun (b, x) => (b, (x.1, frameOf 68 [0, 1, 4, 5] x.2.1, x.2.2)))
noncomputable def w89l1b (x0 x1 : Int) (x2 : List (List Int)) : Option (Fin' × List Value × St) :=
 (cond ((decide ((0 : Int) ≤ x1)) && (Nat.blt (Int.toNat x1) x2.length))
 (cond (Nat.blt (Int.toNat x1) x2.length) (cond (!feq .f32 (Int.toNat ((x2.getD (Int.toNat x1) []).getD 7 0)) (ofInt .f32 x0)) (a89l1b x0 x1 x2 (0, 0)) (a89l1b x0 x1 x2 (1, (IntKind.i64.wrap (x0 + 1))))) none)
 none)
set_option maxRecDepth 100000 in
set_option maxHeartbeats 4000000 in
theorem e89l1b (x0 x1 : Int) (x2 : List (List Int)) : evC Try.prog ext T81 L89_2 200 (loopN Try.f89 1) (loopTail ([0, 1, 5, 6], []) [0, 1, 4, 5] [] (sumK 68 [0, 1, 5, 6] [0, 1, 4, 5] Q89l1)) (frameOf 68 [0, 1, 5, 6] [wsl 0, .int .i64 x0, .int .i64 x1, .int .i64 3]) ⟨[⟨true, (some (.tab sc0 x2))⟩], 1, []⟩ = firstT ([((Nat.beq ((r89l1b x0 x1 x2).1) 0), .ret, [wsl 0, .int .i64 x0, .int .i64 (-1), .int .i64 x1], ⟨[⟨true, (some (.tab sc0 x2))⟩], 1, []⟩), ((Nat.beq ((r89l1b x0 x1 x2).1) 1), .exit 2, [wsl 0, .int .i64 ((r89l1b x0 x1 x2).2), anyV, .int .i64 x1], ⟨[⟨true, (some (.tab sc0 x2))⟩], 1, []⟩)].map fun (b, x) => (b, (x.1, frameOf 68 [0, 1, 4, 5] x.2.1, x.2.2))) :=
 (show evC Try.prog ext T81 L89_2 200 (loopN Try.f89 1) (loopTail ([0, 1, 5, 6], []) [0, 1, 4, 5] [] (sumK 68 [0, 1, 5, 6] [0, 1, 4, 5] Q89l1)) (frameOf 68 [0, 1, 5, 6] [wsl 0, .int .i64 x0, .int .i64 x1, .int .i64 3]) ⟨[⟨true, (some (.tab sc0 x2))⟩], 1, []⟩ = w89l1b x0 x1 x2 from by kernel_rfl).trans
 (show w89l1b x0 x1 x2 = a89l1b x0 x1 x2 (r89l1b x0 x1 x2) from by unfold w89l1b r89l1b; exact (cond_both (a89l1b x0 x1 x2) _ (fun h0 => (cond_t (ev_and2 h0) (cond_app (a89l1b x0 x1 x2) _ rfl rfl))) (fun h0 => rfl)))
noncomputable def Q89l1b : SumK := fun vals s =>
 match vals, s.h with
 | [.iface f0 .nilIface, .int .i64 x0, .int .i64 x1, .int .i64 f1], [⟨true, some (.tab [.int .i64, .int .i64, .fl .f32, .fl .f32, .fl .f32, .fl .f32, .fl .f32, .fl .f32] x2)⟩] => if f0 = 0 ∧ f1 = 3 then [((Nat.beq ((r89l1b x0 x1 x2).1) 0), .ret, [wsl 0, .int .i64 x0, .int .i64 (-1), .int .i64 x1], ⟨[⟨true, (some (.tab sc0 x2))⟩], 1, []⟩), ((Nat.beq ((r89l1b x0 x1 x2).1) 1), .exit 2, [wsl 0, .int .i64 ((r89l1b x0 x1 x2).2), anyV, .int .i64 x1], ⟨[⟨true, (some (.tab sc0 x2))⟩], 1, []⟩)] else Q89l1 vals s
 | _, _ => Q89l1 vals s
set_option maxRecDepth 100000 in
set_option maxHeartbeats 4000000 in
theorem qok89l1b : SumKOk Try.prog (loopN Try.f89 1) 68 [0, 1, 5, 6] [0, 1, 4, 5] Q89l1b := by
  intro vals s x h1 h2 h3
  unfold Q89l1b at h3; split at h3
  · rename_i h; split at h3
    · rename_i hc; obtain ⟨rfl, rfl⟩ := hc; exact sum_step ok81 extOk mixed (lok89_2.inner (by kernel_rfl)) qok89l1 h1 h2 h (e89l1b _ _ _) rfl h3
    · exact qok89l1 _ _ _ h1 h2 h3
  · exact qok89l1 _ _ _ h1 h2 h3
noncomputable def L89_3 : LoopT := addL L89_2 18 ([0, 1, 5, 6], []) (sumK 68 [0, 1, 5, 6] [0, 1, 4, 5] Q89l1b)
theorem lok89_3 : LfOkF Try.prog L89_3 Try.f89 := lfOkF_add lok89_2 qok89l1b (by kernel_rfl) (by kernel_rfl) (by kernel_rfl)

/-- laws.heldWallS, loop 1 -/
noncomputable def r89l1c (x0 x1 : Int) (x2 : List (List Int)) : Nat × Int × Int :=
 cond ((decide ((0 : Int) ≤ x1)) && (Nat.blt (Int.toNat x1) x2.length)) (cond (!feq .f32 (Int.toNat ((x2.getD (Int.toNat x1) []).getD 6 0)) (ofInt .f32 x0)) (0, x0, 0) (cond (Nat.beq ((r89l1b (IntKind.i64.wrap (x0 + 1)) x1 x2).1) 0) (0, (IntKind.i64.wrap (x0 + 1)), 0) (cond (Nat.beq ((r89l1b (IntKind.i64.wrap (x0 + 1)) x1 x2).1) 1) (1, 0, ((r89l1b (IntKind.i64.wrap (x0 + 1)) x1 x2).2)) (2, 0, 0)))) (2, 0, 0)
noncomputable def a89l1c (x0 x1 : Int) (x2 : List (List Int)) (p : Nat × Int × Int) : Option (Fin' × List Value × St) := firstT ([((Nat.beq (p.1) 0), .ret, [wsl 0, .int .i64 (p.2.1), .int .i64 (-1), .int .i64 x1], ⟨[⟨true, (some (.tab sc0 x2))⟩], 1, []⟩), ((Nat.beq (p.1) 1), .exit 2, [wsl 0, .int .i64 (p.2.2), anyV, .int .i64 x1], ⟨[⟨true, (some (.tab sc0 x2))⟩], 1, []⟩)].map fun (b, x) => (b, (x.1, frameOf 68 [0, 1, 4, 5] x.2.1, x.2.2)))
noncomputable def w89l1c (x0 x1 : Int) (x2 : List (List Int)) : Option (Fin' × List Value × St) :=
 (cond ((decide ((0 : Int) ≤ x1)) && (Nat.blt (Int.toNat x1) x2.length))
 (cond (Nat.blt (Int.toNat x1) x2.length) (cond (!feq .f32 (Int.toNat ((x2.getD (Int.toNat x1) []).getD 6 0)) (ofInt .f32 x0)) (a89l1c x0 x1 x2 (0, x0, 0)) (cond (Nat.beq ((r89l1b (IntKind.i64.wrap (x0 + 1)) x1 x2).1) 0) (a89l1c x0 x1 x2 (0, (IntKind.i64.wrap (x0 + 1)), 0)) (cond (Nat.beq ((r89l1b (IntKind.i64.wrap (x0 + 1)) x1 x2).1) 1) (a89l1c x0 x1 x2 (1, 0, ((r89l1b (IntKind.i64.wrap (x0 + 1)) x1 x2).2))) none))) none)
 none)
set_option maxRecDepth 100000 in
set_option maxHeartbeats 4000000 in
theorem e89l1c (x0 x1 : Int) (x2 : List (List Int)) : evC Try.prog ext T81 L89_3 200 (loopN Try.f89 1) (loopTail ([0, 1, 5, 6], []) [0, 1, 4, 5] [] (sumK 68 [0, 1, 5, 6] [0, 1, 4, 5] Q89l1b)) (frameOf 68 [0, 1, 5, 6] [wsl 0, .int .i64 x0, .int .i64 x1, .int .i64 2]) ⟨[⟨true, (some (.tab sc0 x2))⟩], 1, []⟩ = firstT ([((Nat.beq ((r89l1c x0 x1 x2).1) 0), .ret, [wsl 0, .int .i64 ((r89l1c x0 x1 x2).2.1), .int .i64 (-1), .int .i64 x1], ⟨[⟨true, (some (.tab sc0 x2))⟩], 1, []⟩), ((Nat.beq ((r89l1c x0 x1 x2).1) 1), .exit 2, [wsl 0, .int .i64 ((r89l1c x0 x1 x2).2.2), anyV, .int .i64 x1], ⟨[⟨true, (some (.tab sc0 x2))⟩], 1, []⟩)].map fun (b, x) => (b, (x.1, frameOf 68 [0, 1, 4, 5] x.2.1, x.2.2))) :=
 (show evC Try.prog ext T81 L89_3 200 (loopN Try.f89 1) (loopTail ([0, 1, 5, 6], []) [0, 1, 4, 5] [] (sumK 68 [0, 1, 5, 6] [0, 1, 4, 5] Q89l1b)) (frameOf 68 [0, 1, 5, 6] [wsl 0, .int .i64 x0, .int .i64 x1, .int .i64 2]) ⟨[⟨true, (some (.tab sc0 x2))⟩], 1, []⟩ = w89l1c x0 x1 x2 from by kernel_rfl).trans
 (show w89l1c x0 x1 x2 = a89l1c x0 x1 x2 (r89l1c x0 x1 x2) from by unfold w89l1c r89l1c; exact (cond_both (a89l1c x0 x1 x2) _ (fun h0 => (cond_t (ev_and2 h0) (cond_app (a89l1c x0 x1 x2) _ rfl (cond_app (a89l1c x0 x1 x2) _ rfl (cond_app (a89l1c x0 x1 x2) _ rfl rfl))))) (fun h0 => rfl)))
noncomputable def Q89l1c : SumK := fun vals s =>
 match vals, s.h with
 | [.iface f0 .nilIface, .int .i64 x0, .int .i64 x1, .int .i64 f1], [⟨true, some (.tab [.int .i64, .int .i64, .fl .f32, .fl .f32, .fl .f32, .fl .f32, .fl .f32, .fl .f32] x2)⟩] => if f0 = 0 ∧ f1 = 2 then [((Nat.beq ((r89l1c x0 x1 x2).1) 0), .ret, [wsl 0, .int .i64 ((r89l1c x0 x1 x2).2.1), .int .i64 (-1), .int .i64 x1], ⟨[⟨true, (some (.tab sc0 x2))⟩], 1, []⟩), ((Nat.beq ((r89l1c x0 x1 x2).1) 1), .exit 2, [wsl 0, .int .i64 ((r89l1c x0 x1 x2).2.2), anyV, .int .i64 x1], ⟨[⟨true, (some (.tab sc0 x2))⟩], 1, []⟩)] else Q89l1b vals s
 | _, _ => Q89l1b vals s
set_option maxRecDepth 100000 in
set_option maxHeartbeats 4000000 in
theorem qok89l1c : SumKOk Try.prog (loopN Try.f89 1) 68 [0, 1, 5, 6] [0, 1, 4, 5] Q89l1c := by
  intro vals s x h1 h2 h3
  unfold Q89l1c at h3; split at h3
  · rename_i h; split at h3
    · rename_i hc; obtain ⟨rfl, rfl⟩ := hc; exact sum_step ok81 extOk mixed (lok89_3.inner (by kernel_rfl)) qok89l1b h1 h2 h (e89l1c _ _ _) rfl h3
    · exact qok89l1b _ _ _ h1 h2 h3
  · exact qok89l1b _ _ _ h1 h2 h3
noncomputable def L89_4 : LoopT := addL L89_3 18 ([0, 1, 5, 6], []) (sumK 68 [0, 1, 5, 6] [0, 1, 4, 5] Q89l1c)
theorem lok89_4 : LfOkF Try.prog L89_4 Try.f89 := lfOkF_add lok89_3 qok89l1c (by kernel_rfl) (by kernel_rfl) (by kernel_rfl)

/-- laws.heldWallS, loop 1 -/
noncomputable def r89l1d (x0 x1 : Int) (x2 : List (List Int)) : Nat × Int × Int :=
 cond ((decide ((0 : Int) ≤ x1)) && (Nat.blt (Int.toNat x1) x2.length)) (cond (!feq .f32 (Int.toNat ((x2.getD (Int.toNat x1) []).getD 5 0)) (ofInt .f32 x0)) (0, x0, 0) (cond (Nat.beq ((r89l1c (IntKind.i64.wrap (x0 + 1)) x1 x2).1) 0) (0, ((r89l1c (IntKind.i64.wrap (x0 + 1)) x1 x2).2.1), 0) (cond (Nat.beq ((r89l1c (IntKind.i64.wrap (x0 + 1)) x1 x2).1) 1) (1, 0, ((r89l1c (IntKind.i64.wrap (x0 + 1)) x1 x2).2.2)) (2, 0, 0)))) (2, 0, 0)
noncomputable def a89l1d (x0 x1 : Int) (x2 : List (List Int)) (p : Nat × Int × Int) : Option (Fin' × List Value × St) := firstT ([((Nat.beq (p.1) 0), .ret, [wsl 0, .int .i64 (p.2.1), .int .i64 (-1), .int .i64 x1], ⟨[⟨true, (some (.tab sc0 x2))⟩], 1, []⟩), ((Nat.beq (p.1) 1), .exit 2, [wsl 0, .int .i64 (p.2.2), anyV, .int .i64 x1], ⟨[⟨true, (some (.tab sc0 x2))⟩], 1, []⟩)].map fun (b, x) => (b, (x.1, frameOf 68 [0, 1, 4, 5] x.2.1, x.2.2)))
noncomputable def w89l1d (x0 x1 : Int) (x2 : List (List Int)) : Option (Fin' × List Value × St) :=
 (cond ((decide ((0 : Int) ≤ x1)) && (Nat.blt (Int.toNat x1) x2.length))
 (cond (Nat.blt (Int.toNat x1) x2.length) (cond (!feq .f32 (Int.toNat ((x2.getD (Int.toNat x1) []).getD 5 0)) (ofInt .f32 x0)) (a89l1d x0 x1 x2 (0, x0, 0)) (cond (Nat.beq ((r89l1c (IntKind.i64.wrap (x0 + 1)) x1 x2).1) 0) (a89l1d x0 x1 x2 (0, ((r89l1c (IntKind.i64.wrap (x0 + 1)) x1 x2).2.1), 0)) (cond (Nat.beq ((r89l1c (IntKind.i64.wrap (x0 + 1)) x1 x2).1) 1) (a89l1d x0 x1 x2 (1, 0, ((r89l1c (IntKind.i64.wrap (x0 + 1)) x1 x2).2.2))) none))) none)
 none)
set_option maxRecDepth 100000 in
set_option maxHeartbeats 4000000 in
theorem e89l1d (x0 x1 : Int) (x2 : List (List Int)) : evC Try.prog ext T81 L89_4 200 (loopN Try.f89 1) (loopTail ([0, 1, 5, 6], []) [0, 1, 4, 5] [] (sumK 68 [0, 1, 5, 6] [0, 1, 4, 5] Q89l1c)) (frameOf 68 [0, 1, 5, 6] [wsl 0, .int .i64 x0, .int .i64 x1, .int .i64 1]) ⟨[⟨true, (some (.tab sc0 x2))⟩], 1, []⟩ = firstT ([((Nat.beq ((r89l1d x0 x1 x2).1) 0), .ret, [wsl 0, .int .i64 ((r89l1d x0 x1 x2).2.1), .int .i64 (-1), .int .i64 x1], ⟨[⟨true, (some (.tab sc0 x2))⟩], 1, []⟩), ((Nat.beq ((r89l1d x0 x1 x2).1) 1), .exit 2, [wsl 0, .int .i64 ((r89l1d x0 x1 x2).2.2), anyV, .int .i64 x1], ⟨[⟨true, (some (.tab sc0 x2))⟩], 1, []⟩)].map fun (b, x) => (b, (x.1, frameOf 68 [0, 1, 4, 5] x.2.1, x.2.2))) :=
 (show evC Try.prog ext T81 L89_4 200 (loopN Try.f89 1) (loopTail ([0, 1, 5, 6], []) [0, 1, 4, 5] [] (sumK 68 [0, 1, 5, 6] [0, 1, 4, 5] Q89l1c)) (frameOf 68 [0, 1, 5, 6] [wsl 0, .int .i64 x0, .int .i64 x1, .int .i64 1]) ⟨[⟨true, (some (.tab sc0 x2))⟩], 1, []⟩ = w89l1d x0 x1 x2 from by kernel_rfl).trans
 (show w89l1d x0 x1 x2 = a89l1d x0 x1 x2 (r89l1d x0 x1 x2) from by unfold w89l1d r89l1d; exact (cond_both (a89l1d x0 x1 x2) _ (fun h0 => (cond_t (ev_and2 h0) (cond_app (a89l1d x0 x1 x2) _ rfl (cond_app (a89l1d x0 x1 x2) _ rfl (cond_app (a89l1d x0 x1 x2) _ rfl rfl))))) (fun h0 => rfl)))
noncomputable def Q89l1d : SumK := fun vals s =>
 match vals, s.h with
 | [.iface f0 .nilIface, .int .i64 x0, .int .i64 x1, .int .i64 f1], [⟨true, some (.tab [.int .i64, .int .i64, .fl .f32, .fl .f32, .fl .f32, .fl .f32, .fl .f32, .fl .f32] x2)⟩] => if f0 = 0 ∧ f1 = 1 then [((Nat.beq ((r89l1d x0 x1 x2).1) 0), .ret, [wsl 0, .int .i64 ((r89l1d x0 x1 x2).2.1), .int .i64 (-1), .int .i64 x1], ⟨[⟨true, (some (.tab sc0 x2))⟩], 1, []⟩), ((Nat.beq ((r89l1d x0 x1 x2).1) 1), .exit 2, [wsl 0, .int .i64 ((r89l1d x0 x1 x2).2.2), anyV, .int .i64 x1], ⟨[⟨true, (some (.tab sc0 x2))⟩], 1, []⟩)] else Q89l1c vals s
 | _, _ => Q89l1c vals s
set_option maxRecDepth 100000 in
set_option maxHeartbeats 4000000 in
theorem qok89l1d : SumKOk Try.prog (loopN Try.f89 1) 68 [0, 1, 5, 6] [0, 1, 4, 5] Q89l1d := by
  intro vals s x h1 h2 h3
  unfold Q89l1d at h3; split at h3
  · rename_i h; split at h3
    · rename_i hc; obtain ⟨rfl, rfl⟩ := hc; exact sum_step ok81 extOk mixed (lok89_4.inner (by kernel_rfl)) qok89l1c h1 h2 h (e89l1d _ _ _) rfl h3
    · exact qok89l1c _ _ _ h1 h2 h3
  · exact qok89l1c _ _ _ h1 h2 h3
noncomputable def L89_5 : LoopT := addL L89_4 18 ([0, 1, 5, 6], []) (sumK 68 [0, 1, 5, 6] [0, 1, 4, 5] Q89l1d)
theorem lok89_5 : LfOkF Try.prog L89_5 Try.f89 := lfOkF_add lok89_4 qok89l1d (by kernel_rfl) (by kernel_rfl) (by kernel_rfl)

/-- laws.heldWallS, loop 1 -/
noncomputable def r89l1e (x0 x1 : Int) (x2 : List (List Int)) : Nat × Int × Int :=
 cond ((decide ((0 : Int) ≤ x1)) && (Nat.blt (Int.toNat x1) x2.length)) (cond (!feq .f32 (Int.toNat ((x2.getD (Int.toNat x1) []).getD 4 0)) (ofInt .f32 x0)) (0, x0, 0) (cond (Nat.beq ((r89l1d (IntKind.i64.wrap (x0 + 1)) x1 x2).1) 0) (0, ((r89l1d (IntKind.i64.wrap (x0 + 1)) x1 x2).2.1), 0) (cond (Nat.beq ((r89l1d (IntKind.i64.wrap (x0 + 1)) x1 x2).1) 1) (1, 0, ((r89l1d (IntKind.i64.wrap (x0 + 1)) x1 x2).2.2)) (2, 0, 0)))) (2, 0, 0)
noncomputable def a89l1e (x0 x1 : Int) (x2 : List (List Int)) (p : Nat × Int × Int) : Option (Fin' × List Value × St) := firstT ([((Nat.beq (p.1) 0), .ret, [wsl 0, .int .i64 (p.2.1), .int .i64 (-1), .int .i64 x1], ⟨[⟨true, (some (.tab sc0 x2))⟩], 1, []⟩), ((Nat.beq (p.1) 1), .exit 2, [wsl 0, .int .i64 (p.2.2), anyV, .int .i64 x1], ⟨[⟨true, (some (.tab sc0 x2))⟩], 1, []⟩)].map fun (b, x) => (b, (x.1, frameOf 68 [0, 1, 4, 5] x.2.1, x.2.2)))
noncomputable def w89l1e (x0 x1 : Int) (x2 : List (List Int)) : Option (Fin' × List Value × St) :=
 (cond ((decide ((0 : Int) ≤ x1)) && (Nat.blt (Int.toNat x1) x2.length))
 (cond (Nat.blt (Int.toNat x1) x2.length) (cond (!feq .f32 (Int.toNat ((x2.getD (Int.toNat x1) []).getD 4 0)) (ofInt .f32 x0)) (a89l1e x0 x1 x2 (0, x0, 0)) (cond (Nat.beq ((r89l1d (IntKind.i64.wrap (x0 + 1)) x1 x2).1) 0) (a89l1e x0 x1 x2 (0, ((r89l1d (IntKind.i64.wrap (x0 + 1)) x1 x2).2.1), 0)) (cond (Nat.beq ((r89l1d (IntKind.i64.wrap (x0 + 1)) x1 x2).1) 1) (a89l1e x0 x1 x2 (1, 0, ((r89l1d (IntKind.i64.wrap (x0 + 1)) x1 x2).2.2))) none))) none)
 none)
set_option maxRecDepth 100000 in
set_option maxHeartbeats 4000000 in
theorem e89l1e (x0 x1 : Int) (x2 : List (List Int)) : evC Try.prog ext T81 L89_5 200 (loopN Try.f89 1) (loopTail ([0, 1, 5, 6], []) [0, 1, 4, 5] [] (sumK 68 [0, 1, 5, 6] [0, 1, 4, 5] Q89l1d)) (frameOf 68 [0, 1, 5, 6] [wsl 0, .int .i64 x0, .int .i64 x1, .int .i64 0]) ⟨[⟨true, (some (.tab sc0 x2))⟩], 1, []⟩ = firstT ([((Nat.beq ((r89l1e x0 x1 x2).1) 0), .ret, [wsl 0, .int .i64 ((r89l1e x0 x1 x2).2.1), .int .i64 (-1), .int .i64 x1], ⟨[⟨true, (some (.tab sc0 x2))⟩], 1, []⟩), ((Nat.beq ((r89l1e x0 x1 x2).1) 1), .exit 2, [wsl 0, .int .i64 ((r89l1e x0 x1 x2).2.2), anyV, .int .i64 x1], ⟨[⟨true, (some (.tab sc0 x2))⟩], 1, []⟩)].map fun (b, x) => (b, (x.1, frameOf 68 [0, 1, 4, 5] x.2.1, x.2.2))) :=
 (show evC Try.prog ext T81 L89_5 200 (loopN Try.f89 1) (loopTail ([0, 1, 5, 6], []) [0, 1, 4, 5] [] (sumK 68 [0, 1, 5, 6] [0, 1, 4, 5] Q89l1d)) (frameOf 68 [0, 1, 5, 6] [wsl 0, .int .i64 x0, .int .i64 x1, .int .i64 0]) ⟨[⟨true, (some (.tab sc0 x2))⟩], 1, []⟩ = w89l1e x0 x1 x2 from by kernel_rfl).trans
 (show w89l1e x0 x1 x2 = a89l1e x0 x1 x2 (r89l1e x0 x1 x2) from by unfold w89l1e r89l1e; exact (cond_both (a89l1e x0 x1 x2) _ (fun h0 => (cond_t (ev_and2 h0) (cond_app (a89l1e x0 x1 x2) _ rfl (cond_app (a89l1e x0 x1 x2) _ rfl (cond_app (a89l1e x0 x1 x2) _ rfl rfl))))) (fun h0 => rfl)))
noncomputable def Q89l1e : SumK := fun vals s =>
 match vals, s.h with
 | [.iface f0 .nilIface, .int .i64 x0, .int .i64 x1, .int .i64 f1], [⟨true, some (.tab [.int .i64, .int .i64, .fl .f32, .fl .f32, .fl .f32, .fl .f32, .fl .f32, .fl .f32] x2)⟩] => if f0 = 0 ∧ f1 = 0 then [((Nat.beq ((r89l1e x0 x1 x2).1) 0), .ret, [wsl 0, .int .i64 ((r89l1e x0 x1 x2).2.1), .int .i64 (-1), .int .i64 x1], ⟨[⟨true, (some (.tab sc0 x2))⟩], 1, []⟩), ((Nat.beq ((r89l1e x0 x1 x2).1) 1), .exit 2, [wsl 0, .int .i64 ((r89l1e x0 x1 x2).2.2), anyV, .int .i64 x1], ⟨[⟨true, (some (.tab sc0 x2))⟩], 1, []⟩)] else Q89l1d vals s
 | _, _ => Q89l1d vals s
set_option maxRecDepth 100000 in
set_option maxHeartbeats 4000000 in
theorem qok89l1e : SumKOk Try.prog (loopN Try.f89 1) 68 [0, 1, 5, 6] [0, 1, 4, 5] Q89l1e := by
  intro vals s x h1 h2 h3
  unfold Q89l1e at h3; split at h3
  · rename_i h; split at h3
    · rename_i hc; obtain ⟨rfl, rfl⟩ := hc; exact sum_step ok81 extOk mixed (lok89_5.inner (by kernel_rfl)) qok89l1d h1 h2 h (e89l1e _ _ _) rfl h3
    · exact qok89l1d _ _ _ h1 h2 h3
  · exact qok89l1d _ _ _ h1 h2 h3
noncomputable def L89_6 : LoopT := addL L89_5 18 ([0, 1, 5, 6], []) (sumK 68 [0, 1, 5, 6] [0, 1, 4, 5] Q89l1e)
theorem lok89_6 : LfOkF Try.prog L89_6 Try.f89 := lfOkF_add lok89_5 qok89l1e (by kernel_rfl) (by kernel_rfl) (by kernel_rfl)
end Go.Proofs.Ytfnfapmncibjfaa
