/- What the functions that the statements reach answer, part 4. -/
import Derived.Test.YtfnfapmncibjfaaGa3
namespace Go.Proofs.Ytfnfapmncibjfaa
open Go.Ab
set_option maxHeartbeats 4000000
set_option maxRecDepth 100000

/-- laws.markWallS, loop 1 -/
noncomputable def r85l1c (x0 x1 : Int) (x2 : List (List Int)) : Nat × Int × List (List Int) :=
 let c192 := (r85l1b (IntKind.i64.wrap (x0 + 1)) x1 (x2.modify (Int.toNat x1) (fun r => spl 8 r 6 [(((ofInt .f32 x0) : Nat) : Int)])))
 cond ((decide ((0 : Int) ≤ x1)) && (Nat.blt (Int.toNat x1) x2.length))
  (cond (Nat.beq (c192.1) 0)
   (0, (c192.2.1), (c192.2.2))
   (1, 0, []))
  (1, 0, [])
noncomputable def a85l1c (x0 x1 : Int) (x2 : List (List Int)) (p : Nat × Int × List (List Int)) : Option (Fin' × List Value × St) := firstT ([((Nat.beq (p.1) 0), .exit 2, [wsl 0, .int .i64 (p.2.1), .int .i64 x1], ⟨[⟨true, (some (.tab sc0 (p.2.2)))⟩], 1, [0]⟩)].map fun (b, x) => (b, (x.1, frameOf 58 [0, 1, 5] x.2.1, x.2.2)))
noncomputable def w85l1c (x0 x1 : Int) (x2 : List (List Int)) : Option (Fin' × List Value × St) :=
 let c192 := (r85l1b (IntKind.i64.wrap (x0 + 1)) x1 (x2.modify (Int.toNat x1) (fun r => spl 8 r 6 [(((ofInt .f32 x0) : Nat) : Int)])))
 (cond ((decide ((0 : Int) ≤ x1)) && (Nat.blt (Int.toNat x1) x2.length))
 (cond (Nat.blt (Int.toNat x1) x2.length)
  (cond (Nat.beq (c192.1) 0)
   (a85l1c x0 x1 x2 (0, (c192.2.1), (c192.2.2)))
   none)
  none)
 none)
set_option maxRecDepth 100000 in
set_option maxHeartbeats 4000000 in
theorem e85l1c (x0 x1 : Int) (x2 : List (List Int)) : evC Try.prog ext T49 L85_2 200 (loopN Try.f85 1) (loopTail ([0, 1, 5, 6], []) [0, 1, 5] [] (sumK 58 [0, 1, 5, 6] [0, 1, 5] Q85l1b)) (frameOf 58 [0, 1, 5, 6] [wsl 0, .int .i64 x0, .int .i64 x1, .int .i64 2]) ⟨[⟨true, (some (.tab sc0 x2))⟩], 1, []⟩ = firstT ([((Nat.beq ((r85l1c x0 x1 x2).1) 0), .exit 2, [wsl 0, .int .i64 ((r85l1c x0 x1 x2).2.1), .int .i64 x1], ⟨[⟨true, (some (.tab sc0 ((r85l1c x0 x1 x2).2.2)))⟩], 1, [0]⟩)].map fun (b, x) => (b, (x.1, frameOf 58 [0, 1, 5] x.2.1, x.2.2))) :=
 (show evC Try.prog ext T49 L85_2 200 (loopN Try.f85 1) (loopTail ([0, 1, 5, 6], []) [0, 1, 5] [] (sumK 58 [0, 1, 5, 6] [0, 1, 5] Q85l1b)) (frameOf 58 [0, 1, 5, 6] [wsl 0, .int .i64 x0, .int .i64 x1, .int .i64 2]) ⟨[⟨true, (some (.tab sc0 x2))⟩], 1, []⟩ = w85l1c x0 x1 x2 from by kernel_rfl).trans
 (show w85l1c x0 x1 x2 = a85l1c x0 x1 x2 (r85l1c x0 x1 x2) from by unfold w85l1c r85l1c; exact (cond_both (a85l1c x0 x1 x2) _ (fun h0 => (cond_t (ev_and2 h0) (cond_app (a85l1c x0 x1 x2) _ rfl rfl))) (fun h0 => rfl)))
noncomputable def Q85l1c : SumK := fun vals s =>
 match vals, s.h with
 | [.iface f0 .nilIface, .int .i64 x0, .int .i64 x1, .int .i64 f1], [⟨true, some (.tab [.int .i64, .int .i64, .fl .f32, .fl .f32, .fl .f32, .fl .f32, .fl .f32, .fl .f32] x2)⟩] => if f0 = 0 ∧ f1 = 2 then [((Nat.beq ((r85l1c x0 x1 x2).1) 0), .exit 2, [wsl 0, .int .i64 ((r85l1c x0 x1 x2).2.1), .int .i64 x1], ⟨[⟨true, (some (.tab sc0 ((r85l1c x0 x1 x2).2.2)))⟩], 1, [0]⟩)] else Q85l1b vals s
 | _, _ => Q85l1b vals s
set_option maxRecDepth 100000 in
set_option maxHeartbeats 4000000 in
theorem qok85l1c : SumKOk Try.prog (loopN Try.f85 1) 58 [0, 1, 5, 6] [0, 1, 5] Q85l1c := by
  intro vals s x h1 h2 h3
  unfold Q85l1c at h3; split at h3
  · rename_i h; split at h3
    · rename_i hc; obtain ⟨rfl, rfl⟩ := hc; exact sum_step ok49 extOk mixed (lok85_2.inner (by kernel_rfl)) qok85l1b h1 h2 h (e85l1c _ _ _) rfl h3
    · exact qok85l1b _ _ _ h1 h2 h3
  · exact qok85l1b _ _ _ h1 h2 h3
noncomputable def L85_3 : LoopT := addL L85_2 14 ([0, 1, 5, 6], []) (sumK 58 [0, 1, 5, 6] [0, 1, 5] Q85l1c)
theorem lok85_3 : LfOkF Try.prog L85_3 Try.f85 := lfOkF_add lok85_2 qok85l1c (by kernel_rfl) (by kernel_rfl) (by kernel_rfl)

/-- laws.markWallS, loop 1 -/
noncomputable def r85l1d (x0 x1 : Int) (x2 : List (List Int)) : Nat × Int × List (List Int) :=
 let c193 := (r85l1c (IntKind.i64.wrap (x0 + 1)) x1 (x2.modify (Int.toNat x1) (fun r => spl 8 r 5 [(((ofInt .f32 x0) : Nat) : Int)])))
 cond ((decide ((0 : Int) ≤ x1)) && (Nat.blt (Int.toNat x1) x2.length))
  (cond (Nat.beq (c193.1) 0)
   (0, (c193.2.1), (c193.2.2))
   (1, 0, []))
  (1, 0, [])
noncomputable def a85l1d (x0 x1 : Int) (x2 : List (List Int)) (p : Nat × Int × List (List Int)) : Option (Fin' × List Value × St) := firstT ([((Nat.beq (p.1) 0), .exit 2, [wsl 0, .int .i64 (p.2.1), .int .i64 x1], ⟨[⟨true, (some (.tab sc0 (p.2.2)))⟩], 1, [0]⟩)].map fun (b, x) => (b, (x.1, frameOf 58 [0, 1, 5] x.2.1, x.2.2)))
noncomputable def w85l1d (x0 x1 : Int) (x2 : List (List Int)) : Option (Fin' × List Value × St) :=
 let c193 := (r85l1c (IntKind.i64.wrap (x0 + 1)) x1 (x2.modify (Int.toNat x1) (fun r => spl 8 r 5 [(((ofInt .f32 x0) : Nat) : Int)])))
 (cond ((decide ((0 : Int) ≤ x1)) && (Nat.blt (Int.toNat x1) x2.length))
 (cond (Nat.blt (Int.toNat x1) x2.length)
  (cond (Nat.beq (c193.1) 0)
   (a85l1d x0 x1 x2 (0, (c193.2.1), (c193.2.2)))
   none)
  none)
 none)
set_option maxRecDepth 100000 in
set_option maxHeartbeats 4000000 in
theorem e85l1d (x0 x1 : Int) (x2 : List (List Int)) : evC Try.prog ext T49 L85_3 200 (loopN Try.f85 1) (loopTail ([0, 1, 5, 6], []) [0, 1, 5] [] (sumK 58 [0, 1, 5, 6] [0, 1, 5] Q85l1c)) (frameOf 58 [0, 1, 5, 6] [wsl 0, .int .i64 x0, .int .i64 x1, .int .i64 1]) ⟨[⟨true, (some (.tab sc0 x2))⟩], 1, []⟩ = firstT ([((Nat.beq ((r85l1d x0 x1 x2).1) 0), .exit 2, [wsl 0, .int .i64 ((r85l1d x0 x1 x2).2.1), .int .i64 x1], ⟨[⟨true, (some (.tab sc0 ((r85l1d x0 x1 x2).2.2)))⟩], 1, [0]⟩)].map fun (b, x) => (b, (x.1, frameOf 58 [0, 1, 5] x.2.1, x.2.2))) :=
 (show evC Try.prog ext T49 L85_3 200 (loopN Try.f85 1) (loopTail ([0, 1, 5, 6], []) [0, 1, 5] [] (sumK 58 [0, 1, 5, 6] [0, 1, 5] Q85l1c)) (frameOf 58 [0, 1, 5, 6] [wsl 0, .int .i64 x0, .int .i64 x1, .int .i64 1]) ⟨[⟨true, (some (.tab sc0 x2))⟩], 1, []⟩ = w85l1d x0 x1 x2 from by kernel_rfl).trans
 (show w85l1d x0 x1 x2 = a85l1d x0 x1 x2 (r85l1d x0 x1 x2) from by unfold w85l1d r85l1d; exact (cond_both (a85l1d x0 x1 x2) _ (fun h0 => (cond_t (ev_and2 h0) (cond_app (a85l1d x0 x1 x2) _ rfl rfl))) (fun h0 => rfl)))
noncomputable def Q85l1d : SumK := fun vals s =>
 match vals, s.h with
 | [.iface f0 .nilIface, .int .i64 x0, .int .i64 x1, .int .i64 f1], [⟨true, some (.tab [.int .i64, .int .i64, .fl .f32, .fl .f32, .fl .f32, .fl .f32, .fl .f32, .fl .f32] x2)⟩] => if f0 = 0 ∧ f1 = 1 then [((Nat.beq ((r85l1d x0 x1 x2).1) 0), .exit 2, [wsl 0, .int .i64 ((r85l1d x0 x1 x2).2.1), .int .i64 x1], ⟨[⟨true, (some (.tab sc0 ((r85l1d x0 x1 x2).2.2)))⟩], 1, [0]⟩)] else Q85l1c vals s
 | _, _ => Q85l1c vals s
set_option maxRecDepth 100000 in
set_option maxHeartbeats 4000000 in
theorem qok85l1d : SumKOk Try.prog (loopN Try.f85 1) 58 [0, 1, 5, 6] [0, 1, 5] Q85l1d := by
  intro vals s x h1 h2 h3
  unfold Q85l1d at h3; split at h3
  · rename_i h; split at h3
    · rename_i hc; obtain ⟨rfl, rfl⟩ := hc; exact sum_step ok49 extOk mixed (lok85_3.inner (by kernel_rfl)) qok85l1c h1 h2 h (e85l1d _ _ _) rfl h3
    · exact qok85l1c _ _ _ h1 h2 h3
  · exact qok85l1c _ _ _ h1 h2 h3
noncomputable def L85_4 : LoopT := addL L85_3 14 ([0, 1, 5, 6], []) (sumK 58 [0, 1, 5, 6] [0, 1, 5] Q85l1d)
theorem lok85_4 : LfOkF Try.prog L85_4 Try.f85 := lfOkF_add lok85_3 qok85l1d (by kernel_rfl) (by kernel_rfl) (by kernel_rfl)

/-- laws.markWallS, loop 1 -/
noncomputable def r85l1e (x0 x1 : Int) (x2 : List (List Int)) : Nat × Int × List (List Int) :=
 let c194 := (r85l1d (IntKind.i64.wrap (x0 + 1)) x1 (x2.modify (Int.toNat x1) (fun r => spl 8 r 4 [(((ofInt .f32 x0) : Nat) : Int)])))
 cond ((decide ((0 : Int) ≤ x1)) && (Nat.blt (Int.toNat x1) x2.length))
  (cond (Nat.beq (c194.1) 0)
   (0, (c194.2.1), (c194.2.2))
   (1, 0, []))
  (1, 0, [])
noncomputable def a85l1e (x0 x1 : Int) (x2 : List (List Int)) (p : Nat × Int × List (List Int)) : Option (Fin' × List Value × St) := firstT ([((Nat.beq (p.1) 0), .exit 2, [wsl 0, .int .i64 (p.2.1), .int .i64 x1], ⟨[⟨true, (some (.tab sc0 (p.2.2)))⟩], 1, [0]⟩)].map fun (b, x) => (b, (x.1, frameOf 58 [0, 1, 5] x.2.1, x.2.2)))
noncomputable def w85l1e (x0 x1 : Int) (x2 : List (List Int)) : Option (Fin' × List Value × St) :=
 let c194 := (r85l1d (IntKind.i64.wrap (x0 + 1)) x1 (x2.modify (Int.toNat x1) (fun r => spl 8 r 4 [(((ofInt .f32 x0) : Nat) : Int)])))
 (cond ((decide ((0 : Int) ≤ x1)) && (Nat.blt (Int.toNat x1) x2.length))
 (cond (Nat.blt (Int.toNat x1) x2.length)
  (cond (Nat.beq (c194.1) 0)
   (a85l1e x0 x1 x2 (0, (c194.2.1), (c194.2.2)))
   none)
  none)
 none)
set_option maxRecDepth 100000 in
set_option maxHeartbeats 4000000 in
theorem e85l1e (x0 x1 : Int) (x2 : List (List Int)) : evC Try.prog ext T49 L85_4 200 (loopN Try.f85 1) (loopTail ([0, 1, 5, 6], []) [0, 1, 5] [] (sumK 58 [0, 1, 5, 6] [0, 1, 5] Q85l1d)) (frameOf 58 [0, 1, 5, 6] [wsl 0, .int .i64 x0, .int .i64 x1, .int .i64 0]) ⟨[⟨true, (some (.tab sc0 x2))⟩], 1, []⟩ = firstT ([((Nat.beq ((r85l1e x0 x1 x2).1) 0), .exit 2, [wsl 0, .int .i64 ((r85l1e x0 x1 x2).2.1), .int .i64 x1], ⟨[⟨true, (some (.tab sc0 ((r85l1e x0 x1 x2).2.2)))⟩], 1, [0]⟩)].map fun (b, x) => (b, (x.1, frameOf 58 [0, 1, 5] x.2.1, x.2.2))) :=
 (show evC Try.prog ext T49 L85_4 200 (loopN Try.f85 1) (loopTail ([0, 1, 5, 6], []) [0, 1, 5] [] (sumK 58 [0, 1, 5, 6] [0, 1, 5] Q85l1d)) (frameOf 58 [0, 1, 5, 6] [wsl 0, .int .i64 x0, .int .i64 x1, .int .i64 0]) ⟨[⟨true, (some (.tab sc0 x2))⟩], 1, []⟩ = w85l1e x0 x1 x2 from by kernel_rfl).trans
 (show w85l1e x0 x1 x2 = a85l1e x0 x1 x2 (r85l1e x0 x1 x2) from by unfold w85l1e r85l1e; exact (cond_both (a85l1e x0 x1 x2) _ (fun h0 => (cond_t (ev_and2 h0) (cond_app (a85l1e x0 x1 x2) _ rfl rfl))) (fun h0 => rfl)))
noncomputable def Q85l1e : SumK := fun vals s =>
 match vals, s.h with
 | [.iface f0 .nilIface, .int .i64 x0, .int .i64 x1, .int .i64 f1], [⟨true, some (.tab [.int .i64, .int .i64, .fl .f32, .fl .f32, .fl .f32, .fl .f32, .fl .f32, .fl .f32] x2)⟩] => if f0 = 0 ∧ f1 = 0 then [((Nat.beq ((r85l1e x0 x1 x2).1) 0), .exit 2, [wsl 0, .int .i64 ((r85l1e x0 x1 x2).2.1), .int .i64 x1], ⟨[⟨true, (some (.tab sc0 ((r85l1e x0 x1 x2).2.2)))⟩], 1, [0]⟩)] else Q85l1d vals s
 | _, _ => Q85l1d vals s
set_option maxRecDepth 100000 in
set_option maxHeartbeats 4000000 in
theorem qok85l1e : SumKOk Try.prog (loopN Try.f85 1) 58 [0, 1, 5, 6] [0, 1, 5] Q85l1e := by
  intro vals s x h1 h2 h3
  unfold Q85l1e at h3; split at h3
  · rename_i h; split at h3
    · rename_i hc; obtain ⟨rfl, rfl⟩ := hc; exact sum_step ok49 extOk mixed (lok85_4.inner (by kernel_rfl)) qok85l1d h1 h2 h (e85l1e _ _ _) rfl h3
    · exact qok85l1d _ _ _ h1 h2 h3
  · exact qok85l1d _ _ _ h1 h2 h3
noncomputable def L85_5 : LoopT := addL L85_4 14 ([0, 1, 5, 6], []) (sumK 58 [0, 1, 5, 6] [0, 1, 5] Q85l1e)
theorem lok85_5 : LfOkF Try.prog L85_5 Try.f85 := lfOkF_add lok85_4 qok85l1e (by kernel_rfl) (by kernel_rfl) (by kernel_rfl)

/-- laws.markWallS, loop 0: one round -/
noncomputable def b85l0 (ih : Int → Int → List (List Int) → (Nat × Int × List (List Int))) (x0 x1 : Int) (x2 : List (List Int)) : Nat × Int × List (List Int) :=
 let c196 := (r85l1e (IntKind.i64.wrap ((IntKind.i64.wrap ((IntKind.i64.wrap ((IntKind.i64.wrap (x0 + 1)) + 1)) + 1)) + 1)) x1 ((((x2.modify (Int.toNat x1) (fun r => spl 8 r 0 [x0])).modify (Int.toNat x1) (fun r => spl 8 r 1 [(IntKind.i64.wrap (x0 + 1))])).modify (Int.toNat x1) (fun r => spl 8 r 2 [(((ofInt .f32 (IntKind.i64.wrap ((IntKind.i64.wrap (x0 + 1)) + 1))) : Nat) : Int)])).modify (Int.toNat x1) (fun r => spl 8 r 3 [(((ofInt .f32 (IntKind.i64.wrap ((IntKind.i64.wrap ((IntKind.i64.wrap (x0 + 1)) + 1)) + 1))) : Nat) : Int)])))
 cond (decide ((x1 : Int) < ((x2.length : Nat) : Int)))
  (cond ((decide ((0 : Int) ≤ x1)) && (Nat.blt (Int.toNat x1) x2.length))
   (cond ((decide ((0 : Int) ≤ x1)) && (Nat.blt (Int.toNat x1) ((x2.modify (Int.toNat x1) (fun r => spl 8 r 0 [x0])).length)))
    (cond ((decide ((0 : Int) ≤ x1)) && (Nat.blt (Int.toNat x1) (((x2.modify (Int.toNat x1) (fun r => spl 8 r 0 [x0])).modify (Int.toNat x1) (fun r => spl 8 r 1 [(IntKind.i64.wrap (x0 + 1))])).length)))
     (cond ((decide ((0 : Int) ≤ x1)) && (Nat.blt (Int.toNat x1) ((((x2.modify (Int.toNat x1) (fun r => spl 8 r 0 [x0])).modify (Int.toNat x1) (fun r => spl 8 r 1 [(IntKind.i64.wrap (x0 + 1))])).modify (Int.toNat x1) (fun r => spl 8 r 2 [(((ofInt .f32 (IntKind.i64.wrap ((IntKind.i64.wrap (x0 + 1)) + 1))) : Nat) : Int)])).length)))
      (cond (Nat.beq (c196.1) 0)
       (ih (c196.2.1) (IntKind.i64.wrap (x1 + 1)) (c196.2.2))
       (1, 0, []))
      (1, 0, []))
     (1, 0, []))
    (1, 0, []))
   (1, 0, []))
  (0, x0, x2)
noncomputable def r85l0 : Nat → Int → Int → List (List Int) → (Nat × Int × List (List Int))
 | 0 => fun _ _ _ => (1, 0, [])
 | m + 1 => b85l0 (r85l0 m)
noncomputable def a85l0 (x0 x1 : Int) (x2 : List (List Int)) (p : Nat × Int × List (List Int)) : Option (Fin' × List Value × St) := firstT ([((Nat.beq (p.1) 0), .exit 0, [.int .i64 (p.2.1)], ⟨[⟨true, (some (.tab sc0 (p.2.2)))⟩], 1, [0]⟩)].map fun (b, x) => (b, (x.1, frameOf 58 [1] x.2.1, x.2.2)))
noncomputable def u85l0 (x0 x1 : Int) (x2 : List (List Int)) (p : Nat × Int × List (List Int)) : Option (Fin' × List Value × St) := alts ([((Nat.beq (p.1) 0), .exit 0, [.int .i64 (p.2.1)], ⟨[⟨true, (some (.tab sc0 (p.2.2)))⟩], 1, [0]⟩)].map fun (b, x) => (b, (x.1, frameOf 58 [1] x.2.1, x.2.2))) some
theorem v85l0 (x0 x1 : Int) (x2 : List (List Int)) (p : Nat × Int × List (List Int)) : u85l0 x0 x1 x2 p = a85l0 x0 x1 x2 p := alts_first _
noncomputable def q85l0 (m : Nat) : SumK := fun vals s =>
 match vals, s.h with
 | [.iface f0 .nilIface, .int .i64 x0, .int .i64 x1], [⟨true, some (.tab [.int .i64, .int .i64, .fl .f32, .fl .f32, .fl .f32, .fl .f32, .fl .f32, .fl .f32] x2)⟩] => if f0 = 0 then [((Nat.beq ((r85l0 m x0 x1 x2).1) 0), .exit 0, [.int .i64 ((r85l0 m x0 x1 x2).2.1)], ⟨[⟨true, (some (.tab sc0 ((r85l0 m x0 x1 x2).2.2)))⟩], 1, [0]⟩)] else noQ vals s
 | _, _ => noQ vals s
noncomputable def w85l0 (ih : Int → Int → List (List Int) → (Nat × Int × List (List Int))) (x0 x1 : Int) (x2 : List (List Int)) : Option (Fin' × List Value × St) :=
 let c196 := (r85l1e (IntKind.i64.wrap ((IntKind.i64.wrap ((IntKind.i64.wrap ((IntKind.i64.wrap (x0 + 1)) + 1)) + 1)) + 1)) x1 ((((x2.modify (Int.toNat x1) (fun r => spl 8 r 0 [x0])).modify (Int.toNat x1) (fun r => spl 8 r 1 [(IntKind.i64.wrap (x0 + 1))])).modify (Int.toNat x1) (fun r => spl 8 r 2 [(((ofInt .f32 (IntKind.i64.wrap ((IntKind.i64.wrap (x0 + 1)) + 1))) : Nat) : Int)])).modify (Int.toNat x1) (fun r => spl 8 r 3 [(((ofInt .f32 (IntKind.i64.wrap ((IntKind.i64.wrap ((IntKind.i64.wrap (x0 + 1)) + 1)) + 1))) : Nat) : Int)])))
 (cond (decide ((x1 : Int) < ((x2.length : Nat) : Int)))
 (cond ((decide ((0 : Int) ≤ x1)) && (Nat.blt (Int.toNat x1) x2.length))
  (cond (Nat.blt (Int.toNat x1) x2.length)
   (cond ((decide ((0 : Int) ≤ x1)) && (Nat.blt (Int.toNat x1) ((x2.modify (Int.toNat x1) (fun r => spl 8 r 0 [x0])).length)))
    (cond (Nat.blt (Int.toNat x1) ((x2.modify (Int.toNat x1) (fun r => spl 8 r 0 [x0])).length))
     (cond ((decide ((0 : Int) ≤ x1)) && (Nat.blt (Int.toNat x1) (((x2.modify (Int.toNat x1) (fun r => spl 8 r 0 [x0])).modify (Int.toNat x1) (fun r => spl 8 r 1 [(IntKind.i64.wrap (x0 + 1))])).length)))
      (cond (Nat.blt (Int.toNat x1) (((x2.modify (Int.toNat x1) (fun r => spl 8 r 0 [x0])).modify (Int.toNat x1) (fun r => spl 8 r 1 [(IntKind.i64.wrap (x0 + 1))])).length))
       (cond ((decide ((0 : Int) ≤ x1)) && (Nat.blt (Int.toNat x1) ((((x2.modify (Int.toNat x1) (fun r => spl 8 r 0 [x0])).modify (Int.toNat x1) (fun r => spl 8 r 1 [(IntKind.i64.wrap (x0 + 1))])).modify (Int.toNat x1) (fun r => spl 8 r 2 [(((ofInt .f32 (IntKind.i64.wrap ((IntKind.i64.wrap (x0 + 1)) + 1))) : Nat) : Int)])).length)))
        (cond (Nat.blt (Int.toNat x1) ((((x2.modify (Int.toNat x1) (fun r => spl 8 r 0 [x0])).modify (Int.toNat x1) (fun r => spl 8 r 1 [(IntKind.i64.wrap (x0 + 1))])).modify (Int.toNat x1) (fun r => spl 8 r 2 [(((ofInt .f32 (IntKind.i64.wrap ((IntKind.i64.wrap (x0 + 1)) + 1))) : Nat) : Int)])).length))
         (cond (Nat.beq (c196.1) 0)
          (u85l0 x0 x1 x2 (ih (c196.2.1) (IntKind.i64.wrap (x1 + 1)) (c196.2.2)))
          none)
         none)
        none)
       none)
      none)
     none)
    none)
   none)
  none)
 (a85l0 x0 x1 x2 (0, x0, x2)))
set_option maxRecDepth 100000 in
set_option maxHeartbeats 4000000 in
theorem e85l0 (m : Nat) (x0 x1 : Int) (x2 : List (List Int)) : evC Try.prog ext T49 L85_5 200 (loopN Try.f85 0) (loopTail ([0, 1, 5], []) [1] [0] (sumK 58 [0, 1, 5] [1] (q85l0 m))) (frameOf 58 [0, 1, 5] [wsl 0, .int .i64 x0, .int .i64 x1]) ⟨[⟨true, (some (.tab sc0 x2))⟩], 1, []⟩ = firstT ([((Nat.beq ((r85l0 (m + 1) x0 x1 x2).1) 0), .exit 0, [.int .i64 ((r85l0 (m + 1) x0 x1 x2).2.1)], ⟨[⟨true, (some (.tab sc0 ((r85l0 (m + 1) x0 x1 x2).2.2)))⟩], 1, [0]⟩)].map fun (b, x) => (b, (x.1, frameOf 58 [1] x.2.1, x.2.2))) :=
 (show evC Try.prog ext T49 L85_5 200 (loopN Try.f85 0) (loopTail ([0, 1, 5], []) [1] [0] (sumK 58 [0, 1, 5] [1] (q85l0 m))) (frameOf 58 [0, 1, 5] [wsl 0, .int .i64 x0, .int .i64 x1]) ⟨[⟨true, (some (.tab sc0 x2))⟩], 1, []⟩ = w85l0 (r85l0 m) x0 x1 x2 from by kernel_rfl).trans
 (show w85l0 (r85l0 m) x0 x1 x2 = a85l0 x0 x1 x2 (r85l0 (m + 1) x0 x1 x2) from by unfold w85l0; show _ = a85l0 x0 x1 x2 (b85l0 (r85l0 m) x0 x1 x2); unfold b85l0; exact (cond_both (a85l0 x0 x1 x2) _ (fun h0 => (cond_both (a85l0 x0 x1 x2) _ (fun h1 => (cond_t (ev_and2 h1) (cond_both (a85l0 x0 x1 x2) _ (fun h2 => (cond_t (ev_and2 h2) (cond_both (a85l0 x0 x1 x2) _ (fun h3 => (cond_t (ev_and2 h3) (cond_both (a85l0 x0 x1 x2) _ (fun h4 => (cond_t (ev_and2 h4) (cond_app (a85l0 x0 x1 x2) _ (v85l0 x0 x1 x2 ((r85l0 m) ((r85l1e (IntKind.i64.wrap ((IntKind.i64.wrap ((IntKind.i64.wrap ((IntKind.i64.wrap (x0 + 1)) + 1)) + 1)) + 1)) x1 ((((x2.modify (Int.toNat x1) (fun r => spl 8 r 0 [x0])).modify (Int.toNat x1) (fun r => spl 8 r 1 [(IntKind.i64.wrap (x0 + 1))])).modify (Int.toNat x1) (fun r => spl 8 r 2 [(((ofInt .f32 (IntKind.i64.wrap ((IntKind.i64.wrap (x0 + 1)) + 1))) : Nat) : Int)])).modify (Int.toNat x1) (fun r => spl 8 r 3 [(((ofInt .f32 (IntKind.i64.wrap ((IntKind.i64.wrap ((IntKind.i64.wrap (x0 + 1)) + 1)) + 1))) : Nat) : Int)]))).2.1) (IntKind.i64.wrap (x1 + 1)) ((r85l1e (IntKind.i64.wrap ((IntKind.i64.wrap ((IntKind.i64.wrap ((IntKind.i64.wrap (x0 + 1)) + 1)) + 1)) + 1)) x1 ((((x2.modify (Int.toNat x1) (fun r => spl 8 r 0 [x0])).modify (Int.toNat x1) (fun r => spl 8 r 1 [(IntKind.i64.wrap (x0 + 1))])).modify (Int.toNat x1) (fun r => spl 8 r 2 [(((ofInt .f32 (IntKind.i64.wrap ((IntKind.i64.wrap (x0 + 1)) + 1))) : Nat) : Int)])).modify (Int.toNat x1) (fun r => spl 8 r 3 [(((ofInt .f32 (IntKind.i64.wrap ((IntKind.i64.wrap ((IntKind.i64.wrap (x0 + 1)) + 1)) + 1))) : Nat) : Int)]))).2.2))) rfl))) (fun h4 => rfl)))) (fun h3 => rfl)))) (fun h2 => rfl)))) (fun h1 => rfl))) (fun h0 => rfl)))
set_option maxRecDepth 100000 in
set_option maxHeartbeats 4000000 in
theorem qm85l0 : ∀ m, SumKOk Try.prog (loopN Try.f85 0) 58 [0, 1, 5] [1] (q85l0 m) := by
  intro m
  induction m with
  | zero =>
    intro vals s x h1 h2 h3
    unfold q85l0 at h3; split at h3
    · rename_i h; split at h3
      · rename_i hc; obtain ⟨rfl⟩ := hc; exact absurd h3 (by simp [r85l0, firstT, Nat.beq])
      · exact noQ_ok _ _ _ h1 h2 h3
    · exact noQ_ok _ _ _ h1 h2 h3
  | succ m ih =>
    intro vals s x h1 h2 h3
    unfold q85l0 at h3; split at h3
    · rename_i h; split at h3
      · rename_i hc; obtain ⟨rfl⟩ := hc; exact sum_step ok49 extOk mixed (lok85_5.inner (by kernel_rfl)) ih h1 h2 h (e85l0 m _ _ _) rfl h3
      · exact noQ_ok _ _ _ h1 h2 h3
    · exact noQ_ok _ _ _ h1 h2 h3
noncomputable def Q85l0 : SumK := fun vals s => q85l0 (fuelOf vals s.h) vals s
theorem qok85l0 : SumKOk Try.prog (loopN Try.f85 0) 58 [0, 1, 5] [1] Q85l0 := fuel_ok qm85l0 fuelOf
noncomputable def L85_6 : LoopT := addL L85_5 3 ([0, 1, 5], []) (sumK 58 [0, 1, 5] [1] Q85l0)
theorem lok85_6 : LfOkF Try.prog L85_6 Try.f85 := lfOkF_add lok85_5 qok85l0 (by kernel_rfl) (by kernel_rfl) (by kernel_rfl)

/-- laws.markWallS -/
noncomputable def r85 (x0 : Int) (x1 : List (List Int)) : Nat × Int × List (List Int) :=
 cond (Nat.beq ((r85l0 (1000 + x1.length) x0 0 x1).1) 0)
  (0, ((r85l0 (1000 + x1.length) x0 0 x1).2.1), ((r85l0 (1000 + x1.length) x0 0 x1).2.2))
  (1, 0, [])
noncomputable def a85 (x0 : Int) (x1 : List (List Int)) (p : Nat × Int × List (List Int)) : Res := firstT [((Nat.beq (p.1) 0), .int .i64 (p.2.1), ⟨[⟨true, (some (.tab sc0 (p.2.2)))⟩], 1, [0]⟩)]
noncomputable def w85 (x0 : Int) (x1 : List (List Int)) : Res :=
 (cond (Nat.beq ((r85l0 (1000 + x1.length) x0 0 x1).1) 0)
 (a85 x0 x1 (0, ((r85l0 (1000 + x1.length) x0 0 x1).2.1), ((r85l0 (1000 + x1.length) x0 0 x1).2.2)))
 none)
set_option maxRecDepth 100000 in
set_option maxHeartbeats 4000000 in
theorem e85 (x0 : Int) (x1 : List (List Int)) : evFn Try.prog ext T49 L85_6 200 Try.f85 [wsl 0, .int .i64 x0] ⟨[⟨true, (some (.tab sc0 x1))⟩], 1, []⟩ = firstT [((Nat.beq ((r85 x0 x1).1) 0), .int .i64 ((r85 x0 x1).2.1), ⟨[⟨true, (some (.tab sc0 ((r85 x0 x1).2.2)))⟩], 1, [0]⟩)] :=
 (show evFn Try.prog ext T49 L85_6 200 Try.f85 [wsl 0, .int .i64 x0] ⟨[⟨true, (some (.tab sc0 x1))⟩], 1, []⟩ = w85 x0 x1 from by kernel_rfl).trans
 (show w85 x0 x1 = a85 x0 x1 (r85 x0 x1) from by unfold w85 r85; exact (cond_app (a85 x0 x1) _ rfl rfl))
noncomputable def s85 (args : List Value) (s : St) : List (Bool × Value × St) :=
 match args, s.h with
 | [.iface f0 .nilIface, .int .i64 x0], [⟨true, some (.tab [.int .i64, .int .i64, .fl .f32, .fl .f32, .fl .f32, .fl .f32, .fl .f32, .fl .f32] x1)⟩] => if f0 = 0 then [((Nat.beq ((r85 x0 x1).1) 0), .int .i64 ((r85 x0 x1).2.1), ⟨[⟨true, (some (.tab sc0 ((r85 x0 x1).2.2)))⟩], 1, [0]⟩)] else T49 85 args s
 | _, _ => T49 85 args s
noncomputable def T50 : CallF := addF T49 85 s85
set_option maxRecDepth 100000 in
set_option maxHeartbeats 4000000 in
theorem ok50 : CfOk Try.prog T50 := by
  refine cfOk_add ok49 fun args s r s' h1 h2 h3 => ?_
  unfold s85 at h3; split at h3
  · rename_i h; split at h3
    · rename_i hc; obtain ⟨rfl⟩ := hc; exact callOk ok49 Try.func85 h1 h2 h lok85_6.body (e85 _ _) rfl h3
    · exact ok49 _ _ _ _ _ h1 h2 h3
  · exact ok49 _ _ _ _ _ h1 h2 h3

/-- laws.markPaneS, loop 0: one round -/
noncomputable def b86l0 (ih : Int → Int → List (List Int) → (Nat × Int × List (List Int))) (x0 x1 : Int) (x2 : List (List Int)) : Nat × Int × List (List Int) :=
 cond (decide ((x1 : Int) < ((x2.length : Nat) : Int)))
  (cond ((decide ((0 : Int) ≤ x1)) && (Nat.blt (Int.toNat x1) x2.length))
   (cond ((decide ((0 : Int) ≤ x1)) && (Nat.blt (Int.toNat x1) ((x2.modify (Int.toNat x1) (fun r => spl 4 r 0 [x0])).length)))
    (cond ((decide ((0 : Int) ≤ x1)) && (Nat.blt (Int.toNat x1) (((x2.modify (Int.toNat x1) (fun r => spl 4 r 0 [x0])).modify (Int.toNat x1) (fun r => spl 4 r 1 [(IntKind.i64.wrap (x0 + 1))])).length)))
     (cond ((decide ((0 : Int) ≤ x1)) && (Nat.blt (Int.toNat x1) ((((x2.modify (Int.toNat x1) (fun r => spl 4 r 0 [x0])).modify (Int.toNat x1) (fun r => spl 4 r 1 [(IntKind.i64.wrap (x0 + 1))])).modify (Int.toNat x1) (fun r => spl 4 r 2 [(((ofInt .f32 (IntKind.i64.wrap ((IntKind.i64.wrap (x0 + 1)) + 1))) : Nat) : Int)])).length)))
      (ih (IntKind.i64.wrap ((IntKind.i64.wrap ((IntKind.i64.wrap ((IntKind.i64.wrap (x0 + 1)) + 1)) + 1)) + 1)) (IntKind.i64.wrap (x1 + 1)) ((((x2.modify (Int.toNat x1) (fun r => spl 4 r 0 [x0])).modify (Int.toNat x1) (fun r => spl 4 r 1 [(IntKind.i64.wrap (x0 + 1))])).modify (Int.toNat x1) (fun r => spl 4 r 2 [(((ofInt .f32 (IntKind.i64.wrap ((IntKind.i64.wrap (x0 + 1)) + 1))) : Nat) : Int)])).modify (Int.toNat x1) (fun r => spl 4 r 3 [(((ofInt .f32 (IntKind.i64.wrap ((IntKind.i64.wrap ((IntKind.i64.wrap (x0 + 1)) + 1)) + 1))) : Nat) : Int)])))
      (1, 0, []))
     (1, 0, []))
    (1, 0, []))
   (1, 0, []))
  (0, x0, x2)
noncomputable def r86l0 : Nat → Int → Int → List (List Int) → (Nat × Int × List (List Int))
 | 0 => fun _ _ _ => (1, 0, [])
 | m + 1 => b86l0 (r86l0 m)
noncomputable def a86l0 (x0 x1 : Int) (x2 : List (List Int)) (p : Nat × Int × List (List Int)) : Option (Fin' × List Value × St) := firstT ([((Nat.beq (p.1) 0), .exit 0, [.int .i64 (p.2.1)], ⟨[⟨true, (some (.tab sc1 (p.2.2)))⟩], 1, [0]⟩)].map fun (b, x) => (b, (x.1, frameOf 43 [1] x.2.1, x.2.2)))
noncomputable def u86l0 (x0 x1 : Int) (x2 : List (List Int)) (p : Nat × Int × List (List Int)) : Option (Fin' × List Value × St) := alts ([((Nat.beq (p.1) 0), .exit 0, [.int .i64 (p.2.1)], ⟨[⟨true, (some (.tab sc1 (p.2.2)))⟩], 1, [0]⟩)].map fun (b, x) => (b, (x.1, frameOf 43 [1] x.2.1, x.2.2))) some
theorem v86l0 (x0 x1 : Int) (x2 : List (List Int)) (p : Nat × Int × List (List Int)) : u86l0 x0 x1 x2 p = a86l0 x0 x1 x2 p := alts_first _
noncomputable def q86l0 (m : Nat) : SumK := fun vals s =>
 match vals, s.h with
 | [.iface f0 .nilIface, .int .i64 x0, .int .i64 x1], [⟨true, some (.tab [.int .i64, .int .i64, .fl .f32, .fl .f32] x2)⟩] => if f0 = 0 then [((Nat.beq ((r86l0 m x0 x1 x2).1) 0), .exit 0, [.int .i64 ((r86l0 m x0 x1 x2).2.1)], ⟨[⟨true, (some (.tab sc1 ((r86l0 m x0 x1 x2).2.2)))⟩], 1, [0]⟩)] else noQ vals s
 | _, _ => noQ vals s
noncomputable def w86l0 (ih : Int → Int → List (List Int) → (Nat × Int × List (List Int))) (x0 x1 : Int) (x2 : List (List Int)) : Option (Fin' × List Value × St) :=
 (cond (decide ((x1 : Int) < ((x2.length : Nat) : Int)))
 (cond ((decide ((0 : Int) ≤ x1)) && (Nat.blt (Int.toNat x1) x2.length))
  (cond (Nat.blt (Int.toNat x1) x2.length)
   (cond ((decide ((0 : Int) ≤ x1)) && (Nat.blt (Int.toNat x1) ((x2.modify (Int.toNat x1) (fun r => spl 4 r 0 [x0])).length)))
    (cond (Nat.blt (Int.toNat x1) ((x2.modify (Int.toNat x1) (fun r => spl 4 r 0 [x0])).length))
     (cond ((decide ((0 : Int) ≤ x1)) && (Nat.blt (Int.toNat x1) (((x2.modify (Int.toNat x1) (fun r => spl 4 r 0 [x0])).modify (Int.toNat x1) (fun r => spl 4 r 1 [(IntKind.i64.wrap (x0 + 1))])).length)))
      (cond (Nat.blt (Int.toNat x1) (((x2.modify (Int.toNat x1) (fun r => spl 4 r 0 [x0])).modify (Int.toNat x1) (fun r => spl 4 r 1 [(IntKind.i64.wrap (x0 + 1))])).length))
       (cond ((decide ((0 : Int) ≤ x1)) && (Nat.blt (Int.toNat x1) ((((x2.modify (Int.toNat x1) (fun r => spl 4 r 0 [x0])).modify (Int.toNat x1) (fun r => spl 4 r 1 [(IntKind.i64.wrap (x0 + 1))])).modify (Int.toNat x1) (fun r => spl 4 r 2 [(((ofInt .f32 (IntKind.i64.wrap ((IntKind.i64.wrap (x0 + 1)) + 1))) : Nat) : Int)])).length)))
        (cond (Nat.blt (Int.toNat x1) ((((x2.modify (Int.toNat x1) (fun r => spl 4 r 0 [x0])).modify (Int.toNat x1) (fun r => spl 4 r 1 [(IntKind.i64.wrap (x0 + 1))])).modify (Int.toNat x1) (fun r => spl 4 r 2 [(((ofInt .f32 (IntKind.i64.wrap ((IntKind.i64.wrap (x0 + 1)) + 1))) : Nat) : Int)])).length))
         (u86l0 x0 x1 x2 (ih (IntKind.i64.wrap ((IntKind.i64.wrap ((IntKind.i64.wrap ((IntKind.i64.wrap (x0 + 1)) + 1)) + 1)) + 1)) (IntKind.i64.wrap (x1 + 1)) ((((x2.modify (Int.toNat x1) (fun r => spl 4 r 0 [x0])).modify (Int.toNat x1) (fun r => spl 4 r 1 [(IntKind.i64.wrap (x0 + 1))])).modify (Int.toNat x1) (fun r => spl 4 r 2 [(((ofInt .f32 (IntKind.i64.wrap ((IntKind.i64.wrap (x0 + 1)) + 1))) : Nat) : Int)])).modify (Int.toNat x1) (fun r => spl 4 r 3 [(((ofInt .f32 (IntKind.i64.wrap ((IntKind.i64.wrap ((IntKind.i64.wrap (x0 + 1)) + 1)) + 1))) : Nat) : Int)]))))
         none)
        none)
       none)
      none)
     none)
    none)
   none)
  none)
 (a86l0 x0 x1 x2 (0, x0, x2)))
set_option maxRecDepth 100000 in
set_option maxHeartbeats 4000000 in
theorem e86l0 (m : Nat) (x0 x1 : Int) (x2 : List (List Int)) : evC Try.prog ext T50 noL 200 (loopN Try.f86 0) (loopTail ([0, 1, 5], []) [1] [0] (sumK 43 [0, 1, 5] [1] (q86l0 m))) (frameOf 43 [0, 1, 5] [wsl 0, .int .i64 x0, .int .i64 x1]) ⟨[⟨true, (some (.tab sc1 x2))⟩], 1, []⟩ = firstT ([((Nat.beq ((r86l0 (m + 1) x0 x1 x2).1) 0), .exit 0, [.int .i64 ((r86l0 (m + 1) x0 x1 x2).2.1)], ⟨[⟨true, (some (.tab sc1 ((r86l0 (m + 1) x0 x1 x2).2.2)))⟩], 1, [0]⟩)].map fun (b, x) => (b, (x.1, frameOf 43 [1] x.2.1, x.2.2))) :=
 (show evC Try.prog ext T50 noL 200 (loopN Try.f86 0) (loopTail ([0, 1, 5], []) [1] [0] (sumK 43 [0, 1, 5] [1] (q86l0 m))) (frameOf 43 [0, 1, 5] [wsl 0, .int .i64 x0, .int .i64 x1]) ⟨[⟨true, (some (.tab sc1 x2))⟩], 1, []⟩ = w86l0 (r86l0 m) x0 x1 x2 from by kernel_rfl).trans
 (show w86l0 (r86l0 m) x0 x1 x2 = a86l0 x0 x1 x2 (r86l0 (m + 1) x0 x1 x2) from by unfold w86l0; show _ = a86l0 x0 x1 x2 (b86l0 (r86l0 m) x0 x1 x2); unfold b86l0; exact (cond_both (a86l0 x0 x1 x2) _ (fun h0 => (cond_both (a86l0 x0 x1 x2) _ (fun h1 => (cond_t (ev_and2 h1) (cond_both (a86l0 x0 x1 x2) _ (fun h2 => (cond_t (ev_and2 h2) (cond_both (a86l0 x0 x1 x2) _ (fun h3 => (cond_t (ev_and2 h3) (cond_both (a86l0 x0 x1 x2) _ (fun h4 => (cond_t (ev_and2 h4) (v86l0 x0 x1 x2 ((r86l0 m) (IntKind.i64.wrap ((IntKind.i64.wrap ((IntKind.i64.wrap ((IntKind.i64.wrap (x0 + 1)) + 1)) + 1)) + 1)) (IntKind.i64.wrap (x1 + 1)) ((((x2.modify (Int.toNat x1) (fun r => spl 4 r 0 [x0])).modify (Int.toNat x1) (fun r => spl 4 r 1 [(IntKind.i64.wrap (x0 + 1))])).modify (Int.toNat x1) (fun r => spl 4 r 2 [(((ofInt .f32 (IntKind.i64.wrap ((IntKind.i64.wrap (x0 + 1)) + 1))) : Nat) : Int)])).modify (Int.toNat x1) (fun r => spl 4 r 3 [(((ofInt .f32 (IntKind.i64.wrap ((IntKind.i64.wrap ((IntKind.i64.wrap (x0 + 1)) + 1)) + 1))) : Nat) : Int)])))))) (fun h4 => rfl)))) (fun h3 => rfl)))) (fun h2 => rfl)))) (fun h1 => rfl))) (fun h0 => rfl)))
set_option maxRecDepth 100000 in
set_option maxHeartbeats 4000000 in
theorem qm86l0 : ∀ m, SumKOk Try.prog (loopN Try.f86 0) 43 [0, 1, 5] [1] (q86l0 m) := by
  intro m
  induction m with
  | zero =>
    intro vals s x h1 h2 h3
    unfold q86l0 at h3; split at h3
    · rename_i h; split at h3
      · rename_i hc; obtain ⟨rfl⟩ := hc; exact absurd h3 (by simp [r86l0, firstT, Nat.beq])
      · exact noQ_ok _ _ _ h1 h2 h3
    · exact noQ_ok _ _ _ h1 h2 h3
  | succ m ih =>
    intro vals s x h1 h2 h3
    unfold q86l0 at h3; split at h3
    · rename_i h; split at h3
      · rename_i hc; obtain ⟨rfl⟩ := hc; exact sum_step ok50 extOk mixed ((lfOkF_no _ _).inner (by kernel_rfl)) ih h1 h2 h (e86l0 m _ _ _) rfl h3
      · exact noQ_ok _ _ _ h1 h2 h3
    · exact noQ_ok _ _ _ h1 h2 h3
noncomputable def Q86l0 : SumK := fun vals s => q86l0 (fuelOf vals s.h) vals s
theorem qok86l0 : SumKOk Try.prog (loopN Try.f86 0) 43 [0, 1, 5] [1] Q86l0 := fuel_ok qm86l0 fuelOf
noncomputable def L86_1 : LoopT := addL noL 3 ([0, 1, 5], []) (sumK 43 [0, 1, 5] [1] Q86l0)
theorem lok86_1 : LfOkF Try.prog L86_1 Try.f86 := lfOkF_add (lfOkF_no _ _) qok86l0 (by kernel_rfl) (by kernel_rfl) (by kernel_rfl)

/-- laws.markPaneS -/
noncomputable def r86 (x0 : Int) (x1 : List (List Int)) : Nat × Int × List (List Int) :=
 cond (Nat.beq ((r86l0 (1000 + x1.length) x0 0 x1).1) 0)
  (0, ((r86l0 (1000 + x1.length) x0 0 x1).2.1), ((r86l0 (1000 + x1.length) x0 0 x1).2.2))
  (1, 0, [])
noncomputable def a86 (x0 : Int) (x1 : List (List Int)) (p : Nat × Int × List (List Int)) : Res := firstT [((Nat.beq (p.1) 0), .int .i64 (p.2.1), ⟨[⟨true, (some (.tab sc1 (p.2.2)))⟩], 1, [0]⟩)]
noncomputable def w86 (x0 : Int) (x1 : List (List Int)) : Res :=
 (cond (Nat.beq ((r86l0 (1000 + x1.length) x0 0 x1).1) 0)
 (a86 x0 x1 (0, ((r86l0 (1000 + x1.length) x0 0 x1).2.1), ((r86l0 (1000 + x1.length) x0 0 x1).2.2)))
 none)
set_option maxRecDepth 100000 in
set_option maxHeartbeats 4000000 in
theorem e86 (x0 : Int) (x1 : List (List Int)) : evFn Try.prog ext T50 L86_1 200 Try.f86 [wsl 0, .int .i64 x0] ⟨[⟨true, (some (.tab sc1 x1))⟩], 1, []⟩ = firstT [((Nat.beq ((r86 x0 x1).1) 0), .int .i64 ((r86 x0 x1).2.1), ⟨[⟨true, (some (.tab sc1 ((r86 x0 x1).2.2)))⟩], 1, [0]⟩)] :=
 (show evFn Try.prog ext T50 L86_1 200 Try.f86 [wsl 0, .int .i64 x0] ⟨[⟨true, (some (.tab sc1 x1))⟩], 1, []⟩ = w86 x0 x1 from by kernel_rfl).trans
 (show w86 x0 x1 = a86 x0 x1 (r86 x0 x1) from by unfold w86 r86; exact (cond_app (a86 x0 x1) _ rfl rfl))
noncomputable def s86 (args : List Value) (s : St) : List (Bool × Value × St) :=
 match args, s.h with
 | [.iface f0 .nilIface, .int .i64 x0], [⟨true, some (.tab [.int .i64, .int .i64, .fl .f32, .fl .f32] x1)⟩] => if f0 = 0 then [((Nat.beq ((r86 x0 x1).1) 0), .int .i64 ((r86 x0 x1).2.1), ⟨[⟨true, (some (.tab sc1 ((r86 x0 x1).2.2)))⟩], 1, [0]⟩)] else T50 86 args s
 | _, _ => T50 86 args s
noncomputable def T51 : CallF := addF T50 86 s86
set_option maxRecDepth 100000 in
set_option maxHeartbeats 4000000 in
theorem ok51 : CfOk Try.prog T51 := by
  refine cfOk_add ok50 fun args s r s' h1 h2 h3 => ?_
  unfold s86 at h3; split at h3
  · rename_i h; split at h3
    · rename_i hc; obtain ⟨rfl⟩ := hc; exact callOk ok50 Try.func86 h1 h2 h lok86_1.body (e86 _ _) rfl h3
    · exact ok50 _ _ _ _ _ h1 h2 h3
  · exact ok50 _ _ _ _ _ h1 h2 h3

/-- laws.markFlat -/
noncomputable def r32 (x0 : Int) (x1 x2 x3 x4 : List (List Int)) : Nat × Int × List (List Int) × List (List Int) × List (List Int) × List (List Int) :=
 cond (Nat.beq ((r33 x0 x1).1) 0)
  (cond (Nat.beq ((r33 ((r33 x0 x1).2.1) x2).1) 0)
   (cond (Nat.beq ((r85 ((r33 ((r33 x0 x1).2.1) x2).2.1) x3).1) 0)
    (cond (Nat.beq ((r86 ((r85 ((r33 ((r33 x0 x1).2.1) x2).2.1) x3).2.1) x4).1) 0)
     (0, ((r86 ((r85 ((r33 ((r33 x0 x1).2.1) x2).2.1) x3).2.1) x4).2.1), ((r33 x0 x1).2.2), ((r33 ((r33 x0 x1).2.1) x2).2.2), ((r85 ((r33 ((r33 x0 x1).2.1) x2).2.1) x3).2.2), ((r86 ((r85 ((r33 ((r33 x0 x1).2.1) x2).2.1) x3).2.1) x4).2.2))
     (1, 0, [], [], [], []))
    (1, 0, [], [], [], []))
   (1, 0, [], [], [], []))
  (1, 0, [], [], [], [])
noncomputable def a32 (x0 : Int) (x1 x2 x3 x4 : List (List Int)) (p : Nat × Int × List (List Int) × List (List Int) × List (List Int) × List (List Int)) : Res := firstT [((Nat.beq (p.1) 0), .int .i64 (p.2.1), ⟨[⟨true, (some (.tab [.fl .f32] (p.2.2.1)))⟩, ⟨true, (some (.tab [.fl .f32] (p.2.2.2.1)))⟩, ⟨true, (some (.tab sc0 (p.2.2.2.2.1)))⟩, ⟨true, (some (.tab sc1 (p.2.2.2.2.2)))⟩], 4, [0, 1, 2, 3]⟩)]
noncomputable def w32 (x0 : Int) (x1 x2 x3 x4 : List (List Int)) : Res :=
 (cond (Nat.beq ((r33 x0 x1).1) 0)
 (cond (Nat.beq ((r33 ((r33 x0 x1).2.1) x2).1) 0)
  (cond (Nat.beq ((r85 ((r33 ((r33 x0 x1).2.1) x2).2.1) x3).1) 0)
   (cond (Nat.beq ((r86 ((r85 ((r33 ((r33 x0 x1).2.1) x2).2.1) x3).2.1) x4).1) 0)
    (a32 x0 x1 x2 x3 x4 (0, ((r86 ((r85 ((r33 ((r33 x0 x1).2.1) x2).2.1) x3).2.1) x4).2.1), ((r33 x0 x1).2.2), ((r33 ((r33 x0 x1).2.1) x2).2.2), ((r85 ((r33 ((r33 x0 x1).2.1) x2).2.1) x3).2.2), ((r86 ((r85 ((r33 ((r33 x0 x1).2.1) x2).2.1) x3).2.1) x4).2.2)))
    none)
   none)
  none)
 none)
set_option maxRecDepth 100000 in
set_option maxHeartbeats 4000000 in
theorem e32 (x0 : Int) (x1 x2 x3 x4 : List (List Int)) : evFn Try.prog ext T51 noL 200 Try.f32 [.agg #[wsl 0, wsl 1, wsl 2, wsl 3], .int .i64 x0] ⟨[⟨true, (some (.tab [.fl .f32] x1))⟩, ⟨true, (some (.tab [.fl .f32] x2))⟩, ⟨true, (some (.tab sc0 x3))⟩, ⟨true, (some (.tab sc1 x4))⟩], 4, []⟩ = firstT [((Nat.beq ((r32 x0 x1 x2 x3 x4).1) 0), .int .i64 ((r32 x0 x1 x2 x3 x4).2.1), ⟨[⟨true, (some (.tab [.fl .f32] ((r32 x0 x1 x2 x3 x4).2.2.1)))⟩, ⟨true, (some (.tab [.fl .f32] ((r32 x0 x1 x2 x3 x4).2.2.2.1)))⟩, ⟨true, (some (.tab sc0 ((r32 x0 x1 x2 x3 x4).2.2.2.2.1)))⟩, ⟨true, (some (.tab sc1 ((r32 x0 x1 x2 x3 x4).2.2.2.2.2)))⟩], 4, [0, 1, 2, 3]⟩)] :=
 (show evFn Try.prog ext T51 noL 200 Try.f32 [.agg #[wsl 0, wsl 1, wsl 2, wsl 3], .int .i64 x0] ⟨[⟨true, (some (.tab [.fl .f32] x1))⟩, ⟨true, (some (.tab [.fl .f32] x2))⟩, ⟨true, (some (.tab sc0 x3))⟩, ⟨true, (some (.tab sc1 x4))⟩], 4, []⟩ = w32 x0 x1 x2 x3 x4 from by kernel_rfl).trans
 (show w32 x0 x1 x2 x3 x4 = a32 x0 x1 x2 x3 x4 (r32 x0 x1 x2 x3 x4) from by unfold w32 r32; exact (cond_app (a32 x0 x1 x2 x3 x4) _ (cond_app (a32 x0 x1 x2 x3 x4) _ (cond_app (a32 x0 x1 x2 x3 x4) _ (cond_app (a32 x0 x1 x2 x3 x4) _ rfl rfl) rfl) rfl) rfl))
noncomputable def s32 (args : List Value) (s : St) : List (Bool × Value × St) :=
 match args, s.h with
 | [.agg ⟨[.iface f0 .nilIface, .iface f1 .nilIface, .iface f2 .nilIface, .iface f3 .nilIface]⟩, .int .i64 x0], [⟨true, some (.tab [.fl .f32] x1)⟩, ⟨true, some (.tab [.fl .f32] x2)⟩, ⟨true, some (.tab [.int .i64, .int .i64, .fl .f32, .fl .f32, .fl .f32, .fl .f32, .fl .f32, .fl .f32] x3)⟩, ⟨true, some (.tab [.int .i64, .int .i64, .fl .f32, .fl .f32] x4)⟩] => if f0 = 0 ∧ f1 = 1 ∧ f2 = 2 ∧ f3 = 3 then [((Nat.beq ((r32 x0 x1 x2 x3 x4).1) 0), .int .i64 ((r32 x0 x1 x2 x3 x4).2.1), ⟨[⟨true, (some (.tab [.fl .f32] ((r32 x0 x1 x2 x3 x4).2.2.1)))⟩, ⟨true, (some (.tab [.fl .f32] ((r32 x0 x1 x2 x3 x4).2.2.2.1)))⟩, ⟨true, (some (.tab sc0 ((r32 x0 x1 x2 x3 x4).2.2.2.2.1)))⟩, ⟨true, (some (.tab sc1 ((r32 x0 x1 x2 x3 x4).2.2.2.2.2)))⟩], 4, [0, 1, 2, 3]⟩)] else T51 32 args s
 | _, _ => T51 32 args s
noncomputable def T52 : CallF := addF T51 32 s32
set_option maxRecDepth 100000 in
set_option maxHeartbeats 4000000 in
theorem ok52 : CfOk Try.prog T52 := by
  refine cfOk_add ok51 fun args s r s' h1 h2 h3 => ?_
  unfold s32 at h3; split at h3
  · rename_i h; split at h3
    · rename_i hc; obtain ⟨rfl, rfl, rfl, rfl⟩ := hc; exact callOk ok51 Try.func32 h1 h2 h (lfOkF_no _ _).body (e32 _ _ _ _ _) rfl h3
    · exact ok51 _ _ _ _ _ h1 h2 h3
  · exact ok51 _ _ _ _ _ h1 h2 h3

/-- laws.markFloat32S, loop 0 -/
noncomputable def r33l0b (x0 : Int) : Unit :=
 ()
noncomputable def a33l0b (x0 : Int) (p : Unit) : Option (Fin' × List Value × St) := firstT ([(true, .exit 0, [.int .i64 x0], st0)].map fun (b, x) => (b, (x.1, frameOf 20 [1] x.2.1, x.2.2)))
noncomputable def w33l0b (x0 : Int) : Option (Fin' × List Value × St) :=
 (a33l0b x0 ())
set_option maxRecDepth 100000 in
set_option maxHeartbeats 4000000 in
theorem e33l0b (x0 : Int) : evC Try.prog ext T52 L33_1 200 (loopN Try.f33 0) (loopTail ([0, 1, 5], []) [1] [] (sumK 20 [0, 1, 5] [1] Q33l0)) (frameOf 20 [0, 1, 5] [.slice none 0 0, .int .i64 x0, .int .i64 0]) ⟨[], 0, []⟩ = firstT ([(true, .exit 0, [.int .i64 x0], st0)].map fun (b, x) => (b, (x.1, frameOf 20 [1] x.2.1, x.2.2))) :=
 (show evC Try.prog ext T52 L33_1 200 (loopN Try.f33 0) (loopTail ([0, 1, 5], []) [1] [] (sumK 20 [0, 1, 5] [1] Q33l0)) (frameOf 20 [0, 1, 5] [.slice none 0 0, .int .i64 x0, .int .i64 0]) ⟨[], 0, []⟩ = w33l0b x0 from by kernel_rfl).trans
 (show w33l0b x0 = a33l0b x0 (r33l0b x0) from by unfold w33l0b r33l0b; exact rfl)
noncomputable def Q33l0b : SumK := fun vals s =>
 match vals, s.h with
 | [.slice none f0 f1, .int .i64 x0, .int .i64 f2], [] => if f0 = 0 ∧ f1 = 0 ∧ f2 = 0 then [(true, .exit 0, [.int .i64 x0], st0)] else Q33l0 vals s
 | _, _ => Q33l0 vals s
set_option maxRecDepth 100000 in
set_option maxHeartbeats 4000000 in
theorem qok33l0b : SumKOk Try.prog (loopN Try.f33 0) 20 [0, 1, 5] [1] Q33l0b := by
  intro vals s x h1 h2 h3
  unfold Q33l0b at h3; split at h3
  · rename_i h; split at h3
    · rename_i hc; obtain ⟨rfl, rfl, rfl⟩ := hc; exact sum_step ok52 extOk mixed (lok33_1.inner (by kernel_rfl)) qok33l0 h1 h2 h (e33l0b _) rfl h3
    · exact qok33l0 _ _ _ h1 h2 h3
  · exact qok33l0 _ _ _ h1 h2 h3
noncomputable def L33_2 : LoopT := addL L33_1 3 ([0, 1, 5], []) (sumK 20 [0, 1, 5] [1] Q33l0b)
theorem lok33_2 : LfOkF Try.prog L33_2 Try.f33 := lfOkF_add lok33_1 qok33l0b (by kernel_rfl) (by kernel_rfl) (by kernel_rfl)

/-- laws.markFloat32S -/
noncomputable def r33b (x0 : Int) : Unit :=
 ()
noncomputable def a33b (x0 : Int) (p : Unit) : Res := firstT [(true, .int .i64 x0, st0)]
noncomputable def w33b (x0 : Int) : Res :=
 (a33b x0 ())
set_option maxRecDepth 100000 in
set_option maxHeartbeats 4000000 in
theorem e33b (x0 : Int) : evFn Try.prog ext T52 L33_2 200 Try.f33 [.slice none 0 0, .int .i64 x0] st0 = firstT [(true, .int .i64 x0, st0)] :=
 (show evFn Try.prog ext T52 L33_2 200 Try.f33 [.slice none 0 0, .int .i64 x0] st0 = w33b x0 from by kernel_rfl).trans
 (show w33b x0 = a33b x0 (r33b x0) from by unfold w33b r33b; exact rfl)
noncomputable def s33b (args : List Value) (s : St) : List (Bool × Value × St) :=
 match args, s.h with
 | [.slice none f0 f1, .int .i64 x0], [] => if f0 = 0 ∧ f1 = 0 then [(true, .int .i64 x0, st0)] else T52 33 args s
 | _, _ => T52 33 args s
noncomputable def T53 : CallF := addF T52 33 s33b
set_option maxRecDepth 100000 in
set_option maxHeartbeats 4000000 in
theorem ok53 : CfOk Try.prog T53 := by
  refine cfOk_add ok52 fun args s r s' h1 h2 h3 => ?_
  unfold s33b at h3; split at h3
  · rename_i h; split at h3
    · rename_i hc; obtain ⟨rfl, rfl⟩ := hc; exact callOk ok52 Try.func33 h1 h2 h lok33_2.body (e33b _) rfl h3
    · exact ok52 _ _ _ _ _ h1 h2 h3
  · exact ok52 _ _ _ _ _ h1 h2 h3

/-- laws.heldFloat32S, loop 0 -/
noncomputable def r34l0 (x0 : Int) : Unit :=
 ()
noncomputable def a34l0 (x0 : Int) (p : Unit) : Option (Fin' × List Value × St) := firstT ([(true, .exit 0, [.int .i64 x0, anyV], st0)].map fun (b, x) => (b, (x.1, frameOf 22 [1, 4] x.2.1, x.2.2)))
noncomputable def w34l0 (x0 : Int) : Option (Fin' × List Value × St) :=
 (a34l0 x0 ())
set_option maxRecDepth 100000 in
set_option maxHeartbeats 4000000 in
theorem e34l0 (x0 : Int) : evC Try.prog ext T53 noL 200 (loopN Try.f34 0) (loopTail ([0, 1, 5], []) [1, 4] [] (sumK 22 [0, 1, 5] [1, 4] noQ)) (frameOf 22 [0, 1, 5] [.slice none 0 0, .int .i64 x0, .int .i64 0]) ⟨[], 0, []⟩ = firstT ([(true, .exit 0, [.int .i64 x0, anyV], st0)].map fun (b, x) => (b, (x.1, frameOf 22 [1, 4] x.2.1, x.2.2))) :=
 (show evC Try.prog ext T53 noL 200 (loopN Try.f34 0) (loopTail ([0, 1, 5], []) [1, 4] [] (sumK 22 [0, 1, 5] [1, 4] noQ)) (frameOf 22 [0, 1, 5] [.slice none 0 0, .int .i64 x0, .int .i64 0]) ⟨[], 0, []⟩ = w34l0 x0 from by kernel_rfl).trans
 (show w34l0 x0 = a34l0 x0 (r34l0 x0) from by unfold w34l0 r34l0; exact rfl)
noncomputable def Q34l0 : SumK := fun vals s =>
 match vals, s.h with
 | [.slice none f0 f1, .int .i64 x0, .int .i64 f2], [] => if f0 = 0 ∧ f1 = 0 ∧ f2 = 0 then [(true, .exit 0, [.int .i64 x0, anyV], st0)] else noQ vals s
 | _, _ => noQ vals s
set_option maxRecDepth 100000 in
set_option maxHeartbeats 4000000 in
theorem qok34l0 : SumKOk Try.prog (loopN Try.f34 0) 22 [0, 1, 5] [1, 4] Q34l0 := by
  intro vals s x h1 h2 h3
  unfold Q34l0 at h3; split at h3
  · rename_i h; split at h3
    · rename_i hc; obtain ⟨rfl, rfl, rfl⟩ := hc; exact sum_step ok53 extOk mixed ((lfOkF_no _ _).inner (by kernel_rfl)) noQ_ok h1 h2 h (e34l0 _) rfl h3
    · exact noQ_ok _ _ _ h1 h2 h3
  · exact noQ_ok _ _ _ h1 h2 h3
noncomputable def L34_1 : LoopT := addL noL 3 ([0, 1, 5], []) (sumK 22 [0, 1, 5] [1, 4] Q34l0)
theorem lok34_1 : LfOkF Try.prog L34_1 Try.f34 := lfOkF_add (lfOkF_no _ _) qok34l0 (by kernel_rfl) (by kernel_rfl) (by kernel_rfl)

/-- laws.heldFloat32S -/
noncomputable def r34 (x0 : Int) : Unit :=
 ()
noncomputable def a34 (x0 : Int) (p : Unit) : Res := firstT [(true, .int .i64 x0, st0)]
noncomputable def w34 (x0 : Int) : Res :=
 (a34 x0 ())
set_option maxRecDepth 100000 in
set_option maxHeartbeats 4000000 in
theorem e34 (x0 : Int) : evFn Try.prog ext T53 L34_1 200 Try.f34 [.slice none 0 0, .int .i64 x0] st0 = firstT [(true, .int .i64 x0, st0)] :=
 (show evFn Try.prog ext T53 L34_1 200 Try.f34 [.slice none 0 0, .int .i64 x0] st0 = w34 x0 from by kernel_rfl).trans
 (show w34 x0 = a34 x0 (r34 x0) from by unfold w34 r34; exact rfl)
noncomputable def s34 (args : List Value) (s : St) : List (Bool × Value × St) :=
 match args, s.h with
 | [.slice none f0 f1, .int .i64 x0], [] => if f0 = 0 ∧ f1 = 0 then [(true, .int .i64 x0, st0)] else T53 34 args s
 | _, _ => T53 34 args s
noncomputable def T54 : CallF := addF T53 34 s34
set_option maxRecDepth 100000 in
set_option maxHeartbeats 4000000 in
theorem ok54 : CfOk Try.prog T54 := by
  refine cfOk_add ok53 fun args s r s' h1 h2 h3 => ?_
  unfold s34 at h3; split at h3
  · rename_i h; split at h3
    · rename_i hc; obtain ⟨rfl, rfl⟩ := hc; exact callOk ok53 Try.func34 h1 h2 h lok34_1.body (e34 _) rfl h3
    · exact ok53 _ _ _ _ _ h1 h2 h3
  · exact ok53 _ _ _ _ _ h1 h2 h3

/-- laws.heldFloat32S, loop 0: one round -/
noncomputable def b34l0b (ih : Int → Int → List (List Int) → (Nat × Int × Int)) (x0 x1 : Int) (x2 : List (List Int)) : Nat × Int × Int :=
 cond (decide ((x1 : Int) < ((x2.length : Nat) : Int)))
  (cond ((decide ((0 : Int) ≤ x1)) && (Nat.blt (Int.toNat x1) x2.length))
   (cond (!feq .f32 (Int.toNat ((x2.getD (Int.toNat x1) []).getD 0 0)) (ofInt .f32 x0))
    (0, x0, 0)
    (ih (IntKind.i64.wrap (x0 + 1)) (IntKind.i64.wrap (x1 + 1)) x2))
   (2, 0, 0))
  (1, 0, x0)
noncomputable def r34l0b : Nat → Int → Int → List (List Int) → (Nat × Int × Int)
 | 0 => fun _ _ _ => (2, 0, 0)
 | m + 1 => b34l0b (r34l0b m)
noncomputable def a34l0b (x0 x1 : Int) (x2 : List (List Int)) (p : Nat × Int × Int) : Option (Fin' × List Value × St) := firstT ([((Nat.beq (p.1) 0), .ret, [.int .i64 (p.2.1), .int .i64 (-1)], ⟨[⟨true, (some (.tab [.fl .f32] x2))⟩], 1, []⟩), ((Nat.beq (p.1) 1), .exit 0, [.int .i64 (p.2.2), anyV], ⟨[⟨true, (some (.tab [.fl .f32] x2))⟩], 1, []⟩)].map fun (b, x) => (b, (x.1, frameOf 22 [1, 4] x.2.1, x.2.2)))
noncomputable def u34l0b (x0 x1 : Int) (x2 : List (List Int)) (p : Nat × Int × Int) : Option (Fin' × List Value × St) := alts ([((Nat.beq (p.1) 0), .ret, [.int .i64 (p.2.1), .int .i64 (-1)], ⟨[⟨true, (some (.tab [.fl .f32] x2))⟩], 1, []⟩), ((Nat.beq (p.1) 1), .exit 0, [.int .i64 (p.2.2), anyV], ⟨[⟨true, (some (.tab [.fl .f32] x2))⟩], 1, []⟩)].map fun (b, x) => (b, (x.1, frameOf 22 [1, 4] x.2.1, x.2.2))) some
theorem v34l0b (x0 x1 : Int) (x2 : List (List Int)) (p : Nat × Int × Int) : u34l0b x0 x1 x2 p = a34l0b x0 x1 x2 p := alts_first _
noncomputable def q34l0b (m : Nat) : SumK := fun vals s =>
 match vals, s.h with
 | [.iface f0 .nilIface, .int .i64 x0, .int .i64 x1], [⟨true, some (.tab [.fl .f32] x2)⟩] => if f0 = 0 then [((Nat.beq ((r34l0b m x0 x1 x2).1) 0), .ret, [.int .i64 ((r34l0b m x0 x1 x2).2.1), .int .i64 (-1)], ⟨[⟨true, (some (.tab [.fl .f32] x2))⟩], 1, []⟩), ((Nat.beq ((r34l0b m x0 x1 x2).1) 1), .exit 0, [.int .i64 ((r34l0b m x0 x1 x2).2.2), anyV], ⟨[⟨true, (some (.tab [.fl .f32] x2))⟩], 1, []⟩)] else Q34l0 vals s
 | _, _ => Q34l0 vals s
noncomputable def w34l0b (ih : Int → Int → List (List Int) → (Nat × Int × Int)) (x0 x1 : Int) (x2 : List (List Int)) : Option (Fin' × List Value × St) :=
 (cond (decide ((x1 : Int) < ((x2.length : Nat) : Int)))
 (cond ((decide ((0 : Int) ≤ x1)) && (Nat.blt (Int.toNat x1) x2.length))
  (cond (Nat.blt (Int.toNat x1) x2.length)
   (cond (!feq .f32 (Int.toNat ((x2.getD (Int.toNat x1) []).getD 0 0)) (ofInt .f32 x0))
    (a34l0b x0 x1 x2 (0, x0, 0))
    (u34l0b x0 x1 x2 (ih (IntKind.i64.wrap (x0 + 1)) (IntKind.i64.wrap (x1 + 1)) x2)))
   none)
  none)
 (a34l0b x0 x1 x2 (1, 0, x0)))
set_option maxRecDepth 100000 in
set_option maxHeartbeats 4000000 in
theorem e34l0b (m : Nat) (x0 x1 : Int) (x2 : List (List Int)) : evC Try.prog ext T54 L34_1 200 (loopN Try.f34 0) (loopTail ([0, 1, 5], []) [1, 4] [] (sumK 22 [0, 1, 5] [1, 4] (q34l0b m))) (frameOf 22 [0, 1, 5] [wsl 0, .int .i64 x0, .int .i64 x1]) ⟨[⟨true, (some (.tab [.fl .f32] x2))⟩], 1, []⟩ = firstT ([((Nat.beq ((r34l0b (m + 1) x0 x1 x2).1) 0), .ret, [.int .i64 ((r34l0b (m + 1) x0 x1 x2).2.1), .int .i64 (-1)], ⟨[⟨true, (some (.tab [.fl .f32] x2))⟩], 1, []⟩), ((Nat.beq ((r34l0b (m + 1) x0 x1 x2).1) 1), .exit 0, [.int .i64 ((r34l0b (m + 1) x0 x1 x2).2.2), anyV], ⟨[⟨true, (some (.tab [.fl .f32] x2))⟩], 1, []⟩)].map fun (b, x) => (b, (x.1, frameOf 22 [1, 4] x.2.1, x.2.2))) :=
 (show evC Try.prog ext T54 L34_1 200 (loopN Try.f34 0) (loopTail ([0, 1, 5], []) [1, 4] [] (sumK 22 [0, 1, 5] [1, 4] (q34l0b m))) (frameOf 22 [0, 1, 5] [wsl 0, .int .i64 x0, .int .i64 x1]) ⟨[⟨true, (some (.tab [.fl .f32] x2))⟩], 1, []⟩ = w34l0b (r34l0b m) x0 x1 x2 from by kernel_rfl).trans
 (show w34l0b (r34l0b m) x0 x1 x2 = a34l0b x0 x1 x2 (r34l0b (m + 1) x0 x1 x2) from by unfold w34l0b; show _ = a34l0b x0 x1 x2 (b34l0b (r34l0b m) x0 x1 x2); unfold b34l0b; exact (cond_both (a34l0b x0 x1 x2) _ (fun h0 => (cond_both (a34l0b x0 x1 x2) _ (fun h1 => (cond_t (ev_and2 h1) (cond_app (a34l0b x0 x1 x2) _ rfl (v34l0b x0 x1 x2 ((r34l0b m) (IntKind.i64.wrap (x0 + 1)) (IntKind.i64.wrap (x1 + 1)) x2))))) (fun h1 => rfl))) (fun h0 => rfl)))
set_option maxRecDepth 100000 in
set_option maxHeartbeats 4000000 in
theorem qm34l0b : ∀ m, SumKOk Try.prog (loopN Try.f34 0) 22 [0, 1, 5] [1, 4] (q34l0b m) := by
  intro m
  induction m with
  | zero =>
    intro vals s x h1 h2 h3
    unfold q34l0b at h3; split at h3
    · rename_i h; split at h3
      · rename_i hc; obtain ⟨rfl⟩ := hc; exact absurd h3 (by simp [r34l0b, firstT, Nat.beq])
      · exact qok34l0 _ _ _ h1 h2 h3
    · exact qok34l0 _ _ _ h1 h2 h3
  | succ m ih =>
    intro vals s x h1 h2 h3
    unfold q34l0b at h3; split at h3
    · rename_i h; split at h3
      · rename_i hc; obtain ⟨rfl⟩ := hc; exact sum_step ok54 extOk mixed (lok34_1.inner (by kernel_rfl)) ih h1 h2 h (e34l0b m _ _ _) rfl h3
      · exact qok34l0 _ _ _ h1 h2 h3
    · exact qok34l0 _ _ _ h1 h2 h3
noncomputable def Q34l0b : SumK := fun vals s => q34l0b (fuelOf vals s.h) vals s
theorem qok34l0b : SumKOk Try.prog (loopN Try.f34 0) 22 [0, 1, 5] [1, 4] Q34l0b := fuel_ok qm34l0b fuelOf
noncomputable def L34_2 : LoopT := addL L34_1 3 ([0, 1, 5], []) (sumK 22 [0, 1, 5] [1, 4] Q34l0b)
theorem lok34_2 : LfOkF Try.prog L34_2 Try.f34 := lfOkF_add lok34_1 qok34l0b (by kernel_rfl) (by kernel_rfl) (by kernel_rfl)

/-- laws.heldFloat32S -/
noncomputable def r34b (x0 : Int) (x1 : List (List Int)) : Nat × Int :=
 cond (Nat.beq ((r34l0b (1000 + x1.length) x0 0 x1).1) 0)
  (0, (-1))
  (cond (Nat.beq ((r34l0b (1000 + x1.length) x0 0 x1).1) 1)
   (0, ((r34l0b (1000 + x1.length) x0 0 x1).2.2))
   (1, 0))
noncomputable def a34b (x0 : Int) (x1 : List (List Int)) (p : Nat × Int) : Res := firstT [((Nat.beq (p.1) 0), .int .i64 (p.2), ⟨[⟨true, (some (.tab [.fl .f32] x1))⟩], 1, []⟩)]
noncomputable def w34b (x0 : Int) (x1 : List (List Int)) : Res :=
 (cond (Nat.beq ((r34l0b (1000 + x1.length) x0 0 x1).1) 0)
 (a34b x0 x1 (0, (-1)))
 (cond (Nat.beq ((r34l0b (1000 + x1.length) x0 0 x1).1) 1)
  (a34b x0 x1 (0, ((r34l0b (1000 + x1.length) x0 0 x1).2.2)))
  none))
set_option maxRecDepth 100000 in
set_option maxHeartbeats 4000000 in
theorem e34b (x0 : Int) (x1 : List (List Int)) : evFn Try.prog ext T54 L34_2 200 Try.f34 [wsl 0, .int .i64 x0] ⟨[⟨true, (some (.tab [.fl .f32] x1))⟩], 1, []⟩ = firstT [((Nat.beq ((r34b x0 x1).1) 0), .int .i64 ((r34b x0 x1).2), ⟨[⟨true, (some (.tab [.fl .f32] x1))⟩], 1, []⟩)] :=
 (show evFn Try.prog ext T54 L34_2 200 Try.f34 [wsl 0, .int .i64 x0] ⟨[⟨true, (some (.tab [.fl .f32] x1))⟩], 1, []⟩ = w34b x0 x1 from by kernel_rfl).trans
 (show w34b x0 x1 = a34b x0 x1 (r34b x0 x1) from by unfold w34b r34b; exact (cond_app (a34b x0 x1) _ rfl (cond_app (a34b x0 x1) _ rfl rfl)))
noncomputable def s34b (args : List Value) (s : St) : List (Bool × Value × St) :=
 match args, s.h with
 | [.iface f0 .nilIface, .int .i64 x0], [⟨true, some (.tab [.fl .f32] x1)⟩] => if f0 = 0 then [((Nat.beq ((r34b x0 x1).1) 0), .int .i64 ((r34b x0 x1).2), ⟨[⟨true, (some (.tab [.fl .f32] x1))⟩], 1, []⟩)] else T54 34 args s
 | _, _ => T54 34 args s
noncomputable def T55 : CallF := addF T54 34 s34b
set_option maxRecDepth 100000 in
set_option maxHeartbeats 4000000 in
theorem ok55 : CfOk Try.prog T55 := by
  refine cfOk_add ok54 fun args s r s' h1 h2 h3 => ?_
  unfold s34b at h3; split at h3
  · rename_i h; split at h3
    · rename_i hc; obtain ⟨rfl⟩ := hc; exact callOk ok54 Try.func34 h1 h2 h lok34_2.body (e34b _ _) rfl h3
    · exact ok54 _ _ _ _ _ h1 h2 h3
  · exact ok54 _ _ _ _ _ h1 h2 h3

/-- laws.FnExactGainsFor -/
noncomputable def r5 (x0 x1 : Nat) (x2 x3 x4 x5 x6 : List (List Int)) : Nat × Bool :=
 let c69 := (r29 x0 x1 ((r25 x2 x3 x4 x5).2.1) ((r25 x2 x3 x4 x5).2.2.1) ((r25 x2 x3 x4 x5).2.2.2.1) ((r25 x2 x3 x4 x5).2.2.2.2) ((r30 x6).2))
 let c138 := (r20 x0 x1 ((r25 x2 x3 x4 x5).2.1) ((r25 x2 x3 x4 x5).2.2.1) ((r25 x2 x3 x4 x5).2.2.2.1) ((r25 x2 x3 x4 x5).2.2.2.2) ((r30 x6).2))
 let c175 := (r28 ((r25 x2 x3 x4 x5).2.1) ((r25 x2 x3 x4 x5).2.2.1) ((r25 x2 x3 x4 x5).2.2.2.1) ((r25 x2 x3 x4 x5).2.2.2.2) ((r25 x2 x3 x4 x5).2.1) ((r25 x2 x3 x4 x5).2.2.1) ((r25 x2 x3 x4 x5).2.2.2.1) ((r25 x2 x3 x4 x5).2.2.2.2))
 let c197 := (r33 ((r32 1 ((r25 x2 x3 x4 x5).2.1) ((r25 x2 x3 x4 x5).2.2.1) ((r25 x2 x3 x4 x5).2.2.2.1) ((r25 x2 x3 x4 x5).2.2.2.2)).2.1) ((r30 x6).2))
 cond (decide ((((x6.length : Nat) : Int) : Int) > 1048576))
  (0, true)
  (cond (decide (((r23 1048576 x2 x3 x4 x5) : Int) < 0))
   (0, true)
   (cond (Nat.beq ((r25 x2 x3 x4 x5).1) 0)
    (cond (Nat.beq ((r30 x6).1) 0)
     (cond (Nat.beq (c69.1) 0)
      (cond (Nat.beq (c138.1) 0)
       (cond (!(r31 (c69.2.2)))
        (0, false)
        (cond (((c138.2.1) : Int) != (c69.2.1))
         (0, false)
         (cond (Nat.beq (c175.1) 0)
          (cond (!(c175.2))
           (0, false)
           (cond (Nat.beq ((r31b ((r30 x6).2) ((r30 x6).2)).1) 0)
            (cond (!((r31b ((r30 x6).2) ((r30 x6).2)).2))
             (0, false)
             (cond (Nat.beq ((r32 1 ((r25 x2 x3 x4 x5).2.1) ((r25 x2 x3 x4 x5).2.2.1) ((r25 x2 x3 x4 x5).2.2.2.1) ((r25 x2 x3 x4 x5).2.2.2.2)).1) 0)
              (cond (Nat.beq (c197.1) 0)
               (cond (decide (((c197.2.1) : Int) < 0))
                (0, false)
                (0, true))
               (1, false))
              (1, false)))
            (1, false)))
          (1, false))))
       (cond (Nat.beq (c138.1) 1)
        (cond (Nat.beq ((r31b (c138.2.2) (c69.2.2)).1) 0)
         (cond (!((r31b (c138.2.2) (c69.2.2)).2))
          (0, false)
          (cond ((0 : Int) != (c69.2.1))
           (0, false)
           (cond (Nat.beq (c175.1) 0)
            (cond (!(c175.2))
             (0, false)
             (cond (Nat.beq ((r31b ((r30 x6).2) ((r30 x6).2)).1) 0)
              (cond (!((r31b ((r30 x6).2) ((r30 x6).2)).2))
               (0, false)
               (cond (Nat.beq ((r32 1 ((r25 x2 x3 x4 x5).2.1) ((r25 x2 x3 x4 x5).2.2.1) ((r25 x2 x3 x4 x5).2.2.2.1) ((r25 x2 x3 x4 x5).2.2.2.2)).1) 0)
                (cond (Nat.beq (c197.1) 0)
                 (cond (decide (((c197.2.1) : Int) < 0))
                  (0, false)
                  (cond (Nat.beq ((r33 1 (c138.2.2)).1) 0)
                   (cond (Nat.beq ((r34b 1 ((r33 1 (c138.2.2)).2.2)).1) 0)
                    (cond (decide ((((r34b 1 ((r33 1 (c138.2.2)).2.2)).2) : Int) < 0))
                     (0, false)
                     (cond ((((r34b 1 ((r33 1 (c138.2.2)).2.2)).2) : Int) != ((r33 1 (c138.2.2)).2.1))
                      (0, false)
                      (0, true)))
                    (1, false))
                   (1, false)))
                 (1, false))
                (1, false)))
              (1, false)))
            (1, false))))
         (1, false))
        (1, false)))
      (1, false))
     (1, false))
    (1, false)))
noncomputable def a5 (x0 x1 : Nat) (x2 x3 x4 x5 x6 : List (List Int)) (p : Nat × Bool) : Res := firstT [((Nat.beq (p.1) 0), .bool (p.2), ⟨[⟨false, (some (.tab [.fl .f32] x2))⟩, ⟨false, (some (.tab [.fl .f32] x3))⟩, ⟨false, (some (.tab sc0 x4))⟩, ⟨false, (some (.tab sc1 x5))⟩, ⟨false, (some (.tab [.fl .f32] x6))⟩], 5, []⟩)]
noncomputable def w5 (x0 x1 : Nat) (x2 x3 x4 x5 x6 : List (List Int)) : Res :=
 let c69 := (r29 x0 x1 ((r25 x2 x3 x4 x5).2.1) ((r25 x2 x3 x4 x5).2.2.1) ((r25 x2 x3 x4 x5).2.2.2.1) ((r25 x2 x3 x4 x5).2.2.2.2) ((r30 x6).2))
 let c138 := (r20 x0 x1 ((r25 x2 x3 x4 x5).2.1) ((r25 x2 x3 x4 x5).2.2.1) ((r25 x2 x3 x4 x5).2.2.2.1) ((r25 x2 x3 x4 x5).2.2.2.2) ((r30 x6).2))
 let c175 := (r28 ((r25 x2 x3 x4 x5).2.1) ((r25 x2 x3 x4 x5).2.2.1) ((r25 x2 x3 x4 x5).2.2.2.1) ((r25 x2 x3 x4 x5).2.2.2.2) ((r25 x2 x3 x4 x5).2.1) ((r25 x2 x3 x4 x5).2.2.1) ((r25 x2 x3 x4 x5).2.2.2.1) ((r25 x2 x3 x4 x5).2.2.2.2))
 let c197 := (r33 ((r32 1 ((r25 x2 x3 x4 x5).2.1) ((r25 x2 x3 x4 x5).2.2.1) ((r25 x2 x3 x4 x5).2.2.2.1) ((r25 x2 x3 x4 x5).2.2.2.2)).2.1) ((r30 x6).2))
 (cond (decide ((((x6.length : Nat) : Int) : Int) > 1048576))
 (a5 x0 x1 x2 x3 x4 x5 x6 (0, true))
 (cond (decide (((r23 1048576 x2 x3 x4 x5) : Int) < 0))
  (a5 x0 x1 x2 x3 x4 x5 x6 (0, true))
  (cond (Nat.beq ((r25 x2 x3 x4 x5).1) 0)
   (cond (Nat.beq ((r30 x6).1) 0)
    (cond (Nat.beq (c69.1) 0)
     (cond (Nat.beq ((r25 x2 x3 x4 x5).1) 0)
      (cond (Nat.beq ((r30 x6).1) 0)
       (cond (Nat.beq (c138.1) 0)
        (cond (!(r31 (c69.2.2)))
         (a5 x0 x1 x2 x3 x4 x5 x6 (0, false))
         (cond (((c138.2.1) : Int) != (c69.2.1))
          (a5 x0 x1 x2 x3 x4 x5 x6 (0, false))
          (cond (Nat.beq ((r25 x2 x3 x4 x5).1) 0)
           (cond (Nat.beq (c175.1) 0)
            (cond (!(c175.2))
             (a5 x0 x1 x2 x3 x4 x5 x6 (0, false))
             (cond (Nat.beq ((r30 x6).1) 0)
              (cond (Nat.beq ((r31b ((r30 x6).2) ((r30 x6).2)).1) 0)
               (cond (!((r31b ((r30 x6).2) ((r30 x6).2)).2))
                (a5 x0 x1 x2 x3 x4 x5 x6 (0, false))
                (cond (Nat.beq ((r32 1 ((r25 x2 x3 x4 x5).2.1) ((r25 x2 x3 x4 x5).2.2.1) ((r25 x2 x3 x4 x5).2.2.2.1) ((r25 x2 x3 x4 x5).2.2.2.2)).1) 0)
                 (cond (Nat.beq (c197.1) 0)
                  (cond (decide (((c197.2.1) : Int) < 0))
                   (a5 x0 x1 x2 x3 x4 x5 x6 (0, false))
                   (cond (!(r31 (c69.2.2)))
                    (some (.bool false, ⟨[⟨false, (some (.tab [.fl .f32] x2))⟩, ⟨false, (some (.tab [.fl .f32] x3))⟩, ⟨false, (some (.tab sc0 x4))⟩, ⟨false, (some (.tab sc1 x5))⟩, ⟨false, (some (.tab [.fl .f32] x6))⟩], 5, []⟩))
                    (cond (((c138.2.1) : Int) != (c69.2.1))
                     (some (.bool false, ⟨[⟨false, (some (.tab [.fl .f32] x2))⟩, ⟨false, (some (.tab [.fl .f32] x3))⟩, ⟨false, (some (.tab sc0 x4))⟩, ⟨false, (some (.tab sc1 x5))⟩, ⟨false, (some (.tab [.fl .f32] x6))⟩], 5, []⟩))
                     (cond (Nat.beq ((r25 x2 x3 x4 x5).1) 0)
                      (cond (Nat.beq ((r30 x6).1) 0)
                       (cond (Nat.beq (c138.1) 0)
                        (cond (!(r31 (c69.2.2)))
                         (some (.bool false, ⟨[⟨false, (some (.tab [.fl .f32] x2))⟩, ⟨false, (some (.tab [.fl .f32] x3))⟩, ⟨false, (some (.tab sc0 x4))⟩, ⟨false, (some (.tab sc1 x5))⟩, ⟨false, (some (.tab [.fl .f32] x6))⟩], 5, []⟩))
                         (cond (((c138.2.1) : Int) != (c69.2.1))
                          (some (.bool false, ⟨[⟨false, (some (.tab [.fl .f32] x2))⟩, ⟨false, (some (.tab [.fl .f32] x3))⟩, ⟨false, (some (.tab sc0 x4))⟩, ⟨false, (some (.tab sc1 x5))⟩, ⟨false, (some (.tab [.fl .f32] x6))⟩], 5, []⟩))
                          (a5 x0 x1 x2 x3 x4 x5 x6 (0, true))))
                        (cond (Nat.beq (c138.1) 1)
                         (cond (Nat.beq ((r31b (c138.2.2) (c69.2.2)).1) 0)
                          (cond (!((r31b (c138.2.2) (c69.2.2)).2))
                           (some (.bool false, ⟨[⟨false, (some (.tab [.fl .f32] x2))⟩, ⟨false, (some (.tab [.fl .f32] x3))⟩, ⟨false, (some (.tab sc0 x4))⟩, ⟨false, (some (.tab sc1 x5))⟩, ⟨false, (some (.tab [.fl .f32] x6))⟩], 5, []⟩))
                           (cond ((0 : Int) != (c69.2.1))
                            (some (.bool false, ⟨[⟨false, (some (.tab [.fl .f32] x2))⟩, ⟨false, (some (.tab [.fl .f32] x3))⟩, ⟨false, (some (.tab sc0 x4))⟩, ⟨false, (some (.tab sc1 x5))⟩, ⟨false, (some (.tab [.fl .f32] x6))⟩], 5, []⟩))
                            (some (.bool true, ⟨[⟨false, (some (.tab [.fl .f32] x2))⟩, ⟨false, (some (.tab [.fl .f32] x3))⟩, ⟨false, (some (.tab sc0 x4))⟩, ⟨false, (some (.tab sc1 x5))⟩, ⟨false, (some (.tab [.fl .f32] x6))⟩], 5, []⟩))))
                          none)
                         none))
                       none)
                      none))))
                  none)
                 none))
               none)
              none))
            none)
           none)))
        (cond (Nat.beq (c138.1) 1)
         (cond (Nat.beq ((r31b (c138.2.2) (c69.2.2)).1) 0)
          (cond (!((r31b (c138.2.2) (c69.2.2)).2))
           (a5 x0 x1 x2 x3 x4 x5 x6 (0, false))
           (cond ((0 : Int) != (c69.2.1))
            (a5 x0 x1 x2 x3 x4 x5 x6 (0, false))
            (cond (Nat.beq ((r25 x2 x3 x4 x5).1) 0)
             (cond (Nat.beq (c175.1) 0)
              (cond (!(c175.2))
               (a5 x0 x1 x2 x3 x4 x5 x6 (0, false))
               (cond (Nat.beq ((r30 x6).1) 0)
                (cond (Nat.beq ((r31b ((r30 x6).2) ((r30 x6).2)).1) 0)
                 (cond (!((r31b ((r30 x6).2) ((r30 x6).2)).2))
                  (a5 x0 x1 x2 x3 x4 x5 x6 (0, false))
                  (cond (Nat.beq ((r32 1 ((r25 x2 x3 x4 x5).2.1) ((r25 x2 x3 x4 x5).2.2.1) ((r25 x2 x3 x4 x5).2.2.2.1) ((r25 x2 x3 x4 x5).2.2.2.2)).1) 0)
                   (cond (Nat.beq (c197.1) 0)
                    (cond (decide (((c197.2.1) : Int) < 0))
                     (a5 x0 x1 x2 x3 x4 x5 x6 (0, false))
                     (cond (Nat.beq ((r31b (c138.2.2) (c69.2.2)).1) 0)
                      (cond (!((r31b (c138.2.2) (c69.2.2)).2))
                       (some (.bool false, ⟨[⟨false, (some (.tab [.fl .f32] x2))⟩, ⟨false, (some (.tab [.fl .f32] x3))⟩, ⟨false, (some (.tab sc0 x4))⟩, ⟨false, (some (.tab sc1 x5))⟩, ⟨false, (some (.tab [.fl .f32] x6))⟩], 5, []⟩))
                       (cond ((0 : Int) != (c69.2.1))
                        (some (.bool false, ⟨[⟨false, (some (.tab [.fl .f32] x2))⟩, ⟨false, (some (.tab [.fl .f32] x3))⟩, ⟨false, (some (.tab sc0 x4))⟩, ⟨false, (some (.tab sc1 x5))⟩, ⟨false, (some (.tab [.fl .f32] x6))⟩], 5, []⟩))
                        (cond (Nat.beq ((r33 1 (c138.2.2)).1) 0)
                         (cond (Nat.beq ((r34b 1 ((r33 1 (c138.2.2)).2.2)).1) 0)
                          (cond (decide ((((r34b 1 ((r33 1 (c138.2.2)).2.2)).2) : Int) < 0))
                           (a5 x0 x1 x2 x3 x4 x5 x6 (0, false))
                           (cond ((((r34b 1 ((r33 1 (c138.2.2)).2.2)).2) : Int) != ((r33 1 (c138.2.2)).2.1))
                            (a5 x0 x1 x2 x3 x4 x5 x6 (0, false))
                            (cond (Nat.beq ((r25 x2 x3 x4 x5).1) 0)
                             (cond (Nat.beq ((r30 x6).1) 0)
                              (cond (Nat.beq (c138.1) 0)
                               (cond (!(r31 (c69.2.2)))
                                (some (.bool false, ⟨[⟨false, (some (.tab [.fl .f32] x2))⟩, ⟨false, (some (.tab [.fl .f32] x3))⟩, ⟨false, (some (.tab sc0 x4))⟩, ⟨false, (some (.tab sc1 x5))⟩, ⟨false, (some (.tab [.fl .f32] x6))⟩], 5, []⟩))
                                (cond (((c138.2.1) : Int) != (c69.2.1))
                                 (some (.bool false, ⟨[⟨false, (some (.tab [.fl .f32] x2))⟩, ⟨false, (some (.tab [.fl .f32] x3))⟩, ⟨false, (some (.tab sc0 x4))⟩, ⟨false, (some (.tab sc1 x5))⟩, ⟨false, (some (.tab [.fl .f32] x6))⟩], 5, []⟩))
                                 (cond (Nat.beq ((r34b 1 ((r33 1 (c138.2.2)).2.2)).1) 0)
                                  (cond (decide ((((r34b 1 ((r33 1 (c138.2.2)).2.2)).2) : Int) < 0))
                                   (some (.bool false, ⟨[⟨false, (some (.tab [.fl .f32] x2))⟩, ⟨false, (some (.tab [.fl .f32] x3))⟩, ⟨false, (some (.tab sc0 x4))⟩, ⟨false, (some (.tab sc1 x5))⟩, ⟨false, (some (.tab [.fl .f32] x6))⟩], 5, []⟩))
                                   (cond ((((r34b 1 ((r33 1 (c138.2.2)).2.2)).2) : Int) != ((r33 1 (c138.2.2)).2.1))
                                    (some (.bool false, ⟨[⟨false, (some (.tab [.fl .f32] x2))⟩, ⟨false, (some (.tab [.fl .f32] x3))⟩, ⟨false, (some (.tab sc0 x4))⟩, ⟨false, (some (.tab sc1 x5))⟩, ⟨false, (some (.tab [.fl .f32] x6))⟩], 5, []⟩))
                                    (some (.bool true, ⟨[⟨false, (some (.tab [.fl .f32] x2))⟩, ⟨false, (some (.tab [.fl .f32] x3))⟩, ⟨false, (some (.tab sc0 x4))⟩, ⟨false, (some (.tab sc1 x5))⟩, ⟨false, (some (.tab [.fl .f32] x6))⟩], 5, []⟩))))
                                  none)))
                               (cond (Nat.beq (c138.1) 1)
                                (cond (Nat.beq ((r31b (c138.2.2) (c69.2.2)).1) 0)
                                 (cond (!((r31b (c138.2.2) (c69.2.2)).2))
                                  (some (.bool false, ⟨[⟨false, (some (.tab [.fl .f32] x2))⟩, ⟨false, (some (.tab [.fl .f32] x3))⟩, ⟨false, (some (.tab sc0 x4))⟩, ⟨false, (some (.tab sc1 x5))⟩, ⟨false, (some (.tab [.fl .f32] x6))⟩], 5, []⟩))
                                  (cond ((0 : Int) != (c69.2.1))
                                   (some (.bool false, ⟨[⟨false, (some (.tab [.fl .f32] x2))⟩, ⟨false, (some (.tab [.fl .f32] x3))⟩, ⟨false, (some (.tab sc0 x4))⟩, ⟨false, (some (.tab sc1 x5))⟩, ⟨false, (some (.tab [.fl .f32] x6))⟩], 5, []⟩))
                                   (cond (Nat.beq ((r34b 1 ((r33 1 (c138.2.2)).2.2)).1) 0)
                                    (cond (decide ((((r34b 1 ((r33 1 (c138.2.2)).2.2)).2) : Int) < 0))
                                     (some (.bool false, ⟨[⟨false, (some (.tab [.fl .f32] x2))⟩, ⟨false, (some (.tab [.fl .f32] x3))⟩, ⟨false, (some (.tab sc0 x4))⟩, ⟨false, (some (.tab sc1 x5))⟩, ⟨false, (some (.tab [.fl .f32] x6))⟩], 5, []⟩))
                                     (cond ((((r34b 1 ((r33 1 (c138.2.2)).2.2)).2) : Int) != ((r33 1 (c138.2.2)).2.1))
                                      (some (.bool false, ⟨[⟨false, (some (.tab [.fl .f32] x2))⟩, ⟨false, (some (.tab [.fl .f32] x3))⟩, ⟨false, (some (.tab sc0 x4))⟩, ⟨false, (some (.tab sc1 x5))⟩, ⟨false, (some (.tab [.fl .f32] x6))⟩], 5, []⟩))
                                      (a5 x0 x1 x2 x3 x4 x5 x6 (0, true))))
                                    none)))
                                 none)
                                none))
                              none)
                             none)))
                          none)
                         none)))
                      none))
                    none)
                   none))
                 none)
                none))
              none)
             none)))
          none)
         none))
       none)
      none)
     none)
    none)
   none)))
set_option maxRecDepth 100000 in
set_option maxHeartbeats 4000000 in
theorem e5 (x0 x1 : Nat) (x2 x3 x4 x5 x6 : List (List Int)) : evFn Try.prog ext T55 noL 200 Try.f5 [.agg #[wsl 0, wsl 1, wsl 2, wsl 3], .float .f32 x0, .float .f32 x1, wsl 4] ⟨[⟨false, (some (.tab [.fl .f32] x2))⟩, ⟨false, (some (.tab [.fl .f32] x3))⟩, ⟨false, (some (.tab sc0 x4))⟩, ⟨false, (some (.tab sc1 x5))⟩, ⟨false, (some (.tab [.fl .f32] x6))⟩], 5, []⟩ = firstT [((Nat.beq ((r5 x0 x1 x2 x3 x4 x5 x6).1) 0), .bool ((r5 x0 x1 x2 x3 x4 x5 x6).2), ⟨[⟨false, (some (.tab [.fl .f32] x2))⟩, ⟨false, (some (.tab [.fl .f32] x3))⟩, ⟨false, (some (.tab sc0 x4))⟩, ⟨false, (some (.tab sc1 x5))⟩, ⟨false, (some (.tab [.fl .f32] x6))⟩], 5, []⟩)] :=
 (show evFn Try.prog ext T55 noL 200 Try.f5 [.agg #[wsl 0, wsl 1, wsl 2, wsl 3], .float .f32 x0, .float .f32 x1, wsl 4] ⟨[⟨false, (some (.tab [.fl .f32] x2))⟩, ⟨false, (some (.tab [.fl .f32] x3))⟩, ⟨false, (some (.tab sc0 x4))⟩, ⟨false, (some (.tab sc1 x5))⟩, ⟨false, (some (.tab [.fl .f32] x6))⟩], 5, []⟩ = w5 x0 x1 x2 x3 x4 x5 x6 from by kernel_rfl).trans
 (show w5 x0 x1 x2 x3 x4 x5 x6 = a5 x0 x1 x2 x3 x4 x5 x6 (r5 x0 x1 x2 x3 x4 x5 x6) from by unfold w5 r5; exact (cond_both (a5 x0 x1 x2 x3 x4 x5 x6) _ (fun h0 => rfl) (fun h0 => (cond_both (a5 x0 x1 x2 x3 x4 x5 x6) _ (fun h1 => rfl) (fun h1 => (cond_both (a5 x0 x1 x2 x3 x4 x5 x6) _ (fun h2 => (cond_both (a5 x0 x1 x2 x3 x4 x5 x6) _ (fun h3 => (cond_both (a5 x0 x1 x2 x3 x4 x5 x6) _ (fun h4 => (cond_t h2 (cond_t h3 (cond_both (a5 x0 x1 x2 x3 x4 x5 x6) _ (fun h5 => (cond_both (a5 x0 x1 x2 x3 x4 x5 x6) _ (fun h6 => rfl) (fun h6 => (cond_both (a5 x0 x1 x2 x3 x4 x5 x6) _ (fun h7 => rfl) (fun h7 => (cond_t h2 (cond_both (a5 x0 x1 x2 x3 x4 x5 x6) _ (fun h8 => (cond_both (a5 x0 x1 x2 x3 x4 x5 x6) _ (fun h9 => rfl) (fun h9 => (cond_t h3 (cond_both (a5 x0 x1 x2 x3 x4 x5 x6) _ (fun h10 => (cond_both (a5 x0 x1 x2 x3 x4 x5 x6) _ (fun h11 => rfl) (fun h11 => (cond_both (a5 x0 x1 x2 x3 x4 x5 x6) _ (fun h12 => (cond_both (a5 x0 x1 x2 x3 x4 x5 x6) _ (fun h13 => (cond_both (a5 x0 x1 x2 x3 x4 x5 x6) _ (fun h14 => rfl) (fun h14 => (cond_f (ev_not0 (ev_notf h6)) (cond_f h7 (cond_t h2 (cond_t h3 (cond_t h5 (cond_f (ev_not0 (ev_notf h6)) (cond_f h7 rfl)))))))))) (fun h13 => rfl))) (fun h12 => rfl))))) (fun h10 => rfl)))))) (fun h8 => rfl)))))))) (fun h5 => (cond_both (a5 x0 x1 x2 x3 x4 x5 x6) _ (fun h6 => (cond_both (a5 x0 x1 x2 x3 x4 x5 x6) _ (fun h7 => (cond_both (a5 x0 x1 x2 x3 x4 x5 x6) _ (fun h8 => rfl) (fun h8 => (cond_both (a5 x0 x1 x2 x3 x4 x5 x6) _ (fun h9 => rfl) (fun h9 => (cond_t h2 (cond_both (a5 x0 x1 x2 x3 x4 x5 x6) _ (fun h10 => (cond_both (a5 x0 x1 x2 x3 x4 x5 x6) _ (fun h11 => rfl) (fun h11 => (cond_t h3 (cond_both (a5 x0 x1 x2 x3 x4 x5 x6) _ (fun h12 => (cond_both (a5 x0 x1 x2 x3 x4 x5 x6) _ (fun h13 => rfl) (fun h13 => (cond_both (a5 x0 x1 x2 x3 x4 x5 x6) _ (fun h14 => (cond_both (a5 x0 x1 x2 x3 x4 x5 x6) _ (fun h15 => (cond_both (a5 x0 x1 x2 x3 x4 x5 x6) _ (fun h16 => rfl) (fun h16 => (cond_t h7 (cond_f (ev_not0 (ev_notf h8)) (cond_f h9 (cond_both (a5 x0 x1 x2 x3 x4 x5 x6) _ (fun h17 => (cond_both (a5 x0 x1 x2 x3 x4 x5 x6) _ (fun h18 => (cond_both (a5 x0 x1 x2 x3 x4 x5 x6) _ (fun h19 => rfl) (fun h19 => (cond_both (a5 x0 x1 x2 x3 x4 x5 x6) _ (fun h20 => rfl) (fun h20 => (cond_t h2 (cond_t h3 (cond_f h5 (cond_t h6 (cond_t h7 (cond_f (ev_not0 (ev_notf h8)) (cond_f h9 (cond_t h18 (cond_f h19 (cond_f h20 rfl))))))))))))))) (fun h18 => rfl))) (fun h17 => rfl)))))))) (fun h15 => rfl))) (fun h14 => rfl))))) (fun h12 => rfl)))))) (fun h10 => rfl)))))))) (fun h7 => rfl))) (fun h6 => rfl))))))) (fun h4 => rfl))) (fun h3 => rfl))) (fun h2 => rfl)))))))
noncomputable def s5 (args : List Value) (s : St) : List (Bool × Value × St) :=
 match args, s.h with
 | [.agg ⟨[.iface f0 .nilIface, .iface f1 .nilIface, .iface f2 .nilIface, .iface f3 .nilIface]⟩, .float .f32 x0, .float .f32 x1, .iface f4 .nilIface], [⟨false, some (.tab [.fl .f32] x2)⟩, ⟨false, some (.tab [.fl .f32] x3)⟩, ⟨false, some (.tab [.int .i64, .int .i64, .fl .f32, .fl .f32, .fl .f32, .fl .f32, .fl .f32, .fl .f32] x4)⟩, ⟨false, some (.tab [.int .i64, .int .i64, .fl .f32, .fl .f32] x5)⟩, ⟨false, some (.tab [.fl .f32] x6)⟩] => if f0 = 0 ∧ f1 = 1 ∧ f2 = 2 ∧ f3 = 3 ∧ f4 = 4 then [((Nat.beq ((r5 x0 x1 x2 x3 x4 x5 x6).1) 0), .bool ((r5 x0 x1 x2 x3 x4 x5 x6).2), ⟨[⟨false, (some (.tab [.fl .f32] x2))⟩, ⟨false, (some (.tab [.fl .f32] x3))⟩, ⟨false, (some (.tab sc0 x4))⟩, ⟨false, (some (.tab sc1 x5))⟩, ⟨false, (some (.tab [.fl .f32] x6))⟩], 5, []⟩)] else T55 5 args s
 | _, _ => T55 5 args s
noncomputable def T56 : CallF := addF T55 5 s5
set_option maxRecDepth 100000 in
set_option maxHeartbeats 4000000 in
theorem ok56 : CfOk Try.prog T56 := by
  refine cfOk_add ok55 fun args s r s' h1 h2 h3 => ?_
  unfold s5 at h3; split at h3
  · rename_i h; split at h3
    · rename_i hc; obtain ⟨rfl, rfl, rfl, rfl, rfl⟩ := hc; exact callOk ok55 Try.func5 h1 h2 h (lfOkF_no _ _).body (e5 _ _ _ _ _ _ _) rfl h3
    · exact ok55 _ _ _ _ _ h1 h2 h3
  · exact ok55 _ _ _ _ _ h1 h2 h3
end Go.Proofs.Ytfnfapmncibjfaa
