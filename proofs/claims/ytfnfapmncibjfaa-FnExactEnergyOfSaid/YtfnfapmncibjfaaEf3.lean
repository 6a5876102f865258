/- What the functions that the statements reach answer, part 3. -/
import Derived.Test.YtfnfapmncibjfaaEf2
namespace Go.Proofs.Ytfnfapmncibjfaa
open Go.Ab
set_option maxHeartbeats 4000000
set_option maxRecDepth 100000

/-- impl.sum, loop 0: one round -/
noncomputable def b80l0 (ih : Nat → Nat → Nat → Int → Int → List (List Int) → (Nat × Nat)) (x0 x1 x2 : Nat) (x3 x4 : Int) (x5 : List (List Int)) : Nat × Nat :=
 cond (decide ((x4 : Int) < x3))
  (cond ((decide ((0 : Int) ≤ x4)) && (Nat.blt (Int.toNat x4) x1))
   (cond (Nat.blt (1 + (Int.toNat x4)) x5.length)
    (ih (fadd .f32 x0 (Int.toNat ((x5.getD (1 + (Int.toNat x4)) []).getD 0 0))) x1 x2 x3 (IntKind.i64.wrap (x4 + 1)) x5)
    (1, 0))
   (1, 0))
  (0, x0)
noncomputable def r80l0 : Nat → Nat → Nat → Nat → Int → Int → List (List Int) → (Nat × Nat)
 | 0 => fun _ _ _ _ _ _ => (1, 0)
 | m + 1 => b80l0 (r80l0 m)
noncomputable def a80l0 (x0 x1 x2 : Nat) (x3 x4 : Int) (x5 : List (List Int)) (p : Nat × Nat) : Option (Fin' × List Value × St) := firstT ([((Nat.beq (p.1) 0), .exit 0, [.float .f32 (p.2)], ⟨[⟨true, (some (.tab [.fl .f32] x5))⟩], 1, []⟩)].map fun (b, x) => (b, (x.1, frameOf 21 [3] x.2.1, x.2.2)))
noncomputable def u80l0 (x0 x1 x2 : Nat) (x3 x4 : Int) (x5 : List (List Int)) (p : Nat × Nat) : Option (Fin' × List Value × St) := alts ([((Nat.beq (p.1) 0), .exit 0, [.float .f32 (p.2)], ⟨[⟨true, (some (.tab [.fl .f32] x5))⟩], 1, []⟩)].map fun (b, x) => (b, (x.1, frameOf 21 [3] x.2.1, x.2.2))) some
theorem v80l0 (x0 x1 x2 : Nat) (x3 x4 : Int) (x5 : List (List Int)) (p : Nat × Nat) : u80l0 x0 x1 x2 x3 x4 x5 p = a80l0 x0 x1 x2 x3 x4 x5 p := alts_first _
noncomputable def q80l0 (m : Nat) : SumK := fun vals s =>
 match vals, s.h with
 | [.float .f32 x0, .slice (some ⟨f0, f1, some f2⟩) x1 x2, .int .i64 x3, .int .i64 x4], [⟨true, some (.tab [.fl .f32] x5)⟩] => if f0 = 0 ∧ f1 = 1 ∧ f2 = 0 then [((Nat.beq ((r80l0 m x0 x1 x2 x3 x4 x5).1) 0), .exit 0, [.float .f32 ((r80l0 m x0 x1 x2 x3 x4 x5).2)], ⟨[⟨true, (some (.tab [.fl .f32] x5))⟩], 1, []⟩)] else noQ vals s
 | _, _ => noQ vals s
noncomputable def w80l0 (ih : Nat → Nat → Nat → Int → Int → List (List Int) → (Nat × Nat)) (x0 x1 x2 : Nat) (x3 x4 : Int) (x5 : List (List Int)) : Option (Fin' × List Value × St) :=
 (cond (decide ((x4 : Int) < x3))
 (cond ((decide ((0 : Int) ≤ x4)) && (Nat.blt (Int.toNat x4) x1))
  (cond (Nat.blt (1 + (Int.toNat x4)) x5.length)
   (u80l0 x0 x1 x2 x3 x4 x5 (ih (fadd .f32 x0 (Int.toNat ((x5.getD (1 + (Int.toNat x4)) []).getD 0 0))) x1 x2 x3 (IntKind.i64.wrap (x4 + 1)) x5))
   none)
  none)
 (a80l0 x0 x1 x2 x3 x4 x5 (0, x0)))
set_option maxRecDepth 100000 in
set_option maxHeartbeats 4000000 in
theorem e80l0 (m : Nat) (x0 x1 x2 : Nat) (x3 x4 : Int) (x5 : List (List Int)) : evC Try.prog ext T32 noL 200 (loopN Try.f80 0) (loopTail ([3, 10, 11, 12], []) [3] [] (sumK 21 [3, 10, 11, 12] [3] (q80l0 m))) (frameOf 21 [3, 10, 11, 12] [.float .f32 x0, .slice (some ⟨0, 1, some 0⟩) x1 x2, .int .i64 x3, .int .i64 x4]) ⟨[⟨true, (some (.tab [.fl .f32] x5))⟩], 1, []⟩ = firstT ([((Nat.beq ((r80l0 (m + 1) x0 x1 x2 x3 x4 x5).1) 0), .exit 0, [.float .f32 ((r80l0 (m + 1) x0 x1 x2 x3 x4 x5).2)], ⟨[⟨true, (some (.tab [.fl .f32] x5))⟩], 1, []⟩)].map fun (b, x) => (b, (x.1, frameOf 21 [3] x.2.1, x.2.2))) :=
 (show evC Try.prog ext T32 noL 200 (loopN Try.f80 0) (loopTail ([3, 10, 11, 12], []) [3] [] (sumK 21 [3, 10, 11, 12] [3] (q80l0 m))) (frameOf 21 [3, 10, 11, 12] [.float .f32 x0, .slice (some ⟨0, 1, some 0⟩) x1 x2, .int .i64 x3, .int .i64 x4]) ⟨[⟨true, (some (.tab [.fl .f32] x5))⟩], 1, []⟩ = w80l0 (r80l0 m) x0 x1 x2 x3 x4 x5 from by kernel_rfl).trans
 (show w80l0 (r80l0 m) x0 x1 x2 x3 x4 x5 = a80l0 x0 x1 x2 x3 x4 x5 (r80l0 (m + 1) x0 x1 x2 x3 x4 x5) from by unfold w80l0; show _ = a80l0 x0 x1 x2 x3 x4 x5 (b80l0 (r80l0 m) x0 x1 x2 x3 x4 x5); unfold b80l0; exact (cond_app (a80l0 x0 x1 x2 x3 x4 x5) _ (cond_app (a80l0 x0 x1 x2 x3 x4 x5) _ (cond_app (a80l0 x0 x1 x2 x3 x4 x5) _ (v80l0 x0 x1 x2 x3 x4 x5 ((r80l0 m) (fadd .f32 x0 (Int.toNat ((x5.getD (1 + (Int.toNat x4)) []).getD 0 0))) x1 x2 x3 (IntKind.i64.wrap (x4 + 1)) x5)) rfl) rfl) rfl))
set_option maxRecDepth 100000 in
set_option maxHeartbeats 4000000 in
theorem qm80l0 : ∀ m, SumKOk Try.prog (loopN Try.f80 0) 21 [3, 10, 11, 12] [3] (q80l0 m) := by
  intro m
  induction m with
  | zero =>
    intro vals s x h1 h2 h3
    unfold q80l0 at h3; split at h3
    · rename_i h; split at h3
      · rename_i hc; obtain ⟨rfl, rfl, rfl⟩ := hc; exact absurd h3 (by simp [r80l0, firstT, Nat.beq])
      · exact noQ_ok _ _ _ h1 h2 h3
    · exact noQ_ok _ _ _ h1 h2 h3
  | succ m ih =>
    intro vals s x h1 h2 h3
    unfold q80l0 at h3; split at h3
    · rename_i h; split at h3
      · rename_i hc; obtain ⟨rfl, rfl, rfl⟩ := hc; exact sum_step ok32 extOk mixed ((lfOkF_no _ _).inner (by kernel_rfl)) ih h1 h2 h (e80l0 m _ _ _ _ _ _) rfl h3
      · exact noQ_ok _ _ _ h1 h2 h3
    · exact noQ_ok _ _ _ h1 h2 h3
noncomputable def Q80l0 : SumK := fun vals s => q80l0 (fuelOf vals s.h) vals s
theorem qok80l0 : SumKOk Try.prog (loopN Try.f80 0) 21 [3, 10, 11, 12] [3] Q80l0 := fuel_ok qm80l0 fuelOf
noncomputable def L80_1 : LoopT := addL noL 4 ([3, 10, 11, 12], []) (sumK 21 [3, 10, 11, 12] [3] Q80l0)
theorem lok80_1 : LfOkF Try.prog L80_1 Try.f80 := lfOkF_add (lfOkF_no _ _) qok80l0 (by kernel_rfl) (by kernel_rfl) (by kernel_rfl)

/-- impl.sum, loop 0 -/
noncomputable def r80l0b (x0 : Nat) : Unit :=
 ()
noncomputable def a80l0b (x0 : Nat) (p : Unit) : Option (Fin' × List Value × St) := firstT ([(true, .exit 0, [.float .f32 x0], st0)].map fun (b, x) => (b, (x.1, frameOf 21 [3] x.2.1, x.2.2)))
noncomputable def w80l0b (x0 : Nat) : Option (Fin' × List Value × St) :=
 (a80l0b x0 ())
set_option maxRecDepth 100000 in
set_option maxHeartbeats 4000000 in
theorem e80l0b (x0 : Nat) : evC Try.prog ext T32 L80_1 200 (loopN Try.f80 0) (loopTail ([3, 10, 11, 12], []) [3] [] (sumK 21 [3, 10, 11, 12] [3] Q80l0)) (frameOf 21 [3, 10, 11, 12] [.float .f32 x0, .iface 0 (.slice none 0 0), .int .i64 0, .int .i64 0]) ⟨[], 0, []⟩ = firstT ([(true, .exit 0, [.float .f32 x0], st0)].map fun (b, x) => (b, (x.1, frameOf 21 [3] x.2.1, x.2.2))) :=
 (show evC Try.prog ext T32 L80_1 200 (loopN Try.f80 0) (loopTail ([3, 10, 11, 12], []) [3] [] (sumK 21 [3, 10, 11, 12] [3] Q80l0)) (frameOf 21 [3, 10, 11, 12] [.float .f32 x0, .iface 0 (.slice none 0 0), .int .i64 0, .int .i64 0]) ⟨[], 0, []⟩ = w80l0b x0 from by kernel_rfl).trans
 (show w80l0b x0 = a80l0b x0 (r80l0b x0) from by unfold w80l0b r80l0b; exact rfl)
noncomputable def Q80l0b : SumK := fun vals s =>
 match vals, s.h with
 | [.float .f32 x0, .iface f0 (.slice none f1 f2), .int .i64 f3, .int .i64 f4], [] => if f0 = 0 ∧ f1 = 0 ∧ f2 = 0 ∧ f3 = 0 ∧ f4 = 0 then [(true, .exit 0, [.float .f32 x0], st0)] else Q80l0 vals s
 | _, _ => Q80l0 vals s
set_option maxRecDepth 100000 in
set_option maxHeartbeats 4000000 in
theorem qok80l0b : SumKOk Try.prog (loopN Try.f80 0) 21 [3, 10, 11, 12] [3] Q80l0b := by
  intro vals s x h1 h2 h3
  unfold Q80l0b at h3; split at h3
  · rename_i h; split at h3
    · rename_i hc; obtain ⟨rfl, rfl, rfl, rfl, rfl⟩ := hc; exact sum_step ok32 extOk mixed (lok80_1.inner (by kernel_rfl)) qok80l0 h1 h2 h (e80l0b _) rfl h3
    · exact qok80l0 _ _ _ h1 h2 h3
  · exact qok80l0 _ _ _ h1 h2 h3
noncomputable def L80_2 : LoopT := addL L80_1 4 ([3, 10, 11, 12], []) (sumK 21 [3, 10, 11, 12] [3] Q80l0b)
theorem lok80_2 : LfOkF Try.prog L80_2 Try.f80 := lfOkF_add lok80_1 qok80l0b (by kernel_rfl) (by kernel_rfl) (by kernel_rfl)

/-- impl.sum -/
noncomputable def r80 (x0 : List (List Int)) : Nat × Nat :=
 let c178 := (r80l0 (1000 + x0.length) (Int.toNat ((x0.getD 0 []).getD 0 0)) (x0.length - 1) (x0.length - 1) (((x0.length - 1) : Nat) : Int) 0 x0)
 cond (Nat.blt 0 x0.length)
  (cond ((Nat.blt 1 x0.length) && ((Nat.ble 1 x0.length) && (Nat.ble x0.length x0.length)))
   (cond (Nat.beq (c178.1) 0)
    (0, (c178.2))
    (1, 0))
   (cond ((Nat.beq 1 x0.length) && ((Nat.ble 1 x0.length) && (Nat.ble x0.length x0.length)))
    (0, (Int.toNat ((x0.getD 0 []).getD 0 0)))
    (1, 0)))
  (1, 0)
noncomputable def a80 (x0 : List (List Int)) (p : Nat × Nat) : Res := firstT [((Nat.beq (p.1) 0), .float .f32 (p.2), ⟨[⟨true, (some (.tab [.fl .f32] x0))⟩], 1, []⟩)]
noncomputable def w80 (x0 : List (List Int)) : Res :=
 let c178 := (r80l0 (1000 + x0.length) (Int.toNat ((x0.getD 0 []).getD 0 0)) (x0.length - 1) (x0.length - 1) (((x0.length - 1) : Nat) : Int) 0 x0)
 (cond (Nat.blt 0 x0.length)
 (cond (Nat.blt 0 x0.length)
  (cond ((Nat.blt 1 x0.length) && ((Nat.ble 1 x0.length) && (Nat.ble x0.length x0.length)))
   (cond (Nat.beq (c178.1) 0)
    (a80 x0 (0, (c178.2)))
    none)
   (cond ((Nat.beq 1 x0.length) && ((Nat.ble 1 x0.length) && (Nat.ble x0.length x0.length)))
    (a80 x0 (0, (Int.toNat ((x0.getD 0 []).getD 0 0))))
    none))
  none)
 none)
set_option maxRecDepth 100000 in
set_option maxHeartbeats 4000000 in
theorem e80 (x0 : List (List Int)) : evFn Try.prog ext T32 L80_2 200 Try.f80 [wsl 0] ⟨[⟨true, (some (.tab [.fl .f32] x0))⟩], 1, []⟩ = firstT [((Nat.beq ((r80 x0).1) 0), .float .f32 ((r80 x0).2), ⟨[⟨true, (some (.tab [.fl .f32] x0))⟩], 1, []⟩)] :=
 (show evFn Try.prog ext T32 L80_2 200 Try.f80 [wsl 0] ⟨[⟨true, (some (.tab [.fl .f32] x0))⟩], 1, []⟩ = w80 x0 from by kernel_rfl).trans
 (show w80 x0 = a80 x0 (r80 x0) from by unfold w80 r80; exact (cond_both (a80 x0) _ (fun h0 => (cond_t h0 (cond_app (a80 x0) _ (cond_app (a80 x0) _ rfl rfl) (cond_app (a80 x0) _ rfl rfl)))) (fun h0 => rfl)))
noncomputable def s80 (args : List Value) (s : St) : List (Bool × Value × St) :=
 match args, s.h with
 | [.iface f0 .nilIface], [⟨true, some (.tab [.fl .f32] x0)⟩] => if f0 = 0 then [((Nat.beq ((r80 x0).1) 0), .float .f32 ((r80 x0).2), ⟨[⟨true, (some (.tab [.fl .f32] x0))⟩], 1, []⟩)] else T32 80 args s
 | _, _ => T32 80 args s
noncomputable def T33 : CallF := addF T32 80 s80
set_option maxRecDepth 100000 in
set_option maxHeartbeats 4000000 in
theorem ok33 : CfOk Try.prog T33 := by
  refine cfOk_add ok32 fun args s r s' h1 h2 h3 => ?_
  unfold s80 at h3; split at h3
  · rename_i h; split at h3
    · rename_i hc; obtain ⟨rfl⟩ := hc; exact callOk ok32 Try.func80 h1 h2 h lok80_2.body (e80 _) rfl h3
    · exact ok32 _ _ _ _ _ h1 h2 h3
  · exact ok32 _ _ _ _ _ h1 h2 h3

/-- impl.finite -/
noncomputable def r79 (x0 : Nat) : Nat × Int :=
 cond (!(r70 x0))
  (0, 4)
  (x0, 0)
noncomputable def a79 (x0 : Nat) (p : Nat × Int) : Res := firstT [(true, .tuple #[.float .f32 (p.1), .int .i64 (p.2)], st0)]
noncomputable def w79 (x0 : Nat) : Res :=
 (cond (!(r70 x0))
 (a79 x0 (0, 4))
 (a79 x0 (x0, 0)))
set_option maxRecDepth 100000 in
set_option maxHeartbeats 4000000 in
theorem e79 (x0 : Nat) : evFn Try.prog ext T33 noL 200 Try.f79 [.float .f32 x0] st0 = firstT [(true, .tuple #[.float .f32 ((r79 x0).1), .int .i64 ((r79 x0).2)], st0)] :=
 (show evFn Try.prog ext T33 noL 200 Try.f79 [.float .f32 x0] st0 = w79 x0 from by kernel_rfl).trans
 (show w79 x0 = a79 x0 (r79 x0) from by unfold w79 r79; exact (cond_app (a79 x0) _ rfl rfl))
noncomputable def s79 (args : List Value) (s : St) : List (Bool × Value × St) :=
 match args, s.h with
 | [.float .f32 x0], [] => [(true, .tuple #[.float .f32 ((r79 x0).1), .int .i64 ((r79 x0).2)], st0)]
 | _, _ => T33 79 args s
noncomputable def T34 : CallF := addF T33 79 s79
set_option maxRecDepth 100000 in
set_option maxHeartbeats 4000000 in
theorem ok34 : CfOk Try.prog T34 := by
  refine cfOk_add ok33 fun args s r s' h1 h2 h3 => ?_
  unfold s79 at h3; split at h3
  · rename_i h; exact callOk ok33 Try.func79 h1 h2 h (lfOkF_no _ _).body (e79 _) rfl h3
  · exact ok33 _ _ _ _ _ h1 h2 h3

/-- impl.EnergyOf -/
noncomputable def r26 (x0 x1 x2 x3 : List (List Int)) : Nat × Nat × Int :=
 let c100 := (r26l0 (1000 + x3.length + x2.length + x1.length + x0.length + 0) ((x0.length : Nat) : Int) 0 ([] : List (List Int)) x0 x1 x2 x3)
 cond (Nat.beq ((r65 x0 x1 x2 x3).1) 0)
  (cond (!((r65 x0 x1 x2 x3).2))
   (0, 0, 1)
   (cond (Nat.beq (c100.1) 0)
    (cond (Nat.beq ((r26l1 (1000 + x2.length + (c100.2).length) ((x2.length : Nat) : Int) 0 (c100.2) x2).1) 0)
     (cond (Nat.beq ((r80 ((r26l1 (1000 + x2.length + (c100.2).length) ((x2.length : Nat) : Int) 0 (c100.2) x2).2)).1) 0)
      (0, ((r79 ((r80 ((r26l1 (1000 + x2.length + (c100.2).length) ((x2.length : Nat) : Int) 0 (c100.2) x2).2)).2)).1), ((r79 ((r80 ((r26l1 (1000 + x2.length + (c100.2).length) ((x2.length : Nat) : Int) 0 (c100.2) x2).2)).2)).2))
      (1, 0, 0))
     (cond (Nat.beq ((r26l1 (1000 + x2.length + (c100.2).length) ((x2.length : Nat) : Int) 0 (c100.2) x2).1) 1)
      (cond (Nat.beq ((r80 (c100.2)).1) 0)
       (0, ((r79 ((r80 (c100.2)).2)).1), ((r79 ((r80 (c100.2)).2)).2))
       (1, 0, 0))
      (1, 0, 0)))
    (cond (Nat.beq (c100.1) 1)
     (cond (Nat.beq ((r26l1 (1000 + x2.length + 0) ((x2.length : Nat) : Int) 0 ([] : List (List Int)) x2).1) 0)
      (cond (Nat.beq ((r80 ((r26l1 (1000 + x2.length + 0) ((x2.length : Nat) : Int) 0 ([] : List (List Int)) x2).2)).1) 0)
       (0, ((r79 ((r80 ((r26l1 (1000 + x2.length + 0) ((x2.length : Nat) : Int) 0 ([] : List (List Int)) x2).2)).2)).1), ((r79 ((r80 ((r26l1 (1000 + x2.length + 0) ((x2.length : Nat) : Int) 0 ([] : List (List Int)) x2).2)).2)).2))
       (1, 0, 0))
      (cond (Nat.beq ((r26l1 (1000 + x2.length + 0) ((x2.length : Nat) : Int) 0 ([] : List (List Int)) x2).1) 1)
       (cond (Nat.beq ((r80 ([] : List (List Int))).1) 0)
        (0, ((r79 ((r80 ([] : List (List Int))).2)).1), ((r79 ((r80 ([] : List (List Int))).2)).2))
        (1, 0, 0))
       (1, 0, 0)))
     (1, 0, 0))))
  (1, 0, 0)
noncomputable def a26 (x0 x1 x2 x3 : List (List Int)) (p : Nat × Nat × Int) : Res := firstT [((Nat.beq (p.1) 0), .tuple #[.float .f32 (p.2.1), .int .i64 (p.2.2)], ⟨[⟨true, (some (.tab [.fl .f32] x0))⟩, ⟨true, (some (.tab [.fl .f32] x1))⟩, ⟨true, (some (.tab sc0 x2))⟩, ⟨true, (some (.tab sc1 x3))⟩], 4, []⟩)]
noncomputable def w26 (x0 x1 x2 x3 : List (List Int)) : Res :=
 let c100 := (r26l0 (1000 + x3.length + x2.length + x1.length + x0.length + 0) ((x0.length : Nat) : Int) 0 ([] : List (List Int)) x0 x1 x2 x3)
 (cond (Nat.beq ((r65 x0 x1 x2 x3).1) 0)
 (cond (!((r65 x0 x1 x2 x3).2))
  (a26 x0 x1 x2 x3 (0, 0, 1))
  (cond (Nat.beq (c100.1) 0)
   (cond (Nat.beq ((r26l1 (1000 + x2.length + (c100.2).length) ((x2.length : Nat) : Int) 0 (c100.2) x2).1) 0)
    (cond (Nat.beq ((r80 ((r26l1 (1000 + x2.length + (c100.2).length) ((x2.length : Nat) : Int) 0 (c100.2) x2).2)).1) 0)
     (a26 x0 x1 x2 x3 (0, ((r79 ((r80 ((r26l1 (1000 + x2.length + (c100.2).length) ((x2.length : Nat) : Int) 0 (c100.2) x2).2)).2)).1), ((r79 ((r80 ((r26l1 (1000 + x2.length + (c100.2).length) ((x2.length : Nat) : Int) 0 (c100.2) x2).2)).2)).2)))
     none)
    (cond (Nat.beq ((r26l1 (1000 + x2.length + (c100.2).length) ((x2.length : Nat) : Int) 0 (c100.2) x2).1) 1)
     (cond (Nat.beq ((r80 (c100.2)).1) 0)
      (a26 x0 x1 x2 x3 (0, ((r79 ((r80 (c100.2)).2)).1), ((r79 ((r80 (c100.2)).2)).2)))
      none)
     none))
   (cond (Nat.beq (c100.1) 1)
    (cond (Nat.beq ((r26l1 (1000 + x2.length + 0) ((x2.length : Nat) : Int) 0 ([] : List (List Int)) x2).1) 0)
     (cond (Nat.beq ((r80 ((r26l1 (1000 + x2.length + 0) ((x2.length : Nat) : Int) 0 ([] : List (List Int)) x2).2)).1) 0)
      (a26 x0 x1 x2 x3 (0, ((r79 ((r80 ((r26l1 (1000 + x2.length + 0) ((x2.length : Nat) : Int) 0 ([] : List (List Int)) x2).2)).2)).1), ((r79 ((r80 ((r26l1 (1000 + x2.length + 0) ((x2.length : Nat) : Int) 0 ([] : List (List Int)) x2).2)).2)).2)))
      none)
     (cond (Nat.beq ((r26l1 (1000 + x2.length + 0) ((x2.length : Nat) : Int) 0 ([] : List (List Int)) x2).1) 1)
      (cond (Nat.beq ((r80 ([] : List (List Int))).1) 0)
       (a26 x0 x1 x2 x3 (0, ((r79 ((r80 ([] : List (List Int))).2)).1), ((r79 ((r80 ([] : List (List Int))).2)).2)))
       none)
      none))
    none)))
 none)
set_option maxRecDepth 100000 in
set_option maxHeartbeats 4000000 in
theorem e26 (x0 x1 x2 x3 : List (List Int)) : evFn Try.prog ext T34 L26_7 200 Try.f26 [.agg #[wsl 0, wsl 1, wsl 2, wsl 3]] ⟨[⟨true, (some (.tab [.fl .f32] x0))⟩, ⟨true, (some (.tab [.fl .f32] x1))⟩, ⟨true, (some (.tab sc0 x2))⟩, ⟨true, (some (.tab sc1 x3))⟩], 4, []⟩ = firstT [((Nat.beq ((r26 x0 x1 x2 x3).1) 0), .tuple #[.float .f32 ((r26 x0 x1 x2 x3).2.1), .int .i64 ((r26 x0 x1 x2 x3).2.2)], ⟨[⟨true, (some (.tab [.fl .f32] x0))⟩, ⟨true, (some (.tab [.fl .f32] x1))⟩, ⟨true, (some (.tab sc0 x2))⟩, ⟨true, (some (.tab sc1 x3))⟩], 4, []⟩)] :=
 (show evFn Try.prog ext T34 L26_7 200 Try.f26 [.agg #[wsl 0, wsl 1, wsl 2, wsl 3]] ⟨[⟨true, (some (.tab [.fl .f32] x0))⟩, ⟨true, (some (.tab [.fl .f32] x1))⟩, ⟨true, (some (.tab sc0 x2))⟩, ⟨true, (some (.tab sc1 x3))⟩], 4, []⟩ = w26 x0 x1 x2 x3 from by kernel_rfl).trans
 (show w26 x0 x1 x2 x3 = a26 x0 x1 x2 x3 (r26 x0 x1 x2 x3) from by unfold w26 r26; exact (cond_app (a26 x0 x1 x2 x3) _ (cond_app (a26 x0 x1 x2 x3) _ rfl (cond_app (a26 x0 x1 x2 x3) _ (cond_app (a26 x0 x1 x2 x3) _ (cond_app (a26 x0 x1 x2 x3) _ rfl rfl) (cond_app (a26 x0 x1 x2 x3) _ (cond_app (a26 x0 x1 x2 x3) _ rfl rfl) rfl)) (cond_app (a26 x0 x1 x2 x3) _ (cond_app (a26 x0 x1 x2 x3) _ (cond_app (a26 x0 x1 x2 x3) _ rfl rfl) (cond_app (a26 x0 x1 x2 x3) _ (cond_app (a26 x0 x1 x2 x3) _ rfl rfl) rfl)) rfl))) rfl))
noncomputable def s26 (args : List Value) (s : St) : List (Bool × Value × St) :=
 match args, s.h with
 | [.agg ⟨[.iface f0 .nilIface, .iface f1 .nilIface, .iface f2 .nilIface, .iface f3 .nilIface]⟩], [⟨true, some (.tab [.fl .f32] x0)⟩, ⟨true, some (.tab [.fl .f32] x1)⟩, ⟨true, some (.tab [.int .i64, .int .i64, .fl .f32, .fl .f32, .fl .f32, .fl .f32, .fl .f32, .fl .f32] x2)⟩, ⟨true, some (.tab [.int .i64, .int .i64, .fl .f32, .fl .f32] x3)⟩] => if f0 = 0 ∧ f1 = 1 ∧ f2 = 2 ∧ f3 = 3 then [((Nat.beq ((r26 x0 x1 x2 x3).1) 0), .tuple #[.float .f32 ((r26 x0 x1 x2 x3).2.1), .int .i64 ((r26 x0 x1 x2 x3).2.2)], ⟨[⟨true, (some (.tab [.fl .f32] x0))⟩, ⟨true, (some (.tab [.fl .f32] x1))⟩, ⟨true, (some (.tab sc0 x2))⟩, ⟨true, (some (.tab sc1 x3))⟩], 4, []⟩)] else T34 26 args s
 | _, _ => T34 26 args s
noncomputable def T35 : CallF := addF T34 26 s26
set_option maxRecDepth 100000 in
set_option maxHeartbeats 4000000 in
theorem ok35 : CfOk Try.prog T35 := by
  refine cfOk_add ok34 fun args s r s' h1 h2 h3 => ?_
  unfold s26 at h3; split at h3
  · rename_i h; split at h3
    · rename_i hc; obtain ⟨rfl, rfl, rfl, rfl⟩ := hc; exact callOk ok34 Try.func26 h1 h2 h lok26_7.body (e26 _ _ _ _) rfl h3
    · exact ok34 _ _ _ _ _ h1 h2 h3
  · exact ok34 _ _ _ _ _ h1 h2 h3

/-- laws.sameFloat -/
noncomputable def r27 (x0 x1 : Nat) : Bool :=
 cond (!feq .f64 x0 x0)
  ((!feq .f64 x1 x1))
  (cond (!feq .f64 x1 x1)
   (false)
   (cond (feq .f64 x0 0)
    (cond (feq .f64 x1 0)
     (((fgt .f64 (fdiv .f64 4607182418800017408 x0) 0) == (fgt .f64 (fdiv .f64 4607182418800017408 x1) 0)))
     ((feq .f64 x0 x1)))
    ((feq .f64 x0 x1))))
noncomputable def a27 (x0 x1 : Nat) (p : Bool) : Res := firstT [(true, .bool p, st0)]
noncomputable def w27 (x0 x1 : Nat) : Res :=
 (cond (!feq .f64 x0 x0)
 (cond (!feq .f64 x0 x0)
  (a27 x0 x1 ((!feq .f64 x1 x1)))
  (some (.bool false, st0)))
 (cond (!feq .f64 x1 x1)
  (cond (!feq .f64 x0 x0)
   (some (.bool (!feq .f64 x1 x1), st0))
   (a27 x0 x1 (false)))
  (cond (feq .f64 x0 0)
   (cond (feq .f64 x1 0)
    (a27 x0 x1 (((fgt .f64 (fdiv .f64 4607182418800017408 x0) 0) == (fgt .f64 (fdiv .f64 4607182418800017408 x1) 0))))
    (a27 x0 x1 ((feq .f64 x0 x1))))
   (a27 x0 x1 ((feq .f64 x0 x1))))))
set_option maxRecDepth 100000 in
set_option maxHeartbeats 4000000 in
theorem e27 (x0 x1 : Nat) : evFn Try.prog ext T35 noL 200 Try.f27 [.float .f64 x0, .float .f64 x1] st0 = firstT [(true, .bool (r27 x0 x1), st0)] :=
 (show evFn Try.prog ext T35 noL 200 Try.f27 [.float .f64 x0, .float .f64 x1] st0 = w27 x0 x1 from by kernel_rfl).trans
 (show w27 x0 x1 = a27 x0 x1 (r27 x0 x1) from by unfold w27 r27; exact (cond_both (a27 x0 x1) _ (fun h0 => (cond_t (ev_not1 (ev_nott h0)) rfl)) (fun h0 => (cond_both (a27 x0 x1) _ (fun h1 => (cond_f (ev_not0 (ev_notf h0)) rfl)) (fun h1 => (cond_app (a27 x0 x1) _ (cond_app (a27 x0 x1) _ rfl rfl) rfl))))))
noncomputable def s27 (args : List Value) (s : St) : List (Bool × Value × St) :=
 match args, s.h with
 | [.float .f64 x0, .float .f64 x1], [] => [(true, .bool (r27 x0 x1), st0)]
 | _, _ => T35 27 args s
noncomputable def T36 : CallF := addF T35 27 s27
set_option maxRecDepth 100000 in
set_option maxHeartbeats 4000000 in
theorem ok36 : CfOk Try.prog T36 := by
  refine cfOk_add ok35 fun args s r s' h1 h2 h3 => ?_
  unfold s27 at h3; split at h3
  · rename_i h; exact callOk ok35 Try.func27 h1 h2 h (lfOkF_no _ _).body (e27 _ _) rfl h3
  · exact ok35 _ _ _ _ _ h1 h2 h3

/-- laws.eqFloat32S, loop 0: one round -/
noncomputable def b31l0 (ih : Int → List (List Int) → List (List Int) → Nat) (x0 : Int) (x1 x2 : List (List Int)) : Nat :=
 let c195 := (r27 (widen (Int.toNat ((x1.getD (Int.toNat x0) []).getD 0 0))) (widen (Int.toNat ((x2.getD (Int.toNat x0) []).getD 0 0))))
 cond (decide ((x0 : Int) < ((x1.length : Nat) : Int)))
  (cond ((decide ((0 : Int) ≤ x0)) && (Nat.blt (Int.toNat x0) x1.length))
   (cond ((decide ((0 : Int) ≤ x0)) && (Nat.blt (Int.toNat x0) x2.length))
    (cond (!c195)
     (0)
     (ih (IntKind.i64.wrap (x0 + 1)) x1 x2))
    (2))
   (2))
  (1)
noncomputable def r31l0 : Nat → Int → List (List Int) → List (List Int) → Nat
 | 0 => fun _ _ _ => (2)
 | m + 1 => b31l0 (r31l0 m)
noncomputable def a31l0 (x0 : Int) (x1 x2 : List (List Int)) (p : Nat) : Option (Fin' × List Value × St) := firstT ([((Nat.beq p 0), .ret, [.bool false], ⟨[⟨true, (some (.tab [.fl .f32] x1))⟩, ⟨true, (some (.tab [.fl .f32] x2))⟩], 2, []⟩), ((Nat.beq p 1), .exit 0, [anyV], ⟨[⟨true, (some (.tab [.fl .f32] x1))⟩, ⟨true, (some (.tab [.fl .f32] x2))⟩], 2, []⟩)].map fun (b, x) => (b, (x.1, frameOf 29 [4] x.2.1, x.2.2)))
noncomputable def u31l0 (x0 : Int) (x1 x2 : List (List Int)) (p : Nat) : Option (Fin' × List Value × St) := alts ([((Nat.beq p 0), .ret, [.bool false], ⟨[⟨true, (some (.tab [.fl .f32] x1))⟩, ⟨true, (some (.tab [.fl .f32] x2))⟩], 2, []⟩), ((Nat.beq p 1), .exit 0, [anyV], ⟨[⟨true, (some (.tab [.fl .f32] x1))⟩, ⟨true, (some (.tab [.fl .f32] x2))⟩], 2, []⟩)].map fun (b, x) => (b, (x.1, frameOf 29 [4] x.2.1, x.2.2))) some
theorem v31l0 (x0 : Int) (x1 x2 : List (List Int)) (p : Nat) : u31l0 x0 x1 x2 p = a31l0 x0 x1 x2 p := alts_first _
noncomputable def q31l0 (m : Nat) : SumK := fun vals s =>
 match vals, s.h with
 | [.iface f0 .nilIface, .iface f1 .nilIface, .int .i64 x0], [⟨true, some (.tab [.fl .f32] x1)⟩, ⟨true, some (.tab [.fl .f32] x2)⟩] => if f0 = 0 ∧ f1 = 1 then [((Nat.beq (r31l0 m x0 x1 x2) 0), .ret, [.bool false], ⟨[⟨true, (some (.tab [.fl .f32] x1))⟩, ⟨true, (some (.tab [.fl .f32] x2))⟩], 2, []⟩), ((Nat.beq (r31l0 m x0 x1 x2) 1), .exit 0, [anyV], ⟨[⟨true, (some (.tab [.fl .f32] x1))⟩, ⟨true, (some (.tab [.fl .f32] x2))⟩], 2, []⟩)] else noQ vals s
 | _, _ => noQ vals s
noncomputable def w31l0 (ih : Int → List (List Int) → List (List Int) → Nat) (x0 : Int) (x1 x2 : List (List Int)) : Option (Fin' × List Value × St) :=
 let c195 := (r27 (widen (Int.toNat ((x1.getD (Int.toNat x0) []).getD 0 0))) (widen (Int.toNat ((x2.getD (Int.toNat x0) []).getD 0 0))))
 (cond (decide ((x0 : Int) < ((x1.length : Nat) : Int)))
 (cond ((decide ((0 : Int) ≤ x0)) && (Nat.blt (Int.toNat x0) x1.length))
  (cond (Nat.blt (Int.toNat x0) x1.length)
   (cond ((decide ((0 : Int) ≤ x0)) && (Nat.blt (Int.toNat x0) x2.length))
    (cond (Nat.blt (Int.toNat x0) x2.length)
     (cond (!c195)
      (a31l0 x0 x1 x2 (0))
      (u31l0 x0 x1 x2 (ih (IntKind.i64.wrap (x0 + 1)) x1 x2)))
     none)
    none)
   none)
  none)
 (a31l0 x0 x1 x2 (1)))
set_option maxRecDepth 100000 in
set_option maxHeartbeats 4000000 in
theorem e31l0 (m : Nat) (x0 : Int) (x1 x2 : List (List Int)) : evC Try.prog ext T36 noL 200 (loopN Try.f31 0) (loopTail ([0, 1, 5], []) [4] [] (sumK 29 [0, 1, 5] [4] (q31l0 m))) (frameOf 29 [0, 1, 5] [wsl 0, wsl 1, .int .i64 x0]) ⟨[⟨true, (some (.tab [.fl .f32] x1))⟩, ⟨true, (some (.tab [.fl .f32] x2))⟩], 2, []⟩ = firstT ([((Nat.beq (r31l0 (m + 1) x0 x1 x2) 0), .ret, [.bool false], ⟨[⟨true, (some (.tab [.fl .f32] x1))⟩, ⟨true, (some (.tab [.fl .f32] x2))⟩], 2, []⟩), ((Nat.beq (r31l0 (m + 1) x0 x1 x2) 1), .exit 0, [anyV], ⟨[⟨true, (some (.tab [.fl .f32] x1))⟩, ⟨true, (some (.tab [.fl .f32] x2))⟩], 2, []⟩)].map fun (b, x) => (b, (x.1, frameOf 29 [4] x.2.1, x.2.2))) :=
 (show evC Try.prog ext T36 noL 200 (loopN Try.f31 0) (loopTail ([0, 1, 5], []) [4] [] (sumK 29 [0, 1, 5] [4] (q31l0 m))) (frameOf 29 [0, 1, 5] [wsl 0, wsl 1, .int .i64 x0]) ⟨[⟨true, (some (.tab [.fl .f32] x1))⟩, ⟨true, (some (.tab [.fl .f32] x2))⟩], 2, []⟩ = w31l0 (r31l0 m) x0 x1 x2 from by kernel_rfl).trans
 (show w31l0 (r31l0 m) x0 x1 x2 = a31l0 x0 x1 x2 (r31l0 (m + 1) x0 x1 x2) from by unfold w31l0; show _ = a31l0 x0 x1 x2 (b31l0 (r31l0 m) x0 x1 x2); unfold b31l0; exact (cond_both (a31l0 x0 x1 x2) _ (fun h0 => (cond_both (a31l0 x0 x1 x2) _ (fun h1 => (cond_t (ev_and2 h1) (cond_both (a31l0 x0 x1 x2) _ (fun h2 => (cond_t (ev_and2 h2) (cond_app (a31l0 x0 x1 x2) _ rfl (v31l0 x0 x1 x2 ((r31l0 m) (IntKind.i64.wrap (x0 + 1)) x1 x2))))) (fun h2 => rfl)))) (fun h1 => rfl))) (fun h0 => rfl)))
set_option maxRecDepth 100000 in
set_option maxHeartbeats 4000000 in
theorem qm31l0 : ∀ m, SumKOk Try.prog (loopN Try.f31 0) 29 [0, 1, 5] [4] (q31l0 m) := by
  intro m
  induction m with
  | zero =>
    intro vals s x h1 h2 h3
    unfold q31l0 at h3; split at h3
    · rename_i h; split at h3
      · rename_i hc; obtain ⟨rfl, rfl⟩ := hc; exact absurd h3 (by simp [r31l0, firstT, Nat.beq])
      · exact noQ_ok _ _ _ h1 h2 h3
    · exact noQ_ok _ _ _ h1 h2 h3
  | succ m ih =>
    intro vals s x h1 h2 h3
    unfold q31l0 at h3; split at h3
    · rename_i h; split at h3
      · rename_i hc; obtain ⟨rfl, rfl⟩ := hc; exact sum_step ok36 extOk mixed ((lfOkF_no _ _).inner (by kernel_rfl)) ih h1 h2 h (e31l0 m _ _ _) rfl h3
      · exact noQ_ok _ _ _ h1 h2 h3
    · exact noQ_ok _ _ _ h1 h2 h3
noncomputable def Q31l0 : SumK := fun vals s => q31l0 (fuelOf vals s.h) vals s
theorem qok31l0 : SumKOk Try.prog (loopN Try.f31 0) 29 [0, 1, 5] [4] Q31l0 := fuel_ok qm31l0 fuelOf
noncomputable def L31_1 : LoopT := addL noL 5 ([0, 1, 5], []) (sumK 29 [0, 1, 5] [4] Q31l0)
theorem lok31_1 : LfOkF Try.prog L31_1 Try.f31 := lfOkF_add (lfOkF_no _ _) qok31l0 (by kernel_rfl) (by kernel_rfl) (by kernel_rfl)

/-- laws.eqFloat32S -/
noncomputable def r31 (x0 x1 : List (List Int)) : Nat × Bool :=
 cond ((((x0.length : Nat) : Int) : Int) != ((x1.length : Nat) : Int))
  (0, false)
  (cond (Nat.beq (r31l0 (1000 + x1.length + x0.length) 0 x0 x1) 0)
   (0, false)
   (cond (Nat.beq (r31l0 (1000 + x1.length + x0.length) 0 x0 x1) 1)
    (0, true)
    (1, false)))
noncomputable def a31 (x0 x1 : List (List Int)) (p : Nat × Bool) : Res := firstT [((Nat.beq (p.1) 0), .bool (p.2), ⟨[⟨true, (some (.tab [.fl .f32] x0))⟩, ⟨true, (some (.tab [.fl .f32] x1))⟩], 2, []⟩)]
noncomputable def w31 (x0 x1 : List (List Int)) : Res :=
 (cond ((((x0.length : Nat) : Int) : Int) != ((x1.length : Nat) : Int))
 (a31 x0 x1 (0, false))
 (cond (Nat.beq (r31l0 (1000 + x1.length + x0.length) 0 x0 x1) 0)
  (a31 x0 x1 (0, false))
  (cond (Nat.beq (r31l0 (1000 + x1.length + x0.length) 0 x0 x1) 1)
   (a31 x0 x1 (0, true))
   none)))
set_option maxRecDepth 100000 in
set_option maxHeartbeats 4000000 in
theorem e31 (x0 x1 : List (List Int)) : evFn Try.prog ext T36 L31_1 200 Try.f31 [wsl 0, wsl 1] ⟨[⟨true, (some (.tab [.fl .f32] x0))⟩, ⟨true, (some (.tab [.fl .f32] x1))⟩], 2, []⟩ = firstT [((Nat.beq ((r31 x0 x1).1) 0), .bool ((r31 x0 x1).2), ⟨[⟨true, (some (.tab [.fl .f32] x0))⟩, ⟨true, (some (.tab [.fl .f32] x1))⟩], 2, []⟩)] :=
 (show evFn Try.prog ext T36 L31_1 200 Try.f31 [wsl 0, wsl 1] ⟨[⟨true, (some (.tab [.fl .f32] x0))⟩, ⟨true, (some (.tab [.fl .f32] x1))⟩], 2, []⟩ = w31 x0 x1 from by kernel_rfl).trans
 (show w31 x0 x1 = a31 x0 x1 (r31 x0 x1) from by unfold w31 r31; exact (cond_app (a31 x0 x1) _ rfl (cond_app (a31 x0 x1) _ rfl (cond_app (a31 x0 x1) _ rfl rfl))))
noncomputable def s31 (args : List Value) (s : St) : List (Bool × Value × St) :=
 match args, s.h with
 | [.iface f0 .nilIface, .iface f1 .nilIface], [⟨true, some (.tab [.fl .f32] x0)⟩, ⟨true, some (.tab [.fl .f32] x1)⟩] => if f0 = 0 ∧ f1 = 1 then [((Nat.beq ((r31 x0 x1).1) 0), .bool ((r31 x0 x1).2), ⟨[⟨true, (some (.tab [.fl .f32] x0))⟩, ⟨true, (some (.tab [.fl .f32] x1))⟩], 2, []⟩)] else T36 31 args s
 | _, _ => T36 31 args s
noncomputable def T37 : CallF := addF T36 31 s31
set_option maxRecDepth 100000 in
set_option maxHeartbeats 4000000 in
theorem ok37 : CfOk Try.prog T37 := by
  refine cfOk_add ok36 fun args s r s' h1 h2 h3 => ?_
  unfold s31 at h3; split at h3
  · rename_i h; split at h3
    · rename_i hc; obtain ⟨rfl, rfl⟩ := hc; exact callOk ok36 Try.func31 h1 h2 h lok31_1.body (e31 _ _) rfl h3
    · exact ok36 _ _ _ _ _ h1 h2 h3
  · exact ok36 _ _ _ _ _ h1 h2 h3

/-- laws.eqFloat32A4 -/
noncomputable def r128 (x0 x1 x2 x3 x4 x5 x6 x7 : Nat) : Bool :=
 cond (!(r27 (widen x0) (widen x4)))
  (false)
  (cond (!(r27 (widen x1) (widen x5)))
   (false)
   (cond (!(r27 (widen x2) (widen x6)))
    (false)
    (cond (!(r27 (widen x3) (widen x7)))
     (false)
     (true))))
noncomputable def a128 (x0 x1 x2 x3 x4 x5 x6 x7 : Nat) (p : Bool) : Res := firstT [(true, .bool p, st0)]
noncomputable def w128 (x0 x1 x2 x3 x4 x5 x6 x7 : Nat) : Res :=
 (cond (!(r27 (widen x0) (widen x4)))
 (a128 x0 x1 x2 x3 x4 x5 x6 x7 (false))
 (cond (!(r27 (widen x1) (widen x5)))
  (a128 x0 x1 x2 x3 x4 x5 x6 x7 (false))
  (cond (!(r27 (widen x2) (widen x6)))
   (a128 x0 x1 x2 x3 x4 x5 x6 x7 (false))
   (cond (!(r27 (widen x3) (widen x7)))
    (a128 x0 x1 x2 x3 x4 x5 x6 x7 (false))
    (a128 x0 x1 x2 x3 x4 x5 x6 x7 (true))))))
set_option maxRecDepth 100000 in
set_option maxHeartbeats 4000000 in
theorem e128 (x0 x1 x2 x3 x4 x5 x6 x7 : Nat) : evFn Try.prog ext T37 noL 200 Try.f128 [.agg #[.float .f32 x0, .float .f32 x1, .float .f32 x2, .float .f32 x3], .agg #[.float .f32 x4, .float .f32 x5, .float .f32 x6, .float .f32 x7]] st0 = firstT [(true, .bool (r128 x0 x1 x2 x3 x4 x5 x6 x7), st0)] :=
 (show evFn Try.prog ext T37 noL 200 Try.f128 [.agg #[.float .f32 x0, .float .f32 x1, .float .f32 x2, .float .f32 x3], .agg #[.float .f32 x4, .float .f32 x5, .float .f32 x6, .float .f32 x7]] st0 = w128 x0 x1 x2 x3 x4 x5 x6 x7 from by kernel_rfl).trans
 (show w128 x0 x1 x2 x3 x4 x5 x6 x7 = a128 x0 x1 x2 x3 x4 x5 x6 x7 (r128 x0 x1 x2 x3 x4 x5 x6 x7) from by unfold w128 r128; exact (cond_app (a128 x0 x1 x2 x3 x4 x5 x6 x7) _ rfl (cond_app (a128 x0 x1 x2 x3 x4 x5 x6 x7) _ rfl (cond_app (a128 x0 x1 x2 x3 x4 x5 x6 x7) _ rfl (cond_app (a128 x0 x1 x2 x3 x4 x5 x6 x7) _ rfl rfl)))))
noncomputable def s128 (args : List Value) (s : St) : List (Bool × Value × St) :=
 match args, s.h with
 | [.agg ⟨[.float .f32 x0, .float .f32 x1, .float .f32 x2, .float .f32 x3]⟩, .agg ⟨[.float .f32 x4, .float .f32 x5, .float .f32 x6, .float .f32 x7]⟩], [] => [(true, .bool (r128 x0 x1 x2 x3 x4 x5 x6 x7), st0)]
 | _, _ => T37 128 args s
noncomputable def T38 : CallF := addF T37 128 s128
set_option maxRecDepth 100000 in
set_option maxHeartbeats 4000000 in
theorem ok38 : CfOk Try.prog T38 := by
  refine cfOk_add ok37 fun args s r s' h1 h2 h3 => ?_
  unfold s128 at h3; split at h3
  · rename_i h; exact callOk ok37 Try.func128 h1 h2 h (lfOkF_no _ _).body (e128 _ _ _ _ _ _ _ _) rfl h3
  · exact ok37 _ _ _ _ _ h1 h2 h3

/-- laws.eqWall -/
noncomputable def r120 (x0 x1 : Int) (x2 x3 x4 x5 x6 x7 : Nat) (x8 x9 : Int) (x10 x11 x12 x13 x14 x15 : Nat) : Bool :=
 cond ((x0 : Int) != x8)
  (false)
  (cond ((x1 : Int) != x9)
   (false)
   (cond (!(r27 (widen x2) (widen x10)))
    (false)
    (cond (!(r27 (widen x3) (widen x11)))
     (false)
     (cond (!(r128 x4 x5 x6 x7 x12 x13 x14 x15))
      (false)
      (true)))))
noncomputable def a120 (x0 x1 : Int) (x2 x3 x4 x5 x6 x7 : Nat) (x8 x9 : Int) (x10 x11 x12 x13 x14 x15 : Nat) (p : Bool) : Res := firstT [(true, .bool p, st0)]
noncomputable def w120 (x0 x1 : Int) (x2 x3 x4 x5 x6 x7 : Nat) (x8 x9 : Int) (x10 x11 x12 x13 x14 x15 : Nat) : Res :=
 (cond ((x0 : Int) != x8)
 (a120 x0 x1 x2 x3 x4 x5 x6 x7 x8 x9 x10 x11 x12 x13 x14 x15 (false))
 (cond ((x1 : Int) != x9)
  (a120 x0 x1 x2 x3 x4 x5 x6 x7 x8 x9 x10 x11 x12 x13 x14 x15 (false))
  (cond (!(r27 (widen x2) (widen x10)))
   (a120 x0 x1 x2 x3 x4 x5 x6 x7 x8 x9 x10 x11 x12 x13 x14 x15 (false))
   (cond (!(r27 (widen x3) (widen x11)))
    (a120 x0 x1 x2 x3 x4 x5 x6 x7 x8 x9 x10 x11 x12 x13 x14 x15 (false))
    (cond (!(r128 x4 x5 x6 x7 x12 x13 x14 x15))
     (a120 x0 x1 x2 x3 x4 x5 x6 x7 x8 x9 x10 x11 x12 x13 x14 x15 (false))
     (a120 x0 x1 x2 x3 x4 x5 x6 x7 x8 x9 x10 x11 x12 x13 x14 x15 (true)))))))
set_option maxRecDepth 100000 in
set_option maxHeartbeats 4000000 in
theorem e120 (x0 x1 : Int) (x2 x3 x4 x5 x6 x7 : Nat) (x8 x9 : Int) (x10 x11 x12 x13 x14 x15 : Nat) : evFn Try.prog ext T38 noL 200 Try.f120 [.agg #[.int .i64 x0, .int .i64 x1, .float .f32 x2, .float .f32 x3, .float .f32 x4, .float .f32 x5, .float .f32 x6, .float .f32 x7], .agg #[.int .i64 x8, .int .i64 x9, .float .f32 x10, .float .f32 x11, .float .f32 x12, .float .f32 x13, .float .f32 x14, .float .f32 x15]] st0 = firstT [(true, .bool (r120 x0 x1 x2 x3 x4 x5 x6 x7 x8 x9 x10 x11 x12 x13 x14 x15), st0)] :=
 (show evFn Try.prog ext T38 noL 200 Try.f120 [.agg #[.int .i64 x0, .int .i64 x1, .float .f32 x2, .float .f32 x3, .float .f32 x4, .float .f32 x5, .float .f32 x6, .float .f32 x7], .agg #[.int .i64 x8, .int .i64 x9, .float .f32 x10, .float .f32 x11, .float .f32 x12, .float .f32 x13, .float .f32 x14, .float .f32 x15]] st0 = w120 x0 x1 x2 x3 x4 x5 x6 x7 x8 x9 x10 x11 x12 x13 x14 x15 from by kernel_rfl).trans
 (show w120 x0 x1 x2 x3 x4 x5 x6 x7 x8 x9 x10 x11 x12 x13 x14 x15 = a120 x0 x1 x2 x3 x4 x5 x6 x7 x8 x9 x10 x11 x12 x13 x14 x15 (r120 x0 x1 x2 x3 x4 x5 x6 x7 x8 x9 x10 x11 x12 x13 x14 x15) from by unfold w120 r120; exact (cond_app (a120 x0 x1 x2 x3 x4 x5 x6 x7 x8 x9 x10 x11 x12 x13 x14 x15) _ rfl (cond_app (a120 x0 x1 x2 x3 x4 x5 x6 x7 x8 x9 x10 x11 x12 x13 x14 x15) _ rfl (cond_app (a120 x0 x1 x2 x3 x4 x5 x6 x7 x8 x9 x10 x11 x12 x13 x14 x15) _ rfl (cond_app (a120 x0 x1 x2 x3 x4 x5 x6 x7 x8 x9 x10 x11 x12 x13 x14 x15) _ rfl (cond_app (a120 x0 x1 x2 x3 x4 x5 x6 x7 x8 x9 x10 x11 x12 x13 x14 x15) _ rfl rfl))))))
noncomputable def s120 (args : List Value) (s : St) : List (Bool × Value × St) :=
 match args, s.h with
 | [.agg ⟨[.int .i64 x0, .int .i64 x1, .float .f32 x2, .float .f32 x3, .float .f32 x4, .float .f32 x5, .float .f32 x6, .float .f32 x7]⟩, .agg ⟨[.int .i64 x8, .int .i64 x9, .float .f32 x10, .float .f32 x11, .float .f32 x12, .float .f32 x13, .float .f32 x14, .float .f32 x15]⟩], [] => [(true, .bool (r120 x0 x1 x2 x3 x4 x5 x6 x7 x8 x9 x10 x11 x12 x13 x14 x15), st0)]
 | _, _ => T38 120 args s
noncomputable def T39 : CallF := addF T38 120 s120
set_option maxRecDepth 100000 in
set_option maxHeartbeats 4000000 in
theorem ok39 : CfOk Try.prog T39 := by
  refine cfOk_add ok38 fun args s r s' h1 h2 h3 => ?_
  unfold s120 at h3; split at h3
  · rename_i h; exact callOk ok38 Try.func120 h1 h2 h (lfOkF_no _ _).body (e120 _ _ _ _ _ _ _ _ _ _ _ _ _ _ _ _) rfl h3
  · exact ok38 _ _ _ _ _ h1 h2 h3

/-- laws.eqWallS, loop 0: one round -/
noncomputable def b81l0 (ih : Int → List (List Int) → List (List Int) → Nat) (x0 : Int) (x1 x2 : List (List Int)) : Nat :=
 let c212 := (r120 ((x1.getD (Int.toNat x0) []).getD 0 0) ((x1.getD (Int.toNat x0) []).getD 1 0) (Int.toNat ((x1.getD (Int.toNat x0) []).getD 2 0)) (Int.toNat ((x1.getD (Int.toNat x0) []).getD 3 0)) (Int.toNat ((x1.getD (Int.toNat x0) []).getD 4 0)) (Int.toNat ((x1.getD (Int.toNat x0) []).getD 5 0)) (Int.toNat ((x1.getD (Int.toNat x0) []).getD 6 0)) (Int.toNat ((x1.getD (Int.toNat x0) []).getD 7 0)) ((x2.getD (Int.toNat x0) []).getD 0 0) ((x2.getD (Int.toNat x0) []).getD 1 0) (Int.toNat ((x2.getD (Int.toNat x0) []).getD 2 0)) (Int.toNat ((x2.getD (Int.toNat x0) []).getD 3 0)) (Int.toNat ((x2.getD (Int.toNat x0) []).getD 4 0)) (Int.toNat ((x2.getD (Int.toNat x0) []).getD 5 0)) (Int.toNat ((x2.getD (Int.toNat x0) []).getD 6 0)) (Int.toNat ((x2.getD (Int.toNat x0) []).getD 7 0)))
 cond (decide ((x0 : Int) < ((x1.length : Nat) : Int)))
  (cond ((decide ((0 : Int) ≤ x0)) && (Nat.blt (Int.toNat x0) x1.length))
   (cond ((decide ((0 : Int) ≤ x0)) && (Nat.blt (Int.toNat x0) x2.length))
    (cond (!c212)
     (0)
     (ih (IntKind.i64.wrap (x0 + 1)) x1 x2))
    (2))
   (2))
  (1)
noncomputable def r81l0 : Nat → Int → List (List Int) → List (List Int) → Nat
 | 0 => fun _ _ _ => (2)
 | m + 1 => b81l0 (r81l0 m)
noncomputable def a81l0 (x0 : Int) (x1 x2 : List (List Int)) (p : Nat) : Option (Fin' × List Value × St) := firstT ([((Nat.beq p 0), .ret, [.bool false], ⟨[⟨true, (some (.tab sc0 x1))⟩, ⟨true, (some (.tab sc0 x2))⟩], 2, []⟩), ((Nat.beq p 1), .exit 0, [anyV], ⟨[⟨true, (some (.tab sc0 x1))⟩, ⟨true, (some (.tab sc0 x2))⟩], 2, []⟩)].map fun (b, x) => (b, (x.1, frameOf 27 [4] x.2.1, x.2.2)))
noncomputable def u81l0 (x0 : Int) (x1 x2 : List (List Int)) (p : Nat) : Option (Fin' × List Value × St) := alts ([((Nat.beq p 0), .ret, [.bool false], ⟨[⟨true, (some (.tab sc0 x1))⟩, ⟨true, (some (.tab sc0 x2))⟩], 2, []⟩), ((Nat.beq p 1), .exit 0, [anyV], ⟨[⟨true, (some (.tab sc0 x1))⟩, ⟨true, (some (.tab sc0 x2))⟩], 2, []⟩)].map fun (b, x) => (b, (x.1, frameOf 27 [4] x.2.1, x.2.2))) some
theorem v81l0 (x0 : Int) (x1 x2 : List (List Int)) (p : Nat) : u81l0 x0 x1 x2 p = a81l0 x0 x1 x2 p := alts_first _
noncomputable def q81l0 (m : Nat) : SumK := fun vals s =>
 match vals, s.h with
 | [.iface f0 .nilIface, .iface f1 .nilIface, .int .i64 x0], [⟨true, some (.tab [.int .i64, .int .i64, .fl .f32, .fl .f32, .fl .f32, .fl .f32, .fl .f32, .fl .f32] x1)⟩, ⟨true, some (.tab [.int .i64, .int .i64, .fl .f32, .fl .f32, .fl .f32, .fl .f32, .fl .f32, .fl .f32] x2)⟩] => if f0 = 0 ∧ f1 = 1 then [((Nat.beq (r81l0 m x0 x1 x2) 0), .ret, [.bool false], ⟨[⟨true, (some (.tab sc0 x1))⟩, ⟨true, (some (.tab sc0 x2))⟩], 2, []⟩), ((Nat.beq (r81l0 m x0 x1 x2) 1), .exit 0, [anyV], ⟨[⟨true, (some (.tab sc0 x1))⟩, ⟨true, (some (.tab sc0 x2))⟩], 2, []⟩)] else noQ vals s
 | _, _ => noQ vals s
noncomputable def w81l0 (ih : Int → List (List Int) → List (List Int) → Nat) (x0 : Int) (x1 x2 : List (List Int)) : Option (Fin' × List Value × St) :=
 let c212 := (r120 ((x1.getD (Int.toNat x0) []).getD 0 0) ((x1.getD (Int.toNat x0) []).getD 1 0) (Int.toNat ((x1.getD (Int.toNat x0) []).getD 2 0)) (Int.toNat ((x1.getD (Int.toNat x0) []).getD 3 0)) (Int.toNat ((x1.getD (Int.toNat x0) []).getD 4 0)) (Int.toNat ((x1.getD (Int.toNat x0) []).getD 5 0)) (Int.toNat ((x1.getD (Int.toNat x0) []).getD 6 0)) (Int.toNat ((x1.getD (Int.toNat x0) []).getD 7 0)) ((x2.getD (Int.toNat x0) []).getD 0 0) ((x2.getD (Int.toNat x0) []).getD 1 0) (Int.toNat ((x2.getD (Int.toNat x0) []).getD 2 0)) (Int.toNat ((x2.getD (Int.toNat x0) []).getD 3 0)) (Int.toNat ((x2.getD (Int.toNat x0) []).getD 4 0)) (Int.toNat ((x2.getD (Int.toNat x0) []).getD 5 0)) (Int.toNat ((x2.getD (Int.toNat x0) []).getD 6 0)) (Int.toNat ((x2.getD (Int.toNat x0) []).getD 7 0)))
 (cond (decide ((x0 : Int) < ((x1.length : Nat) : Int)))
 (cond ((decide ((0 : Int) ≤ x0)) && (Nat.blt (Int.toNat x0) x1.length))
  (cond (Nat.blt (Int.toNat x0) x1.length)
   (cond ((decide ((0 : Int) ≤ x0)) && (Nat.blt (Int.toNat x0) x2.length))
    (cond (Nat.blt (Int.toNat x0) x2.length)
     (cond (!c212)
      (a81l0 x0 x1 x2 (0))
      (u81l0 x0 x1 x2 (ih (IntKind.i64.wrap (x0 + 1)) x1 x2)))
     none)
    none)
   none)
  none)
 (a81l0 x0 x1 x2 (1)))
set_option maxRecDepth 100000 in
set_option maxHeartbeats 4000000 in
theorem e81l0 (m : Nat) (x0 : Int) (x1 x2 : List (List Int)) : evC Try.prog ext T39 noL 200 (loopN Try.f81 0) (loopTail ([0, 1, 5], []) [4] [] (sumK 27 [0, 1, 5] [4] (q81l0 m))) (frameOf 27 [0, 1, 5] [wsl 0, wsl 1, .int .i64 x0]) ⟨[⟨true, (some (.tab sc0 x1))⟩, ⟨true, (some (.tab sc0 x2))⟩], 2, []⟩ = firstT ([((Nat.beq (r81l0 (m + 1) x0 x1 x2) 0), .ret, [.bool false], ⟨[⟨true, (some (.tab sc0 x1))⟩, ⟨true, (some (.tab sc0 x2))⟩], 2, []⟩), ((Nat.beq (r81l0 (m + 1) x0 x1 x2) 1), .exit 0, [anyV], ⟨[⟨true, (some (.tab sc0 x1))⟩, ⟨true, (some (.tab sc0 x2))⟩], 2, []⟩)].map fun (b, x) => (b, (x.1, frameOf 27 [4] x.2.1, x.2.2))) :=
 (show evC Try.prog ext T39 noL 200 (loopN Try.f81 0) (loopTail ([0, 1, 5], []) [4] [] (sumK 27 [0, 1, 5] [4] (q81l0 m))) (frameOf 27 [0, 1, 5] [wsl 0, wsl 1, .int .i64 x0]) ⟨[⟨true, (some (.tab sc0 x1))⟩, ⟨true, (some (.tab sc0 x2))⟩], 2, []⟩ = w81l0 (r81l0 m) x0 x1 x2 from by kernel_rfl).trans
 (show w81l0 (r81l0 m) x0 x1 x2 = a81l0 x0 x1 x2 (r81l0 (m + 1) x0 x1 x2) from by unfold w81l0; show _ = a81l0 x0 x1 x2 (b81l0 (r81l0 m) x0 x1 x2); unfold b81l0; exact (cond_both (a81l0 x0 x1 x2) _ (fun h0 => (cond_both (a81l0 x0 x1 x2) _ (fun h1 => (cond_t (ev_and2 h1) (cond_both (a81l0 x0 x1 x2) _ (fun h2 => (cond_t (ev_and2 h2) (cond_app (a81l0 x0 x1 x2) _ rfl (v81l0 x0 x1 x2 ((r81l0 m) (IntKind.i64.wrap (x0 + 1)) x1 x2))))) (fun h2 => rfl)))) (fun h1 => rfl))) (fun h0 => rfl)))
set_option maxRecDepth 100000 in
set_option maxHeartbeats 4000000 in
theorem qm81l0 : ∀ m, SumKOk Try.prog (loopN Try.f81 0) 27 [0, 1, 5] [4] (q81l0 m) := by
  intro m
  induction m with
  | zero =>
    intro vals s x h1 h2 h3
    unfold q81l0 at h3; split at h3
    · rename_i h; split at h3
      · rename_i hc; obtain ⟨rfl, rfl⟩ := hc; exact absurd h3 (by simp [r81l0, firstT, Nat.beq])
      · exact noQ_ok _ _ _ h1 h2 h3
    · exact noQ_ok _ _ _ h1 h2 h3
  | succ m ih =>
    intro vals s x h1 h2 h3
    unfold q81l0 at h3; split at h3
    · rename_i h; split at h3
      · rename_i hc; obtain ⟨rfl, rfl⟩ := hc; exact sum_step ok39 extOk mixed ((lfOkF_no _ _).inner (by kernel_rfl)) ih h1 h2 h (e81l0 m _ _ _) rfl h3
      · exact noQ_ok _ _ _ h1 h2 h3
    · exact noQ_ok _ _ _ h1 h2 h3
noncomputable def Q81l0 : SumK := fun vals s => q81l0 (fuelOf vals s.h) vals s
theorem qok81l0 : SumKOk Try.prog (loopN Try.f81 0) 27 [0, 1, 5] [4] Q81l0 := fuel_ok qm81l0 fuelOf
noncomputable def L81_1 : LoopT := addL noL 5 ([0, 1, 5], []) (sumK 27 [0, 1, 5] [4] Q81l0)
theorem lok81_1 : LfOkF Try.prog L81_1 Try.f81 := lfOkF_add (lfOkF_no _ _) qok81l0 (by kernel_rfl) (by kernel_rfl) (by kernel_rfl)

/-- laws.eqWallS -/
noncomputable def r81 (x0 x1 : List (List Int)) : Nat × Bool :=
 cond ((((x0.length : Nat) : Int) : Int) != ((x1.length : Nat) : Int))
  (0, false)
  (cond (Nat.beq (r81l0 (1000 + x1.length + x0.length) 0 x0 x1) 0)
   (0, false)
   (cond (Nat.beq (r81l0 (1000 + x1.length + x0.length) 0 x0 x1) 1)
    (0, true)
    (1, false)))
noncomputable def a81 (x0 x1 : List (List Int)) (p : Nat × Bool) : Res := firstT [((Nat.beq (p.1) 0), .bool (p.2), ⟨[⟨true, (some (.tab sc0 x0))⟩, ⟨true, (some (.tab sc0 x1))⟩], 2, []⟩)]
noncomputable def w81 (x0 x1 : List (List Int)) : Res :=
 (cond ((((x0.length : Nat) : Int) : Int) != ((x1.length : Nat) : Int))
 (a81 x0 x1 (0, false))
 (cond (Nat.beq (r81l0 (1000 + x1.length + x0.length) 0 x0 x1) 0)
  (a81 x0 x1 (0, false))
  (cond (Nat.beq (r81l0 (1000 + x1.length + x0.length) 0 x0 x1) 1)
   (a81 x0 x1 (0, true))
   none)))
set_option maxRecDepth 100000 in
set_option maxHeartbeats 4000000 in
theorem e81 (x0 x1 : List (List Int)) : evFn Try.prog ext T39 L81_1 200 Try.f81 [wsl 0, wsl 1] ⟨[⟨true, (some (.tab sc0 x0))⟩, ⟨true, (some (.tab sc0 x1))⟩], 2, []⟩ = firstT [((Nat.beq ((r81 x0 x1).1) 0), .bool ((r81 x0 x1).2), ⟨[⟨true, (some (.tab sc0 x0))⟩, ⟨true, (some (.tab sc0 x1))⟩], 2, []⟩)] :=
 (show evFn Try.prog ext T39 L81_1 200 Try.f81 [wsl 0, wsl 1] ⟨[⟨true, (some (.tab sc0 x0))⟩, ⟨true, (some (.tab sc0 x1))⟩], 2, []⟩ = w81 x0 x1 from by kernel_rfl).trans
 (show w81 x0 x1 = a81 x0 x1 (r81 x0 x1) from by unfold w81 r81; exact (cond_app (a81 x0 x1) _ rfl (cond_app (a81 x0 x1) _ rfl (cond_app (a81 x0 x1) _ rfl rfl))))
noncomputable def s81 (args : List Value) (s : St) : List (Bool × Value × St) :=
 match args, s.h with
 | [.iface f0 .nilIface, .iface f1 .nilIface], [⟨true, some (.tab [.int .i64, .int .i64, .fl .f32, .fl .f32, .fl .f32, .fl .f32, .fl .f32, .fl .f32] x0)⟩, ⟨true, some (.tab [.int .i64, .int .i64, .fl .f32, .fl .f32, .fl .f32, .fl .f32, .fl .f32, .fl .f32] x1)⟩] => if f0 = 0 ∧ f1 = 1 then [((Nat.beq ((r81 x0 x1).1) 0), .bool ((r81 x0 x1).2), ⟨[⟨true, (some (.tab sc0 x0))⟩, ⟨true, (some (.tab sc0 x1))⟩], 2, []⟩)] else T39 81 args s
 | _, _ => T39 81 args s
noncomputable def T40 : CallF := addF T39 81 s81
set_option maxRecDepth 100000 in
set_option maxHeartbeats 4000000 in
theorem ok40 : CfOk Try.prog T40 := by
  refine cfOk_add ok39 fun args s r s' h1 h2 h3 => ?_
  unfold s81 at h3; split at h3
  · rename_i h; split at h3
    · rename_i hc; obtain ⟨rfl, rfl⟩ := hc; exact callOk ok39 Try.func81 h1 h2 h lok81_1.body (e81 _ _) rfl h3
    · exact ok39 _ _ _ _ _ h1 h2 h3
  · exact ok39 _ _ _ _ _ h1 h2 h3

/-- laws.eqPane -/
noncomputable def r121 (x0 x1 : Int) (x2 x3 : Nat) (x4 x5 : Int) (x6 x7 : Nat) : Bool :=
 cond ((x0 : Int) != x4)
  (false)
  (cond ((x1 : Int) != x5)
   (false)
   (cond (!(r27 (widen x2) (widen x6)))
    (false)
    (cond (!(r27 (widen x3) (widen x7)))
     (false)
     (true))))
noncomputable def a121 (x0 x1 : Int) (x2 x3 : Nat) (x4 x5 : Int) (x6 x7 : Nat) (p : Bool) : Res := firstT [(true, .bool p, st0)]
noncomputable def w121 (x0 x1 : Int) (x2 x3 : Nat) (x4 x5 : Int) (x6 x7 : Nat) : Res :=
 (cond ((x0 : Int) != x4)
 (a121 x0 x1 x2 x3 x4 x5 x6 x7 (false))
 (cond ((x1 : Int) != x5)
  (a121 x0 x1 x2 x3 x4 x5 x6 x7 (false))
  (cond (!(r27 (widen x2) (widen x6)))
   (a121 x0 x1 x2 x3 x4 x5 x6 x7 (false))
   (cond (!(r27 (widen x3) (widen x7)))
    (a121 x0 x1 x2 x3 x4 x5 x6 x7 (false))
    (a121 x0 x1 x2 x3 x4 x5 x6 x7 (true))))))
set_option maxRecDepth 100000 in
set_option maxHeartbeats 4000000 in
theorem e121 (x0 x1 : Int) (x2 x3 : Nat) (x4 x5 : Int) (x6 x7 : Nat) : evFn Try.prog ext T40 noL 200 Try.f121 [.agg #[.int .i64 x0, .int .i64 x1, .float .f32 x2, .float .f32 x3], .agg #[.int .i64 x4, .int .i64 x5, .float .f32 x6, .float .f32 x7]] st0 = firstT [(true, .bool (r121 x0 x1 x2 x3 x4 x5 x6 x7), st0)] :=
 (show evFn Try.prog ext T40 noL 200 Try.f121 [.agg #[.int .i64 x0, .int .i64 x1, .float .f32 x2, .float .f32 x3], .agg #[.int .i64 x4, .int .i64 x5, .float .f32 x6, .float .f32 x7]] st0 = w121 x0 x1 x2 x3 x4 x5 x6 x7 from by kernel_rfl).trans
 (show w121 x0 x1 x2 x3 x4 x5 x6 x7 = a121 x0 x1 x2 x3 x4 x5 x6 x7 (r121 x0 x1 x2 x3 x4 x5 x6 x7) from by unfold w121 r121; exact (cond_app (a121 x0 x1 x2 x3 x4 x5 x6 x7) _ rfl (cond_app (a121 x0 x1 x2 x3 x4 x5 x6 x7) _ rfl (cond_app (a121 x0 x1 x2 x3 x4 x5 x6 x7) _ rfl (cond_app (a121 x0 x1 x2 x3 x4 x5 x6 x7) _ rfl rfl)))))
noncomputable def s121 (args : List Value) (s : St) : List (Bool × Value × St) :=
 match args, s.h with
 | [.agg ⟨[.int .i64 x0, .int .i64 x1, .float .f32 x2, .float .f32 x3]⟩, .agg ⟨[.int .i64 x4, .int .i64 x5, .float .f32 x6, .float .f32 x7]⟩], [] => [(true, .bool (r121 x0 x1 x2 x3 x4 x5 x6 x7), st0)]
 | _, _ => T40 121 args s
noncomputable def T41 : CallF := addF T40 121 s121
set_option maxRecDepth 100000 in
set_option maxHeartbeats 4000000 in
theorem ok41 : CfOk Try.prog T41 := by
  refine cfOk_add ok40 fun args s r s' h1 h2 h3 => ?_
  unfold s121 at h3; split at h3
  · rename_i h; exact callOk ok40 Try.func121 h1 h2 h (lfOkF_no _ _).body (e121 _ _ _ _ _ _ _ _) rfl h3
  · exact ok40 _ _ _ _ _ h1 h2 h3

/-- laws.eqPaneS, loop 0: one round -/
noncomputable def b82l0 (ih : Int → List (List Int) → List (List Int) → Nat) (x0 : Int) (x1 x2 : List (List Int)) : Nat :=
 let c229 := (r121 ((x1.getD (Int.toNat x0) []).getD 0 0) ((x1.getD (Int.toNat x0) []).getD 1 0) (Int.toNat ((x1.getD (Int.toNat x0) []).getD 2 0)) (Int.toNat ((x1.getD (Int.toNat x0) []).getD 3 0)) ((x2.getD (Int.toNat x0) []).getD 0 0) ((x2.getD (Int.toNat x0) []).getD 1 0) (Int.toNat ((x2.getD (Int.toNat x0) []).getD 2 0)) (Int.toNat ((x2.getD (Int.toNat x0) []).getD 3 0)))
 cond (decide ((x0 : Int) < ((x1.length : Nat) : Int)))
  (cond ((decide ((0 : Int) ≤ x0)) && (Nat.blt (Int.toNat x0) x1.length))
   (cond ((decide ((0 : Int) ≤ x0)) && (Nat.blt (Int.toNat x0) x2.length))
    (cond (!c229)
     (0)
     (ih (IntKind.i64.wrap (x0 + 1)) x1 x2))
    (2))
   (2))
  (1)
noncomputable def r82l0 : Nat → Int → List (List Int) → List (List Int) → Nat
 | 0 => fun _ _ _ => (2)
 | m + 1 => b82l0 (r82l0 m)
noncomputable def a82l0 (x0 : Int) (x1 x2 : List (List Int)) (p : Nat) : Option (Fin' × List Value × St) := firstT ([((Nat.beq p 0), .ret, [.bool false], ⟨[⟨true, (some (.tab sc1 x1))⟩, ⟨true, (some (.tab sc1 x2))⟩], 2, []⟩), ((Nat.beq p 1), .exit 0, [anyV], ⟨[⟨true, (some (.tab sc1 x1))⟩, ⟨true, (some (.tab sc1 x2))⟩], 2, []⟩)].map fun (b, x) => (b, (x.1, frameOf 27 [4] x.2.1, x.2.2)))
noncomputable def u82l0 (x0 : Int) (x1 x2 : List (List Int)) (p : Nat) : Option (Fin' × List Value × St) := alts ([((Nat.beq p 0), .ret, [.bool false], ⟨[⟨true, (some (.tab sc1 x1))⟩, ⟨true, (some (.tab sc1 x2))⟩], 2, []⟩), ((Nat.beq p 1), .exit 0, [anyV], ⟨[⟨true, (some (.tab sc1 x1))⟩, ⟨true, (some (.tab sc1 x2))⟩], 2, []⟩)].map fun (b, x) => (b, (x.1, frameOf 27 [4] x.2.1, x.2.2))) some
theorem v82l0 (x0 : Int) (x1 x2 : List (List Int)) (p : Nat) : u82l0 x0 x1 x2 p = a82l0 x0 x1 x2 p := alts_first _
noncomputable def q82l0 (m : Nat) : SumK := fun vals s =>
 match vals, s.h with
 | [.iface f0 .nilIface, .iface f1 .nilIface, .int .i64 x0], [⟨true, some (.tab [.int .i64, .int .i64, .fl .f32, .fl .f32] x1)⟩, ⟨true, some (.tab [.int .i64, .int .i64, .fl .f32, .fl .f32] x2)⟩] => if f0 = 0 ∧ f1 = 1 then [((Nat.beq (r82l0 m x0 x1 x2) 0), .ret, [.bool false], ⟨[⟨true, (some (.tab sc1 x1))⟩, ⟨true, (some (.tab sc1 x2))⟩], 2, []⟩), ((Nat.beq (r82l0 m x0 x1 x2) 1), .exit 0, [anyV], ⟨[⟨true, (some (.tab sc1 x1))⟩, ⟨true, (some (.tab sc1 x2))⟩], 2, []⟩)] else noQ vals s
 | _, _ => noQ vals s
noncomputable def w82l0 (ih : Int → List (List Int) → List (List Int) → Nat) (x0 : Int) (x1 x2 : List (List Int)) : Option (Fin' × List Value × St) :=
 let c229 := (r121 ((x1.getD (Int.toNat x0) []).getD 0 0) ((x1.getD (Int.toNat x0) []).getD 1 0) (Int.toNat ((x1.getD (Int.toNat x0) []).getD 2 0)) (Int.toNat ((x1.getD (Int.toNat x0) []).getD 3 0)) ((x2.getD (Int.toNat x0) []).getD 0 0) ((x2.getD (Int.toNat x0) []).getD 1 0) (Int.toNat ((x2.getD (Int.toNat x0) []).getD 2 0)) (Int.toNat ((x2.getD (Int.toNat x0) []).getD 3 0)))
 (cond (decide ((x0 : Int) < ((x1.length : Nat) : Int)))
 (cond ((decide ((0 : Int) ≤ x0)) && (Nat.blt (Int.toNat x0) x1.length))
  (cond (Nat.blt (Int.toNat x0) x1.length)
   (cond ((decide ((0 : Int) ≤ x0)) && (Nat.blt (Int.toNat x0) x2.length))
    (cond (Nat.blt (Int.toNat x0) x2.length)
     (cond (!c229)
      (a82l0 x0 x1 x2 (0))
      (u82l0 x0 x1 x2 (ih (IntKind.i64.wrap (x0 + 1)) x1 x2)))
     none)
    none)
   none)
  none)
 (a82l0 x0 x1 x2 (1)))
set_option maxRecDepth 100000 in
set_option maxHeartbeats 4000000 in
theorem e82l0 (m : Nat) (x0 : Int) (x1 x2 : List (List Int)) : evC Try.prog ext T41 noL 200 (loopN Try.f82 0) (loopTail ([0, 1, 5], []) [4] [] (sumK 27 [0, 1, 5] [4] (q82l0 m))) (frameOf 27 [0, 1, 5] [wsl 0, wsl 1, .int .i64 x0]) ⟨[⟨true, (some (.tab sc1 x1))⟩, ⟨true, (some (.tab sc1 x2))⟩], 2, []⟩ = firstT ([((Nat.beq (r82l0 (m + 1) x0 x1 x2) 0), .ret, [.bool false], ⟨[⟨true, (some (.tab sc1 x1))⟩, ⟨true, (some (.tab sc1 x2))⟩], 2, []⟩), ((Nat.beq (r82l0 (m + 1) x0 x1 x2) 1), .exit 0, [anyV], ⟨[⟨true, (some (.tab sc1 x1))⟩, ⟨true, (some (.tab sc1 x2))⟩], 2, []⟩)].map fun (b, x) => (b, (x.1, frameOf 27 [4] x.2.1, x.2.2))) :=
 (show evC Try.prog ext T41 noL 200 (loopN Try.f82 0) (loopTail ([0, 1, 5], []) [4] [] (sumK 27 [0, 1, 5] [4] (q82l0 m))) (frameOf 27 [0, 1, 5] [wsl 0, wsl 1, .int .i64 x0]) ⟨[⟨true, (some (.tab sc1 x1))⟩, ⟨true, (some (.tab sc1 x2))⟩], 2, []⟩ = w82l0 (r82l0 m) x0 x1 x2 from by kernel_rfl).trans
 (show w82l0 (r82l0 m) x0 x1 x2 = a82l0 x0 x1 x2 (r82l0 (m + 1) x0 x1 x2) from by unfold w82l0; show _ = a82l0 x0 x1 x2 (b82l0 (r82l0 m) x0 x1 x2); unfold b82l0; exact (cond_both (a82l0 x0 x1 x2) _ (fun h0 => (cond_both (a82l0 x0 x1 x2) _ (fun h1 => (cond_t (ev_and2 h1) (cond_both (a82l0 x0 x1 x2) _ (fun h2 => (cond_t (ev_and2 h2) (cond_app (a82l0 x0 x1 x2) _ rfl (v82l0 x0 x1 x2 ((r82l0 m) (IntKind.i64.wrap (x0 + 1)) x1 x2))))) (fun h2 => rfl)))) (fun h1 => rfl))) (fun h0 => rfl)))
set_option maxRecDepth 100000 in
set_option maxHeartbeats 4000000 in
theorem qm82l0 : ∀ m, SumKOk Try.prog (loopN Try.f82 0) 27 [0, 1, 5] [4] (q82l0 m) := by
  intro m
  induction m with
  | zero =>
    intro vals s x h1 h2 h3
    unfold q82l0 at h3; split at h3
    · rename_i h; split at h3
      · rename_i hc; obtain ⟨rfl, rfl⟩ := hc; exact absurd h3 (by simp [r82l0, firstT, Nat.beq])
      · exact noQ_ok _ _ _ h1 h2 h3
    · exact noQ_ok _ _ _ h1 h2 h3
  | succ m ih =>
    intro vals s x h1 h2 h3
    unfold q82l0 at h3; split at h3
    · rename_i h; split at h3
      · rename_i hc; obtain ⟨rfl, rfl⟩ := hc; exact sum_step ok41 extOk mixed ((lfOkF_no _ _).inner (by kernel_rfl)) ih h1 h2 h (e82l0 m _ _ _) rfl h3
      · exact noQ_ok _ _ _ h1 h2 h3
    · exact noQ_ok _ _ _ h1 h2 h3
noncomputable def Q82l0 : SumK := fun vals s => q82l0 (fuelOf vals s.h) vals s
theorem qok82l0 : SumKOk Try.prog (loopN Try.f82 0) 27 [0, 1, 5] [4] Q82l0 := fuel_ok qm82l0 fuelOf
noncomputable def L82_1 : LoopT := addL noL 5 ([0, 1, 5], []) (sumK 27 [0, 1, 5] [4] Q82l0)
theorem lok82_1 : LfOkF Try.prog L82_1 Try.f82 := lfOkF_add (lfOkF_no _ _) qok82l0 (by kernel_rfl) (by kernel_rfl) (by kernel_rfl)

/-- laws.eqPaneS -/
noncomputable def r82 (x0 x1 : List (List Int)) : Nat × Bool :=
 cond ((((x0.length : Nat) : Int) : Int) != ((x1.length : Nat) : Int))
  (0, false)
  (cond (Nat.beq (r82l0 (1000 + x1.length + x0.length) 0 x0 x1) 0)
   (0, false)
   (cond (Nat.beq (r82l0 (1000 + x1.length + x0.length) 0 x0 x1) 1)
    (0, true)
    (1, false)))
noncomputable def a82 (x0 x1 : List (List Int)) (p : Nat × Bool) : Res := firstT [((Nat.beq (p.1) 0), .bool (p.2), ⟨[⟨true, (some (.tab sc1 x0))⟩, ⟨true, (some (.tab sc1 x1))⟩], 2, []⟩)]
noncomputable def w82 (x0 x1 : List (List Int)) : Res :=
 (cond ((((x0.length : Nat) : Int) : Int) != ((x1.length : Nat) : Int))
 (a82 x0 x1 (0, false))
 (cond (Nat.beq (r82l0 (1000 + x1.length + x0.length) 0 x0 x1) 0)
  (a82 x0 x1 (0, false))
  (cond (Nat.beq (r82l0 (1000 + x1.length + x0.length) 0 x0 x1) 1)
   (a82 x0 x1 (0, true))
   none)))
set_option maxRecDepth 100000 in
set_option maxHeartbeats 4000000 in
theorem e82 (x0 x1 : List (List Int)) : evFn Try.prog ext T41 L82_1 200 Try.f82 [wsl 0, wsl 1] ⟨[⟨true, (some (.tab sc1 x0))⟩, ⟨true, (some (.tab sc1 x1))⟩], 2, []⟩ = firstT [((Nat.beq ((r82 x0 x1).1) 0), .bool ((r82 x0 x1).2), ⟨[⟨true, (some (.tab sc1 x0))⟩, ⟨true, (some (.tab sc1 x1))⟩], 2, []⟩)] :=
 (show evFn Try.prog ext T41 L82_1 200 Try.f82 [wsl 0, wsl 1] ⟨[⟨true, (some (.tab sc1 x0))⟩, ⟨true, (some (.tab sc1 x1))⟩], 2, []⟩ = w82 x0 x1 from by kernel_rfl).trans
 (show w82 x0 x1 = a82 x0 x1 (r82 x0 x1) from by unfold w82 r82; exact (cond_app (a82 x0 x1) _ rfl (cond_app (a82 x0 x1) _ rfl (cond_app (a82 x0 x1) _ rfl rfl))))
noncomputable def s82 (args : List Value) (s : St) : List (Bool × Value × St) :=
 match args, s.h with
 | [.iface f0 .nilIface, .iface f1 .nilIface], [⟨true, some (.tab [.int .i64, .int .i64, .fl .f32, .fl .f32] x0)⟩, ⟨true, some (.tab [.int .i64, .int .i64, .fl .f32, .fl .f32] x1)⟩] => if f0 = 0 ∧ f1 = 1 then [((Nat.beq ((r82 x0 x1).1) 0), .bool ((r82 x0 x1).2), ⟨[⟨true, (some (.tab sc1 x0))⟩, ⟨true, (some (.tab sc1 x1))⟩], 2, []⟩)] else T41 82 args s
 | _, _ => T41 82 args s
noncomputable def T42 : CallF := addF T41 82 s82
set_option maxRecDepth 100000 in
set_option maxHeartbeats 4000000 in
theorem ok42 : CfOk Try.prog T42 := by
  refine cfOk_add ok41 fun args s r s' h1 h2 h3 => ?_
  unfold s82 at h3; split at h3
  · rename_i h; split at h3
    · rename_i hc; obtain ⟨rfl, rfl⟩ := hc; exact callOk ok41 Try.func82 h1 h2 h lok82_1.body (e82 _ _) rfl h3
    · exact ok41 _ _ _ _ _ h1 h2 h3
  · exact ok41 _ _ _ _ _ h1 h2 h3

/-- laws.eqFlat -/
noncomputable def r28 (x0 x1 x2 x3 x4 x5 x6 x7 : List (List Int)) : Nat × Bool :=
 cond (Nat.beq ((r31 x0 x4).1) 0)
  (cond (!((r31 x0 x4).2))
   (0, false)
   (cond (Nat.beq ((r31 x1 x5).1) 0)
    (cond (!((r31 x1 x5).2))
     (0, false)
     (cond (Nat.beq ((r81 x2 x6).1) 0)
      (cond (!((r81 x2 x6).2))
       (0, false)
       (cond (Nat.beq ((r82 x3 x7).1) 0)
        (cond (!((r82 x3 x7).2))
         (0, false)
         (0, true))
        (1, false)))
      (1, false)))
    (1, false)))
  (1, false)
noncomputable def a28 (x0 x1 x2 x3 x4 x5 x6 x7 : List (List Int)) (p : Nat × Bool) : Res := firstT [((Nat.beq (p.1) 0), .bool (p.2), ⟨[⟨true, (some (.tab [.fl .f32] x0))⟩, ⟨true, (some (.tab [.fl .f32] x1))⟩, ⟨true, (some (.tab sc0 x2))⟩, ⟨true, (some (.tab sc1 x3))⟩, ⟨true, (some (.tab [.fl .f32] x4))⟩, ⟨true, (some (.tab [.fl .f32] x5))⟩, ⟨true, (some (.tab sc0 x6))⟩, ⟨true, (some (.tab sc1 x7))⟩], 8, []⟩)]
noncomputable def w28 (x0 x1 x2 x3 x4 x5 x6 x7 : List (List Int)) : Res :=
 (cond (Nat.beq ((r31 x0 x4).1) 0)
 (cond (!((r31 x0 x4).2))
  (a28 x0 x1 x2 x3 x4 x5 x6 x7 (0, false))
  (cond (Nat.beq ((r31 x1 x5).1) 0)
   (cond (!((r31 x1 x5).2))
    (a28 x0 x1 x2 x3 x4 x5 x6 x7 (0, false))
    (cond (Nat.beq ((r81 x2 x6).1) 0)
     (cond (!((r81 x2 x6).2))
      (a28 x0 x1 x2 x3 x4 x5 x6 x7 (0, false))
      (cond (Nat.beq ((r82 x3 x7).1) 0)
       (cond (!((r82 x3 x7).2))
        (a28 x0 x1 x2 x3 x4 x5 x6 x7 (0, false))
        (a28 x0 x1 x2 x3 x4 x5 x6 x7 (0, true)))
       none))
     none))
   none))
 none)
set_option maxRecDepth 100000 in
set_option maxHeartbeats 4000000 in
theorem e28 (x0 x1 x2 x3 x4 x5 x6 x7 : List (List Int)) : evFn Try.prog ext T42 noL 200 Try.f28 [.agg #[wsl 0, wsl 1, wsl 2, wsl 3], .agg #[wsl 4, wsl 5, wsl 6, wsl 7]] ⟨[⟨true, (some (.tab [.fl .f32] x0))⟩, ⟨true, (some (.tab [.fl .f32] x1))⟩, ⟨true, (some (.tab sc0 x2))⟩, ⟨true, (some (.tab sc1 x3))⟩, ⟨true, (some (.tab [.fl .f32] x4))⟩, ⟨true, (some (.tab [.fl .f32] x5))⟩, ⟨true, (some (.tab sc0 x6))⟩, ⟨true, (some (.tab sc1 x7))⟩], 8, []⟩ = firstT [((Nat.beq ((r28 x0 x1 x2 x3 x4 x5 x6 x7).1) 0), .bool ((r28 x0 x1 x2 x3 x4 x5 x6 x7).2), ⟨[⟨true, (some (.tab [.fl .f32] x0))⟩, ⟨true, (some (.tab [.fl .f32] x1))⟩, ⟨true, (some (.tab sc0 x2))⟩, ⟨true, (some (.tab sc1 x3))⟩, ⟨true, (some (.tab [.fl .f32] x4))⟩, ⟨true, (some (.tab [.fl .f32] x5))⟩, ⟨true, (some (.tab sc0 x6))⟩, ⟨true, (some (.tab sc1 x7))⟩], 8, []⟩)] :=
 (show evFn Try.prog ext T42 noL 200 Try.f28 [.agg #[wsl 0, wsl 1, wsl 2, wsl 3], .agg #[wsl 4, wsl 5, wsl 6, wsl 7]] ⟨[⟨true, (some (.tab [.fl .f32] x0))⟩, ⟨true, (some (.tab [.fl .f32] x1))⟩, ⟨true, (some (.tab sc0 x2))⟩, ⟨true, (some (.tab sc1 x3))⟩, ⟨true, (some (.tab [.fl .f32] x4))⟩, ⟨true, (some (.tab [.fl .f32] x5))⟩, ⟨true, (some (.tab sc0 x6))⟩, ⟨true, (some (.tab sc1 x7))⟩], 8, []⟩ = w28 x0 x1 x2 x3 x4 x5 x6 x7 from by kernel_rfl).trans
 (show w28 x0 x1 x2 x3 x4 x5 x6 x7 = a28 x0 x1 x2 x3 x4 x5 x6 x7 (r28 x0 x1 x2 x3 x4 x5 x6 x7) from by unfold w28 r28; exact (cond_app (a28 x0 x1 x2 x3 x4 x5 x6 x7) _ (cond_app (a28 x0 x1 x2 x3 x4 x5 x6 x7) _ rfl (cond_app (a28 x0 x1 x2 x3 x4 x5 x6 x7) _ (cond_app (a28 x0 x1 x2 x3 x4 x5 x6 x7) _ rfl (cond_app (a28 x0 x1 x2 x3 x4 x5 x6 x7) _ (cond_app (a28 x0 x1 x2 x3 x4 x5 x6 x7) _ rfl (cond_app (a28 x0 x1 x2 x3 x4 x5 x6 x7) _ (cond_app (a28 x0 x1 x2 x3 x4 x5 x6 x7) _ rfl rfl) rfl)) rfl)) rfl)) rfl))
noncomputable def s28 (args : List Value) (s : St) : List (Bool × Value × St) :=
 match args, s.h with
 | [.agg ⟨[.iface f0 .nilIface, .iface f1 .nilIface, .iface f2 .nilIface, .iface f3 .nilIface]⟩, .agg ⟨[.iface f4 .nilIface, .iface f5 .nilIface, .iface f6 .nilIface, .iface f7 .nilIface]⟩], [⟨true, some (.tab [.fl .f32] x0)⟩, ⟨true, some (.tab [.fl .f32] x1)⟩, ⟨true, some (.tab [.int .i64, .int .i64, .fl .f32, .fl .f32, .fl .f32, .fl .f32, .fl .f32, .fl .f32] x2)⟩, ⟨true, some (.tab [.int .i64, .int .i64, .fl .f32, .fl .f32] x3)⟩, ⟨true, some (.tab [.fl .f32] x4)⟩, ⟨true, some (.tab [.fl .f32] x5)⟩, ⟨true, some (.tab [.int .i64, .int .i64, .fl .f32, .fl .f32, .fl .f32, .fl .f32, .fl .f32, .fl .f32] x6)⟩, ⟨true, some (.tab [.int .i64, .int .i64, .fl .f32, .fl .f32] x7)⟩] => if f0 = 0 ∧ f1 = 1 ∧ f2 = 2 ∧ f3 = 3 ∧ f4 = 4 ∧ f5 = 5 ∧ f6 = 6 ∧ f7 = 7 then [((Nat.beq ((r28 x0 x1 x2 x3 x4 x5 x6 x7).1) 0), .bool ((r28 x0 x1 x2 x3 x4 x5 x6 x7).2), ⟨[⟨true, (some (.tab [.fl .f32] x0))⟩, ⟨true, (some (.tab [.fl .f32] x1))⟩, ⟨true, (some (.tab sc0 x2))⟩, ⟨true, (some (.tab sc1 x3))⟩, ⟨true, (some (.tab [.fl .f32] x4))⟩, ⟨true, (some (.tab [.fl .f32] x5))⟩, ⟨true, (some (.tab sc0 x6))⟩, ⟨true, (some (.tab sc1 x7))⟩], 8, []⟩)] else T42 28 args s
 | _, _ => T42 28 args s
noncomputable def T43 : CallF := addF T42 28 s28
set_option maxRecDepth 100000 in
set_option maxHeartbeats 4000000 in
theorem ok43 : CfOk Try.prog T43 := by
  refine cfOk_add ok42 fun args s r s' h1 h2 h3 => ?_
  unfold s28 at h3; split at h3
  · rename_i h; split at h3
    · rename_i hc; obtain ⟨rfl, rfl, rfl, rfl, rfl, rfl, rfl, rfl⟩ := hc; exact callOk ok42 Try.func28 h1 h2 h (lfOkF_no _ _).body (e28 _ _ _ _ _ _ _ _) rfl h3
    · exact ok42 _ _ _ _ _ h1 h2 h3
  · exact ok42 _ _ _ _ _ h1 h2 h3

/-- laws.FnExactEnergyOf -/
noncomputable def r4 (x0 x1 x2 x3 : List (List Int)) : Nat × Bool :=
 let c193 := (r27 (widen ((r26 ((r25 x0 x1 x2 x3).2.1) ((r25 x0 x1 x2 x3).2.2.1) ((r25 x0 x1 x2 x3).2.2.2.1) ((r25 x0 x1 x2 x3).2.2.2.2)).2.1)) (widen ((r24 ((r25 x0 x1 x2 x3).2.1) ((r25 x0 x1 x2 x3).2.2.1) ((r25 x0 x1 x2 x3).2.2.2.1) ((r25 x0 x1 x2 x3).2.2.2.2)).2.1)))
 let c230 := (r28 ((r25 x0 x1 x2 x3).2.1) ((r25 x0 x1 x2 x3).2.2.1) ((r25 x0 x1 x2 x3).2.2.2.1) ((r25 x0 x1 x2 x3).2.2.2.2) ((r25 x0 x1 x2 x3).2.1) ((r25 x0 x1 x2 x3).2.2.1) ((r25 x0 x1 x2 x3).2.2.2.1) ((r25 x0 x1 x2 x3).2.2.2.2))
 cond (decide (((r23 1048576 x0 x1 x2 x3) : Int) < 0))
  (0, true)
  (cond (Nat.beq ((r25 x0 x1 x2 x3).1) 0)
   (cond (Nat.beq ((r24 ((r25 x0 x1 x2 x3).2.1) ((r25 x0 x1 x2 x3).2.2.1) ((r25 x0 x1 x2 x3).2.2.2.1) ((r25 x0 x1 x2 x3).2.2.2.2)).1) 0)
    (cond (Nat.beq ((r26 ((r25 x0 x1 x2 x3).2.1) ((r25 x0 x1 x2 x3).2.2.1) ((r25 x0 x1 x2 x3).2.2.2.1) ((r25 x0 x1 x2 x3).2.2.2.2)).1) 0)
     (cond (!c193)
      (0, false)
      (cond ((((r26 ((r25 x0 x1 x2 x3).2.1) ((r25 x0 x1 x2 x3).2.2.1) ((r25 x0 x1 x2 x3).2.2.2.1) ((r25 x0 x1 x2 x3).2.2.2.2)).2.2) : Int) != ((r24 ((r25 x0 x1 x2 x3).2.1) ((r25 x0 x1 x2 x3).2.2.1) ((r25 x0 x1 x2 x3).2.2.2.1) ((r25 x0 x1 x2 x3).2.2.2.2)).2.2))
       (0, false)
       (cond (Nat.beq (c230.1) 0)
        (cond (!(c230.2))
         (0, false)
         (0, true))
        (1, false))))
     (1, false))
    (1, false))
   (1, false))
noncomputable def a4 (x0 x1 x2 x3 : List (List Int)) (p : Nat × Bool) : Res := firstT [((Nat.beq (p.1) 0), .bool (p.2), ⟨[⟨false, (some (.tab [.fl .f32] x0))⟩, ⟨false, (some (.tab [.fl .f32] x1))⟩, ⟨false, (some (.tab sc0 x2))⟩, ⟨false, (some (.tab sc1 x3))⟩], 4, []⟩)]
noncomputable def w4 (x0 x1 x2 x3 : List (List Int)) : Res :=
 let c193 := (r27 (widen ((r26 ((r25 x0 x1 x2 x3).2.1) ((r25 x0 x1 x2 x3).2.2.1) ((r25 x0 x1 x2 x3).2.2.2.1) ((r25 x0 x1 x2 x3).2.2.2.2)).2.1)) (widen ((r24 ((r25 x0 x1 x2 x3).2.1) ((r25 x0 x1 x2 x3).2.2.1) ((r25 x0 x1 x2 x3).2.2.2.1) ((r25 x0 x1 x2 x3).2.2.2.2)).2.1)))
 let c230 := (r28 ((r25 x0 x1 x2 x3).2.1) ((r25 x0 x1 x2 x3).2.2.1) ((r25 x0 x1 x2 x3).2.2.2.1) ((r25 x0 x1 x2 x3).2.2.2.2) ((r25 x0 x1 x2 x3).2.1) ((r25 x0 x1 x2 x3).2.2.1) ((r25 x0 x1 x2 x3).2.2.2.1) ((r25 x0 x1 x2 x3).2.2.2.2))
 (cond (decide (((r23 1048576 x0 x1 x2 x3) : Int) < 0))
 (a4 x0 x1 x2 x3 (0, true))
 (cond (Nat.beq ((r25 x0 x1 x2 x3).1) 0)
  (cond (Nat.beq ((r24 ((r25 x0 x1 x2 x3).2.1) ((r25 x0 x1 x2 x3).2.2.1) ((r25 x0 x1 x2 x3).2.2.2.1) ((r25 x0 x1 x2 x3).2.2.2.2)).1) 0)
   (cond (Nat.beq ((r25 x0 x1 x2 x3).1) 0)
    (cond (Nat.beq ((r26 ((r25 x0 x1 x2 x3).2.1) ((r25 x0 x1 x2 x3).2.2.1) ((r25 x0 x1 x2 x3).2.2.2.1) ((r25 x0 x1 x2 x3).2.2.2.2)).1) 0)
     (cond (!c193)
      (a4 x0 x1 x2 x3 (0, false))
      (cond ((((r26 ((r25 x0 x1 x2 x3).2.1) ((r25 x0 x1 x2 x3).2.2.1) ((r25 x0 x1 x2 x3).2.2.2.1) ((r25 x0 x1 x2 x3).2.2.2.2)).2.2) : Int) != ((r24 ((r25 x0 x1 x2 x3).2.1) ((r25 x0 x1 x2 x3).2.2.1) ((r25 x0 x1 x2 x3).2.2.2.1) ((r25 x0 x1 x2 x3).2.2.2.2)).2.2))
       (a4 x0 x1 x2 x3 (0, false))
       (cond (Nat.beq ((r25 x0 x1 x2 x3).1) 0)
        (cond (Nat.beq (c230.1) 0)
         (cond (!(c230.2))
          (a4 x0 x1 x2 x3 (0, false))
          (a4 x0 x1 x2 x3 (0, true)))
         none)
        none)))
     none)
    none)
   none)
  none))
set_option maxRecDepth 100000 in
set_option maxHeartbeats 4000000 in
theorem e4 (x0 x1 x2 x3 : List (List Int)) : evFn Try.prog ext T43 noL 200 Try.f4 [.agg #[wsl 0, wsl 1, wsl 2, wsl 3]] ⟨[⟨false, (some (.tab [.fl .f32] x0))⟩, ⟨false, (some (.tab [.fl .f32] x1))⟩, ⟨false, (some (.tab sc0 x2))⟩, ⟨false, (some (.tab sc1 x3))⟩], 4, []⟩ = firstT [((Nat.beq ((r4 x0 x1 x2 x3).1) 0), .bool ((r4 x0 x1 x2 x3).2), ⟨[⟨false, (some (.tab [.fl .f32] x0))⟩, ⟨false, (some (.tab [.fl .f32] x1))⟩, ⟨false, (some (.tab sc0 x2))⟩, ⟨false, (some (.tab sc1 x3))⟩], 4, []⟩)] :=
 (show evFn Try.prog ext T43 noL 200 Try.f4 [.agg #[wsl 0, wsl 1, wsl 2, wsl 3]] ⟨[⟨false, (some (.tab [.fl .f32] x0))⟩, ⟨false, (some (.tab [.fl .f32] x1))⟩, ⟨false, (some (.tab sc0 x2))⟩, ⟨false, (some (.tab sc1 x3))⟩], 4, []⟩ = w4 x0 x1 x2 x3 from by kernel_rfl).trans
 (show w4 x0 x1 x2 x3 = a4 x0 x1 x2 x3 (r4 x0 x1 x2 x3) from by unfold w4 r4; exact (cond_both (a4 x0 x1 x2 x3) _ (fun h0 => rfl) (fun h0 => (cond_both (a4 x0 x1 x2 x3) _ (fun h1 => (cond_both (a4 x0 x1 x2 x3) _ (fun h2 => (cond_t h1 (cond_both (a4 x0 x1 x2 x3) _ (fun h3 => (cond_both (a4 x0 x1 x2 x3) _ (fun h4 => rfl) (fun h4 => (cond_both (a4 x0 x1 x2 x3) _ (fun h5 => rfl) (fun h5 => (cond_t h1 (cond_app (a4 x0 x1 x2 x3) _ (cond_app (a4 x0 x1 x2 x3) _ rfl rfl) rfl))))))) (fun h3 => rfl)))) (fun h2 => rfl))) (fun h1 => rfl)))))
noncomputable def s4 (args : List Value) (s : St) : List (Bool × Value × St) :=
 match args, s.h with
 | [.agg ⟨[.iface f0 .nilIface, .iface f1 .nilIface, .iface f2 .nilIface, .iface f3 .nilIface]⟩], [⟨false, some (.tab [.fl .f32] x0)⟩, ⟨false, some (.tab [.fl .f32] x1)⟩, ⟨false, some (.tab [.int .i64, .int .i64, .fl .f32, .fl .f32, .fl .f32, .fl .f32, .fl .f32, .fl .f32] x2)⟩, ⟨false, some (.tab [.int .i64, .int .i64, .fl .f32, .fl .f32] x3)⟩] => if f0 = 0 ∧ f1 = 1 ∧ f2 = 2 ∧ f3 = 3 then [((Nat.beq ((r4 x0 x1 x2 x3).1) 0), .bool ((r4 x0 x1 x2 x3).2), ⟨[⟨false, (some (.tab [.fl .f32] x0))⟩, ⟨false, (some (.tab [.fl .f32] x1))⟩, ⟨false, (some (.tab sc0 x2))⟩, ⟨false, (some (.tab sc1 x3))⟩], 4, []⟩)] else T43 4 args s
 | _, _ => T43 4 args s
noncomputable def T44 : CallF := addF T43 4 s4
set_option maxRecDepth 100000 in
set_option maxHeartbeats 4000000 in
theorem ok44 : CfOk Try.prog T44 := by
  refine cfOk_add ok43 fun args s r s' h1 h2 h3 => ?_
  unfold s4 at h3; split at h3
  · rename_i h; split at h3
    · rename_i hc; obtain ⟨rfl, rfl, rfl, rfl⟩ := hc; exact callOk ok43 Try.func4 h1 h2 h (lfOkF_no _ _).body (e4 _ _ _ _) rfl h3
    · exact ok43 _ _ _ _ _ h1 h2 h3
  · exact ok43 _ _ _ _ _ h1 h2 h3
end Go.Proofs.Ytfnfapmncibjfaa
