/- What the functions that the statements reach answer, part 4. -/
import Derived.Test.YtffpnkkhcgjmfaaDoorPt3
namespace Go.Proofs.YtffpnkkhcgjmfaaDoor
open Go.Ab
set_option maxHeartbeats 4000000
set_option maxRecDepth 100000

/-- laws.eqProgram -/
noncomputable def w9 {α : Type} (x0 : List ByteArray) (x1 : List (List Int)) (x2 : List ByteArray) (x3 : List (List Int)) (k : (Nat × Bool) → α) : α :=
 cond (Nat.beq ((r27 x0 x2).1) 0)
  (cond (!((r27 x0 x2).2))
   (k (0, false))
   (cond (Nat.beq ((r28 x1 x3).1) 0)
    (cond (!((r28 x1 x3).2))
     (k (0, false))
     (k (0, true)))
    (k (1, false))))
  (k (1, false))
noncomputable def r9 (x0 : List ByteArray) (x1 : List (List Int)) (x2 : List ByteArray) (x3 : List (List Int)) : Nat × Bool := w9 x0 x1 x2 x3 (fun p => p)
noncomputable def g9 (x0 : List ByteArray) (x1 : List (List Int)) (x2 : List ByteArray) (x3 : List (List Int)) (p : Nat × Bool) : List (Bool × Value × St) := [((Nat.beq (p.1) 0), .bool (p.2), ⟨[⟨true, (some (.strs x0))⟩, ⟨true, (some (.tab [.int .i8, .int .i16, .fl .f32] x1))⟩, ⟨true, (some (.strs x2))⟩, ⟨true, (some (.tab [.int .i8, .int .i16, .fl .f32] x3))⟩], 4, []⟩)]
theorem p9 {α : Type} (x0 : List ByteArray) (x1 : List (List Int)) (x2 : List ByteArray) (x3 : List (List Int)) (f : (Nat × Bool) → α) : w9 x0 x1 x2 x3 f = f (w9 x0 x1 x2 x3 (fun p => p)) := by unfold w9; exact (cond_app f _ (cond_app f _ rfl (cond_app f _ (cond_app f _ rfl rfl) rfl)) rfl)
set_option maxRecDepth 100000 in
set_option maxHeartbeats 4000000 in
theorem e9 (x0 : List ByteArray) (x1 : List (List Int)) (x2 : List ByteArray) (x3 : List (List Int)) : evFn Tryd.prog ext T42 noL 200 Tryd.f9 [.agg #[wsl 0, wsl 1], .agg #[wsl 2, wsl 3]] ⟨[⟨true, (some (.strs x0))⟩, ⟨true, (some (.tab [.int .i8, .int .i16, .fl .f32] x1))⟩, ⟨true, (some (.strs x2))⟩, ⟨true, (some (.tab [.int .i8, .int .i16, .fl .f32] x3))⟩], 4, []⟩ = firstT (g9 x0 x1 x2 x3 (r9 x0 x1 x2 x3)) :=
 Eq.trans (by kernel_rfl) (p9 x0 x1 x2 x3 (fun p => firstT (g9 x0 x1 x2 x3 p)))
noncomputable def s9 (args : List Value) (s : St) : List (Bool × Value × St) :=
 match args, s.h with
 | [.agg ⟨[.iface f0 .nilIface, .iface f1 .nilIface]⟩, .agg ⟨[.iface f2 .nilIface, .iface f3 .nilIface]⟩], [⟨true, some (.strs x0)⟩, ⟨true, some (.tab [.int .i8, .int .i16, .fl .f32] x1)⟩, ⟨true, some (.strs x2)⟩, ⟨true, some (.tab [.int .i8, .int .i16, .fl .f32] x3)⟩] => if f0 = 0 ∧ f1 = 1 ∧ f2 = 2 ∧ f3 = 3 then (g9 x0 x1 x2 x3 (r9 x0 x1 x2 x3)) else T42 9 args s
 | _, _ => T42 9 args s
noncomputable def T43 : CallF := addF T42 9 s9
set_option maxRecDepth 100000 in
set_option maxHeartbeats 4000000 in
theorem ok43 : CfOk Tryd.prog T43 := by
  refine cfOk_add ok42 fun args s r s' h1 h2 h3 => ?_
  unfold s9 at h3; split at h3
  · rename_i h; split at h3
    · rename_i hc; obtain ⟨rfl, rfl, rfl, rfl⟩ := hc; exact callOk ok42 Tryd.func9 h1 h2 h (lfOkF_no _ _).body (e9 _ _ _ _) rfl h3
    · exact ok42 _ _ _ _ _ h1 h2 h3
  · exact ok42 _ _ _ _ _ h1 h2 h3

/-- laws.FnExactProgramText -/
noncomputable def r3 (x0 : List ByteArray) (x1 : List (List Int)) : Nat × Bool :=
 let c228 := (r9 ((r7 x0 x1).2.1) ((r7 x0 x1).2.2) ((r7 x0 x1).2.1) ((r7 x0 x1).2.2))
 cond (Nat.beq ((r5 1048576 x0 x1).1) 0)
  (cond (decide ((((r5 1048576 x0 x1).2) : Int) < 0))
   (0, true)
   (cond (Nat.beq ((r7 x0 x1).1) 0)
    (cond (Nat.beq ((r6 ((r7 x0 x1).2.1) ((r7 x0 x1).2.2)).1) 0)
     (cond (Nat.beq ((r8 ((r7 x0 x1).2.1) ((r7 x0 x1).2.2)).1) 0)
      (cond (!(((r8 ((r7 x0 x1).2.1) ((r7 x0 x1).2.2)).2).toList == ((r6 ((r7 x0 x1).2.1) ((r7 x0 x1).2.2)).2).toList))
       (0, false)
       (cond (Nat.beq (c228.1) 0)
        (cond (!(c228.2))
         (0, false)
         (0, true))
        (1, false)))
      (1, false))
     (1, false))
    (1, false)))
  (1, false)
noncomputable def a3 (x0 : List ByteArray) (x1 : List (List Int)) (p : Nat × Bool) : Res := firstT [((Nat.beq (p.1) 0), .bool (p.2), ⟨[⟨false, (some (.strs x0))⟩, ⟨false, (some (.tab [.int .i8, .int .i16, .fl .f32] x1))⟩], 2, []⟩)]
noncomputable def w3 (x0 : List ByteArray) (x1 : List (List Int)) : Res :=
 let c228 := (r9 ((r7 x0 x1).2.1) ((r7 x0 x1).2.2) ((r7 x0 x1).2.1) ((r7 x0 x1).2.2))
 (cond (Nat.beq ((r5 1048576 x0 x1).1) 0)
 (cond (decide ((((r5 1048576 x0 x1).2) : Int) < 0))
  (a3 x0 x1 (0, true))
  (cond (Nat.beq ((r7 x0 x1).1) 0)
   (cond (Nat.beq ((r6 ((r7 x0 x1).2.1) ((r7 x0 x1).2.2)).1) 0)
    (cond (Nat.beq ((r7 x0 x1).1) 0)
     (cond (Nat.beq ((r8 ((r7 x0 x1).2.1) ((r7 x0 x1).2.2)).1) 0)
      (cond (!(((r8 ((r7 x0 x1).2.1) ((r7 x0 x1).2.2)).2).toList == ((r6 ((r7 x0 x1).2.1) ((r7 x0 x1).2.2)).2).toList))
       (a3 x0 x1 (0, false))
       (cond (Nat.beq ((r7 x0 x1).1) 0)
        (cond (Nat.beq (c228.1) 0)
         (cond (!(c228.2))
          (a3 x0 x1 (0, false))
          (a3 x0 x1 (0, true)))
         none)
        none))
      none)
     none)
    none)
   none))
 none)
set_option maxRecDepth 100000 in
set_option maxHeartbeats 4000000 in
theorem e3 (x0 : List ByteArray) (x1 : List (List Int)) : evFn Tryd.prog ext T43 noL 200 Tryd.f3 [.agg #[wsl 0, wsl 1]] ⟨[⟨false, (some (.strs x0))⟩, ⟨false, (some (.tab [.int .i8, .int .i16, .fl .f32] x1))⟩], 2, []⟩ = firstT [((Nat.beq ((r3 x0 x1).1) 0), .bool ((r3 x0 x1).2), ⟨[⟨false, (some (.strs x0))⟩, ⟨false, (some (.tab [.int .i8, .int .i16, .fl .f32] x1))⟩], 2, []⟩)] :=
 (show evFn Tryd.prog ext T43 noL 200 Tryd.f3 [.agg #[wsl 0, wsl 1]] ⟨[⟨false, (some (.strs x0))⟩, ⟨false, (some (.tab [.int .i8, .int .i16, .fl .f32] x1))⟩], 2, []⟩ = w3 x0 x1 from by kernel_rfl).trans
 (show w3 x0 x1 = a3 x0 x1 (r3 x0 x1) from by unfold w3 r3; exact (cond_both (a3 x0 x1) _ (fun h0 => (cond_both (a3 x0 x1) _ (fun h1 => rfl) (fun h1 => (cond_both (a3 x0 x1) _ (fun h2 => (cond_both (a3 x0 x1) _ (fun h3 => (cond_t h2 (cond_both (a3 x0 x1) _ (fun h4 => (cond_both (a3 x0 x1) _ (fun h5 => rfl) (fun h5 => (cond_t h2 (cond_app (a3 x0 x1) _ (cond_app (a3 x0 x1) _ rfl rfl) rfl))))) (fun h4 => rfl)))) (fun h3 => rfl))) (fun h2 => rfl))))) (fun h0 => rfl)))
noncomputable def s3 (args : List Value) (s : St) : List (Bool × Value × St) :=
 match args, s.h with
 | [.agg ⟨[.iface f0 .nilIface, .iface f1 .nilIface]⟩], [⟨false, some (.strs x0)⟩, ⟨false, some (.tab [.int .i8, .int .i16, .fl .f32] x1)⟩] => if f0 = 0 ∧ f1 = 1 then [((Nat.beq ((r3 x0 x1).1) 0), .bool ((r3 x0 x1).2), ⟨[⟨false, (some (.strs x0))⟩, ⟨false, (some (.tab [.int .i8, .int .i16, .fl .f32] x1))⟩], 2, []⟩)] else T43 3 args s
 | _, _ => T43 3 args s
noncomputable def T44 : CallF := addF T43 3 s3
set_option maxRecDepth 100000 in
set_option maxHeartbeats 4000000 in
theorem ok44 : CfOk Tryd.prog T44 := by
  refine cfOk_add ok43 fun args s r s' h1 h2 h3 => ?_
  unfold s3 at h3; split at h3
  · rename_i h; split at h3
    · rename_i hc; obtain ⟨rfl, rfl⟩ := hc; exact callOk ok43 Tryd.func3 h1 h2 h (lfOkF_no _ _).body (e3 _ _) rfl h3
    · exact ok43 _ _ _ _ _ h1 h2 h3
  · exact ok43 _ _ _ _ _ h1 h2 h3
end Go.Proofs.YtffpnkkhcgjmfaaDoor
