/- What the functions that the statements reach answer, part 3. -/
import Derived.Test.YtbmagccjcccnaaaDoorRw2
namespace Go.Proofs.YtbmagccjcccnaaaDoor
open Go.Ab
set_option maxHeartbeats 4000000
set_option maxRecDepth 100000

/-- laws.eqWood -/
noncomputable def r6 (x0 x1 x2 x3 x4 x5 x6 x7 x8 x9 x10 x11 x12 x13 x14 x15 x16 x17 x18 x19 x20 x21 x22 x23 x24 x25 x26 x27 x28 x29 x30 x31 x32 x33 x34 x35 : Nat) : Bool :=
 cond (!(r14 x0 x1 x2 x3 x4 x5 x18 x19 x20 x21 x22 x23))
  (false)
  (cond (!(r14 x6 x7 x8 x9 x10 x11 x24 x25 x26 x27 x28 x29))
   (false)
   (cond (!(r14 x12 x13 x14 x15 x16 x17 x30 x31 x32 x33 x34 x35))
    (false)
    (true)))
noncomputable def a6 (x0 x1 x2 x3 x4 x5 x6 x7 x8 x9 x10 x11 x12 x13 x14 x15 x16 x17 x18 x19 x20 x21 x22 x23 x24 x25 x26 x27 x28 x29 x30 x31 x32 x33 x34 x35 : Nat) (p : Bool) : Res := firstT [(true, .bool p, st0)]
noncomputable def w6 (x0 x1 x2 x3 x4 x5 x6 x7 x8 x9 x10 x11 x12 x13 x14 x15 x16 x17 x18 x19 x20 x21 x22 x23 x24 x25 x26 x27 x28 x29 x30 x31 x32 x33 x34 x35 : Nat) : Res :=
 (cond (!(r14 x0 x1 x2 x3 x4 x5 x18 x19 x20 x21 x22 x23))
 (a6 x0 x1 x2 x3 x4 x5 x6 x7 x8 x9 x10 x11 x12 x13 x14 x15 x16 x17 x18 x19 x20 x21 x22 x23 x24 x25 x26 x27 x28 x29 x30 x31 x32 x33 x34 x35 (false))
 (cond (!(r14 x6 x7 x8 x9 x10 x11 x24 x25 x26 x27 x28 x29))
  (a6 x0 x1 x2 x3 x4 x5 x6 x7 x8 x9 x10 x11 x12 x13 x14 x15 x16 x17 x18 x19 x20 x21 x22 x23 x24 x25 x26 x27 x28 x29 x30 x31 x32 x33 x34 x35 (false))
  (cond (!(r14 x12 x13 x14 x15 x16 x17 x30 x31 x32 x33 x34 x35))
   (a6 x0 x1 x2 x3 x4 x5 x6 x7 x8 x9 x10 x11 x12 x13 x14 x15 x16 x17 x18 x19 x20 x21 x22 x23 x24 x25 x26 x27 x28 x29 x30 x31 x32 x33 x34 x35 (false))
   (a6 x0 x1 x2 x3 x4 x5 x6 x7 x8 x9 x10 x11 x12 x13 x14 x15 x16 x17 x18 x19 x20 x21 x22 x23 x24 x25 x26 x27 x28 x29 x30 x31 x32 x33 x34 x35 (true)))))
set_option maxRecDepth 100000 in
set_option maxHeartbeats 4000000 in
theorem e6 (x0 x1 x2 x3 x4 x5 x6 x7 x8 x9 x10 x11 x12 x13 x14 x15 x16 x17 x18 x19 x20 x21 x22 x23 x24 x25 x26 x27 x28 x29 x30 x31 x32 x33 x34 x35 : Nat) : evFn Tryd.prog ext T30 noL 200 Tryd.f6 [.agg #[.float .f32 x0, .float .f32 x1, .float .f32 x2, .float .f32 x3, .float .f32 x4, .float .f32 x5, .float .f32 x6, .float .f32 x7, .float .f32 x8, .float .f32 x9, .float .f32 x10, .float .f32 x11, .float .f32 x12, .float .f32 x13, .float .f32 x14, .float .f32 x15, .float .f32 x16, .float .f32 x17], .agg #[.float .f32 x18, .float .f32 x19, .float .f32 x20, .float .f32 x21, .float .f32 x22, .float .f32 x23, .float .f32 x24, .float .f32 x25, .float .f32 x26, .float .f32 x27, .float .f32 x28, .float .f32 x29, .float .f32 x30, .float .f32 x31, .float .f32 x32, .float .f32 x33, .float .f32 x34, .float .f32 x35]] st0 = firstT [(true, .bool (r6 x0 x1 x2 x3 x4 x5 x6 x7 x8 x9 x10 x11 x12 x13 x14 x15 x16 x17 x18 x19 x20 x21 x22 x23 x24 x25 x26 x27 x28 x29 x30 x31 x32 x33 x34 x35), st0)] :=
 (show evFn Tryd.prog ext T30 noL 200 Tryd.f6 [.agg #[.float .f32 x0, .float .f32 x1, .float .f32 x2, .float .f32 x3, .float .f32 x4, .float .f32 x5, .float .f32 x6, .float .f32 x7, .float .f32 x8, .float .f32 x9, .float .f32 x10, .float .f32 x11, .float .f32 x12, .float .f32 x13, .float .f32 x14, .float .f32 x15, .float .f32 x16, .float .f32 x17], .agg #[.float .f32 x18, .float .f32 x19, .float .f32 x20, .float .f32 x21, .float .f32 x22, .float .f32 x23, .float .f32 x24, .float .f32 x25, .float .f32 x26, .float .f32 x27, .float .f32 x28, .float .f32 x29, .float .f32 x30, .float .f32 x31, .float .f32 x32, .float .f32 x33, .float .f32 x34, .float .f32 x35]] st0 = w6 x0 x1 x2 x3 x4 x5 x6 x7 x8 x9 x10 x11 x12 x13 x14 x15 x16 x17 x18 x19 x20 x21 x22 x23 x24 x25 x26 x27 x28 x29 x30 x31 x32 x33 x34 x35 from by kernel_rfl).trans
 (show w6 x0 x1 x2 x3 x4 x5 x6 x7 x8 x9 x10 x11 x12 x13 x14 x15 x16 x17 x18 x19 x20 x21 x22 x23 x24 x25 x26 x27 x28 x29 x30 x31 x32 x33 x34 x35 = a6 x0 x1 x2 x3 x4 x5 x6 x7 x8 x9 x10 x11 x12 x13 x14 x15 x16 x17 x18 x19 x20 x21 x22 x23 x24 x25 x26 x27 x28 x29 x30 x31 x32 x33 x34 x35 (r6 x0 x1 x2 x3 x4 x5 x6 x7 x8 x9 x10 x11 x12 x13 x14 x15 x16 x17 x18 x19 x20 x21 x22 x23 x24 x25 x26 x27 x28 x29 x30 x31 x32 x33 x34 x35) from by unfold w6 r6; exact (cond_app (a6 x0 x1 x2 x3 x4 x5 x6 x7 x8 x9 x10 x11 x12 x13 x14 x15 x16 x17 x18 x19 x20 x21 x22 x23 x24 x25 x26 x27 x28 x29 x30 x31 x32 x33 x34 x35) _ rfl (cond_app (a6 x0 x1 x2 x3 x4 x5 x6 x7 x8 x9 x10 x11 x12 x13 x14 x15 x16 x17 x18 x19 x20 x21 x22 x23 x24 x25 x26 x27 x28 x29 x30 x31 x32 x33 x34 x35) _ rfl (cond_app (a6 x0 x1 x2 x3 x4 x5 x6 x7 x8 x9 x10 x11 x12 x13 x14 x15 x16 x17 x18 x19 x20 x21 x22 x23 x24 x25 x26 x27 x28 x29 x30 x31 x32 x33 x34 x35) _ rfl rfl))))
noncomputable def s6 (args : List Value) (s : St) : List (Bool × Value × St) :=
 match args, s.h with
 | [.agg ⟨[.float .f32 x0, .float .f32 x1, .float .f32 x2, .float .f32 x3, .float .f32 x4, .float .f32 x5, .float .f32 x6, .float .f32 x7, .float .f32 x8, .float .f32 x9, .float .f32 x10, .float .f32 x11, .float .f32 x12, .float .f32 x13, .float .f32 x14, .float .f32 x15, .float .f32 x16, .float .f32 x17]⟩, .agg ⟨[.float .f32 x18, .float .f32 x19, .float .f32 x20, .float .f32 x21, .float .f32 x22, .float .f32 x23, .float .f32 x24, .float .f32 x25, .float .f32 x26, .float .f32 x27, .float .f32 x28, .float .f32 x29, .float .f32 x30, .float .f32 x31, .float .f32 x32, .float .f32 x33, .float .f32 x34, .float .f32 x35]⟩], [] => [(true, .bool (r6 x0 x1 x2 x3 x4 x5 x6 x7 x8 x9 x10 x11 x12 x13 x14 x15 x16 x17 x18 x19 x20 x21 x22 x23 x24 x25 x26 x27 x28 x29 x30 x31 x32 x33 x34 x35), st0)]
 | _, _ => T30 6 args s
noncomputable def T31 : CallF := addF T30 6 s6
set_option maxRecDepth 100000 in
set_option maxHeartbeats 4000000 in
theorem ok31 : CfOk Tryd.prog T31 := by
  refine cfOk_add ok30 fun args s r s' h1 h2 h3 => ?_
  unfold s6 at h3; split at h3
  · rename_i h; exact callOk ok30 Tryd.func6 h1 h2 h (lfOkF_no _ _).body (e6 _ _ _ _ _ _ _ _ _ _ _ _ _ _ _ _ _ _ _ _ _ _ _ _ _ _ _ _ _ _ _ _ _ _ _ _) rfl h3
  · exact ok30 _ _ _ _ _ h1 h2 h3

/-- laws.FnExactReadWood -/
noncomputable def r3 (x0 : ByteArray) : Nat × Bool :=
 let c29 := (r6 ((r5 x0).2.1) ((r5 x0).2.2.1) ((r5 x0).2.2.2.1) ((r5 x0).2.2.2.2.1) ((r5 x0).2.2.2.2.2.1) ((r5 x0).2.2.2.2.2.2.1) ((r5 x0).2.2.2.2.2.2.2.1) ((r5 x0).2.2.2.2.2.2.2.2.1) ((r5 x0).2.2.2.2.2.2.2.2.2.1) ((r5 x0).2.2.2.2.2.2.2.2.2.2.1) ((r5 x0).2.2.2.2.2.2.2.2.2.2.2.1) ((r5 x0).2.2.2.2.2.2.2.2.2.2.2.2.1) ((r5 x0).2.2.2.2.2.2.2.2.2.2.2.2.2.1) ((r5 x0).2.2.2.2.2.2.2.2.2.2.2.2.2.2.1) ((r5 x0).2.2.2.2.2.2.2.2.2.2.2.2.2.2.2.1) ((r5 x0).2.2.2.2.2.2.2.2.2.2.2.2.2.2.2.2.1) ((r5 x0).2.2.2.2.2.2.2.2.2.2.2.2.2.2.2.2.2.1) ((r5 x0).2.2.2.2.2.2.2.2.2.2.2.2.2.2.2.2.2.2.1) ((r4 x0).2.1) ((r4 x0).2.2.1) ((r4 x0).2.2.2.1) ((r4 x0).2.2.2.2.1) ((r4 x0).2.2.2.2.2.1) ((r4 x0).2.2.2.2.2.2.1) ((r4 x0).2.2.2.2.2.2.2.1) ((r4 x0).2.2.2.2.2.2.2.2.1) ((r4 x0).2.2.2.2.2.2.2.2.2.1) ((r4 x0).2.2.2.2.2.2.2.2.2.2.1) ((r4 x0).2.2.2.2.2.2.2.2.2.2.2.1) ((r4 x0).2.2.2.2.2.2.2.2.2.2.2.2.1) ((r4 x0).2.2.2.2.2.2.2.2.2.2.2.2.2.1) ((r4 x0).2.2.2.2.2.2.2.2.2.2.2.2.2.2.1) ((r4 x0).2.2.2.2.2.2.2.2.2.2.2.2.2.2.2.1) ((r4 x0).2.2.2.2.2.2.2.2.2.2.2.2.2.2.2.2.1) ((r4 x0).2.2.2.2.2.2.2.2.2.2.2.2.2.2.2.2.2.1) ((r4 x0).2.2.2.2.2.2.2.2.2.2.2.2.2.2.2.2.2.2.1))
 cond (decide (((((x0.size) : Nat) : Int) : Int) > 1048576))
  (0, true)
  (cond (Nat.beq ((r4 x0).1) 0)
   (cond (Nat.beq ((r5 x0).1) 0)
    (cond (!c29)
     (0, false)
     (cond ((((r5 x0).2.2.2.2.2.2.2.2.2.2.2.2.2.2.2.2.2.2.2) : Int) != ((r4 x0).2.2.2.2.2.2.2.2.2.2.2.2.2.2.2.2.2.2.2))
      (0, false)
      (0, true)))
    (1, false))
   (1, false))
noncomputable def a3 (x0 : ByteArray) (p : Nat × Bool) : Res := firstT [((Nat.beq (p.1) 0), .bool (p.2), st0)]
noncomputable def w3 (x0 : ByteArray) : Res :=
 let c29 := (r6 ((r5 x0).2.1) ((r5 x0).2.2.1) ((r5 x0).2.2.2.1) ((r5 x0).2.2.2.2.1) ((r5 x0).2.2.2.2.2.1) ((r5 x0).2.2.2.2.2.2.1) ((r5 x0).2.2.2.2.2.2.2.1) ((r5 x0).2.2.2.2.2.2.2.2.1) ((r5 x0).2.2.2.2.2.2.2.2.2.1) ((r5 x0).2.2.2.2.2.2.2.2.2.2.1) ((r5 x0).2.2.2.2.2.2.2.2.2.2.2.1) ((r5 x0).2.2.2.2.2.2.2.2.2.2.2.2.1) ((r5 x0).2.2.2.2.2.2.2.2.2.2.2.2.2.1) ((r5 x0).2.2.2.2.2.2.2.2.2.2.2.2.2.2.1) ((r5 x0).2.2.2.2.2.2.2.2.2.2.2.2.2.2.2.1) ((r5 x0).2.2.2.2.2.2.2.2.2.2.2.2.2.2.2.2.1) ((r5 x0).2.2.2.2.2.2.2.2.2.2.2.2.2.2.2.2.2.1) ((r5 x0).2.2.2.2.2.2.2.2.2.2.2.2.2.2.2.2.2.2.1) ((r4 x0).2.1) ((r4 x0).2.2.1) ((r4 x0).2.2.2.1) ((r4 x0).2.2.2.2.1) ((r4 x0).2.2.2.2.2.1) ((r4 x0).2.2.2.2.2.2.1) ((r4 x0).2.2.2.2.2.2.2.1) ((r4 x0).2.2.2.2.2.2.2.2.1) ((r4 x0).2.2.2.2.2.2.2.2.2.1) ((r4 x0).2.2.2.2.2.2.2.2.2.2.1) ((r4 x0).2.2.2.2.2.2.2.2.2.2.2.1) ((r4 x0).2.2.2.2.2.2.2.2.2.2.2.2.1) ((r4 x0).2.2.2.2.2.2.2.2.2.2.2.2.2.1) ((r4 x0).2.2.2.2.2.2.2.2.2.2.2.2.2.2.1) ((r4 x0).2.2.2.2.2.2.2.2.2.2.2.2.2.2.2.1) ((r4 x0).2.2.2.2.2.2.2.2.2.2.2.2.2.2.2.2.1) ((r4 x0).2.2.2.2.2.2.2.2.2.2.2.2.2.2.2.2.2.1) ((r4 x0).2.2.2.2.2.2.2.2.2.2.2.2.2.2.2.2.2.2.1))
 (cond (decide (((((x0.size) : Nat) : Int) : Int) > 1048576))
 (a3 x0 (0, true))
 (cond (Nat.beq ((r4 x0).1) 0)
  (cond (Nat.beq ((r5 x0).1) 0)
   (cond (!c29)
    (a3 x0 (0, false))
    (cond ((((r5 x0).2.2.2.2.2.2.2.2.2.2.2.2.2.2.2.2.2.2.2) : Int) != ((r4 x0).2.2.2.2.2.2.2.2.2.2.2.2.2.2.2.2.2.2.2))
     (a3 x0 (0, false))
     (a3 x0 (0, true))))
   none)
  none))
set_option maxRecDepth 100000 in
set_option maxHeartbeats 4000000 in
theorem e3 (x0 : ByteArray) : evFn Tryd.prog ext T31 noL 200 Tryd.f3 [.string x0] st0 = firstT [((Nat.beq ((r3 x0).1) 0), .bool ((r3 x0).2), st0)] :=
 (show evFn Tryd.prog ext T31 noL 200 Tryd.f3 [.string x0] st0 = w3 x0 from by kernel_rfl).trans
 (show w3 x0 = a3 x0 (r3 x0) from by unfold w3 r3; exact (cond_app (a3 x0) _ rfl (cond_app (a3 x0) _ (cond_app (a3 x0) _ (cond_app (a3 x0) _ rfl (cond_app (a3 x0) _ rfl rfl)) rfl) rfl)))
noncomputable def s3 (args : List Value) (s : St) : List (Bool × Value × St) :=
 match args, s.h with
 | [.string x0], [] => [((Nat.beq ((r3 x0).1) 0), .bool ((r3 x0).2), st0)]
 | _, _ => T31 3 args s
noncomputable def T32 : CallF := addF T31 3 s3
set_option maxRecDepth 100000 in
set_option maxHeartbeats 4000000 in
theorem ok32 : CfOk Tryd.prog T32 := by
  refine cfOk_add ok31 fun args s r s' h1 h2 h3 => ?_
  unfold s3 at h3; split at h3
  · rename_i h; exact callOk ok31 Tryd.func3 h1 h2 h (lfOkF_no _ _).body (e3 _) rfl h3
  · exact ok31 _ _ _ _ _ h1 h2 h3
end Go.Proofs.YtbmagccjcccnaaaDoor
