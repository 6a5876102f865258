/- What the functions that the statements reach answer, part 4. -/
import Derived.Test.YtfclciebpnnieaaPp3
namespace Go.Proofs.Ytfclciebpnnieaa
open Go.Ab
set_option maxHeartbeats 4000000
set_option maxRecDepth 100000

/-- impl.infinity -/
noncomputable def r116 (x0 : Int) : Nat × Nat :=
 cond (narrowOk (r111 x0))
  (0, (narrow (r111 x0)))
  (1, 0)
noncomputable def a116 (x0 : Int) (p : Nat × Nat) : Res := firstT [((Nat.beq (p.1) 0), .float .f32 (p.2), st0)]
noncomputable def w116 (x0 : Int) : Res :=
 (cond (narrowOk (r111 x0))
 (a116 x0 (0, (narrow (r111 x0))))
 none)
set_option maxRecDepth 100000 in
set_option maxHeartbeats 4000000 in
theorem e116 (x0 : Int) : evFn Try.prog ext T50 noL 200 Try.f116 [.int .i64 x0] st0 = firstT [((Nat.beq ((r116 x0).1) 0), .float .f32 ((r116 x0).2), st0)] :=
 (show evFn Try.prog ext T50 noL 200 Try.f116 [.int .i64 x0] st0 = w116 x0 from by kernel_rfl).trans
 (show w116 x0 = a116 x0 (r116 x0) from by unfold w116 r116; exact (cond_app (a116 x0) _ rfl rfl))
noncomputable def s116 (args : List Value) (s : St) : List (Bool × Value × St) :=
 match args, s.h with
 | [.int .i64 x0], [] => [((Nat.beq ((r116 x0).1) 0), .float .f32 ((r116 x0).2), st0)]
 | _, _ => T50 116 args s
noncomputable def T51 : CallF := addF T50 116 s116
set_option maxRecDepth 100000 in
set_option maxHeartbeats 4000000 in
theorem ok51 : CfOk Try.prog T51 := by
  refine cfOk_add ok50 fun args s r s' h1 h2 h3 => ?_
  unfold s116 at h3; split at h3
  · rename_i h; exact callOk ok50 Try.func116 h1 h2 h (lfOkF_no _ _).body (e116 _) rfl h3
  · exact ok50 _ _ _ _ _ h1 h2 h3

/-- impl.NextUp -/
noncomputable def r118 (x0 : Nat) : Nat :=
 cond (!isN .f32 x0)
  (cond (!feq .f32 x0 x0)
   (x0)
   (cond (r80 (widen x0) 1)
    (x0)
    (cond ((((x0 : Nat) : Int) : Int) == 2147483648)
     (1)
     (cond (((Int.fdiv ((x0 : Nat) : Int) (2 ^ (min (31 : Int).toNat (IntKind.bits .u32)))) : Int) != 0)
      ((Int.toNat (IntKind.u32.wrap (((x0 : Nat) : Int) - 1))))
      ((Int.toNat (IntKind.u32.wrap (((x0 : Nat) : Int) + 1))))))))
  (x0)
noncomputable def a118 (x0 : Nat) (p : Nat) : Res := firstT [(true, .float .f32 p, st0)]
noncomputable def w118 (x0 : Nat) : Res :=
 (cond (!isN .f32 x0)
 (cond (!feq .f32 x0 x0)
  (a118 x0 (x0))
  (cond (r80 (widen x0) 1)
   (a118 x0 (x0))
   (cond ((((x0 : Nat) : Int) : Int) == 2147483648)
    (a118 x0 (1))
    (cond (((Int.fdiv ((x0 : Nat) : Int) (2 ^ (min (31 : Int).toNat (IntKind.bits .u32)))) : Int) != 0)
     (a118 x0 ((Int.toNat (IntKind.u32.wrap (((x0 : Nat) : Int) - 1)))))
     (a118 x0 ((Int.toNat (IntKind.u32.wrap (((x0 : Nat) : Int) + 1)))))))))
 (cond (!feq .f32 x0 x0)
  (a118 x0 (x0))
  (cond (r80 (widen x0) 1)
   (some (.float .f32 x0, st0))
   none)))
set_option maxRecDepth 100000 in
set_option maxHeartbeats 4000000 in
theorem e118 (x0 : Nat) : evFn Try.prog ext T51 noL 200 Try.f118 [.float .f32 x0] st0 = firstT [(true, .float .f32 (r118 x0), st0)] :=
 (show evFn Try.prog ext T51 noL 200 Try.f118 [.float .f32 x0] st0 = w118 x0 from by kernel_rfl).trans
 (show w118 x0 = a118 x0 (r118 x0) from by unfold w118 r118; exact (cond_both (a118 x0) _ (fun h0 => (cond_app (a118 x0) _ rfl (cond_app (a118 x0) _ rfl (cond_app (a118 x0) _ rfl (cond_app (a118 x0) _ rfl rfl))))) (fun h0 => (cond_t (ev_not1 (feq_nanl _ (ev_notf h0))) rfl))))
noncomputable def s118 (args : List Value) (s : St) : List (Bool × Value × St) :=
 match args, s.h with
 | [.float .f32 x0], [] => [(true, .float .f32 (r118 x0), st0)]
 | _, _ => T51 118 args s
noncomputable def T52 : CallF := addF T51 118 s118
set_option maxRecDepth 100000 in
set_option maxHeartbeats 4000000 in
theorem ok52 : CfOk Try.prog T52 := by
  refine cfOk_add ok51 fun args s r s' h1 h2 h3 => ?_
  unfold s118 at h3; split at h3
  · rename_i h; exact callOk ok51 Try.func118 h1 h2 h (lfOkF_no _ _).body (e118 _) rfl h3
  · exact ok51 _ _ _ _ _ h1 h2 h3

/-- impl.NextDown -/
noncomputable def r117 (x0 : Nat) : Nat :=
 ((fneg .f32 (r118 (fneg .f32 x0))))
noncomputable def a117 (x0 : Nat) (p : Nat) : Res := firstT [(true, .float .f32 p, st0)]
noncomputable def w117 (x0 : Nat) : Res :=
 (a117 x0 ((fneg .f32 (r118 (fneg .f32 x0)))))
set_option maxRecDepth 100000 in
set_option maxHeartbeats 4000000 in
theorem e117 (x0 : Nat) : evFn Try.prog ext T52 noL 200 Try.f117 [.float .f32 x0] st0 = firstT [(true, .float .f32 (r117 x0), st0)] :=
 (show evFn Try.prog ext T52 noL 200 Try.f117 [.float .f32 x0] st0 = w117 x0 from by kernel_rfl).trans
 (show w117 x0 = a117 x0 (r117 x0) from by unfold w117 r117; exact rfl)
noncomputable def s117 (args : List Value) (s : St) : List (Bool × Value × St) :=
 match args, s.h with
 | [.float .f32 x0], [] => [(true, .float .f32 (r117 x0), st0)]
 | _, _ => T52 117 args s
noncomputable def T53 : CallF := addF T52 117 s117
set_option maxRecDepth 100000 in
set_option maxHeartbeats 4000000 in
theorem ok53 : CfOk Try.prog T53 := by
  refine cfOk_add ok52 fun args s r s' h1 h2 h3 => ?_
  unfold s117 at h3; split at h3
  · rename_i h; exact callOk ok52 Try.func117 h1 h2 h (lfOkF_no _ _).body (e117 _) rfl h3
  · exact ok52 _ _ _ _ _ h1 h2 h3

/-- impl.lowEnd -/
noncomputable def r114 (x0 : Nat) : Nat × Nat :=
 cond (!feq .f32 x0 x0)
  (cond (Nat.beq ((r116 (-1)).1) 0)
   (0, ((r116 (-1)).2))
   (1, 0))
  (0, (r117 x0))
noncomputable def a114 (x0 : Nat) (p : Nat × Nat) : Res := firstT [((Nat.beq (p.1) 0), .float .f32 (p.2), st0)]
noncomputable def w114 (x0 : Nat) : Res :=
 (cond (!feq .f32 x0 x0)
 (cond (Nat.beq ((r116 (-1)).1) 0)
  (a114 x0 (0, ((r116 (-1)).2)))
  none)
 (a114 x0 (0, (r117 x0))))
set_option maxRecDepth 100000 in
set_option maxHeartbeats 4000000 in
theorem e114 (x0 : Nat) : evFn Try.prog ext T53 noL 200 Try.f114 [.float .f32 x0] st0 = firstT [((Nat.beq ((r114 x0).1) 0), .float .f32 ((r114 x0).2), st0)] :=
 (show evFn Try.prog ext T53 noL 200 Try.f114 [.float .f32 x0] st0 = w114 x0 from by kernel_rfl).trans
 (show w114 x0 = a114 x0 (r114 x0) from by unfold w114 r114; exact (cond_app (a114 x0) _ (cond_app (a114 x0) _ rfl rfl) rfl))
noncomputable def s114 (args : List Value) (s : St) : List (Bool × Value × St) :=
 match args, s.h with
 | [.float .f32 x0], [] => [((Nat.beq ((r114 x0).1) 0), .float .f32 ((r114 x0).2), st0)]
 | _, _ => T53 114 args s
noncomputable def T54 : CallF := addF T53 114 s114
set_option maxRecDepth 100000 in
set_option maxHeartbeats 4000000 in
theorem ok54 : CfOk Try.prog T54 := by
  refine cfOk_add ok53 fun args s r s' h1 h2 h3 => ?_
  unfold s114 at h3; split at h3
  · rename_i h; exact callOk ok53 Try.func114 h1 h2 h (lfOkF_no _ _).body (e114 _) rfl h3
  · exact ok53 _ _ _ _ _ h1 h2 h3

/-- impl.highEnd -/
noncomputable def r115 (x0 : Nat) : Nat × Nat :=
 cond (!feq .f32 x0 x0)
  (cond (Nat.beq ((r116 1).1) 0)
   (0, ((r116 1).2))
   (1, 0))
  (0, (r118 x0))
noncomputable def a115 (x0 : Nat) (p : Nat × Nat) : Res := firstT [((Nat.beq (p.1) 0), .float .f32 (p.2), st0)]
noncomputable def w115 (x0 : Nat) : Res :=
 (cond (!feq .f32 x0 x0)
 (cond (Nat.beq ((r116 1).1) 0)
  (a115 x0 (0, ((r116 1).2)))
  none)
 (a115 x0 (0, (r118 x0))))
set_option maxRecDepth 100000 in
set_option maxHeartbeats 4000000 in
theorem e115 (x0 : Nat) : evFn Try.prog ext T54 noL 200 Try.f115 [.float .f32 x0] st0 = firstT [((Nat.beq ((r115 x0).1) 0), .float .f32 ((r115 x0).2), st0)] :=
 (show evFn Try.prog ext T54 noL 200 Try.f115 [.float .f32 x0] st0 = w115 x0 from by kernel_rfl).trans
 (show w115 x0 = a115 x0 (r115 x0) from by unfold w115 r115; exact (cond_app (a115 x0) _ (cond_app (a115 x0) _ rfl rfl) rfl))
noncomputable def s115 (args : List Value) (s : St) : List (Bool × Value × St) :=
 match args, s.h with
 | [.float .f32 x0], [] => [((Nat.beq ((r115 x0).1) 0), .float .f32 ((r115 x0).2), st0)]
 | _, _ => T54 115 args s
noncomputable def T55 : CallF := addF T54 115 s115
set_option maxRecDepth 100000 in
set_option maxHeartbeats 4000000 in
theorem ok55 : CfOk Try.prog T55 := by
  refine cfOk_add ok54 fun args s r s' h1 h2 h3 => ?_
  unfold s115 at h3; split at h3
  · rename_i h; exact callOk ok54 Try.func115 h1 h2 h (lfOkF_no _ _).body (e115 _) rfl h3
  · exact ok54 _ _ _ _ _ h1 h2 h3

/-- impl.addSpans -/
noncomputable def r102 (x0 x1 x2 x3 : Nat) : Nat × Nat × Nat :=
 cond (Nat.beq ((r114 (fadd .f32 x0 x2)).1) 0)
  (cond (Nat.beq ((r115 (fadd .f32 x1 x3)).1) 0)
   (0, ((r114 (fadd .f32 x0 x2)).2), ((r115 (fadd .f32 x1 x3)).2))
   (1, 0, 0))
  (1, 0, 0)
noncomputable def a102 (x0 x1 x2 x3 : Nat) (p : Nat × Nat × Nat) : Res := firstT [((Nat.beq (p.1) 0), .agg #[.float .f32 (p.2.1), .float .f32 (p.2.2)], st0)]
noncomputable def w102 (x0 x1 x2 x3 : Nat) : Res :=
 (cond (Nat.beq ((r114 (fadd .f32 x0 x2)).1) 0)
 (cond (Nat.beq ((r115 (fadd .f32 x1 x3)).1) 0)
  (a102 x0 x1 x2 x3 (0, ((r114 (fadd .f32 x0 x2)).2), ((r115 (fadd .f32 x1 x3)).2)))
  none)
 none)
set_option maxRecDepth 100000 in
set_option maxHeartbeats 4000000 in
theorem e102 (x0 x1 x2 x3 : Nat) : evFn Try.prog ext T55 noL 200 Try.f102 [.agg #[.float .f32 x0, .float .f32 x1], .agg #[.float .f32 x2, .float .f32 x3]] st0 = firstT [((Nat.beq ((r102 x0 x1 x2 x3).1) 0), .agg #[.float .f32 ((r102 x0 x1 x2 x3).2.1), .float .f32 ((r102 x0 x1 x2 x3).2.2)], st0)] :=
 (show evFn Try.prog ext T55 noL 200 Try.f102 [.agg #[.float .f32 x0, .float .f32 x1], .agg #[.float .f32 x2, .float .f32 x3]] st0 = w102 x0 x1 x2 x3 from by kernel_rfl).trans
 (show w102 x0 x1 x2 x3 = a102 x0 x1 x2 x3 (r102 x0 x1 x2 x3) from by unfold w102 r102; exact (cond_app (a102 x0 x1 x2 x3) _ (cond_app (a102 x0 x1 x2 x3) _ rfl rfl) rfl))
noncomputable def s102 (args : List Value) (s : St) : List (Bool × Value × St) :=
 match args, s.h with
 | [.agg ⟨[.float .f32 x0, .float .f32 x1]⟩, .agg ⟨[.float .f32 x2, .float .f32 x3]⟩], [] => [((Nat.beq ((r102 x0 x1 x2 x3).1) 0), .agg #[.float .f32 ((r102 x0 x1 x2 x3).2.1), .float .f32 ((r102 x0 x1 x2 x3).2.2)], st0)]
 | _, _ => T55 102 args s
noncomputable def T56 : CallF := addF T55 102 s102
set_option maxRecDepth 100000 in
set_option maxHeartbeats 4000000 in
theorem ok56 : CfOk Try.prog T56 := by
  refine cfOk_add ok55 fun args s r s' h1 h2 h3 => ?_
  unfold s102 at h3; split at h3
  · rename_i h; exact callOk ok55 Try.func102 h1 h2 h (lfOkF_no _ _).body (e102 _ _ _ _) rfl h3
  · exact ok55 _ _ _ _ _ h1 h2 h3

/-- impl.subSpans -/
noncomputable def r103 (x0 x1 x2 x3 : Nat) : Nat × Nat × Nat :=
 cond (Nat.beq ((r114 (fsub .f32 x0 x3)).1) 0)
  (cond (Nat.beq ((r115 (fsub .f32 x1 x2)).1) 0)
   (0, ((r114 (fsub .f32 x0 x3)).2), ((r115 (fsub .f32 x1 x2)).2))
   (1, 0, 0))
  (1, 0, 0)
noncomputable def a103 (x0 x1 x2 x3 : Nat) (p : Nat × Nat × Nat) : Res := firstT [((Nat.beq (p.1) 0), .agg #[.float .f32 (p.2.1), .float .f32 (p.2.2)], st0)]
noncomputable def w103 (x0 x1 x2 x3 : Nat) : Res :=
 (cond (Nat.beq ((r114 (fsub .f32 x0 x3)).1) 0)
 (cond (Nat.beq ((r115 (fsub .f32 x1 x2)).1) 0)
  (a103 x0 x1 x2 x3 (0, ((r114 (fsub .f32 x0 x3)).2), ((r115 (fsub .f32 x1 x2)).2)))
  none)
 none)
set_option maxRecDepth 100000 in
set_option maxHeartbeats 4000000 in
theorem e103 (x0 x1 x2 x3 : Nat) : evFn Try.prog ext T56 noL 200 Try.f103 [.agg #[.float .f32 x0, .float .f32 x1], .agg #[.float .f32 x2, .float .f32 x3]] st0 = firstT [((Nat.beq ((r103 x0 x1 x2 x3).1) 0), .agg #[.float .f32 ((r103 x0 x1 x2 x3).2.1), .float .f32 ((r103 x0 x1 x2 x3).2.2)], st0)] :=
 (show evFn Try.prog ext T56 noL 200 Try.f103 [.agg #[.float .f32 x0, .float .f32 x1], .agg #[.float .f32 x2, .float .f32 x3]] st0 = w103 x0 x1 x2 x3 from by kernel_rfl).trans
 (show w103 x0 x1 x2 x3 = a103 x0 x1 x2 x3 (r103 x0 x1 x2 x3) from by unfold w103 r103; exact (cond_app (a103 x0 x1 x2 x3) _ (cond_app (a103 x0 x1 x2 x3) _ rfl rfl) rfl))
noncomputable def s103 (args : List Value) (s : St) : List (Bool × Value × St) :=
 match args, s.h with
 | [.agg ⟨[.float .f32 x0, .float .f32 x1]⟩, .agg ⟨[.float .f32 x2, .float .f32 x3]⟩], [] => [((Nat.beq ((r103 x0 x1 x2 x3).1) 0), .agg #[.float .f32 ((r103 x0 x1 x2 x3).2.1), .float .f32 ((r103 x0 x1 x2 x3).2.2)], st0)]
 | _, _ => T56 103 args s
noncomputable def T57 : CallF := addF T56 103 s103
set_option maxRecDepth 100000 in
set_option maxHeartbeats 4000000 in
theorem ok57 : CfOk Try.prog T57 := by
  refine cfOk_add ok56 fun args s r s' h1 h2 h3 => ?_
  unfold s103 at h3; split at h3
  · rename_i h; exact callOk ok56 Try.func103 h1 h2 h (lfOkF_no _ _).body (e103 _ _ _ _) rfl h3
  · exact ok56 _ _ _ _ _ h1 h2 h3

/-- impl.lesser -/
noncomputable def r95 (x0 x1 : Nat) : Nat :=
 cond (flt .f32 x1 x0)
  (x1)
  (x0)
noncomputable def a95 (x0 x1 : Nat) (p : Nat) : Res := firstT [(true, .float .f32 p, st0)]
noncomputable def w95 (x0 x1 : Nat) : Res :=
 (cond (flt .f32 x1 x0)
 (a95 x0 x1 (x1))
 (a95 x0 x1 (x0)))
set_option maxRecDepth 100000 in
set_option maxHeartbeats 4000000 in
theorem e95 (x0 x1 : Nat) : evFn Try.prog ext T57 noL 200 Try.f95 [.float .f32 x0, .float .f32 x1] st0 = firstT [(true, .float .f32 (r95 x0 x1), st0)] :=
 (show evFn Try.prog ext T57 noL 200 Try.f95 [.float .f32 x0, .float .f32 x1] st0 = w95 x0 x1 from by kernel_rfl).trans
 (show w95 x0 x1 = a95 x0 x1 (r95 x0 x1) from by unfold w95 r95; exact (cond_app (a95 x0 x1) _ rfl rfl))
noncomputable def s95 (args : List Value) (s : St) : List (Bool × Value × St) :=
 match args, s.h with
 | [.float .f32 x0, .float .f32 x1], [] => [(true, .float .f32 (r95 x0 x1), st0)]
 | _, _ => T57 95 args s
noncomputable def T58 : CallF := addF T57 95 s95
set_option maxRecDepth 100000 in
set_option maxHeartbeats 4000000 in
theorem ok58 : CfOk Try.prog T58 := by
  refine cfOk_add ok57 fun args s r s' h1 h2 h3 => ?_
  unfold s95 at h3; split at h3
  · rename_i h; exact callOk ok57 Try.func95 h1 h2 h (lfOkF_no _ _).body (e95 _ _) rfl h3
  · exact ok57 _ _ _ _ _ h1 h2 h3

/-- impl.greater -/
noncomputable def r96 (x0 x1 : Nat) : Nat :=
 cond (fgt .f32 x1 x0)
  (x1)
  (x0)
noncomputable def a96 (x0 x1 : Nat) (p : Nat) : Res := firstT [(true, .float .f32 p, st0)]
noncomputable def w96 (x0 x1 : Nat) : Res :=
 (cond (fgt .f32 x1 x0)
 (a96 x0 x1 (x1))
 (a96 x0 x1 (x0)))
set_option maxRecDepth 100000 in
set_option maxHeartbeats 4000000 in
theorem e96 (x0 x1 : Nat) : evFn Try.prog ext T58 noL 200 Try.f96 [.float .f32 x0, .float .f32 x1] st0 = firstT [(true, .float .f32 (r96 x0 x1), st0)] :=
 (show evFn Try.prog ext T58 noL 200 Try.f96 [.float .f32 x0, .float .f32 x1] st0 = w96 x0 x1 from by kernel_rfl).trans
 (show w96 x0 x1 = a96 x0 x1 (r96 x0 x1) from by unfold w96 r96; exact (cond_app (a96 x0 x1) _ rfl rfl))
noncomputable def s96 (args : List Value) (s : St) : List (Bool × Value × St) :=
 match args, s.h with
 | [.float .f32 x0, .float .f32 x1], [] => [(true, .float .f32 (r96 x0 x1), st0)]
 | _, _ => T58 96 args s
noncomputable def T59 : CallF := addF T58 96 s96
set_option maxRecDepth 100000 in
set_option maxHeartbeats 4000000 in
theorem ok59 : CfOk Try.prog T59 := by
  refine cfOk_add ok58 fun args s r s' h1 h2 h3 => ?_
  unfold s96 at h3; split at h3
  · rename_i h; exact callOk ok58 Try.func96 h1 h2 h (lfOkF_no _ _).body (e96 _ _) rfl h3
  · exact ok58 _ _ _ _ _ h1 h2 h3

/-- impl.mulSpans -/
noncomputable def r104 (x0 x1 x2 x3 : Nat) : Nat × Nat × Nat :=
 cond (!feq .f32 (fmul .f32 x0 x2) (fmul .f32 x0 x2))
  (cond (Nat.beq ((r116 (-1)).1) 0)
   (cond (Nat.beq ((r116 1).1) 0)
    (0, ((r116 (-1)).2), ((r116 1).2))
    (1, 0, 0))
   (1, 0, 0))
  (cond (!feq .f32 (fmul .f32 x0 x3) (fmul .f32 x0 x3))
   (cond (Nat.beq ((r116 (-1)).1) 0)
    (cond (Nat.beq ((r116 1).1) 0)
     (0, ((r116 (-1)).2), ((r116 1).2))
     (1, 0, 0))
    (1, 0, 0))
   (cond (!feq .f32 (fmul .f32 x1 x2) (fmul .f32 x1 x2))
    (cond (Nat.beq ((r116 (-1)).1) 0)
     (cond (Nat.beq ((r116 1).1) 0)
      (0, ((r116 (-1)).2), ((r116 1).2))
      (1, 0, 0))
     (1, 0, 0))
    (cond (!feq .f32 (fmul .f32 x1 x3) (fmul .f32 x1 x3))
     (cond (Nat.beq ((r116 (-1)).1) 0)
      (cond (Nat.beq ((r116 1).1) 0)
       (0, ((r116 (-1)).2), ((r116 1).2))
       (1, 0, 0))
      (1, 0, 0))
     (0, (r117 (r95 (r95 (r95 (r95 (fmul .f32 x0 x2) (fmul .f32 x0 x2)) (fmul .f32 x0 x3)) (fmul .f32 x1 x2)) (fmul .f32 x1 x3))), (r118 (r96 (r96 (r96 (r96 (fmul .f32 x0 x2) (fmul .f32 x0 x2)) (fmul .f32 x0 x3)) (fmul .f32 x1 x2)) (fmul .f32 x1 x3)))))))
noncomputable def a104 (x0 x1 x2 x3 : Nat) (p : Nat × Nat × Nat) : Res := firstT [((Nat.beq (p.1) 0), .agg #[.float .f32 (p.2.1), .float .f32 (p.2.2)], st0)]
noncomputable def w104 (x0 x1 x2 x3 : Nat) : Res :=
 (cond (!feq .f32 (fmul .f32 x0 x2) (fmul .f32 x0 x2))
 (cond (Nat.beq ((r116 (-1)).1) 0)
  (cond (Nat.beq ((r116 1).1) 0)
   (a104 x0 x1 x2 x3 (0, ((r116 (-1)).2), ((r116 1).2)))
   none)
  none)
 (cond (!feq .f32 (fmul .f32 x0 x3) (fmul .f32 x0 x3))
  (cond (Nat.beq ((r116 (-1)).1) 0)
   (cond (Nat.beq ((r116 1).1) 0)
    (a104 x0 x1 x2 x3 (0, ((r116 (-1)).2), ((r116 1).2)))
    none)
   none)
  (cond (!feq .f32 (fmul .f32 x1 x2) (fmul .f32 x1 x2))
   (cond (Nat.beq ((r116 (-1)).1) 0)
    (cond (Nat.beq ((r116 1).1) 0)
     (a104 x0 x1 x2 x3 (0, ((r116 (-1)).2), ((r116 1).2)))
     none)
    none)
   (cond (!feq .f32 (fmul .f32 x1 x3) (fmul .f32 x1 x3))
    (cond (Nat.beq ((r116 (-1)).1) 0)
     (cond (Nat.beq ((r116 1).1) 0)
      (a104 x0 x1 x2 x3 (0, ((r116 (-1)).2), ((r116 1).2)))
      none)
     none)
    (a104 x0 x1 x2 x3 (0, (r117 (r95 (r95 (r95 (r95 (fmul .f32 x0 x2) (fmul .f32 x0 x2)) (fmul .f32 x0 x3)) (fmul .f32 x1 x2)) (fmul .f32 x1 x3))), (r118 (r96 (r96 (r96 (r96 (fmul .f32 x0 x2) (fmul .f32 x0 x2)) (fmul .f32 x0 x3)) (fmul .f32 x1 x2)) (fmul .f32 x1 x3)))))))))
set_option maxRecDepth 100000 in
set_option maxHeartbeats 4000000 in
theorem e104 (x0 x1 x2 x3 : Nat) : evFn Try.prog ext T59 noL 200 Try.f104 [.agg #[.float .f32 x0, .float .f32 x1], .agg #[.float .f32 x2, .float .f32 x3]] st0 = firstT [((Nat.beq ((r104 x0 x1 x2 x3).1) 0), .agg #[.float .f32 ((r104 x0 x1 x2 x3).2.1), .float .f32 ((r104 x0 x1 x2 x3).2.2)], st0)] :=
 (show evFn Try.prog ext T59 noL 200 Try.f104 [.agg #[.float .f32 x0, .float .f32 x1], .agg #[.float .f32 x2, .float .f32 x3]] st0 = w104 x0 x1 x2 x3 from by kernel_rfl).trans
 (show w104 x0 x1 x2 x3 = a104 x0 x1 x2 x3 (r104 x0 x1 x2 x3) from by unfold w104 r104; exact (cond_app (a104 x0 x1 x2 x3) _ (cond_app (a104 x0 x1 x2 x3) _ (cond_app (a104 x0 x1 x2 x3) _ rfl rfl) rfl) (cond_app (a104 x0 x1 x2 x3) _ (cond_app (a104 x0 x1 x2 x3) _ (cond_app (a104 x0 x1 x2 x3) _ rfl rfl) rfl) (cond_app (a104 x0 x1 x2 x3) _ (cond_app (a104 x0 x1 x2 x3) _ (cond_app (a104 x0 x1 x2 x3) _ rfl rfl) rfl) (cond_app (a104 x0 x1 x2 x3) _ (cond_app (a104 x0 x1 x2 x3) _ (cond_app (a104 x0 x1 x2 x3) _ rfl rfl) rfl) rfl)))))
noncomputable def s104 (args : List Value) (s : St) : List (Bool × Value × St) :=
 match args, s.h with
 | [.agg ⟨[.float .f32 x0, .float .f32 x1]⟩, .agg ⟨[.float .f32 x2, .float .f32 x3]⟩], [] => [((Nat.beq ((r104 x0 x1 x2 x3).1) 0), .agg #[.float .f32 ((r104 x0 x1 x2 x3).2.1), .float .f32 ((r104 x0 x1 x2 x3).2.2)], st0)]
 | _, _ => T59 104 args s
noncomputable def T60 : CallF := addF T59 104 s104
set_option maxRecDepth 100000 in
set_option maxHeartbeats 4000000 in
theorem ok60 : CfOk Try.prog T60 := by
  refine cfOk_add ok59 fun args s r s' h1 h2 h3 => ?_
  unfold s104 at h3; split at h3
  · rename_i h; exact callOk ok59 Try.func104 h1 h2 h (lfOkF_no _ _).body (e104 _ _ _ _) rfl h3
  · exact ok59 _ _ _ _ _ h1 h2 h3

/-- impl.lessSpans -/
noncomputable def r105 (x0 x1 x2 x3 : Nat) : Nat × Nat :=
 cond (flt .f32 x1 x2)
  (1065353216, 1065353216)
  (cond (fgt .f32 x0 x3 || feq .f32 x0 x3)
   (0, 0)
   (0, 1065353216))
noncomputable def a105 (x0 x1 x2 x3 : Nat) (p : Nat × Nat) : Res := firstT [(true, .agg #[.float .f32 (p.1), .float .f32 (p.2)], st0)]
noncomputable def w105 (x0 x1 x2 x3 : Nat) : Res :=
 (cond (flt .f32 x1 x2)
 (a105 x0 x1 x2 x3 (1065353216, 1065353216))
 (cond (fgt .f32 x0 x3 || feq .f32 x0 x3)
  (a105 x0 x1 x2 x3 (0, 0))
  (a105 x0 x1 x2 x3 (0, 1065353216))))
set_option maxRecDepth 100000 in
set_option maxHeartbeats 4000000 in
theorem e105 (x0 x1 x2 x3 : Nat) : evFn Try.prog ext T60 noL 200 Try.f105 [.agg #[.float .f32 x0, .float .f32 x1], .agg #[.float .f32 x2, .float .f32 x3]] st0 = firstT [(true, .agg #[.float .f32 ((r105 x0 x1 x2 x3).1), .float .f32 ((r105 x0 x1 x2 x3).2)], st0)] :=
 (show evFn Try.prog ext T60 noL 200 Try.f105 [.agg #[.float .f32 x0, .float .f32 x1], .agg #[.float .f32 x2, .float .f32 x3]] st0 = w105 x0 x1 x2 x3 from by kernel_rfl).trans
 (show w105 x0 x1 x2 x3 = a105 x0 x1 x2 x3 (r105 x0 x1 x2 x3) from by unfold w105 r105; exact (cond_app (a105 x0 x1 x2 x3) _ rfl (cond_app (a105 x0 x1 x2 x3) _ rfl rfl)))
noncomputable def s105 (args : List Value) (s : St) : List (Bool × Value × St) :=
 match args, s.h with
 | [.agg ⟨[.float .f32 x0, .float .f32 x1]⟩, .agg ⟨[.float .f32 x2, .float .f32 x3]⟩], [] => [(true, .agg #[.float .f32 ((r105 x0 x1 x2 x3).1), .float .f32 ((r105 x0 x1 x2 x3).2)], st0)]
 | _, _ => T60 105 args s
noncomputable def T61 : CallF := addF T60 105 s105
set_option maxRecDepth 100000 in
set_option maxHeartbeats 4000000 in
theorem ok61 : CfOk Try.prog T61 := by
  refine cfOk_add ok60 fun args s r s' h1 h2 h3 => ?_
  unfold s105 at h3; split at h3
  · rename_i h; exact callOk ok60 Try.func105 h1 h2 h (lfOkF_no _ _).body (e105 _ _ _ _) rfl h3
  · exact ok60 _ _ _ _ _ h1 h2 h3

/-- impl.joinSpans -/
noncomputable def r106 (x0 x1 x2 x3 : Nat) : Nat × Nat :=
 ((r95 x0 x2), (r96 x1 x3))
noncomputable def a106 (x0 x1 x2 x3 : Nat) (p : Nat × Nat) : Res := firstT [(true, .agg #[.float .f32 (p.1), .float .f32 (p.2)], st0)]
noncomputable def w106 (x0 x1 x2 x3 : Nat) : Res :=
 (a106 x0 x1 x2 x3 ((r95 x0 x2), (r96 x1 x3)))
set_option maxRecDepth 100000 in
set_option maxHeartbeats 4000000 in
theorem e106 (x0 x1 x2 x3 : Nat) : evFn Try.prog ext T61 noL 200 Try.f106 [.agg #[.float .f32 x0, .float .f32 x1], .agg #[.float .f32 x2, .float .f32 x3]] st0 = firstT [(true, .agg #[.float .f32 ((r106 x0 x1 x2 x3).1), .float .f32 ((r106 x0 x1 x2 x3).2)], st0)] :=
 (show evFn Try.prog ext T61 noL 200 Try.f106 [.agg #[.float .f32 x0, .float .f32 x1], .agg #[.float .f32 x2, .float .f32 x3]] st0 = w106 x0 x1 x2 x3 from by kernel_rfl).trans
 (show w106 x0 x1 x2 x3 = a106 x0 x1 x2 x3 (r106 x0 x1 x2 x3) from by unfold w106 r106; exact rfl)
noncomputable def s106 (args : List Value) (s : St) : List (Bool × Value × St) :=
 match args, s.h with
 | [.agg ⟨[.float .f32 x0, .float .f32 x1]⟩, .agg ⟨[.float .f32 x2, .float .f32 x3]⟩], [] => [(true, .agg #[.float .f32 ((r106 x0 x1 x2 x3).1), .float .f32 ((r106 x0 x1 x2 x3).2)], st0)]
 | _, _ => T61 106 args s
noncomputable def T62 : CallF := addF T61 106 s106
set_option maxRecDepth 100000 in
set_option maxHeartbeats 4000000 in
theorem ok62 : CfOk Try.prog T62 := by
  refine cfOk_add ok61 fun args s r s' h1 h2 h3 => ?_
  unfold s106 at h3; split at h3
  · rename_i h; exact callOk ok61 Try.func106 h1 h2 h (lfOkF_no _ _).body (e106 _ _ _ _) rfl h3
  · exact ok61 _ _ _ _ _ h1 h2 h3

/-- impl.doSpans -/
noncomputable def r90 (x0 : Int) (x1 x2 x3 : Nat) (x4 : List (List Int)) : Nat × Nat × Nat :=
 let c34 := (r102 (Int.toNat ((x4.getD (x1 + 0) []).getD 0 0)) (Int.toNat ((x4.getD (x1 + 0) []).getD 1 0)) (Int.toNat ((x4.getD (x1 + (Int.toNat (IntKind.i64.wrap (((x2 : Nat) : Int) - 1)))) []).getD 0 0)) (Int.toNat ((x4.getD (x1 + (Int.toNat (IntKind.i64.wrap (((x2 : Nat) : Int) - 1)))) []).getD 1 0)))
 let c35 := (r103 (Int.toNat ((x4.getD (x1 + 0) []).getD 0 0)) (Int.toNat ((x4.getD (x1 + 0) []).getD 1 0)) (Int.toNat ((x4.getD (x1 + (Int.toNat (IntKind.i64.wrap (((x2 : Nat) : Int) - 1)))) []).getD 0 0)) (Int.toNat ((x4.getD (x1 + (Int.toNat (IntKind.i64.wrap (((x2 : Nat) : Int) - 1)))) []).getD 1 0)))
 let c36 := (r104 (Int.toNat ((x4.getD (x1 + 0) []).getD 0 0)) (Int.toNat ((x4.getD (x1 + 0) []).getD 1 0)) (Int.toNat ((x4.getD (x1 + (Int.toNat (IntKind.i64.wrap (((x2 : Nat) : Int) - 1)))) []).getD 0 0)) (Int.toNat ((x4.getD (x1 + (Int.toNat (IntKind.i64.wrap (((x2 : Nat) : Int) - 1)))) []).getD 1 0)))
 let c37 := (r105 (Int.toNat ((x4.getD (x1 + 0) []).getD 0 0)) (Int.toNat ((x4.getD (x1 + 0) []).getD 1 0)) (Int.toNat ((x4.getD (x1 + (Int.toNat (IntKind.i64.wrap (((x2 : Nat) : Int) - 1)))) []).getD 0 0)) (Int.toNat ((x4.getD (x1 + (Int.toNat (IntKind.i64.wrap (((x2 : Nat) : Int) - 1)))) []).getD 1 0)))
 let c38 := (r95 (Int.toNat ((x4.getD (x1 + 0) []).getD 0 0)) (Int.toNat ((x4.getD (x1 + (Int.toNat (IntKind.i64.wrap (((x2 : Nat) : Int) - 1)))) []).getD 0 0)))
 let c39 := (r95 (Int.toNat ((x4.getD (x1 + 0) []).getD 1 0)) (Int.toNat ((x4.getD (x1 + (Int.toNat (IntKind.i64.wrap (((x2 : Nat) : Int) - 1)))) []).getD 1 0)))
 let c40 := (r96 (Int.toNat ((x4.getD (x1 + 0) []).getD 0 0)) (Int.toNat ((x4.getD (x1 + (Int.toNat (IntKind.i64.wrap (((x2 : Nat) : Int) - 1)))) []).getD 0 0)))
 let c41 := (r96 (Int.toNat ((x4.getD (x1 + 0) []).getD 1 0)) (Int.toNat ((x4.getD (x1 + (Int.toNat (IntKind.i64.wrap (((x2 : Nat) : Int) - 1)))) []).getD 1 0)))
 let c42 := (r106 (Int.toNat ((x4.getD (x1 + 1) []).getD 0 0)) (Int.toNat ((x4.getD (x1 + 1) []).getD 1 0)) (Int.toNat ((x4.getD (x1 + (Int.toNat (IntKind.i64.wrap (((x2 : Nat) : Int) - 1)))) []).getD 0 0)) (Int.toNat ((x4.getD (x1 + (Int.toNat (IntKind.i64.wrap (((x2 : Nat) : Int) - 1)))) []).getD 1 0)))
 cond (Nat.blt 0 x2)
  (cond (Nat.blt (x1 + 0) x4.length)
   (cond ((decide ((0 : Int) ≤ (IntKind.i64.wrap (((x2 : Nat) : Int) - 1)))) && (Nat.blt (Int.toNat (IntKind.i64.wrap (((x2 : Nat) : Int) - 1))) x2))
    (cond (Nat.blt (x1 + (Int.toNat (IntKind.i64.wrap (((x2 : Nat) : Int) - 1)))) x4.length)
     (cond ((x0 : Int) == 5)
      (cond (Nat.beq (c34.1) 0)
       (0, (c34.2.1), (c34.2.2))
       (1, 0, 0))
      (cond ((x0 : Int) == 6)
       (cond (Nat.beq (c35.1) 0)
        (0, (c35.2.1), (c35.2.2))
        (1, 0, 0))
       (cond ((x0 : Int) == 7)
        (cond (Nat.beq (c36.1) 0)
         (0, (c36.2.1), (c36.2.2))
         (1, 0, 0))
        (cond ((x0 : Int) == 8)
         (0, (c37.1), (c37.2))
         (cond ((x0 : Int) == 9)
          (0, c38, c39)
          (cond ((x0 : Int) == 10)
           (0, c40, c41)
           (cond ((x0 : Int) == 12)
            (0, (fneg .f32 (Int.toNat ((x4.getD (x1 + 0) []).getD 1 0))), (fneg .f32 (Int.toNat ((x4.getD (x1 + 0) []).getD 0 0))))
            (cond (fgt .f32 (Int.toNat ((x4.getD (x1 + 0) []).getD 0 0)) 0)
             (cond (Nat.blt 1 x2)
              (cond (Nat.blt (x1 + 1) x4.length)
               (0, (Int.toNat ((x4.getD (x1 + 1) []).getD 0 0)), (Int.toNat ((x4.getD (x1 + 1) []).getD 1 0)))
               (1, 0, 0))
              (1, 0, 0))
             (cond (flt .f32 (Int.toNat ((x4.getD (x1 + 0) []).getD 1 0)) 0 || feq .f32 (Int.toNat ((x4.getD (x1 + 0) []).getD 1 0)) 0)
              (0, (Int.toNat ((x4.getD (x1 + (Int.toNat (IntKind.i64.wrap (((x2 : Nat) : Int) - 1)))) []).getD 0 0)), (Int.toNat ((x4.getD (x1 + (Int.toNat (IntKind.i64.wrap (((x2 : Nat) : Int) - 1)))) []).getD 1 0)))
              (cond (Nat.blt 1 x2)
               (cond (Nat.blt (x1 + 1) x4.length)
                (0, (c42.1), (c42.2))
                (1, 0, 0))
               (1, 0, 0)))))))))))
     (1, 0, 0))
    (1, 0, 0))
   (1, 0, 0))
  (1, 0, 0)
noncomputable def a90 (x0 : Int) (x1 x2 x3 : Nat) (x4 : List (List Int)) (p : Nat × Nat × Nat) : Res := firstT [((Nat.beq (p.1) 0), .agg #[.float .f32 (p.2.1), .float .f32 (p.2.2)], ⟨[⟨true, (some (.tab [.fl .f32, .fl .f32] x4))⟩], 1, []⟩)]
noncomputable def w90 (x0 : Int) (x1 x2 x3 : Nat) (x4 : List (List Int)) : Res :=
 let c34 := (r102 (Int.toNat ((x4.getD (x1 + 0) []).getD 0 0)) (Int.toNat ((x4.getD (x1 + 0) []).getD 1 0)) (Int.toNat ((x4.getD (x1 + (Int.toNat (IntKind.i64.wrap (((x2 : Nat) : Int) - 1)))) []).getD 0 0)) (Int.toNat ((x4.getD (x1 + (Int.toNat (IntKind.i64.wrap (((x2 : Nat) : Int) - 1)))) []).getD 1 0)))
 let c35 := (r103 (Int.toNat ((x4.getD (x1 + 0) []).getD 0 0)) (Int.toNat ((x4.getD (x1 + 0) []).getD 1 0)) (Int.toNat ((x4.getD (x1 + (Int.toNat (IntKind.i64.wrap (((x2 : Nat) : Int) - 1)))) []).getD 0 0)) (Int.toNat ((x4.getD (x1 + (Int.toNat (IntKind.i64.wrap (((x2 : Nat) : Int) - 1)))) []).getD 1 0)))
 let c36 := (r104 (Int.toNat ((x4.getD (x1 + 0) []).getD 0 0)) (Int.toNat ((x4.getD (x1 + 0) []).getD 1 0)) (Int.toNat ((x4.getD (x1 + (Int.toNat (IntKind.i64.wrap (((x2 : Nat) : Int) - 1)))) []).getD 0 0)) (Int.toNat ((x4.getD (x1 + (Int.toNat (IntKind.i64.wrap (((x2 : Nat) : Int) - 1)))) []).getD 1 0)))
 let c37 := (r105 (Int.toNat ((x4.getD (x1 + 0) []).getD 0 0)) (Int.toNat ((x4.getD (x1 + 0) []).getD 1 0)) (Int.toNat ((x4.getD (x1 + (Int.toNat (IntKind.i64.wrap (((x2 : Nat) : Int) - 1)))) []).getD 0 0)) (Int.toNat ((x4.getD (x1 + (Int.toNat (IntKind.i64.wrap (((x2 : Nat) : Int) - 1)))) []).getD 1 0)))
 let c38 := (r95 (Int.toNat ((x4.getD (x1 + 0) []).getD 0 0)) (Int.toNat ((x4.getD (x1 + (Int.toNat (IntKind.i64.wrap (((x2 : Nat) : Int) - 1)))) []).getD 0 0)))
 let c39 := (r95 (Int.toNat ((x4.getD (x1 + 0) []).getD 1 0)) (Int.toNat ((x4.getD (x1 + (Int.toNat (IntKind.i64.wrap (((x2 : Nat) : Int) - 1)))) []).getD 1 0)))
 let c40 := (r96 (Int.toNat ((x4.getD (x1 + 0) []).getD 0 0)) (Int.toNat ((x4.getD (x1 + (Int.toNat (IntKind.i64.wrap (((x2 : Nat) : Int) - 1)))) []).getD 0 0)))
 let c41 := (r96 (Int.toNat ((x4.getD (x1 + 0) []).getD 1 0)) (Int.toNat ((x4.getD (x1 + (Int.toNat (IntKind.i64.wrap (((x2 : Nat) : Int) - 1)))) []).getD 1 0)))
 let c42 := (r106 (Int.toNat ((x4.getD (x1 + 1) []).getD 0 0)) (Int.toNat ((x4.getD (x1 + 1) []).getD 1 0)) (Int.toNat ((x4.getD (x1 + (Int.toNat (IntKind.i64.wrap (((x2 : Nat) : Int) - 1)))) []).getD 0 0)) (Int.toNat ((x4.getD (x1 + (Int.toNat (IntKind.i64.wrap (((x2 : Nat) : Int) - 1)))) []).getD 1 0)))
 (cond (Nat.blt 0 x2)
 (cond (Nat.blt (x1 + 0) x4.length)
  (cond ((decide ((0 : Int) ≤ (IntKind.i64.wrap (((x2 : Nat) : Int) - 1)))) && (Nat.blt (Int.toNat (IntKind.i64.wrap (((x2 : Nat) : Int) - 1))) x2))
   (cond (Nat.blt (x1 + (Int.toNat (IntKind.i64.wrap (((x2 : Nat) : Int) - 1)))) x4.length)
    (cond ((x0 : Int) == 5)
     (cond (Nat.beq (c34.1) 0)
      (a90 x0 x1 x2 x3 x4 (0, (c34.2.1), (c34.2.2)))
      none)
     (cond ((x0 : Int) == 6)
      (cond (Nat.beq (c35.1) 0)
       (a90 x0 x1 x2 x3 x4 (0, (c35.2.1), (c35.2.2)))
       none)
      (cond ((x0 : Int) == 7)
       (cond (Nat.beq (c36.1) 0)
        (a90 x0 x1 x2 x3 x4 (0, (c36.2.1), (c36.2.2)))
        none)
       (cond ((x0 : Int) == 8)
        (a90 x0 x1 x2 x3 x4 (0, (c37.1), (c37.2)))
        (cond ((x0 : Int) == 9)
         (a90 x0 x1 x2 x3 x4 (0, c38, c39))
         (cond ((x0 : Int) == 10)
          (a90 x0 x1 x2 x3 x4 (0, c40, c41))
          (cond ((x0 : Int) == 12)
           (a90 x0 x1 x2 x3 x4 (0, (fneg .f32 (Int.toNat ((x4.getD (x1 + 0) []).getD 1 0))), (fneg .f32 (Int.toNat ((x4.getD (x1 + 0) []).getD 0 0)))))
           (cond (fgt .f32 (Int.toNat ((x4.getD (x1 + 0) []).getD 0 0)) 0)
            (cond (Nat.blt 1 x2)
             (cond (Nat.blt (x1 + 1) x4.length)
              (a90 x0 x1 x2 x3 x4 (0, (Int.toNat ((x4.getD (x1 + 1) []).getD 0 0)), (Int.toNat ((x4.getD (x1 + 1) []).getD 1 0))))
              none)
             none)
            (cond (flt .f32 (Int.toNat ((x4.getD (x1 + 0) []).getD 1 0)) 0 || feq .f32 (Int.toNat ((x4.getD (x1 + 0) []).getD 1 0)) 0)
             (a90 x0 x1 x2 x3 x4 (0, (Int.toNat ((x4.getD (x1 + (Int.toNat (IntKind.i64.wrap (((x2 : Nat) : Int) - 1)))) []).getD 0 0)), (Int.toNat ((x4.getD (x1 + (Int.toNat (IntKind.i64.wrap (((x2 : Nat) : Int) - 1)))) []).getD 1 0))))
             (cond (Nat.blt 1 x2)
              (cond (Nat.blt (x1 + 1) x4.length)
               (a90 x0 x1 x2 x3 x4 (0, (c42.1), (c42.2)))
               none)
              none))))))))))
    none)
   none)
  none)
 none)
set_option maxRecDepth 100000 in
set_option maxHeartbeats 4000000 in
theorem e90 (x0 : Int) (x1 x2 x3 : Nat) (x4 : List (List Int)) : evFn Try.prog ext T62 noL 200 Try.f90 [.int .i8 x0, .slice (some ⟨0, x1, some 0⟩) x2 x3] ⟨[⟨true, (some (.tab [.fl .f32, .fl .f32] x4))⟩], 1, []⟩ = firstT [((Nat.beq ((r90 x0 x1 x2 x3 x4).1) 0), .agg #[.float .f32 ((r90 x0 x1 x2 x3 x4).2.1), .float .f32 ((r90 x0 x1 x2 x3 x4).2.2)], ⟨[⟨true, (some (.tab [.fl .f32, .fl .f32] x4))⟩], 1, []⟩)] :=
 (show evFn Try.prog ext T62 noL 200 Try.f90 [.int .i8 x0, .slice (some ⟨0, x1, some 0⟩) x2 x3] ⟨[⟨true, (some (.tab [.fl .f32, .fl .f32] x4))⟩], 1, []⟩ = w90 x0 x1 x2 x3 x4 from by kernel_rfl).trans
 (show w90 x0 x1 x2 x3 x4 = a90 x0 x1 x2 x3 x4 (r90 x0 x1 x2 x3 x4) from by unfold w90 r90; exact (cond_app (a90 x0 x1 x2 x3 x4) _ (cond_app (a90 x0 x1 x2 x3 x4) _ (cond_app (a90 x0 x1 x2 x3 x4) _ (cond_app (a90 x0 x1 x2 x3 x4) _ (cond_app (a90 x0 x1 x2 x3 x4) _ (cond_app (a90 x0 x1 x2 x3 x4) _ rfl rfl) (cond_app (a90 x0 x1 x2 x3 x4) _ (cond_app (a90 x0 x1 x2 x3 x4) _ rfl rfl) (cond_app (a90 x0 x1 x2 x3 x4) _ (cond_app (a90 x0 x1 x2 x3 x4) _ rfl rfl) (cond_app (a90 x0 x1 x2 x3 x4) _ rfl (cond_app (a90 x0 x1 x2 x3 x4) _ rfl (cond_app (a90 x0 x1 x2 x3 x4) _ rfl (cond_app (a90 x0 x1 x2 x3 x4) _ rfl (cond_app (a90 x0 x1 x2 x3 x4) _ (cond_app (a90 x0 x1 x2 x3 x4) _ (cond_app (a90 x0 x1 x2 x3 x4) _ rfl rfl) rfl) (cond_app (a90 x0 x1 x2 x3 x4) _ rfl (cond_app (a90 x0 x1 x2 x3 x4) _ (cond_app (a90 x0 x1 x2 x3 x4) _ rfl rfl) rfl)))))))))) rfl) rfl) rfl) rfl))
noncomputable def s90 (args : List Value) (s : St) : List (Bool × Value × St) :=
 match args, s.h with
 | [.int .i8 x0, .slice (some ⟨f0, x1, some f1⟩) x2 x3], [⟨true, some (.tab [.fl .f32, .fl .f32] x4)⟩] => if f0 = 0 ∧ f1 = 0 then [((Nat.beq ((r90 x0 x1 x2 x3 x4).1) 0), .agg #[.float .f32 ((r90 x0 x1 x2 x3 x4).2.1), .float .f32 ((r90 x0 x1 x2 x3 x4).2.2)], ⟨[⟨true, (some (.tab [.fl .f32, .fl .f32] x4))⟩], 1, []⟩)] else T62 90 args s
 | _, _ => T62 90 args s
noncomputable def T63 : CallF := addF T62 90 s90
set_option maxRecDepth 100000 in
set_option maxHeartbeats 4000000 in
theorem ok63 : CfOk Try.prog T63 := by
  refine cfOk_add ok62 fun args s r s' h1 h2 h3 => ?_
  unfold s90 at h3; split at h3
  · rename_i h; split at h3
    · rename_i hc; obtain ⟨rfl, rfl⟩ := hc; exact callOk ok62 Try.func90 h1 h2 h (lfOkF_no _ _).body (e90 _ _ _ _ _) rfl h3
    · exact ok62 _ _ _ _ _ h1 h2 h3
  · exact ok62 _ _ _ _ _ h1 h2 h3

/-- impl.runOn[impl.Span], loop 0: one round -/
noncomputable def b88l0 (ih : Int → Int → Nat → Nat → Nat → Nat → Nat → Nat → Nat → Nat → List (List Int) → List (List Int) → List (List Int) → (Nat × List (List Int))) (x0 x1 : Int) (x2 x3 x4 x5 x6 x7 x8 x9 : Nat) (x10 x11 x12 : List (List Int)) : Nat × List (List Int) :=
 let c176 := (r90 ((x12.getD (Int.toNat x1) []).getD 0 0) (Int.toNat (IntKind.i64.wrap (((x11.length : Nat) : Int) - ((r53 ((x12.getD (Int.toNat x1) []).getD 0 0)).1)))) (x11.length - (Int.toNat (IntKind.i64.wrap (((x11.length : Nat) : Int) - ((r53 ((x12.getD (Int.toNat x1) []).getD 0 0)).1))))) (x11.length - (Int.toNat (IntKind.i64.wrap (((x11.length : Nat) : Int) - ((r53 ((x12.getD (Int.toNat x1) []).getD 0 0)).1))))) x11)
 cond (decide ((x1 : Int) < x0))
  (cond ((decide ((0 : Int) ≤ x1)) && (Nat.blt (Int.toNat x1) x12.length))
   (cond ((((x12.getD (Int.toNat x1) []).getD 0 0) : Int) == 1)
    (cond (Nat.ble ((x11.length + 1) * 9) 140737488355328)
     (cond (Nat.beq ((ih x0 (IntKind.i64.wrap (x1 + 1)) x2 x3 x4 x5 x6 x7 x8 x9 x10 (((x11.drop 0).take x11.length) ++ ([[(((Int.toNat ((x12.getD (Int.toNat x1) []).getD 2 0)) : Nat) : Int), (((Int.toNat ((x12.getD (Int.toNat x1) []).getD 2 0)) : Nat) : Int)]] : List (List Int))) x12).1) 0)
      (0, [])
      (cond (Nat.beq ((ih x0 (IntKind.i64.wrap (x1 + 1)) x2 x3 x4 x5 x6 x7 x8 x9 x10 (((x11.drop 0).take x11.length) ++ ([[(((Int.toNat ((x12.getD (Int.toNat x1) []).getD 2 0)) : Nat) : Int), (((Int.toNat ((x12.getD (Int.toNat x1) []).getD 2 0)) : Nat) : Int)]] : List (List Int))) x12).1) 1)
       (1, ((ih x0 (IntKind.i64.wrap (x1 + 1)) x2 x3 x4 x5 x6 x7 x8 x9 x10 (((x11.drop 0).take x11.length) ++ ([[(((Int.toNat ((x12.getD (Int.toNat x1) []).getD 2 0)) : Nat) : Int), (((Int.toNat ((x12.getD (Int.toNat x1) []).getD 2 0)) : Nat) : Int)]] : List (List Int))) x12).2))
       (cond (Nat.beq ((ih x0 (IntKind.i64.wrap (x1 + 1)) x2 x3 x4 x5 x6 x7 x8 x9 x10 (((x11.drop 0).take x11.length) ++ ([[(((Int.toNat ((x12.getD (Int.toNat x1) []).getD 2 0)) : Nat) : Int), (((Int.toNat ((x12.getD (Int.toNat x1) []).getD 2 0)) : Nat) : Int)]] : List (List Int))) x12).1) 2)
        (0, [])
        (3, []))))
     (3, []))
    (cond ((((x12.getD (Int.toNat x1) []).getD 0 0) : Int) == 2)
     (cond ((decide ((0 : Int) ≤ ((x12.getD (Int.toNat x1) []).getD 1 0))) && (Nat.blt (Int.toNat ((x12.getD (Int.toNat x1) []).getD 1 0)) 4))
      (cond (Nat.beq (0 + (Int.toNat ((x12.getD (Int.toNat x1) []).getD 1 0)) * 2) 0)
       (cond (Nat.ble ((x11.length + 1) * 9) 140737488355328)
        (cond (Nat.beq ((ih x0 (IntKind.i64.wrap (x1 + 1)) x2 x3 x4 x5 x6 x7 x8 x9 x10 (((x11.drop 0).take x11.length) ++ ([[((x2 : Nat) : Int), ((x3 : Nat) : Int)]] : List (List Int))) x12).1) 0)
         (0, [])
         (cond (Nat.beq ((ih x0 (IntKind.i64.wrap (x1 + 1)) x2 x3 x4 x5 x6 x7 x8 x9 x10 (((x11.drop 0).take x11.length) ++ ([[((x2 : Nat) : Int), ((x3 : Nat) : Int)]] : List (List Int))) x12).1) 1)
          (1, ((ih x0 (IntKind.i64.wrap (x1 + 1)) x2 x3 x4 x5 x6 x7 x8 x9 x10 (((x11.drop 0).take x11.length) ++ ([[((x2 : Nat) : Int), ((x3 : Nat) : Int)]] : List (List Int))) x12).2))
          (cond (Nat.beq ((ih x0 (IntKind.i64.wrap (x1 + 1)) x2 x3 x4 x5 x6 x7 x8 x9 x10 (((x11.drop 0).take x11.length) ++ ([[((x2 : Nat) : Int), ((x3 : Nat) : Int)]] : List (List Int))) x12).1) 2)
           (0, [])
           (3, []))))
        (3, []))
       (cond (Nat.beq (0 + (Int.toNat ((x12.getD (Int.toNat x1) []).getD 1 0)) * 2) 1)
        (cond (Nat.ble ((x11.length + 1) * 9) 140737488355328)
         (cond (Nat.beq ((ih x0 (IntKind.i64.wrap (x1 + 1)) x2 x3 x4 x5 x6 x7 x8 x9 x10 (((x11.drop 0).take x11.length) ++ ([[((x3 : Nat) : Int), ((x4 : Nat) : Int)]] : List (List Int))) x12).1) 0)
          (0, [])
          (cond (Nat.beq ((ih x0 (IntKind.i64.wrap (x1 + 1)) x2 x3 x4 x5 x6 x7 x8 x9 x10 (((x11.drop 0).take x11.length) ++ ([[((x3 : Nat) : Int), ((x4 : Nat) : Int)]] : List (List Int))) x12).1) 1)
           (1, ((ih x0 (IntKind.i64.wrap (x1 + 1)) x2 x3 x4 x5 x6 x7 x8 x9 x10 (((x11.drop 0).take x11.length) ++ ([[((x3 : Nat) : Int), ((x4 : Nat) : Int)]] : List (List Int))) x12).2))
           (cond (Nat.beq ((ih x0 (IntKind.i64.wrap (x1 + 1)) x2 x3 x4 x5 x6 x7 x8 x9 x10 (((x11.drop 0).take x11.length) ++ ([[((x3 : Nat) : Int), ((x4 : Nat) : Int)]] : List (List Int))) x12).1) 2)
            (0, [])
            (3, []))))
         (3, []))
        (cond (Nat.beq (0 + (Int.toNat ((x12.getD (Int.toNat x1) []).getD 1 0)) * 2) 2)
         (cond (Nat.ble ((x11.length + 1) * 9) 140737488355328)
          (cond (Nat.beq ((ih x0 (IntKind.i64.wrap (x1 + 1)) x2 x3 x4 x5 x6 x7 x8 x9 x10 (((x11.drop 0).take x11.length) ++ ([[((x4 : Nat) : Int), ((x5 : Nat) : Int)]] : List (List Int))) x12).1) 0)
           (0, [])
           (cond (Nat.beq ((ih x0 (IntKind.i64.wrap (x1 + 1)) x2 x3 x4 x5 x6 x7 x8 x9 x10 (((x11.drop 0).take x11.length) ++ ([[((x4 : Nat) : Int), ((x5 : Nat) : Int)]] : List (List Int))) x12).1) 1)
            (1, ((ih x0 (IntKind.i64.wrap (x1 + 1)) x2 x3 x4 x5 x6 x7 x8 x9 x10 (((x11.drop 0).take x11.length) ++ ([[((x4 : Nat) : Int), ((x5 : Nat) : Int)]] : List (List Int))) x12).2))
            (cond (Nat.beq ((ih x0 (IntKind.i64.wrap (x1 + 1)) x2 x3 x4 x5 x6 x7 x8 x9 x10 (((x11.drop 0).take x11.length) ++ ([[((x4 : Nat) : Int), ((x5 : Nat) : Int)]] : List (List Int))) x12).1) 2)
             (0, [])
             (3, []))))
          (3, []))
         (cond (Nat.beq (0 + (Int.toNat ((x12.getD (Int.toNat x1) []).getD 1 0)) * 2) 3)
          (cond (Nat.ble ((x11.length + 1) * 9) 140737488355328)
           (cond (Nat.beq ((ih x0 (IntKind.i64.wrap (x1 + 1)) x2 x3 x4 x5 x6 x7 x8 x9 x10 (((x11.drop 0).take x11.length) ++ ([[((x5 : Nat) : Int), ((x6 : Nat) : Int)]] : List (List Int))) x12).1) 0)
            (0, [])
            (cond (Nat.beq ((ih x0 (IntKind.i64.wrap (x1 + 1)) x2 x3 x4 x5 x6 x7 x8 x9 x10 (((x11.drop 0).take x11.length) ++ ([[((x5 : Nat) : Int), ((x6 : Nat) : Int)]] : List (List Int))) x12).1) 1)
             (1, ((ih x0 (IntKind.i64.wrap (x1 + 1)) x2 x3 x4 x5 x6 x7 x8 x9 x10 (((x11.drop 0).take x11.length) ++ ([[((x5 : Nat) : Int), ((x6 : Nat) : Int)]] : List (List Int))) x12).2))
             (cond (Nat.beq ((ih x0 (IntKind.i64.wrap (x1 + 1)) x2 x3 x4 x5 x6 x7 x8 x9 x10 (((x11.drop 0).take x11.length) ++ ([[((x5 : Nat) : Int), ((x6 : Nat) : Int)]] : List (List Int))) x12).1) 2)
              (0, [])
              (3, []))))
           (3, []))
          (cond (Nat.beq (0 + (Int.toNat ((x12.getD (Int.toNat x1) []).getD 1 0)) * 2) 4)
           (cond (Nat.ble ((x11.length + 1) * 9) 140737488355328)
            (cond (Nat.beq ((ih x0 (IntKind.i64.wrap (x1 + 1)) x2 x3 x4 x5 x6 x7 x8 x9 x10 (((x11.drop 0).take x11.length) ++ ([[((x6 : Nat) : Int), ((x7 : Nat) : Int)]] : List (List Int))) x12).1) 0)
             (0, [])
             (cond (Nat.beq ((ih x0 (IntKind.i64.wrap (x1 + 1)) x2 x3 x4 x5 x6 x7 x8 x9 x10 (((x11.drop 0).take x11.length) ++ ([[((x6 : Nat) : Int), ((x7 : Nat) : Int)]] : List (List Int))) x12).1) 1)
              (1, ((ih x0 (IntKind.i64.wrap (x1 + 1)) x2 x3 x4 x5 x6 x7 x8 x9 x10 (((x11.drop 0).take x11.length) ++ ([[((x6 : Nat) : Int), ((x7 : Nat) : Int)]] : List (List Int))) x12).2))
              (cond (Nat.beq ((ih x0 (IntKind.i64.wrap (x1 + 1)) x2 x3 x4 x5 x6 x7 x8 x9 x10 (((x11.drop 0).take x11.length) ++ ([[((x6 : Nat) : Int), ((x7 : Nat) : Int)]] : List (List Int))) x12).1) 2)
               (0, [])
               (3, []))))
            (3, []))
           (cond (Nat.beq (0 + (Int.toNat ((x12.getD (Int.toNat x1) []).getD 1 0)) * 2) 5)
            (cond (Nat.ble ((x11.length + 1) * 9) 140737488355328)
             (cond (Nat.beq ((ih x0 (IntKind.i64.wrap (x1 + 1)) x2 x3 x4 x5 x6 x7 x8 x9 x10 (((x11.drop 0).take x11.length) ++ ([[((x7 : Nat) : Int), ((x8 : Nat) : Int)]] : List (List Int))) x12).1) 0)
              (0, [])
              (cond (Nat.beq ((ih x0 (IntKind.i64.wrap (x1 + 1)) x2 x3 x4 x5 x6 x7 x8 x9 x10 (((x11.drop 0).take x11.length) ++ ([[((x7 : Nat) : Int), ((x8 : Nat) : Int)]] : List (List Int))) x12).1) 1)
               (1, ((ih x0 (IntKind.i64.wrap (x1 + 1)) x2 x3 x4 x5 x6 x7 x8 x9 x10 (((x11.drop 0).take x11.length) ++ ([[((x7 : Nat) : Int), ((x8 : Nat) : Int)]] : List (List Int))) x12).2))
               (cond (Nat.beq ((ih x0 (IntKind.i64.wrap (x1 + 1)) x2 x3 x4 x5 x6 x7 x8 x9 x10 (((x11.drop 0).take x11.length) ++ ([[((x7 : Nat) : Int), ((x8 : Nat) : Int)]] : List (List Int))) x12).1) 2)
                (0, [])
                (3, []))))
             (3, []))
            (cond (Nat.beq (0 + (Int.toNat ((x12.getD (Int.toNat x1) []).getD 1 0)) * 2) 6)
             (cond (Nat.ble ((x11.length + 1) * 9) 140737488355328)
              (cond (Nat.beq ((ih x0 (IntKind.i64.wrap (x1 + 1)) x2 x3 x4 x5 x6 x7 x8 x9 x10 (((x11.drop 0).take x11.length) ++ ([[((x8 : Nat) : Int), ((x9 : Nat) : Int)]] : List (List Int))) x12).1) 0)
               (0, [])
               (cond (Nat.beq ((ih x0 (IntKind.i64.wrap (x1 + 1)) x2 x3 x4 x5 x6 x7 x8 x9 x10 (((x11.drop 0).take x11.length) ++ ([[((x8 : Nat) : Int), ((x9 : Nat) : Int)]] : List (List Int))) x12).1) 1)
                (1, ((ih x0 (IntKind.i64.wrap (x1 + 1)) x2 x3 x4 x5 x6 x7 x8 x9 x10 (((x11.drop 0).take x11.length) ++ ([[((x8 : Nat) : Int), ((x9 : Nat) : Int)]] : List (List Int))) x12).2))
                (cond (Nat.beq ((ih x0 (IntKind.i64.wrap (x1 + 1)) x2 x3 x4 x5 x6 x7 x8 x9 x10 (((x11.drop 0).take x11.length) ++ ([[((x8 : Nat) : Int), ((x9 : Nat) : Int)]] : List (List Int))) x12).1) 2)
                 (0, [])
                 (3, []))))
              (3, []))
             (3, []))))))))
      (3, []))
     (cond ((((x12.getD (Int.toNat x1) []).getD 0 0) : Int) == 3)
      (cond ((decide ((0 : Int) ≤ ((x12.getD (Int.toNat x1) []).getD 1 0))) && (Nat.blt (Int.toNat ((x12.getD (Int.toNat x1) []).getD 1 0)) x10.length))
       (cond (Nat.ble ((x11.length + 1) * 9) 140737488355328)
        (cond (Nat.beq ((ih x0 (IntKind.i64.wrap (x1 + 1)) x2 x3 x4 x5 x6 x7 x8 x9 x10 (((x11.drop 0).take x11.length) ++ ([[(((Int.toNat ((x10.getD (Int.toNat ((x12.getD (Int.toNat x1) []).getD 1 0)) []).getD 0 0)) : Nat) : Int), (((Int.toNat ((x10.getD (Int.toNat ((x12.getD (Int.toNat x1) []).getD 1 0)) []).getD 1 0)) : Nat) : Int)]] : List (List Int))) x12).1) 0)
         (0, [])
         (cond (Nat.beq ((ih x0 (IntKind.i64.wrap (x1 + 1)) x2 x3 x4 x5 x6 x7 x8 x9 x10 (((x11.drop 0).take x11.length) ++ ([[(((Int.toNat ((x10.getD (Int.toNat ((x12.getD (Int.toNat x1) []).getD 1 0)) []).getD 0 0)) : Nat) : Int), (((Int.toNat ((x10.getD (Int.toNat ((x12.getD (Int.toNat x1) []).getD 1 0)) []).getD 1 0)) : Nat) : Int)]] : List (List Int))) x12).1) 1)
          (1, ((ih x0 (IntKind.i64.wrap (x1 + 1)) x2 x3 x4 x5 x6 x7 x8 x9 x10 (((x11.drop 0).take x11.length) ++ ([[(((Int.toNat ((x10.getD (Int.toNat ((x12.getD (Int.toNat x1) []).getD 1 0)) []).getD 0 0)) : Nat) : Int), (((Int.toNat ((x10.getD (Int.toNat ((x12.getD (Int.toNat x1) []).getD 1 0)) []).getD 1 0)) : Nat) : Int)]] : List (List Int))) x12).2))
          (cond (Nat.beq ((ih x0 (IntKind.i64.wrap (x1 + 1)) x2 x3 x4 x5 x6 x7 x8 x9 x10 (((x11.drop 0).take x11.length) ++ ([[(((Int.toNat ((x10.getD (Int.toNat ((x12.getD (Int.toNat x1) []).getD 1 0)) []).getD 0 0)) : Nat) : Int), (((Int.toNat ((x10.getD (Int.toNat ((x12.getD (Int.toNat x1) []).getD 1 0)) []).getD 1 0)) : Nat) : Int)]] : List (List Int))) x12).1) 2)
           (0, [])
           (3, []))))
        (3, []))
       (3, []))
      (cond ((Nat.blt (Int.toNat (IntKind.i64.wrap (((x11.length : Nat) : Int) - ((r53 ((x12.getD (Int.toNat x1) []).getD 0 0)).1)))) x11.length) && (((decide ((0 : Int) ≤ (IntKind.i64.wrap (((x11.length : Nat) : Int) - ((r53 ((x12.getD (Int.toNat x1) []).getD 0 0)).1))))) && (Nat.ble (Int.toNat (IntKind.i64.wrap (((x11.length : Nat) : Int) - ((r53 ((x12.getD (Int.toNat x1) []).getD 0 0)).1)))) x11.length)) && (Nat.ble x11.length x11.length)))
       (cond ((((x12.getD (Int.toNat x1) []).getD 0 0) : Int) == 4)
        (cond (Nat.blt 0 (x11.length - (Int.toNat (IntKind.i64.wrap (((x11.length : Nat) : Int) - ((r53 ((x12.getD (Int.toNat x1) []).getD 0 0)).1))))))
         (cond (Nat.blt ((Int.toNat (IntKind.i64.wrap (((x11.length : Nat) : Int) - ((r53 ((x12.getD (Int.toNat x1) []).getD 0 0)).1)))) + 0) x11.length)
          (cond (Nat.ble ((x10.length + 1) * 9) 140737488355328)
           (cond ((Nat.blt 0 x11.length) && (Nat.ble 0 x11.length))
            (cond (Nat.beq ((ih x0 (IntKind.i64.wrap (x1 + 1)) x2 x3 x4 x5 x6 x7 x8 x9 (((x10.drop 0).take x10.length) ++ ([[(((Int.toNat ((x11.getD ((Int.toNat (IntKind.i64.wrap (((x11.length : Nat) : Int) - ((r53 ((x12.getD (Int.toNat x1) []).getD 0 0)).1)))) + 0) []).getD 0 0)) : Nat) : Int), (((Int.toNat ((x11.getD ((Int.toNat (IntKind.i64.wrap (((x11.length : Nat) : Int) - ((r53 ((x12.getD (Int.toNat x1) []).getD 0 0)).1)))) + 0) []).getD 1 0)) : Nat) : Int)]] : List (List Int))) ([] : List (List Int)) x12).1) 0)
             (1, (((x10.drop 0).take x10.length) ++ ([[(((Int.toNat ((x11.getD ((Int.toNat (IntKind.i64.wrap (((x11.length : Nat) : Int) - ((r53 ((x12.getD (Int.toNat x1) []).getD 0 0)).1)))) + 0) []).getD 0 0)) : Nat) : Int), (((Int.toNat ((x11.getD ((Int.toNat (IntKind.i64.wrap (((x11.length : Nat) : Int) - ((r53 ((x12.getD (Int.toNat x1) []).getD 0 0)).1)))) + 0) []).getD 1 0)) : Nat) : Int)]] : List (List Int))))
             (cond (Nat.beq ((ih x0 (IntKind.i64.wrap (x1 + 1)) x2 x3 x4 x5 x6 x7 x8 x9 (((x10.drop 0).take x10.length) ++ ([[(((Int.toNat ((x11.getD ((Int.toNat (IntKind.i64.wrap (((x11.length : Nat) : Int) - ((r53 ((x12.getD (Int.toNat x1) []).getD 0 0)).1)))) + 0) []).getD 0 0)) : Nat) : Int), (((Int.toNat ((x11.getD ((Int.toNat (IntKind.i64.wrap (((x11.length : Nat) : Int) - ((r53 ((x12.getD (Int.toNat x1) []).getD 0 0)).1)))) + 0) []).getD 1 0)) : Nat) : Int)]] : List (List Int))) ([] : List (List Int)) x12).1) 1)
              (1, ((ih x0 (IntKind.i64.wrap (x1 + 1)) x2 x3 x4 x5 x6 x7 x8 x9 (((x10.drop 0).take x10.length) ++ ([[(((Int.toNat ((x11.getD ((Int.toNat (IntKind.i64.wrap (((x11.length : Nat) : Int) - ((r53 ((x12.getD (Int.toNat x1) []).getD 0 0)).1)))) + 0) []).getD 0 0)) : Nat) : Int), (((Int.toNat ((x11.getD ((Int.toNat (IntKind.i64.wrap (((x11.length : Nat) : Int) - ((r53 ((x12.getD (Int.toNat x1) []).getD 0 0)).1)))) + 0) []).getD 1 0)) : Nat) : Int)]] : List (List Int))) ([] : List (List Int)) x12).2))
              (cond (Nat.beq ((ih x0 (IntKind.i64.wrap (x1 + 1)) x2 x3 x4 x5 x6 x7 x8 x9 (((x10.drop 0).take x10.length) ++ ([[(((Int.toNat ((x11.getD ((Int.toNat (IntKind.i64.wrap (((x11.length : Nat) : Int) - ((r53 ((x12.getD (Int.toNat x1) []).getD 0 0)).1)))) + 0) []).getD 0 0)) : Nat) : Int), (((Int.toNat ((x11.getD ((Int.toNat (IntKind.i64.wrap (((x11.length : Nat) : Int) - ((r53 ((x12.getD (Int.toNat x1) []).getD 0 0)).1)))) + 0) []).getD 1 0)) : Nat) : Int)]] : List (List Int))) ([] : List (List Int)) x12).1) 2)
               (1, (((x10.drop 0).take x10.length) ++ ([[(((Int.toNat ((x11.getD ((Int.toNat (IntKind.i64.wrap (((x11.length : Nat) : Int) - ((r53 ((x12.getD (Int.toNat x1) []).getD 0 0)).1)))) + 0) []).getD 0 0)) : Nat) : Int), (((Int.toNat ((x11.getD ((Int.toNat (IntKind.i64.wrap (((x11.length : Nat) : Int) - ((r53 ((x12.getD (Int.toNat x1) []).getD 0 0)).1)))) + 0) []).getD 1 0)) : Nat) : Int)]] : List (List Int))))
               (3, []))))
            (3, []))
           (3, []))
          (3, []))
         (3, []))
        (cond (Nat.beq (c176.1) 0)
         (cond ((Nat.blt 0 x11.length) && (((decide ((0 : Int) ≤ (IntKind.i64.wrap (((x11.length : Nat) : Int) - ((r53 ((x12.getD (Int.toNat x1) []).getD 0 0)).1))))) && (Nat.ble 0 (Int.toNat (IntKind.i64.wrap (((x11.length : Nat) : Int) - ((r53 ((x12.getD (Int.toNat x1) []).getD 0 0)).1)))))) && (Nat.ble (Int.toNat (IntKind.i64.wrap (((x11.length : Nat) : Int) - ((r53 ((x12.getD (Int.toNat x1) []).getD 0 0)).1)))) x11.length)))
          (cond ((Nat.ble (Int.toNat (IntKind.i64.wrap (((x11.length : Nat) : Int) - ((r53 ((x12.getD (Int.toNat x1) []).getD 0 0)).1)))) x11.length) && (Nat.ble (((Int.toNat (IntKind.i64.wrap (((x11.length : Nat) : Int) - ((r53 ((x12.getD (Int.toNat x1) []).getD 0 0)).1)))) + 1) * 9) 140737488355328))
           (cond (Nat.beq ((ih x0 (IntKind.i64.wrap (x1 + 1)) x2 x3 x4 x5 x6 x7 x8 x9 x10 (((x11.drop 0).take (Int.toNat (IntKind.i64.wrap (((x11.length : Nat) : Int) - ((r53 ((x12.getD (Int.toNat x1) []).getD 0 0)).1))))) ++ ([[(((c176.2.1) : Nat) : Int), (((c176.2.2) : Nat) : Int)]] : List (List Int))) x12).1) 0)
            (0, [])
            (cond (Nat.beq ((ih x0 (IntKind.i64.wrap (x1 + 1)) x2 x3 x4 x5 x6 x7 x8 x9 x10 (((x11.drop 0).take (Int.toNat (IntKind.i64.wrap (((x11.length : Nat) : Int) - ((r53 ((x12.getD (Int.toNat x1) []).getD 0 0)).1))))) ++ ([[(((c176.2.1) : Nat) : Int), (((c176.2.2) : Nat) : Int)]] : List (List Int))) x12).1) 1)
             (1, ((ih x0 (IntKind.i64.wrap (x1 + 1)) x2 x3 x4 x5 x6 x7 x8 x9 x10 (((x11.drop 0).take (Int.toNat (IntKind.i64.wrap (((x11.length : Nat) : Int) - ((r53 ((x12.getD (Int.toNat x1) []).getD 0 0)).1))))) ++ ([[(((c176.2.1) : Nat) : Int), (((c176.2.2) : Nat) : Int)]] : List (List Int))) x12).2))
             (cond (Nat.beq ((ih x0 (IntKind.i64.wrap (x1 + 1)) x2 x3 x4 x5 x6 x7 x8 x9 x10 (((x11.drop 0).take (Int.toNat (IntKind.i64.wrap (((x11.length : Nat) : Int) - ((r53 ((x12.getD (Int.toNat x1) []).getD 0 0)).1))))) ++ ([[(((c176.2.1) : Nat) : Int), (((c176.2.2) : Nat) : Int)]] : List (List Int))) x12).1) 2)
              (0, [])
              (3, []))))
           (3, []))
          (3, []))
         (3, [])))
       (3, [])))))
   (3, []))
  (2, [])
noncomputable def r88l0 : Nat → Int → Int → Nat → Nat → Nat → Nat → Nat → Nat → Nat → Nat → List (List Int) → List (List Int) → List (List Int) → (Nat × List (List Int))
 | 0 => fun _ _ _ _ _ _ _ _ _ _ _ _ _ => (3, [])
 | m + 1 => b88l0 (r88l0 m)
noncomputable def a88l0 (x0 x1 : Int) (x2 x3 x4 x5 x6 x7 x8 x9 : Nat) (x10 x11 x12 : List (List Int)) (p : Nat × List (List Int)) : Option (Fin' × List Value × St) := firstT ([((Nat.beq (p.1) 0), .exit 0, [wsl 1], ⟨[⟨true, (some (.cells [.float .f32 x2, .float .f32 x3, .float .f32 x4, .float .f32 x5, .float .f32 x6, .float .f32 x7, .float .f32 x8, .float .f32 x9]))⟩, ⟨true, (some (.tab [.fl .f32, .fl .f32] x10))⟩, ⟨true, none⟩, ⟨true, (some (.tab [.int .i8, .int .i16, .fl .f32] x12))⟩], 4, [1, 2]⟩), ((Nat.beq (p.1) 1), .exit 0, [wsl 4], ⟨[⟨true, (some (.cells [.float .f32 x2, .float .f32 x3, .float .f32 x4, .float .f32 x5, .float .f32 x6, .float .f32 x7, .float .f32 x8, .float .f32 x9]))⟩, ⟨true, none⟩, ⟨true, none⟩, ⟨true, (some (.tab [.int .i8, .int .i16, .fl .f32] x12))⟩, ⟨true, (some (.tab [.fl .f32, .fl .f32] (p.2)))⟩], 4, [1, 2]⟩), ((Nat.beq (p.1) 2), .exit 0, [wsl 1], ⟨[⟨true, (some (.cells [.float .f32 x2, .float .f32 x3, .float .f32 x4, .float .f32 x5, .float .f32 x6, .float .f32 x7, .float .f32 x8, .float .f32 x9]))⟩, ⟨true, (some (.tab [.fl .f32, .fl .f32] x10))⟩, ⟨true, (some (.tab [.fl .f32, .fl .f32] x11))⟩, ⟨true, (some (.tab [.int .i8, .int .i16, .fl .f32] x12))⟩], 4, [1, 2]⟩)].map fun (b, x) => (b, (x.1, frameOf 95 [9] x.2.1, x.2.2)))
noncomputable def u88l0 (x0 x1 : Int) (x2 x3 x4 x5 x6 x7 x8 x9 : Nat) (x10 x11 x12 : List (List Int)) (p : Nat × List (List Int)) : Option (Fin' × List Value × St) := alts ([((Nat.beq (p.1) 0), .exit 0, [wsl 1], ⟨[⟨true, (some (.cells [.float .f32 x2, .float .f32 x3, .float .f32 x4, .float .f32 x5, .float .f32 x6, .float .f32 x7, .float .f32 x8, .float .f32 x9]))⟩, ⟨true, (some (.tab [.fl .f32, .fl .f32] x10))⟩, ⟨true, none⟩, ⟨true, (some (.tab [.int .i8, .int .i16, .fl .f32] x12))⟩], 4, [1, 2]⟩), ((Nat.beq (p.1) 1), .exit 0, [wsl 4], ⟨[⟨true, (some (.cells [.float .f32 x2, .float .f32 x3, .float .f32 x4, .float .f32 x5, .float .f32 x6, .float .f32 x7, .float .f32 x8, .float .f32 x9]))⟩, ⟨true, none⟩, ⟨true, none⟩, ⟨true, (some (.tab [.int .i8, .int .i16, .fl .f32] x12))⟩, ⟨true, (some (.tab [.fl .f32, .fl .f32] (p.2)))⟩], 4, [1, 2]⟩), ((Nat.beq (p.1) 2), .exit 0, [wsl 1], ⟨[⟨true, (some (.cells [.float .f32 x2, .float .f32 x3, .float .f32 x4, .float .f32 x5, .float .f32 x6, .float .f32 x7, .float .f32 x8, .float .f32 x9]))⟩, ⟨true, (some (.tab [.fl .f32, .fl .f32] x10))⟩, ⟨true, (some (.tab [.fl .f32, .fl .f32] x11))⟩, ⟨true, (some (.tab [.int .i8, .int .i16, .fl .f32] x12))⟩], 4, [1, 2]⟩)].map fun (b, x) => (b, (x.1, frameOf 95 [9] x.2.1, x.2.2))) some
theorem v88l0 (x0 x1 : Int) (x2 x3 x4 x5 x6 x7 x8 x9 : Nat) (x10 x11 x12 : List (List Int)) (p : Nat × List (List Int)) : u88l0 x0 x1 x2 x3 x4 x5 x6 x7 x8 x9 x10 x11 x12 p = a88l0 x0 x1 x2 x3 x4 x5 x6 x7 x8 x9 x10 x11 x12 p := alts_first _
noncomputable def q88l0 (m : Nat) : SumK := fun vals s =>
 match vals, s.h with
 | [.func (.func f0) ⟨[]⟩ ⟨[]⟩, .func (.func f1) ⟨[]⟩ ⟨[]⟩, .pointer (some ⟨f2, f3, some f4⟩), .iface f5 .nilIface, .iface f6 .nilIface, .iface f7 .nilIface, .int .i64 x0, .int .i64 x1], [⟨true, some (.cells [.float .f32 x2, .float .f32 x3, .float .f32 x4, .float .f32 x5, .float .f32 x6, .float .f32 x7, .float .f32 x8, .float .f32 x9])⟩, ⟨true, some (.tab [.fl .f32, .fl .f32] x10)⟩, ⟨true, some (.tab [.fl .f32, .fl .f32] x11)⟩, ⟨true, some (.tab [.int .i8, .int .i16, .fl .f32] x12)⟩] => if f0 = 89 ∧ f1 = 90 ∧ f2 = 0 ∧ f3 = 0 ∧ f4 = 0 ∧ f5 = 1 ∧ f6 = 2 ∧ f7 = 3 then [((Nat.beq ((r88l0 m x0 x1 x2 x3 x4 x5 x6 x7 x8 x9 x10 x11 x12).1) 0), .exit 0, [wsl 1], ⟨[⟨true, (some (.cells [.float .f32 x2, .float .f32 x3, .float .f32 x4, .float .f32 x5, .float .f32 x6, .float .f32 x7, .float .f32 x8, .float .f32 x9]))⟩, ⟨true, (some (.tab [.fl .f32, .fl .f32] x10))⟩, ⟨true, none⟩, ⟨true, (some (.tab [.int .i8, .int .i16, .fl .f32] x12))⟩], 4, [1, 2]⟩), ((Nat.beq ((r88l0 m x0 x1 x2 x3 x4 x5 x6 x7 x8 x9 x10 x11 x12).1) 1), .exit 0, [wsl 4], ⟨[⟨true, (some (.cells [.float .f32 x2, .float .f32 x3, .float .f32 x4, .float .f32 x5, .float .f32 x6, .float .f32 x7, .float .f32 x8, .float .f32 x9]))⟩, ⟨true, none⟩, ⟨true, none⟩, ⟨true, (some (.tab [.int .i8, .int .i16, .fl .f32] x12))⟩, ⟨true, (some (.tab [.fl .f32, .fl .f32] ((r88l0 m x0 x1 x2 x3 x4 x5 x6 x7 x8 x9 x10 x11 x12).2)))⟩], 4, [1, 2]⟩), ((Nat.beq ((r88l0 m x0 x1 x2 x3 x4 x5 x6 x7 x8 x9 x10 x11 x12).1) 2), .exit 0, [wsl 1], ⟨[⟨true, (some (.cells [.float .f32 x2, .float .f32 x3, .float .f32 x4, .float .f32 x5, .float .f32 x6, .float .f32 x7, .float .f32 x8, .float .f32 x9]))⟩, ⟨true, (some (.tab [.fl .f32, .fl .f32] x10))⟩, ⟨true, (some (.tab [.fl .f32, .fl .f32] x11))⟩, ⟨true, (some (.tab [.int .i8, .int .i16, .fl .f32] x12))⟩], 4, [1, 2]⟩)] else noQ vals s
 | _, _ => noQ vals s
noncomputable def w88l0 (ih : Int → Int → Nat → Nat → Nat → Nat → Nat → Nat → Nat → Nat → List (List Int) → List (List Int) → List (List Int) → (Nat × List (List Int))) (x0 x1 : Int) (x2 x3 x4 x5 x6 x7 x8 x9 : Nat) (x10 x11 x12 : List (List Int)) : Option (Fin' × List Value × St) :=
 let c176 := (r90 ((x12.getD (Int.toNat x1) []).getD 0 0) (Int.toNat (IntKind.i64.wrap (((x11.length : Nat) : Int) - ((r53 ((x12.getD (Int.toNat x1) []).getD 0 0)).1)))) (x11.length - (Int.toNat (IntKind.i64.wrap (((x11.length : Nat) : Int) - ((r53 ((x12.getD (Int.toNat x1) []).getD 0 0)).1))))) (x11.length - (Int.toNat (IntKind.i64.wrap (((x11.length : Nat) : Int) - ((r53 ((x12.getD (Int.toNat x1) []).getD 0 0)).1))))) x11)
 (cond (decide ((x1 : Int) < x0))
 (cond ((decide ((0 : Int) ≤ x1)) && (Nat.blt (Int.toNat x1) x12.length))
  (cond (Nat.blt (Int.toNat x1) x12.length)
   (cond ((((x12.getD (Int.toNat x1) []).getD 0 0) : Int) == 1)
    (cond (Nat.ble ((x11.length + 1) * 9) 140737488355328)
     (cond (Nat.beq ((ih x0 (IntKind.i64.wrap (x1 + 1)) x2 x3 x4 x5 x6 x7 x8 x9 x10 (((x11.drop 0).take x11.length) ++ ([[(((Int.toNat ((x12.getD (Int.toNat x1) []).getD 2 0)) : Nat) : Int), (((Int.toNat ((x12.getD (Int.toNat x1) []).getD 2 0)) : Nat) : Int)]] : List (List Int))) x12).1) 0)
      (a88l0 x0 x1 x2 x3 x4 x5 x6 x7 x8 x9 x10 x11 x12 (0, []))
      (cond (Nat.beq ((ih x0 (IntKind.i64.wrap (x1 + 1)) x2 x3 x4 x5 x6 x7 x8 x9 x10 (((x11.drop 0).take x11.length) ++ ([[(((Int.toNat ((x12.getD (Int.toNat x1) []).getD 2 0)) : Nat) : Int), (((Int.toNat ((x12.getD (Int.toNat x1) []).getD 2 0)) : Nat) : Int)]] : List (List Int))) x12).1) 1)
       (a88l0 x0 x1 x2 x3 x4 x5 x6 x7 x8 x9 x10 x11 x12 (1, ((ih x0 (IntKind.i64.wrap (x1 + 1)) x2 x3 x4 x5 x6 x7 x8 x9 x10 (((x11.drop 0).take x11.length) ++ ([[(((Int.toNat ((x12.getD (Int.toNat x1) []).getD 2 0)) : Nat) : Int), (((Int.toNat ((x12.getD (Int.toNat x1) []).getD 2 0)) : Nat) : Int)]] : List (List Int))) x12).2)))
       (cond (Nat.beq ((ih x0 (IntKind.i64.wrap (x1 + 1)) x2 x3 x4 x5 x6 x7 x8 x9 x10 (((x11.drop 0).take x11.length) ++ ([[(((Int.toNat ((x12.getD (Int.toNat x1) []).getD 2 0)) : Nat) : Int), (((Int.toNat ((x12.getD (Int.toNat x1) []).getD 2 0)) : Nat) : Int)]] : List (List Int))) x12).1) 2)
        (a88l0 x0 x1 x2 x3 x4 x5 x6 x7 x8 x9 x10 x11 x12 (0, []))
        none)))
     none)
    (cond ((((x12.getD (Int.toNat x1) []).getD 0 0) : Int) == 2)
     (cond ((decide ((0 : Int) ≤ ((x12.getD (Int.toNat x1) []).getD 1 0))) && (Nat.blt (Int.toNat ((x12.getD (Int.toNat x1) []).getD 1 0)) 4))
      (cond (Nat.beq (0 + (Int.toNat ((x12.getD (Int.toNat x1) []).getD 1 0)) * 2) 0)
       (cond (Nat.ble ((x11.length + 1) * 9) 140737488355328)
        (cond (Nat.beq ((ih x0 (IntKind.i64.wrap (x1 + 1)) x2 x3 x4 x5 x6 x7 x8 x9 x10 (((x11.drop 0).take x11.length) ++ ([[((x2 : Nat) : Int), ((x3 : Nat) : Int)]] : List (List Int))) x12).1) 0)
         (a88l0 x0 x1 x2 x3 x4 x5 x6 x7 x8 x9 x10 x11 x12 (0, []))
         (cond (Nat.beq ((ih x0 (IntKind.i64.wrap (x1 + 1)) x2 x3 x4 x5 x6 x7 x8 x9 x10 (((x11.drop 0).take x11.length) ++ ([[((x2 : Nat) : Int), ((x3 : Nat) : Int)]] : List (List Int))) x12).1) 1)
          (a88l0 x0 x1 x2 x3 x4 x5 x6 x7 x8 x9 x10 x11 x12 (1, ((ih x0 (IntKind.i64.wrap (x1 + 1)) x2 x3 x4 x5 x6 x7 x8 x9 x10 (((x11.drop 0).take x11.length) ++ ([[((x2 : Nat) : Int), ((x3 : Nat) : Int)]] : List (List Int))) x12).2)))
          (cond (Nat.beq ((ih x0 (IntKind.i64.wrap (x1 + 1)) x2 x3 x4 x5 x6 x7 x8 x9 x10 (((x11.drop 0).take x11.length) ++ ([[((x2 : Nat) : Int), ((x3 : Nat) : Int)]] : List (List Int))) x12).1) 2)
           (a88l0 x0 x1 x2 x3 x4 x5 x6 x7 x8 x9 x10 x11 x12 (0, []))
           none)))
        none)
       (cond (Nat.beq (0 + (Int.toNat ((x12.getD (Int.toNat x1) []).getD 1 0)) * 2) 1)
        (cond (Nat.ble ((x11.length + 1) * 9) 140737488355328)
         (cond (Nat.beq ((ih x0 (IntKind.i64.wrap (x1 + 1)) x2 x3 x4 x5 x6 x7 x8 x9 x10 (((x11.drop 0).take x11.length) ++ ([[((x3 : Nat) : Int), ((x4 : Nat) : Int)]] : List (List Int))) x12).1) 0)
          (a88l0 x0 x1 x2 x3 x4 x5 x6 x7 x8 x9 x10 x11 x12 (0, []))
          (cond (Nat.beq ((ih x0 (IntKind.i64.wrap (x1 + 1)) x2 x3 x4 x5 x6 x7 x8 x9 x10 (((x11.drop 0).take x11.length) ++ ([[((x3 : Nat) : Int), ((x4 : Nat) : Int)]] : List (List Int))) x12).1) 1)
           (a88l0 x0 x1 x2 x3 x4 x5 x6 x7 x8 x9 x10 x11 x12 (1, ((ih x0 (IntKind.i64.wrap (x1 + 1)) x2 x3 x4 x5 x6 x7 x8 x9 x10 (((x11.drop 0).take x11.length) ++ ([[((x3 : Nat) : Int), ((x4 : Nat) : Int)]] : List (List Int))) x12).2)))
           (cond (Nat.beq ((ih x0 (IntKind.i64.wrap (x1 + 1)) x2 x3 x4 x5 x6 x7 x8 x9 x10 (((x11.drop 0).take x11.length) ++ ([[((x3 : Nat) : Int), ((x4 : Nat) : Int)]] : List (List Int))) x12).1) 2)
            (a88l0 x0 x1 x2 x3 x4 x5 x6 x7 x8 x9 x10 x11 x12 (0, []))
            none)))
         none)
        (cond (Nat.beq (0 + (Int.toNat ((x12.getD (Int.toNat x1) []).getD 1 0)) * 2) 2)
         (cond (Nat.ble ((x11.length + 1) * 9) 140737488355328)
          (cond (Nat.beq ((ih x0 (IntKind.i64.wrap (x1 + 1)) x2 x3 x4 x5 x6 x7 x8 x9 x10 (((x11.drop 0).take x11.length) ++ ([[((x4 : Nat) : Int), ((x5 : Nat) : Int)]] : List (List Int))) x12).1) 0)
           (a88l0 x0 x1 x2 x3 x4 x5 x6 x7 x8 x9 x10 x11 x12 (0, []))
           (cond (Nat.beq ((ih x0 (IntKind.i64.wrap (x1 + 1)) x2 x3 x4 x5 x6 x7 x8 x9 x10 (((x11.drop 0).take x11.length) ++ ([[((x4 : Nat) : Int), ((x5 : Nat) : Int)]] : List (List Int))) x12).1) 1)
            (a88l0 x0 x1 x2 x3 x4 x5 x6 x7 x8 x9 x10 x11 x12 (1, ((ih x0 (IntKind.i64.wrap (x1 + 1)) x2 x3 x4 x5 x6 x7 x8 x9 x10 (((x11.drop 0).take x11.length) ++ ([[((x4 : Nat) : Int), ((x5 : Nat) : Int)]] : List (List Int))) x12).2)))
            (cond (Nat.beq ((ih x0 (IntKind.i64.wrap (x1 + 1)) x2 x3 x4 x5 x6 x7 x8 x9 x10 (((x11.drop 0).take x11.length) ++ ([[((x4 : Nat) : Int), ((x5 : Nat) : Int)]] : List (List Int))) x12).1) 2)
             (a88l0 x0 x1 x2 x3 x4 x5 x6 x7 x8 x9 x10 x11 x12 (0, []))
             none)))
          none)
         (cond (Nat.beq (0 + (Int.toNat ((x12.getD (Int.toNat x1) []).getD 1 0)) * 2) 3)
          (cond (Nat.ble ((x11.length + 1) * 9) 140737488355328)
           (cond (Nat.beq ((ih x0 (IntKind.i64.wrap (x1 + 1)) x2 x3 x4 x5 x6 x7 x8 x9 x10 (((x11.drop 0).take x11.length) ++ ([[((x5 : Nat) : Int), ((x6 : Nat) : Int)]] : List (List Int))) x12).1) 0)
            (a88l0 x0 x1 x2 x3 x4 x5 x6 x7 x8 x9 x10 x11 x12 (0, []))
            (cond (Nat.beq ((ih x0 (IntKind.i64.wrap (x1 + 1)) x2 x3 x4 x5 x6 x7 x8 x9 x10 (((x11.drop 0).take x11.length) ++ ([[((x5 : Nat) : Int), ((x6 : Nat) : Int)]] : List (List Int))) x12).1) 1)
             (a88l0 x0 x1 x2 x3 x4 x5 x6 x7 x8 x9 x10 x11 x12 (1, ((ih x0 (IntKind.i64.wrap (x1 + 1)) x2 x3 x4 x5 x6 x7 x8 x9 x10 (((x11.drop 0).take x11.length) ++ ([[((x5 : Nat) : Int), ((x6 : Nat) : Int)]] : List (List Int))) x12).2)))
             (cond (Nat.beq ((ih x0 (IntKind.i64.wrap (x1 + 1)) x2 x3 x4 x5 x6 x7 x8 x9 x10 (((x11.drop 0).take x11.length) ++ ([[((x5 : Nat) : Int), ((x6 : Nat) : Int)]] : List (List Int))) x12).1) 2)
              (a88l0 x0 x1 x2 x3 x4 x5 x6 x7 x8 x9 x10 x11 x12 (0, []))
              none)))
           none)
          (cond (Nat.beq (0 + (Int.toNat ((x12.getD (Int.toNat x1) []).getD 1 0)) * 2) 4)
           (cond (Nat.ble ((x11.length + 1) * 9) 140737488355328)
            (cond (Nat.beq ((ih x0 (IntKind.i64.wrap (x1 + 1)) x2 x3 x4 x5 x6 x7 x8 x9 x10 (((x11.drop 0).take x11.length) ++ ([[((x6 : Nat) : Int), ((x7 : Nat) : Int)]] : List (List Int))) x12).1) 0)
             (a88l0 x0 x1 x2 x3 x4 x5 x6 x7 x8 x9 x10 x11 x12 (0, []))
             (cond (Nat.beq ((ih x0 (IntKind.i64.wrap (x1 + 1)) x2 x3 x4 x5 x6 x7 x8 x9 x10 (((x11.drop 0).take x11.length) ++ ([[((x6 : Nat) : Int), ((x7 : Nat) : Int)]] : List (List Int))) x12).1) 1)
              (a88l0 x0 x1 x2 x3 x4 x5 x6 x7 x8 x9 x10 x11 x12 (1, ((ih x0 (IntKind.i64.wrap (x1 + 1)) x2 x3 x4 x5 x6 x7 x8 x9 x10 (((x11.drop 0).take x11.length) ++ ([[((x6 : Nat) : Int), ((x7 : Nat) : Int)]] : List (List Int))) x12).2)))
              (cond (Nat.beq ((ih x0 (IntKind.i64.wrap (x1 + 1)) x2 x3 x4 x5 x6 x7 x8 x9 x10 (((x11.drop 0).take x11.length) ++ ([[((x6 : Nat) : Int), ((x7 : Nat) : Int)]] : List (List Int))) x12).1) 2)
               (a88l0 x0 x1 x2 x3 x4 x5 x6 x7 x8 x9 x10 x11 x12 (0, []))
               none)))
            none)
           (cond (Nat.beq (0 + (Int.toNat ((x12.getD (Int.toNat x1) []).getD 1 0)) * 2) 5)
            (cond (Nat.ble ((x11.length + 1) * 9) 140737488355328)
             (cond (Nat.beq ((ih x0 (IntKind.i64.wrap (x1 + 1)) x2 x3 x4 x5 x6 x7 x8 x9 x10 (((x11.drop 0).take x11.length) ++ ([[((x7 : Nat) : Int), ((x8 : Nat) : Int)]] : List (List Int))) x12).1) 0)
              (a88l0 x0 x1 x2 x3 x4 x5 x6 x7 x8 x9 x10 x11 x12 (0, []))
              (cond (Nat.beq ((ih x0 (IntKind.i64.wrap (x1 + 1)) x2 x3 x4 x5 x6 x7 x8 x9 x10 (((x11.drop 0).take x11.length) ++ ([[((x7 : Nat) : Int), ((x8 : Nat) : Int)]] : List (List Int))) x12).1) 1)
               (a88l0 x0 x1 x2 x3 x4 x5 x6 x7 x8 x9 x10 x11 x12 (1, ((ih x0 (IntKind.i64.wrap (x1 + 1)) x2 x3 x4 x5 x6 x7 x8 x9 x10 (((x11.drop 0).take x11.length) ++ ([[((x7 : Nat) : Int), ((x8 : Nat) : Int)]] : List (List Int))) x12).2)))
               (cond (Nat.beq ((ih x0 (IntKind.i64.wrap (x1 + 1)) x2 x3 x4 x5 x6 x7 x8 x9 x10 (((x11.drop 0).take x11.length) ++ ([[((x7 : Nat) : Int), ((x8 : Nat) : Int)]] : List (List Int))) x12).1) 2)
                (a88l0 x0 x1 x2 x3 x4 x5 x6 x7 x8 x9 x10 x11 x12 (0, []))
                none)))
             none)
            (cond (Nat.beq (0 + (Int.toNat ((x12.getD (Int.toNat x1) []).getD 1 0)) * 2) 6)
             (cond (Nat.ble ((x11.length + 1) * 9) 140737488355328)
              (cond (Nat.beq ((ih x0 (IntKind.i64.wrap (x1 + 1)) x2 x3 x4 x5 x6 x7 x8 x9 x10 (((x11.drop 0).take x11.length) ++ ([[((x8 : Nat) : Int), ((x9 : Nat) : Int)]] : List (List Int))) x12).1) 0)
               (a88l0 x0 x1 x2 x3 x4 x5 x6 x7 x8 x9 x10 x11 x12 (0, []))
               (cond (Nat.beq ((ih x0 (IntKind.i64.wrap (x1 + 1)) x2 x3 x4 x5 x6 x7 x8 x9 x10 (((x11.drop 0).take x11.length) ++ ([[((x8 : Nat) : Int), ((x9 : Nat) : Int)]] : List (List Int))) x12).1) 1)
                (a88l0 x0 x1 x2 x3 x4 x5 x6 x7 x8 x9 x10 x11 x12 (1, ((ih x0 (IntKind.i64.wrap (x1 + 1)) x2 x3 x4 x5 x6 x7 x8 x9 x10 (((x11.drop 0).take x11.length) ++ ([[((x8 : Nat) : Int), ((x9 : Nat) : Int)]] : List (List Int))) x12).2)))
                (cond (Nat.beq ((ih x0 (IntKind.i64.wrap (x1 + 1)) x2 x3 x4 x5 x6 x7 x8 x9 x10 (((x11.drop 0).take x11.length) ++ ([[((x8 : Nat) : Int), ((x9 : Nat) : Int)]] : List (List Int))) x12).1) 2)
                 (a88l0 x0 x1 x2 x3 x4 x5 x6 x7 x8 x9 x10 x11 x12 (0, []))
                 none)))
              none)
             none)))))))
      none)
     (cond ((((x12.getD (Int.toNat x1) []).getD 0 0) : Int) == 3)
      (cond ((decide ((0 : Int) ≤ ((x12.getD (Int.toNat x1) []).getD 1 0))) && (Nat.blt (Int.toNat ((x12.getD (Int.toNat x1) []).getD 1 0)) x10.length))
       (cond (Nat.blt (Int.toNat ((x12.getD (Int.toNat x1) []).getD 1 0)) x10.length)
        (cond (Nat.ble ((x11.length + 1) * 9) 140737488355328)
         (cond (Nat.beq ((ih x0 (IntKind.i64.wrap (x1 + 1)) x2 x3 x4 x5 x6 x7 x8 x9 x10 (((x11.drop 0).take x11.length) ++ ([[(((Int.toNat ((x10.getD (Int.toNat ((x12.getD (Int.toNat x1) []).getD 1 0)) []).getD 0 0)) : Nat) : Int), (((Int.toNat ((x10.getD (Int.toNat ((x12.getD (Int.toNat x1) []).getD 1 0)) []).getD 1 0)) : Nat) : Int)]] : List (List Int))) x12).1) 0)
          (a88l0 x0 x1 x2 x3 x4 x5 x6 x7 x8 x9 x10 x11 x12 (0, []))
          (cond (Nat.beq ((ih x0 (IntKind.i64.wrap (x1 + 1)) x2 x3 x4 x5 x6 x7 x8 x9 x10 (((x11.drop 0).take x11.length) ++ ([[(((Int.toNat ((x10.getD (Int.toNat ((x12.getD (Int.toNat x1) []).getD 1 0)) []).getD 0 0)) : Nat) : Int), (((Int.toNat ((x10.getD (Int.toNat ((x12.getD (Int.toNat x1) []).getD 1 0)) []).getD 1 0)) : Nat) : Int)]] : List (List Int))) x12).1) 1)
           (a88l0 x0 x1 x2 x3 x4 x5 x6 x7 x8 x9 x10 x11 x12 (1, ((ih x0 (IntKind.i64.wrap (x1 + 1)) x2 x3 x4 x5 x6 x7 x8 x9 x10 (((x11.drop 0).take x11.length) ++ ([[(((Int.toNat ((x10.getD (Int.toNat ((x12.getD (Int.toNat x1) []).getD 1 0)) []).getD 0 0)) : Nat) : Int), (((Int.toNat ((x10.getD (Int.toNat ((x12.getD (Int.toNat x1) []).getD 1 0)) []).getD 1 0)) : Nat) : Int)]] : List (List Int))) x12).2)))
           (cond (Nat.beq ((ih x0 (IntKind.i64.wrap (x1 + 1)) x2 x3 x4 x5 x6 x7 x8 x9 x10 (((x11.drop 0).take x11.length) ++ ([[(((Int.toNat ((x10.getD (Int.toNat ((x12.getD (Int.toNat x1) []).getD 1 0)) []).getD 0 0)) : Nat) : Int), (((Int.toNat ((x10.getD (Int.toNat ((x12.getD (Int.toNat x1) []).getD 1 0)) []).getD 1 0)) : Nat) : Int)]] : List (List Int))) x12).1) 2)
            (a88l0 x0 x1 x2 x3 x4 x5 x6 x7 x8 x9 x10 x11 x12 (0, []))
            none)))
         none)
        none)
       none)
      (cond ((Nat.blt (Int.toNat (IntKind.i64.wrap (((x11.length : Nat) : Int) - ((r53 ((x12.getD (Int.toNat x1) []).getD 0 0)).1)))) x11.length) && (((decide ((0 : Int) ≤ (IntKind.i64.wrap (((x11.length : Nat) : Int) - ((r53 ((x12.getD (Int.toNat x1) []).getD 0 0)).1))))) && (Nat.ble (Int.toNat (IntKind.i64.wrap (((x11.length : Nat) : Int) - ((r53 ((x12.getD (Int.toNat x1) []).getD 0 0)).1)))) x11.length)) && (Nat.ble x11.length x11.length)))
       (cond ((((x12.getD (Int.toNat x1) []).getD 0 0) : Int) == 4)
        (cond (Nat.blt 0 (x11.length - (Int.toNat (IntKind.i64.wrap (((x11.length : Nat) : Int) - ((r53 ((x12.getD (Int.toNat x1) []).getD 0 0)).1))))))
         (cond (Nat.blt ((Int.toNat (IntKind.i64.wrap (((x11.length : Nat) : Int) - ((r53 ((x12.getD (Int.toNat x1) []).getD 0 0)).1)))) + 0) x11.length)
          (cond (Nat.ble ((x10.length + 1) * 9) 140737488355328)
           (cond ((Nat.blt 0 x11.length) && (Nat.ble 0 x11.length))
            (cond (Nat.ble 0 x11.length)
             (cond (Nat.beq ((ih x0 (IntKind.i64.wrap (x1 + 1)) x2 x3 x4 x5 x6 x7 x8 x9 (((x10.drop 0).take x10.length) ++ ([[(((Int.toNat ((x11.getD ((Int.toNat (IntKind.i64.wrap (((x11.length : Nat) : Int) - ((r53 ((x12.getD (Int.toNat x1) []).getD 0 0)).1)))) + 0) []).getD 0 0)) : Nat) : Int), (((Int.toNat ((x11.getD ((Int.toNat (IntKind.i64.wrap (((x11.length : Nat) : Int) - ((r53 ((x12.getD (Int.toNat x1) []).getD 0 0)).1)))) + 0) []).getD 1 0)) : Nat) : Int)]] : List (List Int))) ([] : List (List Int)) x12).1) 0)
              (a88l0 x0 x1 x2 x3 x4 x5 x6 x7 x8 x9 x10 x11 x12 (1, (((x10.drop 0).take x10.length) ++ ([[(((Int.toNat ((x11.getD ((Int.toNat (IntKind.i64.wrap (((x11.length : Nat) : Int) - ((r53 ((x12.getD (Int.toNat x1) []).getD 0 0)).1)))) + 0) []).getD 0 0)) : Nat) : Int), (((Int.toNat ((x11.getD ((Int.toNat (IntKind.i64.wrap (((x11.length : Nat) : Int) - ((r53 ((x12.getD (Int.toNat x1) []).getD 0 0)).1)))) + 0) []).getD 1 0)) : Nat) : Int)]] : List (List Int)))))
              (cond (Nat.beq ((ih x0 (IntKind.i64.wrap (x1 + 1)) x2 x3 x4 x5 x6 x7 x8 x9 (((x10.drop 0).take x10.length) ++ ([[(((Int.toNat ((x11.getD ((Int.toNat (IntKind.i64.wrap (((x11.length : Nat) : Int) - ((r53 ((x12.getD (Int.toNat x1) []).getD 0 0)).1)))) + 0) []).getD 0 0)) : Nat) : Int), (((Int.toNat ((x11.getD ((Int.toNat (IntKind.i64.wrap (((x11.length : Nat) : Int) - ((r53 ((x12.getD (Int.toNat x1) []).getD 0 0)).1)))) + 0) []).getD 1 0)) : Nat) : Int)]] : List (List Int))) ([] : List (List Int)) x12).1) 1)
               (a88l0 x0 x1 x2 x3 x4 x5 x6 x7 x8 x9 x10 x11 x12 (1, ((ih x0 (IntKind.i64.wrap (x1 + 1)) x2 x3 x4 x5 x6 x7 x8 x9 (((x10.drop 0).take x10.length) ++ ([[(((Int.toNat ((x11.getD ((Int.toNat (IntKind.i64.wrap (((x11.length : Nat) : Int) - ((r53 ((x12.getD (Int.toNat x1) []).getD 0 0)).1)))) + 0) []).getD 0 0)) : Nat) : Int), (((Int.toNat ((x11.getD ((Int.toNat (IntKind.i64.wrap (((x11.length : Nat) : Int) - ((r53 ((x12.getD (Int.toNat x1) []).getD 0 0)).1)))) + 0) []).getD 1 0)) : Nat) : Int)]] : List (List Int))) ([] : List (List Int)) x12).2)))
               (cond (Nat.beq ((ih x0 (IntKind.i64.wrap (x1 + 1)) x2 x3 x4 x5 x6 x7 x8 x9 (((x10.drop 0).take x10.length) ++ ([[(((Int.toNat ((x11.getD ((Int.toNat (IntKind.i64.wrap (((x11.length : Nat) : Int) - ((r53 ((x12.getD (Int.toNat x1) []).getD 0 0)).1)))) + 0) []).getD 0 0)) : Nat) : Int), (((Int.toNat ((x11.getD ((Int.toNat (IntKind.i64.wrap (((x11.length : Nat) : Int) - ((r53 ((x12.getD (Int.toNat x1) []).getD 0 0)).1)))) + 0) []).getD 1 0)) : Nat) : Int)]] : List (List Int))) ([] : List (List Int)) x12).1) 2)
                (a88l0 x0 x1 x2 x3 x4 x5 x6 x7 x8 x9 x10 x11 x12 (1, (((x10.drop 0).take x10.length) ++ ([[(((Int.toNat ((x11.getD ((Int.toNat (IntKind.i64.wrap (((x11.length : Nat) : Int) - ((r53 ((x12.getD (Int.toNat x1) []).getD 0 0)).1)))) + 0) []).getD 0 0)) : Nat) : Int), (((Int.toNat ((x11.getD ((Int.toNat (IntKind.i64.wrap (((x11.length : Nat) : Int) - ((r53 ((x12.getD (Int.toNat x1) []).getD 0 0)).1)))) + 0) []).getD 1 0)) : Nat) : Int)]] : List (List Int)))))
                none)))
             none)
            none)
           none)
          none)
         none)
        (cond (Nat.beq (c176.1) 0)
         (cond ((Nat.blt 0 x11.length) && (((decide ((0 : Int) ≤ (IntKind.i64.wrap (((x11.length : Nat) : Int) - ((r53 ((x12.getD (Int.toNat x1) []).getD 0 0)).1))))) && (Nat.ble 0 (Int.toNat (IntKind.i64.wrap (((x11.length : Nat) : Int) - ((r53 ((x12.getD (Int.toNat x1) []).getD 0 0)).1)))))) && (Nat.ble (Int.toNat (IntKind.i64.wrap (((x11.length : Nat) : Int) - ((r53 ((x12.getD (Int.toNat x1) []).getD 0 0)).1)))) x11.length)))
          (cond ((Nat.ble (Int.toNat (IntKind.i64.wrap (((x11.length : Nat) : Int) - ((r53 ((x12.getD (Int.toNat x1) []).getD 0 0)).1)))) x11.length) && (Nat.ble (((Int.toNat (IntKind.i64.wrap (((x11.length : Nat) : Int) - ((r53 ((x12.getD (Int.toNat x1) []).getD 0 0)).1)))) + 1) * 9) 140737488355328))
           (cond (Nat.beq ((ih x0 (IntKind.i64.wrap (x1 + 1)) x2 x3 x4 x5 x6 x7 x8 x9 x10 (((x11.drop 0).take (Int.toNat (IntKind.i64.wrap (((x11.length : Nat) : Int) - ((r53 ((x12.getD (Int.toNat x1) []).getD 0 0)).1))))) ++ ([[(((c176.2.1) : Nat) : Int), (((c176.2.2) : Nat) : Int)]] : List (List Int))) x12).1) 0)
            (a88l0 x0 x1 x2 x3 x4 x5 x6 x7 x8 x9 x10 x11 x12 (0, []))
            (cond (Nat.beq ((ih x0 (IntKind.i64.wrap (x1 + 1)) x2 x3 x4 x5 x6 x7 x8 x9 x10 (((x11.drop 0).take (Int.toNat (IntKind.i64.wrap (((x11.length : Nat) : Int) - ((r53 ((x12.getD (Int.toNat x1) []).getD 0 0)).1))))) ++ ([[(((c176.2.1) : Nat) : Int), (((c176.2.2) : Nat) : Int)]] : List (List Int))) x12).1) 1)
             (a88l0 x0 x1 x2 x3 x4 x5 x6 x7 x8 x9 x10 x11 x12 (1, ((ih x0 (IntKind.i64.wrap (x1 + 1)) x2 x3 x4 x5 x6 x7 x8 x9 x10 (((x11.drop 0).take (Int.toNat (IntKind.i64.wrap (((x11.length : Nat) : Int) - ((r53 ((x12.getD (Int.toNat x1) []).getD 0 0)).1))))) ++ ([[(((c176.2.1) : Nat) : Int), (((c176.2.2) : Nat) : Int)]] : List (List Int))) x12).2)))
             (cond (Nat.beq ((ih x0 (IntKind.i64.wrap (x1 + 1)) x2 x3 x4 x5 x6 x7 x8 x9 x10 (((x11.drop 0).take (Int.toNat (IntKind.i64.wrap (((x11.length : Nat) : Int) - ((r53 ((x12.getD (Int.toNat x1) []).getD 0 0)).1))))) ++ ([[(((c176.2.1) : Nat) : Int), (((c176.2.2) : Nat) : Int)]] : List (List Int))) x12).1) 2)
              (a88l0 x0 x1 x2 x3 x4 x5 x6 x7 x8 x9 x10 x11 x12 (0, []))
              none)))
           none)
          none)
         none))
       none))))
   none)
  none)
 (a88l0 x0 x1 x2 x3 x4 x5 x6 x7 x8 x9 x10 x11 x12 (2, [])))
set_option maxRecDepth 100000 in
set_option maxHeartbeats 4000000 in
theorem e88l0 (m : Nat) (x0 x1 : Int) (x2 x3 x4 x5 x6 x7 x8 x9 : Nat) (x10 x11 x12 : List (List Int)) : evC Try.prog ext T63 noL 200 (loopN Try.f88 0) (loopTail ([2, 3, 5, 9, 10, 20, 21, 22], [10]) [9] [1, 2] (sumK 95 [2, 3, 5, 9, 10, 20, 21, 22] [9] (q88l0 m))) (frameOf 95 [2, 3, 5, 9, 10, 20, 21, 22] [.func (.func 89) #[] #[], .func (.func 90) #[] #[], .pointer (some ⟨0, 0, some 0⟩), wsl 1, wsl 2, wsl 3, .int .i64 x0, .int .i64 x1]) ⟨[⟨true, (some (.cells [.float .f32 x2, .float .f32 x3, .float .f32 x4, .float .f32 x5, .float .f32 x6, .float .f32 x7, .float .f32 x8, .float .f32 x9]))⟩, ⟨true, (some (.tab [.fl .f32, .fl .f32] x10))⟩, ⟨true, (some (.tab [.fl .f32, .fl .f32] x11))⟩, ⟨true, (some (.tab [.int .i8, .int .i16, .fl .f32] x12))⟩], 4, []⟩ = firstT ([((Nat.beq ((r88l0 (m + 1) x0 x1 x2 x3 x4 x5 x6 x7 x8 x9 x10 x11 x12).1) 0), .exit 0, [wsl 1], ⟨[⟨true, (some (.cells [.float .f32 x2, .float .f32 x3, .float .f32 x4, .float .f32 x5, .float .f32 x6, .float .f32 x7, .float .f32 x8, .float .f32 x9]))⟩, ⟨true, (some (.tab [.fl .f32, .fl .f32] x10))⟩, ⟨true, none⟩, ⟨true, (some (.tab [.int .i8, .int .i16, .fl .f32] x12))⟩], 4, [1, 2]⟩), ((Nat.beq ((r88l0 (m + 1) x0 x1 x2 x3 x4 x5 x6 x7 x8 x9 x10 x11 x12).1) 1), .exit 0, [wsl 4], ⟨[⟨true, (some (.cells [.float .f32 x2, .float .f32 x3, .float .f32 x4, .float .f32 x5, .float .f32 x6, .float .f32 x7, .float .f32 x8, .float .f32 x9]))⟩, ⟨true, none⟩, ⟨true, none⟩, ⟨true, (some (.tab [.int .i8, .int .i16, .fl .f32] x12))⟩, ⟨true, (some (.tab [.fl .f32, .fl .f32] ((r88l0 (m + 1) x0 x1 x2 x3 x4 x5 x6 x7 x8 x9 x10 x11 x12).2)))⟩], 4, [1, 2]⟩), ((Nat.beq ((r88l0 (m + 1) x0 x1 x2 x3 x4 x5 x6 x7 x8 x9 x10 x11 x12).1) 2), .exit 0, [wsl 1], ⟨[⟨true, (some (.cells [.float .f32 x2, .float .f32 x3, .float .f32 x4, .float .f32 x5, .float .f32 x6, .float .f32 x7, .float .f32 x8, .float .f32 x9]))⟩, ⟨true, (some (.tab [.fl .f32, .fl .f32] x10))⟩, ⟨true, (some (.tab [.fl .f32, .fl .f32] x11))⟩, ⟨true, (some (.tab [.int .i8, .int .i16, .fl .f32] x12))⟩], 4, [1, 2]⟩)].map fun (b, x) => (b, (x.1, frameOf 95 [9] x.2.1, x.2.2))) :=
 (show evC Try.prog ext T63 noL 200 (loopN Try.f88 0) (loopTail ([2, 3, 5, 9, 10, 20, 21, 22], [10]) [9] [1, 2] (sumK 95 [2, 3, 5, 9, 10, 20, 21, 22] [9] (q88l0 m))) (frameOf 95 [2, 3, 5, 9, 10, 20, 21, 22] [.func (.func 89) #[] #[], .func (.func 90) #[] #[], .pointer (some ⟨0, 0, some 0⟩), wsl 1, wsl 2, wsl 3, .int .i64 x0, .int .i64 x1]) ⟨[⟨true, (some (.cells [.float .f32 x2, .float .f32 x3, .float .f32 x4, .float .f32 x5, .float .f32 x6, .float .f32 x7, .float .f32 x8, .float .f32 x9]))⟩, ⟨true, (some (.tab [.fl .f32, .fl .f32] x10))⟩, ⟨true, (some (.tab [.fl .f32, .fl .f32] x11))⟩, ⟨true, (some (.tab [.int .i8, .int .i16, .fl .f32] x12))⟩], 4, []⟩ = w88l0 (r88l0 m) x0 x1 x2 x3 x4 x5 x6 x7 x8 x9 x10 x11 x12 from by kernel_rfl).trans
 (show w88l0 (r88l0 m) x0 x1 x2 x3 x4 x5 x6 x7 x8 x9 x10 x11 x12 = a88l0 x0 x1 x2 x3 x4 x5 x6 x7 x8 x9 x10 x11 x12 (r88l0 (m + 1) x0 x1 x2 x3 x4 x5 x6 x7 x8 x9 x10 x11 x12) from by unfold w88l0; show _ = a88l0 x0 x1 x2 x3 x4 x5 x6 x7 x8 x9 x10 x11 x12 (b88l0 (r88l0 m) x0 x1 x2 x3 x4 x5 x6 x7 x8 x9 x10 x11 x12); unfold b88l0; exact (cond_both (a88l0 x0 x1 x2 x3 x4 x5 x6 x7 x8 x9 x10 x11 x12) _ (fun h0 => (cond_both (a88l0 x0 x1 x2 x3 x4 x5 x6 x7 x8 x9 x10 x11 x12) _ (fun h1 => (cond_t (ev_and2 h1) (cond_both (a88l0 x0 x1 x2 x3 x4 x5 x6 x7 x8 x9 x10 x11 x12) _ (fun h2 => (cond_app (a88l0 x0 x1 x2 x3 x4 x5 x6 x7 x8 x9 x10 x11 x12) _ (cond_app (a88l0 x0 x1 x2 x3 x4 x5 x6 x7 x8 x9 x10 x11 x12) _ rfl (cond_app (a88l0 x0 x1 x2 x3 x4 x5 x6 x7 x8 x9 x10 x11 x12) _ rfl (cond_app (a88l0 x0 x1 x2 x3 x4 x5 x6 x7 x8 x9 x10 x11 x12) _ rfl rfl))) rfl)) (fun h2 => (cond_both (a88l0 x0 x1 x2 x3 x4 x5 x6 x7 x8 x9 x10 x11 x12) _ (fun h3 => (cond_app (a88l0 x0 x1 x2 x3 x4 x5 x6 x7 x8 x9 x10 x11 x12) _ (cond_app (a88l0 x0 x1 x2 x3 x4 x5 x6 x7 x8 x9 x10 x11 x12) _ (cond_app (a88l0 x0 x1 x2 x3 x4 x5 x6 x7 x8 x9 x10 x11 x12) _ (cond_app (a88l0 x0 x1 x2 x3 x4 x5 x6 x7 x8 x9 x10 x11 x12) _ rfl (cond_app (a88l0 x0 x1 x2 x3 x4 x5 x6 x7 x8 x9 x10 x11 x12) _ rfl (cond_app (a88l0 x0 x1 x2 x3 x4 x5 x6 x7 x8 x9 x10 x11 x12) _ rfl rfl))) rfl) (cond_app (a88l0 x0 x1 x2 x3 x4 x5 x6 x7 x8 x9 x10 x11 x12) _ (cond_app (a88l0 x0 x1 x2 x3 x4 x5 x6 x7 x8 x9 x10 x11 x12) _ (cond_app (a88l0 x0 x1 x2 x3 x4 x5 x6 x7 x8 x9 x10 x11 x12) _ rfl (cond_app (a88l0 x0 x1 x2 x3 x4 x5 x6 x7 x8 x9 x10 x11 x12) _ rfl (cond_app (a88l0 x0 x1 x2 x3 x4 x5 x6 x7 x8 x9 x10 x11 x12) _ rfl rfl))) rfl) (cond_app (a88l0 x0 x1 x2 x3 x4 x5 x6 x7 x8 x9 x10 x11 x12) _ (cond_app (a88l0 x0 x1 x2 x3 x4 x5 x6 x7 x8 x9 x10 x11 x12) _ (cond_app (a88l0 x0 x1 x2 x3 x4 x5 x6 x7 x8 x9 x10 x11 x12) _ rfl (cond_app (a88l0 x0 x1 x2 x3 x4 x5 x6 x7 x8 x9 x10 x11 x12) _ rfl (cond_app (a88l0 x0 x1 x2 x3 x4 x5 x6 x7 x8 x9 x10 x11 x12) _ rfl rfl))) rfl) (cond_app (a88l0 x0 x1 x2 x3 x4 x5 x6 x7 x8 x9 x10 x11 x12) _ (cond_app (a88l0 x0 x1 x2 x3 x4 x5 x6 x7 x8 x9 x10 x11 x12) _ (cond_app (a88l0 x0 x1 x2 x3 x4 x5 x6 x7 x8 x9 x10 x11 x12) _ rfl (cond_app (a88l0 x0 x1 x2 x3 x4 x5 x6 x7 x8 x9 x10 x11 x12) _ rfl (cond_app (a88l0 x0 x1 x2 x3 x4 x5 x6 x7 x8 x9 x10 x11 x12) _ rfl rfl))) rfl) (cond_app (a88l0 x0 x1 x2 x3 x4 x5 x6 x7 x8 x9 x10 x11 x12) _ (cond_app (a88l0 x0 x1 x2 x3 x4 x5 x6 x7 x8 x9 x10 x11 x12) _ (cond_app (a88l0 x0 x1 x2 x3 x4 x5 x6 x7 x8 x9 x10 x11 x12) _ rfl (cond_app (a88l0 x0 x1 x2 x3 x4 x5 x6 x7 x8 x9 x10 x11 x12) _ rfl (cond_app (a88l0 x0 x1 x2 x3 x4 x5 x6 x7 x8 x9 x10 x11 x12) _ rfl rfl))) rfl) (cond_app (a88l0 x0 x1 x2 x3 x4 x5 x6 x7 x8 x9 x10 x11 x12) _ (cond_app (a88l0 x0 x1 x2 x3 x4 x5 x6 x7 x8 x9 x10 x11 x12) _ (cond_app (a88l0 x0 x1 x2 x3 x4 x5 x6 x7 x8 x9 x10 x11 x12) _ rfl (cond_app (a88l0 x0 x1 x2 x3 x4 x5 x6 x7 x8 x9 x10 x11 x12) _ rfl (cond_app (a88l0 x0 x1 x2 x3 x4 x5 x6 x7 x8 x9 x10 x11 x12) _ rfl rfl))) rfl) (cond_app (a88l0 x0 x1 x2 x3 x4 x5 x6 x7 x8 x9 x10 x11 x12) _ (cond_app (a88l0 x0 x1 x2 x3 x4 x5 x6 x7 x8 x9 x10 x11 x12) _ (cond_app (a88l0 x0 x1 x2 x3 x4 x5 x6 x7 x8 x9 x10 x11 x12) _ rfl (cond_app (a88l0 x0 x1 x2 x3 x4 x5 x6 x7 x8 x9 x10 x11 x12) _ rfl (cond_app (a88l0 x0 x1 x2 x3 x4 x5 x6 x7 x8 x9 x10 x11 x12) _ rfl rfl))) rfl) rfl))))))) rfl)) (fun h3 => (cond_both (a88l0 x0 x1 x2 x3 x4 x5 x6 x7 x8 x9 x10 x11 x12) _ (fun h4 => (cond_both (a88l0 x0 x1 x2 x3 x4 x5 x6 x7 x8 x9 x10 x11 x12) _ (fun h5 => (cond_t (ev_and2 h5) (cond_app (a88l0 x0 x1 x2 x3 x4 x5 x6 x7 x8 x9 x10 x11 x12) _ (cond_app (a88l0 x0 x1 x2 x3 x4 x5 x6 x7 x8 x9 x10 x11 x12) _ rfl (cond_app (a88l0 x0 x1 x2 x3 x4 x5 x6 x7 x8 x9 x10 x11 x12) _ rfl (cond_app (a88l0 x0 x1 x2 x3 x4 x5 x6 x7 x8 x9 x10 x11 x12) _ rfl rfl))) rfl))) (fun h5 => rfl))) (fun h4 => (cond_both (a88l0 x0 x1 x2 x3 x4 x5 x6 x7 x8 x9 x10 x11 x12) _ (fun h5 => (cond_both (a88l0 x0 x1 x2 x3 x4 x5 x6 x7 x8 x9 x10 x11 x12) _ (fun h6 => (cond_both (a88l0 x0 x1 x2 x3 x4 x5 x6 x7 x8 x9 x10 x11 x12) _ (fun h7 => (cond_both (a88l0 x0 x1 x2 x3 x4 x5 x6 x7 x8 x9 x10 x11 x12) _ (fun h8 => (cond_both (a88l0 x0 x1 x2 x3 x4 x5 x6 x7 x8 x9 x10 x11 x12) _ (fun h9 => (cond_both (a88l0 x0 x1 x2 x3 x4 x5 x6 x7 x8 x9 x10 x11 x12) _ (fun h10 => (cond_t (ev_and2 h10) (cond_app (a88l0 x0 x1 x2 x3 x4 x5 x6 x7 x8 x9 x10 x11 x12) _ rfl (cond_app (a88l0 x0 x1 x2 x3 x4 x5 x6 x7 x8 x9 x10 x11 x12) _ rfl (cond_app (a88l0 x0 x1 x2 x3 x4 x5 x6 x7 x8 x9 x10 x11 x12) _ rfl rfl))))) (fun h10 => rfl))) (fun h9 => rfl))) (fun h8 => rfl))) (fun h7 => rfl))) (fun h6 => (cond_app (a88l0 x0 x1 x2 x3 x4 x5 x6 x7 x8 x9 x10 x11 x12) _ (cond_app (a88l0 x0 x1 x2 x3 x4 x5 x6 x7 x8 x9 x10 x11 x12) _ (cond_app (a88l0 x0 x1 x2 x3 x4 x5 x6 x7 x8 x9 x10 x11 x12) _ (cond_app (a88l0 x0 x1 x2 x3 x4 x5 x6 x7 x8 x9 x10 x11 x12) _ rfl (cond_app (a88l0 x0 x1 x2 x3 x4 x5 x6 x7 x8 x9 x10 x11 x12) _ rfl (cond_app (a88l0 x0 x1 x2 x3 x4 x5 x6 x7 x8 x9 x10 x11 x12) _ rfl rfl))) rfl) rfl) rfl)))) (fun h5 => rfl)))))))))) (fun h1 => rfl))) (fun h0 => rfl)))
set_option maxRecDepth 100000 in
set_option maxHeartbeats 4000000 in
theorem qm88l0 : ∀ m, SumKOk Try.prog (loopN Try.f88 0) 95 [2, 3, 5, 9, 10, 20, 21, 22] [9] (q88l0 m) := by
  intro m
  induction m with
  | zero =>
    intro vals s x h1 h2 h3
    unfold q88l0 at h3; split at h3
    · rename_i h; split at h3
      · rename_i hc; obtain ⟨rfl, rfl, rfl, rfl, rfl, rfl, rfl, rfl⟩ := hc; exact absurd h3 (by simp [r88l0, firstT, Nat.beq])
      · exact noQ_ok _ _ _ h1 h2 h3
    · exact noQ_ok _ _ _ h1 h2 h3
  | succ m ih =>
    intro vals s x h1 h2 h3
    unfold q88l0 at h3; split at h3
    · rename_i h; split at h3
      · rename_i hc; obtain ⟨rfl, rfl, rfl, rfl, rfl, rfl, rfl, rfl⟩ := hc; exact sum_step ok63 extOk mixed ((lfOkF_no _ _).inner (by kernel_rfl)) ih h1 h2 h (e88l0 m _ _ _ _ _ _ _ _ _ _ _ _ _) rfl h3
      · exact noQ_ok _ _ _ h1 h2 h3
    · exact noQ_ok _ _ _ h1 h2 h3
noncomputable def Q88l0 : SumK := fun vals s => q88l0 (fuelOf vals s.h) vals s
theorem qok88l0 : SumKOk Try.prog (loopN Try.f88 0) 95 [2, 3, 5, 9, 10, 20, 21, 22] [9] Q88l0 := fuel_ok qm88l0 fuelOf
noncomputable def L88_1 : LoopT := addL noL 4 ([2, 3, 5, 9, 10, 20, 21, 22], [10]) (sumK 95 [2, 3, 5, 9, 10, 20, 21, 22] [9] Q88l0)
theorem lok88_1 : LfOkF Try.prog L88_1 Try.f88 := lfOkF_add (lfOkF_no _ _) qok88l0 (by kernel_rfl) (by kernel_rfl) (by kernel_rfl)

/-- impl.runOn[impl.Span] -/
noncomputable def r88 (x0 x1 x2 x3 x4 x5 x6 x7 : Nat) (x8 : List ByteArray) (x9 : List (List Int)) : Nat × List (List Int) :=
 let c177 := (r88l0 (1000 + x9.length + 0 + 0) ((x9.length : Nat) : Int) 0 x0 x1 x2 x3 x4 x5 x6 x7 ([] : List (List Int)) ([] : List (List Int)) x9)
 cond (Nat.beq (c177.1) 0)
  (0, ([] : List (List Int)))
  (cond (Nat.beq (c177.1) 1)
   (0, (c177.2))
   (cond (Nat.beq (c177.1) 2)
    (0, ([] : List (List Int)))
    (1, [])))
noncomputable def a88 (x0 x1 x2 x3 x4 x5 x6 x7 : Nat) (x8 : List ByteArray) (x9 : List (List Int)) (p : Nat × List (List Int)) : Res := firstT [((Nat.beq (p.1) 0), wsl 2, ⟨[⟨true, (some (.strs x8))⟩, ⟨true, (some (.tab [.int .i8, .int .i16, .fl .f32] x9))⟩, ⟨true, (some (.tab [.fl .f32, .fl .f32] (p.2)))⟩], 2, []⟩)]
noncomputable def w88 (x0 x1 x2 x3 x4 x5 x6 x7 : Nat) (x8 : List ByteArray) (x9 : List (List Int)) : Res :=
 let c177 := (r88l0 (1000 + x9.length + 0 + 0) ((x9.length : Nat) : Int) 0 x0 x1 x2 x3 x4 x5 x6 x7 ([] : List (List Int)) ([] : List (List Int)) x9)
 (cond (Nat.beq (c177.1) 0)
 (a88 x0 x1 x2 x3 x4 x5 x6 x7 x8 x9 (0, ([] : List (List Int))))
 (cond (Nat.beq (c177.1) 1)
  (a88 x0 x1 x2 x3 x4 x5 x6 x7 x8 x9 (0, (c177.2)))
  (cond (Nat.beq (c177.1) 2)
   (a88 x0 x1 x2 x3 x4 x5 x6 x7 x8 x9 (0, ([] : List (List Int))))
   none)))
set_option maxRecDepth 100000 in
set_option maxHeartbeats 4000000 in
theorem e88 (x0 x1 x2 x3 x4 x5 x6 x7 : Nat) (x8 : List ByteArray) (x9 : List (List Int)) : evFn Try.prog ext T63 L88_1 200 Try.f88 [.agg #[wsl 0, wsl 1], .agg #[.float .f32 x0, .float .f32 x1, .float .f32 x2, .float .f32 x3, .float .f32 x4, .float .f32 x5, .float .f32 x6, .float .f32 x7], .func (.func 89) #[] #[], .func (.func 90) #[] #[]] ⟨[⟨true, (some (.strs x8))⟩, ⟨true, (some (.tab [.int .i8, .int .i16, .fl .f32] x9))⟩], 2, []⟩ = firstT [((Nat.beq ((r88 x0 x1 x2 x3 x4 x5 x6 x7 x8 x9).1) 0), wsl 2, ⟨[⟨true, (some (.strs x8))⟩, ⟨true, (some (.tab [.int .i8, .int .i16, .fl .f32] x9))⟩, ⟨true, (some (.tab [.fl .f32, .fl .f32] ((r88 x0 x1 x2 x3 x4 x5 x6 x7 x8 x9).2)))⟩], 2, []⟩)] :=
 (show evFn Try.prog ext T63 L88_1 200 Try.f88 [.agg #[wsl 0, wsl 1], .agg #[.float .f32 x0, .float .f32 x1, .float .f32 x2, .float .f32 x3, .float .f32 x4, .float .f32 x5, .float .f32 x6, .float .f32 x7], .func (.func 89) #[] #[], .func (.func 90) #[] #[]] ⟨[⟨true, (some (.strs x8))⟩, ⟨true, (some (.tab [.int .i8, .int .i16, .fl .f32] x9))⟩], 2, []⟩ = w88 x0 x1 x2 x3 x4 x5 x6 x7 x8 x9 from by kernel_rfl).trans
 (show w88 x0 x1 x2 x3 x4 x5 x6 x7 x8 x9 = a88 x0 x1 x2 x3 x4 x5 x6 x7 x8 x9 (r88 x0 x1 x2 x3 x4 x5 x6 x7 x8 x9) from by unfold w88 r88; exact (cond_app (a88 x0 x1 x2 x3 x4 x5 x6 x7 x8 x9) _ rfl (cond_app (a88 x0 x1 x2 x3 x4 x5 x6 x7 x8 x9) _ rfl (cond_app (a88 x0 x1 x2 x3 x4 x5 x6 x7 x8 x9) _ rfl rfl))))
noncomputable def s88 (args : List Value) (s : St) : List (Bool × Value × St) :=
 match args, s.h with
 | [.agg ⟨[.iface f0 .nilIface, .iface f1 .nilIface]⟩, .agg ⟨[.float .f32 x0, .float .f32 x1, .float .f32 x2, .float .f32 x3, .float .f32 x4, .float .f32 x5, .float .f32 x6, .float .f32 x7]⟩, .func (.func f2) ⟨[]⟩ ⟨[]⟩, .func (.func f3) ⟨[]⟩ ⟨[]⟩], [⟨true, some (.strs x8)⟩, ⟨true, some (.tab [.int .i8, .int .i16, .fl .f32] x9)⟩] => if f0 = 0 ∧ f1 = 1 ∧ f2 = 89 ∧ f3 = 90 then [((Nat.beq ((r88 x0 x1 x2 x3 x4 x5 x6 x7 x8 x9).1) 0), wsl 2, ⟨[⟨true, (some (.strs x8))⟩, ⟨true, (some (.tab [.int .i8, .int .i16, .fl .f32] x9))⟩, ⟨true, (some (.tab [.fl .f32, .fl .f32] ((r88 x0 x1 x2 x3 x4 x5 x6 x7 x8 x9).2)))⟩], 2, []⟩)] else T63 88 args s
 | _, _ => T63 88 args s
noncomputable def T64 : CallF := addF T63 88 s88
set_option maxRecDepth 100000 in
set_option maxHeartbeats 4000000 in
theorem ok64 : CfOk Try.prog T64 := by
  refine cfOk_add ok63 fun args s r s' h1 h2 h3 => ?_
  unfold s88 at h3; split at h3
  · rename_i h; split at h3
    · rename_i hc; obtain ⟨rfl, rfl, rfl, rfl⟩ := hc; exact callOk ok63 Try.func88 h1 h2 h lok88_1.body (e88 _ _ _ _ _ _ _ _ _ _) rfl h3
    · exact ok63 _ _ _ _ _ h1 h2 h3
  · exact ok63 _ _ _ _ _ h1 h2 h3

/-- impl.prove -/
noncomputable def r66 (x0 x1 x2 x3 x4 x5 x6 x7 : Nat) (x8 : List ByteArray) (x9 : List (List Int)) : Nat × List (List Int) :=
 cond (Nat.beq ((r88 x0 x1 x2 x3 x4 x5 x6 x7 x8 x9).1) 0)
  (0, ((r88 x0 x1 x2 x3 x4 x5 x6 x7 x8 x9).2))
  (1, [])
noncomputable def a66 (x0 x1 x2 x3 x4 x5 x6 x7 : Nat) (x8 : List ByteArray) (x9 : List (List Int)) (p : Nat × List (List Int)) : Res := firstT [((Nat.beq (p.1) 0), wsl 2, ⟨[⟨true, (some (.strs x8))⟩, ⟨true, (some (.tab [.int .i8, .int .i16, .fl .f32] x9))⟩, ⟨true, (some (.tab [.fl .f32, .fl .f32] (p.2)))⟩], 2, []⟩)]
noncomputable def w66 (x0 x1 x2 x3 x4 x5 x6 x7 : Nat) (x8 : List ByteArray) (x9 : List (List Int)) : Res :=
 (cond (Nat.beq ((r88 x0 x1 x2 x3 x4 x5 x6 x7 x8 x9).1) 0)
 (a66 x0 x1 x2 x3 x4 x5 x6 x7 x8 x9 (0, ((r88 x0 x1 x2 x3 x4 x5 x6 x7 x8 x9).2)))
 none)
set_option maxRecDepth 100000 in
set_option maxHeartbeats 4000000 in
theorem e66 (x0 x1 x2 x3 x4 x5 x6 x7 : Nat) (x8 : List ByteArray) (x9 : List (List Int)) : evFn Try.prog ext T64 noL 200 Try.f66 [.agg #[wsl 0, wsl 1], .agg #[.float .f32 x0, .float .f32 x1, .float .f32 x2, .float .f32 x3, .float .f32 x4, .float .f32 x5, .float .f32 x6, .float .f32 x7]] ⟨[⟨true, (some (.strs x8))⟩, ⟨true, (some (.tab [.int .i8, .int .i16, .fl .f32] x9))⟩], 2, []⟩ = firstT [((Nat.beq ((r66 x0 x1 x2 x3 x4 x5 x6 x7 x8 x9).1) 0), wsl 2, ⟨[⟨true, (some (.strs x8))⟩, ⟨true, (some (.tab [.int .i8, .int .i16, .fl .f32] x9))⟩, ⟨true, (some (.tab [.fl .f32, .fl .f32] ((r66 x0 x1 x2 x3 x4 x5 x6 x7 x8 x9).2)))⟩], 2, []⟩)] :=
 (show evFn Try.prog ext T64 noL 200 Try.f66 [.agg #[wsl 0, wsl 1], .agg #[.float .f32 x0, .float .f32 x1, .float .f32 x2, .float .f32 x3, .float .f32 x4, .float .f32 x5, .float .f32 x6, .float .f32 x7]] ⟨[⟨true, (some (.strs x8))⟩, ⟨true, (some (.tab [.int .i8, .int .i16, .fl .f32] x9))⟩], 2, []⟩ = w66 x0 x1 x2 x3 x4 x5 x6 x7 x8 x9 from by kernel_rfl).trans
 (show w66 x0 x1 x2 x3 x4 x5 x6 x7 x8 x9 = a66 x0 x1 x2 x3 x4 x5 x6 x7 x8 x9 (r66 x0 x1 x2 x3 x4 x5 x6 x7 x8 x9) from by unfold w66 r66; exact (cond_app (a66 x0 x1 x2 x3 x4 x5 x6 x7 x8 x9) _ rfl rfl))
noncomputable def s66 (args : List Value) (s : St) : List (Bool × Value × St) :=
 match args, s.h with
 | [.agg ⟨[.iface f0 .nilIface, .iface f1 .nilIface]⟩, .agg ⟨[.float .f32 x0, .float .f32 x1, .float .f32 x2, .float .f32 x3, .float .f32 x4, .float .f32 x5, .float .f32 x6, .float .f32 x7]⟩], [⟨true, some (.strs x8)⟩, ⟨true, some (.tab [.int .i8, .int .i16, .fl .f32] x9)⟩] => if f0 = 0 ∧ f1 = 1 then [((Nat.beq ((r66 x0 x1 x2 x3 x4 x5 x6 x7 x8 x9).1) 0), wsl 2, ⟨[⟨true, (some (.strs x8))⟩, ⟨true, (some (.tab [.int .i8, .int .i16, .fl .f32] x9))⟩, ⟨true, (some (.tab [.fl .f32, .fl .f32] ((r66 x0 x1 x2 x3 x4 x5 x6 x7 x8 x9).2)))⟩], 2, []⟩)] else T64 66 args s
 | _, _ => T64 66 args s
noncomputable def T65 : CallF := addF T64 66 s66
set_option maxRecDepth 100000 in
set_option maxHeartbeats 4000000 in
theorem ok65 : CfOk Try.prog T65 := by
  refine cfOk_add ok64 fun args s r s' h1 h2 h3 => ?_
  unfold s66 at h3; split at h3
  · rename_i h; split at h3
    · rename_i hc; obtain ⟨rfl, rfl⟩ := hc; exact callOk ok64 Try.func66 h1 h2 h (lfOkF_no _ _).body (e66 _ _ _ _ _ _ _ _ _ _) rfl h3
    · exact ok64 _ _ _ _ _ h1 h2 h3
  · exact ok64 _ _ _ _ _ h1 h2 h3

/-- impl.ProveProgram -/
noncomputable def r32 (x0 x1 x2 x3 x4 x5 x6 x7 : Nat) (x8 : List ByteArray) (x9 : List (List Int)) : Nat × Int × List (List Int) :=
 cond (Nat.beq ((r16 x8 x9).1) 0)
  (cond (!((r16 x8 x9).2))
   (0, 1, [])
   (cond (!(r64 x0 x1 x2 x3 x4 x5 x6 x7))
    (0, 2, [])
    (cond (Nat.beq ((r66 x0 x1 x2 x3 x4 x5 x6 x7 x8 x9).1) 0)
     (1, 0, ((r66 x0 x1 x2 x3 x4 x5 x6 x7 x8 x9).2))
     (2, 0, []))))
  (2, 0, [])
noncomputable def a32 (x0 x1 x2 x3 x4 x5 x6 x7 : Nat) (x8 : List ByteArray) (x9 : List (List Int)) (p : Nat × Int × List (List Int)) : Res := firstT [((Nat.beq (p.1) 0), .tuple #[.slice none 0 0, .int .i64 (p.2.1)], ⟨[⟨true, (some (.strs x8))⟩, ⟨true, (some (.tab [.int .i8, .int .i16, .fl .f32] x9))⟩], 2, []⟩), ((Nat.beq (p.1) 1), .tuple #[wsl 2, .int .i64 0], ⟨[⟨true, (some (.strs x8))⟩, ⟨true, (some (.tab [.int .i8, .int .i16, .fl .f32] x9))⟩, ⟨true, (some (.tab [.fl .f32, .fl .f32] (p.2.2)))⟩], 2, []⟩)]
noncomputable def w32 (x0 x1 x2 x3 x4 x5 x6 x7 : Nat) (x8 : List ByteArray) (x9 : List (List Int)) : Res :=
 (cond (Nat.beq ((r16 x8 x9).1) 0)
 (cond (!((r16 x8 x9).2))
  (a32 x0 x1 x2 x3 x4 x5 x6 x7 x8 x9 (0, 1, []))
  (cond (!(r64 x0 x1 x2 x3 x4 x5 x6 x7))
   (a32 x0 x1 x2 x3 x4 x5 x6 x7 x8 x9 (0, 2, []))
   (cond (Nat.beq ((r66 x0 x1 x2 x3 x4 x5 x6 x7 x8 x9).1) 0)
    (a32 x0 x1 x2 x3 x4 x5 x6 x7 x8 x9 (1, 0, ((r66 x0 x1 x2 x3 x4 x5 x6 x7 x8 x9).2)))
    none)))
 none)
set_option maxRecDepth 100000 in
set_option maxHeartbeats 4000000 in
theorem e32 (x0 x1 x2 x3 x4 x5 x6 x7 : Nat) (x8 : List ByteArray) (x9 : List (List Int)) : evFn Try.prog ext T65 noL 200 Try.f32 [.agg #[wsl 0, wsl 1], .agg #[.float .f32 x0, .float .f32 x1, .float .f32 x2, .float .f32 x3, .float .f32 x4, .float .f32 x5, .float .f32 x6, .float .f32 x7]] ⟨[⟨true, (some (.strs x8))⟩, ⟨true, (some (.tab [.int .i8, .int .i16, .fl .f32] x9))⟩], 2, []⟩ = firstT [((Nat.beq ((r32 x0 x1 x2 x3 x4 x5 x6 x7 x8 x9).1) 0), .tuple #[.slice none 0 0, .int .i64 ((r32 x0 x1 x2 x3 x4 x5 x6 x7 x8 x9).2.1)], ⟨[⟨true, (some (.strs x8))⟩, ⟨true, (some (.tab [.int .i8, .int .i16, .fl .f32] x9))⟩], 2, []⟩), ((Nat.beq ((r32 x0 x1 x2 x3 x4 x5 x6 x7 x8 x9).1) 1), .tuple #[wsl 2, .int .i64 0], ⟨[⟨true, (some (.strs x8))⟩, ⟨true, (some (.tab [.int .i8, .int .i16, .fl .f32] x9))⟩, ⟨true, (some (.tab [.fl .f32, .fl .f32] ((r32 x0 x1 x2 x3 x4 x5 x6 x7 x8 x9).2.2)))⟩], 2, []⟩)] :=
 (show evFn Try.prog ext T65 noL 200 Try.f32 [.agg #[wsl 0, wsl 1], .agg #[.float .f32 x0, .float .f32 x1, .float .f32 x2, .float .f32 x3, .float .f32 x4, .float .f32 x5, .float .f32 x6, .float .f32 x7]] ⟨[⟨true, (some (.strs x8))⟩, ⟨true, (some (.tab [.int .i8, .int .i16, .fl .f32] x9))⟩], 2, []⟩ = w32 x0 x1 x2 x3 x4 x5 x6 x7 x8 x9 from by kernel_rfl).trans
 (show w32 x0 x1 x2 x3 x4 x5 x6 x7 x8 x9 = a32 x0 x1 x2 x3 x4 x5 x6 x7 x8 x9 (r32 x0 x1 x2 x3 x4 x5 x6 x7 x8 x9) from by unfold w32 r32; exact (cond_app (a32 x0 x1 x2 x3 x4 x5 x6 x7 x8 x9) _ (cond_app (a32 x0 x1 x2 x3 x4 x5 x6 x7 x8 x9) _ rfl (cond_app (a32 x0 x1 x2 x3 x4 x5 x6 x7 x8 x9) _ rfl (cond_app (a32 x0 x1 x2 x3 x4 x5 x6 x7 x8 x9) _ rfl rfl))) rfl))
noncomputable def s32 (args : List Value) (s : St) : List (Bool × Value × St) :=
 match args, s.h with
 | [.agg ⟨[.iface f0 .nilIface, .iface f1 .nilIface]⟩, .agg ⟨[.float .f32 x0, .float .f32 x1, .float .f32 x2, .float .f32 x3, .float .f32 x4, .float .f32 x5, .float .f32 x6, .float .f32 x7]⟩], [⟨true, some (.strs x8)⟩, ⟨true, some (.tab [.int .i8, .int .i16, .fl .f32] x9)⟩] => if f0 = 0 ∧ f1 = 1 then [((Nat.beq ((r32 x0 x1 x2 x3 x4 x5 x6 x7 x8 x9).1) 0), .tuple #[.slice none 0 0, .int .i64 ((r32 x0 x1 x2 x3 x4 x5 x6 x7 x8 x9).2.1)], ⟨[⟨true, (some (.strs x8))⟩, ⟨true, (some (.tab [.int .i8, .int .i16, .fl .f32] x9))⟩], 2, []⟩), ((Nat.beq ((r32 x0 x1 x2 x3 x4 x5 x6 x7 x8 x9).1) 1), .tuple #[wsl 2, .int .i64 0], ⟨[⟨true, (some (.strs x8))⟩, ⟨true, (some (.tab [.int .i8, .int .i16, .fl .f32] x9))⟩, ⟨true, (some (.tab [.fl .f32, .fl .f32] ((r32 x0 x1 x2 x3 x4 x5 x6 x7 x8 x9).2.2)))⟩], 2, []⟩)] else T65 32 args s
 | _, _ => T65 32 args s
noncomputable def T66 : CallF := addF T65 32 s32
set_option maxRecDepth 100000 in
set_option maxHeartbeats 4000000 in
theorem ok66 : CfOk Try.prog T66 := by
  refine cfOk_add ok65 fun args s r s' h1 h2 h3 => ?_
  unfold s32 at h3; split at h3
  · rename_i h; split at h3
    · rename_i hc; obtain ⟨rfl, rfl⟩ := hc; exact callOk ok65 Try.func32 h1 h2 h (lfOkF_no _ _).body (e32 _ _ _ _ _ _ _ _ _ _) rfl h3
    · exact ok65 _ _ _ _ _ h1 h2 h3
  · exact ok65 _ _ _ _ _ h1 h2 h3

/-- laws.eqSpanS, loop 0 -/
noncomputable def r33l0 (x0 : List (List Int)) : Unit :=
 ()
noncomputable def a33l0 (x0 : List (List Int)) (p : Unit) : Option (Fin' × List Value × St) := firstT ([(true, .exit 0, [anyV], ⟨[⟨true, (some (.tab [.fl .f32, .fl .f32] x0))⟩], 1, []⟩)].map fun (b, x) => (b, (x.1, frameOf 27 [4] x.2.1, x.2.2)))
noncomputable def w33l0 (x0 : List (List Int)) : Option (Fin' × List Value × St) :=
 (a33l0 x0 ())
set_option maxRecDepth 100000 in
set_option maxHeartbeats 4000000 in
theorem e33l0 (x0 : List (List Int)) : evC Try.prog ext T66 noL 200 (loopN Try.f33 0) (loopTail ([0, 1, 5], []) [4] [] (sumK 27 [0, 1, 5] [4] noQ)) (frameOf 27 [0, 1, 5] [.slice none 0 0, wsl 0, .int .i64 0]) ⟨[⟨true, (some (.tab [.fl .f32, .fl .f32] x0))⟩], 1, []⟩ = firstT ([(true, .exit 0, [anyV], ⟨[⟨true, (some (.tab [.fl .f32, .fl .f32] x0))⟩], 1, []⟩)].map fun (b, x) => (b, (x.1, frameOf 27 [4] x.2.1, x.2.2))) :=
 (show evC Try.prog ext T66 noL 200 (loopN Try.f33 0) (loopTail ([0, 1, 5], []) [4] [] (sumK 27 [0, 1, 5] [4] noQ)) (frameOf 27 [0, 1, 5] [.slice none 0 0, wsl 0, .int .i64 0]) ⟨[⟨true, (some (.tab [.fl .f32, .fl .f32] x0))⟩], 1, []⟩ = w33l0 x0 from by kernel_rfl).trans
 (show w33l0 x0 = a33l0 x0 (r33l0 x0) from by unfold w33l0 r33l0; exact rfl)
noncomputable def Q33l0 : SumK := fun vals s =>
 match vals, s.h with
 | [.slice none f0 f1, .iface f2 .nilIface, .int .i64 f3], [⟨true, some (.tab [.fl .f32, .fl .f32] x0)⟩] => if f0 = 0 ∧ f1 = 0 ∧ f2 = 0 ∧ f3 = 0 then [(true, .exit 0, [anyV], ⟨[⟨true, (some (.tab [.fl .f32, .fl .f32] x0))⟩], 1, []⟩)] else noQ vals s
 | _, _ => noQ vals s
set_option maxRecDepth 100000 in
set_option maxHeartbeats 4000000 in
theorem qok33l0 : SumKOk Try.prog (loopN Try.f33 0) 27 [0, 1, 5] [4] Q33l0 := by
  intro vals s x h1 h2 h3
  unfold Q33l0 at h3; split at h3
  · rename_i h; split at h3
    · rename_i hc; obtain ⟨rfl, rfl, rfl, rfl⟩ := hc; exact sum_step ok66 extOk mixed ((lfOkF_no _ _).inner (by kernel_rfl)) noQ_ok h1 h2 h (e33l0 _) rfl h3
    · exact noQ_ok _ _ _ h1 h2 h3
  · exact noQ_ok _ _ _ h1 h2 h3
noncomputable def L33_1 : LoopT := addL noL 5 ([0, 1, 5], []) (sumK 27 [0, 1, 5] [4] Q33l0)
theorem lok33_1 : LfOkF Try.prog L33_1 Try.f33 := lfOkF_add (lfOkF_no _ _) qok33l0 (by kernel_rfl) (by kernel_rfl) (by kernel_rfl)

/-- laws.eqSpanS -/
noncomputable def r33 (x0 : List (List Int)) : Bool :=
 cond ((0 : Int) != ((x0.length : Nat) : Int))
  (false)
  (true)
noncomputable def a33 (x0 : List (List Int)) (p : Bool) : Res := firstT [(true, .bool p, ⟨[⟨true, (some (.tab [.fl .f32, .fl .f32] x0))⟩], 1, []⟩)]
noncomputable def w33 (x0 : List (List Int)) : Res :=
 (cond ((0 : Int) != ((x0.length : Nat) : Int))
 (a33 x0 (false))
 (a33 x0 (true)))
set_option maxRecDepth 100000 in
set_option maxHeartbeats 4000000 in
theorem e33 (x0 : List (List Int)) : evFn Try.prog ext T66 L33_1 200 Try.f33 [.slice none 0 0, wsl 0] ⟨[⟨true, (some (.tab [.fl .f32, .fl .f32] x0))⟩], 1, []⟩ = firstT [(true, .bool (r33 x0), ⟨[⟨true, (some (.tab [.fl .f32, .fl .f32] x0))⟩], 1, []⟩)] :=
 (show evFn Try.prog ext T66 L33_1 200 Try.f33 [.slice none 0 0, wsl 0] ⟨[⟨true, (some (.tab [.fl .f32, .fl .f32] x0))⟩], 1, []⟩ = w33 x0 from by kernel_rfl).trans
 (show w33 x0 = a33 x0 (r33 x0) from by unfold w33 r33; exact (cond_app (a33 x0) _ rfl rfl))
noncomputable def s33 (args : List Value) (s : St) : List (Bool × Value × St) :=
 match args, s.h with
 | [.slice none f0 f1, .iface f2 .nilIface], [⟨true, some (.tab [.fl .f32, .fl .f32] x0)⟩] => if f0 = 0 ∧ f1 = 0 ∧ f2 = 0 then [(true, .bool (r33 x0), ⟨[⟨true, (some (.tab [.fl .f32, .fl .f32] x0))⟩], 1, []⟩)] else T66 33 args s
 | _, _ => T66 33 args s
noncomputable def T67 : CallF := addF T66 33 s33
set_option maxRecDepth 100000 in
set_option maxHeartbeats 4000000 in
theorem ok67 : CfOk Try.prog T67 := by
  refine cfOk_add ok66 fun args s r s' h1 h2 h3 => ?_
  unfold s33 at h3; split at h3
  · rename_i h; split at h3
    · rename_i hc; obtain ⟨rfl, rfl, rfl⟩ := hc; exact callOk ok66 Try.func33 h1 h2 h lok33_1.body (e33 _) rfl h3
    · exact ok66 _ _ _ _ _ h1 h2 h3
  · exact ok66 _ _ _ _ _ h1 h2 h3

/-- laws.eqStringS, loop 0: one round -/
noncomputable def b46l0 (ih : Int → List ByteArray → List ByteArray → Nat) (x0 : Int) (x1 x2 : List ByteArray) : Nat :=
 cond (decide ((x0 : Int) < ((x1.length : Nat) : Int)))
  (cond ((decide ((0 : Int) ≤ x0)) && (Nat.blt (Int.toNat x0) x1.length))
   (cond ((decide ((0 : Int) ≤ x0)) && (Nat.blt (Int.toNat x0) x2.length))
    (cond (!((x1.getD (Int.toNat x0) .empty).toList == (x2.getD (Int.toNat x0) .empty).toList))
     (0)
     (ih (IntKind.i64.wrap (x0 + 1)) x1 x2))
    (2))
   (2))
  (1)
noncomputable def r46l0 : Nat → Int → List ByteArray → List ByteArray → Nat
 | 0 => fun _ _ _ => (2)
 | m + 1 => b46l0 (r46l0 m)
noncomputable def a46l0 (x0 : Int) (x1 x2 : List ByteArray) (p : Nat) : Option (Fin' × List Value × St) := firstT ([((Nat.beq p 0), .ret, [.bool false], ⟨[⟨true, (some (.strs x1))⟩, ⟨true, (some (.strs x2))⟩], 2, []⟩), ((Nat.beq p 1), .exit 0, [anyV], ⟨[⟨true, (some (.strs x1))⟩, ⟨true, (some (.strs x2))⟩], 2, []⟩)].map fun (b, x) => (b, (x.1, frameOf 26 [4] x.2.1, x.2.2)))
noncomputable def u46l0 (x0 : Int) (x1 x2 : List ByteArray) (p : Nat) : Option (Fin' × List Value × St) := alts ([((Nat.beq p 0), .ret, [.bool false], ⟨[⟨true, (some (.strs x1))⟩, ⟨true, (some (.strs x2))⟩], 2, []⟩), ((Nat.beq p 1), .exit 0, [anyV], ⟨[⟨true, (some (.strs x1))⟩, ⟨true, (some (.strs x2))⟩], 2, []⟩)].map fun (b, x) => (b, (x.1, frameOf 26 [4] x.2.1, x.2.2))) some
theorem v46l0 (x0 : Int) (x1 x2 : List ByteArray) (p : Nat) : u46l0 x0 x1 x2 p = a46l0 x0 x1 x2 p := alts_first _
noncomputable def q46l0 (m : Nat) : SumK := fun vals s =>
 match vals, s.h with
 | [.iface f0 .nilIface, .iface f1 .nilIface, .int .i64 x0], [⟨true, some (.strs x1)⟩, ⟨true, some (.strs x2)⟩] => if f0 = 0 ∧ f1 = 1 then [((Nat.beq (r46l0 m x0 x1 x2) 0), .ret, [.bool false], ⟨[⟨true, (some (.strs x1))⟩, ⟨true, (some (.strs x2))⟩], 2, []⟩), ((Nat.beq (r46l0 m x0 x1 x2) 1), .exit 0, [anyV], ⟨[⟨true, (some (.strs x1))⟩, ⟨true, (some (.strs x2))⟩], 2, []⟩)] else noQ vals s
 | _, _ => noQ vals s
noncomputable def w46l0 (ih : Int → List ByteArray → List ByteArray → Nat) (x0 : Int) (x1 x2 : List ByteArray) : Option (Fin' × List Value × St) :=
 (cond (decide ((x0 : Int) < ((x1.length : Nat) : Int)))
 (cond ((decide ((0 : Int) ≤ x0)) && (Nat.blt (Int.toNat x0) x1.length))
  (cond (Nat.blt (Int.toNat x0) x1.length)
   (cond ((decide ((0 : Int) ≤ x0)) && (Nat.blt (Int.toNat x0) x2.length))
    (cond (Nat.blt (Int.toNat x0) x2.length)
     (cond (!((x1.getD (Int.toNat x0) .empty).toList == (x2.getD (Int.toNat x0) .empty).toList))
      (a46l0 x0 x1 x2 (0))
      (u46l0 x0 x1 x2 (ih (IntKind.i64.wrap (x0 + 1)) x1 x2)))
     none)
    none)
   none)
  none)
 (a46l0 x0 x1 x2 (1)))
set_option maxRecDepth 100000 in
set_option maxHeartbeats 4000000 in
theorem e46l0 (m : Nat) (x0 : Int) (x1 x2 : List ByteArray) : evC Try.prog ext T67 noL 200 (loopN Try.f46 0) (loopTail ([0, 1, 5], []) [4] [] (sumK 26 [0, 1, 5] [4] (q46l0 m))) (frameOf 26 [0, 1, 5] [wsl 0, wsl 1, .int .i64 x0]) ⟨[⟨true, (some (.strs x1))⟩, ⟨true, (some (.strs x2))⟩], 2, []⟩ = firstT ([((Nat.beq (r46l0 (m + 1) x0 x1 x2) 0), .ret, [.bool false], ⟨[⟨true, (some (.strs x1))⟩, ⟨true, (some (.strs x2))⟩], 2, []⟩), ((Nat.beq (r46l0 (m + 1) x0 x1 x2) 1), .exit 0, [anyV], ⟨[⟨true, (some (.strs x1))⟩, ⟨true, (some (.strs x2))⟩], 2, []⟩)].map fun (b, x) => (b, (x.1, frameOf 26 [4] x.2.1, x.2.2))) :=
 (show evC Try.prog ext T67 noL 200 (loopN Try.f46 0) (loopTail ([0, 1, 5], []) [4] [] (sumK 26 [0, 1, 5] [4] (q46l0 m))) (frameOf 26 [0, 1, 5] [wsl 0, wsl 1, .int .i64 x0]) ⟨[⟨true, (some (.strs x1))⟩, ⟨true, (some (.strs x2))⟩], 2, []⟩ = w46l0 (r46l0 m) x0 x1 x2 from by kernel_rfl).trans
 (show w46l0 (r46l0 m) x0 x1 x2 = a46l0 x0 x1 x2 (r46l0 (m + 1) x0 x1 x2) from by unfold w46l0; show _ = a46l0 x0 x1 x2 (b46l0 (r46l0 m) x0 x1 x2); unfold b46l0; exact (cond_both (a46l0 x0 x1 x2) _ (fun h0 => (cond_both (a46l0 x0 x1 x2) _ (fun h1 => (cond_t (ev_and2 h1) (cond_both (a46l0 x0 x1 x2) _ (fun h2 => (cond_t (ev_and2 h2) (cond_app (a46l0 x0 x1 x2) _ rfl (v46l0 x0 x1 x2 ((r46l0 m) (IntKind.i64.wrap (x0 + 1)) x1 x2))))) (fun h2 => rfl)))) (fun h1 => rfl))) (fun h0 => rfl)))
set_option maxRecDepth 100000 in
set_option maxHeartbeats 4000000 in
theorem qm46l0 : ∀ m, SumKOk Try.prog (loopN Try.f46 0) 26 [0, 1, 5] [4] (q46l0 m) := by
  intro m
  induction m with
  | zero =>
    intro vals s x h1 h2 h3
    unfold q46l0 at h3; split at h3
    · rename_i h; split at h3
      · rename_i hc; obtain ⟨rfl, rfl⟩ := hc; exact absurd h3 (by simp [r46l0, firstT, Nat.beq])
      · exact noQ_ok _ _ _ h1 h2 h3
    · exact noQ_ok _ _ _ h1 h2 h3
  | succ m ih =>
    intro vals s x h1 h2 h3
    unfold q46l0 at h3; split at h3
    · rename_i h; split at h3
      · rename_i hc; obtain ⟨rfl, rfl⟩ := hc; exact sum_step ok67 extOk mixed ((lfOkF_no _ _).inner (by kernel_rfl)) ih h1 h2 h (e46l0 m _ _ _) rfl h3
      · exact noQ_ok _ _ _ h1 h2 h3
    · exact noQ_ok _ _ _ h1 h2 h3
noncomputable def Q46l0 : SumK := fun vals s => q46l0 (fuelOf vals s.h) vals s
theorem qok46l0 : SumKOk Try.prog (loopN Try.f46 0) 26 [0, 1, 5] [4] Q46l0 := fuel_ok qm46l0 fuelOf
noncomputable def L46_1 : LoopT := addL noL 5 ([0, 1, 5], []) (sumK 26 [0, 1, 5] [4] Q46l0)
theorem lok46_1 : LfOkF Try.prog L46_1 Try.f46 := lfOkF_add (lfOkF_no _ _) qok46l0 (by kernel_rfl) (by kernel_rfl) (by kernel_rfl)

/-- laws.eqStringS -/
noncomputable def r46 (x0 x1 : List ByteArray) : Nat × Bool :=
 cond ((((x0.length : Nat) : Int) : Int) != ((x1.length : Nat) : Int))
  (0, false)
  (cond (Nat.beq (r46l0 (1000 + x1.length + x0.length) 0 x0 x1) 0)
   (0, false)
   (cond (Nat.beq (r46l0 (1000 + x1.length + x0.length) 0 x0 x1) 1)
    (0, true)
    (1, false)))
noncomputable def a46 (x0 x1 : List ByteArray) (p : Nat × Bool) : Res := firstT [((Nat.beq (p.1) 0), .bool (p.2), ⟨[⟨true, (some (.strs x0))⟩, ⟨true, (some (.strs x1))⟩], 2, []⟩)]
noncomputable def w46 (x0 x1 : List ByteArray) : Res :=
 (cond ((((x0.length : Nat) : Int) : Int) != ((x1.length : Nat) : Int))
 (a46 x0 x1 (0, false))
 (cond (Nat.beq (r46l0 (1000 + x1.length + x0.length) 0 x0 x1) 0)
  (a46 x0 x1 (0, false))
  (cond (Nat.beq (r46l0 (1000 + x1.length + x0.length) 0 x0 x1) 1)
   (a46 x0 x1 (0, true))
   none)))
set_option maxRecDepth 100000 in
set_option maxHeartbeats 4000000 in
theorem e46 (x0 x1 : List ByteArray) : evFn Try.prog ext T67 L46_1 200 Try.f46 [wsl 0, wsl 1] ⟨[⟨true, (some (.strs x0))⟩, ⟨true, (some (.strs x1))⟩], 2, []⟩ = firstT [((Nat.beq ((r46 x0 x1).1) 0), .bool ((r46 x0 x1).2), ⟨[⟨true, (some (.strs x0))⟩, ⟨true, (some (.strs x1))⟩], 2, []⟩)] :=
 (show evFn Try.prog ext T67 L46_1 200 Try.f46 [wsl 0, wsl 1] ⟨[⟨true, (some (.strs x0))⟩, ⟨true, (some (.strs x1))⟩], 2, []⟩ = w46 x0 x1 from by kernel_rfl).trans
 (show w46 x0 x1 = a46 x0 x1 (r46 x0 x1) from by unfold w46 r46; exact (cond_app (a46 x0 x1) _ rfl (cond_app (a46 x0 x1) _ rfl (cond_app (a46 x0 x1) _ rfl rfl))))
noncomputable def s46 (args : List Value) (s : St) : List (Bool × Value × St) :=
 match args, s.h with
 | [.iface f0 .nilIface, .iface f1 .nilIface], [⟨true, some (.strs x0)⟩, ⟨true, some (.strs x1)⟩] => if f0 = 0 ∧ f1 = 1 then [((Nat.beq ((r46 x0 x1).1) 0), .bool ((r46 x0 x1).2), ⟨[⟨true, (some (.strs x0))⟩, ⟨true, (some (.strs x1))⟩], 2, []⟩)] else T67 46 args s
 | _, _ => T67 46 args s
noncomputable def T68 : CallF := addF T67 46 s46
set_option maxRecDepth 100000 in
set_option maxHeartbeats 4000000 in
theorem ok68 : CfOk Try.prog T68 := by
  refine cfOk_add ok67 fun args s r s' h1 h2 h3 => ?_
  unfold s46 at h3; split at h3
  · rename_i h; split at h3
    · rename_i hc; obtain ⟨rfl, rfl⟩ := hc; exact callOk ok67 Try.func46 h1 h2 h lok46_1.body (e46 _ _) rfl h3
    · exact ok67 _ _ _ _ _ h1 h2 h3
  · exact ok67 _ _ _ _ _ h1 h2 h3

/-- laws.sameFloat -/
noncomputable def r20 (x0 x1 : Nat) : Bool :=
 cond (!feq .f64 x0 x0)
  ((!feq .f64 x1 x1))
  (cond (!feq .f64 x1 x1)
   (false)
   (cond (feq .f64 x0 0)
    (cond (feq .f64 x1 0)
     (((fgt .f64 (fdiv .f64 4607182418800017408 x0) 0) == (fgt .f64 (fdiv .f64 4607182418800017408 x1) 0)))
     ((feq .f64 x0 x1)))
    ((feq .f64 x0 x1))))
noncomputable def a20 (x0 x1 : Nat) (p : Bool) : Res := firstT [(true, .bool p, st0)]
noncomputable def w20 (x0 x1 : Nat) : Res :=
 (cond (!feq .f64 x0 x0)
 (cond (!feq .f64 x0 x0)
  (a20 x0 x1 ((!feq .f64 x1 x1)))
  (some (.bool false, st0)))
 (cond (!feq .f64 x1 x1)
  (cond (!feq .f64 x0 x0)
   (some (.bool (!feq .f64 x1 x1), st0))
   (a20 x0 x1 (false)))
  (cond (feq .f64 x0 0)
   (cond (feq .f64 x1 0)
    (a20 x0 x1 (((fgt .f64 (fdiv .f64 4607182418800017408 x0) 0) == (fgt .f64 (fdiv .f64 4607182418800017408 x1) 0))))
    (a20 x0 x1 ((feq .f64 x0 x1))))
   (a20 x0 x1 ((feq .f64 x0 x1))))))
set_option maxRecDepth 100000 in
set_option maxHeartbeats 4000000 in
theorem e20 (x0 x1 : Nat) : evFn Try.prog ext T68 noL 200 Try.f20 [.float .f64 x0, .float .f64 x1] st0 = firstT [(true, .bool (r20 x0 x1), st0)] :=
 (show evFn Try.prog ext T68 noL 200 Try.f20 [.float .f64 x0, .float .f64 x1] st0 = w20 x0 x1 from by kernel_rfl).trans
 (show w20 x0 x1 = a20 x0 x1 (r20 x0 x1) from by unfold w20 r20; exact (cond_both (a20 x0 x1) _ (fun h0 => (cond_t (ev_not1 (ev_nott h0)) rfl)) (fun h0 => (cond_both (a20 x0 x1) _ (fun h1 => (cond_f (ev_not0 (ev_notf h0)) rfl)) (fun h1 => (cond_app (a20 x0 x1) _ (cond_app (a20 x0 x1) _ rfl rfl) rfl))))))
noncomputable def s20 (args : List Value) (s : St) : List (Bool × Value × St) :=
 match args, s.h with
 | [.float .f64 x0, .float .f64 x1], [] => [(true, .bool (r20 x0 x1), st0)]
 | _, _ => T68 20 args s
noncomputable def T69 : CallF := addF T68 20 s20
set_option maxRecDepth 100000 in
set_option maxHeartbeats 4000000 in
theorem ok69 : CfOk Try.prog T69 := by
  refine cfOk_add ok68 fun args s r s' h1 h2 h3 => ?_
  unfold s20 at h3; split at h3
  · rename_i h; exact callOk ok68 Try.func20 h1 h2 h (lfOkF_no _ _).body (e20 _ _) rfl h3
  · exact ok68 _ _ _ _ _ h1 h2 h3

/-- laws.eqOp -/
noncomputable def r74 (x0 x1 : Int) (x2 : Nat) (x3 x4 : Int) (x5 : Nat) : Bool :=
 cond ((x0 : Int) != x3)
  (false)
  (cond ((x1 : Int) != x4)
   (false)
   (cond (!(r20 (widen x2) (widen x5)))
    (false)
    (true)))
noncomputable def a74 (x0 x1 : Int) (x2 : Nat) (x3 x4 : Int) (x5 : Nat) (p : Bool) : Res := firstT [(true, .bool p, st0)]
noncomputable def w74 (x0 x1 : Int) (x2 : Nat) (x3 x4 : Int) (x5 : Nat) : Res :=
 (cond ((x0 : Int) != x3)
 (a74 x0 x1 x2 x3 x4 x5 (false))
 (cond ((x1 : Int) != x4)
  (a74 x0 x1 x2 x3 x4 x5 (false))
  (cond (!(r20 (widen x2) (widen x5)))
   (a74 x0 x1 x2 x3 x4 x5 (false))
   (a74 x0 x1 x2 x3 x4 x5 (true)))))
set_option maxRecDepth 100000 in
set_option maxHeartbeats 4000000 in
theorem e74 (x0 x1 : Int) (x2 : Nat) (x3 x4 : Int) (x5 : Nat) : evFn Try.prog ext T69 noL 200 Try.f74 [.agg #[.int .i8 x0, .int .i16 x1, .float .f32 x2], .agg #[.int .i8 x3, .int .i16 x4, .float .f32 x5]] st0 = firstT [(true, .bool (r74 x0 x1 x2 x3 x4 x5), st0)] :=
 (show evFn Try.prog ext T69 noL 200 Try.f74 [.agg #[.int .i8 x0, .int .i16 x1, .float .f32 x2], .agg #[.int .i8 x3, .int .i16 x4, .float .f32 x5]] st0 = w74 x0 x1 x2 x3 x4 x5 from by kernel_rfl).trans
 (show w74 x0 x1 x2 x3 x4 x5 = a74 x0 x1 x2 x3 x4 x5 (r74 x0 x1 x2 x3 x4 x5) from by unfold w74 r74; exact (cond_app (a74 x0 x1 x2 x3 x4 x5) _ rfl (cond_app (a74 x0 x1 x2 x3 x4 x5) _ rfl (cond_app (a74 x0 x1 x2 x3 x4 x5) _ rfl rfl))))
noncomputable def s74 (args : List Value) (s : St) : List (Bool × Value × St) :=
 match args, s.h with
 | [.agg ⟨[.int .i8 x0, .int .i16 x1, .float .f32 x2]⟩, .agg ⟨[.int .i8 x3, .int .i16 x4, .float .f32 x5]⟩], [] => [(true, .bool (r74 x0 x1 x2 x3 x4 x5), st0)]
 | _, _ => T69 74 args s
noncomputable def T70 : CallF := addF T69 74 s74
set_option maxRecDepth 100000 in
set_option maxHeartbeats 4000000 in
theorem ok70 : CfOk Try.prog T70 := by
  refine cfOk_add ok69 fun args s r s' h1 h2 h3 => ?_
  unfold s74 at h3; split at h3
  · rename_i h; exact callOk ok69 Try.func74 h1 h2 h (lfOkF_no _ _).body (e74 _ _ _ _ _ _) rfl h3
  · exact ok69 _ _ _ _ _ h1 h2 h3
end Go.Proofs.Ytfclciebpnnieaa
