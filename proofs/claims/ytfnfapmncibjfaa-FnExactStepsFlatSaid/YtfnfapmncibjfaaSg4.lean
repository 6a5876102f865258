/- What the functions that the statements reach answer, part 4. -/
import Derived.Test.YtfnfapmncibjfaaSg3
namespace Go.Proofs.Ytfnfapmncibjfaa
open Go.Ab
set_option maxHeartbeats 4000000
set_option maxRecDepth 100000

/-- spec.StepsFlat -/
noncomputable def r50 (x0 x1 x2 : Nat) (x3 : Int) (x4 x5 x6 x7 x8 : List (List Int)) : Nat × Int × Nat × List (List Int) × List (List Int) × List (List Int) × List (List Int) :=
 let c182 := (r50l0 (1000 + ((r59 x4 x5 x6 x7).2.2.2.2).length + ((r59 x4 x5 x6 x7).2.2.2.1).length + ((r59 x4 x5 x6 x7).2.2.1).length + ((r59 x4 x5 x6 x7).2.1).length + x8.length) x0 x1 x2 x3 0 0 x8 ((r59 x4 x5 x6 x7).2.1) ((r59 x4 x5 x6 x7).2.2.1) ((r59 x4 x5 x6 x7).2.2.2.1) ((r59 x4 x5 x6 x7).2.2.2.2))
 cond (Nat.beq ((r57 x0 x1 x8 x4 x5 x6 x7).1) 0) (cond ((((r57 x0 x1 x8 x4 x5 x6 x7).2) : Int) != 0) (0, ((r57 x0 x1 x8 x4 x5 x6 x7).2), 0, [], [], [], []) (cond (!(r100 x2)) (0, 2, 0, [], [], [], []) (cond (!(r87 x3 0 400)) (0, 2, 0, [], [], [], []) (cond (Nat.beq ((r59 x4 x5 x6 x7).1) 0) (cond (Nat.beq (c182.1) 0) (0, 4, 0, [], [], [], []) (cond (Nat.beq (c182.1) 1) (0, 4, 0, [], [], [], []) (cond (Nat.beq (c182.1) 2) (cond (!(r102 (c182.2.2.2.2.2.2.1))) (0, 4, 0, [], [], [], []) (1, 0, (c182.2.2.2.2.2.2.1), (c182.2.2.2.2.2.2.2.1), (c182.2.2.2.2.2.2.2.2.1), (c182.2.2.2.2.2.2.2.2.2.1), (c182.2.2.2.2.2.2.2.2.2.2))) (cond (Nat.beq (c182.1) 3) (cond (!(r102 0)) (0, 4, 0, [], [], [], []) (1, 0, 0, ((r59 x4 x5 x6 x7).2.1), ((r59 x4 x5 x6 x7).2.2.1), ((r59 x4 x5 x6 x7).2.2.2.1), ((r59 x4 x5 x6 x7).2.2.2.2))) (2, 0, 0, [], [], [], []))))) (2, 0, 0, [], [], [], []))))) (2, 0, 0, [], [], [], [])
noncomputable def a50 (x0 x1 x2 : Nat) (x3 : Int) (x4 x5 x6 x7 x8 : List (List Int)) (p : Nat × Int × Nat × List (List Int) × List (List Int) × List (List Int) × List (List Int)) : Res := firstT [((Nat.beq (p.1) 0), .tuple #[.agg #[.slice none 0 0, .slice none 0 0, .slice none 0 0, .slice none 0 0], .float .f32 0, .int .i64 (p.2.1)], ⟨[⟨true, (some (.tab [.fl .f32] x4))⟩, ⟨true, (some (.tab [.fl .f32] x5))⟩, ⟨true, (some (.tab sc0 x6))⟩, ⟨true, (some (.tab sc1 x7))⟩, ⟨true, (some (.tab [.fl .f32] x8))⟩], 5, []⟩), ((Nat.beq (p.1) 1), .tuple #[.agg #[wsl 5, wsl 6, wsl 7, wsl 8], .float .f32 (p.2.2.1), .int .i64 0], ⟨[⟨true, (some (.tab [.fl .f32] x4))⟩, ⟨true, (some (.tab [.fl .f32] x5))⟩, ⟨true, (some (.tab sc0 x6))⟩, ⟨true, (some (.tab sc1 x7))⟩, ⟨true, (some (.tab [.fl .f32] x8))⟩, ⟨true, (some (.tab [.fl .f32] (p.2.2.2.1)))⟩, ⟨true, (some (.tab [.fl .f32] (p.2.2.2.2.1)))⟩, ⟨true, (some (.tab sc0 (p.2.2.2.2.2.1)))⟩, ⟨true, (some (.tab sc1 (p.2.2.2.2.2.2)))⟩], 5, []⟩)]
noncomputable def w50 (x0 x1 x2 : Nat) (x3 : Int) (x4 x5 x6 x7 x8 : List (List Int)) : Res :=
 let c182 := (r50l0 (1000 + ((r59 x4 x5 x6 x7).2.2.2.2).length + ((r59 x4 x5 x6 x7).2.2.2.1).length + ((r59 x4 x5 x6 x7).2.2.1).length + ((r59 x4 x5 x6 x7).2.1).length + x8.length) x0 x1 x2 x3 0 0 x8 ((r59 x4 x5 x6 x7).2.1) ((r59 x4 x5 x6 x7).2.2.1) ((r59 x4 x5 x6 x7).2.2.2.1) ((r59 x4 x5 x6 x7).2.2.2.2))
 (cond (Nat.beq ((r57 x0 x1 x8 x4 x5 x6 x7).1) 0)
 (cond ((((r57 x0 x1 x8 x4 x5 x6 x7).2) : Int) != 0) (a50 x0 x1 x2 x3 x4 x5 x6 x7 x8 (0, ((r57 x0 x1 x8 x4 x5 x6 x7).2), 0, [], [], [], [])) (cond (!(r100 x2)) (a50 x0 x1 x2 x3 x4 x5 x6 x7 x8 (0, 2, 0, [], [], [], [])) (cond (!(r87 x3 0 400)) (a50 x0 x1 x2 x3 x4 x5 x6 x7 x8 (0, 2, 0, [], [], [], [])) (cond (Nat.beq ((r59 x4 x5 x6 x7).1) 0) (cond (Nat.beq (c182.1) 0) (a50 x0 x1 x2 x3 x4 x5 x6 x7 x8 (0, 4, 0, [], [], [], [])) (cond (Nat.beq (c182.1) 1) (a50 x0 x1 x2 x3 x4 x5 x6 x7 x8 (0, 4, 0, [], [], [], [])) (cond (Nat.beq (c182.1) 2) (cond (!(r102 (c182.2.2.2.2.2.2.1))) (a50 x0 x1 x2 x3 x4 x5 x6 x7 x8 (0, 4, 0, [], [], [], [])) (a50 x0 x1 x2 x3 x4 x5 x6 x7 x8 (1, 0, (c182.2.2.2.2.2.2.1), (c182.2.2.2.2.2.2.2.1), (c182.2.2.2.2.2.2.2.2.1), (c182.2.2.2.2.2.2.2.2.2.1), (c182.2.2.2.2.2.2.2.2.2.2)))) (cond (Nat.beq (c182.1) 3) (cond (!(r102 0)) (a50 x0 x1 x2 x3 x4 x5 x6 x7 x8 (0, 4, 0, [], [], [], [])) (a50 x0 x1 x2 x3 x4 x5 x6 x7 x8 (1, 0, 0, ((r59 x4 x5 x6 x7).2.1), ((r59 x4 x5 x6 x7).2.2.1), ((r59 x4 x5 x6 x7).2.2.2.1), ((r59 x4 x5 x6 x7).2.2.2.2)))) none)))) none))))
 none)
set_option maxRecDepth 100000 in
set_option maxHeartbeats 4000000 in
theorem e50 (x0 x1 x2 : Nat) (x3 : Int) (x4 x5 x6 x7 x8 : List (List Int)) : evFn Try.prog ext T30 L50_1 200 Try.f50 [.agg #[wsl 0, wsl 1, wsl 2, wsl 3], .float .f32 x0, .float .f32 x1, wsl 4, .float .f32 x2, .int .i64 x3] ⟨[⟨true, (some (.tab [.fl .f32] x4))⟩, ⟨true, (some (.tab [.fl .f32] x5))⟩, ⟨true, (some (.tab sc0 x6))⟩, ⟨true, (some (.tab sc1 x7))⟩, ⟨true, (some (.tab [.fl .f32] x8))⟩], 5, []⟩ = firstT [((Nat.beq ((r50 x0 x1 x2 x3 x4 x5 x6 x7 x8).1) 0), .tuple #[.agg #[.slice none 0 0, .slice none 0 0, .slice none 0 0, .slice none 0 0], .float .f32 0, .int .i64 ((r50 x0 x1 x2 x3 x4 x5 x6 x7 x8).2.1)], ⟨[⟨true, (some (.tab [.fl .f32] x4))⟩, ⟨true, (some (.tab [.fl .f32] x5))⟩, ⟨true, (some (.tab sc0 x6))⟩, ⟨true, (some (.tab sc1 x7))⟩, ⟨true, (some (.tab [.fl .f32] x8))⟩], 5, []⟩), ((Nat.beq ((r50 x0 x1 x2 x3 x4 x5 x6 x7 x8).1) 1), .tuple #[.agg #[wsl 5, wsl 6, wsl 7, wsl 8], .float .f32 ((r50 x0 x1 x2 x3 x4 x5 x6 x7 x8).2.2.1), .int .i64 0], ⟨[⟨true, (some (.tab [.fl .f32] x4))⟩, ⟨true, (some (.tab [.fl .f32] x5))⟩, ⟨true, (some (.tab sc0 x6))⟩, ⟨true, (some (.tab sc1 x7))⟩, ⟨true, (some (.tab [.fl .f32] x8))⟩, ⟨true, (some (.tab [.fl .f32] ((r50 x0 x1 x2 x3 x4 x5 x6 x7 x8).2.2.2.1)))⟩, ⟨true, (some (.tab [.fl .f32] ((r50 x0 x1 x2 x3 x4 x5 x6 x7 x8).2.2.2.2.1)))⟩, ⟨true, (some (.tab sc0 ((r50 x0 x1 x2 x3 x4 x5 x6 x7 x8).2.2.2.2.2.1)))⟩, ⟨true, (some (.tab sc1 ((r50 x0 x1 x2 x3 x4 x5 x6 x7 x8).2.2.2.2.2.2)))⟩], 5, []⟩)] :=
 (show _ = w50 x0 x1 x2 x3 x4 x5 x6 x7 x8 from by kernel_rfl).trans
 (show w50 x0 x1 x2 x3 x4 x5 x6 x7 x8 = a50 x0 x1 x2 x3 x4 x5 x6 x7 x8 (r50 x0 x1 x2 x3 x4 x5 x6 x7 x8) from by unfold w50 r50; exact (cond_app (a50 x0 x1 x2 x3 x4 x5 x6 x7 x8) _ (cond_app (a50 x0 x1 x2 x3 x4 x5 x6 x7 x8) _ rfl (cond_app (a50 x0 x1 x2 x3 x4 x5 x6 x7 x8) _ rfl (cond_app (a50 x0 x1 x2 x3 x4 x5 x6 x7 x8) _ rfl (cond_app (a50 x0 x1 x2 x3 x4 x5 x6 x7 x8) _ (cond_app (a50 x0 x1 x2 x3 x4 x5 x6 x7 x8) _ rfl (cond_app (a50 x0 x1 x2 x3 x4 x5 x6 x7 x8) _ rfl (cond_app (a50 x0 x1 x2 x3 x4 x5 x6 x7 x8) _ (cond_app (a50 x0 x1 x2 x3 x4 x5 x6 x7 x8) _ rfl rfl) (cond_app (a50 x0 x1 x2 x3 x4 x5 x6 x7 x8) _ (cond_app (a50 x0 x1 x2 x3 x4 x5 x6 x7 x8) _ rfl rfl) rfl)))) rfl)))) rfl))
noncomputable def s50 (args : List Value) (s : St) : List (Bool × Value × St) :=
 match args, s.h with
 | [.agg ⟨[.iface f0 .nilIface, .iface f1 .nilIface, .iface f2 .nilIface, .iface f3 .nilIface]⟩, .float .f32 x0, .float .f32 x1, .iface f4 .nilIface, .float .f32 x2, .int .i64 x3], [⟨true, some (.tab [.fl .f32] x4)⟩, ⟨true, some (.tab [.fl .f32] x5)⟩, ⟨true, some (.tab [.int .i64, .int .i64, .fl .f32, .fl .f32, .fl .f32, .fl .f32, .fl .f32, .fl .f32] x6)⟩, ⟨true, some (.tab [.int .i64, .int .i64, .fl .f32, .fl .f32] x7)⟩, ⟨true, some (.tab [.fl .f32] x8)⟩] => if f0 = 0 ∧ f1 = 1 ∧ f2 = 2 ∧ f3 = 3 ∧ f4 = 4 then [((Nat.beq ((r50 x0 x1 x2 x3 x4 x5 x6 x7 x8).1) 0), .tuple #[.agg #[.slice none 0 0, .slice none 0 0, .slice none 0 0, .slice none 0 0], .float .f32 0, .int .i64 ((r50 x0 x1 x2 x3 x4 x5 x6 x7 x8).2.1)], ⟨[⟨true, (some (.tab [.fl .f32] x4))⟩, ⟨true, (some (.tab [.fl .f32] x5))⟩, ⟨true, (some (.tab sc0 x6))⟩, ⟨true, (some (.tab sc1 x7))⟩, ⟨true, (some (.tab [.fl .f32] x8))⟩], 5, []⟩), ((Nat.beq ((r50 x0 x1 x2 x3 x4 x5 x6 x7 x8).1) 1), .tuple #[.agg #[wsl 5, wsl 6, wsl 7, wsl 8], .float .f32 ((r50 x0 x1 x2 x3 x4 x5 x6 x7 x8).2.2.1), .int .i64 0], ⟨[⟨true, (some (.tab [.fl .f32] x4))⟩, ⟨true, (some (.tab [.fl .f32] x5))⟩, ⟨true, (some (.tab sc0 x6))⟩, ⟨true, (some (.tab sc1 x7))⟩, ⟨true, (some (.tab [.fl .f32] x8))⟩, ⟨true, (some (.tab [.fl .f32] ((r50 x0 x1 x2 x3 x4 x5 x6 x7 x8).2.2.2.1)))⟩, ⟨true, (some (.tab [.fl .f32] ((r50 x0 x1 x2 x3 x4 x5 x6 x7 x8).2.2.2.2.1)))⟩, ⟨true, (some (.tab sc0 ((r50 x0 x1 x2 x3 x4 x5 x6 x7 x8).2.2.2.2.2.1)))⟩, ⟨true, (some (.tab sc1 ((r50 x0 x1 x2 x3 x4 x5 x6 x7 x8).2.2.2.2.2.2)))⟩], 5, []⟩)] else T30 50 args s
 | _, _ => T30 50 args s
noncomputable def T31 : CallF := addF T30 50 s50
set_option maxRecDepth 100000 in
set_option maxHeartbeats 4000000 in
theorem ok31 : CfOk Try.prog T31 := by
  refine cfOk_add ok30 fun args s r s' h1 h2 h3 => ?_
  unfold s50 at h3; split at h3
  · rename_i h; split at h3
    · rename_i hc; obtain ⟨rfl, rfl, rfl, rfl, rfl⟩ := hc; exact callOk ok30 Try.func50 h1 h2 h lok50_1.body (e50 _ _ _ _ _ _ _ _ _) rfl h3
    · exact ok30 _ _ _ _ _ h1 h2 h3
  · exact ok30 _ _ _ _ _ h1 h2 h3

/-- impl.between -/
noncomputable def r115 (x0 x1 x2 : Nat) : Bool :=
 cond (fgt .f32 x0 x1 || feq .f32 x0 x1) ((flt .f32 x0 x2 || feq .f32 x0 x2)) (false)
noncomputable def a115 (x0 x1 x2 : Nat) (p : Bool) : Res := firstT [(true, .bool p, st0)]
noncomputable def w115 (x0 x1 x2 : Nat) : Res :=
 (cond (fgt .f32 x0 x1 || feq .f32 x0 x1)
 (a115 x0 x1 x2 ((flt .f32 x0 x2 || feq .f32 x0 x2)))
 (a115 x0 x1 x2 (false)))
set_option maxRecDepth 100000 in
set_option maxHeartbeats 4000000 in
theorem e115 (x0 x1 x2 : Nat) : evFn Try.prog ext T31 noL 200 Try.f115 [.float .f32 x0, .float .f32 x1, .float .f32 x2] st0 = firstT [(true, .bool (r115 x0 x1 x2), st0)] :=
 (show _ = w115 x0 x1 x2 from by kernel_rfl).trans
 (show w115 x0 x1 x2 = a115 x0 x1 x2 (r115 x0 x1 x2) from by unfold w115 r115; exact (cond_app (a115 x0 x1 x2) _ rfl rfl))
noncomputable def s115 (args : List Value) (s : St) : List (Bool × Value × St) :=
 match args, s.h with
 | [.float .f32 x0, .float .f32 x1, .float .f32 x2], [] => [(true, .bool (r115 x0 x1 x2), st0)]
 | _, _ => T31 115 args s
noncomputable def T32 : CallF := addF T31 115 s115
set_option maxRecDepth 100000 in
set_option maxHeartbeats 4000000 in
theorem ok32 : CfOk Try.prog T32 := by
  refine cfOk_add ok31 fun args s r s' h1 h2 h3 => ?_
  unfold s115 at h3; split at h3
  · rename_i h; exact callOk ok31 Try.func115 h1 h2 h (lfOkF_no _ _).body (e115 _ _ _) rfl h3
  · exact ok31 _ _ _ _ _ h1 h2 h3

/-- impl.isHeat -/
noncomputable def r68 (x0 : Nat) : Bool :=
 ((r115 x0 3262119936 1128792064))
noncomputable def a68 (x0 : Nat) (p : Bool) : Res := firstT [(true, .bool p, st0)]
noncomputable def w68 (x0 : Nat) : Res :=
 (a68 x0 ((r115 x0 3262119936 1128792064)))
set_option maxRecDepth 100000 in
set_option maxHeartbeats 4000000 in
theorem e68 (x0 : Nat) : evFn Try.prog ext T32 noL 200 Try.f68 [.float .f32 x0] st0 = firstT [(true, .bool (r68 x0), st0)] :=
 (show _ = w68 x0 from by kernel_rfl).trans
 (show w68 x0 = a68 x0 (r68 x0) from by unfold w68 r68; exact rfl)
noncomputable def s68 (args : List Value) (s : St) : List (Bool × Value × St) :=
 match args, s.h with
 | [.float .f32 x0], [] => [(true, .bool (r68 x0), st0)]
 | _, _ => T32 68 args s
noncomputable def T33 : CallF := addF T32 68 s68
set_option maxRecDepth 100000 in
set_option maxHeartbeats 4000000 in
theorem ok33 : CfOk Try.prog T33 := by
  refine cfOk_add ok32 fun args s r s' h1 h2 h3 => ?_
  unfold s68 at h3; split at h3
  · rename_i h; exact callOk ok32 Try.func68 h1 h2 h (lfOkF_no _ _).body (e68 _) rfl h3
  · exact ok32 _ _ _ _ _ h1 h2 h3

/-- math.IsNaN -/
noncomputable def r116 (x0 : Nat) : Bool :=
 ((!feq .f64 x0 x0))
noncomputable def a116 (x0 : Nat) (p : Bool) : Res := firstT [(true, .bool p, st0)]
noncomputable def w116 (x0 : Nat) : Res :=
 (a116 x0 ((!feq .f64 x0 x0)))
set_option maxRecDepth 100000 in
set_option maxHeartbeats 4000000 in
theorem e116 (x0 : Nat) : evFn Try.prog ext T33 noL 200 Try.f116 [.float .f64 x0] st0 = firstT [(true, .bool (r116 x0), st0)] :=
 (show _ = w116 x0 from by kernel_rfl).trans
 (show w116 x0 = a116 x0 (r116 x0) from by unfold w116 r116; exact rfl)
noncomputable def s116 (args : List Value) (s : St) : List (Bool × Value × St) :=
 match args, s.h with
 | [.float .f64 x0], [] => [(true, .bool (r116 x0), st0)]
 | _, _ => T33 116 args s
noncomputable def T34 : CallF := addF T33 116 s116
set_option maxRecDepth 100000 in
set_option maxHeartbeats 4000000 in
theorem ok34 : CfOk Try.prog T34 := by
  refine cfOk_add ok33 fun args s r s' h1 h2 h3 => ?_
  unfold s116 at h3; split at h3
  · rename_i h; exact callOk ok33 Try.func116 h1 h2 h (lfOkF_no _ _).body (e116 _) rfl h3
  · exact ok33 _ _ _ _ _ h1 h2 h3

/-- math.Abs -/
noncomputable def r126 (x0 : Nat) : Nat :=
 cond (!isN .f64 x0) ((Int.toNat (bits .andNot .u64 ((x0 : Nat) : Int) 9223372036854775808))) (9221120237041090560)
noncomputable def a126 (x0 : Nat) (p : Nat) : Res := firstT [(true, .float .f64 p, st0)]
noncomputable def w126 (x0 : Nat) : Res :=
 (cond (!isN .f64 x0)
 (a126 x0 ((Int.toNat (bits .andNot .u64 ((x0 : Nat) : Int) 9223372036854775808))))
 (a126 x0 (9221120237041090560)))
set_option maxRecDepth 100000 in
set_option maxHeartbeats 4000000 in
theorem e126 (x0 : Nat) : evFn Try.prog ext T34 noL 200 Try.f126 [.float .f64 x0] st0 = firstT [(true, .float .f64 (r126 x0), st0)] :=
 (show _ = w126 x0 from by kernel_rfl).trans
 (show w126 x0 = a126 x0 (r126 x0) from by unfold w126 r126; exact (cond_app (a126 x0) _ rfl rfl))
noncomputable def s126 (args : List Value) (s : St) : List (Bool × Value × St) :=
 match args, s.h with
 | [.float .f64 x0], [] => [(true, .float .f64 (r126 x0), st0)]
 | _, _ => T34 126 args s
noncomputable def T35 : CallF := addF T34 126 s126
set_option maxRecDepth 100000 in
set_option maxHeartbeats 4000000 in
theorem ok35 : CfOk Try.prog T35 := by
  refine cfOk_add ok34 fun args s r s' h1 h2 h3 => ?_
  unfold s126 at h3; split at h3
  · rename_i h; exact callOk ok34 Try.func126 h1 h2 h (lfOkF_no _ _).body (e126 _) rfl h3
  · exact ok34 _ _ _ _ _ h1 h2 h3

/-- math.IsInf -/
noncomputable def r117 (x0 : Nat) (x1 : Int) : Bool :=
 cond ((x1 : Int) == 0) ((fgt .f64 (r126 x0) 9218868437227405311)) (cond (decide ((x1 : Int) < 0)) ((fgt .f64 (fneg .f64 x0) 9218868437227405311)) ((fgt .f64 x0 9218868437227405311)))
noncomputable def a117 (x0 : Nat) (x1 : Int) (p : Bool) : Res := firstT [(true, .bool p, st0)]
noncomputable def w117 (x0 : Nat) (x1 : Int) : Res :=
 (cond ((x1 : Int) == 0)
 (a117 x0 x1 ((fgt .f64 (r126 x0) 9218868437227405311)))
 (cond (decide ((x1 : Int) < 0)) (a117 x0 x1 ((fgt .f64 (fneg .f64 x0) 9218868437227405311))) (a117 x0 x1 ((fgt .f64 x0 9218868437227405311)))))
set_option maxRecDepth 100000 in
set_option maxHeartbeats 4000000 in
theorem e117 (x0 : Nat) (x1 : Int) : evFn Try.prog ext T35 noL 200 Try.f117 [.float .f64 x0, .int .i64 x1] st0 = firstT [(true, .bool (r117 x0 x1), st0)] :=
 (show _ = w117 x0 x1 from by kernel_rfl).trans
 (show w117 x0 x1 = a117 x0 x1 (r117 x0 x1) from by unfold w117 r117; exact (cond_app (a117 x0 x1) _ rfl (cond_app (a117 x0 x1) _ rfl rfl)))
noncomputable def s117 (args : List Value) (s : St) : List (Bool × Value × St) :=
 match args, s.h with
 | [.float .f64 x0, .int .i64 x1], [] => [(true, .bool (r117 x0 x1), st0)]
 | _, _ => T35 117 args s
noncomputable def T36 : CallF := addF T35 117 s117
set_option maxRecDepth 100000 in
set_option maxHeartbeats 4000000 in
theorem ok36 : CfOk Try.prog T36 := by
  refine cfOk_add ok35 fun args s r s' h1 h2 h3 => ?_
  unfold s117 at h3; split at h3
  · rename_i h; exact callOk ok35 Try.func117 h1 h2 h (lfOkF_no _ _).body (e117 _ _) rfl h3
  · exact ok35 _ _ _ _ _ h1 h2 h3

/-- impl.isFinite -/
noncomputable def r70 (x0 : Nat) : Bool :=
 cond (r116 (widen x0)) (false) (cond (r117 (widen x0) 0) (false) (true))
noncomputable def a70 (x0 : Nat) (p : Bool) : Res := firstT [(true, .bool p, ⟨[⟨true, (some (.tab [.fl .f32] ([[((x0 : Nat) : Int)]] : List (List Int))))⟩], 1, []⟩)]
noncomputable def w70 (x0 : Nat) : Res :=
 (cond (r116 (widen x0))
 (a70 x0 (false))
 (cond (r117 (widen x0) 0) (a70 x0 (false)) (a70 x0 (true))))
set_option maxRecDepth 100000 in
set_option maxHeartbeats 4000000 in
theorem e70 (x0 : Nat) : evFn Try.prog ext T36 noL 200 Try.f70 [.slice (some ⟨0, 0, some 0⟩) 1 1] ⟨[⟨true, (some (.tab [.fl .f32] ([[((x0 : Nat) : Int)]] : List (List Int))))⟩], 1, []⟩ = firstT [(true, .bool (r70 x0), ⟨[⟨true, (some (.tab [.fl .f32] ([[((x0 : Nat) : Int)]] : List (List Int))))⟩], 1, []⟩)] :=
 (show _ = w70 x0 from by kernel_rfl).trans
 (show w70 x0 = a70 x0 (r70 x0) from by unfold w70 r70; exact (cond_app (a70 x0) _ rfl (cond_app (a70 x0) _ rfl rfl)))
noncomputable def s70 (args : List Value) (s : St) : List (Bool × Value × St) :=
 match args, s.h with
 | [.slice (some ⟨f0, f1, some f2⟩) f3 f4], [⟨true, some (.tab [.fl .f32] [[.ofNat x0]])⟩] => if f0 = 0 ∧ f1 = 0 ∧ f2 = 0 ∧ f3 = 1 ∧ f4 = 1 then [(true, .bool (r70 x0), ⟨[⟨true, (some (.tab [.fl .f32] ([[((x0 : Nat) : Int)]] : List (List Int))))⟩], 1, []⟩)] else T36 70 args s
 | _, _ => T36 70 args s
noncomputable def T37 : CallF := addF T36 70 s70
set_option maxRecDepth 100000 in
set_option maxHeartbeats 4000000 in
theorem ok37 : CfOk Try.prog T37 := by
  refine cfOk_add ok36 fun args s r s' h1 h2 h3 => ?_
  unfold s70 at h3; split at h3
  · rename_i h; split at h3
    · rename_i hc; obtain ⟨rfl, rfl, rfl, rfl, rfl⟩ := hc; exact callOk ok36 Try.func70 h1 h2 h (lfOkF_no _ _).body (e70 _) rfl h3
    · exact ok36 _ _ _ _ _ h1 h2 h3
  · exact ok36 _ _ _ _ _ h1 h2 h3

/-- impl.IsAmount -/
noncomputable def r111 (x0 : Nat) : Bool :=
 cond (r70 x0) (cond (fgt .f32 x0 0 || feq .f32 x0 0) ((((Int.fdiv ((x0 : Nat) : Int) (2 ^ (min (31 : Int).toNat (IntKind.bits .u32)))) : Int) == 0)) (false)) (false)
noncomputable def a111 (x0 : Nat) (p : Bool) : Res := firstT [(true, .bool p, st0)]
noncomputable def w111 (x0 : Nat) : Res :=
 (cond (r70 x0)
 (cond (fgt .f32 x0 0 || feq .f32 x0 0) (cond (!isN .f32 x0) (a111 x0 ((((Int.fdiv ((x0 : Nat) : Int) (2 ^ (min (31 : Int).toNat (IntKind.bits .u32)))) : Int) == 0))) none) (a111 x0 (false)))
 (a111 x0 (false)))
set_option maxRecDepth 100000 in
set_option maxHeartbeats 4000000 in
theorem e111 (x0 : Nat) : evFn Try.prog ext T37 noL 200 Try.f111 [.float .f32 x0] st0 = firstT [(true, .bool (r111 x0), st0)] :=
 (show _ = w111 x0 from by kernel_rfl).trans
 (show w111 x0 = a111 x0 (r111 x0) from by unfold w111 r111; exact (cond_both (a111 x0) _ (fun h0 => (cond_both (a111 x0) _ (fun h1 => (cond_t (ev_not1 (ev_or h1 (fun hq0 => (ev_gt1 hq0)) (fun hq0 => (ev_eq1 hq0)))) rfl)) (fun h1 => rfl))) (fun h0 => rfl)))
noncomputable def s111 (args : List Value) (s : St) : List (Bool × Value × St) :=
 match args, s.h with
 | [.float .f32 x0], [] => [(true, .bool (r111 x0), st0)]
 | _, _ => T37 111 args s
noncomputable def T38 : CallF := addF T37 111 s111
set_option maxRecDepth 100000 in
set_option maxHeartbeats 4000000 in
theorem ok38 : CfOk Try.prog T38 := by
  refine cfOk_add ok37 fun args s r s' h1 h2 h3 => ?_
  unfold s111 at h3; split at h3
  · rename_i h; exact callOk ok37 Try.func111 h1 h2 h (lfOkF_no _ _).body (e111 _) rfl h3
  · exact ok37 _ _ _ _ _ h1 h2 h3

/-- impl.isStore -/
noncomputable def r113 (x0 : Nat) : Bool :=
 cond (r111 x0) ((r115 x0 1065353216 1176256512)) (false)
noncomputable def a113 (x0 : Nat) (p : Bool) : Res := firstT [(true, .bool p, st0)]
noncomputable def w113 (x0 : Nat) : Res :=
 (cond (r111 x0)
 (a113 x0 ((r115 x0 1065353216 1176256512)))
 (a113 x0 (false)))
set_option maxRecDepth 100000 in
set_option maxHeartbeats 4000000 in
theorem e113 (x0 : Nat) : evFn Try.prog ext T38 noL 200 Try.f113 [.float .f32 x0] st0 = firstT [(true, .bool (r113 x0), st0)] :=
 (show _ = w113 x0 from by kernel_rfl).trans
 (show w113 x0 = a113 x0 (r113 x0) from by unfold w113 r113; exact (cond_app (a113 x0) _ rfl rfl))
noncomputable def s113 (args : List Value) (s : St) : List (Bool × Value × St) :=
 match args, s.h with
 | [.float .f32 x0], [] => [(true, .bool (r113 x0), st0)]
 | _, _ => T38 113 args s
noncomputable def T39 : CallF := addF T38 113 s113
set_option maxRecDepth 100000 in
set_option maxHeartbeats 4000000 in
theorem ok39 : CfOk Try.prog T39 := by
  refine cfOk_add ok38 fun args s r s' h1 h2 h3 => ?_
  unfold s113 at h3; split at h3
  · rename_i h; exact callOk ok38 Try.func113 h1 h2 h (lfOkF_no _ _).body (e113 _) rfl h3
  · exact ok38 _ _ _ _ _ h1 h2 h3

/-- impl.ValidFlat, loop 0: one round -/
noncomputable def b65l0 (ih : Int → Int → Int → List (List Int) → List (List Int) → List (List Int) → List (List Int) → Nat) (x0 x1 x2 : Int) (x3 x4 x5 x6 : List (List Int)) : Nat :=
 cond (decide ((x2 : Int) < x1)) (cond ((decide ((0 : Int) ≤ x2)) && (Nat.blt (Int.toNat x2) x3.length)) (cond (!(r68 (Int.toNat ((x3.getD (Int.toNat x2) []).getD 0 0)))) (0) (cond ((decide ((0 : Int) ≤ x2)) && (Nat.blt (Int.toNat x2) x4.length)) (cond (!(r113 (Int.toNat ((x4.getD (Int.toNat x2) []).getD 0 0)))) (0) (ih x0 x1 (IntKind.i64.wrap (x2 + 1)) x3 x4 x5 x6)) (2))) (2)) (1)
noncomputable def r65l0 : Nat → Int → Int → Int → List (List Int) → List (List Int) → List (List Int) → List (List Int) → Nat
 | 0 => fun _ _ _ _ _ _ _ => (2)
 | m + 1 => b65l0 (r65l0 m)
noncomputable def a65l0 (x0 x1 x2 : Int) (x3 x4 x5 x6 : List (List Int)) (p : Nat) : Option (Fin' × List Value × St) := firstT ([((Nat.beq p 0), .ret, [.pointer (some ⟨0, 0, some 0⟩), .bool false, .int .i64 x0], ⟨[⟨true, (some (.cells [wsl 1, wsl 2, wsl 3, wsl 4]))⟩, ⟨true, (some (.tab [.fl .f32] x3))⟩, ⟨true, (some (.tab [.fl .f32] x4))⟩, ⟨true, (some (.tab sc0 x5))⟩, ⟨true, (some (.tab sc1 x6))⟩], 5, []⟩), ((Nat.beq p 1), .exit 0, [.pointer (some ⟨0, 0, some 0⟩), anyV, .int .i64 x0], ⟨[⟨true, (some (.cells [wsl 1, wsl 2, wsl 3, wsl 4]))⟩, ⟨true, (some (.tab [.fl .f32] x3))⟩, ⟨true, (some (.tab [.fl .f32] x4))⟩, ⟨true, (some (.tab sc0 x5))⟩, ⟨true, (some (.tab sc1 x6))⟩], 5, []⟩)].map fun (b, x) => (b, (x.1, frameOf 129 [1, 2, 3] x.2.1, x.2.2)))
noncomputable def u65l0 (x0 x1 x2 : Int) (x3 x4 x5 x6 : List (List Int)) (p : Nat) : Option (Fin' × List Value × St) := alts ([((Nat.beq p 0), .ret, [.pointer (some ⟨0, 0, some 0⟩), .bool false, .int .i64 x0], ⟨[⟨true, (some (.cells [wsl 1, wsl 2, wsl 3, wsl 4]))⟩, ⟨true, (some (.tab [.fl .f32] x3))⟩, ⟨true, (some (.tab [.fl .f32] x4))⟩, ⟨true, (some (.tab sc0 x5))⟩, ⟨true, (some (.tab sc1 x6))⟩], 5, []⟩), ((Nat.beq p 1), .exit 0, [.pointer (some ⟨0, 0, some 0⟩), anyV, .int .i64 x0], ⟨[⟨true, (some (.cells [wsl 1, wsl 2, wsl 3, wsl 4]))⟩, ⟨true, (some (.tab [.fl .f32] x3))⟩, ⟨true, (some (.tab [.fl .f32] x4))⟩, ⟨true, (some (.tab sc0 x5))⟩, ⟨true, (some (.tab sc1 x6))⟩], 5, []⟩)].map fun (b, x) => (b, (x.1, frameOf 129 [1, 2, 3] x.2.1, x.2.2))) some
theorem v65l0 (x0 x1 x2 : Int) (x3 x4 x5 x6 : List (List Int)) (p : Nat) : u65l0 x0 x1 x2 x3 x4 x5 x6 p = a65l0 x0 x1 x2 x3 x4 x5 x6 p := alts_first _
noncomputable def q65l0 (m : Nat) : SumK := fun vals s =>
 match vals, s.h with
 | [.pointer (some ⟨f0, f1, some f2⟩), .int .i64 x0, .int .i64 x1, .int .i64 x2], [⟨true, some (.cells [.iface f3 .nilIface, .iface f4 .nilIface, .iface f5 .nilIface, .iface f6 .nilIface])⟩, ⟨true, some (.tab [.fl .f32] x3)⟩, ⟨true, some (.tab [.fl .f32] x4)⟩, ⟨true, some (.tab [.int .i64, .int .i64, .fl .f32, .fl .f32, .fl .f32, .fl .f32, .fl .f32, .fl .f32] x5)⟩, ⟨true, some (.tab [.int .i64, .int .i64, .fl .f32, .fl .f32] x6)⟩] => if f0 = 0 ∧ f1 = 0 ∧ f2 = 0 ∧ f3 = 1 ∧ f4 = 2 ∧ f5 = 3 ∧ f6 = 4 then [((Nat.beq (r65l0 m x0 x1 x2 x3 x4 x5 x6) 0), .ret, [.pointer (some ⟨0, 0, some 0⟩), .bool false, .int .i64 x0], ⟨[⟨true, (some (.cells [wsl 1, wsl 2, wsl 3, wsl 4]))⟩, ⟨true, (some (.tab [.fl .f32] x3))⟩, ⟨true, (some (.tab [.fl .f32] x4))⟩, ⟨true, (some (.tab sc0 x5))⟩, ⟨true, (some (.tab sc1 x6))⟩], 5, []⟩), ((Nat.beq (r65l0 m x0 x1 x2 x3 x4 x5 x6) 1), .exit 0, [.pointer (some ⟨0, 0, some 0⟩), anyV, .int .i64 x0], ⟨[⟨true, (some (.cells [wsl 1, wsl 2, wsl 3, wsl 4]))⟩, ⟨true, (some (.tab [.fl .f32] x3))⟩, ⟨true, (some (.tab [.fl .f32] x4))⟩, ⟨true, (some (.tab sc0 x5))⟩, ⟨true, (some (.tab sc1 x6))⟩], 5, []⟩)] else noQ vals s
 | _, _ => noQ vals s
noncomputable def w65l0 (ih : Int → Int → Int → List (List Int) → List (List Int) → List (List Int) → List (List Int) → Nat) (x0 x1 x2 : Int) (x3 x4 x5 x6 : List (List Int)) : Option (Fin' × List Value × St) :=
 (cond (decide ((x2 : Int) < x1))
 (cond ((decide ((0 : Int) ≤ x2)) && (Nat.blt (Int.toNat x2) x3.length)) (cond (Nat.blt (Int.toNat x2) x3.length) (cond (!(r68 (Int.toNat ((x3.getD (Int.toNat x2) []).getD 0 0)))) (a65l0 x0 x1 x2 x3 x4 x5 x6 (0)) (cond ((decide ((0 : Int) ≤ x2)) && (Nat.blt (Int.toNat x2) x4.length)) (cond (Nat.blt (Int.toNat x2) x4.length) (cond (!(r113 (Int.toNat ((x4.getD (Int.toNat x2) []).getD 0 0)))) (a65l0 x0 x1 x2 x3 x4 x5 x6 (0)) (u65l0 x0 x1 x2 x3 x4 x5 x6 (ih x0 x1 (IntKind.i64.wrap (x2 + 1)) x3 x4 x5 x6))) none) none)) none) none)
 (a65l0 x0 x1 x2 x3 x4 x5 x6 (1)))
set_option maxRecDepth 100000 in
set_option maxHeartbeats 4000000 in
theorem e65l0 (m : Nat) (x0 x1 x2 : Int) (x3 x4 x5 x6 : List (List Int)) : evC Try.prog ext T39 noL 200 (loopN Try.f65 0) (loopTail ([1, 3, 39, 40], []) [1, 2, 3] [] (sumK 129 [1, 3, 39, 40] [1, 2, 3] (q65l0 m))) (frameOf 129 [1, 3, 39, 40] [.pointer (some ⟨0, 0, some 0⟩), .int .i64 x0, .int .i64 x1, .int .i64 x2]) ⟨[⟨true, (some (.cells [wsl 1, wsl 2, wsl 3, wsl 4]))⟩, ⟨true, (some (.tab [.fl .f32] x3))⟩, ⟨true, (some (.tab [.fl .f32] x4))⟩, ⟨true, (some (.tab sc0 x5))⟩, ⟨true, (some (.tab sc1 x6))⟩], 5, []⟩ = firstT ([((Nat.beq (r65l0 (m + 1) x0 x1 x2 x3 x4 x5 x6) 0), .ret, [.pointer (some ⟨0, 0, some 0⟩), .bool false, .int .i64 x0], ⟨[⟨true, (some (.cells [wsl 1, wsl 2, wsl 3, wsl 4]))⟩, ⟨true, (some (.tab [.fl .f32] x3))⟩, ⟨true, (some (.tab [.fl .f32] x4))⟩, ⟨true, (some (.tab sc0 x5))⟩, ⟨true, (some (.tab sc1 x6))⟩], 5, []⟩), ((Nat.beq (r65l0 (m + 1) x0 x1 x2 x3 x4 x5 x6) 1), .exit 0, [.pointer (some ⟨0, 0, some 0⟩), anyV, .int .i64 x0], ⟨[⟨true, (some (.cells [wsl 1, wsl 2, wsl 3, wsl 4]))⟩, ⟨true, (some (.tab [.fl .f32] x3))⟩, ⟨true, (some (.tab [.fl .f32] x4))⟩, ⟨true, (some (.tab sc0 x5))⟩, ⟨true, (some (.tab sc1 x6))⟩], 5, []⟩)].map fun (b, x) => (b, (x.1, frameOf 129 [1, 2, 3] x.2.1, x.2.2))) :=
 (show _ = w65l0 (r65l0 m) x0 x1 x2 x3 x4 x5 x6 from by kernel_rfl).trans
 (show w65l0 (r65l0 m) x0 x1 x2 x3 x4 x5 x6 = a65l0 x0 x1 x2 x3 x4 x5 x6 (r65l0 (m + 1) x0 x1 x2 x3 x4 x5 x6) from by unfold w65l0; show _ = a65l0 x0 x1 x2 x3 x4 x5 x6 (b65l0 (r65l0 m) x0 x1 x2 x3 x4 x5 x6); unfold b65l0; exact (cond_both (a65l0 x0 x1 x2 x3 x4 x5 x6) _ (fun h0 => (cond_both (a65l0 x0 x1 x2 x3 x4 x5 x6) _ (fun h1 => (cond_t (ev_and2 h1) (cond_both (a65l0 x0 x1 x2 x3 x4 x5 x6) _ (fun h2 => rfl) (fun h2 => (cond_both (a65l0 x0 x1 x2 x3 x4 x5 x6) _ (fun h3 => (cond_t (ev_and2 h3) (cond_app (a65l0 x0 x1 x2 x3 x4 x5 x6) _ rfl (v65l0 x0 x1 x2 x3 x4 x5 x6 ((r65l0 m) x0 x1 (IntKind.i64.wrap (x2 + 1)) x3 x4 x5 x6))))) (fun h3 => rfl)))))) (fun h1 => rfl))) (fun h0 => rfl)))
set_option maxRecDepth 100000 in
set_option maxHeartbeats 4000000 in
theorem qm65l0 : ∀ m, SumKOk Try.prog (loopN Try.f65 0) 129 [1, 3, 39, 40] [1, 2, 3] (q65l0 m) := by
  intro m
  induction m with
  | zero =>
    intro vals s x h1 h2 h3
    unfold q65l0 at h3; split at h3
    · rename_i h; split at h3
      · rename_i hc; obtain ⟨rfl, rfl, rfl, rfl, rfl, rfl, rfl⟩ := hc; exact absurd h3 (by simp [r65l0, firstT, Nat.beq])
      · exact noQ_ok _ _ _ h1 h2 h3
    · exact noQ_ok _ _ _ h1 h2 h3
  | succ m ih =>
    intro vals s x h1 h2 h3
    unfold q65l0 at h3; split at h3
    · rename_i h; split at h3
      · rename_i hc; obtain ⟨rfl, rfl, rfl, rfl, rfl, rfl, rfl⟩ := hc; exact sum_step ok39 extOk mixed ((lfOkF_no _ _).inner (by kernel_rfl)) ih h1 h2 h (e65l0 m _ _ _ _ _ _ _) rfl h3
      · exact noQ_ok _ _ _ h1 h2 h3
    · exact noQ_ok _ _ _ h1 h2 h3
noncomputable def Q65l0 : SumK := fun vals s => q65l0 (fuelOf vals s.h) vals s
theorem qok65l0 : SumKOk Try.prog (loopN Try.f65 0) 129 [1, 3, 39, 40] [1, 2, 3] Q65l0 := fuel_ok qm65l0 fuelOf
noncomputable def L65_1 : LoopT := addL noL 6 ([1, 3, 39, 40], []) (sumK 129 [1, 3, 39, 40] [1, 2, 3] Q65l0)
theorem lok65_1 : LfOkF Try.prog L65_1 Try.f65 := lfOkF_add (lfOkF_no _ _) qok65l0 (by kernel_rfl) (by kernel_rfl) (by kernel_rfl)

/-- impl.stands -/
noncomputable def r114 (x0 x1 x2 : Int) : Bool :=
 cond (decide ((x0 : Int) ≥ 0)) (cond (decide ((x0 : Int) < x2)) (cond (decide ((x1 : Int) ≥ (-1))) (cond (decide ((x1 : Int) < x2)) (((x0 : Int) != x1)) (false)) (false)) (false)) (false)
noncomputable def a114 (x0 x1 x2 : Int) (p : Bool) : Res := firstT [(true, .bool p, st0)]
noncomputable def w114 (x0 x1 x2 : Int) : Res :=
 (cond (decide ((x0 : Int) ≥ 0))
 (cond (decide ((x0 : Int) < x2)) (cond (decide ((x1 : Int) ≥ (-1))) (cond (decide ((x1 : Int) < x2)) (a114 x0 x1 x2 (((x0 : Int) != x1))) (a114 x0 x1 x2 (false))) (a114 x0 x1 x2 (false))) (a114 x0 x1 x2 (false)))
 (a114 x0 x1 x2 (false)))
set_option maxRecDepth 100000 in
set_option maxHeartbeats 4000000 in
theorem e114 (x0 x1 x2 : Int) : evFn Try.prog ext T39 noL 200 Try.f114 [.int .i64 x0, .int .i64 x1, .int .i64 x2] st0 = firstT [(true, .bool (r114 x0 x1 x2), st0)] :=
 (show _ = w114 x0 x1 x2 from by kernel_rfl).trans
 (show w114 x0 x1 x2 = a114 x0 x1 x2 (r114 x0 x1 x2) from by unfold w114 r114; exact (cond_app (a114 x0 x1 x2) _ (cond_app (a114 x0 x1 x2) _ (cond_app (a114 x0 x1 x2) _ (cond_app (a114 x0 x1 x2) _ rfl rfl) rfl) rfl) rfl))
noncomputable def s114 (args : List Value) (s : St) : List (Bool × Value × St) :=
 match args, s.h with
 | [.int .i64 x0, .int .i64 x1, .int .i64 x2], [] => [(true, .bool (r114 x0 x1 x2), st0)]
 | _, _ => T39 114 args s
noncomputable def T40 : CallF := addF T39 114 s114
set_option maxRecDepth 100000 in
set_option maxHeartbeats 4000000 in
theorem ok40 : CfOk Try.prog T40 := by
  refine cfOk_add ok39 fun args s r s' h1 h2 h3 => ?_
  unfold s114 at h3; split at h3
  · rename_i h; exact callOk ok39 Try.func114 h1 h2 h (lfOkF_no _ _).body (e114 _ _ _) rfl h3
  · exact ok39 _ _ _ _ _ h1 h2 h3

/-- impl.ValidFlat, loop 1: one round -/
noncomputable def b65l1 (ih : Int → Int → Int → List (List Int) → List (List Int) → List (List Int) → List (List Int) → Nat) (x0 x1 x2 : Int) (x3 x4 x5 x6 : List (List Int)) : Nat :=
 cond (decide ((x2 : Int) < x1)) (cond ((decide ((0 : Int) ≤ x2)) && (Nat.blt (Int.toNat x2) x3.length)) (cond (!(r114 ((x3.getD (Int.toNat x2) []).getD 0 0) ((x3.getD (Int.toNat x2) []).getD 1 0) x0)) (0) (cond (!(r111 (Int.toNat ((x3.getD (Int.toNat x2) []).getD 2 0)))) (0) (cond (!(r115 (Int.toNat ((x3.getD (Int.toNat x2) []).getD 2 0)) 1015021568 1120403456)) (0) (cond (!(r113 (Int.toNat ((x3.getD (Int.toNat x2) []).getD 3 0)))) (0) (cond (!(r68 (Int.toNat ((x3.getD (Int.toNat x2) []).getD 4 0)))) (0) (cond (!(r68 (Int.toNat ((x3.getD (Int.toNat x2) []).getD 5 0)))) (0) (cond (!(r68 (Int.toNat ((x3.getD (Int.toNat x2) []).getD 6 0)))) (0) (cond (!(r68 (Int.toNat ((x3.getD (Int.toNat x2) []).getD 7 0)))) (0) (ih x0 x1 (IntKind.i64.wrap (x2 + 1)) x3 x4 x5 x6))))))))) (2)) (1)
noncomputable def r65l1 : Nat → Int → Int → Int → List (List Int) → List (List Int) → List (List Int) → List (List Int) → Nat
 | 0 => fun _ _ _ _ _ _ _ => (2)
 | m + 1 => b65l1 (r65l1 m)
noncomputable def a65l1 (x0 x1 x2 : Int) (x3 x4 x5 x6 : List (List Int)) (p : Nat) : Option (Fin' × List Value × St) := firstT ([((Nat.beq p 0), .ret, [.pointer (some ⟨0, 0, some 0⟩), .bool false, .int .i64 x0], ⟨[⟨true, (some (.cells [wsl 2, wsl 3, wsl 1, wsl 4]))⟩, ⟨true, (some (.tab sc0 x3))⟩, ⟨true, (some (.tab [.fl .f32] x4))⟩, ⟨true, (some (.tab [.fl .f32] x5))⟩, ⟨true, (some (.tab sc1 x6))⟩], 5, []⟩), ((Nat.beq p 1), .exit 2, [.pointer (some ⟨0, 0, some 0⟩), anyV, .int .i64 x0], ⟨[⟨true, (some (.cells [wsl 2, wsl 3, wsl 1, wsl 4]))⟩, ⟨true, (some (.tab sc0 x3))⟩, ⟨true, (some (.tab [.fl .f32] x4))⟩, ⟨true, (some (.tab [.fl .f32] x5))⟩, ⟨true, (some (.tab sc1 x6))⟩], 5, []⟩)].map fun (b, x) => (b, (x.1, frameOf 129 [1, 2, 3] x.2.1, x.2.2)))
noncomputable def u65l1 (x0 x1 x2 : Int) (x3 x4 x5 x6 : List (List Int)) (p : Nat) : Option (Fin' × List Value × St) := alts ([((Nat.beq p 0), .ret, [.pointer (some ⟨0, 0, some 0⟩), .bool false, .int .i64 x0], ⟨[⟨true, (some (.cells [wsl 2, wsl 3, wsl 1, wsl 4]))⟩, ⟨true, (some (.tab sc0 x3))⟩, ⟨true, (some (.tab [.fl .f32] x4))⟩, ⟨true, (some (.tab [.fl .f32] x5))⟩, ⟨true, (some (.tab sc1 x6))⟩], 5, []⟩), ((Nat.beq p 1), .exit 2, [.pointer (some ⟨0, 0, some 0⟩), anyV, .int .i64 x0], ⟨[⟨true, (some (.cells [wsl 2, wsl 3, wsl 1, wsl 4]))⟩, ⟨true, (some (.tab sc0 x3))⟩, ⟨true, (some (.tab [.fl .f32] x4))⟩, ⟨true, (some (.tab [.fl .f32] x5))⟩, ⟨true, (some (.tab sc1 x6))⟩], 5, []⟩)].map fun (b, x) => (b, (x.1, frameOf 129 [1, 2, 3] x.2.1, x.2.2))) some
theorem v65l1 (x0 x1 x2 : Int) (x3 x4 x5 x6 : List (List Int)) (p : Nat) : u65l1 x0 x1 x2 x3 x4 x5 x6 p = a65l1 x0 x1 x2 x3 x4 x5 x6 p := alts_first _
noncomputable def q65l1 (m : Nat) : SumK := fun vals s =>
 match vals, s.h with
 | [.pointer (some ⟨f0, f1, some f2⟩), .int .i64 x0, .iface f3 .nilIface, .int .i64 x1, .int .i64 x2], [⟨true, some (.cells [.iface f4 .nilIface, .iface f5 .nilIface, .iface f6 .nilIface, .iface f7 .nilIface])⟩, ⟨true, some (.tab [.int .i64, .int .i64, .fl .f32, .fl .f32, .fl .f32, .fl .f32, .fl .f32, .fl .f32] x3)⟩, ⟨true, some (.tab [.fl .f32] x4)⟩, ⟨true, some (.tab [.fl .f32] x5)⟩, ⟨true, some (.tab [.int .i64, .int .i64, .fl .f32, .fl .f32] x6)⟩] => if f0 = 0 ∧ f1 = 0 ∧ f2 = 0 ∧ f3 = 1 ∧ f4 = 2 ∧ f5 = 3 ∧ f6 = 1 ∧ f7 = 4 then [((Nat.beq (r65l1 m x0 x1 x2 x3 x4 x5 x6) 0), .ret, [.pointer (some ⟨0, 0, some 0⟩), .bool false, .int .i64 x0], ⟨[⟨true, (some (.cells [wsl 2, wsl 3, wsl 1, wsl 4]))⟩, ⟨true, (some (.tab sc0 x3))⟩, ⟨true, (some (.tab [.fl .f32] x4))⟩, ⟨true, (some (.tab [.fl .f32] x5))⟩, ⟨true, (some (.tab sc1 x6))⟩], 5, []⟩), ((Nat.beq (r65l1 m x0 x1 x2 x3 x4 x5 x6) 1), .exit 2, [.pointer (some ⟨0, 0, some 0⟩), anyV, .int .i64 x0], ⟨[⟨true, (some (.cells [wsl 2, wsl 3, wsl 1, wsl 4]))⟩, ⟨true, (some (.tab sc0 x3))⟩, ⟨true, (some (.tab [.fl .f32] x4))⟩, ⟨true, (some (.tab [.fl .f32] x5))⟩, ⟨true, (some (.tab sc1 x6))⟩], 5, []⟩)] else noQ vals s
 | _, _ => noQ vals s
noncomputable def w65l1 (ih : Int → Int → Int → List (List Int) → List (List Int) → List (List Int) → List (List Int) → Nat) (x0 x1 x2 : Int) (x3 x4 x5 x6 : List (List Int)) : Option (Fin' × List Value × St) :=
 (cond (decide ((x2 : Int) < x1))
 (cond ((decide ((0 : Int) ≤ x2)) && (Nat.blt (Int.toNat x2) x3.length)) (cond (Nat.blt (Int.toNat x2) x3.length) (cond (!(r114 ((x3.getD (Int.toNat x2) []).getD 0 0) ((x3.getD (Int.toNat x2) []).getD 1 0) x0)) (a65l1 x0 x1 x2 x3 x4 x5 x6 (0)) (cond (!(r111 (Int.toNat ((x3.getD (Int.toNat x2) []).getD 2 0)))) (a65l1 x0 x1 x2 x3 x4 x5 x6 (0)) (cond (!(r115 (Int.toNat ((x3.getD (Int.toNat x2) []).getD 2 0)) 1015021568 1120403456)) (a65l1 x0 x1 x2 x3 x4 x5 x6 (0)) (cond (!(r113 (Int.toNat ((x3.getD (Int.toNat x2) []).getD 3 0)))) (a65l1 x0 x1 x2 x3 x4 x5 x6 (0)) (cond (!(r68 (Int.toNat ((x3.getD (Int.toNat x2) []).getD 4 0)))) (a65l1 x0 x1 x2 x3 x4 x5 x6 (0)) (cond (!(r68 (Int.toNat ((x3.getD (Int.toNat x2) []).getD 5 0)))) (a65l1 x0 x1 x2 x3 x4 x5 x6 (0)) (cond (!(r68 (Int.toNat ((x3.getD (Int.toNat x2) []).getD 6 0)))) (a65l1 x0 x1 x2 x3 x4 x5 x6 (0)) (cond (!(r68 (Int.toNat ((x3.getD (Int.toNat x2) []).getD 7 0)))) (a65l1 x0 x1 x2 x3 x4 x5 x6 (0)) (u65l1 x0 x1 x2 x3 x4 x5 x6 (ih x0 x1 (IntKind.i64.wrap (x2 + 1)) x3 x4 x5 x6)))))))))) none) none)
 (a65l1 x0 x1 x2 x3 x4 x5 x6 (1)))
set_option maxRecDepth 100000 in
set_option maxHeartbeats 4000000 in
theorem e65l1 (m : Nat) (x0 x1 x2 : Int) (x3 x4 x5 x6 : List (List Int)) : evC Try.prog ext T40 L65_1 200 (loopN Try.f65 1) (loopTail ([1, 3, 61, 62, 63], []) [1, 2, 3] [] (sumK 129 [1, 3, 61, 62, 63] [1, 2, 3] (q65l1 m))) (frameOf 129 [1, 3, 61, 62, 63] [.pointer (some ⟨0, 0, some 0⟩), .int .i64 x0, wsl 1, .int .i64 x1, .int .i64 x2]) ⟨[⟨true, (some (.cells [wsl 2, wsl 3, wsl 1, wsl 4]))⟩, ⟨true, (some (.tab sc0 x3))⟩, ⟨true, (some (.tab [.fl .f32] x4))⟩, ⟨true, (some (.tab [.fl .f32] x5))⟩, ⟨true, (some (.tab sc1 x6))⟩], 5, []⟩ = firstT ([((Nat.beq (r65l1 (m + 1) x0 x1 x2 x3 x4 x5 x6) 0), .ret, [.pointer (some ⟨0, 0, some 0⟩), .bool false, .int .i64 x0], ⟨[⟨true, (some (.cells [wsl 2, wsl 3, wsl 1, wsl 4]))⟩, ⟨true, (some (.tab sc0 x3))⟩, ⟨true, (some (.tab [.fl .f32] x4))⟩, ⟨true, (some (.tab [.fl .f32] x5))⟩, ⟨true, (some (.tab sc1 x6))⟩], 5, []⟩), ((Nat.beq (r65l1 (m + 1) x0 x1 x2 x3 x4 x5 x6) 1), .exit 2, [.pointer (some ⟨0, 0, some 0⟩), anyV, .int .i64 x0], ⟨[⟨true, (some (.cells [wsl 2, wsl 3, wsl 1, wsl 4]))⟩, ⟨true, (some (.tab sc0 x3))⟩, ⟨true, (some (.tab [.fl .f32] x4))⟩, ⟨true, (some (.tab [.fl .f32] x5))⟩, ⟨true, (some (.tab sc1 x6))⟩], 5, []⟩)].map fun (b, x) => (b, (x.1, frameOf 129 [1, 2, 3] x.2.1, x.2.2))) :=
 (show _ = w65l1 (r65l1 m) x0 x1 x2 x3 x4 x5 x6 from by kernel_rfl).trans
 (show w65l1 (r65l1 m) x0 x1 x2 x3 x4 x5 x6 = a65l1 x0 x1 x2 x3 x4 x5 x6 (r65l1 (m + 1) x0 x1 x2 x3 x4 x5 x6) from by unfold w65l1; show _ = a65l1 x0 x1 x2 x3 x4 x5 x6 (b65l1 (r65l1 m) x0 x1 x2 x3 x4 x5 x6); unfold b65l1; exact (cond_both (a65l1 x0 x1 x2 x3 x4 x5 x6) _ (fun h0 => (cond_both (a65l1 x0 x1 x2 x3 x4 x5 x6) _ (fun h1 => (cond_t (ev_and2 h1) (cond_app (a65l1 x0 x1 x2 x3 x4 x5 x6) _ rfl (cond_app (a65l1 x0 x1 x2 x3 x4 x5 x6) _ rfl (cond_app (a65l1 x0 x1 x2 x3 x4 x5 x6) _ rfl (cond_app (a65l1 x0 x1 x2 x3 x4 x5 x6) _ rfl (cond_app (a65l1 x0 x1 x2 x3 x4 x5 x6) _ rfl (cond_app (a65l1 x0 x1 x2 x3 x4 x5 x6) _ rfl (cond_app (a65l1 x0 x1 x2 x3 x4 x5 x6) _ rfl (cond_app (a65l1 x0 x1 x2 x3 x4 x5 x6) _ rfl (v65l1 x0 x1 x2 x3 x4 x5 x6 ((r65l1 m) x0 x1 (IntKind.i64.wrap (x2 + 1)) x3 x4 x5 x6)))))))))))) (fun h1 => rfl))) (fun h0 => rfl)))
set_option maxRecDepth 100000 in
set_option maxHeartbeats 4000000 in
theorem qm65l1 : ∀ m, SumKOk Try.prog (loopN Try.f65 1) 129 [1, 3, 61, 62, 63] [1, 2, 3] (q65l1 m) := by
  intro m
  induction m with
  | zero =>
    intro vals s x h1 h2 h3
    unfold q65l1 at h3; split at h3
    · rename_i h; split at h3
      · rename_i hc; obtain ⟨rfl, rfl, rfl, rfl, rfl, rfl, rfl, rfl⟩ := hc; exact absurd h3 (by simp [r65l1, firstT, Nat.beq])
      · exact noQ_ok _ _ _ h1 h2 h3
    · exact noQ_ok _ _ _ h1 h2 h3
  | succ m ih =>
    intro vals s x h1 h2 h3
    unfold q65l1 at h3; split at h3
    · rename_i h; split at h3
      · rename_i hc; obtain ⟨rfl, rfl, rfl, rfl, rfl, rfl, rfl, rfl⟩ := hc; exact sum_step ok40 extOk mixed (lok65_1.inner (by kernel_rfl)) ih h1 h2 h (e65l1 m _ _ _ _ _ _ _) rfl h3
      · exact noQ_ok _ _ _ h1 h2 h3
    · exact noQ_ok _ _ _ h1 h2 h3
noncomputable def Q65l1 : SumK := fun vals s => q65l1 (fuelOf vals s.h) vals s
theorem qok65l1 : SumKOk Try.prog (loopN Try.f65 1) 129 [1, 3, 61, 62, 63] [1, 2, 3] Q65l1 := fuel_ok qm65l1 fuelOf
noncomputable def L65_2 : LoopT := addL L65_1 12 ([1, 3, 61, 62, 63], []) (sumK 129 [1, 3, 61, 62, 63] [1, 2, 3] Q65l1)
theorem lok65_2 : LfOkF Try.prog L65_2 Try.f65 := lfOkF_add lok65_1 qok65l1 (by kernel_rfl) (by kernel_rfl) (by kernel_rfl)

/-- impl.isUpTo -/
noncomputable def r67 (x0 x1 : Nat) : Bool :=
 cond (r111 x0) ((flt .f32 x0 x1 || feq .f32 x0 x1)) (false)
noncomputable def a67 (x0 x1 : Nat) (p : Bool) : Res := firstT [(true, .bool p, st0)]
noncomputable def w67 (x0 x1 : Nat) : Res :=
 (cond (r111 x0)
 (a67 x0 x1 ((flt .f32 x0 x1 || feq .f32 x0 x1)))
 (a67 x0 x1 (false)))
set_option maxRecDepth 100000 in
set_option maxHeartbeats 4000000 in
theorem e67 (x0 x1 : Nat) : evFn Try.prog ext T40 noL 200 Try.f67 [.float .f32 x0, .float .f32 x1] st0 = firstT [(true, .bool (r67 x0 x1), st0)] :=
 (show _ = w67 x0 x1 from by kernel_rfl).trans
 (show w67 x0 x1 = a67 x0 x1 (r67 x0 x1) from by unfold w67 r67; exact (cond_app (a67 x0 x1) _ rfl rfl))
noncomputable def s67 (args : List Value) (s : St) : List (Bool × Value × St) :=
 match args, s.h with
 | [.float .f32 x0, .float .f32 x1], [] => [(true, .bool (r67 x0 x1), st0)]
 | _, _ => T40 67 args s
noncomputable def T41 : CallF := addF T40 67 s67
set_option maxRecDepth 100000 in
set_option maxHeartbeats 4000000 in
theorem ok41 : CfOk Try.prog T41 := by
  refine cfOk_add ok40 fun args s r s' h1 h2 h3 => ?_
  unfold s67 at h3; split at h3
  · rename_i h; exact callOk ok40 Try.func67 h1 h2 h (lfOkF_no _ _).body (e67 _ _) rfl h3
  · exact ok40 _ _ _ _ _ h1 h2 h3

/-- impl.ValidFlat, loop 3: one round -/
noncomputable def b65l3 (ih : Int → Int → Int → List (List Int) → Nat) (x0 x1 x2 : Int) (x3 : List (List Int)) : Nat :=
 cond (decide ((x2 : Int) < x1)) (cond ((decide ((0 : Int) ≤ x2)) && (Nat.blt (Int.toNat x2) x3.length)) (cond (!(r114 ((x3.getD (Int.toNat x2) []).getD 0 0) ((x3.getD (Int.toNat x2) []).getD 1 0) x0)) (0) (cond (!(r67 (Int.toNat ((x3.getD (Int.toNat x2) []).getD 2 0)) 1120403456)) (0) (cond (!(r67 (Int.toNat ((x3.getD (Int.toNat x2) []).getD 3 0)) 1092616192)) (0) (ih x0 x1 (IntKind.i64.wrap (x2 + 1)) x3)))) (2)) (1)
noncomputable def r65l3 : Nat → Int → Int → Int → List (List Int) → Nat
 | 0 => fun _ _ _ _ => (2)
 | m + 1 => b65l3 (r65l3 m)
noncomputable def a65l3 (x0 x1 x2 : Int) (x3 : List (List Int)) (p : Nat) : Option (Fin' × List Value × St) := firstT ([((Nat.beq p 0), .ret, [.bool false], ⟨[⟨true, (some (.tab sc1 x3))⟩], 1, []⟩), ((Nat.beq p 1), .exit 6, [anyV], ⟨[⟨true, (some (.tab sc1 x3))⟩], 1, []⟩)].map fun (b, x) => (b, (x.1, frameOf 129 [2] x.2.1, x.2.2)))
noncomputable def u65l3 (x0 x1 x2 : Int) (x3 : List (List Int)) (p : Nat) : Option (Fin' × List Value × St) := alts ([((Nat.beq p 0), .ret, [.bool false], ⟨[⟨true, (some (.tab sc1 x3))⟩], 1, []⟩), ((Nat.beq p 1), .exit 6, [anyV], ⟨[⟨true, (some (.tab sc1 x3))⟩], 1, []⟩)].map fun (b, x) => (b, (x.1, frameOf 129 [2] x.2.1, x.2.2))) some
theorem v65l3 (x0 x1 x2 : Int) (x3 : List (List Int)) (p : Nat) : u65l3 x0 x1 x2 x3 p = a65l3 x0 x1 x2 x3 p := alts_first _
noncomputable def q65l3 (m : Nat) : SumK := fun vals s =>
 match vals, s.h with
 | [.int .i64 x0, .iface f0 .nilIface, .int .i64 x1, .int .i64 x2], [⟨true, some (.tab [.int .i64, .int .i64, .fl .f32, .fl .f32] x3)⟩] => if f0 = 0 then [((Nat.beq (r65l3 m x0 x1 x2 x3) 0), .ret, [.bool false], ⟨[⟨true, (some (.tab sc1 x3))⟩], 1, []⟩), ((Nat.beq (r65l3 m x0 x1 x2 x3) 1), .exit 6, [anyV], ⟨[⟨true, (some (.tab sc1 x3))⟩], 1, []⟩)] else noQ vals s
 | _, _ => noQ vals s
noncomputable def w65l3 (ih : Int → Int → Int → List (List Int) → Nat) (x0 x1 x2 : Int) (x3 : List (List Int)) : Option (Fin' × List Value × St) :=
 (cond (decide ((x2 : Int) < x1))
 (cond ((decide ((0 : Int) ≤ x2)) && (Nat.blt (Int.toNat x2) x3.length)) (cond (Nat.blt (Int.toNat x2) x3.length) (cond (!(r114 ((x3.getD (Int.toNat x2) []).getD 0 0) ((x3.getD (Int.toNat x2) []).getD 1 0) x0)) (a65l3 x0 x1 x2 x3 (0)) (cond (!(r67 (Int.toNat ((x3.getD (Int.toNat x2) []).getD 2 0)) 1120403456)) (a65l3 x0 x1 x2 x3 (0)) (cond (!(r67 (Int.toNat ((x3.getD (Int.toNat x2) []).getD 3 0)) 1092616192)) (a65l3 x0 x1 x2 x3 (0)) (u65l3 x0 x1 x2 x3 (ih x0 x1 (IntKind.i64.wrap (x2 + 1)) x3))))) none) none)
 (a65l3 x0 x1 x2 x3 (1)))
set_option maxRecDepth 100000 in
set_option maxHeartbeats 4000000 in
theorem e65l3 (m : Nat) (x0 x1 x2 : Int) (x3 : List (List Int)) : evC Try.prog ext T41 L65_2 200 (loopN Try.f65 3) (loopTail ([3, 103, 104, 105], []) [2] [] (sumK 129 [3, 103, 104, 105] [2] (q65l3 m))) (frameOf 129 [3, 103, 104, 105] [.int .i64 x0, wsl 0, .int .i64 x1, .int .i64 x2]) ⟨[⟨true, (some (.tab sc1 x3))⟩], 1, []⟩ = firstT ([((Nat.beq (r65l3 (m + 1) x0 x1 x2 x3) 0), .ret, [.bool false], ⟨[⟨true, (some (.tab sc1 x3))⟩], 1, []⟩), ((Nat.beq (r65l3 (m + 1) x0 x1 x2 x3) 1), .exit 6, [anyV], ⟨[⟨true, (some (.tab sc1 x3))⟩], 1, []⟩)].map fun (b, x) => (b, (x.1, frameOf 129 [2] x.2.1, x.2.2))) :=
 (show _ = w65l3 (r65l3 m) x0 x1 x2 x3 from by kernel_rfl).trans
 (show w65l3 (r65l3 m) x0 x1 x2 x3 = a65l3 x0 x1 x2 x3 (r65l3 (m + 1) x0 x1 x2 x3) from by unfold w65l3; show _ = a65l3 x0 x1 x2 x3 (b65l3 (r65l3 m) x0 x1 x2 x3); unfold b65l3; exact (cond_both (a65l3 x0 x1 x2 x3) _ (fun h0 => (cond_both (a65l3 x0 x1 x2 x3) _ (fun h1 => (cond_t (ev_and2 h1) (cond_app (a65l3 x0 x1 x2 x3) _ rfl (cond_app (a65l3 x0 x1 x2 x3) _ rfl (cond_app (a65l3 x0 x1 x2 x3) _ rfl (v65l3 x0 x1 x2 x3 ((r65l3 m) x0 x1 (IntKind.i64.wrap (x2 + 1)) x3))))))) (fun h1 => rfl))) (fun h0 => rfl)))
set_option maxRecDepth 100000 in
set_option maxHeartbeats 4000000 in
theorem qm65l3 : ∀ m, SumKOk Try.prog (loopN Try.f65 3) 129 [3, 103, 104, 105] [2] (q65l3 m) := by
  intro m
  induction m with
  | zero =>
    intro vals s x h1 h2 h3
    unfold q65l3 at h3; split at h3
    · rename_i h; split at h3
      · rename_i hc; obtain ⟨rfl⟩ := hc; exact absurd h3 (by simp [r65l3, firstT, Nat.beq])
      · exact noQ_ok _ _ _ h1 h2 h3
    · exact noQ_ok _ _ _ h1 h2 h3
  | succ m ih =>
    intro vals s x h1 h2 h3
    unfold q65l3 at h3; split at h3
    · rename_i h; split at h3
      · rename_i hc; obtain ⟨rfl⟩ := hc; exact sum_step ok41 extOk mixed (lok65_2.inner (by kernel_rfl)) ih h1 h2 h (e65l3 m _ _ _ _) rfl h3
      · exact noQ_ok _ _ _ h1 h2 h3
    · exact noQ_ok _ _ _ h1 h2 h3
noncomputable def Q65l3 : SumK := fun vals s => q65l3 (fuelOf vals s.h) vals s
theorem qok65l3 : SumKOk Try.prog (loopN Try.f65 3) 129 [3, 103, 104, 105] [2] Q65l3 := fuel_ok qm65l3 fuelOf
noncomputable def L65_3 : LoopT := addL L65_2 24 ([3, 103, 104, 105], []) (sumK 129 [3, 103, 104, 105] [2] Q65l3)
theorem lok65_3 : LfOkF Try.prog L65_3 Try.f65 := lfOkF_add lok65_2 qok65l3 (by kernel_rfl) (by kernel_rfl) (by kernel_rfl)

/-- impl.ValidFlat -/
noncomputable def r65 (x0 x1 x2 x3 : List (List Int)) : Nat × Bool :=
 let c184 := (r65l0 (1000 + x3.length + x2.length + x1.length + x0.length) ((x0.length : Nat) : Int) ((x0.length : Nat) : Int) 0 x0 x1 x2 x3)
 let c185 := (r65l1 (1000 + x3.length + x1.length + x0.length + x2.length) ((x0.length : Nat) : Int) ((x2.length : Nat) : Int) 0 x2 x0 x1 x3)
 cond (decide ((((x0.length : Nat) : Int) : Int) < 1)) (0, false) (cond (decide ((((x0.length : Nat) : Int) : Int) > 5)) (0, false) (cond ((((x1.length : Nat) : Int) : Int) != ((x0.length : Nat) : Int)) (0, false) (cond (decide ((((x2.length : Nat) : Int) : Int) > 10)) (0, false) (cond (decide ((((x3.length : Nat) : Int) : Int) > 8)) (0, false) (cond (Nat.beq c184 0) (0, false) (cond (Nat.beq c184 1) (cond (Nat.beq c185 0) (0, false) (cond (Nat.beq c185 1) (cond (Nat.beq (r65l3 (1000 + x3.length) ((x0.length : Nat) : Int) ((x3.length : Nat) : Int) 0 x3) 0) (0, false) (cond (Nat.beq (r65l3 (1000 + x3.length) ((x0.length : Nat) : Int) ((x3.length : Nat) : Int) 0 x3) 1) (0, true) (1, false))) (1, false))) (1, false)))))))
noncomputable def a65 (x0 x1 x2 x3 : List (List Int)) (p : Nat × Bool) : Res := firstT [((Nat.beq (p.1) 0), .bool (p.2), ⟨[⟨true, (some (.tab [.fl .f32] x0))⟩, ⟨true, (some (.tab [.fl .f32] x1))⟩, ⟨true, (some (.tab sc0 x2))⟩, ⟨true, (some (.tab sc1 x3))⟩], 4, []⟩)]
noncomputable def w65 (x0 x1 x2 x3 : List (List Int)) : Res :=
 let c184 := (r65l0 (1000 + x3.length + x2.length + x1.length + x0.length) ((x0.length : Nat) : Int) ((x0.length : Nat) : Int) 0 x0 x1 x2 x3)
 let c185 := (r65l1 (1000 + x3.length + x1.length + x0.length + x2.length) ((x0.length : Nat) : Int) ((x2.length : Nat) : Int) 0 x2 x0 x1 x3)
 (cond (decide ((((x0.length : Nat) : Int) : Int) < 1))
 (a65 x0 x1 x2 x3 (0, false))
 (cond (decide ((((x0.length : Nat) : Int) : Int) > 5)) (a65 x0 x1 x2 x3 (0, false)) (cond ((((x1.length : Nat) : Int) : Int) != ((x0.length : Nat) : Int)) (a65 x0 x1 x2 x3 (0, false)) (cond (decide ((((x2.length : Nat) : Int) : Int) > 10)) (a65 x0 x1 x2 x3 (0, false)) (cond (decide ((((x3.length : Nat) : Int) : Int) > 8)) (a65 x0 x1 x2 x3 (0, false)) (cond (Nat.beq c184 0) (a65 x0 x1 x2 x3 (0, false)) (cond (Nat.beq c184 1) (cond (Nat.beq c185 0) (a65 x0 x1 x2 x3 (0, false)) (cond (Nat.beq c185 1) (cond (Nat.beq (r65l3 (1000 + x3.length) ((x0.length : Nat) : Int) ((x3.length : Nat) : Int) 0 x3) 0) (a65 x0 x1 x2 x3 (0, false)) (cond (Nat.beq (r65l3 (1000 + x3.length) ((x0.length : Nat) : Int) ((x3.length : Nat) : Int) 0 x3) 1) (a65 x0 x1 x2 x3 (0, true)) none)) none)) none)))))))
set_option maxRecDepth 100000 in
set_option maxHeartbeats 4000000 in
theorem e65 (x0 x1 x2 x3 : List (List Int)) : evFn Try.prog ext T41 L65_3 200 Try.f65 [.agg #[wsl 0, wsl 1, wsl 2, wsl 3]] ⟨[⟨true, (some (.tab [.fl .f32] x0))⟩, ⟨true, (some (.tab [.fl .f32] x1))⟩, ⟨true, (some (.tab sc0 x2))⟩, ⟨true, (some (.tab sc1 x3))⟩], 4, []⟩ = firstT [((Nat.beq ((r65 x0 x1 x2 x3).1) 0), .bool ((r65 x0 x1 x2 x3).2), ⟨[⟨true, (some (.tab [.fl .f32] x0))⟩, ⟨true, (some (.tab [.fl .f32] x1))⟩, ⟨true, (some (.tab sc0 x2))⟩, ⟨true, (some (.tab sc1 x3))⟩], 4, []⟩)] :=
 (show _ = w65 x0 x1 x2 x3 from by kernel_rfl).trans
 (show w65 x0 x1 x2 x3 = a65 x0 x1 x2 x3 (r65 x0 x1 x2 x3) from by unfold w65 r65; exact (cond_app (a65 x0 x1 x2 x3) _ rfl (cond_app (a65 x0 x1 x2 x3) _ rfl (cond_app (a65 x0 x1 x2 x3) _ rfl (cond_app (a65 x0 x1 x2 x3) _ rfl (cond_app (a65 x0 x1 x2 x3) _ rfl (cond_app (a65 x0 x1 x2 x3) _ rfl (cond_app (a65 x0 x1 x2 x3) _ (cond_app (a65 x0 x1 x2 x3) _ rfl (cond_app (a65 x0 x1 x2 x3) _ (cond_app (a65 x0 x1 x2 x3) _ rfl (cond_app (a65 x0 x1 x2 x3) _ rfl rfl)) rfl)) rfl))))))))
noncomputable def s65 (args : List Value) (s : St) : List (Bool × Value × St) :=
 match args, s.h with
 | [.agg ⟨[.iface f0 .nilIface, .iface f1 .nilIface, .iface f2 .nilIface, .iface f3 .nilIface]⟩], [⟨true, some (.tab [.fl .f32] x0)⟩, ⟨true, some (.tab [.fl .f32] x1)⟩, ⟨true, some (.tab [.int .i64, .int .i64, .fl .f32, .fl .f32, .fl .f32, .fl .f32, .fl .f32, .fl .f32] x2)⟩, ⟨true, some (.tab [.int .i64, .int .i64, .fl .f32, .fl .f32] x3)⟩] => if f0 = 0 ∧ f1 = 1 ∧ f2 = 2 ∧ f3 = 3 then [((Nat.beq ((r65 x0 x1 x2 x3).1) 0), .bool ((r65 x0 x1 x2 x3).2), ⟨[⟨true, (some (.tab [.fl .f32] x0))⟩, ⟨true, (some (.tab [.fl .f32] x1))⟩, ⟨true, (some (.tab sc0 x2))⟩, ⟨true, (some (.tab sc1 x3))⟩], 4, []⟩)] else T41 65 args s
 | _, _ => T41 65 args s
noncomputable def T42 : CallF := addF T41 65 s65
set_option maxRecDepth 100000 in
set_option maxHeartbeats 4000000 in
theorem ok42 : CfOk Try.prog T42 := by
  refine cfOk_add ok41 fun args s r s' h1 h2 h3 => ?_
  unfold s65 at h3; split at h3
  · rename_i h; split at h3
    · rename_i hc; obtain ⟨rfl, rfl, rfl, rfl⟩ := hc; exact callOk ok41 Try.func65 h1 h2 h lok65_3.body (e65 _ _ _ _) rfl h3
    · exact ok41 _ _ _ _ _ h1 h2 h3
  · exact ok41 _ _ _ _ _ h1 h2 h3

/-- impl.isOutside -/
noncomputable def r66 (x0 : Nat) : Bool :=
 ((r115 x0 3262119936 1114636288))
noncomputable def a66 (x0 : Nat) (p : Bool) : Res := firstT [(true, .bool p, st0)]
noncomputable def w66 (x0 : Nat) : Res :=
 (a66 x0 ((r115 x0 3262119936 1114636288)))
set_option maxRecDepth 100000 in
set_option maxHeartbeats 4000000 in
theorem e66 (x0 : Nat) : evFn Try.prog ext T42 noL 200 Try.f66 [.float .f32 x0] st0 = firstT [(true, .bool (r66 x0), st0)] :=
 (show _ = w66 x0 from by kernel_rfl).trans
 (show w66 x0 = a66 x0 (r66 x0) from by unfold w66 r66; exact rfl)
noncomputable def s66 (args : List Value) (s : St) : List (Bool × Value × St) :=
 match args, s.h with
 | [.float .f32 x0], [] => [(true, .bool (r66 x0), st0)]
 | _, _ => T42 66 args s
noncomputable def T43 : CallF := addF T42 66 s66
set_option maxRecDepth 100000 in
set_option maxHeartbeats 4000000 in
theorem ok43 : CfOk Try.prog T43 := by
  refine cfOk_add ok42 fun args s r s' h1 h2 h3 => ?_
  unfold s66 at h3; split at h3
  · rename_i h; exact callOk ok42 Try.func66 h1 h2 h (lfOkF_no _ _).body (e66 _) rfl h3
  · exact ok42 _ _ _ _ _ h1 h2 h3

/-- impl.areGains, loop 0: one round -/
noncomputable def b105l0 (ih : Int → Int → List (List Int) → Nat) (x0 x1 : Int) (x2 : List (List Int)) : Nat :=
 cond (decide ((x1 : Int) < x0)) (cond ((decide ((0 : Int) ≤ x1)) && (Nat.blt (Int.toNat x1) x2.length)) (cond (!(r115 (Int.toNat ((x2.getD (Int.toNat x1) []).getD 0 0)) 3351465984 1203982336)) (0) (ih x0 (IntKind.i64.wrap (x1 + 1)) x2)) (2)) (1)
noncomputable def r105l0 : Nat → Int → Int → List (List Int) → Nat
 | 0 => fun _ _ _ => (2)
 | m + 1 => b105l0 (r105l0 m)
noncomputable def a105l0 (x0 x1 : Int) (x2 : List (List Int)) (p : Nat) : Option (Fin' × List Value × St) := firstT ([((Nat.beq p 0), .ret, [.bool false], ⟨[⟨true, (some (.tab [.fl .f32] x2))⟩], 1, []⟩), ((Nat.beq p 1), .exit 0, [anyV], ⟨[⟨true, (some (.tab [.fl .f32] x2))⟩], 1, []⟩)].map fun (b, x) => (b, (x.1, frameOf 23 [4] x.2.1, x.2.2)))
noncomputable def u105l0 (x0 x1 : Int) (x2 : List (List Int)) (p : Nat) : Option (Fin' × List Value × St) := alts ([((Nat.beq p 0), .ret, [.bool false], ⟨[⟨true, (some (.tab [.fl .f32] x2))⟩], 1, []⟩), ((Nat.beq p 1), .exit 0, [anyV], ⟨[⟨true, (some (.tab [.fl .f32] x2))⟩], 1, []⟩)].map fun (b, x) => (b, (x.1, frameOf 23 [4] x.2.1, x.2.2))) some
theorem v105l0 (x0 x1 : Int) (x2 : List (List Int)) (p : Nat) : u105l0 x0 x1 x2 p = a105l0 x0 x1 x2 p := alts_first _
noncomputable def q105l0 (m : Nat) : SumK := fun vals s =>
 match vals, s.h with
 | [.iface f0 .nilIface, .int .i64 x0, .int .i64 x1], [⟨true, some (.tab [.fl .f32] x2)⟩] => if f0 = 0 then [((Nat.beq (r105l0 m x0 x1 x2) 0), .ret, [.bool false], ⟨[⟨true, (some (.tab [.fl .f32] x2))⟩], 1, []⟩), ((Nat.beq (r105l0 m x0 x1 x2) 1), .exit 0, [anyV], ⟨[⟨true, (some (.tab [.fl .f32] x2))⟩], 1, []⟩)] else noQ vals s
 | _, _ => noQ vals s
noncomputable def w105l0 (ih : Int → Int → List (List Int) → Nat) (x0 x1 : Int) (x2 : List (List Int)) : Option (Fin' × List Value × St) :=
 (cond (decide ((x1 : Int) < x0))
 (cond ((decide ((0 : Int) ≤ x1)) && (Nat.blt (Int.toNat x1) x2.length)) (cond (Nat.blt (Int.toNat x1) x2.length) (cond (!(r115 (Int.toNat ((x2.getD (Int.toNat x1) []).getD 0 0)) 3351465984 1203982336)) (a105l0 x0 x1 x2 (0)) (u105l0 x0 x1 x2 (ih x0 (IntKind.i64.wrap (x1 + 1)) x2))) none) none)
 (a105l0 x0 x1 x2 (1)))
set_option maxRecDepth 100000 in
set_option maxHeartbeats 4000000 in
theorem e105l0 (m : Nat) (x0 x1 : Int) (x2 : List (List Int)) : evC Try.prog ext T43 noL 200 (loopN Try.f105 0) (loopTail ([13, 14, 15], []) [4] [] (sumK 23 [13, 14, 15] [4] (q105l0 m))) (frameOf 23 [13, 14, 15] [wsl 0, .int .i64 x0, .int .i64 x1]) ⟨[⟨true, (some (.tab [.fl .f32] x2))⟩], 1, []⟩ = firstT ([((Nat.beq (r105l0 (m + 1) x0 x1 x2) 0), .ret, [.bool false], ⟨[⟨true, (some (.tab [.fl .f32] x2))⟩], 1, []⟩), ((Nat.beq (r105l0 (m + 1) x0 x1 x2) 1), .exit 0, [anyV], ⟨[⟨true, (some (.tab [.fl .f32] x2))⟩], 1, []⟩)].map fun (b, x) => (b, (x.1, frameOf 23 [4] x.2.1, x.2.2))) :=
 (show _ = w105l0 (r105l0 m) x0 x1 x2 from by kernel_rfl).trans
 (show w105l0 (r105l0 m) x0 x1 x2 = a105l0 x0 x1 x2 (r105l0 (m + 1) x0 x1 x2) from by unfold w105l0; show _ = a105l0 x0 x1 x2 (b105l0 (r105l0 m) x0 x1 x2); unfold b105l0; exact (cond_both (a105l0 x0 x1 x2) _ (fun h0 => (cond_both (a105l0 x0 x1 x2) _ (fun h1 => (cond_t (ev_and2 h1) (cond_app (a105l0 x0 x1 x2) _ rfl (v105l0 x0 x1 x2 ((r105l0 m) x0 (IntKind.i64.wrap (x1 + 1)) x2))))) (fun h1 => rfl))) (fun h0 => rfl)))
set_option maxRecDepth 100000 in
set_option maxHeartbeats 4000000 in
theorem qm105l0 : ∀ m, SumKOk Try.prog (loopN Try.f105 0) 23 [13, 14, 15] [4] (q105l0 m) := by
  intro m
  induction m with
  | zero =>
    intro vals s x h1 h2 h3
    unfold q105l0 at h3; split at h3
    · rename_i h; split at h3
      · rename_i hc; obtain ⟨rfl⟩ := hc; exact absurd h3 (by simp [r105l0, firstT, Nat.beq])
      · exact noQ_ok _ _ _ h1 h2 h3
    · exact noQ_ok _ _ _ h1 h2 h3
  | succ m ih =>
    intro vals s x h1 h2 h3
    unfold q105l0 at h3; split at h3
    · rename_i h; split at h3
      · rename_i hc; obtain ⟨rfl⟩ := hc; exact sum_step ok43 extOk mixed ((lfOkF_no _ _).inner (by kernel_rfl)) ih h1 h2 h (e105l0 m _ _ _) rfl h3
      · exact noQ_ok _ _ _ h1 h2 h3
    · exact noQ_ok _ _ _ h1 h2 h3
noncomputable def Q105l0 : SumK := fun vals s => q105l0 (fuelOf vals s.h) vals s
theorem qok105l0 : SumKOk Try.prog (loopN Try.f105 0) 23 [13, 14, 15] [4] Q105l0 := fuel_ok qm105l0 fuelOf
noncomputable def L105_1 : LoopT := addL noL 5 ([13, 14, 15], []) (sumK 23 [13, 14, 15] [4] Q105l0)
theorem lok105_1 : LfOkF Try.prog L105_1 Try.f105 := lfOkF_add (lfOkF_no _ _) qok105l0 (by kernel_rfl) (by kernel_rfl) (by kernel_rfl)

/-- impl.areGains -/
noncomputable def r105 (x0 x1 x2 x3 x4 : List (List Int)) : Nat × Bool :=
 cond ((((x4.length : Nat) : Int) : Int) != ((x0.length : Nat) : Int)) (0, false) (cond (Nat.beq (r105l0 (1000 + x4.length) ((x4.length : Nat) : Int) 0 x4) 0) (0, false) (cond (Nat.beq (r105l0 (1000 + x4.length) ((x4.length : Nat) : Int) 0 x4) 1) (0, true) (1, false)))
noncomputable def a105 (x0 x1 x2 x3 x4 : List (List Int)) (p : Nat × Bool) : Res := firstT [((Nat.beq (p.1) 0), .bool (p.2), ⟨[⟨true, (some (.tab [.fl .f32] x0))⟩, ⟨true, (some (.tab [.fl .f32] x1))⟩, ⟨true, (some (.tab sc0 x2))⟩, ⟨true, (some (.tab sc1 x3))⟩, ⟨true, (some (.tab [.fl .f32] x4))⟩], 5, []⟩)]
noncomputable def w105 (x0 x1 x2 x3 x4 : List (List Int)) : Res :=
 (cond ((((x4.length : Nat) : Int) : Int) != ((x0.length : Nat) : Int))
 (a105 x0 x1 x2 x3 x4 (0, false))
 (cond (Nat.beq (r105l0 (1000 + x4.length) ((x4.length : Nat) : Int) 0 x4) 0) (a105 x0 x1 x2 x3 x4 (0, false)) (cond (Nat.beq (r105l0 (1000 + x4.length) ((x4.length : Nat) : Int) 0 x4) 1) (a105 x0 x1 x2 x3 x4 (0, true)) none)))
set_option maxRecDepth 100000 in
set_option maxHeartbeats 4000000 in
theorem e105 (x0 x1 x2 x3 x4 : List (List Int)) : evFn Try.prog ext T43 L105_1 200 Try.f105 [.agg #[wsl 0, wsl 1, wsl 2, wsl 3], wsl 4] ⟨[⟨true, (some (.tab [.fl .f32] x0))⟩, ⟨true, (some (.tab [.fl .f32] x1))⟩, ⟨true, (some (.tab sc0 x2))⟩, ⟨true, (some (.tab sc1 x3))⟩, ⟨true, (some (.tab [.fl .f32] x4))⟩], 5, []⟩ = firstT [((Nat.beq ((r105 x0 x1 x2 x3 x4).1) 0), .bool ((r105 x0 x1 x2 x3 x4).2), ⟨[⟨true, (some (.tab [.fl .f32] x0))⟩, ⟨true, (some (.tab [.fl .f32] x1))⟩, ⟨true, (some (.tab sc0 x2))⟩, ⟨true, (some (.tab sc1 x3))⟩, ⟨true, (some (.tab [.fl .f32] x4))⟩], 5, []⟩)] :=
 (show _ = w105 x0 x1 x2 x3 x4 from by kernel_rfl).trans
 (show w105 x0 x1 x2 x3 x4 = a105 x0 x1 x2 x3 x4 (r105 x0 x1 x2 x3 x4) from by unfold w105 r105; exact (cond_app (a105 x0 x1 x2 x3 x4) _ rfl (cond_app (a105 x0 x1 x2 x3 x4) _ rfl (cond_app (a105 x0 x1 x2 x3 x4) _ rfl rfl))))
noncomputable def s105 (args : List Value) (s : St) : List (Bool × Value × St) :=
 match args, s.h with
 | [.agg ⟨[.iface f0 .nilIface, .iface f1 .nilIface, .iface f2 .nilIface, .iface f3 .nilIface]⟩, .iface f4 .nilIface], [⟨true, some (.tab [.fl .f32] x0)⟩, ⟨true, some (.tab [.fl .f32] x1)⟩, ⟨true, some (.tab [.int .i64, .int .i64, .fl .f32, .fl .f32, .fl .f32, .fl .f32, .fl .f32, .fl .f32] x2)⟩, ⟨true, some (.tab [.int .i64, .int .i64, .fl .f32, .fl .f32] x3)⟩, ⟨true, some (.tab [.fl .f32] x4)⟩] => if f0 = 0 ∧ f1 = 1 ∧ f2 = 2 ∧ f3 = 3 ∧ f4 = 4 then [((Nat.beq ((r105 x0 x1 x2 x3 x4).1) 0), .bool ((r105 x0 x1 x2 x3 x4).2), ⟨[⟨true, (some (.tab [.fl .f32] x0))⟩, ⟨true, (some (.tab [.fl .f32] x1))⟩, ⟨true, (some (.tab sc0 x2))⟩, ⟨true, (some (.tab sc1 x3))⟩, ⟨true, (some (.tab [.fl .f32] x4))⟩], 5, []⟩)] else T43 105 args s
 | _, _ => T43 105 args s
noncomputable def T44 : CallF := addF T43 105 s105
set_option maxRecDepth 100000 in
set_option maxHeartbeats 4000000 in
theorem ok44 : CfOk Try.prog T44 := by
  refine cfOk_add ok43 fun args s r s' h1 h2 h3 => ?_
  unfold s105 at h3; split at h3
  · rename_i h; split at h3
    · rename_i hc; obtain ⟨rfl, rfl, rfl, rfl, rfl⟩ := hc; exact callOk ok43 Try.func105 h1 h2 h lok105_1.body (e105 _ _ _ _ _) rfl h3
    · exact ok43 _ _ _ _ _ h1 h2 h3
  · exact ok43 _ _ _ _ _ h1 h2 h3

/-- impl.flatCode -/
noncomputable def r55 (x0 x1 : Nat) (x2 x3 x4 x5 x6 : List (List Int)) : Nat × Int :=
 cond (Nat.beq ((r65 x2 x3 x4 x5).1) 0) (cond (!((r65 x2 x3 x4 x5).2)) (0, 1) (cond (!(r66 x0)) (0, 2) (cond (!(r67 x1 1092616192)) (0, 2) (cond (Nat.beq ((r105 x2 x3 x4 x5 x6).1) 0) (cond (!((r105 x2 x3 x4 x5 x6).2)) (0, 2) (0, 0)) (1, 0))))) (1, 0)
noncomputable def a55 (x0 x1 : Nat) (x2 x3 x4 x5 x6 : List (List Int)) (p : Nat × Int) : Res := firstT [((Nat.beq (p.1) 0), .int .i64 (p.2), ⟨[⟨true, (some (.tab [.fl .f32] x2))⟩, ⟨true, (some (.tab [.fl .f32] x3))⟩, ⟨true, (some (.tab sc0 x4))⟩, ⟨true, (some (.tab sc1 x5))⟩, ⟨true, (some (.tab [.fl .f32] x6))⟩], 5, []⟩)]
noncomputable def w55 (x0 x1 : Nat) (x2 x3 x4 x5 x6 : List (List Int)) : Res :=
 (cond (Nat.beq ((r65 x2 x3 x4 x5).1) 0)
 (cond (!((r65 x2 x3 x4 x5).2)) (a55 x0 x1 x2 x3 x4 x5 x6 (0, 1)) (cond (!(r66 x0)) (a55 x0 x1 x2 x3 x4 x5 x6 (0, 2)) (cond (!(r67 x1 1092616192)) (a55 x0 x1 x2 x3 x4 x5 x6 (0, 2)) (cond (Nat.beq ((r105 x2 x3 x4 x5 x6).1) 0) (cond (!((r105 x2 x3 x4 x5 x6).2)) (a55 x0 x1 x2 x3 x4 x5 x6 (0, 2)) (a55 x0 x1 x2 x3 x4 x5 x6 (0, 0))) none))))
 none)
set_option maxRecDepth 100000 in
set_option maxHeartbeats 4000000 in
theorem e55 (x0 x1 : Nat) (x2 x3 x4 x5 x6 : List (List Int)) : evFn Try.prog ext T44 noL 200 Try.f55 [.agg #[wsl 0, wsl 1, wsl 2, wsl 3], .float .f32 x0, .float .f32 x1, wsl 4] ⟨[⟨true, (some (.tab [.fl .f32] x2))⟩, ⟨true, (some (.tab [.fl .f32] x3))⟩, ⟨true, (some (.tab sc0 x4))⟩, ⟨true, (some (.tab sc1 x5))⟩, ⟨true, (some (.tab [.fl .f32] x6))⟩], 5, []⟩ = firstT [((Nat.beq ((r55 x0 x1 x2 x3 x4 x5 x6).1) 0), .int .i64 ((r55 x0 x1 x2 x3 x4 x5 x6).2), ⟨[⟨true, (some (.tab [.fl .f32] x2))⟩, ⟨true, (some (.tab [.fl .f32] x3))⟩, ⟨true, (some (.tab sc0 x4))⟩, ⟨true, (some (.tab sc1 x5))⟩, ⟨true, (some (.tab [.fl .f32] x6))⟩], 5, []⟩)] :=
 (show _ = w55 x0 x1 x2 x3 x4 x5 x6 from by kernel_rfl).trans
 (show w55 x0 x1 x2 x3 x4 x5 x6 = a55 x0 x1 x2 x3 x4 x5 x6 (r55 x0 x1 x2 x3 x4 x5 x6) from by unfold w55 r55; exact (cond_app (a55 x0 x1 x2 x3 x4 x5 x6) _ (cond_app (a55 x0 x1 x2 x3 x4 x5 x6) _ rfl (cond_app (a55 x0 x1 x2 x3 x4 x5 x6) _ rfl (cond_app (a55 x0 x1 x2 x3 x4 x5 x6) _ rfl (cond_app (a55 x0 x1 x2 x3 x4 x5 x6) _ (cond_app (a55 x0 x1 x2 x3 x4 x5 x6) _ rfl rfl) rfl)))) rfl))
noncomputable def s55 (args : List Value) (s : St) : List (Bool × Value × St) :=
 match args, s.h with
 | [.agg ⟨[.iface f0 .nilIface, .iface f1 .nilIface, .iface f2 .nilIface, .iface f3 .nilIface]⟩, .float .f32 x0, .float .f32 x1, .iface f4 .nilIface], [⟨true, some (.tab [.fl .f32] x2)⟩, ⟨true, some (.tab [.fl .f32] x3)⟩, ⟨true, some (.tab [.int .i64, .int .i64, .fl .f32, .fl .f32, .fl .f32, .fl .f32, .fl .f32, .fl .f32] x4)⟩, ⟨true, some (.tab [.int .i64, .int .i64, .fl .f32, .fl .f32] x5)⟩, ⟨true, some (.tab [.fl .f32] x6)⟩] => if f0 = 0 ∧ f1 = 1 ∧ f2 = 2 ∧ f3 = 3 ∧ f4 = 4 then [((Nat.beq ((r55 x0 x1 x2 x3 x4 x5 x6).1) 0), .int .i64 ((r55 x0 x1 x2 x3 x4 x5 x6).2), ⟨[⟨true, (some (.tab [.fl .f32] x2))⟩, ⟨true, (some (.tab [.fl .f32] x3))⟩, ⟨true, (some (.tab sc0 x4))⟩, ⟨true, (some (.tab sc1 x5))⟩, ⟨true, (some (.tab [.fl .f32] x6))⟩], 5, []⟩)] else T44 55 args s
 | _, _ => T44 55 args s
noncomputable def T45 : CallF := addF T44 55 s55
set_option maxRecDepth 100000 in
set_option maxHeartbeats 4000000 in
theorem ok45 : CfOk Try.prog T45 := by
  refine cfOk_add ok44 fun args s r s' h1 h2 h3 => ?_
  unfold s55 at h3; split at h3
  · rename_i h; split at h3
    · rename_i hc; obtain ⟨rfl, rfl, rfl, rfl, rfl⟩ := hc; exact callOk ok44 Try.func55 h1 h2 h (lfOkF_no _ _).body (e55 _ _ _ _ _ _ _) rfl h3
    · exact ok44 _ _ _ _ _ h1 h2 h3
  · exact ok44 _ _ _ _ _ h1 h2 h3

/-- impl.IsShare -/
noncomputable def r63 (x0 : Nat) : Bool :=
 cond (r111 x0) ((flt .f32 x0 1065353216 || feq .f32 x0 1065353216)) (false)
noncomputable def a63 (x0 : Nat) (p : Bool) : Res := firstT [(true, .bool p, st0)]
noncomputable def w63 (x0 : Nat) : Res :=
 (cond (r111 x0)
 (a63 x0 ((flt .f32 x0 1065353216 || feq .f32 x0 1065353216)))
 (a63 x0 (false)))
set_option maxRecDepth 100000 in
set_option maxHeartbeats 4000000 in
theorem e63 (x0 : Nat) : evFn Try.prog ext T45 noL 200 Try.f63 [.float .f32 x0] st0 = firstT [(true, .bool (r63 x0), st0)] :=
 (show _ = w63 x0 from by kernel_rfl).trans
 (show w63 x0 = a63 x0 (r63 x0) from by unfold w63 r63; exact (cond_app (a63 x0) _ rfl rfl))
noncomputable def s63 (args : List Value) (s : St) : List (Bool × Value × St) :=
 match args, s.h with
 | [.float .f32 x0], [] => [(true, .bool (r63 x0), st0)]
 | _, _ => T45 63 args s
noncomputable def T46 : CallF := addF T45 63 s63
set_option maxRecDepth 100000 in
set_option maxHeartbeats 4000000 in
theorem ok46 : CfOk Try.prog T46 := by
  refine cfOk_add ok45 fun args s r s' h1 h2 h3 => ?_
  unfold s63 at h3; split at h3
  · rename_i h; exact callOk ok45 Try.func63 h1 h2 h (lfOkF_no _ _).body (e63 _) rfl h3
  · exact ok45 _ _ _ _ _ h1 h2 h3

/-- impl.ownFlat -/
noncomputable def r73 (x0 x1 x2 x3 : List (List Int)) : Nat × List (List Int) × List (List Int) × List (List Int) × List (List Int) :=
 cond (Nat.ble ((0 + x0.length) * 5) 140737488355328) (cond (Nat.ble ((0 + x1.length) * 5) 140737488355328) (cond (Nat.ble ((0 + x2.length) * 41) 140737488355328) (cond (Nat.ble ((0 + x3.length) * 25) 140737488355328) (0, (([] : List (List Int)) ++ x0), (([] : List (List Int)) ++ x1), (([] : List (List Int)) ++ x2), (([] : List (List Int)) ++ x3)) (1, [], [], [], [])) (1, [], [], [], [])) (1, [], [], [], [])) (1, [], [], [], [])
noncomputable def a73 (x0 x1 x2 x3 : List (List Int)) (p : Nat × List (List Int) × List (List Int) × List (List Int) × List (List Int)) : Res := firstT [((Nat.beq (p.1) 0), .agg #[wsl 4, wsl 5, wsl 6, wsl 7], ⟨[⟨true, (some (.tab [.fl .f32] x0))⟩, ⟨true, (some (.tab [.fl .f32] x1))⟩, ⟨true, (some (.tab sc0 x2))⟩, ⟨true, (some (.tab sc1 x3))⟩, ⟨true, (some (.tab [.fl .f32] (p.2.1)))⟩, ⟨true, (some (.tab [.fl .f32] (p.2.2.1)))⟩, ⟨true, (some (.tab sc0 (p.2.2.2.1)))⟩, ⟨true, (some (.tab sc1 (p.2.2.2.2)))⟩], 4, []⟩)]
noncomputable def w73 (x0 x1 x2 x3 : List (List Int)) : Res :=
 (cond (Nat.ble ((0 + x0.length) * 5) 140737488355328)
 (cond (Nat.ble ((0 + x1.length) * 5) 140737488355328) (cond (Nat.ble ((0 + x2.length) * 41) 140737488355328) (cond (Nat.ble ((0 + x3.length) * 25) 140737488355328) (a73 x0 x1 x2 x3 (0, (([] : List (List Int)) ++ x0), (([] : List (List Int)) ++ x1), (([] : List (List Int)) ++ x2), (([] : List (List Int)) ++ x3))) none) none) none)
 none)
set_option maxRecDepth 100000 in
set_option maxHeartbeats 4000000 in
theorem e73 (x0 x1 x2 x3 : List (List Int)) : evFn Try.prog ext T46 noL 200 Try.f73 [.agg #[wsl 0, wsl 1, wsl 2, wsl 3]] ⟨[⟨true, (some (.tab [.fl .f32] x0))⟩, ⟨true, (some (.tab [.fl .f32] x1))⟩, ⟨true, (some (.tab sc0 x2))⟩, ⟨true, (some (.tab sc1 x3))⟩], 4, []⟩ = firstT [((Nat.beq ((r73 x0 x1 x2 x3).1) 0), .agg #[wsl 4, wsl 5, wsl 6, wsl 7], ⟨[⟨true, (some (.tab [.fl .f32] x0))⟩, ⟨true, (some (.tab [.fl .f32] x1))⟩, ⟨true, (some (.tab sc0 x2))⟩, ⟨true, (some (.tab sc1 x3))⟩, ⟨true, (some (.tab [.fl .f32] ((r73 x0 x1 x2 x3).2.1)))⟩, ⟨true, (some (.tab [.fl .f32] ((r73 x0 x1 x2 x3).2.2.1)))⟩, ⟨true, (some (.tab sc0 ((r73 x0 x1 x2 x3).2.2.2.1)))⟩, ⟨true, (some (.tab sc1 ((r73 x0 x1 x2 x3).2.2.2.2)))⟩], 4, []⟩)] :=
 (show _ = w73 x0 x1 x2 x3 from by kernel_rfl).trans
 (show w73 x0 x1 x2 x3 = a73 x0 x1 x2 x3 (r73 x0 x1 x2 x3) from by unfold w73 r73; exact (cond_app (a73 x0 x1 x2 x3) _ (cond_app (a73 x0 x1 x2 x3) _ (cond_app (a73 x0 x1 x2 x3) _ (cond_app (a73 x0 x1 x2 x3) _ rfl rfl) rfl) rfl) rfl))
noncomputable def s73 (args : List Value) (s : St) : List (Bool × Value × St) :=
 match args, s.h with
 | [.agg ⟨[.iface f0 .nilIface, .iface f1 .nilIface, .iface f2 .nilIface, .iface f3 .nilIface]⟩], [⟨true, some (.tab [.fl .f32] x0)⟩, ⟨true, some (.tab [.fl .f32] x1)⟩, ⟨true, some (.tab [.int .i64, .int .i64, .fl .f32, .fl .f32, .fl .f32, .fl .f32, .fl .f32, .fl .f32] x2)⟩, ⟨true, some (.tab [.int .i64, .int .i64, .fl .f32, .fl .f32] x3)⟩] => if f0 = 0 ∧ f1 = 1 ∧ f2 = 2 ∧ f3 = 3 then [((Nat.beq ((r73 x0 x1 x2 x3).1) 0), .agg #[wsl 4, wsl 5, wsl 6, wsl 7], ⟨[⟨true, (some (.tab [.fl .f32] x0))⟩, ⟨true, (some (.tab [.fl .f32] x1))⟩, ⟨true, (some (.tab sc0 x2))⟩, ⟨true, (some (.tab sc1 x3))⟩, ⟨true, (some (.tab [.fl .f32] ((r73 x0 x1 x2 x3).2.1)))⟩, ⟨true, (some (.tab [.fl .f32] ((r73 x0 x1 x2 x3).2.2.1)))⟩, ⟨true, (some (.tab sc0 ((r73 x0 x1 x2 x3).2.2.2.1)))⟩, ⟨true, (some (.tab sc1 ((r73 x0 x1 x2 x3).2.2.2.2)))⟩], 4, []⟩)] else T46 73 args s
 | _, _ => T46 73 args s
noncomputable def T47 : CallF := addF T46 73 s73
set_option maxRecDepth 100000 in
set_option maxHeartbeats 4000000 in
theorem ok47 : CfOk Try.prog T47 := by
  refine cfOk_add ok46 fun args s r s' h1 h2 h3 => ?_
  unfold s73 at h3; split at h3
  · rename_i h; split at h3
    · rename_i hc; obtain ⟨rfl, rfl, rfl, rfl⟩ := hc; exact callOk ok46 Try.func73 h1 h2 h (lfOkF_no _ _).body (e73 _ _ _ _) rfl h3
    · exact ok46 _ _ _ _ _ h1 h2 h3
  · exact ok46 _ _ _ _ _ h1 h2 h3

/-- impl.roomFlows, loop 0: one round -/
noncomputable def b97l0 (ih : Nat → Nat → Int → Int → List (List Int) → List (List Int) → List (List Int) → List (List Int) → List (List Int) → (Nat × List (List Int))) (x0 x1 : Nat) (x2 x3 : Int) (x4 x5 x6 x7 x8 : List (List Int)) : Nat × List (List Int) :=
 cond (decide ((x3 : Int) < x2)) (cond ((decide ((0 : Int) ≤ x3)) && (Nat.blt (Int.toNat x3) x5.length)) (cond ((decide ((0 : Int) ≤ ((x5.getD (Int.toNat x3) []).getD 0 0))) && (Nat.blt (Int.toNat ((x5.getD (Int.toNat x3) []).getD 0 0)) x4.length)) (cond ((decide ((0 : Int) ≤ ((x5.getD (Int.toNat x3) []).getD 0 0))) && (Nat.blt (Int.toNat ((x5.getD (Int.toNat x3) []).getD 0 0)) x6.length)) (cond ((((x5.getD (Int.toNat x3) []).getD 1 0) : Int) != (-1)) (cond ((decide ((0 : Int) ≤ ((x5.getD (Int.toNat x3) []).getD 1 0))) && (Nat.blt (Int.toNat ((x5.getD (Int.toNat x3) []).getD 1 0)) ((x4.set (Int.toNat ((x5.getD (Int.toNat x3) []).getD 0 0)) [(((fadd .f32 (Int.toNat ((x4.getD (Int.toNat ((x5.getD (Int.toNat x3) []).getD 0 0)) []).getD 0 0)) (fmul .f32 (fmul .f32 1073741824 (Int.toNat ((x5.getD (Int.toNat x3) []).getD 2 0))) (fsub .f32 (Int.toNat ((x5.getD (Int.toNat x3) []).getD 4 0)) (Int.toNat ((x6.getD (Int.toNat ((x5.getD (Int.toNat x3) []).getD 0 0)) []).getD 0 0))))) : Nat) : Int)]).length))) (cond ((decide ((0 : Int) ≤ ((x5.getD (Int.toNat x3) []).getD 1 0))) && (Nat.blt (Int.toNat ((x5.getD (Int.toNat x3) []).getD 1 0)) x6.length)) (ih x0 x1 x2 (IntKind.i64.wrap (x3 + 1)) ((x4.set (Int.toNat ((x5.getD (Int.toNat x3) []).getD 0 0)) [(((fadd .f32 (Int.toNat ((x4.getD (Int.toNat ((x5.getD (Int.toNat x3) []).getD 0 0)) []).getD 0 0)) (fmul .f32 (fmul .f32 1073741824 (Int.toNat ((x5.getD (Int.toNat x3) []).getD 2 0))) (fsub .f32 (Int.toNat ((x5.getD (Int.toNat x3) []).getD 4 0)) (Int.toNat ((x6.getD (Int.toNat ((x5.getD (Int.toNat x3) []).getD 0 0)) []).getD 0 0))))) : Nat) : Int)]).set (Int.toNat ((x5.getD (Int.toNat x3) []).getD 1 0)) [(((fadd .f32 (Int.toNat (((x4.set (Int.toNat ((x5.getD (Int.toNat x3) []).getD 0 0)) [(((fadd .f32 (Int.toNat ((x4.getD (Int.toNat ((x5.getD (Int.toNat x3) []).getD 0 0)) []).getD 0 0)) (fmul .f32 (fmul .f32 1073741824 (Int.toNat ((x5.getD (Int.toNat x3) []).getD 2 0))) (fsub .f32 (Int.toNat ((x5.getD (Int.toNat x3) []).getD 4 0)) (Int.toNat ((x6.getD (Int.toNat ((x5.getD (Int.toNat x3) []).getD 0 0)) []).getD 0 0))))) : Nat) : Int)]).getD (Int.toNat ((x5.getD (Int.toNat x3) []).getD 1 0)) []).getD 0 0)) (fmul .f32 (fmul .f32 1073741824 (Int.toNat ((x5.getD (Int.toNat x3) []).getD 2 0))) (fsub .f32 (Int.toNat ((x5.getD (Int.toNat x3) []).getD 7 0)) (Int.toNat ((x6.getD (Int.toNat ((x5.getD (Int.toNat x3) []).getD 1 0)) []).getD 0 0))))) : Nat) : Int)]) x5 x6 x7 x8) (1, [])) (1, [])) (ih x0 x1 x2 (IntKind.i64.wrap (x3 + 1)) (x4.set (Int.toNat ((x5.getD (Int.toNat x3) []).getD 0 0)) [(((fadd .f32 (Int.toNat ((x4.getD (Int.toNat ((x5.getD (Int.toNat x3) []).getD 0 0)) []).getD 0 0)) (fmul .f32 (fmul .f32 1073741824 (Int.toNat ((x5.getD (Int.toNat x3) []).getD 2 0))) (fsub .f32 (Int.toNat ((x5.getD (Int.toNat x3) []).getD 4 0)) (Int.toNat ((x6.getD (Int.toNat ((x5.getD (Int.toNat x3) []).getD 0 0)) []).getD 0 0))))) : Nat) : Int)]) x5 x6 x7 x8)) (1, [])) (1, [])) (1, [])) (0, x4)
noncomputable def r97l0 : Nat → Nat → Nat → Int → Int → List (List Int) → List (List Int) → List (List Int) → List (List Int) → List (List Int) → (Nat × List (List Int))
 | 0 => fun _ _ _ _ _ _ _ _ _ => (1, [])
 | m + 1 => b97l0 (r97l0 m)
noncomputable def a97l0 (x0 x1 : Nat) (x2 x3 : Int) (x4 x5 x6 x7 x8 : List (List Int)) (p : Nat × List (List Int)) : Option (Fin' × List Value × St) := firstT ([((Nat.beq (p.1) 0), .exit 0, [.float .f32 x0, .float .f32 x1, .pointer (some ⟨0, 0, some 0⟩), wsl 1], ⟨[⟨true, (some (.cells [wsl 3, wsl 4, wsl 2, wsl 5]))⟩, ⟨true, (some (.tab [.fl .f32] (p.2)))⟩, ⟨true, (some (.tab sc0 x5))⟩, ⟨true, (some (.tab [.fl .f32] x6))⟩, ⟨true, (some (.tab [.fl .f32] x7))⟩, ⟨true, (some (.tab sc1 x8))⟩], 6, [1]⟩)].map fun (b, x) => (b, (x.1, frameOf 132 [1, 2, 3, 7] x.2.1, x.2.2)))
noncomputable def u97l0 (x0 x1 : Nat) (x2 x3 : Int) (x4 x5 x6 x7 x8 : List (List Int)) (p : Nat × List (List Int)) : Option (Fin' × List Value × St) := alts ([((Nat.beq (p.1) 0), .exit 0, [.float .f32 x0, .float .f32 x1, .pointer (some ⟨0, 0, some 0⟩), wsl 1], ⟨[⟨true, (some (.cells [wsl 3, wsl 4, wsl 2, wsl 5]))⟩, ⟨true, (some (.tab [.fl .f32] (p.2)))⟩, ⟨true, (some (.tab sc0 x5))⟩, ⟨true, (some (.tab [.fl .f32] x6))⟩, ⟨true, (some (.tab [.fl .f32] x7))⟩, ⟨true, (some (.tab sc1 x8))⟩], 6, [1]⟩)].map fun (b, x) => (b, (x.1, frameOf 132 [1, 2, 3, 7] x.2.1, x.2.2))) some
theorem v97l0 (x0 x1 : Nat) (x2 x3 : Int) (x4 x5 x6 x7 x8 : List (List Int)) (p : Nat × List (List Int)) : u97l0 x0 x1 x2 x3 x4 x5 x6 x7 x8 p = a97l0 x0 x1 x2 x3 x4 x5 x6 x7 x8 p := alts_first _
noncomputable def q97l0 (m : Nat) : SumK := fun vals s =>
 match vals, s.h with
 | [.float .f32 x0, .float .f32 x1, .pointer (some ⟨f0, f1, some f2⟩), .iface f3 .nilIface, .iface f4 .nilIface, .int .i64 x2, .int .i64 x3], [⟨true, some (.cells [.iface f5 .nilIface, .iface f6 .nilIface, .iface f7 .nilIface, .iface f8 .nilIface])⟩, ⟨true, some (.tab [.fl .f32] x4)⟩, ⟨true, some (.tab [.int .i64, .int .i64, .fl .f32, .fl .f32, .fl .f32, .fl .f32, .fl .f32, .fl .f32] x5)⟩, ⟨true, some (.tab [.fl .f32] x6)⟩, ⟨true, some (.tab [.fl .f32] x7)⟩, ⟨true, some (.tab [.int .i64, .int .i64, .fl .f32, .fl .f32] x8)⟩] => if f0 = 0 ∧ f1 = 0 ∧ f2 = 0 ∧ f3 = 1 ∧ f4 = 2 ∧ f5 = 3 ∧ f6 = 4 ∧ f7 = 2 ∧ f8 = 5 then [((Nat.beq ((r97l0 m x0 x1 x2 x3 x4 x5 x6 x7 x8).1) 0), .exit 0, [.float .f32 x0, .float .f32 x1, .pointer (some ⟨0, 0, some 0⟩), wsl 1], ⟨[⟨true, (some (.cells [wsl 3, wsl 4, wsl 2, wsl 5]))⟩, ⟨true, (some (.tab [.fl .f32] ((r97l0 m x0 x1 x2 x3 x4 x5 x6 x7 x8).2)))⟩, ⟨true, (some (.tab sc0 x5))⟩, ⟨true, (some (.tab [.fl .f32] x6))⟩, ⟨true, (some (.tab [.fl .f32] x7))⟩, ⟨true, (some (.tab sc1 x8))⟩], 6, [1]⟩)] else noQ vals s
 | _, _ => noQ vals s
noncomputable def w97l0 (ih : Nat → Nat → Int → Int → List (List Int) → List (List Int) → List (List Int) → List (List Int) → List (List Int) → (Nat × List (List Int))) (x0 x1 : Nat) (x2 x3 : Int) (x4 x5 x6 x7 x8 : List (List Int)) : Option (Fin' × List Value × St) :=
 (cond (decide ((x3 : Int) < x2))
 (cond ((decide ((0 : Int) ≤ x3)) && (Nat.blt (Int.toNat x3) x5.length)) (cond (Nat.blt (Int.toNat x3) x5.length) (cond ((decide ((0 : Int) ≤ ((x5.getD (Int.toNat x3) []).getD 0 0))) && (Nat.blt (Int.toNat ((x5.getD (Int.toNat x3) []).getD 0 0)) x4.length)) (cond (Nat.blt (Int.toNat ((x5.getD (Int.toNat x3) []).getD 0 0)) x4.length) (cond ((decide ((0 : Int) ≤ ((x5.getD (Int.toNat x3) []).getD 0 0))) && (Nat.blt (Int.toNat ((x5.getD (Int.toNat x3) []).getD 0 0)) x6.length)) (cond (Nat.blt (Int.toNat ((x5.getD (Int.toNat x3) []).getD 0 0)) x6.length) (cond ((decide ((0 : Int) ≤ ((x5.getD (Int.toNat x3) []).getD 0 0))) && (Nat.blt (Int.toNat ((x5.getD (Int.toNat x3) []).getD 0 0)) x4.length)) (cond (Nat.blt (Int.toNat ((x5.getD (Int.toNat x3) []).getD 0 0)) x4.length) (cond ((((x5.getD (Int.toNat x3) []).getD 1 0) : Int) != (-1)) (cond ((decide ((0 : Int) ≤ ((x5.getD (Int.toNat x3) []).getD 1 0))) && (Nat.blt (Int.toNat ((x5.getD (Int.toNat x3) []).getD 1 0)) ((x4.set (Int.toNat ((x5.getD (Int.toNat x3) []).getD 0 0)) [(((fadd .f32 (Int.toNat ((x4.getD (Int.toNat ((x5.getD (Int.toNat x3) []).getD 0 0)) []).getD 0 0)) (fmul .f32 (fmul .f32 1073741824 (Int.toNat ((x5.getD (Int.toNat x3) []).getD 2 0))) (fsub .f32 (Int.toNat ((x5.getD (Int.toNat x3) []).getD 4 0)) (Int.toNat ((x6.getD (Int.toNat ((x5.getD (Int.toNat x3) []).getD 0 0)) []).getD 0 0))))) : Nat) : Int)]).length))) (cond (Nat.blt (Int.toNat ((x5.getD (Int.toNat x3) []).getD 1 0)) ((x4.set (Int.toNat ((x5.getD (Int.toNat x3) []).getD 0 0)) [(((fadd .f32 (Int.toNat ((x4.getD (Int.toNat ((x5.getD (Int.toNat x3) []).getD 0 0)) []).getD 0 0)) (fmul .f32 (fmul .f32 1073741824 (Int.toNat ((x5.getD (Int.toNat x3) []).getD 2 0))) (fsub .f32 (Int.toNat ((x5.getD (Int.toNat x3) []).getD 4 0)) (Int.toNat ((x6.getD (Int.toNat ((x5.getD (Int.toNat x3) []).getD 0 0)) []).getD 0 0))))) : Nat) : Int)]).length)) (cond ((decide ((0 : Int) ≤ ((x5.getD (Int.toNat x3) []).getD 1 0))) && (Nat.blt (Int.toNat ((x5.getD (Int.toNat x3) []).getD 1 0)) x6.length)) (cond (Nat.blt (Int.toNat ((x5.getD (Int.toNat x3) []).getD 1 0)) x6.length) (cond ((decide ((0 : Int) ≤ ((x5.getD (Int.toNat x3) []).getD 1 0))) && (Nat.blt (Int.toNat ((x5.getD (Int.toNat x3) []).getD 1 0)) ((x4.set (Int.toNat ((x5.getD (Int.toNat x3) []).getD 0 0)) [(((fadd .f32 (Int.toNat ((x4.getD (Int.toNat ((x5.getD (Int.toNat x3) []).getD 0 0)) []).getD 0 0)) (fmul .f32 (fmul .f32 1073741824 (Int.toNat ((x5.getD (Int.toNat x3) []).getD 2 0))) (fsub .f32 (Int.toNat ((x5.getD (Int.toNat x3) []).getD 4 0)) (Int.toNat ((x6.getD (Int.toNat ((x5.getD (Int.toNat x3) []).getD 0 0)) []).getD 0 0))))) : Nat) : Int)]).length))) (cond (Nat.blt (Int.toNat ((x5.getD (Int.toNat x3) []).getD 1 0)) ((x4.set (Int.toNat ((x5.getD (Int.toNat x3) []).getD 0 0)) [(((fadd .f32 (Int.toNat ((x4.getD (Int.toNat ((x5.getD (Int.toNat x3) []).getD 0 0)) []).getD 0 0)) (fmul .f32 (fmul .f32 1073741824 (Int.toNat ((x5.getD (Int.toNat x3) []).getD 2 0))) (fsub .f32 (Int.toNat ((x5.getD (Int.toNat x3) []).getD 4 0)) (Int.toNat ((x6.getD (Int.toNat ((x5.getD (Int.toNat x3) []).getD 0 0)) []).getD 0 0))))) : Nat) : Int)]).length)) (u97l0 x0 x1 x2 x3 x4 x5 x6 x7 x8 (ih x0 x1 x2 (IntKind.i64.wrap (x3 + 1)) ((x4.set (Int.toNat ((x5.getD (Int.toNat x3) []).getD 0 0)) [(((fadd .f32 (Int.toNat ((x4.getD (Int.toNat ((x5.getD (Int.toNat x3) []).getD 0 0)) []).getD 0 0)) (fmul .f32 (fmul .f32 1073741824 (Int.toNat ((x5.getD (Int.toNat x3) []).getD 2 0))) (fsub .f32 (Int.toNat ((x5.getD (Int.toNat x3) []).getD 4 0)) (Int.toNat ((x6.getD (Int.toNat ((x5.getD (Int.toNat x3) []).getD 0 0)) []).getD 0 0))))) : Nat) : Int)]).set (Int.toNat ((x5.getD (Int.toNat x3) []).getD 1 0)) [(((fadd .f32 (Int.toNat (((x4.set (Int.toNat ((x5.getD (Int.toNat x3) []).getD 0 0)) [(((fadd .f32 (Int.toNat ((x4.getD (Int.toNat ((x5.getD (Int.toNat x3) []).getD 0 0)) []).getD 0 0)) (fmul .f32 (fmul .f32 1073741824 (Int.toNat ((x5.getD (Int.toNat x3) []).getD 2 0))) (fsub .f32 (Int.toNat ((x5.getD (Int.toNat x3) []).getD 4 0)) (Int.toNat ((x6.getD (Int.toNat ((x5.getD (Int.toNat x3) []).getD 0 0)) []).getD 0 0))))) : Nat) : Int)]).getD (Int.toNat ((x5.getD (Int.toNat x3) []).getD 1 0)) []).getD 0 0)) (fmul .f32 (fmul .f32 1073741824 (Int.toNat ((x5.getD (Int.toNat x3) []).getD 2 0))) (fsub .f32 (Int.toNat ((x5.getD (Int.toNat x3) []).getD 7 0)) (Int.toNat ((x6.getD (Int.toNat ((x5.getD (Int.toNat x3) []).getD 1 0)) []).getD 0 0))))) : Nat) : Int)]) x5 x6 x7 x8)) none) none) none) none) none) none) (u97l0 x0 x1 x2 x3 x4 x5 x6 x7 x8 (ih x0 x1 x2 (IntKind.i64.wrap (x3 + 1)) (x4.set (Int.toNat ((x5.getD (Int.toNat x3) []).getD 0 0)) [(((fadd .f32 (Int.toNat ((x4.getD (Int.toNat ((x5.getD (Int.toNat x3) []).getD 0 0)) []).getD 0 0)) (fmul .f32 (fmul .f32 1073741824 (Int.toNat ((x5.getD (Int.toNat x3) []).getD 2 0))) (fsub .f32 (Int.toNat ((x5.getD (Int.toNat x3) []).getD 4 0)) (Int.toNat ((x6.getD (Int.toNat ((x5.getD (Int.toNat x3) []).getD 0 0)) []).getD 0 0))))) : Nat) : Int)]) x5 x6 x7 x8))) none) none) none) none) none) none) none) none)
 (a97l0 x0 x1 x2 x3 x4 x5 x6 x7 x8 (0, x4)))
set_option maxRecDepth 100000 in
set_option maxHeartbeats 4000000 in
theorem e97l0 (m : Nat) (x0 x1 : Nat) (x2 x3 : Int) (x4 x5 x6 x7 x8 : List (List Int)) : evC Try.prog ext T47 noL 200 (loopN Try.f97 0) (loopTail ([1, 2, 3, 7, 20, 21, 22], []) [1, 2, 3, 7] [1] (sumK 132 [1, 2, 3, 7, 20, 21, 22] [1, 2, 3, 7] (q97l0 m))) (frameOf 132 [1, 2, 3, 7, 20, 21, 22] [.float .f32 x0, .float .f32 x1, .pointer (some ⟨0, 0, some 0⟩), wsl 1, wsl 2, .int .i64 x2, .int .i64 x3]) ⟨[⟨true, (some (.cells [wsl 3, wsl 4, wsl 2, wsl 5]))⟩, ⟨true, (some (.tab [.fl .f32] x4))⟩, ⟨true, (some (.tab sc0 x5))⟩, ⟨true, (some (.tab [.fl .f32] x6))⟩, ⟨true, (some (.tab [.fl .f32] x7))⟩, ⟨true, (some (.tab sc1 x8))⟩], 6, []⟩ = firstT ([((Nat.beq ((r97l0 (m + 1) x0 x1 x2 x3 x4 x5 x6 x7 x8).1) 0), .exit 0, [.float .f32 x0, .float .f32 x1, .pointer (some ⟨0, 0, some 0⟩), wsl 1], ⟨[⟨true, (some (.cells [wsl 3, wsl 4, wsl 2, wsl 5]))⟩, ⟨true, (some (.tab [.fl .f32] ((r97l0 (m + 1) x0 x1 x2 x3 x4 x5 x6 x7 x8).2)))⟩, ⟨true, (some (.tab sc0 x5))⟩, ⟨true, (some (.tab [.fl .f32] x6))⟩, ⟨true, (some (.tab [.fl .f32] x7))⟩, ⟨true, (some (.tab sc1 x8))⟩], 6, [1]⟩)].map fun (b, x) => (b, (x.1, frameOf 132 [1, 2, 3, 7] x.2.1, x.2.2))) :=
 (show _ = w97l0 (r97l0 m) x0 x1 x2 x3 x4 x5 x6 x7 x8 from by kernel_rfl).trans
 (show w97l0 (r97l0 m) x0 x1 x2 x3 x4 x5 x6 x7 x8 = a97l0 x0 x1 x2 x3 x4 x5 x6 x7 x8 (r97l0 (m + 1) x0 x1 x2 x3 x4 x5 x6 x7 x8) from by unfold w97l0; show _ = a97l0 x0 x1 x2 x3 x4 x5 x6 x7 x8 (b97l0 (r97l0 m) x0 x1 x2 x3 x4 x5 x6 x7 x8); unfold b97l0; exact (cond_both (a97l0 x0 x1 x2 x3 x4 x5 x6 x7 x8) _ (fun h0 => (cond_both (a97l0 x0 x1 x2 x3 x4 x5 x6 x7 x8) _ (fun h1 => (cond_t (ev_and2 h1) (cond_both (a97l0 x0 x1 x2 x3 x4 x5 x6 x7 x8) _ (fun h2 => (cond_t (ev_and2 h2) (cond_both (a97l0 x0 x1 x2 x3 x4 x5 x6 x7 x8) _ (fun h3 => (cond_t (ev_and2 h3) (cond_t h2 (cond_t (ev_and2 h2) (cond_both (a97l0 x0 x1 x2 x3 x4 x5 x6 x7 x8) _ (fun h4 => (cond_both (a97l0 x0 x1 x2 x3 x4 x5 x6 x7 x8) _ (fun h5 => (cond_t (ev_and2 h5) (cond_both (a97l0 x0 x1 x2 x3 x4 x5 x6 x7 x8) _ (fun h6 => (cond_t (ev_and2 h6) (cond_t h5 (cond_t (ev_and2 h5) (v97l0 x0 x1 x2 x3 x4 x5 x6 x7 x8 ((r97l0 m) x0 x1 x2 (IntKind.i64.wrap (x3 + 1)) ((x4.set (Int.toNat ((x5.getD (Int.toNat x3) []).getD 0 0)) [(((fadd .f32 (Int.toNat ((x4.getD (Int.toNat ((x5.getD (Int.toNat x3) []).getD 0 0)) []).getD 0 0)) (fmul .f32 (fmul .f32 1073741824 (Int.toNat ((x5.getD (Int.toNat x3) []).getD 2 0))) (fsub .f32 (Int.toNat ((x5.getD (Int.toNat x3) []).getD 4 0)) (Int.toNat ((x6.getD (Int.toNat ((x5.getD (Int.toNat x3) []).getD 0 0)) []).getD 0 0))))) : Nat) : Int)]).set (Int.toNat ((x5.getD (Int.toNat x3) []).getD 1 0)) [(((fadd .f32 (Int.toNat (((x4.set (Int.toNat ((x5.getD (Int.toNat x3) []).getD 0 0)) [(((fadd .f32 (Int.toNat ((x4.getD (Int.toNat ((x5.getD (Int.toNat x3) []).getD 0 0)) []).getD 0 0)) (fmul .f32 (fmul .f32 1073741824 (Int.toNat ((x5.getD (Int.toNat x3) []).getD 2 0))) (fsub .f32 (Int.toNat ((x5.getD (Int.toNat x3) []).getD 4 0)) (Int.toNat ((x6.getD (Int.toNat ((x5.getD (Int.toNat x3) []).getD 0 0)) []).getD 0 0))))) : Nat) : Int)]).getD (Int.toNat ((x5.getD (Int.toNat x3) []).getD 1 0)) []).getD 0 0)) (fmul .f32 (fmul .f32 1073741824 (Int.toNat ((x5.getD (Int.toNat x3) []).getD 2 0))) (fsub .f32 (Int.toNat ((x5.getD (Int.toNat x3) []).getD 7 0)) (Int.toNat ((x6.getD (Int.toNat ((x5.getD (Int.toNat x3) []).getD 1 0)) []).getD 0 0))))) : Nat) : Int)]) x5 x6 x7 x8)))))) (fun h6 => rfl)))) (fun h5 => rfl))) (fun h4 => (v97l0 x0 x1 x2 x3 x4 x5 x6 x7 x8 ((r97l0 m) x0 x1 x2 (IntKind.i64.wrap (x3 + 1)) (x4.set (Int.toNat ((x5.getD (Int.toNat x3) []).getD 0 0)) [(((fadd .f32 (Int.toNat ((x4.getD (Int.toNat ((x5.getD (Int.toNat x3) []).getD 0 0)) []).getD 0 0)) (fmul .f32 (fmul .f32 1073741824 (Int.toNat ((x5.getD (Int.toNat x3) []).getD 2 0))) (fsub .f32 (Int.toNat ((x5.getD (Int.toNat x3) []).getD 4 0)) (Int.toNat ((x6.getD (Int.toNat ((x5.getD (Int.toNat x3) []).getD 0 0)) []).getD 0 0))))) : Nat) : Int)]) x5 x6 x7 x8)))))))) (fun h3 => rfl)))) (fun h2 => rfl)))) (fun h1 => rfl))) (fun h0 => rfl)))
set_option maxRecDepth 100000 in
set_option maxHeartbeats 4000000 in
theorem qm97l0 : ∀ m, SumKOk Try.prog (loopN Try.f97 0) 132 [1, 2, 3, 7, 20, 21, 22] [1, 2, 3, 7] (q97l0 m) := by
  intro m
  induction m with
  | zero =>
    intro vals s x h1 h2 h3
    unfold q97l0 at h3; split at h3
    · rename_i h; split at h3
      · rename_i hc; obtain ⟨rfl, rfl, rfl, rfl, rfl, rfl, rfl, rfl, rfl⟩ := hc; exact absurd h3 (by simp [r97l0, firstT, Nat.beq])
      · exact noQ_ok _ _ _ h1 h2 h3
    · exact noQ_ok _ _ _ h1 h2 h3
  | succ m ih =>
    intro vals s x h1 h2 h3
    unfold q97l0 at h3; split at h3
    · rename_i h; split at h3
      · rename_i hc; obtain ⟨rfl, rfl, rfl, rfl, rfl, rfl, rfl, rfl, rfl⟩ := hc; exact sum_step ok47 extOk mixed ((lfOkF_no _ _).inner (by kernel_rfl)) ih h1 h2 h (e97l0 m _ _ _ _ _ _ _ _ _) rfl h3
      · exact noQ_ok _ _ _ h1 h2 h3
    · exact noQ_ok _ _ _ h1 h2 h3
noncomputable def Q97l0 : SumK := fun vals s => q97l0 (fuelOf vals s.h) vals s
theorem qok97l0 : SumKOk Try.prog (loopN Try.f97 0) 132 [1, 2, 3, 7, 20, 21, 22] [1, 2, 3, 7] Q97l0 := fuel_ok qm97l0 fuelOf
noncomputable def L97_1 : LoopT := addL noL 4 ([1, 2, 3, 7, 20, 21, 22], []) (sumK 132 [1, 2, 3, 7, 20, 21, 22] [1, 2, 3, 7] Q97l0)
theorem lok97_1 : LfOkF Try.prog L97_1 Try.f97 := lfOkF_add (lfOkF_no _ _) qok97l0 (by kernel_rfl) (by kernel_rfl) (by kernel_rfl)

/-- impl.heatOf -/
noncomputable def r69 (x0 : Int) (x1 : Nat) (x2 : List (List Int)) : Nat × Nat :=
 cond ((x0 : Int) == (-1)) (0, x1) (cond ((decide ((0 : Int) ≤ x0)) && (Nat.blt (Int.toNat x0) x2.length)) (0, (Int.toNat ((x2.getD (Int.toNat x0) []).getD 0 0))) (1, 0))
noncomputable def a69 (x0 : Int) (x1 : Nat) (x2 : List (List Int)) (p : Nat × Nat) : Res := firstT [((Nat.beq (p.1) 0), .float .f32 (p.2), ⟨[⟨true, (some (.tab [.fl .f32] x2))⟩], 1, []⟩)]
noncomputable def w69 (x0 : Int) (x1 : Nat) (x2 : List (List Int)) : Res :=
 (cond ((x0 : Int) == (-1))
 (a69 x0 x1 x2 (0, x1))
 (cond ((decide ((0 : Int) ≤ x0)) && (Nat.blt (Int.toNat x0) x2.length)) (cond (Nat.blt (Int.toNat x0) x2.length) (a69 x0 x1 x2 (0, (Int.toNat ((x2.getD (Int.toNat x0) []).getD 0 0)))) none) none))
set_option maxRecDepth 100000 in
set_option maxHeartbeats 4000000 in
theorem e69 (x0 : Int) (x1 : Nat) (x2 : List (List Int)) : evFn Try.prog ext T47 noL 200 Try.f69 [wsl 0, .int .i64 x0, .float .f32 x1] ⟨[⟨true, (some (.tab [.fl .f32] x2))⟩], 1, []⟩ = firstT [((Nat.beq ((r69 x0 x1 x2).1) 0), .float .f32 ((r69 x0 x1 x2).2), ⟨[⟨true, (some (.tab [.fl .f32] x2))⟩], 1, []⟩)] :=
 (show _ = w69 x0 x1 x2 from by kernel_rfl).trans
 (show w69 x0 x1 x2 = a69 x0 x1 x2 (r69 x0 x1 x2) from by unfold w69 r69; exact (cond_both (a69 x0 x1 x2) _ (fun h0 => rfl) (fun h0 => (cond_both (a69 x0 x1 x2) _ (fun h1 => (cond_t (ev_and2 h1) rfl)) (fun h1 => rfl)))))
noncomputable def s69 (args : List Value) (s : St) : List (Bool × Value × St) :=
 match args, s.h with
 | [.iface f0 .nilIface, .int .i64 x0, .float .f32 x1], [⟨true, some (.tab [.fl .f32] x2)⟩] => if f0 = 0 then [((Nat.beq ((r69 x0 x1 x2).1) 0), .float .f32 ((r69 x0 x1 x2).2), ⟨[⟨true, (some (.tab [.fl .f32] x2))⟩], 1, []⟩)] else T47 69 args s
 | _, _ => T47 69 args s
noncomputable def T48 : CallF := addF T47 69 s69
set_option maxRecDepth 100000 in
set_option maxHeartbeats 4000000 in
theorem ok48 : CfOk Try.prog T48 := by
  refine cfOk_add ok47 fun args s r s' h1 h2 h3 => ?_
  unfold s69 at h3; split at h3
  · rename_i h; split at h3
    · rename_i hc; obtain ⟨rfl⟩ := hc; exact callOk ok47 Try.func69 h1 h2 h (lfOkF_no _ _).body (e69 _ _ _) rfl h3
    · exact ok47 _ _ _ _ _ h1 h2 h3
  · exact ok47 _ _ _ _ _ h1 h2 h3
end Go.Proofs.Ytfnfapmncibjfaa
