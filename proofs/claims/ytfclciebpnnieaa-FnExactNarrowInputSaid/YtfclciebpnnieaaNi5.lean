/- What the functions that the statements reach answer, part 5. -/
import Derived.Test.YtfclciebpnnieaaNi4
namespace Go.Proofs.Ytfclciebpnnieaa
open Go.Ab
set_option maxHeartbeats 4000000
set_option maxRecDepth 100000

/-- impl.ValidProgram, loop 0: one round -/
noncomputable def b16l0 (ih : Int → Int → List ByteArray → List (List Int) → Nat) (x0 x1 : Int) (x2 : List ByteArray) (x3 : List (List Int)) : Nat :=
 cond (decide ((x1 : Int) < x0))
  (cond ((decide ((0 : Int) ≤ x1)) && (Nat.blt (Int.toNat x1) x2.length))
  (cond (Nat.beq ((r49 (x2.getD (Int.toNat x1) .empty)).1) 0)
  (cond (!((r49 (x2.getD (Int.toNat x1) .empty)).2))
  (0)
  (cond ((Nat.blt 0 x2.length) && (((decide ((0 : Int) ≤ x1)) && (Nat.ble 0 (Int.toNat x1))) && (Nat.ble (Int.toNat x1) x2.length)))
  (cond (Nat.beq ((r50 (Int.toNat x1) x2.length (x2.getD (Int.toNat x1) .empty) x2).1) 0)
  (cond ((r50 (Int.toNat x1) x2.length (x2.getD (Int.toNat x1) .empty) x2).2)
  (0)
  (ih x0 (IntKind.i64.wrap (x1 + 1)) x2 x3))
  (2))
  (2)))
  (2))
  (2))
  (1)
noncomputable def r16l0 : Nat → Int → Int → List ByteArray → List (List Int) → Nat
 | 0 => fun _ _ _ _ => (2)
 | m + 1 => b16l0 (r16l0 m)
noncomputable def a16l0 (x0 x1 : Int) (x2 : List ByteArray) (x3 : List (List Int)) (p : Nat) : Option (Fin' × List Value × St) := firstT ([((Nat.beq p 0), .ret, [.pointer (some ⟨0, 0, some 0⟩), .bool false], ⟨[⟨true, (some (.cells [wsl 1, wsl 2]))⟩, ⟨true, (some (.strs x2))⟩, ⟨true, (some (.tab [.int .i8, .int .i16, .fl .f32] x3))⟩], 3, []⟩), ((Nat.beq p 1), .exit 0, [.pointer (some ⟨0, 0, some 0⟩), anyV], ⟨[⟨true, (some (.cells [wsl 1, wsl 2]))⟩, ⟨true, (some (.strs x2))⟩, ⟨true, (some (.tab [.int .i8, .int .i16, .fl .f32] x3))⟩], 3, []⟩)].map fun (b, x) => (b, (x.1, frameOf 161 [1, 2] x.2.1, x.2.2)))
noncomputable def u16l0 (x0 x1 : Int) (x2 : List ByteArray) (x3 : List (List Int)) (p : Nat) : Option (Fin' × List Value × St) := alts ([((Nat.beq p 0), .ret, [.pointer (some ⟨0, 0, some 0⟩), .bool false], ⟨[⟨true, (some (.cells [wsl 1, wsl 2]))⟩, ⟨true, (some (.strs x2))⟩, ⟨true, (some (.tab [.int .i8, .int .i16, .fl .f32] x3))⟩], 3, []⟩), ((Nat.beq p 1), .exit 0, [.pointer (some ⟨0, 0, some 0⟩), anyV], ⟨[⟨true, (some (.cells [wsl 1, wsl 2]))⟩, ⟨true, (some (.strs x2))⟩, ⟨true, (some (.tab [.int .i8, .int .i16, .fl .f32] x3))⟩], 3, []⟩)].map fun (b, x) => (b, (x.1, frameOf 161 [1, 2] x.2.1, x.2.2))) some
theorem v16l0 (x0 x1 : Int) (x2 : List ByteArray) (x3 : List (List Int)) (p : Nat) : u16l0 x0 x1 x2 x3 p = a16l0 x0 x1 x2 x3 p := alts_first _
noncomputable def q16l0 (m : Nat) : SumK := fun vals s =>
 match vals, s.h with
 | [.pointer (some ⟨f0, f1, some f2⟩), .iface f3 .nilIface, .int .i64 x0, .int .i64 x1], [⟨true, some (.cells [.iface f4 .nilIface, .iface f5 .nilIface])⟩, ⟨true, some (.strs x2)⟩, ⟨true, some (.tab [.int .i8, .int .i16, .fl .f32] x3)⟩] => if f0 = 0 ∧ f1 = 0 ∧ f2 = 0 ∧ f3 = 1 ∧ f4 = 1 ∧ f5 = 2 then [((Nat.beq (r16l0 m x0 x1 x2 x3) 0), .ret, [.pointer (some ⟨0, 0, some 0⟩), .bool false], ⟨[⟨true, (some (.cells [wsl 1, wsl 2]))⟩, ⟨true, (some (.strs x2))⟩, ⟨true, (some (.tab [.int .i8, .int .i16, .fl .f32] x3))⟩], 3, []⟩), ((Nat.beq (r16l0 m x0 x1 x2 x3) 1), .exit 0, [.pointer (some ⟨0, 0, some 0⟩), anyV], ⟨[⟨true, (some (.cells [wsl 1, wsl 2]))⟩, ⟨true, (some (.strs x2))⟩, ⟨true, (some (.tab [.int .i8, .int .i16, .fl .f32] x3))⟩], 3, []⟩)] else noQ vals s
 | _, _ => noQ vals s
noncomputable def w16l0 (ih : Int → Int → List ByteArray → List (List Int) → Nat) (x0 x1 : Int) (x2 : List ByteArray) (x3 : List (List Int)) : Option (Fin' × List Value × St) :=
 (cond (decide ((x1 : Int) < x0))
 (cond ((decide ((0 : Int) ≤ x1)) && (Nat.blt (Int.toNat x1) x2.length))
  (cond (Nat.blt (Int.toNat x1) x2.length)
  (cond (Nat.beq ((r49 (x2.getD (Int.toNat x1) .empty)).1) 0)
  (cond (!((r49 (x2.getD (Int.toNat x1) .empty)).2))
  (a16l0 x0 x1 x2 x3 (0))
  (cond ((Nat.blt 0 x2.length) && (((decide ((0 : Int) ≤ x1)) && (Nat.ble 0 (Int.toNat x1))) && (Nat.ble (Int.toNat x1) x2.length)))
  (cond (Nat.beq ((r50 (Int.toNat x1) x2.length (x2.getD (Int.toNat x1) .empty) x2).1) 0)
  (cond ((r50 (Int.toNat x1) x2.length (x2.getD (Int.toNat x1) .empty) x2).2)
  (a16l0 x0 x1 x2 x3 (0))
  (u16l0 x0 x1 x2 x3 (ih x0 (IntKind.i64.wrap (x1 + 1)) x2 x3)))
  none)
  none))
  none)
  none)
  none)
 (a16l0 x0 x1 x2 x3 (1)))
set_option maxRecDepth 100000 in
set_option maxHeartbeats 4000000 in
theorem e16l0 (m : Nat) (x0 x1 : Int) (x2 : List ByteArray) (x3 : List (List Int)) : evC Try.prog ext T43 noL 200 (loopN Try.f16 0) (loopTail ([1, 23, 24, 25], []) [1, 2] [] (sumK 161 [1, 23, 24, 25] [1, 2] (q16l0 m))) (frameOf 161 [1, 23, 24, 25] [.pointer (some ⟨0, 0, some 0⟩), wsl 1, .int .i64 x0, .int .i64 x1]) ⟨[⟨true, (some (.cells [wsl 1, wsl 2]))⟩, ⟨true, (some (.strs x2))⟩, ⟨true, (some (.tab [.int .i8, .int .i16, .fl .f32] x3))⟩], 3, []⟩ = firstT ([((Nat.beq (r16l0 (m + 1) x0 x1 x2 x3) 0), .ret, [.pointer (some ⟨0, 0, some 0⟩), .bool false], ⟨[⟨true, (some (.cells [wsl 1, wsl 2]))⟩, ⟨true, (some (.strs x2))⟩, ⟨true, (some (.tab [.int .i8, .int .i16, .fl .f32] x3))⟩], 3, []⟩), ((Nat.beq (r16l0 (m + 1) x0 x1 x2 x3) 1), .exit 0, [.pointer (some ⟨0, 0, some 0⟩), anyV], ⟨[⟨true, (some (.cells [wsl 1, wsl 2]))⟩, ⟨true, (some (.strs x2))⟩, ⟨true, (some (.tab [.int .i8, .int .i16, .fl .f32] x3))⟩], 3, []⟩)].map fun (b, x) => (b, (x.1, frameOf 161 [1, 2] x.2.1, x.2.2))) :=
 (show evC Try.prog ext T43 noL 200 (loopN Try.f16 0) (loopTail ([1, 23, 24, 25], []) [1, 2] [] (sumK 161 [1, 23, 24, 25] [1, 2] (q16l0 m))) (frameOf 161 [1, 23, 24, 25] [.pointer (some ⟨0, 0, some 0⟩), wsl 1, .int .i64 x0, .int .i64 x1]) ⟨[⟨true, (some (.cells [wsl 1, wsl 2]))⟩, ⟨true, (some (.strs x2))⟩, ⟨true, (some (.tab [.int .i8, .int .i16, .fl .f32] x3))⟩], 3, []⟩ = w16l0 (r16l0 m) x0 x1 x2 x3 from by kernel_rfl).trans
 (show w16l0 (r16l0 m) x0 x1 x2 x3 = a16l0 x0 x1 x2 x3 (r16l0 (m + 1) x0 x1 x2 x3) from by unfold w16l0; show _ = a16l0 x0 x1 x2 x3 (b16l0 (r16l0 m) x0 x1 x2 x3); unfold b16l0; exact (cond_both (a16l0 x0 x1 x2 x3) _ (fun h0 => (cond_both (a16l0 x0 x1 x2 x3) _ (fun h1 => (cond_t (ev_and2 h1) (cond_app (a16l0 x0 x1 x2 x3) _ (cond_app (a16l0 x0 x1 x2 x3) _ rfl (cond_app (a16l0 x0 x1 x2 x3) _ (cond_app (a16l0 x0 x1 x2 x3) _ (cond_app (a16l0 x0 x1 x2 x3) _ rfl (v16l0 x0 x1 x2 x3 ((r16l0 m) x0 (IntKind.i64.wrap (x1 + 1)) x2 x3))) rfl) rfl)) rfl))) (fun h1 => rfl))) (fun h0 => rfl)))
set_option maxRecDepth 100000 in
set_option maxHeartbeats 4000000 in
theorem qm16l0 : ∀ m, SumKOk Try.prog (loopN Try.f16 0) 161 [1, 23, 24, 25] [1, 2] (q16l0 m) := by
  intro m
  induction m with
  | zero =>
    intro vals s x h1 h2 h3
    unfold q16l0 at h3; split at h3
    · rename_i h; split at h3
      · rename_i hc; obtain ⟨rfl, rfl, rfl, rfl, rfl, rfl⟩ := hc; exact absurd h3 (by simp [r16l0, firstT, Nat.beq])
      · exact noQ_ok _ _ _ h1 h2 h3
    · exact noQ_ok _ _ _ h1 h2 h3
  | succ m ih =>
    intro vals s x h1 h2 h3
    unfold q16l0 at h3; split at h3
    · rename_i h; split at h3
      · rename_i hc; obtain ⟨rfl, rfl, rfl, rfl, rfl, rfl⟩ := hc; exact sum_step ok43 extOk mixed ((lfOkF_no _ _).inner (by kernel_rfl)) ih h1 h2 h (e16l0 m _ _ _ _) rfl h3
      · exact noQ_ok _ _ _ h1 h2 h3
    · exact noQ_ok _ _ _ h1 h2 h3
noncomputable def Q16l0 : SumK := fun vals s => q16l0 (fuelOf vals s.h) vals s
theorem qok16l0 : SumKOk Try.prog (loopN Try.f16 0) 161 [1, 23, 24, 25] [1, 2] Q16l0 := fuel_ok qm16l0 fuelOf
noncomputable def L16_1 : LoopT := addL noL 5 ([1, 23, 24, 25], []) (sumK 161 [1, 23, 24, 25] [1, 2] Q16l0)
theorem lok16_1 : LfOkF Try.prog L16_1 Try.f16 := lfOkF_add (lfOkF_no _ _) qok16l0 (by kernel_rfl) (by kernel_rfl) (by kernel_rfl)

/-- math.IsNaN -/
noncomputable def r79 (x0 : Nat) : Bool :=
 ((!feq .f64 x0 x0))
noncomputable def a79 (x0 : Nat) (p : Bool) : Res := firstT [(true, .bool p, st0)]
noncomputable def w79 (x0 : Nat) : Res :=
 (a79 x0 ((!feq .f64 x0 x0)))
set_option maxRecDepth 100000 in
set_option maxHeartbeats 4000000 in
theorem e79 (x0 : Nat) : evFn Try.prog ext T43 noL 200 Try.f79 [.float .f64 x0] st0 = firstT [(true, .bool (r79 x0), st0)] :=
 (show evFn Try.prog ext T43 noL 200 Try.f79 [.float .f64 x0] st0 = w79 x0 from by kernel_rfl).trans
 (show w79 x0 = a79 x0 (r79 x0) from by unfold w79 r79; exact rfl)
noncomputable def s79 (args : List Value) (s : St) : List (Bool × Value × St) :=
 match args, s.h with
 | [.float .f64 x0], [] => [(true, .bool (r79 x0), st0)]
 | _, _ => T43 79 args s
noncomputable def T44 : CallF := addF T43 79 s79
set_option maxRecDepth 100000 in
set_option maxHeartbeats 4000000 in
theorem ok44 : CfOk Try.prog T44 := by
  refine cfOk_add ok43 fun args s r s' h1 h2 h3 => ?_
  unfold s79 at h3; split at h3
  · rename_i h; exact callOk ok43 Try.func79 h1 h2 h (lfOkF_no _ _).body (e79 _) rfl h3
  · exact ok43 _ _ _ _ _ h1 h2 h3

/-- math.Abs -/
noncomputable def r92 (x0 : Nat) : Nat :=
 cond (!isN .f64 x0)
  ((Int.toNat (bits .andNot .u64 ((x0 : Nat) : Int) 9223372036854775808)))
  (9221120237041090560)
noncomputable def a92 (x0 : Nat) (p : Nat) : Res := firstT [(true, .float .f64 p, st0)]
noncomputable def w92 (x0 : Nat) : Res :=
 (cond (!isN .f64 x0)
 (a92 x0 ((Int.toNat (bits .andNot .u64 ((x0 : Nat) : Int) 9223372036854775808))))
 (a92 x0 (9221120237041090560)))
set_option maxRecDepth 100000 in
set_option maxHeartbeats 4000000 in
theorem e92 (x0 : Nat) : evFn Try.prog ext T44 noL 200 Try.f92 [.float .f64 x0] st0 = firstT [(true, .float .f64 (r92 x0), st0)] :=
 (show evFn Try.prog ext T44 noL 200 Try.f92 [.float .f64 x0] st0 = w92 x0 from by kernel_rfl).trans
 (show w92 x0 = a92 x0 (r92 x0) from by unfold w92 r92; exact (cond_app (a92 x0) _ rfl rfl))
noncomputable def s92 (args : List Value) (s : St) : List (Bool × Value × St) :=
 match args, s.h with
 | [.float .f64 x0], [] => [(true, .float .f64 (r92 x0), st0)]
 | _, _ => T44 92 args s
noncomputable def T45 : CallF := addF T44 92 s92
set_option maxRecDepth 100000 in
set_option maxHeartbeats 4000000 in
theorem ok45 : CfOk Try.prog T45 := by
  refine cfOk_add ok44 fun args s r s' h1 h2 h3 => ?_
  unfold s92 at h3; split at h3
  · rename_i h; exact callOk ok44 Try.func92 h1 h2 h (lfOkF_no _ _).body (e92 _) rfl h3
  · exact ok44 _ _ _ _ _ h1 h2 h3

/-- math.IsInf -/
noncomputable def r80 (x0 : Nat) (x1 : Int) : Bool :=
 cond ((x1 : Int) == 0)
  ((fgt .f64 (r92 x0) 9218868437227405311))
  (cond (decide ((x1 : Int) < 0))
  ((fgt .f64 (fneg .f64 x0) 9218868437227405311))
  ((fgt .f64 x0 9218868437227405311)))
noncomputable def a80 (x0 : Nat) (x1 : Int) (p : Bool) : Res := firstT [(true, .bool p, st0)]
noncomputable def w80 (x0 : Nat) (x1 : Int) : Res :=
 (cond ((x1 : Int) == 0)
 (a80 x0 x1 ((fgt .f64 (r92 x0) 9218868437227405311)))
 (cond (decide ((x1 : Int) < 0))
  (a80 x0 x1 ((fgt .f64 (fneg .f64 x0) 9218868437227405311)))
  (a80 x0 x1 ((fgt .f64 x0 9218868437227405311)))))
set_option maxRecDepth 100000 in
set_option maxHeartbeats 4000000 in
theorem e80 (x0 : Nat) (x1 : Int) : evFn Try.prog ext T45 noL 200 Try.f80 [.float .f64 x0, .int .i64 x1] st0 = firstT [(true, .bool (r80 x0 x1), st0)] :=
 (show evFn Try.prog ext T45 noL 200 Try.f80 [.float .f64 x0, .int .i64 x1] st0 = w80 x0 x1 from by kernel_rfl).trans
 (show w80 x0 x1 = a80 x0 x1 (r80 x0 x1) from by unfold w80 r80; exact (cond_app (a80 x0 x1) _ rfl (cond_app (a80 x0 x1) _ rfl rfl)))
noncomputable def s80 (args : List Value) (s : St) : List (Bool × Value × St) :=
 match args, s.h with
 | [.float .f64 x0, .int .i64 x1], [] => [(true, .bool (r80 x0 x1), st0)]
 | _, _ => T45 80 args s
noncomputable def T46 : CallF := addF T45 80 s80
set_option maxRecDepth 100000 in
set_option maxHeartbeats 4000000 in
theorem ok46 : CfOk Try.prog T46 := by
  refine cfOk_add ok45 fun args s r s' h1 h2 h3 => ?_
  unfold s80 at h3; split at h3
  · rename_i h; exact callOk ok45 Try.func80 h1 h2 h (lfOkF_no _ _).body (e80 _ _) rfl h3
  · exact ok45 _ _ _ _ _ h1 h2 h3

/-- impl.isFinite -/
noncomputable def r51 (x0 : Nat) : Bool :=
 cond (r79 (widen x0))
  (false)
  (cond (r80 (widen x0) 0)
  (false)
  (true))
noncomputable def a51 (x0 : Nat) (p : Bool) : Res := firstT [(true, .bool p, ⟨[⟨true, (some (.tab [.fl .f32] ([[((x0 : Nat) : Int)]] : List (List Int))))⟩], 1, []⟩)]
noncomputable def w51 (x0 : Nat) : Res :=
 (cond (r79 (widen x0))
 (a51 x0 (false))
 (cond (r80 (widen x0) 0)
  (a51 x0 (false))
  (a51 x0 (true))))
set_option maxRecDepth 100000 in
set_option maxHeartbeats 4000000 in
theorem e51 (x0 : Nat) : evFn Try.prog ext T46 noL 200 Try.f51 [.slice (some ⟨0, 0, some 0⟩) 1 1] ⟨[⟨true, (some (.tab [.fl .f32] ([[((x0 : Nat) : Int)]] : List (List Int))))⟩], 1, []⟩ = firstT [(true, .bool (r51 x0), ⟨[⟨true, (some (.tab [.fl .f32] ([[((x0 : Nat) : Int)]] : List (List Int))))⟩], 1, []⟩)] :=
 (show evFn Try.prog ext T46 noL 200 Try.f51 [.slice (some ⟨0, 0, some 0⟩) 1 1] ⟨[⟨true, (some (.tab [.fl .f32] ([[((x0 : Nat) : Int)]] : List (List Int))))⟩], 1, []⟩ = w51 x0 from by kernel_rfl).trans
 (show w51 x0 = a51 x0 (r51 x0) from by unfold w51 r51; exact (cond_app (a51 x0) _ rfl (cond_app (a51 x0) _ rfl rfl)))
noncomputable def s51 (args : List Value) (s : St) : List (Bool × Value × St) :=
 match args, s.h with
 | [.slice (some ⟨f0, f1, some f2⟩) f3 f4], [⟨true, some (.tab [.fl .f32] [[.ofNat x0]])⟩] => if f0 = 0 ∧ f1 = 0 ∧ f2 = 0 ∧ f3 = 1 ∧ f4 = 1 then [(true, .bool (r51 x0), ⟨[⟨true, (some (.tab [.fl .f32] ([[((x0 : Nat) : Int)]] : List (List Int))))⟩], 1, []⟩)] else T46 51 args s
 | _, _ => T46 51 args s
noncomputable def T47 : CallF := addF T46 51 s51
set_option maxRecDepth 100000 in
set_option maxHeartbeats 4000000 in
theorem ok47 : CfOk Try.prog T47 := by
  refine cfOk_add ok46 fun args s r s' h1 h2 h3 => ?_
  unfold s51 at h3; split at h3
  · rename_i h; split at h3
    · rename_i hc; obtain ⟨rfl, rfl, rfl, rfl, rfl⟩ := hc; exact callOk ok46 Try.func51 h1 h2 h (lfOkF_no _ _).body (e51 _) rfl h3
    · exact ok46 _ _ _ _ _ h1 h2 h3
  · exact ok46 _ _ _ _ _ h1 h2 h3

/-- impl.isZero -/
noncomputable def r52 (x0 : Nat) : Bool :=
 cond (!isN .f32 x0)
  (((((x0 : Nat) : Int) : Int) == 0))
  (false)
noncomputable def a52 (x0 : Nat) (p : Bool) : Res := firstT [(true, .bool p, st0)]
noncomputable def w52 (x0 : Nat) : Res :=
 (cond (!isN .f32 x0)
 (a52 x0 (((((x0 : Nat) : Int) : Int) == 0)))
 (a52 x0 (false)))
set_option maxRecDepth 100000 in
set_option maxHeartbeats 4000000 in
theorem e52 (x0 : Nat) : evFn Try.prog ext T47 noL 200 Try.f52 [.float .f32 x0] st0 = firstT [(true, .bool (r52 x0), st0)] :=
 (show evFn Try.prog ext T47 noL 200 Try.f52 [.float .f32 x0] st0 = w52 x0 from by kernel_rfl).trans
 (show w52 x0 = a52 x0 (r52 x0) from by unfold w52 r52; exact (cond_app (a52 x0) _ rfl rfl))
noncomputable def s52 (args : List Value) (s : St) : List (Bool × Value × St) :=
 match args, s.h with
 | [.float .f32 x0], [] => [(true, .bool (r52 x0), st0)]
 | _, _ => T47 52 args s
noncomputable def T48 : CallF := addF T47 52 s52
set_option maxRecDepth 100000 in
set_option maxHeartbeats 4000000 in
theorem ok48 : CfOk Try.prog T48 := by
  refine cfOk_add ok47 fun args s r s' h1 h2 h3 => ?_
  unfold s52 at h3; split at h3
  · rename_i h; exact callOk ok47 Try.func52 h1 h2 h (lfOkF_no _ _).body (e52 _) rfl h3
  · exact ok47 _ _ _ _ _ h1 h2 h3

/-- impl.takes -/
noncomputable def r53 (x0 : Int) : Int × Int :=
 cond ((x0 : Int) == 1)
  (0, 1)
  (cond ((x0 : Int) == 2)
  (0, 1)
  (cond ((x0 : Int) == 3)
  (0, 1)
  (cond ((x0 : Int) == 4)
  (1, 0)
  (cond ((x0 : Int) == 12)
  (1, 1)
  (cond ((x0 : Int) == 11)
  (3, 1)
  (2, 1))))))
noncomputable def a53 (x0 : Int) (p : Int × Int) : Res := firstT [(true, .tuple #[.int .i64 (p.1), .int .i64 (p.2)], st0)]
noncomputable def w53 (x0 : Int) : Res :=
 (cond ((x0 : Int) == 1)
 (cond ((x0 : Int) == 1)
  (a53 x0 (0, 1))
  (cond ((x0 : Int) == 4)
  (some (.tuple #[.int .i64 1, .int .i64 0], st0))
  (cond ((x0 : Int) == 12)
  (some (.tuple #[.int .i64 1, .int .i64 1], st0))
  (cond ((x0 : Int) == 11)
  (some (.tuple #[.int .i64 3, .int .i64 1], st0))
  (some (.tuple #[.int .i64 2, .int .i64 1], st0))))))
 (cond ((x0 : Int) == 2)
  (cond ((x0 : Int) == 2)
  (a53 x0 (0, 1))
  (cond ((x0 : Int) == 4)
  (some (.tuple #[.int .i64 1, .int .i64 0], st0))
  (cond ((x0 : Int) == 12)
  (some (.tuple #[.int .i64 1, .int .i64 1], st0))
  (cond ((x0 : Int) == 11)
  (some (.tuple #[.int .i64 3, .int .i64 1], st0))
  (some (.tuple #[.int .i64 2, .int .i64 1], st0))))))
  (cond ((x0 : Int) == 3)
  (a53 x0 (0, 1))
  (cond ((x0 : Int) == 4)
  (a53 x0 (1, 0))
  (cond ((x0 : Int) == 12)
  (a53 x0 (1, 1))
  (cond ((x0 : Int) == 11)
  (a53 x0 (3, 1))
  (a53 x0 (2, 1))))))))
set_option maxRecDepth 100000 in
set_option maxHeartbeats 4000000 in
theorem e53 (x0 : Int) : evFn Try.prog ext T48 noL 200 Try.f53 [.int .i8 x0] st0 = firstT [(true, .tuple #[.int .i64 ((r53 x0).1), .int .i64 ((r53 x0).2)], st0)] :=
 (show evFn Try.prog ext T48 noL 200 Try.f53 [.int .i8 x0] st0 = w53 x0 from by kernel_rfl).trans
 (show w53 x0 = a53 x0 (r53 x0) from by unfold w53 r53; exact (cond_both (a53 x0) _ (fun h0 => (cond_t h0 rfl)) (fun h0 => (cond_both (a53 x0) _ (fun h1 => (cond_t h1 rfl)) (fun h1 => (cond_app (a53 x0) _ rfl (cond_app (a53 x0) _ rfl (cond_app (a53 x0) _ rfl (cond_app (a53 x0) _ rfl rfl)))))))))
noncomputable def s53 (args : List Value) (s : St) : List (Bool × Value × St) :=
 match args, s.h with
 | [.int .i8 x0], [] => [(true, .tuple #[.int .i64 ((r53 x0).1), .int .i64 ((r53 x0).2)], st0)]
 | _, _ => T48 53 args s
noncomputable def T49 : CallF := addF T48 53 s53
set_option maxRecDepth 100000 in
set_option maxHeartbeats 4000000 in
theorem ok49 : CfOk Try.prog T49 := by
  refine cfOk_add ok48 fun args s r s' h1 h2 h3 => ?_
  unfold s53 at h3; split at h3
  · rename_i h; exact callOk ok48 Try.func53 h1 h2 h (lfOkF_no _ _).body (e53 _) rfl h3
  · exact ok48 _ _ _ _ _ h1 h2 h3

/-- impl.ValidProgram, loop 1: one round -/
noncomputable def b16l1 (ih : Int → Int → Int → Int → List (List Int) → List ByteArray → (Nat × Int × Int × Int × Int)) (x0 x1 x2 x3 : Int) (x4 : List (List Int)) (x5 : List ByteArray) : Nat × Int × Int × Int × Int :=
 cond (decide ((x3 : Int) < x2))
  (cond ((decide ((0 : Int) ≤ x3)) && (Nat.blt (Int.toNat x3) x4.length))
  (cond (decide ((((x4.getD (Int.toNat x3) []).getD 0 0) : Int) < 1))
  (0, x0, x1, 0, 0)
  (cond (decide ((((x4.getD (Int.toNat x3) []).getD 0 0) : Int) > 12))
  (0, x0, x1, 0, 0)
  (cond ((((x4.getD (Int.toNat x3) []).getD 0 0) : Int) == 1)
  (cond (((IntKind.i64.wrap ((x4.getD (Int.toNat x3) []).getD 1 0)) : Int) != 0)
  (0, x0, x1, 0, 0)
  (cond (!(r51 (Int.toNat ((x4.getD (Int.toNat x3) []).getD 2 0))))
  (0, x0, x1, 0, 0)
  (cond (feq .f32 (Int.toNat ((x4.getD (Int.toNat x3) []).getD 2 0)) 0)
  (cond (!(r52 (Int.toNat ((x4.getD (Int.toNat x3) []).getD 2 0))))
  (0, x0, x1, 0, 0)
  (cond ((((x4.getD (Int.toNat x3) []).getD 0 0) : Int) != 1)
  (cond (decide ((x0 : Int) < ((r53 ((x4.getD (Int.toNat x3) []).getD 0 0)).1)))
  (0, x0, x1, 0, 0)
  (cond (decide (((IntKind.i64.wrap (x0 + (IntKind.i64.wrap (((r53 ((x4.getD (Int.toNat x3) []).getD 0 0)).2) - ((r53 ((x4.getD (Int.toNat x3) []).getD 0 0)).1))))) : Int) > 20))
  (0, (IntKind.i64.wrap (x0 + (IntKind.i64.wrap (((r53 ((x4.getD (Int.toNat x3) []).getD 0 0)).2) - ((r53 ((x4.getD (Int.toNat x3) []).getD 0 0)).1))))), x1, 0, 0)
  (cond ((((x4.getD (Int.toNat x3) []).getD 0 0) : Int) == 4)
  (cond (((IntKind.i64.wrap (x0 + (IntKind.i64.wrap (((r53 ((x4.getD (Int.toNat x3) []).getD 0 0)).2) - ((r53 ((x4.getD (Int.toNat x3) []).getD 0 0)).1))))) : Int) != 0)
  (0, (IntKind.i64.wrap (x0 + (IntKind.i64.wrap (((r53 ((x4.getD (Int.toNat x3) []).getD 0 0)).2) - ((r53 ((x4.getD (Int.toNat x3) []).getD 0 0)).1))))), x1, 0, 0)
  (ih (IntKind.i64.wrap (x0 + (IntKind.i64.wrap (((r53 ((x4.getD (Int.toNat x3) []).getD 0 0)).2) - ((r53 ((x4.getD (Int.toNat x3) []).getD 0 0)).1))))) x1 x2 (IntKind.i64.wrap (x3 + 1)) x4 x5))
  (ih (IntKind.i64.wrap (x0 + (IntKind.i64.wrap (((r53 ((x4.getD (Int.toNat x3) []).getD 0 0)).2) - ((r53 ((x4.getD (Int.toNat x3) []).getD 0 0)).1))))) x1 x2 (IntKind.i64.wrap (x3 + 1)) x4 x5))))
  (cond (decide ((x0 : Int) < ((r53 ((x4.getD (Int.toNat x3) []).getD 0 0)).1)))
  (0, x0, x1, 0, 0)
  (cond (decide (((IntKind.i64.wrap (x0 + (IntKind.i64.wrap (((r53 ((x4.getD (Int.toNat x3) []).getD 0 0)).2) - ((r53 ((x4.getD (Int.toNat x3) []).getD 0 0)).1))))) : Int) > 20))
  (0, (IntKind.i64.wrap (x0 + (IntKind.i64.wrap (((r53 ((x4.getD (Int.toNat x3) []).getD 0 0)).2) - ((r53 ((x4.getD (Int.toNat x3) []).getD 0 0)).1))))), x1, 0, 0)
  (cond ((((x4.getD (Int.toNat x3) []).getD 0 0) : Int) == 4)
  (cond (((IntKind.i64.wrap (x0 + (IntKind.i64.wrap (((r53 ((x4.getD (Int.toNat x3) []).getD 0 0)).2) - ((r53 ((x4.getD (Int.toNat x3) []).getD 0 0)).1))))) : Int) != 0)
  (0, (IntKind.i64.wrap (x0 + (IntKind.i64.wrap (((r53 ((x4.getD (Int.toNat x3) []).getD 0 0)).2) - ((r53 ((x4.getD (Int.toNat x3) []).getD 0 0)).1))))), x1, 0, 0)
  (ih (IntKind.i64.wrap (x0 + (IntKind.i64.wrap (((r53 ((x4.getD (Int.toNat x3) []).getD 0 0)).2) - ((r53 ((x4.getD (Int.toNat x3) []).getD 0 0)).1))))) x1 x2 (IntKind.i64.wrap (x3 + 1)) x4 x5))
  (ih (IntKind.i64.wrap (x0 + (IntKind.i64.wrap (((r53 ((x4.getD (Int.toNat x3) []).getD 0 0)).2) - ((r53 ((x4.getD (Int.toNat x3) []).getD 0 0)).1))))) x1 x2 (IntKind.i64.wrap (x3 + 1)) x4 x5))))))
  (cond ((((x4.getD (Int.toNat x3) []).getD 0 0) : Int) != 1)
  (cond (!(r52 (Int.toNat ((x4.getD (Int.toNat x3) []).getD 2 0))))
  (0, x0, x1, 0, 0)
  (cond (decide ((x0 : Int) < ((r53 ((x4.getD (Int.toNat x3) []).getD 0 0)).1)))
  (0, x0, x1, 0, 0)
  (cond (decide (((IntKind.i64.wrap (x0 + (IntKind.i64.wrap (((r53 ((x4.getD (Int.toNat x3) []).getD 0 0)).2) - ((r53 ((x4.getD (Int.toNat x3) []).getD 0 0)).1))))) : Int) > 20))
  (0, (IntKind.i64.wrap (x0 + (IntKind.i64.wrap (((r53 ((x4.getD (Int.toNat x3) []).getD 0 0)).2) - ((r53 ((x4.getD (Int.toNat x3) []).getD 0 0)).1))))), x1, 0, 0)
  (cond ((((x4.getD (Int.toNat x3) []).getD 0 0) : Int) == 4)
  (cond (((IntKind.i64.wrap (x0 + (IntKind.i64.wrap (((r53 ((x4.getD (Int.toNat x3) []).getD 0 0)).2) - ((r53 ((x4.getD (Int.toNat x3) []).getD 0 0)).1))))) : Int) != 0)
  (0, (IntKind.i64.wrap (x0 + (IntKind.i64.wrap (((r53 ((x4.getD (Int.toNat x3) []).getD 0 0)).2) - ((r53 ((x4.getD (Int.toNat x3) []).getD 0 0)).1))))), x1, 0, 0)
  (ih (IntKind.i64.wrap (x0 + (IntKind.i64.wrap (((r53 ((x4.getD (Int.toNat x3) []).getD 0 0)).2) - ((r53 ((x4.getD (Int.toNat x3) []).getD 0 0)).1))))) x1 x2 (IntKind.i64.wrap (x3 + 1)) x4 x5))
  (ih (IntKind.i64.wrap (x0 + (IntKind.i64.wrap (((r53 ((x4.getD (Int.toNat x3) []).getD 0 0)).2) - ((r53 ((x4.getD (Int.toNat x3) []).getD 0 0)).1))))) x1 x2 (IntKind.i64.wrap (x3 + 1)) x4 x5)))))
  (cond (decide ((x0 : Int) < ((r53 ((x4.getD (Int.toNat x3) []).getD 0 0)).1)))
  (0, x0, x1, 0, 0)
  (cond (decide (((IntKind.i64.wrap (x0 + (IntKind.i64.wrap (((r53 ((x4.getD (Int.toNat x3) []).getD 0 0)).2) - ((r53 ((x4.getD (Int.toNat x3) []).getD 0 0)).1))))) : Int) > 20))
  (0, (IntKind.i64.wrap (x0 + (IntKind.i64.wrap (((r53 ((x4.getD (Int.toNat x3) []).getD 0 0)).2) - ((r53 ((x4.getD (Int.toNat x3) []).getD 0 0)).1))))), x1, 0, 0)
  (cond ((((x4.getD (Int.toNat x3) []).getD 0 0) : Int) == 4)
  (cond (((IntKind.i64.wrap (x0 + (IntKind.i64.wrap (((r53 ((x4.getD (Int.toNat x3) []).getD 0 0)).2) - ((r53 ((x4.getD (Int.toNat x3) []).getD 0 0)).1))))) : Int) != 0)
  (0, (IntKind.i64.wrap (x0 + (IntKind.i64.wrap (((r53 ((x4.getD (Int.toNat x3) []).getD 0 0)).2) - ((r53 ((x4.getD (Int.toNat x3) []).getD 0 0)).1))))), x1, 0, 0)
  (ih (IntKind.i64.wrap (x0 + (IntKind.i64.wrap (((r53 ((x4.getD (Int.toNat x3) []).getD 0 0)).2) - ((r53 ((x4.getD (Int.toNat x3) []).getD 0 0)).1))))) x1 x2 (IntKind.i64.wrap (x3 + 1)) x4 x5))
  (ih (IntKind.i64.wrap (x0 + (IntKind.i64.wrap (((r53 ((x4.getD (Int.toNat x3) []).getD 0 0)).2) - ((r53 ((x4.getD (Int.toNat x3) []).getD 0 0)).1))))) x1 x2 (IntKind.i64.wrap (x3 + 1)) x4 x5))))))))
  (cond ((((x4.getD (Int.toNat x3) []).getD 0 0) : Int) == 2)
  (cond (decide (((IntKind.i64.wrap ((x4.getD (Int.toNat x3) []).getD 1 0)) : Int) < 0))
  (0, x0, x1, 0, 0)
  (cond (decide (((IntKind.i64.wrap ((x4.getD (Int.toNat x3) []).getD 1 0)) : Int) ≥ 4))
  (0, x0, x1, 0, 0)
  (cond ((((x4.getD (Int.toNat x3) []).getD 0 0) : Int) != 1)
  (cond (!(r52 (Int.toNat ((x4.getD (Int.toNat x3) []).getD 2 0))))
  (0, x0, x1, 0, 0)
  (cond (decide ((x0 : Int) < ((r53 ((x4.getD (Int.toNat x3) []).getD 0 0)).1)))
  (0, x0, x1, 0, 0)
  (cond (decide (((IntKind.i64.wrap (x0 + (IntKind.i64.wrap (((r53 ((x4.getD (Int.toNat x3) []).getD 0 0)).2) - ((r53 ((x4.getD (Int.toNat x3) []).getD 0 0)).1))))) : Int) > 20))
  (0, (IntKind.i64.wrap (x0 + (IntKind.i64.wrap (((r53 ((x4.getD (Int.toNat x3) []).getD 0 0)).2) - ((r53 ((x4.getD (Int.toNat x3) []).getD 0 0)).1))))), x1, 0, 0)
  (cond ((((x4.getD (Int.toNat x3) []).getD 0 0) : Int) == 4)
  (cond (((IntKind.i64.wrap (x0 + (IntKind.i64.wrap (((r53 ((x4.getD (Int.toNat x3) []).getD 0 0)).2) - ((r53 ((x4.getD (Int.toNat x3) []).getD 0 0)).1))))) : Int) != 0)
  (0, (IntKind.i64.wrap (x0 + (IntKind.i64.wrap (((r53 ((x4.getD (Int.toNat x3) []).getD 0 0)).2) - ((r53 ((x4.getD (Int.toNat x3) []).getD 0 0)).1))))), x1, 0, 0)
  (ih (IntKind.i64.wrap (x0 + (IntKind.i64.wrap (((r53 ((x4.getD (Int.toNat x3) []).getD 0 0)).2) - ((r53 ((x4.getD (Int.toNat x3) []).getD 0 0)).1))))) x1 x2 (IntKind.i64.wrap (x3 + 1)) x4 x5))
  (ih (IntKind.i64.wrap (x0 + (IntKind.i64.wrap (((r53 ((x4.getD (Int.toNat x3) []).getD 0 0)).2) - ((r53 ((x4.getD (Int.toNat x3) []).getD 0 0)).1))))) x1 x2 (IntKind.i64.wrap (x3 + 1)) x4 x5)))))
  (cond (decide ((x0 : Int) < ((r53 ((x4.getD (Int.toNat x3) []).getD 0 0)).1)))
  (0, x0, x1, 0, 0)
  (cond (decide (((IntKind.i64.wrap (x0 + (IntKind.i64.wrap (((r53 ((x4.getD (Int.toNat x3) []).getD 0 0)).2) - ((r53 ((x4.getD (Int.toNat x3) []).getD 0 0)).1))))) : Int) > 20))
  (0, (IntKind.i64.wrap (x0 + (IntKind.i64.wrap (((r53 ((x4.getD (Int.toNat x3) []).getD 0 0)).2) - ((r53 ((x4.getD (Int.toNat x3) []).getD 0 0)).1))))), x1, 0, 0)
  (cond ((((x4.getD (Int.toNat x3) []).getD 0 0) : Int) == 4)
  (cond (((IntKind.i64.wrap (x0 + (IntKind.i64.wrap (((r53 ((x4.getD (Int.toNat x3) []).getD 0 0)).2) - ((r53 ((x4.getD (Int.toNat x3) []).getD 0 0)).1))))) : Int) != 0)
  (0, (IntKind.i64.wrap (x0 + (IntKind.i64.wrap (((r53 ((x4.getD (Int.toNat x3) []).getD 0 0)).2) - ((r53 ((x4.getD (Int.toNat x3) []).getD 0 0)).1))))), x1, 0, 0)
  (ih (IntKind.i64.wrap (x0 + (IntKind.i64.wrap (((r53 ((x4.getD (Int.toNat x3) []).getD 0 0)).2) - ((r53 ((x4.getD (Int.toNat x3) []).getD 0 0)).1))))) x1 x2 (IntKind.i64.wrap (x3 + 1)) x4 x5))
  (ih (IntKind.i64.wrap (x0 + (IntKind.i64.wrap (((r53 ((x4.getD (Int.toNat x3) []).getD 0 0)).2) - ((r53 ((x4.getD (Int.toNat x3) []).getD 0 0)).1))))) x1 x2 (IntKind.i64.wrap (x3 + 1)) x4 x5)))))))
  (cond ((((x4.getD (Int.toNat x3) []).getD 0 0) : Int) == 3)
  (cond (decide (((IntKind.i64.wrap ((x4.getD (Int.toNat x3) []).getD 1 0)) : Int) < 0))
  (0, x0, x1, 0, 0)
  (cond (decide (((IntKind.i64.wrap ((x4.getD (Int.toNat x3) []).getD 1 0)) : Int) ≥ x1))
  (0, x0, x1, 0, 0)
  (cond ((((x4.getD (Int.toNat x3) []).getD 0 0) : Int) != 1)
  (cond (!(r52 (Int.toNat ((x4.getD (Int.toNat x3) []).getD 2 0))))
  (0, x0, x1, 0, 0)
  (cond (decide ((x0 : Int) < ((r53 ((x4.getD (Int.toNat x3) []).getD 0 0)).1)))
  (0, x0, x1, 0, 0)
  (cond (decide (((IntKind.i64.wrap (x0 + (IntKind.i64.wrap (((r53 ((x4.getD (Int.toNat x3) []).getD 0 0)).2) - ((r53 ((x4.getD (Int.toNat x3) []).getD 0 0)).1))))) : Int) > 20))
  (0, (IntKind.i64.wrap (x0 + (IntKind.i64.wrap (((r53 ((x4.getD (Int.toNat x3) []).getD 0 0)).2) - ((r53 ((x4.getD (Int.toNat x3) []).getD 0 0)).1))))), x1, 0, 0)
  (cond ((((x4.getD (Int.toNat x3) []).getD 0 0) : Int) == 4)
  (cond (((IntKind.i64.wrap (x0 + (IntKind.i64.wrap (((r53 ((x4.getD (Int.toNat x3) []).getD 0 0)).2) - ((r53 ((x4.getD (Int.toNat x3) []).getD 0 0)).1))))) : Int) != 0)
  (0, (IntKind.i64.wrap (x0 + (IntKind.i64.wrap (((r53 ((x4.getD (Int.toNat x3) []).getD 0 0)).2) - ((r53 ((x4.getD (Int.toNat x3) []).getD 0 0)).1))))), x1, 0, 0)
  (ih (IntKind.i64.wrap (x0 + (IntKind.i64.wrap (((r53 ((x4.getD (Int.toNat x3) []).getD 0 0)).2) - ((r53 ((x4.getD (Int.toNat x3) []).getD 0 0)).1))))) x1 x2 (IntKind.i64.wrap (x3 + 1)) x4 x5))
  (ih (IntKind.i64.wrap (x0 + (IntKind.i64.wrap (((r53 ((x4.getD (Int.toNat x3) []).getD 0 0)).2) - ((r53 ((x4.getD (Int.toNat x3) []).getD 0 0)).1))))) x1 x2 (IntKind.i64.wrap (x3 + 1)) x4 x5)))))
  (cond (decide ((x0 : Int) < ((r53 ((x4.getD (Int.toNat x3) []).getD 0 0)).1)))
  (0, x0, x1, 0, 0)
  (cond (decide (((IntKind.i64.wrap (x0 + (IntKind.i64.wrap (((r53 ((x4.getD (Int.toNat x3) []).getD 0 0)).2) - ((r53 ((x4.getD (Int.toNat x3) []).getD 0 0)).1))))) : Int) > 20))
  (0, (IntKind.i64.wrap (x0 + (IntKind.i64.wrap (((r53 ((x4.getD (Int.toNat x3) []).getD 0 0)).2) - ((r53 ((x4.getD (Int.toNat x3) []).getD 0 0)).1))))), x1, 0, 0)
  (cond ((((x4.getD (Int.toNat x3) []).getD 0 0) : Int) == 4)
  (cond (((IntKind.i64.wrap (x0 + (IntKind.i64.wrap (((r53 ((x4.getD (Int.toNat x3) []).getD 0 0)).2) - ((r53 ((x4.getD (Int.toNat x3) []).getD 0 0)).1))))) : Int) != 0)
  (0, (IntKind.i64.wrap (x0 + (IntKind.i64.wrap (((r53 ((x4.getD (Int.toNat x3) []).getD 0 0)).2) - ((r53 ((x4.getD (Int.toNat x3) []).getD 0 0)).1))))), x1, 0, 0)
  (ih (IntKind.i64.wrap (x0 + (IntKind.i64.wrap (((r53 ((x4.getD (Int.toNat x3) []).getD 0 0)).2) - ((r53 ((x4.getD (Int.toNat x3) []).getD 0 0)).1))))) x1 x2 (IntKind.i64.wrap (x3 + 1)) x4 x5))
  (ih (IntKind.i64.wrap (x0 + (IntKind.i64.wrap (((r53 ((x4.getD (Int.toNat x3) []).getD 0 0)).2) - ((r53 ((x4.getD (Int.toNat x3) []).getD 0 0)).1))))) x1 x2 (IntKind.i64.wrap (x3 + 1)) x4 x5)))))))
  (cond ((((x4.getD (Int.toNat x3) []).getD 0 0) : Int) == 4)
  (cond (((IntKind.i64.wrap ((x4.getD (Int.toNat x3) []).getD 1 0)) : Int) != x1)
  (0, x0, x1, 0, 0)
  (cond (decide ((x1 : Int) ≥ ((x5.length : Nat) : Int)))
  (0, x0, x1, 0, 0)
  (cond ((((x4.getD (Int.toNat x3) []).getD 0 0) : Int) != 1)
  (cond (!(r52 (Int.toNat ((x4.getD (Int.toNat x3) []).getD 2 0))))
  (0, x0, (IntKind.i64.wrap (x1 + 1)), 0, 0)
  (cond (decide ((x0 : Int) < ((r53 ((x4.getD (Int.toNat x3) []).getD 0 0)).1)))
  (0, x0, (IntKind.i64.wrap (x1 + 1)), 0, 0)
  (cond (decide (((IntKind.i64.wrap (x0 + (IntKind.i64.wrap (((r53 ((x4.getD (Int.toNat x3) []).getD 0 0)).2) - ((r53 ((x4.getD (Int.toNat x3) []).getD 0 0)).1))))) : Int) > 20))
  (0, (IntKind.i64.wrap (x0 + (IntKind.i64.wrap (((r53 ((x4.getD (Int.toNat x3) []).getD 0 0)).2) - ((r53 ((x4.getD (Int.toNat x3) []).getD 0 0)).1))))), (IntKind.i64.wrap (x1 + 1)), 0, 0)
  (cond (((IntKind.i64.wrap (x0 + (IntKind.i64.wrap (((r53 ((x4.getD (Int.toNat x3) []).getD 0 0)).2) - ((r53 ((x4.getD (Int.toNat x3) []).getD 0 0)).1))))) : Int) != 0)
  (0, (IntKind.i64.wrap (x0 + (IntKind.i64.wrap (((r53 ((x4.getD (Int.toNat x3) []).getD 0 0)).2) - ((r53 ((x4.getD (Int.toNat x3) []).getD 0 0)).1))))), (IntKind.i64.wrap (x1 + 1)), 0, 0)
  (ih (IntKind.i64.wrap (x0 + (IntKind.i64.wrap (((r53 ((x4.getD (Int.toNat x3) []).getD 0 0)).2) - ((r53 ((x4.getD (Int.toNat x3) []).getD 0 0)).1))))) (IntKind.i64.wrap (x1 + 1)) x2 (IntKind.i64.wrap (x3 + 1)) x4 x5)))))
  (cond (decide ((x0 : Int) < ((r53 ((x4.getD (Int.toNat x3) []).getD 0 0)).1)))
  (0, x0, (IntKind.i64.wrap (x1 + 1)), 0, 0)
  (cond (decide (((IntKind.i64.wrap (x0 + (IntKind.i64.wrap (((r53 ((x4.getD (Int.toNat x3) []).getD 0 0)).2) - ((r53 ((x4.getD (Int.toNat x3) []).getD 0 0)).1))))) : Int) > 20))
  (0, (IntKind.i64.wrap (x0 + (IntKind.i64.wrap (((r53 ((x4.getD (Int.toNat x3) []).getD 0 0)).2) - ((r53 ((x4.getD (Int.toNat x3) []).getD 0 0)).1))))), (IntKind.i64.wrap (x1 + 1)), 0, 0)
  (cond (((IntKind.i64.wrap (x0 + (IntKind.i64.wrap (((r53 ((x4.getD (Int.toNat x3) []).getD 0 0)).2) - ((r53 ((x4.getD (Int.toNat x3) []).getD 0 0)).1))))) : Int) != 0)
  (0, (IntKind.i64.wrap (x0 + (IntKind.i64.wrap (((r53 ((x4.getD (Int.toNat x3) []).getD 0 0)).2) - ((r53 ((x4.getD (Int.toNat x3) []).getD 0 0)).1))))), (IntKind.i64.wrap (x1 + 1)), 0, 0)
  (ih (IntKind.i64.wrap (x0 + (IntKind.i64.wrap (((r53 ((x4.getD (Int.toNat x3) []).getD 0 0)).2) - ((r53 ((x4.getD (Int.toNat x3) []).getD 0 0)).1))))) (IntKind.i64.wrap (x1 + 1)) x2 (IntKind.i64.wrap (x3 + 1)) x4 x5)))))))
  (cond (((IntKind.i64.wrap ((x4.getD (Int.toNat x3) []).getD 1 0)) : Int) != 0)
  (0, x0, x1, 0, 0)
  (cond ((((x4.getD (Int.toNat x3) []).getD 0 0) : Int) != 1)
  (cond (!(r52 (Int.toNat ((x4.getD (Int.toNat x3) []).getD 2 0))))
  (0, x0, x1, 0, 0)
  (cond (decide ((x0 : Int) < ((r53 ((x4.getD (Int.toNat x3) []).getD 0 0)).1)))
  (0, x0, x1, 0, 0)
  (cond (decide (((IntKind.i64.wrap (x0 + (IntKind.i64.wrap (((r53 ((x4.getD (Int.toNat x3) []).getD 0 0)).2) - ((r53 ((x4.getD (Int.toNat x3) []).getD 0 0)).1))))) : Int) > 20))
  (0, (IntKind.i64.wrap (x0 + (IntKind.i64.wrap (((r53 ((x4.getD (Int.toNat x3) []).getD 0 0)).2) - ((r53 ((x4.getD (Int.toNat x3) []).getD 0 0)).1))))), x1, 0, 0)
  (ih (IntKind.i64.wrap (x0 + (IntKind.i64.wrap (((r53 ((x4.getD (Int.toNat x3) []).getD 0 0)).2) - ((r53 ((x4.getD (Int.toNat x3) []).getD 0 0)).1))))) x1 x2 (IntKind.i64.wrap (x3 + 1)) x4 x5))))
  (cond (decide ((x0 : Int) < ((r53 ((x4.getD (Int.toNat x3) []).getD 0 0)).1)))
  (0, x0, x1, 0, 0)
  (cond (decide (((IntKind.i64.wrap (x0 + (IntKind.i64.wrap (((r53 ((x4.getD (Int.toNat x3) []).getD 0 0)).2) - ((r53 ((x4.getD (Int.toNat x3) []).getD 0 0)).1))))) : Int) > 20))
  (0, (IntKind.i64.wrap (x0 + (IntKind.i64.wrap (((r53 ((x4.getD (Int.toNat x3) []).getD 0 0)).2) - ((r53 ((x4.getD (Int.toNat x3) []).getD 0 0)).1))))), x1, 0, 0)
  (ih (IntKind.i64.wrap (x0 + (IntKind.i64.wrap (((r53 ((x4.getD (Int.toNat x3) []).getD 0 0)).2) - ((r53 ((x4.getD (Int.toNat x3) []).getD 0 0)).1))))) x1 x2 (IntKind.i64.wrap (x3 + 1)) x4 x5)))))))))))
  (2, 0, 0, 0, 0))
  (1, 0, 0, x0, x1)
noncomputable def r16l1 : Nat → Int → Int → Int → Int → List (List Int) → List ByteArray → (Nat × Int × Int × Int × Int)
 | 0 => fun _ _ _ _ _ _ => (2, 0, 0, 0, 0)
 | m + 1 => b16l1 (r16l1 m)
noncomputable def a16l1 (x0 x1 x2 x3 : Int) (x4 : List (List Int)) (x5 : List ByteArray) (p : Nat × Int × Int × Int × Int) : Option (Fin' × List Value × St) := firstT ([((Nat.beq (p.1) 0), .ret, [.pointer (some ⟨0, 0, some 0⟩), .bool false, .int .i64 (p.2.1), .int .i64 (p.2.2.1)], ⟨[⟨true, (some (.cells [wsl 2, wsl 1]))⟩, ⟨true, (some (.tab [.int .i8, .int .i16, .fl .f32] x4))⟩, ⟨true, (some (.strs x5))⟩], 3, []⟩), ((Nat.beq (p.1) 1), .exit 2, [.pointer (some ⟨0, 0, some 0⟩), anyV, .int .i64 (p.2.2.2.1), .int .i64 (p.2.2.2.2)], ⟨[⟨true, (some (.cells [wsl 2, wsl 1]))⟩, ⟨true, (some (.tab [.int .i8, .int .i16, .fl .f32] x4))⟩, ⟨true, (some (.strs x5))⟩], 3, []⟩)].map fun (b, x) => (b, (x.1, frameOf 161 [1, 2, 5, 6] x.2.1, x.2.2)))
noncomputable def u16l1 (x0 x1 x2 x3 : Int) (x4 : List (List Int)) (x5 : List ByteArray) (p : Nat × Int × Int × Int × Int) : Option (Fin' × List Value × St) := alts ([((Nat.beq (p.1) 0), .ret, [.pointer (some ⟨0, 0, some 0⟩), .bool false, .int .i64 (p.2.1), .int .i64 (p.2.2.1)], ⟨[⟨true, (some (.cells [wsl 2, wsl 1]))⟩, ⟨true, (some (.tab [.int .i8, .int .i16, .fl .f32] x4))⟩, ⟨true, (some (.strs x5))⟩], 3, []⟩), ((Nat.beq (p.1) 1), .exit 2, [.pointer (some ⟨0, 0, some 0⟩), anyV, .int .i64 (p.2.2.2.1), .int .i64 (p.2.2.2.2)], ⟨[⟨true, (some (.cells [wsl 2, wsl 1]))⟩, ⟨true, (some (.tab [.int .i8, .int .i16, .fl .f32] x4))⟩, ⟨true, (some (.strs x5))⟩], 3, []⟩)].map fun (b, x) => (b, (x.1, frameOf 161 [1, 2, 5, 6] x.2.1, x.2.2))) some
theorem v16l1 (x0 x1 x2 x3 : Int) (x4 : List (List Int)) (x5 : List ByteArray) (p : Nat × Int × Int × Int × Int) : u16l1 x0 x1 x2 x3 x4 x5 p = a16l1 x0 x1 x2 x3 x4 x5 p := alts_first _
noncomputable def q16l1 (m : Nat) : SumK := fun vals s =>
 match vals, s.h with
 | [.pointer (some ⟨f0, f1, some f2⟩), .int .i64 x0, .int .i64 x1, .iface f3 .nilIface, .int .i64 x2, .int .i64 x3], [⟨true, some (.cells [.iface f4 .nilIface, .iface f5 .nilIface])⟩, ⟨true, some (.tab [.int .i8, .int .i16, .fl .f32] x4)⟩, ⟨true, some (.strs x5)⟩] => if f0 = 0 ∧ f1 = 0 ∧ f2 = 0 ∧ f3 = 1 ∧ f4 = 2 ∧ f5 = 1 then [((Nat.beq ((r16l1 m x0 x1 x2 x3 x4 x5).1) 0), .ret, [.pointer (some ⟨0, 0, some 0⟩), .bool false, .int .i64 ((r16l1 m x0 x1 x2 x3 x4 x5).2.1), .int .i64 ((r16l1 m x0 x1 x2 x3 x4 x5).2.2.1)], ⟨[⟨true, (some (.cells [wsl 2, wsl 1]))⟩, ⟨true, (some (.tab [.int .i8, .int .i16, .fl .f32] x4))⟩, ⟨true, (some (.strs x5))⟩], 3, []⟩), ((Nat.beq ((r16l1 m x0 x1 x2 x3 x4 x5).1) 1), .exit 2, [.pointer (some ⟨0, 0, some 0⟩), anyV, .int .i64 ((r16l1 m x0 x1 x2 x3 x4 x5).2.2.2.1), .int .i64 ((r16l1 m x0 x1 x2 x3 x4 x5).2.2.2.2)], ⟨[⟨true, (some (.cells [wsl 2, wsl 1]))⟩, ⟨true, (some (.tab [.int .i8, .int .i16, .fl .f32] x4))⟩, ⟨true, (some (.strs x5))⟩], 3, []⟩)] else noQ vals s
 | _, _ => noQ vals s
noncomputable def w16l1 (ih : Int → Int → Int → Int → List (List Int) → List ByteArray → (Nat × Int × Int × Int × Int)) (x0 x1 x2 x3 : Int) (x4 : List (List Int)) (x5 : List ByteArray) : Option (Fin' × List Value × St) :=
 (cond (decide ((x3 : Int) < x2))
 (cond ((decide ((0 : Int) ≤ x3)) && (Nat.blt (Int.toNat x3) x4.length))
  (cond (Nat.blt (Int.toNat x3) x4.length)
  (cond (decide ((((x4.getD (Int.toNat x3) []).getD 0 0) : Int) < 1))
  (a16l1 x0 x1 x2 x3 x4 x5 (0, x0, x1, 0, 0))
  (cond (decide ((((x4.getD (Int.toNat x3) []).getD 0 0) : Int) > 12))
  (a16l1 x0 x1 x2 x3 x4 x5 (0, x0, x1, 0, 0))
  (cond ((((x4.getD (Int.toNat x3) []).getD 0 0) : Int) == 1)
  (cond (((IntKind.i64.wrap ((x4.getD (Int.toNat x3) []).getD 1 0)) : Int) != 0)
  (a16l1 x0 x1 x2 x3 x4 x5 (0, x0, x1, 0, 0))
  (cond (!(r51 (Int.toNat ((x4.getD (Int.toNat x3) []).getD 2 0))))
  (a16l1 x0 x1 x2 x3 x4 x5 (0, x0, x1, 0, 0))
  (cond (feq .f32 (Int.toNat ((x4.getD (Int.toNat x3) []).getD 2 0)) 0)
  (cond (!(r52 (Int.toNat ((x4.getD (Int.toNat x3) []).getD 2 0))))
  (a16l1 x0 x1 x2 x3 x4 x5 (0, x0, x1, 0, 0))
  (cond ((((x4.getD (Int.toNat x3) []).getD 0 0) : Int) != 1)
  (cond (!(r52 (Int.toNat ((x4.getD (Int.toNat x3) []).getD 2 0))))
  (some (.ret, frameOf 161 [1, 2, 5, 6] [.pointer (some ⟨0, 0, some 0⟩), .bool false, .int .i64 x0, .int .i64 x1], ⟨[⟨true, (some (.cells [wsl 2, wsl 1]))⟩, ⟨true, (some (.tab [.int .i8, .int .i16, .fl .f32] x4))⟩, ⟨true, (some (.strs x5))⟩], 3, []⟩))
  (cond (decide ((x0 : Int) < ((r53 ((x4.getD (Int.toNat x3) []).getD 0 0)).1)))
  (a16l1 x0 x1 x2 x3 x4 x5 (0, x0, x1, 0, 0))
  (cond (decide (((IntKind.i64.wrap (x0 + (IntKind.i64.wrap (((r53 ((x4.getD (Int.toNat x3) []).getD 0 0)).2) - ((r53 ((x4.getD (Int.toNat x3) []).getD 0 0)).1))))) : Int) > 20))
  (a16l1 x0 x1 x2 x3 x4 x5 (0, (IntKind.i64.wrap (x0 + (IntKind.i64.wrap (((r53 ((x4.getD (Int.toNat x3) []).getD 0 0)).2) - ((r53 ((x4.getD (Int.toNat x3) []).getD 0 0)).1))))), x1, 0, 0))
  (cond ((((x4.getD (Int.toNat x3) []).getD 0 0) : Int) == 4)
  (cond (((IntKind.i64.wrap (x0 + (IntKind.i64.wrap (((r53 ((x4.getD (Int.toNat x3) []).getD 0 0)).2) - ((r53 ((x4.getD (Int.toNat x3) []).getD 0 0)).1))))) : Int) != 0)
  (a16l1 x0 x1 x2 x3 x4 x5 (0, (IntKind.i64.wrap (x0 + (IntKind.i64.wrap (((r53 ((x4.getD (Int.toNat x3) []).getD 0 0)).2) - ((r53 ((x4.getD (Int.toNat x3) []).getD 0 0)).1))))), x1, 0, 0))
  (u16l1 x0 x1 x2 x3 x4 x5 (ih (IntKind.i64.wrap (x0 + (IntKind.i64.wrap (((r53 ((x4.getD (Int.toNat x3) []).getD 0 0)).2) - ((r53 ((x4.getD (Int.toNat x3) []).getD 0 0)).1))))) x1 x2 (IntKind.i64.wrap (x3 + 1)) x4 x5)))
  (u16l1 x0 x1 x2 x3 x4 x5 (ih (IntKind.i64.wrap (x0 + (IntKind.i64.wrap (((r53 ((x4.getD (Int.toNat x3) []).getD 0 0)).2) - ((r53 ((x4.getD (Int.toNat x3) []).getD 0 0)).1))))) x1 x2 (IntKind.i64.wrap (x3 + 1)) x4 x5))))))
  (cond (decide ((x0 : Int) < ((r53 ((x4.getD (Int.toNat x3) []).getD 0 0)).1)))
  (a16l1 x0 x1 x2 x3 x4 x5 (0, x0, x1, 0, 0))
  (cond (decide (((IntKind.i64.wrap (x0 + (IntKind.i64.wrap (((r53 ((x4.getD (Int.toNat x3) []).getD 0 0)).2) - ((r53 ((x4.getD (Int.toNat x3) []).getD 0 0)).1))))) : Int) > 20))
  (a16l1 x0 x1 x2 x3 x4 x5 (0, (IntKind.i64.wrap (x0 + (IntKind.i64.wrap (((r53 ((x4.getD (Int.toNat x3) []).getD 0 0)).2) - ((r53 ((x4.getD (Int.toNat x3) []).getD 0 0)).1))))), x1, 0, 0))
  (cond ((((x4.getD (Int.toNat x3) []).getD 0 0) : Int) == 4)
  (cond (((IntKind.i64.wrap (x0 + (IntKind.i64.wrap (((r53 ((x4.getD (Int.toNat x3) []).getD 0 0)).2) - ((r53 ((x4.getD (Int.toNat x3) []).getD 0 0)).1))))) : Int) != 0)
  (a16l1 x0 x1 x2 x3 x4 x5 (0, (IntKind.i64.wrap (x0 + (IntKind.i64.wrap (((r53 ((x4.getD (Int.toNat x3) []).getD 0 0)).2) - ((r53 ((x4.getD (Int.toNat x3) []).getD 0 0)).1))))), x1, 0, 0))
  (u16l1 x0 x1 x2 x3 x4 x5 (ih (IntKind.i64.wrap (x0 + (IntKind.i64.wrap (((r53 ((x4.getD (Int.toNat x3) []).getD 0 0)).2) - ((r53 ((x4.getD (Int.toNat x3) []).getD 0 0)).1))))) x1 x2 (IntKind.i64.wrap (x3 + 1)) x4 x5)))
  (u16l1 x0 x1 x2 x3 x4 x5 (ih (IntKind.i64.wrap (x0 + (IntKind.i64.wrap (((r53 ((x4.getD (Int.toNat x3) []).getD 0 0)).2) - ((r53 ((x4.getD (Int.toNat x3) []).getD 0 0)).1))))) x1 x2 (IntKind.i64.wrap (x3 + 1)) x4 x5)))))))
  (cond ((((x4.getD (Int.toNat x3) []).getD 0 0) : Int) != 1)
  (cond (!(r52 (Int.toNat ((x4.getD (Int.toNat x3) []).getD 2 0))))
  (a16l1 x0 x1 x2 x3 x4 x5 (0, x0, x1, 0, 0))
  (cond (decide ((x0 : Int) < ((r53 ((x4.getD (Int.toNat x3) []).getD 0 0)).1)))
  (a16l1 x0 x1 x2 x3 x4 x5 (0, x0, x1, 0, 0))
  (cond (decide (((IntKind.i64.wrap (x0 + (IntKind.i64.wrap (((r53 ((x4.getD (Int.toNat x3) []).getD 0 0)).2) - ((r53 ((x4.getD (Int.toNat x3) []).getD 0 0)).1))))) : Int) > 20))
  (a16l1 x0 x1 x2 x3 x4 x5 (0, (IntKind.i64.wrap (x0 + (IntKind.i64.wrap (((r53 ((x4.getD (Int.toNat x3) []).getD 0 0)).2) - ((r53 ((x4.getD (Int.toNat x3) []).getD 0 0)).1))))), x1, 0, 0))
  (cond ((((x4.getD (Int.toNat x3) []).getD 0 0) : Int) == 4)
  (cond (((IntKind.i64.wrap (x0 + (IntKind.i64.wrap (((r53 ((x4.getD (Int.toNat x3) []).getD 0 0)).2) - ((r53 ((x4.getD (Int.toNat x3) []).getD 0 0)).1))))) : Int) != 0)
  (a16l1 x0 x1 x2 x3 x4 x5 (0, (IntKind.i64.wrap (x0 + (IntKind.i64.wrap (((r53 ((x4.getD (Int.toNat x3) []).getD 0 0)).2) - ((r53 ((x4.getD (Int.toNat x3) []).getD 0 0)).1))))), x1, 0, 0))
  (u16l1 x0 x1 x2 x3 x4 x5 (ih (IntKind.i64.wrap (x0 + (IntKind.i64.wrap (((r53 ((x4.getD (Int.toNat x3) []).getD 0 0)).2) - ((r53 ((x4.getD (Int.toNat x3) []).getD 0 0)).1))))) x1 x2 (IntKind.i64.wrap (x3 + 1)) x4 x5)))
  (u16l1 x0 x1 x2 x3 x4 x5 (ih (IntKind.i64.wrap (x0 + (IntKind.i64.wrap (((r53 ((x4.getD (Int.toNat x3) []).getD 0 0)).2) - ((r53 ((x4.getD (Int.toNat x3) []).getD 0 0)).1))))) x1 x2 (IntKind.i64.wrap (x3 + 1)) x4 x5))))))
  (cond (decide ((x0 : Int) < ((r53 ((x4.getD (Int.toNat x3) []).getD 0 0)).1)))
  (a16l1 x0 x1 x2 x3 x4 x5 (0, x0, x1, 0, 0))
  (cond (decide (((IntKind.i64.wrap (x0 + (IntKind.i64.wrap (((r53 ((x4.getD (Int.toNat x3) []).getD 0 0)).2) - ((r53 ((x4.getD (Int.toNat x3) []).getD 0 0)).1))))) : Int) > 20))
  (a16l1 x0 x1 x2 x3 x4 x5 (0, (IntKind.i64.wrap (x0 + (IntKind.i64.wrap (((r53 ((x4.getD (Int.toNat x3) []).getD 0 0)).2) - ((r53 ((x4.getD (Int.toNat x3) []).getD 0 0)).1))))), x1, 0, 0))
  (cond ((((x4.getD (Int.toNat x3) []).getD 0 0) : Int) == 4)
  (cond (((IntKind.i64.wrap (x0 + (IntKind.i64.wrap (((r53 ((x4.getD (Int.toNat x3) []).getD 0 0)).2) - ((r53 ((x4.getD (Int.toNat x3) []).getD 0 0)).1))))) : Int) != 0)
  (a16l1 x0 x1 x2 x3 x4 x5 (0, (IntKind.i64.wrap (x0 + (IntKind.i64.wrap (((r53 ((x4.getD (Int.toNat x3) []).getD 0 0)).2) - ((r53 ((x4.getD (Int.toNat x3) []).getD 0 0)).1))))), x1, 0, 0))
  (u16l1 x0 x1 x2 x3 x4 x5 (ih (IntKind.i64.wrap (x0 + (IntKind.i64.wrap (((r53 ((x4.getD (Int.toNat x3) []).getD 0 0)).2) - ((r53 ((x4.getD (Int.toNat x3) []).getD 0 0)).1))))) x1 x2 (IntKind.i64.wrap (x3 + 1)) x4 x5)))
  (u16l1 x0 x1 x2 x3 x4 x5 (ih (IntKind.i64.wrap (x0 + (IntKind.i64.wrap (((r53 ((x4.getD (Int.toNat x3) []).getD 0 0)).2) - ((r53 ((x4.getD (Int.toNat x3) []).getD 0 0)).1))))) x1 x2 (IntKind.i64.wrap (x3 + 1)) x4 x5)))))))))
  (cond ((((x4.getD (Int.toNat x3) []).getD 0 0) : Int) == 2)
  (cond (decide (((IntKind.i64.wrap ((x4.getD (Int.toNat x3) []).getD 1 0)) : Int) < 0))
  (a16l1 x0 x1 x2 x3 x4 x5 (0, x0, x1, 0, 0))
  (cond (decide (((IntKind.i64.wrap ((x4.getD (Int.toNat x3) []).getD 1 0)) : Int) ≥ 4))
  (a16l1 x0 x1 x2 x3 x4 x5 (0, x0, x1, 0, 0))
  (cond ((((x4.getD (Int.toNat x3) []).getD 0 0) : Int) != 1)
  (cond (!(r52 (Int.toNat ((x4.getD (Int.toNat x3) []).getD 2 0))))
  (a16l1 x0 x1 x2 x3 x4 x5 (0, x0, x1, 0, 0))
  (cond (decide ((x0 : Int) < ((r53 ((x4.getD (Int.toNat x3) []).getD 0 0)).1)))
  (a16l1 x0 x1 x2 x3 x4 x5 (0, x0, x1, 0, 0))
  (cond (decide (((IntKind.i64.wrap (x0 + (IntKind.i64.wrap (((r53 ((x4.getD (Int.toNat x3) []).getD 0 0)).2) - ((r53 ((x4.getD (Int.toNat x3) []).getD 0 0)).1))))) : Int) > 20))
  (a16l1 x0 x1 x2 x3 x4 x5 (0, (IntKind.i64.wrap (x0 + (IntKind.i64.wrap (((r53 ((x4.getD (Int.toNat x3) []).getD 0 0)).2) - ((r53 ((x4.getD (Int.toNat x3) []).getD 0 0)).1))))), x1, 0, 0))
  (cond ((((x4.getD (Int.toNat x3) []).getD 0 0) : Int) == 4)
  (cond (((IntKind.i64.wrap (x0 + (IntKind.i64.wrap (((r53 ((x4.getD (Int.toNat x3) []).getD 0 0)).2) - ((r53 ((x4.getD (Int.toNat x3) []).getD 0 0)).1))))) : Int) != 0)
  (a16l1 x0 x1 x2 x3 x4 x5 (0, (IntKind.i64.wrap (x0 + (IntKind.i64.wrap (((r53 ((x4.getD (Int.toNat x3) []).getD 0 0)).2) - ((r53 ((x4.getD (Int.toNat x3) []).getD 0 0)).1))))), x1, 0, 0))
  (u16l1 x0 x1 x2 x3 x4 x5 (ih (IntKind.i64.wrap (x0 + (IntKind.i64.wrap (((r53 ((x4.getD (Int.toNat x3) []).getD 0 0)).2) - ((r53 ((x4.getD (Int.toNat x3) []).getD 0 0)).1))))) x1 x2 (IntKind.i64.wrap (x3 + 1)) x4 x5)))
  (u16l1 x0 x1 x2 x3 x4 x5 (ih (IntKind.i64.wrap (x0 + (IntKind.i64.wrap (((r53 ((x4.getD (Int.toNat x3) []).getD 0 0)).2) - ((r53 ((x4.getD (Int.toNat x3) []).getD 0 0)).1))))) x1 x2 (IntKind.i64.wrap (x3 + 1)) x4 x5))))))
  (cond (decide ((x0 : Int) < ((r53 ((x4.getD (Int.toNat x3) []).getD 0 0)).1)))
  (a16l1 x0 x1 x2 x3 x4 x5 (0, x0, x1, 0, 0))
  (cond (decide (((IntKind.i64.wrap (x0 + (IntKind.i64.wrap (((r53 ((x4.getD (Int.toNat x3) []).getD 0 0)).2) - ((r53 ((x4.getD (Int.toNat x3) []).getD 0 0)).1))))) : Int) > 20))
  (a16l1 x0 x1 x2 x3 x4 x5 (0, (IntKind.i64.wrap (x0 + (IntKind.i64.wrap (((r53 ((x4.getD (Int.toNat x3) []).getD 0 0)).2) - ((r53 ((x4.getD (Int.toNat x3) []).getD 0 0)).1))))), x1, 0, 0))
  (cond ((((x4.getD (Int.toNat x3) []).getD 0 0) : Int) == 4)
  (cond (((IntKind.i64.wrap (x0 + (IntKind.i64.wrap (((r53 ((x4.getD (Int.toNat x3) []).getD 0 0)).2) - ((r53 ((x4.getD (Int.toNat x3) []).getD 0 0)).1))))) : Int) != 0)
  (a16l1 x0 x1 x2 x3 x4 x5 (0, (IntKind.i64.wrap (x0 + (IntKind.i64.wrap (((r53 ((x4.getD (Int.toNat x3) []).getD 0 0)).2) - ((r53 ((x4.getD (Int.toNat x3) []).getD 0 0)).1))))), x1, 0, 0))
  (u16l1 x0 x1 x2 x3 x4 x5 (ih (IntKind.i64.wrap (x0 + (IntKind.i64.wrap (((r53 ((x4.getD (Int.toNat x3) []).getD 0 0)).2) - ((r53 ((x4.getD (Int.toNat x3) []).getD 0 0)).1))))) x1 x2 (IntKind.i64.wrap (x3 + 1)) x4 x5)))
  (u16l1 x0 x1 x2 x3 x4 x5 (ih (IntKind.i64.wrap (x0 + (IntKind.i64.wrap (((r53 ((x4.getD (Int.toNat x3) []).getD 0 0)).2) - ((r53 ((x4.getD (Int.toNat x3) []).getD 0 0)).1))))) x1 x2 (IntKind.i64.wrap (x3 + 1)) x4 x5))))))))
  (cond ((((x4.getD (Int.toNat x3) []).getD 0 0) : Int) == 3)
  (cond (decide (((IntKind.i64.wrap ((x4.getD (Int.toNat x3) []).getD 1 0)) : Int) < 0))
  (a16l1 x0 x1 x2 x3 x4 x5 (0, x0, x1, 0, 0))
  (cond (decide (((IntKind.i64.wrap ((x4.getD (Int.toNat x3) []).getD 1 0)) : Int) ≥ x1))
  (a16l1 x0 x1 x2 x3 x4 x5 (0, x0, x1, 0, 0))
  (cond ((((x4.getD (Int.toNat x3) []).getD 0 0) : Int) != 1)
  (cond (!(r52 (Int.toNat ((x4.getD (Int.toNat x3) []).getD 2 0))))
  (a16l1 x0 x1 x2 x3 x4 x5 (0, x0, x1, 0, 0))
  (cond (decide ((x0 : Int) < ((r53 ((x4.getD (Int.toNat x3) []).getD 0 0)).1)))
  (a16l1 x0 x1 x2 x3 x4 x5 (0, x0, x1, 0, 0))
  (cond (decide (((IntKind.i64.wrap (x0 + (IntKind.i64.wrap (((r53 ((x4.getD (Int.toNat x3) []).getD 0 0)).2) - ((r53 ((x4.getD (Int.toNat x3) []).getD 0 0)).1))))) : Int) > 20))
  (a16l1 x0 x1 x2 x3 x4 x5 (0, (IntKind.i64.wrap (x0 + (IntKind.i64.wrap (((r53 ((x4.getD (Int.toNat x3) []).getD 0 0)).2) - ((r53 ((x4.getD (Int.toNat x3) []).getD 0 0)).1))))), x1, 0, 0))
  (cond ((((x4.getD (Int.toNat x3) []).getD 0 0) : Int) == 4)
  (cond (((IntKind.i64.wrap (x0 + (IntKind.i64.wrap (((r53 ((x4.getD (Int.toNat x3) []).getD 0 0)).2) - ((r53 ((x4.getD (Int.toNat x3) []).getD 0 0)).1))))) : Int) != 0)
  (a16l1 x0 x1 x2 x3 x4 x5 (0, (IntKind.i64.wrap (x0 + (IntKind.i64.wrap (((r53 ((x4.getD (Int.toNat x3) []).getD 0 0)).2) - ((r53 ((x4.getD (Int.toNat x3) []).getD 0 0)).1))))), x1, 0, 0))
  (u16l1 x0 x1 x2 x3 x4 x5 (ih (IntKind.i64.wrap (x0 + (IntKind.i64.wrap (((r53 ((x4.getD (Int.toNat x3) []).getD 0 0)).2) - ((r53 ((x4.getD (Int.toNat x3) []).getD 0 0)).1))))) x1 x2 (IntKind.i64.wrap (x3 + 1)) x4 x5)))
  (u16l1 x0 x1 x2 x3 x4 x5 (ih (IntKind.i64.wrap (x0 + (IntKind.i64.wrap (((r53 ((x4.getD (Int.toNat x3) []).getD 0 0)).2) - ((r53 ((x4.getD (Int.toNat x3) []).getD 0 0)).1))))) x1 x2 (IntKind.i64.wrap (x3 + 1)) x4 x5))))))
  (cond (decide ((x0 : Int) < ((r53 ((x4.getD (Int.toNat x3) []).getD 0 0)).1)))
  (a16l1 x0 x1 x2 x3 x4 x5 (0, x0, x1, 0, 0))
  (cond (decide (((IntKind.i64.wrap (x0 + (IntKind.i64.wrap (((r53 ((x4.getD (Int.toNat x3) []).getD 0 0)).2) - ((r53 ((x4.getD (Int.toNat x3) []).getD 0 0)).1))))) : Int) > 20))
  (a16l1 x0 x1 x2 x3 x4 x5 (0, (IntKind.i64.wrap (x0 + (IntKind.i64.wrap (((r53 ((x4.getD (Int.toNat x3) []).getD 0 0)).2) - ((r53 ((x4.getD (Int.toNat x3) []).getD 0 0)).1))))), x1, 0, 0))
  (cond ((((x4.getD (Int.toNat x3) []).getD 0 0) : Int) == 4)
  (cond (((IntKind.i64.wrap (x0 + (IntKind.i64.wrap (((r53 ((x4.getD (Int.toNat x3) []).getD 0 0)).2) - ((r53 ((x4.getD (Int.toNat x3) []).getD 0 0)).1))))) : Int) != 0)
  (a16l1 x0 x1 x2 x3 x4 x5 (0, (IntKind.i64.wrap (x0 + (IntKind.i64.wrap (((r53 ((x4.getD (Int.toNat x3) []).getD 0 0)).2) - ((r53 ((x4.getD (Int.toNat x3) []).getD 0 0)).1))))), x1, 0, 0))
  (u16l1 x0 x1 x2 x3 x4 x5 (ih (IntKind.i64.wrap (x0 + (IntKind.i64.wrap (((r53 ((x4.getD (Int.toNat x3) []).getD 0 0)).2) - ((r53 ((x4.getD (Int.toNat x3) []).getD 0 0)).1))))) x1 x2 (IntKind.i64.wrap (x3 + 1)) x4 x5)))
  (u16l1 x0 x1 x2 x3 x4 x5 (ih (IntKind.i64.wrap (x0 + (IntKind.i64.wrap (((r53 ((x4.getD (Int.toNat x3) []).getD 0 0)).2) - ((r53 ((x4.getD (Int.toNat x3) []).getD 0 0)).1))))) x1 x2 (IntKind.i64.wrap (x3 + 1)) x4 x5))))))))
  (cond ((((x4.getD (Int.toNat x3) []).getD 0 0) : Int) == 4)
  (cond (((IntKind.i64.wrap ((x4.getD (Int.toNat x3) []).getD 1 0)) : Int) != x1)
  (a16l1 x0 x1 x2 x3 x4 x5 (0, x0, x1, 0, 0))
  (cond (decide ((x1 : Int) ≥ ((x5.length : Nat) : Int)))
  (a16l1 x0 x1 x2 x3 x4 x5 (0, x0, x1, 0, 0))
  (cond ((((x4.getD (Int.toNat x3) []).getD 0 0) : Int) != 1)
  (cond (!(r52 (Int.toNat ((x4.getD (Int.toNat x3) []).getD 2 0))))
  (a16l1 x0 x1 x2 x3 x4 x5 (0, x0, (IntKind.i64.wrap (x1 + 1)), 0, 0))
  (cond (decide ((x0 : Int) < ((r53 ((x4.getD (Int.toNat x3) []).getD 0 0)).1)))
  (a16l1 x0 x1 x2 x3 x4 x5 (0, x0, (IntKind.i64.wrap (x1 + 1)), 0, 0))
  (cond (decide (((IntKind.i64.wrap (x0 + (IntKind.i64.wrap (((r53 ((x4.getD (Int.toNat x3) []).getD 0 0)).2) - ((r53 ((x4.getD (Int.toNat x3) []).getD 0 0)).1))))) : Int) > 20))
  (a16l1 x0 x1 x2 x3 x4 x5 (0, (IntKind.i64.wrap (x0 + (IntKind.i64.wrap (((r53 ((x4.getD (Int.toNat x3) []).getD 0 0)).2) - ((r53 ((x4.getD (Int.toNat x3) []).getD 0 0)).1))))), (IntKind.i64.wrap (x1 + 1)), 0, 0))
  (cond ((((x4.getD (Int.toNat x3) []).getD 0 0) : Int) == 4)
  (cond (((IntKind.i64.wrap (x0 + (IntKind.i64.wrap (((r53 ((x4.getD (Int.toNat x3) []).getD 0 0)).2) - ((r53 ((x4.getD (Int.toNat x3) []).getD 0 0)).1))))) : Int) != 0)
  (a16l1 x0 x1 x2 x3 x4 x5 (0, (IntKind.i64.wrap (x0 + (IntKind.i64.wrap (((r53 ((x4.getD (Int.toNat x3) []).getD 0 0)).2) - ((r53 ((x4.getD (Int.toNat x3) []).getD 0 0)).1))))), (IntKind.i64.wrap (x1 + 1)), 0, 0))
  (u16l1 x0 x1 x2 x3 x4 x5 (ih (IntKind.i64.wrap (x0 + (IntKind.i64.wrap (((r53 ((x4.getD (Int.toNat x3) []).getD 0 0)).2) - ((r53 ((x4.getD (Int.toNat x3) []).getD 0 0)).1))))) (IntKind.i64.wrap (x1 + 1)) x2 (IntKind.i64.wrap (x3 + 1)) x4 x5)))
  (cond (Nat.beq ((ih (IntKind.i64.wrap (x0 + (IntKind.i64.wrap (((r53 ((x4.getD (Int.toNat x3) []).getD 0 0)).2) - ((r53 ((x4.getD (Int.toNat x3) []).getD 0 0)).1))))) (IntKind.i64.wrap (x1 + 1)) x2 (IntKind.i64.wrap (x3 + 1)) x4 x5).1) 0)
  (some (.ret, frameOf 161 [1, 2, 5, 6] [.pointer (some ⟨0, 0, some 0⟩), .bool false, .int .i64 ((ih (IntKind.i64.wrap (x0 + (IntKind.i64.wrap (((r53 ((x4.getD (Int.toNat x3) []).getD 0 0)).2) - ((r53 ((x4.getD (Int.toNat x3) []).getD 0 0)).1))))) (IntKind.i64.wrap (x1 + 1)) x2 (IntKind.i64.wrap (x3 + 1)) x4 x5).2.1), .int .i64 ((ih (IntKind.i64.wrap (x0 + (IntKind.i64.wrap (((r53 ((x4.getD (Int.toNat x3) []).getD 0 0)).2) - ((r53 ((x4.getD (Int.toNat x3) []).getD 0 0)).1))))) (IntKind.i64.wrap (x1 + 1)) x2 (IntKind.i64.wrap (x3 + 1)) x4 x5).2.2.1)], ⟨[⟨true, (some (.cells [wsl 2, wsl 1]))⟩, ⟨true, (some (.tab [.int .i8, .int .i16, .fl .f32] x4))⟩, ⟨true, (some (.strs x5))⟩], 3, []⟩))
  (cond (Nat.beq ((ih (IntKind.i64.wrap (x0 + (IntKind.i64.wrap (((r53 ((x4.getD (Int.toNat x3) []).getD 0 0)).2) - ((r53 ((x4.getD (Int.toNat x3) []).getD 0 0)).1))))) (IntKind.i64.wrap (x1 + 1)) x2 (IntKind.i64.wrap (x3 + 1)) x4 x5).1) 1)
  (some (.exit 2, frameOf 161 [1, 2, 5, 6] [.pointer (some ⟨0, 0, some 0⟩), anyV, .int .i64 ((ih (IntKind.i64.wrap (x0 + (IntKind.i64.wrap (((r53 ((x4.getD (Int.toNat x3) []).getD 0 0)).2) - ((r53 ((x4.getD (Int.toNat x3) []).getD 0 0)).1))))) (IntKind.i64.wrap (x1 + 1)) x2 (IntKind.i64.wrap (x3 + 1)) x4 x5).2.2.2.1), .int .i64 ((ih (IntKind.i64.wrap (x0 + (IntKind.i64.wrap (((r53 ((x4.getD (Int.toNat x3) []).getD 0 0)).2) - ((r53 ((x4.getD (Int.toNat x3) []).getD 0 0)).1))))) (IntKind.i64.wrap (x1 + 1)) x2 (IntKind.i64.wrap (x3 + 1)) x4 x5).2.2.2.2)], ⟨[⟨true, (some (.cells [wsl 2, wsl 1]))⟩, ⟨true, (some (.tab [.int .i8, .int .i16, .fl .f32] x4))⟩, ⟨true, (some (.strs x5))⟩], 3, []⟩))
  none))))))
  (cond (decide ((x0 : Int) < ((r53 ((x4.getD (Int.toNat x3) []).getD 0 0)).1)))
  (a16l1 x0 x1 x2 x3 x4 x5 (0, x0, (IntKind.i64.wrap (x1 + 1)), 0, 0))
  (cond (decide (((IntKind.i64.wrap (x0 + (IntKind.i64.wrap (((r53 ((x4.getD (Int.toNat x3) []).getD 0 0)).2) - ((r53 ((x4.getD (Int.toNat x3) []).getD 0 0)).1))))) : Int) > 20))
  (a16l1 x0 x1 x2 x3 x4 x5 (0, (IntKind.i64.wrap (x0 + (IntKind.i64.wrap (((r53 ((x4.getD (Int.toNat x3) []).getD 0 0)).2) - ((r53 ((x4.getD (Int.toNat x3) []).getD 0 0)).1))))), (IntKind.i64.wrap (x1 + 1)), 0, 0))
  (cond ((((x4.getD (Int.toNat x3) []).getD 0 0) : Int) == 4)
  (cond (((IntKind.i64.wrap (x0 + (IntKind.i64.wrap (((r53 ((x4.getD (Int.toNat x3) []).getD 0 0)).2) - ((r53 ((x4.getD (Int.toNat x3) []).getD 0 0)).1))))) : Int) != 0)
  (a16l1 x0 x1 x2 x3 x4 x5 (0, (IntKind.i64.wrap (x0 + (IntKind.i64.wrap (((r53 ((x4.getD (Int.toNat x3) []).getD 0 0)).2) - ((r53 ((x4.getD (Int.toNat x3) []).getD 0 0)).1))))), (IntKind.i64.wrap (x1 + 1)), 0, 0))
  (u16l1 x0 x1 x2 x3 x4 x5 (ih (IntKind.i64.wrap (x0 + (IntKind.i64.wrap (((r53 ((x4.getD (Int.toNat x3) []).getD 0 0)).2) - ((r53 ((x4.getD (Int.toNat x3) []).getD 0 0)).1))))) (IntKind.i64.wrap (x1 + 1)) x2 (IntKind.i64.wrap (x3 + 1)) x4 x5)))
  (cond (Nat.beq ((ih (IntKind.i64.wrap (x0 + (IntKind.i64.wrap (((r53 ((x4.getD (Int.toNat x3) []).getD 0 0)).2) - ((r53 ((x4.getD (Int.toNat x3) []).getD 0 0)).1))))) (IntKind.i64.wrap (x1 + 1)) x2 (IntKind.i64.wrap (x3 + 1)) x4 x5).1) 0)
  (some (.ret, frameOf 161 [1, 2, 5, 6] [.pointer (some ⟨0, 0, some 0⟩), .bool false, .int .i64 ((ih (IntKind.i64.wrap (x0 + (IntKind.i64.wrap (((r53 ((x4.getD (Int.toNat x3) []).getD 0 0)).2) - ((r53 ((x4.getD (Int.toNat x3) []).getD 0 0)).1))))) (IntKind.i64.wrap (x1 + 1)) x2 (IntKind.i64.wrap (x3 + 1)) x4 x5).2.1), .int .i64 ((ih (IntKind.i64.wrap (x0 + (IntKind.i64.wrap (((r53 ((x4.getD (Int.toNat x3) []).getD 0 0)).2) - ((r53 ((x4.getD (Int.toNat x3) []).getD 0 0)).1))))) (IntKind.i64.wrap (x1 + 1)) x2 (IntKind.i64.wrap (x3 + 1)) x4 x5).2.2.1)], ⟨[⟨true, (some (.cells [wsl 2, wsl 1]))⟩, ⟨true, (some (.tab [.int .i8, .int .i16, .fl .f32] x4))⟩, ⟨true, (some (.strs x5))⟩], 3, []⟩))
  (cond (Nat.beq ((ih (IntKind.i64.wrap (x0 + (IntKind.i64.wrap (((r53 ((x4.getD (Int.toNat x3) []).getD 0 0)).2) - ((r53 ((x4.getD (Int.toNat x3) []).getD 0 0)).1))))) (IntKind.i64.wrap (x1 + 1)) x2 (IntKind.i64.wrap (x3 + 1)) x4 x5).1) 1)
  (some (.exit 2, frameOf 161 [1, 2, 5, 6] [.pointer (some ⟨0, 0, some 0⟩), anyV, .int .i64 ((ih (IntKind.i64.wrap (x0 + (IntKind.i64.wrap (((r53 ((x4.getD (Int.toNat x3) []).getD 0 0)).2) - ((r53 ((x4.getD (Int.toNat x3) []).getD 0 0)).1))))) (IntKind.i64.wrap (x1 + 1)) x2 (IntKind.i64.wrap (x3 + 1)) x4 x5).2.2.2.1), .int .i64 ((ih (IntKind.i64.wrap (x0 + (IntKind.i64.wrap (((r53 ((x4.getD (Int.toNat x3) []).getD 0 0)).2) - ((r53 ((x4.getD (Int.toNat x3) []).getD 0 0)).1))))) (IntKind.i64.wrap (x1 + 1)) x2 (IntKind.i64.wrap (x3 + 1)) x4 x5).2.2.2.2)], ⟨[⟨true, (some (.cells [wsl 2, wsl 1]))⟩, ⟨true, (some (.tab [.int .i8, .int .i16, .fl .f32] x4))⟩, ⟨true, (some (.strs x5))⟩], 3, []⟩))
  none))))))))
  (cond (((IntKind.i64.wrap ((x4.getD (Int.toNat x3) []).getD 1 0)) : Int) != 0)
  (a16l1 x0 x1 x2 x3 x4 x5 (0, x0, x1, 0, 0))
  (cond ((((x4.getD (Int.toNat x3) []).getD 0 0) : Int) != 1)
  (cond (!(r52 (Int.toNat ((x4.getD (Int.toNat x3) []).getD 2 0))))
  (a16l1 x0 x1 x2 x3 x4 x5 (0, x0, x1, 0, 0))
  (cond (decide ((x0 : Int) < ((r53 ((x4.getD (Int.toNat x3) []).getD 0 0)).1)))
  (a16l1 x0 x1 x2 x3 x4 x5 (0, x0, x1, 0, 0))
  (cond (decide (((IntKind.i64.wrap (x0 + (IntKind.i64.wrap (((r53 ((x4.getD (Int.toNat x3) []).getD 0 0)).2) - ((r53 ((x4.getD (Int.toNat x3) []).getD 0 0)).1))))) : Int) > 20))
  (a16l1 x0 x1 x2 x3 x4 x5 (0, (IntKind.i64.wrap (x0 + (IntKind.i64.wrap (((r53 ((x4.getD (Int.toNat x3) []).getD 0 0)).2) - ((r53 ((x4.getD (Int.toNat x3) []).getD 0 0)).1))))), x1, 0, 0))
  (cond ((((x4.getD (Int.toNat x3) []).getD 0 0) : Int) == 4)
  (cond (((IntKind.i64.wrap (x0 + (IntKind.i64.wrap (((r53 ((x4.getD (Int.toNat x3) []).getD 0 0)).2) - ((r53 ((x4.getD (Int.toNat x3) []).getD 0 0)).1))))) : Int) != 0)
  (some (.ret, frameOf 161 [1, 2, 5, 6] [.pointer (some ⟨0, 0, some 0⟩), .bool false, .int .i64 (IntKind.i64.wrap (x0 + (IntKind.i64.wrap (((r53 ((x4.getD (Int.toNat x3) []).getD 0 0)).2) - ((r53 ((x4.getD (Int.toNat x3) []).getD 0 0)).1))))), .int .i64 x1], ⟨[⟨true, (some (.cells [wsl 2, wsl 1]))⟩, ⟨true, (some (.tab [.int .i8, .int .i16, .fl .f32] x4))⟩, ⟨true, (some (.strs x5))⟩], 3, []⟩))
  (cond (Nat.beq ((ih (IntKind.i64.wrap (x0 + (IntKind.i64.wrap (((r53 ((x4.getD (Int.toNat x3) []).getD 0 0)).2) - ((r53 ((x4.getD (Int.toNat x3) []).getD 0 0)).1))))) x1 x2 (IntKind.i64.wrap (x3 + 1)) x4 x5).1) 0)
  (some (.ret, frameOf 161 [1, 2, 5, 6] [.pointer (some ⟨0, 0, some 0⟩), .bool false, .int .i64 ((ih (IntKind.i64.wrap (x0 + (IntKind.i64.wrap (((r53 ((x4.getD (Int.toNat x3) []).getD 0 0)).2) - ((r53 ((x4.getD (Int.toNat x3) []).getD 0 0)).1))))) x1 x2 (IntKind.i64.wrap (x3 + 1)) x4 x5).2.1), .int .i64 ((ih (IntKind.i64.wrap (x0 + (IntKind.i64.wrap (((r53 ((x4.getD (Int.toNat x3) []).getD 0 0)).2) - ((r53 ((x4.getD (Int.toNat x3) []).getD 0 0)).1))))) x1 x2 (IntKind.i64.wrap (x3 + 1)) x4 x5).2.2.1)], ⟨[⟨true, (some (.cells [wsl 2, wsl 1]))⟩, ⟨true, (some (.tab [.int .i8, .int .i16, .fl .f32] x4))⟩, ⟨true, (some (.strs x5))⟩], 3, []⟩))
  (cond (Nat.beq ((ih (IntKind.i64.wrap (x0 + (IntKind.i64.wrap (((r53 ((x4.getD (Int.toNat x3) []).getD 0 0)).2) - ((r53 ((x4.getD (Int.toNat x3) []).getD 0 0)).1))))) x1 x2 (IntKind.i64.wrap (x3 + 1)) x4 x5).1) 1)
  (some (.exit 2, frameOf 161 [1, 2, 5, 6] [.pointer (some ⟨0, 0, some 0⟩), anyV, .int .i64 ((ih (IntKind.i64.wrap (x0 + (IntKind.i64.wrap (((r53 ((x4.getD (Int.toNat x3) []).getD 0 0)).2) - ((r53 ((x4.getD (Int.toNat x3) []).getD 0 0)).1))))) x1 x2 (IntKind.i64.wrap (x3 + 1)) x4 x5).2.2.2.1), .int .i64 ((ih (IntKind.i64.wrap (x0 + (IntKind.i64.wrap (((r53 ((x4.getD (Int.toNat x3) []).getD 0 0)).2) - ((r53 ((x4.getD (Int.toNat x3) []).getD 0 0)).1))))) x1 x2 (IntKind.i64.wrap (x3 + 1)) x4 x5).2.2.2.2)], ⟨[⟨true, (some (.cells [wsl 2, wsl 1]))⟩, ⟨true, (some (.tab [.int .i8, .int .i16, .fl .f32] x4))⟩, ⟨true, (some (.strs x5))⟩], 3, []⟩))
  none)))
  (u16l1 x0 x1 x2 x3 x4 x5 (ih (IntKind.i64.wrap (x0 + (IntKind.i64.wrap (((r53 ((x4.getD (Int.toNat x3) []).getD 0 0)).2) - ((r53 ((x4.getD (Int.toNat x3) []).getD 0 0)).1))))) x1 x2 (IntKind.i64.wrap (x3 + 1)) x4 x5))))))
  (cond (decide ((x0 : Int) < ((r53 ((x4.getD (Int.toNat x3) []).getD 0 0)).1)))
  (a16l1 x0 x1 x2 x3 x4 x5 (0, x0, x1, 0, 0))
  (cond (decide (((IntKind.i64.wrap (x0 + (IntKind.i64.wrap (((r53 ((x4.getD (Int.toNat x3) []).getD 0 0)).2) - ((r53 ((x4.getD (Int.toNat x3) []).getD 0 0)).1))))) : Int) > 20))
  (a16l1 x0 x1 x2 x3 x4 x5 (0, (IntKind.i64.wrap (x0 + (IntKind.i64.wrap (((r53 ((x4.getD (Int.toNat x3) []).getD 0 0)).2) - ((r53 ((x4.getD (Int.toNat x3) []).getD 0 0)).1))))), x1, 0, 0))
  (cond ((((x4.getD (Int.toNat x3) []).getD 0 0) : Int) == 4)
  (cond (((IntKind.i64.wrap (x0 + (IntKind.i64.wrap (((r53 ((x4.getD (Int.toNat x3) []).getD 0 0)).2) - ((r53 ((x4.getD (Int.toNat x3) []).getD 0 0)).1))))) : Int) != 0)
  (some (.ret, frameOf 161 [1, 2, 5, 6] [.pointer (some ⟨0, 0, some 0⟩), .bool false, .int .i64 (IntKind.i64.wrap (x0 + (IntKind.i64.wrap (((r53 ((x4.getD (Int.toNat x3) []).getD 0 0)).2) - ((r53 ((x4.getD (Int.toNat x3) []).getD 0 0)).1))))), .int .i64 x1], ⟨[⟨true, (some (.cells [wsl 2, wsl 1]))⟩, ⟨true, (some (.tab [.int .i8, .int .i16, .fl .f32] x4))⟩, ⟨true, (some (.strs x5))⟩], 3, []⟩))
  (cond (Nat.beq ((ih (IntKind.i64.wrap (x0 + (IntKind.i64.wrap (((r53 ((x4.getD (Int.toNat x3) []).getD 0 0)).2) - ((r53 ((x4.getD (Int.toNat x3) []).getD 0 0)).1))))) x1 x2 (IntKind.i64.wrap (x3 + 1)) x4 x5).1) 0)
  (some (.ret, frameOf 161 [1, 2, 5, 6] [.pointer (some ⟨0, 0, some 0⟩), .bool false, .int .i64 ((ih (IntKind.i64.wrap (x0 + (IntKind.i64.wrap (((r53 ((x4.getD (Int.toNat x3) []).getD 0 0)).2) - ((r53 ((x4.getD (Int.toNat x3) []).getD 0 0)).1))))) x1 x2 (IntKind.i64.wrap (x3 + 1)) x4 x5).2.1), .int .i64 ((ih (IntKind.i64.wrap (x0 + (IntKind.i64.wrap (((r53 ((x4.getD (Int.toNat x3) []).getD 0 0)).2) - ((r53 ((x4.getD (Int.toNat x3) []).getD 0 0)).1))))) x1 x2 (IntKind.i64.wrap (x3 + 1)) x4 x5).2.2.1)], ⟨[⟨true, (some (.cells [wsl 2, wsl 1]))⟩, ⟨true, (some (.tab [.int .i8, .int .i16, .fl .f32] x4))⟩, ⟨true, (some (.strs x5))⟩], 3, []⟩))
  (cond (Nat.beq ((ih (IntKind.i64.wrap (x0 + (IntKind.i64.wrap (((r53 ((x4.getD (Int.toNat x3) []).getD 0 0)).2) - ((r53 ((x4.getD (Int.toNat x3) []).getD 0 0)).1))))) x1 x2 (IntKind.i64.wrap (x3 + 1)) x4 x5).1) 1)
  (some (.exit 2, frameOf 161 [1, 2, 5, 6] [.pointer (some ⟨0, 0, some 0⟩), anyV, .int .i64 ((ih (IntKind.i64.wrap (x0 + (IntKind.i64.wrap (((r53 ((x4.getD (Int.toNat x3) []).getD 0 0)).2) - ((r53 ((x4.getD (Int.toNat x3) []).getD 0 0)).1))))) x1 x2 (IntKind.i64.wrap (x3 + 1)) x4 x5).2.2.2.1), .int .i64 ((ih (IntKind.i64.wrap (x0 + (IntKind.i64.wrap (((r53 ((x4.getD (Int.toNat x3) []).getD 0 0)).2) - ((r53 ((x4.getD (Int.toNat x3) []).getD 0 0)).1))))) x1 x2 (IntKind.i64.wrap (x3 + 1)) x4 x5).2.2.2.2)], ⟨[⟨true, (some (.cells [wsl 2, wsl 1]))⟩, ⟨true, (some (.tab [.int .i8, .int .i16, .fl .f32] x4))⟩, ⟨true, (some (.strs x5))⟩], 3, []⟩))
  none)))
  (u16l1 x0 x1 x2 x3 x4 x5 (ih (IntKind.i64.wrap (x0 + (IntKind.i64.wrap (((r53 ((x4.getD (Int.toNat x3) []).getD 0 0)).2) - ((r53 ((x4.getD (Int.toNat x3) []).getD 0 0)).1))))) x1 x2 (IntKind.i64.wrap (x3 + 1)) x4 x5)))))))))))))
  none)
  none)
 (a16l1 x0 x1 x2 x3 x4 x5 (1, 0, 0, x0, x1)))
set_option maxRecDepth 100000 in
set_option maxHeartbeats 4000000 in
theorem e16l1 (m : Nat) (x0 x1 x2 x3 : Int) (x4 : List (List Int)) (x5 : List ByteArray) : evC Try.prog ext T49 L16_1 200 (loopN Try.f16 1) (loopTail ([1, 5, 6, 43, 44, 45], []) [1, 2, 5, 6] [] (sumK 161 [1, 5, 6, 43, 44, 45] [1, 2, 5, 6] (q16l1 m))) (frameOf 161 [1, 5, 6, 43, 44, 45] [.pointer (some ⟨0, 0, some 0⟩), .int .i64 x0, .int .i64 x1, wsl 1, .int .i64 x2, .int .i64 x3]) ⟨[⟨true, (some (.cells [wsl 2, wsl 1]))⟩, ⟨true, (some (.tab [.int .i8, .int .i16, .fl .f32] x4))⟩, ⟨true, (some (.strs x5))⟩], 3, []⟩ = firstT ([((Nat.beq ((r16l1 (m + 1) x0 x1 x2 x3 x4 x5).1) 0), .ret, [.pointer (some ⟨0, 0, some 0⟩), .bool false, .int .i64 ((r16l1 (m + 1) x0 x1 x2 x3 x4 x5).2.1), .int .i64 ((r16l1 (m + 1) x0 x1 x2 x3 x4 x5).2.2.1)], ⟨[⟨true, (some (.cells [wsl 2, wsl 1]))⟩, ⟨true, (some (.tab [.int .i8, .int .i16, .fl .f32] x4))⟩, ⟨true, (some (.strs x5))⟩], 3, []⟩), ((Nat.beq ((r16l1 (m + 1) x0 x1 x2 x3 x4 x5).1) 1), .exit 2, [.pointer (some ⟨0, 0, some 0⟩), anyV, .int .i64 ((r16l1 (m + 1) x0 x1 x2 x3 x4 x5).2.2.2.1), .int .i64 ((r16l1 (m + 1) x0 x1 x2 x3 x4 x5).2.2.2.2)], ⟨[⟨true, (some (.cells [wsl 2, wsl 1]))⟩, ⟨true, (some (.tab [.int .i8, .int .i16, .fl .f32] x4))⟩, ⟨true, (some (.strs x5))⟩], 3, []⟩)].map fun (b, x) => (b, (x.1, frameOf 161 [1, 2, 5, 6] x.2.1, x.2.2))) :=
 (show evC Try.prog ext T49 L16_1 200 (loopN Try.f16 1) (loopTail ([1, 5, 6, 43, 44, 45], []) [1, 2, 5, 6] [] (sumK 161 [1, 5, 6, 43, 44, 45] [1, 2, 5, 6] (q16l1 m))) (frameOf 161 [1, 5, 6, 43, 44, 45] [.pointer (some ⟨0, 0, some 0⟩), .int .i64 x0, .int .i64 x1, wsl 1, .int .i64 x2, .int .i64 x3]) ⟨[⟨true, (some (.cells [wsl 2, wsl 1]))⟩, ⟨true, (some (.tab [.int .i8, .int .i16, .fl .f32] x4))⟩, ⟨true, (some (.strs x5))⟩], 3, []⟩ = w16l1 (r16l1 m) x0 x1 x2 x3 x4 x5 from by kernel_rfl).trans
 (show w16l1 (r16l1 m) x0 x1 x2 x3 x4 x5 = a16l1 x0 x1 x2 x3 x4 x5 (r16l1 (m + 1) x0 x1 x2 x3 x4 x5) from by unfold w16l1; show _ = a16l1 x0 x1 x2 x3 x4 x5 (b16l1 (r16l1 m) x0 x1 x2 x3 x4 x5); unfold b16l1; exact (cond_both (a16l1 x0 x1 x2 x3 x4 x5) _ (fun h0 => (cond_both (a16l1 x0 x1 x2 x3 x4 x5) _ (fun h1 => (cond_t (ev_and2 h1) (cond_both (a16l1 x0 x1 x2 x3 x4 x5) _ (fun h2 => rfl) (fun h2 => (cond_both (a16l1 x0 x1 x2 x3 x4 x5) _ (fun h3 => rfl) (fun h3 => (cond_both (a16l1 x0 x1 x2 x3 x4 x5) _ (fun h4 => (cond_both (a16l1 x0 x1 x2 x3 x4 x5) _ (fun h5 => rfl) (fun h5 => (cond_both (a16l1 x0 x1 x2 x3 x4 x5) _ (fun h6 => rfl) (fun h6 => (cond_both (a16l1 x0 x1 x2 x3 x4 x5) _ (fun h7 => (cond_both (a16l1 x0 x1 x2 x3 x4 x5) _ (fun h8 => rfl) (fun h8 => (cond_both (a16l1 x0 x1 x2 x3 x4 x5) _ (fun h9 => (cond_f (ev_not0 (ev_notf h8)) (cond_app (a16l1 x0 x1 x2 x3 x4 x5) _ rfl (cond_app (a16l1 x0 x1 x2 x3 x4 x5) _ rfl (cond_app (a16l1 x0 x1 x2 x3 x4 x5) _ (cond_app (a16l1 x0 x1 x2 x3 x4 x5) _ rfl (v16l1 x0 x1 x2 x3 x4 x5 ((r16l1 m) (IntKind.i64.wrap (x0 + (IntKind.i64.wrap (((r53 ((x4.getD (Int.toNat x3) []).getD 0 0)).2) - ((r53 ((x4.getD (Int.toNat x3) []).getD 0 0)).1))))) x1 x2 (IntKind.i64.wrap (x3 + 1)) x4 x5))) (v16l1 x0 x1 x2 x3 x4 x5 ((r16l1 m) (IntKind.i64.wrap (x0 + (IntKind.i64.wrap (((r53 ((x4.getD (Int.toNat x3) []).getD 0 0)).2) - ((r53 ((x4.getD (Int.toNat x3) []).getD 0 0)).1))))) x1 x2 (IntKind.i64.wrap (x3 + 1)) x4 x5))))))) (fun h9 => (cond_app (a16l1 x0 x1 x2 x3 x4 x5) _ rfl (cond_app (a16l1 x0 x1 x2 x3 x4 x5) _ rfl (cond_app (a16l1 x0 x1 x2 x3 x4 x5) _ (cond_app (a16l1 x0 x1 x2 x3 x4 x5) _ rfl (v16l1 x0 x1 x2 x3 x4 x5 ((r16l1 m) (IntKind.i64.wrap (x0 + (IntKind.i64.wrap (((r53 ((x4.getD (Int.toNat x3) []).getD 0 0)).2) - ((r53 ((x4.getD (Int.toNat x3) []).getD 0 0)).1))))) x1 x2 (IntKind.i64.wrap (x3 + 1)) x4 x5))) (v16l1 x0 x1 x2 x3 x4 x5 ((r16l1 m) (IntKind.i64.wrap (x0 + (IntKind.i64.wrap (((r53 ((x4.getD (Int.toNat x3) []).getD 0 0)).2) - ((r53 ((x4.getD (Int.toNat x3) []).getD 0 0)).1))))) x1 x2 (IntKind.i64.wrap (x3 + 1)) x4 x5)))))))))) (fun h7 => (cond_app (a16l1 x0 x1 x2 x3 x4 x5) _ (cond_app (a16l1 x0 x1 x2 x3 x4 x5) _ rfl (cond_app (a16l1 x0 x1 x2 x3 x4 x5) _ rfl (cond_app (a16l1 x0 x1 x2 x3 x4 x5) _ rfl (cond_app (a16l1 x0 x1 x2 x3 x4 x5) _ (cond_app (a16l1 x0 x1 x2 x3 x4 x5) _ rfl (v16l1 x0 x1 x2 x3 x4 x5 ((r16l1 m) (IntKind.i64.wrap (x0 + (IntKind.i64.wrap (((r53 ((x4.getD (Int.toNat x3) []).getD 0 0)).2) - ((r53 ((x4.getD (Int.toNat x3) []).getD 0 0)).1))))) x1 x2 (IntKind.i64.wrap (x3 + 1)) x4 x5))) (v16l1 x0 x1 x2 x3 x4 x5 ((r16l1 m) (IntKind.i64.wrap (x0 + (IntKind.i64.wrap (((r53 ((x4.getD (Int.toNat x3) []).getD 0 0)).2) - ((r53 ((x4.getD (Int.toNat x3) []).getD 0 0)).1))))) x1 x2 (IntKind.i64.wrap (x3 + 1)) x4 x5)))))) (cond_app (a16l1 x0 x1 x2 x3 x4 x5) _ rfl (cond_app (a16l1 x0 x1 x2 x3 x4 x5) _ rfl (cond_app (a16l1 x0 x1 x2 x3 x4 x5) _ (cond_app (a16l1 x0 x1 x2 x3 x4 x5) _ rfl (v16l1 x0 x1 x2 x3 x4 x5 ((r16l1 m) (IntKind.i64.wrap (x0 + (IntKind.i64.wrap (((r53 ((x4.getD (Int.toNat x3) []).getD 0 0)).2) - ((r53 ((x4.getD (Int.toNat x3) []).getD 0 0)).1))))) x1 x2 (IntKind.i64.wrap (x3 + 1)) x4 x5))) (v16l1 x0 x1 x2 x3 x4 x5 ((r16l1 m) (IntKind.i64.wrap (x0 + (IntKind.i64.wrap (((r53 ((x4.getD (Int.toNat x3) []).getD 0 0)).2) - ((r53 ((x4.getD (Int.toNat x3) []).getD 0 0)).1))))) x1 x2 (IntKind.i64.wrap (x3 + 1)) x4 x5))))))))))))) (fun h4 => (cond_both (a16l1 x0 x1 x2 x3 x4 x5) _ (fun h5 => (cond_app (a16l1 x0 x1 x2 x3 x4 x5) _ rfl (cond_app (a16l1 x0 x1 x2 x3 x4 x5) _ rfl (cond_app (a16l1 x0 x1 x2 x3 x4 x5) _ (cond_app (a16l1 x0 x1 x2 x3 x4 x5) _ rfl (cond_app (a16l1 x0 x1 x2 x3 x4 x5) _ rfl (cond_app (a16l1 x0 x1 x2 x3 x4 x5) _ rfl (cond_app (a16l1 x0 x1 x2 x3 x4 x5) _ (cond_app (a16l1 x0 x1 x2 x3 x4 x5) _ rfl (v16l1 x0 x1 x2 x3 x4 x5 ((r16l1 m) (IntKind.i64.wrap (x0 + (IntKind.i64.wrap (((r53 ((x4.getD (Int.toNat x3) []).getD 0 0)).2) - ((r53 ((x4.getD (Int.toNat x3) []).getD 0 0)).1))))) x1 x2 (IntKind.i64.wrap (x3 + 1)) x4 x5))) (v16l1 x0 x1 x2 x3 x4 x5 ((r16l1 m) (IntKind.i64.wrap (x0 + (IntKind.i64.wrap (((r53 ((x4.getD (Int.toNat x3) []).getD 0 0)).2) - ((r53 ((x4.getD (Int.toNat x3) []).getD 0 0)).1))))) x1 x2 (IntKind.i64.wrap (x3 + 1)) x4 x5)))))) (cond_app (a16l1 x0 x1 x2 x3 x4 x5) _ rfl (cond_app (a16l1 x0 x1 x2 x3 x4 x5) _ rfl (cond_app (a16l1 x0 x1 x2 x3 x4 x5) _ (cond_app (a16l1 x0 x1 x2 x3 x4 x5) _ rfl (v16l1 x0 x1 x2 x3 x4 x5 ((r16l1 m) (IntKind.i64.wrap (x0 + (IntKind.i64.wrap (((r53 ((x4.getD (Int.toNat x3) []).getD 0 0)).2) - ((r53 ((x4.getD (Int.toNat x3) []).getD 0 0)).1))))) x1 x2 (IntKind.i64.wrap (x3 + 1)) x4 x5))) (v16l1 x0 x1 x2 x3 x4 x5 ((r16l1 m) (IntKind.i64.wrap (x0 + (IntKind.i64.wrap (((r53 ((x4.getD (Int.toNat x3) []).getD 0 0)).2) - ((r53 ((x4.getD (Int.toNat x3) []).getD 0 0)).1))))) x1 x2 (IntKind.i64.wrap (x3 + 1)) x4 x5))))))))) (fun h5 => (cond_both (a16l1 x0 x1 x2 x3 x4 x5) _ (fun h6 => (cond_app (a16l1 x0 x1 x2 x3 x4 x5) _ rfl (cond_app (a16l1 x0 x1 x2 x3 x4 x5) _ rfl (cond_app (a16l1 x0 x1 x2 x3 x4 x5) _ (cond_app (a16l1 x0 x1 x2 x3 x4 x5) _ rfl (cond_app (a16l1 x0 x1 x2 x3 x4 x5) _ rfl (cond_app (a16l1 x0 x1 x2 x3 x4 x5) _ rfl (cond_app (a16l1 x0 x1 x2 x3 x4 x5) _ (cond_app (a16l1 x0 x1 x2 x3 x4 x5) _ rfl (v16l1 x0 x1 x2 x3 x4 x5 ((r16l1 m) (IntKind.i64.wrap (x0 + (IntKind.i64.wrap (((r53 ((x4.getD (Int.toNat x3) []).getD 0 0)).2) - ((r53 ((x4.getD (Int.toNat x3) []).getD 0 0)).1))))) x1 x2 (IntKind.i64.wrap (x3 + 1)) x4 x5))) (v16l1 x0 x1 x2 x3 x4 x5 ((r16l1 m) (IntKind.i64.wrap (x0 + (IntKind.i64.wrap (((r53 ((x4.getD (Int.toNat x3) []).getD 0 0)).2) - ((r53 ((x4.getD (Int.toNat x3) []).getD 0 0)).1))))) x1 x2 (IntKind.i64.wrap (x3 + 1)) x4 x5)))))) (cond_app (a16l1 x0 x1 x2 x3 x4 x5) _ rfl (cond_app (a16l1 x0 x1 x2 x3 x4 x5) _ rfl (cond_app (a16l1 x0 x1 x2 x3 x4 x5) _ (cond_app (a16l1 x0 x1 x2 x3 x4 x5) _ rfl (v16l1 x0 x1 x2 x3 x4 x5 ((r16l1 m) (IntKind.i64.wrap (x0 + (IntKind.i64.wrap (((r53 ((x4.getD (Int.toNat x3) []).getD 0 0)).2) - ((r53 ((x4.getD (Int.toNat x3) []).getD 0 0)).1))))) x1 x2 (IntKind.i64.wrap (x3 + 1)) x4 x5))) (v16l1 x0 x1 x2 x3 x4 x5 ((r16l1 m) (IntKind.i64.wrap (x0 + (IntKind.i64.wrap (((r53 ((x4.getD (Int.toNat x3) []).getD 0 0)).2) - ((r53 ((x4.getD (Int.toNat x3) []).getD 0 0)).1))))) x1 x2 (IntKind.i64.wrap (x3 + 1)) x4 x5))))))))) (fun h6 => (cond_both (a16l1 x0 x1 x2 x3 x4 x5) _ (fun h7 => (cond_both (a16l1 x0 x1 x2 x3 x4 x5) _ (fun h8 => rfl) (fun h8 => (cond_both (a16l1 x0 x1 x2 x3 x4 x5) _ (fun h9 => rfl) (fun h9 => (cond_both (a16l1 x0 x1 x2 x3 x4 x5) _ (fun h10 => (cond_both (a16l1 x0 x1 x2 x3 x4 x5) _ (fun h11 => rfl) (fun h11 => (cond_both (a16l1 x0 x1 x2 x3 x4 x5) _ (fun h12 => rfl) (fun h12 => (cond_both (a16l1 x0 x1 x2 x3 x4 x5) _ (fun h13 => rfl) (fun h13 => (cond_t h7 (cond_app (a16l1 x0 x1 x2 x3 x4 x5) _ rfl (v16l1 x0 x1 x2 x3 x4 x5 ((r16l1 m) (IntKind.i64.wrap (x0 + (IntKind.i64.wrap (((r53 ((x4.getD (Int.toNat x3) []).getD 0 0)).2) - ((r53 ((x4.getD (Int.toNat x3) []).getD 0 0)).1))))) (IntKind.i64.wrap (x1 + 1)) x2 (IntKind.i64.wrap (x3 + 1)) x4 x5))))))))))) (fun h10 => (cond_both (a16l1 x0 x1 x2 x3 x4 x5) _ (fun h11 => rfl) (fun h11 => (cond_both (a16l1 x0 x1 x2 x3 x4 x5) _ (fun h12 => rfl) (fun h12 => (cond_t h7 (cond_app (a16l1 x0 x1 x2 x3 x4 x5) _ rfl (v16l1 x0 x1 x2 x3 x4 x5 ((r16l1 m) (IntKind.i64.wrap (x0 + (IntKind.i64.wrap (((r53 ((x4.getD (Int.toNat x3) []).getD 0 0)).2) - ((r53 ((x4.getD (Int.toNat x3) []).getD 0 0)).1))))) (IntKind.i64.wrap (x1 + 1)) x2 (IntKind.i64.wrap (x3 + 1)) x4 x5))))))))))))))) (fun h7 => (cond_both (a16l1 x0 x1 x2 x3 x4 x5) _ (fun h8 => rfl) (fun h8 => (cond_both (a16l1 x0 x1 x2 x3 x4 x5) _ (fun h9 => (cond_both (a16l1 x0 x1 x2 x3 x4 x5) _ (fun h10 => rfl) (fun h10 => (cond_both (a16l1 x0 x1 x2 x3 x4 x5) _ (fun h11 => rfl) (fun h11 => (cond_both (a16l1 x0 x1 x2 x3 x4 x5) _ (fun h12 => rfl) (fun h12 => (cond_f h7 (v16l1 x0 x1 x2 x3 x4 x5 ((r16l1 m) (IntKind.i64.wrap (x0 + (IntKind.i64.wrap (((r53 ((x4.getD (Int.toNat x3) []).getD 0 0)).2) - ((r53 ((x4.getD (Int.toNat x3) []).getD 0 0)).1))))) x1 x2 (IntKind.i64.wrap (x3 + 1)) x4 x5)))))))))) (fun h9 => (cond_both (a16l1 x0 x1 x2 x3 x4 x5) _ (fun h10 => rfl) (fun h10 => (cond_both (a16l1 x0 x1 x2 x3 x4 x5) _ (fun h11 => rfl) (fun h11 => (cond_f h7 (v16l1 x0 x1 x2 x3 x4 x5 ((r16l1 m) (IntKind.i64.wrap (x0 + (IntKind.i64.wrap (((r53 ((x4.getD (Int.toNat x3) []).getD 0 0)).2) - ((r53 ((x4.getD (Int.toNat x3) []).getD 0 0)).1))))) x1 x2 (IntKind.i64.wrap (x3 + 1)) x4 x5))))))))))))))))))))))))) (fun h1 => rfl))) (fun h0 => rfl)))
set_option maxRecDepth 100000 in
set_option maxHeartbeats 4000000 in
theorem qm16l1 : ∀ m, SumKOk Try.prog (loopN Try.f16 1) 161 [1, 5, 6, 43, 44, 45] [1, 2, 5, 6] (q16l1 m) := by
  intro m
  induction m with
  | zero =>
    intro vals s x h1 h2 h3
    unfold q16l1 at h3; split at h3
    · rename_i h; split at h3
      · rename_i hc; obtain ⟨rfl, rfl, rfl, rfl, rfl, rfl⟩ := hc; exact absurd h3 (by simp [r16l1, firstT, Nat.beq])
      · exact noQ_ok _ _ _ h1 h2 h3
    · exact noQ_ok _ _ _ h1 h2 h3
  | succ m ih =>
    intro vals s x h1 h2 h3
    unfold q16l1 at h3; split at h3
    · rename_i h; split at h3
      · rename_i hc; obtain ⟨rfl, rfl, rfl, rfl, rfl, rfl⟩ := hc; exact sum_step ok49 extOk mixed (lok16_1.inner (by kernel_rfl)) ih h1 h2 h (e16l1 m _ _ _ _ _ _) rfl h3
      · exact noQ_ok _ _ _ h1 h2 h3
    · exact noQ_ok _ _ _ h1 h2 h3
noncomputable def Q16l1 : SumK := fun vals s => q16l1 (fuelOf vals s.h) vals s
theorem qok16l1 : SumKOk Try.prog (loopN Try.f16 1) 161 [1, 5, 6, 43, 44, 45] [1, 2, 5, 6] Q16l1 := fuel_ok qm16l1 fuelOf
noncomputable def L16_2 : LoopT := addL L16_1 12 ([1, 5, 6, 43, 44, 45], []) (sumK 161 [1, 5, 6, 43, 44, 45] [1, 2, 5, 6] Q16l1)
theorem lok16_2 : LfOkF Try.prog L16_2 Try.f16 := lfOkF_add lok16_1 qok16l1 (by kernel_rfl) (by kernel_rfl) (by kernel_rfl)

/-- impl.ValidProgram -/
noncomputable def r16 (x0 : List ByteArray) (x1 : List (List Int)) : Nat × Bool :=
 cond (decide ((((x0.length : Nat) : Int) : Int) > 12))
  (0, false)
  (cond (decide ((((x1.length : Nat) : Int) : Int) > 300))
  (0, false)
  (cond (Nat.beq (r16l0 (1000 + x1.length + x0.length) ((x0.length : Nat) : Int) 0 x0 x1) 0)
  (0, false)
  (cond (Nat.beq (r16l0 (1000 + x1.length + x0.length) ((x0.length : Nat) : Int) 0 x0 x1) 1)
  (cond (Nat.beq ((r16l1 (1000 + x0.length + x1.length) 0 0 ((x1.length : Nat) : Int) 0 x1 x0).1) 0)
  (0, false)
  (cond (Nat.beq ((r16l1 (1000 + x0.length + x1.length) 0 0 ((x1.length : Nat) : Int) 0 x1 x0).1) 1)
  (cond ((((r16l1 (1000 + x0.length + x1.length) 0 0 ((x1.length : Nat) : Int) 0 x1 x0).2.2.2.1) : Int) == 0)
  (0, ((((r16l1 (1000 + x0.length + x1.length) 0 0 ((x1.length : Nat) : Int) 0 x1 x0).2.2.2.2) : Int) == ((x0.length : Nat) : Int)))
  (0, false))
  (1, false)))
  (1, false))))
noncomputable def a16 (x0 : List ByteArray) (x1 : List (List Int)) (p : Nat × Bool) : Res := firstT [((Nat.beq (p.1) 0), .bool (p.2), ⟨[⟨true, (some (.strs x0))⟩, ⟨true, (some (.tab [.int .i8, .int .i16, .fl .f32] x1))⟩], 2, []⟩)]
noncomputable def w16 (x0 : List ByteArray) (x1 : List (List Int)) : Res :=
 (cond (decide ((((x0.length : Nat) : Int) : Int) > 12))
 (a16 x0 x1 (0, false))
 (cond (decide ((((x1.length : Nat) : Int) : Int) > 300))
  (a16 x0 x1 (0, false))
  (cond (Nat.beq (r16l0 (1000 + x1.length + x0.length) ((x0.length : Nat) : Int) 0 x0 x1) 0)
  (a16 x0 x1 (0, false))
  (cond (Nat.beq (r16l0 (1000 + x1.length + x0.length) ((x0.length : Nat) : Int) 0 x0 x1) 1)
  (cond (Nat.beq ((r16l1 (1000 + x0.length + x1.length) 0 0 ((x1.length : Nat) : Int) 0 x1 x0).1) 0)
  (a16 x0 x1 (0, false))
  (cond (Nat.beq ((r16l1 (1000 + x0.length + x1.length) 0 0 ((x1.length : Nat) : Int) 0 x1 x0).1) 1)
  (cond ((((r16l1 (1000 + x0.length + x1.length) 0 0 ((x1.length : Nat) : Int) 0 x1 x0).2.2.2.1) : Int) == 0)
  (a16 x0 x1 (0, ((((r16l1 (1000 + x0.length + x1.length) 0 0 ((x1.length : Nat) : Int) 0 x1 x0).2.2.2.2) : Int) == ((x0.length : Nat) : Int))))
  (a16 x0 x1 (0, false)))
  none))
  none))))
set_option maxRecDepth 100000 in
set_option maxHeartbeats 4000000 in
theorem e16 (x0 : List ByteArray) (x1 : List (List Int)) : evFn Try.prog ext T49 L16_2 200 Try.f16 [.agg #[wsl 0, wsl 1]] ⟨[⟨true, (some (.strs x0))⟩, ⟨true, (some (.tab [.int .i8, .int .i16, .fl .f32] x1))⟩], 2, []⟩ = firstT [((Nat.beq ((r16 x0 x1).1) 0), .bool ((r16 x0 x1).2), ⟨[⟨true, (some (.strs x0))⟩, ⟨true, (some (.tab [.int .i8, .int .i16, .fl .f32] x1))⟩], 2, []⟩)] :=
 (show evFn Try.prog ext T49 L16_2 200 Try.f16 [.agg #[wsl 0, wsl 1]] ⟨[⟨true, (some (.strs x0))⟩, ⟨true, (some (.tab [.int .i8, .int .i16, .fl .f32] x1))⟩], 2, []⟩ = w16 x0 x1 from by kernel_rfl).trans
 (show w16 x0 x1 = a16 x0 x1 (r16 x0 x1) from by unfold w16 r16; exact (cond_app (a16 x0 x1) _ rfl (cond_app (a16 x0 x1) _ rfl (cond_app (a16 x0 x1) _ rfl (cond_app (a16 x0 x1) _ (cond_app (a16 x0 x1) _ rfl (cond_app (a16 x0 x1) _ (cond_app (a16 x0 x1) _ rfl rfl) rfl)) rfl)))))
noncomputable def s16 (args : List Value) (s : St) : List (Bool × Value × St) :=
 match args, s.h with
 | [.agg ⟨[.iface f0 .nilIface, .iface f1 .nilIface]⟩], [⟨true, some (.strs x0)⟩, ⟨true, some (.tab [.int .i8, .int .i16, .fl .f32] x1)⟩] => if f0 = 0 ∧ f1 = 1 then [((Nat.beq ((r16 x0 x1).1) 0), .bool ((r16 x0 x1).2), ⟨[⟨true, (some (.strs x0))⟩, ⟨true, (some (.tab [.int .i8, .int .i16, .fl .f32] x1))⟩], 2, []⟩)] else T49 16 args s
 | _, _ => T49 16 args s
noncomputable def T50 : CallF := addF T49 16 s16
set_option maxRecDepth 100000 in
set_option maxHeartbeats 4000000 in
theorem ok50 : CfOk Try.prog T50 := by
  refine cfOk_add ok49 fun args s r s' h1 h2 h3 => ?_
  unfold s16 at h3; split at h3
  · rename_i h; split at h3
    · rename_i hc; obtain ⟨rfl, rfl⟩ := hc; exact callOk ok49 Try.func16 h1 h2 h lok16_2.body (e16 _ _) rfl h3
    · exact ok49 _ _ _ _ _ h1 h2 h3
  · exact ok49 _ _ _ _ _ h1 h2 h3

/-- impl.ValidSpan -/
noncomputable def r63 (x0 x1 : Nat) : Bool :=
 ((flt .f32 x0 x1 || feq .f32 x0 x1))
noncomputable def a63 (x0 x1 : Nat) (p : Bool) : Res := firstT [(true, .bool p, st0)]
noncomputable def w63 (x0 x1 : Nat) : Res :=
 (a63 x0 x1 ((flt .f32 x0 x1 || feq .f32 x0 x1)))
set_option maxRecDepth 100000 in
set_option maxHeartbeats 4000000 in
theorem e63 (x0 x1 : Nat) : evFn Try.prog ext T50 noL 200 Try.f63 [.agg #[.float .f32 x0, .float .f32 x1]] st0 = firstT [(true, .bool (r63 x0 x1), st0)] :=
 (show evFn Try.prog ext T50 noL 200 Try.f63 [.agg #[.float .f32 x0, .float .f32 x1]] st0 = w63 x0 x1 from by kernel_rfl).trans
 (show w63 x0 x1 = a63 x0 x1 (r63 x0 x1) from by unfold w63 r63; exact rfl)
noncomputable def s63 (args : List Value) (s : St) : List (Bool × Value × St) :=
 match args, s.h with
 | [.agg ⟨[.float .f32 x0, .float .f32 x1]⟩], [] => [(true, .bool (r63 x0 x1), st0)]
 | _, _ => T50 63 args s
noncomputable def T51 : CallF := addF T50 63 s63
set_option maxRecDepth 100000 in
set_option maxHeartbeats 4000000 in
theorem ok51 : CfOk Try.prog T51 := by
  refine cfOk_add ok50 fun args s r s' h1 h2 h3 => ?_
  unfold s63 at h3; split at h3
  · rename_i h; exact callOk ok50 Try.func63 h1 h2 h (lfOkF_no _ _).body (e63 _ _) rfl h3
  · exact ok50 _ _ _ _ _ h1 h2 h3

/-- impl.isFinite -/
noncomputable def r51b (x0 x1 : Nat) : Bool :=
 cond (r79 (widen x0))
  (false)
  (cond (r80 (widen x0) 0)
  (false)
  (cond (r79 (widen x1))
  (false)
  (cond (r80 (widen x1) 0)
  (false)
  (true))))
noncomputable def a51b (x0 x1 : Nat) (p : Bool) : Res := firstT [(true, .bool p, ⟨[⟨true, (some (.tab [.fl .f32] ([[((x0 : Nat) : Int)], [((x1 : Nat) : Int)]] : List (List Int))))⟩], 1, []⟩)]
noncomputable def w51b (x0 x1 : Nat) : Res :=
 (cond (r79 (widen x0))
 (a51b x0 x1 (false))
 (cond (r80 (widen x0) 0)
  (a51b x0 x1 (false))
  (cond (r79 (widen x1))
  (a51b x0 x1 (false))
  (cond (r80 (widen x1) 0)
  (a51b x0 x1 (false))
  (a51b x0 x1 (true))))))
set_option maxRecDepth 100000 in
set_option maxHeartbeats 4000000 in
theorem e51b (x0 x1 : Nat) : evFn Try.prog ext T51 noL 200 Try.f51 [.slice (some ⟨0, 0, some 0⟩) 2 2] ⟨[⟨true, (some (.tab [.fl .f32] ([[((x0 : Nat) : Int)], [((x1 : Nat) : Int)]] : List (List Int))))⟩], 1, []⟩ = firstT [(true, .bool (r51b x0 x1), ⟨[⟨true, (some (.tab [.fl .f32] ([[((x0 : Nat) : Int)], [((x1 : Nat) : Int)]] : List (List Int))))⟩], 1, []⟩)] :=
 (show evFn Try.prog ext T51 noL 200 Try.f51 [.slice (some ⟨0, 0, some 0⟩) 2 2] ⟨[⟨true, (some (.tab [.fl .f32] ([[((x0 : Nat) : Int)], [((x1 : Nat) : Int)]] : List (List Int))))⟩], 1, []⟩ = w51b x0 x1 from by kernel_rfl).trans
 (show w51b x0 x1 = a51b x0 x1 (r51b x0 x1) from by unfold w51b r51b; exact (cond_app (a51b x0 x1) _ rfl (cond_app (a51b x0 x1) _ rfl (cond_app (a51b x0 x1) _ rfl (cond_app (a51b x0 x1) _ rfl rfl)))))
noncomputable def s51b (args : List Value) (s : St) : List (Bool × Value × St) :=
 match args, s.h with
 | [.slice (some ⟨f0, f1, some f2⟩) f3 f4], [⟨true, some (.tab [.fl .f32] [[.ofNat x0], [.ofNat x1]])⟩] => if f0 = 0 ∧ f1 = 0 ∧ f2 = 0 ∧ f3 = 2 ∧ f4 = 2 then [(true, .bool (r51b x0 x1), ⟨[⟨true, (some (.tab [.fl .f32] ([[((x0 : Nat) : Int)], [((x1 : Nat) : Int)]] : List (List Int))))⟩], 1, []⟩)] else T51 51 args s
 | _, _ => T51 51 args s
noncomputable def T52 : CallF := addF T51 51 s51b
set_option maxRecDepth 100000 in
set_option maxHeartbeats 4000000 in
theorem ok52 : CfOk Try.prog T52 := by
  refine cfOk_add ok51 fun args s r s' h1 h2 h3 => ?_
  unfold s51b at h3; split at h3
  · rename_i h; split at h3
    · rename_i hc; obtain ⟨rfl, rfl, rfl, rfl, rfl⟩ := hc; exact callOk ok51 Try.func51 h1 h2 h (lfOkF_no _ _).body (e51b _ _) rfl h3
    · exact ok51 _ _ _ _ _ h1 h2 h3
  · exact ok51 _ _ _ _ _ h1 h2 h3

/-- impl.areInputs -/
noncomputable def r64 (x0 x1 x2 x3 x4 x5 x6 x7 : Nat) : Bool :=
 cond (!(r63 x0 x1))
  (false)
  (cond (!(r51b x0 x1))
  (false)
  (cond (!(r63 x2 x3))
  (false)
  (cond (!(r51b x2 x3))
  (false)
  (cond (!(r63 x4 x5))
  (false)
  (cond (!(r51b x4 x5))
  (false)
  (cond (!(r63 x6 x7))
  (false)
  (cond (!(r51b x6 x7))
  (false)
  (true))))))))
noncomputable def a64 (x0 x1 x2 x3 x4 x5 x6 x7 : Nat) (p : Bool) : Res := firstT [(true, .bool p, st0)]
noncomputable def w64 (x0 x1 x2 x3 x4 x5 x6 x7 : Nat) : Res :=
 (cond (!(r63 x0 x1))
 (a64 x0 x1 x2 x3 x4 x5 x6 x7 (false))
 (cond (!(r51b x0 x1))
  (a64 x0 x1 x2 x3 x4 x5 x6 x7 (false))
  (cond (!(r63 x2 x3))
  (a64 x0 x1 x2 x3 x4 x5 x6 x7 (false))
  (cond (!(r51b x2 x3))
  (a64 x0 x1 x2 x3 x4 x5 x6 x7 (false))
  (cond (!(r63 x4 x5))
  (a64 x0 x1 x2 x3 x4 x5 x6 x7 (false))
  (cond (!(r51b x4 x5))
  (a64 x0 x1 x2 x3 x4 x5 x6 x7 (false))
  (cond (!(r63 x6 x7))
  (a64 x0 x1 x2 x3 x4 x5 x6 x7 (false))
  (cond (!(r51b x6 x7))
  (a64 x0 x1 x2 x3 x4 x5 x6 x7 (false))
  (a64 x0 x1 x2 x3 x4 x5 x6 x7 (true))))))))))
set_option maxRecDepth 100000 in
set_option maxHeartbeats 4000000 in
theorem e64 (x0 x1 x2 x3 x4 x5 x6 x7 : Nat) : evFn Try.prog ext T52 noL 200 Try.f64 [.agg #[.float .f32 x0, .float .f32 x1, .float .f32 x2, .float .f32 x3, .float .f32 x4, .float .f32 x5, .float .f32 x6, .float .f32 x7]] st0 = firstT [(true, .bool (r64 x0 x1 x2 x3 x4 x5 x6 x7), st0)] :=
 (show evFn Try.prog ext T52 noL 200 Try.f64 [.agg #[.float .f32 x0, .float .f32 x1, .float .f32 x2, .float .f32 x3, .float .f32 x4, .float .f32 x5, .float .f32 x6, .float .f32 x7]] st0 = w64 x0 x1 x2 x3 x4 x5 x6 x7 from by kernel_rfl).trans
 (show w64 x0 x1 x2 x3 x4 x5 x6 x7 = a64 x0 x1 x2 x3 x4 x5 x6 x7 (r64 x0 x1 x2 x3 x4 x5 x6 x7) from by unfold w64 r64; exact (cond_app (a64 x0 x1 x2 x3 x4 x5 x6 x7) _ rfl (cond_app (a64 x0 x1 x2 x3 x4 x5 x6 x7) _ rfl (cond_app (a64 x0 x1 x2 x3 x4 x5 x6 x7) _ rfl (cond_app (a64 x0 x1 x2 x3 x4 x5 x6 x7) _ rfl (cond_app (a64 x0 x1 x2 x3 x4 x5 x6 x7) _ rfl (cond_app (a64 x0 x1 x2 x3 x4 x5 x6 x7) _ rfl (cond_app (a64 x0 x1 x2 x3 x4 x5 x6 x7) _ rfl (cond_app (a64 x0 x1 x2 x3 x4 x5 x6 x7) _ rfl rfl)))))))))
noncomputable def s64 (args : List Value) (s : St) : List (Bool × Value × St) :=
 match args, s.h with
 | [.agg ⟨[.float .f32 x0, .float .f32 x1, .float .f32 x2, .float .f32 x3, .float .f32 x4, .float .f32 x5, .float .f32 x6, .float .f32 x7]⟩], [] => [(true, .bool (r64 x0 x1 x2 x3 x4 x5 x6 x7), st0)]
 | _, _ => T52 64 args s
noncomputable def T53 : CallF := addF T52 64 s64
set_option maxRecDepth 100000 in
set_option maxHeartbeats 4000000 in
theorem ok53 : CfOk Try.prog T53 := by
  refine cfOk_add ok52 fun args s r s' h1 h2 h3 => ?_
  unfold s64 at h3; split at h3
  · rename_i h; exact callOk ok52 Try.func64 h1 h2 h (lfOkF_no _ _).body (e64 _ _ _ _ _ _ _ _) rfl h3
  · exact ok52 _ _ _ _ _ h1 h2 h3

/-- slices.Index[[]string,string], loop 0: one round -/
noncomputable def b56l0b (ih : ByteArray → Int → Int → List ByteArray → (Nat × Int)) (x0 : ByteArray) (x1 x2 : Int) (x3 : List ByteArray) : Nat × Int :=
 cond (decide ((x2 : Int) < x1))
  (cond ((decide ((0 : Int) ≤ x2)) && (Nat.blt (Int.toNat x2) x3.length))
  (cond (x0.toList == (x3.getD (Int.toNat x2) .empty).toList)
  (0, x2)
  (ih x0 x1 (IntKind.i64.wrap (x2 + 1)) x3))
  (2, 0))
  (1, 0)
noncomputable def r56l0b : Nat → ByteArray → Int → Int → List ByteArray → (Nat × Int)
 | 0 => fun _ _ _ _ => (2, 0)
 | m + 1 => b56l0b (r56l0b m)
noncomputable def a56l0b (x0 : ByteArray) (x1 x2 : Int) (x3 : List ByteArray) (p : Nat × Int) : Option (Fin' × List Value × St) := firstT ([((Nat.beq (p.1) 0), .ret, [.int .i64 (p.2)], ⟨[⟨true, (some (.strs x3))⟩], 1, []⟩), ((Nat.beq (p.1) 1), .exit 0, [anyV], ⟨[⟨true, (some (.strs x3))⟩], 1, []⟩)].map fun (b, x) => (b, (x.1, frameOf 19 [4] x.2.1, x.2.2)))
noncomputable def u56l0b (x0 : ByteArray) (x1 x2 : Int) (x3 : List ByteArray) (p : Nat × Int) : Option (Fin' × List Value × St) := alts ([((Nat.beq (p.1) 0), .ret, [.int .i64 (p.2)], ⟨[⟨true, (some (.strs x3))⟩], 1, []⟩), ((Nat.beq (p.1) 1), .exit 0, [anyV], ⟨[⟨true, (some (.strs x3))⟩], 1, []⟩)].map fun (b, x) => (b, (x.1, frameOf 19 [4] x.2.1, x.2.2))) some
theorem v56l0b (x0 : ByteArray) (x1 x2 : Int) (x3 : List ByteArray) (p : Nat × Int) : u56l0b x0 x1 x2 x3 p = a56l0b x0 x1 x2 x3 p := alts_first _
noncomputable def q56l0b (m : Nat) : SumK := fun vals s =>
 match vals, s.h with
 | [.iface f0 .nilIface, .string x0, .int .i64 x1, .int .i64 x2], [⟨true, some (.strs x3)⟩] => if f0 = 0 then [((Nat.beq ((r56l0b m x0 x1 x2 x3).1) 0), .ret, [.int .i64 ((r56l0b m x0 x1 x2 x3).2)], ⟨[⟨true, (some (.strs x3))⟩], 1, []⟩), ((Nat.beq ((r56l0b m x0 x1 x2 x3).1) 1), .exit 0, [anyV], ⟨[⟨true, (some (.strs x3))⟩], 1, []⟩)] else Q56l0 vals s
 | _, _ => Q56l0 vals s
noncomputable def w56l0b (ih : ByteArray → Int → Int → List ByteArray → (Nat × Int)) (x0 : ByteArray) (x1 x2 : Int) (x3 : List ByteArray) : Option (Fin' × List Value × St) :=
 (cond (decide ((x2 : Int) < x1))
 (cond ((decide ((0 : Int) ≤ x2)) && (Nat.blt (Int.toNat x2) x3.length))
  (cond (Nat.blt (Int.toNat x2) x3.length)
  (cond (x0.toList == (x3.getD (Int.toNat x2) .empty).toList)
  (a56l0b x0 x1 x2 x3 (0, x2))
  (u56l0b x0 x1 x2 x3 (ih x0 x1 (IntKind.i64.wrap (x2 + 1)) x3)))
  none)
  none)
 (a56l0b x0 x1 x2 x3 (1, 0)))
set_option maxRecDepth 100000 in
set_option maxHeartbeats 4000000 in
theorem e56l0b (m : Nat) (x0 : ByteArray) (x1 x2 : Int) (x3 : List ByteArray) : evC Try.prog ext T53 L56_1 200 (loopN Try.f56 0) (loopTail ([0, 1, 7, 8], []) [4] [] (sumK 19 [0, 1, 7, 8] [4] (q56l0b m))) (frameOf 19 [0, 1, 7, 8] [wsl 0, .string x0, .int .i64 x1, .int .i64 x2]) ⟨[⟨true, (some (.strs x3))⟩], 1, []⟩ = firstT ([((Nat.beq ((r56l0b (m + 1) x0 x1 x2 x3).1) 0), .ret, [.int .i64 ((r56l0b (m + 1) x0 x1 x2 x3).2)], ⟨[⟨true, (some (.strs x3))⟩], 1, []⟩), ((Nat.beq ((r56l0b (m + 1) x0 x1 x2 x3).1) 1), .exit 0, [anyV], ⟨[⟨true, (some (.strs x3))⟩], 1, []⟩)].map fun (b, x) => (b, (x.1, frameOf 19 [4] x.2.1, x.2.2))) :=
 (show evC Try.prog ext T53 L56_1 200 (loopN Try.f56 0) (loopTail ([0, 1, 7, 8], []) [4] [] (sumK 19 [0, 1, 7, 8] [4] (q56l0b m))) (frameOf 19 [0, 1, 7, 8] [wsl 0, .string x0, .int .i64 x1, .int .i64 x2]) ⟨[⟨true, (some (.strs x3))⟩], 1, []⟩ = w56l0b (r56l0b m) x0 x1 x2 x3 from by kernel_rfl).trans
 (show w56l0b (r56l0b m) x0 x1 x2 x3 = a56l0b x0 x1 x2 x3 (r56l0b (m + 1) x0 x1 x2 x3) from by unfold w56l0b; show _ = a56l0b x0 x1 x2 x3 (b56l0b (r56l0b m) x0 x1 x2 x3); unfold b56l0b; exact (cond_both (a56l0b x0 x1 x2 x3) _ (fun h0 => (cond_both (a56l0b x0 x1 x2 x3) _ (fun h1 => (cond_t (ev_and2 h1) (cond_app (a56l0b x0 x1 x2 x3) _ rfl (v56l0b x0 x1 x2 x3 ((r56l0b m) x0 x1 (IntKind.i64.wrap (x2 + 1)) x3))))) (fun h1 => rfl))) (fun h0 => rfl)))
set_option maxRecDepth 100000 in
set_option maxHeartbeats 4000000 in
theorem qm56l0b : ∀ m, SumKOk Try.prog (loopN Try.f56 0) 19 [0, 1, 7, 8] [4] (q56l0b m) := by
  intro m
  induction m with
  | zero =>
    intro vals s x h1 h2 h3
    unfold q56l0b at h3; split at h3
    · rename_i h; split at h3
      · rename_i hc; obtain ⟨rfl⟩ := hc; exact absurd h3 (by simp [r56l0b, firstT, Nat.beq])
      · exact qok56l0 _ _ _ h1 h2 h3
    · exact qok56l0 _ _ _ h1 h2 h3
  | succ m ih =>
    intro vals s x h1 h2 h3
    unfold q56l0b at h3; split at h3
    · rename_i h; split at h3
      · rename_i hc; obtain ⟨rfl⟩ := hc; exact sum_step ok53 extOk mixed (lok56_1.inner (by kernel_rfl)) ih h1 h2 h (e56l0b m _ _ _ _) rfl h3
      · exact qok56l0 _ _ _ h1 h2 h3
    · exact qok56l0 _ _ _ h1 h2 h3
noncomputable def Q56l0b : SumK := fun vals s => q56l0b (fuelOf vals s.h) vals s
theorem qok56l0b : SumKOk Try.prog (loopN Try.f56 0) 19 [0, 1, 7, 8] [4] Q56l0b := fuel_ok qm56l0b fuelOf
noncomputable def L56_2 : LoopT := addL L56_1 3 ([0, 1, 7, 8], []) (sumK 19 [0, 1, 7, 8] [4] Q56l0b)
theorem lok56_2 : LfOkF Try.prog L56_2 Try.f56 := lfOkF_add lok56_1 qok56l0b (by kernel_rfl) (by kernel_rfl) (by kernel_rfl)

/-- slices.Index[[]string,string] -/
noncomputable def r56b (x0 : ByteArray) (x1 : List ByteArray) : Nat × Int :=
 cond (Nat.beq ((r56l0b (1000 + x1.length + (x0.size)) x0 ((x1.length : Nat) : Int) 0 x1).1) 0)
  (0, ((r56l0b (1000 + x1.length + (x0.size)) x0 ((x1.length : Nat) : Int) 0 x1).2))
  (cond (Nat.beq ((r56l0b (1000 + x1.length + (x0.size)) x0 ((x1.length : Nat) : Int) 0 x1).1) 1)
  (0, (-1))
  (1, 0))
noncomputable def a56b (x0 : ByteArray) (x1 : List ByteArray) (p : Nat × Int) : Res := firstT [((Nat.beq (p.1) 0), .int .i64 (p.2), ⟨[⟨true, (some (.strs x1))⟩], 1, []⟩)]
noncomputable def w56b (x0 : ByteArray) (x1 : List ByteArray) : Res :=
 (cond (Nat.beq ((r56l0b (1000 + x1.length + (x0.size)) x0 ((x1.length : Nat) : Int) 0 x1).1) 0)
 (a56b x0 x1 (0, ((r56l0b (1000 + x1.length + (x0.size)) x0 ((x1.length : Nat) : Int) 0 x1).2)))
 (cond (Nat.beq ((r56l0b (1000 + x1.length + (x0.size)) x0 ((x1.length : Nat) : Int) 0 x1).1) 1)
  (a56b x0 x1 (0, (-1)))
  none))
set_option maxRecDepth 100000 in
set_option maxHeartbeats 4000000 in
theorem e56b (x0 : ByteArray) (x1 : List ByteArray) : evFn Try.prog ext T53 L56_2 200 Try.f56 [wsl 0, .string x0] ⟨[⟨true, (some (.strs x1))⟩], 1, []⟩ = firstT [((Nat.beq ((r56b x0 x1).1) 0), .int .i64 ((r56b x0 x1).2), ⟨[⟨true, (some (.strs x1))⟩], 1, []⟩)] :=
 (show evFn Try.prog ext T53 L56_2 200 Try.f56 [wsl 0, .string x0] ⟨[⟨true, (some (.strs x1))⟩], 1, []⟩ = w56b x0 x1 from by kernel_rfl).trans
 (show w56b x0 x1 = a56b x0 x1 (r56b x0 x1) from by unfold w56b r56b; exact (cond_app (a56b x0 x1) _ rfl (cond_app (a56b x0 x1) _ rfl rfl)))
noncomputable def s56b (args : List Value) (s : St) : List (Bool × Value × St) :=
 match args, s.h with
 | [.iface f0 .nilIface, .string x0], [⟨true, some (.strs x1)⟩] => if f0 = 0 then [((Nat.beq ((r56b x0 x1).1) 0), .int .i64 ((r56b x0 x1).2), ⟨[⟨true, (some (.strs x1))⟩], 1, []⟩)] else T53 56 args s
 | _, _ => T53 56 args s
noncomputable def T54 : CallF := addF T53 56 s56b
set_option maxRecDepth 100000 in
set_option maxHeartbeats 4000000 in
theorem ok54 : CfOk Try.prog T54 := by
  refine cfOk_add ok53 fun args s r s' h1 h2 h3 => ?_
  unfold s56b at h3; split at h3
  · rename_i h; split at h3
    · rename_i hc; obtain ⟨rfl⟩ := hc; exact callOk ok53 Try.func56 h1 h2 h lok56_2.body (e56b _ _) rfl h3
    · exact ok53 _ _ _ _ _ h1 h2 h3
  · exact ok53 _ _ _ _ _ h1 h2 h3

/-- impl.NarrowInput, loop 0: one round -/
noncomputable def b37l0 (ih : Int → Int → Int → Int → Int → Nat → Nat → Nat → Nat → Nat → Nat → Nat → Nat → Nat → Nat → Nat → Nat → Nat → Nat → List (List Int) → List ByteArray → List (List Int) → (Nat × List (List Int))) (x0 x1 x2 x3 x4 : Int) (x5 x6 x7 x8 x9 x10 x11 x12 x13 x14 x15 x16 x17 x18 : Nat) (x19 : List (List Int)) (x20 : List ByteArray) (x21 : List (List Int)) : Nat × List (List Int) :=
 cond (decide ((x4 : Int) < x3))
  (cond (Nat.ble ((x19.length + 1) * 5) 140737488355328)
  (cond (Nat.beq ((ih x0 x1 x2 x3 (IntKind.i64.wrap (x4 + 1)) x5 x6 x7 x8 x9 x10 x11 x12 x13 x14 x15 x16 x17 x18 (((x19.drop 0).take x19.length) ++ ([[(((fadd .f32 x17 (fmul .f32 (fdiv .f32 (ofInt .f32 x4) (ofInt .f32 x1)) (fsub .f32 x18 x17))) : Nat) : Int)]] : List (List Int))) x20 x21).1) 0)
  (0, ((ih x0 x1 x2 x3 (IntKind.i64.wrap (x4 + 1)) x5 x6 x7 x8 x9 x10 x11 x12 x13 x14 x15 x16 x17 x18 (((x19.drop 0).take x19.length) ++ ([[(((fadd .f32 x17 (fmul .f32 (fdiv .f32 (ofInt .f32 x4) (ofInt .f32 x1)) (fsub .f32 x18 x17))) : Nat) : Int)]] : List (List Int))) x20 x21).2))
  (cond (Nat.beq ((ih x0 x1 x2 x3 (IntKind.i64.wrap (x4 + 1)) x5 x6 x7 x8 x9 x10 x11 x12 x13 x14 x15 x16 x17 x18 (((x19.drop 0).take x19.length) ++ ([[(((fadd .f32 x17 (fmul .f32 (fdiv .f32 (ofInt .f32 x4) (ofInt .f32 x1)) (fsub .f32 x18 x17))) : Nat) : Int)]] : List (List Int))) x20 x21).1) 1)
  (0, (((x19.drop 0).take x19.length) ++ ([[(((fadd .f32 x17 (fmul .f32 (fdiv .f32 (ofInt .f32 x4) (ofInt .f32 x1)) (fsub .f32 x18 x17))) : Nat) : Int)]] : List (List Int))))
  (2, [])))
  (2, []))
  (1, [])
noncomputable def r37l0 : Nat → Int → Int → Int → Int → Int → Nat → Nat → Nat → Nat → Nat → Nat → Nat → Nat → Nat → Nat → Nat → Nat → Nat → Nat → List (List Int) → List ByteArray → List (List Int) → (Nat × List (List Int))
 | 0 => fun _ _ _ _ _ _ _ _ _ _ _ _ _ _ _ _ _ _ _ _ _ _ => (2, [])
 | m + 1 => b37l0 (r37l0 m)
noncomputable def a37l0 (x0 x1 x2 x3 x4 : Int) (x5 x6 x7 x8 x9 x10 x11 x12 x13 x14 x15 x16 x17 x18 : Nat) (x19 : List (List Int)) (x20 : List ByteArray) (x21 : List (List Int)) (p : Nat × List (List Int)) : Option (Fin' × List Value × St) := firstT ([((Nat.beq (p.1) 0), .exit 0, [.int .i64 x0, .int .i64 x1, .pointer (some ⟨0, 0, some 0⟩), .pointer (some ⟨1, 0, some 0⟩), .pointer (some ⟨2, 0, some 0⟩), .pointer (some ⟨3, 0, some 0⟩), .int .i64 x2, .pointer (some ⟨4, 0, some 0⟩), wsl 8], ⟨[⟨true, (some (.cells [wsl 6, wsl 7]))⟩, ⟨true, (some (.cells [.float .f32 x5, .float .f32 x6, .float .f32 x7, .float .f32 x8, .float .f32 x9, .float .f32 x10, .float .f32 x11, .float .f32 x12]))⟩, ⟨true, (some (.cells [.float .f32 x13, .float .f32 x14]))⟩, ⟨true, (some (.cells [.float .f32 x15, .float .f32 x16]))⟩, ⟨true, (some (.cells [.float .f32 x17, .float .f32 x18]))⟩, ⟨true, none⟩, ⟨true, (some (.strs x20))⟩, ⟨true, (some (.tab [.int .i8, .int .i16, .fl .f32] x21))⟩, ⟨true, (some (.tab [.fl .f32] (p.2)))⟩], 8, [5]⟩), ((Nat.beq (p.1) 1), .exit 0, [.int .i64 x0, .int .i64 x1, .pointer (some ⟨0, 0, some 0⟩), .pointer (some ⟨1, 0, some 0⟩), .pointer (some ⟨2, 0, some 0⟩), .pointer (some ⟨3, 0, some 0⟩), .int .i64 x2, .pointer (some ⟨4, 0, some 0⟩), wsl 5], ⟨[⟨true, (some (.cells [wsl 6, wsl 7]))⟩, ⟨true, (some (.cells [.float .f32 x5, .float .f32 x6, .float .f32 x7, .float .f32 x8, .float .f32 x9, .float .f32 x10, .float .f32 x11, .float .f32 x12]))⟩, ⟨true, (some (.cells [.float .f32 x13, .float .f32 x14]))⟩, ⟨true, (some (.cells [.float .f32 x15, .float .f32 x16]))⟩, ⟨true, (some (.cells [.float .f32 x17, .float .f32 x18]))⟩, ⟨true, (some (.tab [.fl .f32] x19))⟩, ⟨true, (some (.strs x20))⟩, ⟨true, (some (.tab [.int .i8, .int .i16, .fl .f32] x21))⟩], 8, [5]⟩)].map fun (b, x) => (b, (x.1, frameOf 171 [2, 5, 6, 7, 10, 12, 14, 15, 16] x.2.1, x.2.2)))
noncomputable def u37l0 (x0 x1 x2 x3 x4 : Int) (x5 x6 x7 x8 x9 x10 x11 x12 x13 x14 x15 x16 x17 x18 : Nat) (x19 : List (List Int)) (x20 : List ByteArray) (x21 : List (List Int)) (p : Nat × List (List Int)) : Option (Fin' × List Value × St) := alts ([((Nat.beq (p.1) 0), .exit 0, [.int .i64 x0, .int .i64 x1, .pointer (some ⟨0, 0, some 0⟩), .pointer (some ⟨1, 0, some 0⟩), .pointer (some ⟨2, 0, some 0⟩), .pointer (some ⟨3, 0, some 0⟩), .int .i64 x2, .pointer (some ⟨4, 0, some 0⟩), wsl 8], ⟨[⟨true, (some (.cells [wsl 6, wsl 7]))⟩, ⟨true, (some (.cells [.float .f32 x5, .float .f32 x6, .float .f32 x7, .float .f32 x8, .float .f32 x9, .float .f32 x10, .float .f32 x11, .float .f32 x12]))⟩, ⟨true, (some (.cells [.float .f32 x13, .float .f32 x14]))⟩, ⟨true, (some (.cells [.float .f32 x15, .float .f32 x16]))⟩, ⟨true, (some (.cells [.float .f32 x17, .float .f32 x18]))⟩, ⟨true, none⟩, ⟨true, (some (.strs x20))⟩, ⟨true, (some (.tab [.int .i8, .int .i16, .fl .f32] x21))⟩, ⟨true, (some (.tab [.fl .f32] (p.2)))⟩], 8, [5]⟩), ((Nat.beq (p.1) 1), .exit 0, [.int .i64 x0, .int .i64 x1, .pointer (some ⟨0, 0, some 0⟩), .pointer (some ⟨1, 0, some 0⟩), .pointer (some ⟨2, 0, some 0⟩), .pointer (some ⟨3, 0, some 0⟩), .int .i64 x2, .pointer (some ⟨4, 0, some 0⟩), wsl 5], ⟨[⟨true, (some (.cells [wsl 6, wsl 7]))⟩, ⟨true, (some (.cells [.float .f32 x5, .float .f32 x6, .float .f32 x7, .float .f32 x8, .float .f32 x9, .float .f32 x10, .float .f32 x11, .float .f32 x12]))⟩, ⟨true, (some (.cells [.float .f32 x13, .float .f32 x14]))⟩, ⟨true, (some (.cells [.float .f32 x15, .float .f32 x16]))⟩, ⟨true, (some (.cells [.float .f32 x17, .float .f32 x18]))⟩, ⟨true, (some (.tab [.fl .f32] x19))⟩, ⟨true, (some (.strs x20))⟩, ⟨true, (some (.tab [.int .i8, .int .i16, .fl .f32] x21))⟩], 8, [5]⟩)].map fun (b, x) => (b, (x.1, frameOf 171 [2, 5, 6, 7, 10, 12, 14, 15, 16] x.2.1, x.2.2))) some
theorem v37l0 (x0 x1 x2 x3 x4 : Int) (x5 x6 x7 x8 x9 x10 x11 x12 x13 x14 x15 x16 x17 x18 : Nat) (x19 : List (List Int)) (x20 : List ByteArray) (x21 : List (List Int)) (p : Nat × List (List Int)) : u37l0 x0 x1 x2 x3 x4 x5 x6 x7 x8 x9 x10 x11 x12 x13 x14 x15 x16 x17 x18 x19 x20 x21 p = a37l0 x0 x1 x2 x3 x4 x5 x6 x7 x8 x9 x10 x11 x12 x13 x14 x15 x16 x17 x18 x19 x20 x21 p := alts_first _
noncomputable def q37l0 (m : Nat) : SumK := fun vals s =>
 match vals, s.h with
 | [.int .i64 x0, .int .i64 x1, .pointer (some ⟨f0, f1, some f2⟩), .pointer (some ⟨f3, f4, some f5⟩), .pointer (some ⟨f6, f7, some f8⟩), .pointer (some ⟨f9, f10, some f11⟩), .int .i64 x2, .pointer (some ⟨f12, f13, some f14⟩), .iface f15 .nilIface, .int .i64 x3, .int .i64 x4], [⟨true, some (.cells [.iface f16 .nilIface, .iface f17 .nilIface])⟩, ⟨true, some (.cells [.float .f32 x5, .float .f32 x6, .float .f32 x7, .float .f32 x8, .float .f32 x9, .float .f32 x10, .float .f32 x11, .float .f32 x12])⟩, ⟨true, some (.cells [.float .f32 x13, .float .f32 x14])⟩, ⟨true, some (.cells [.float .f32 x15, .float .f32 x16])⟩, ⟨true, some (.cells [.float .f32 x17, .float .f32 x18])⟩, ⟨true, some (.tab [.fl .f32] x19)⟩, ⟨true, some (.strs x20)⟩, ⟨true, some (.tab [.int .i8, .int .i16, .fl .f32] x21)⟩] => if f0 = 0 ∧ f1 = 0 ∧ f2 = 0 ∧ f3 = 1 ∧ f4 = 0 ∧ f5 = 0 ∧ f6 = 2 ∧ f7 = 0 ∧ f8 = 0 ∧ f9 = 3 ∧ f10 = 0 ∧ f11 = 0 ∧ f12 = 4 ∧ f13 = 0 ∧ f14 = 0 ∧ f15 = 5 ∧ f16 = 6 ∧ f17 = 7 then [((Nat.beq ((r37l0 m x0 x1 x2 x3 x4 x5 x6 x7 x8 x9 x10 x11 x12 x13 x14 x15 x16 x17 x18 x19 x20 x21).1) 0), .exit 0, [.int .i64 x0, .int .i64 x1, .pointer (some ⟨0, 0, some 0⟩), .pointer (some ⟨1, 0, some 0⟩), .pointer (some ⟨2, 0, some 0⟩), .pointer (some ⟨3, 0, some 0⟩), .int .i64 x2, .pointer (some ⟨4, 0, some 0⟩), wsl 8], ⟨[⟨true, (some (.cells [wsl 6, wsl 7]))⟩, ⟨true, (some (.cells [.float .f32 x5, .float .f32 x6, .float .f32 x7, .float .f32 x8, .float .f32 x9, .float .f32 x10, .float .f32 x11, .float .f32 x12]))⟩, ⟨true, (some (.cells [.float .f32 x13, .float .f32 x14]))⟩, ⟨true, (some (.cells [.float .f32 x15, .float .f32 x16]))⟩, ⟨true, (some (.cells [.float .f32 x17, .float .f32 x18]))⟩, ⟨true, none⟩, ⟨true, (some (.strs x20))⟩, ⟨true, (some (.tab [.int .i8, .int .i16, .fl .f32] x21))⟩, ⟨true, (some (.tab [.fl .f32] ((r37l0 m x0 x1 x2 x3 x4 x5 x6 x7 x8 x9 x10 x11 x12 x13 x14 x15 x16 x17 x18 x19 x20 x21).2)))⟩], 8, [5]⟩), ((Nat.beq ((r37l0 m x0 x1 x2 x3 x4 x5 x6 x7 x8 x9 x10 x11 x12 x13 x14 x15 x16 x17 x18 x19 x20 x21).1) 1), .exit 0, [.int .i64 x0, .int .i64 x1, .pointer (some ⟨0, 0, some 0⟩), .pointer (some ⟨1, 0, some 0⟩), .pointer (some ⟨2, 0, some 0⟩), .pointer (some ⟨3, 0, some 0⟩), .int .i64 x2, .pointer (some ⟨4, 0, some 0⟩), wsl 5], ⟨[⟨true, (some (.cells [wsl 6, wsl 7]))⟩, ⟨true, (some (.cells [.float .f32 x5, .float .f32 x6, .float .f32 x7, .float .f32 x8, .float .f32 x9, .float .f32 x10, .float .f32 x11, .float .f32 x12]))⟩, ⟨true, (some (.cells [.float .f32 x13, .float .f32 x14]))⟩, ⟨true, (some (.cells [.float .f32 x15, .float .f32 x16]))⟩, ⟨true, (some (.cells [.float .f32 x17, .float .f32 x18]))⟩, ⟨true, (some (.tab [.fl .f32] x19))⟩, ⟨true, (some (.strs x20))⟩, ⟨true, (some (.tab [.int .i8, .int .i16, .fl .f32] x21))⟩], 8, [5]⟩)] else noQ vals s
 | _, _ => noQ vals s
noncomputable def w37l0 (ih : Int → Int → Int → Int → Int → Nat → Nat → Nat → Nat → Nat → Nat → Nat → Nat → Nat → Nat → Nat → Nat → Nat → Nat → List (List Int) → List ByteArray → List (List Int) → (Nat × List (List Int))) (x0 x1 x2 x3 x4 : Int) (x5 x6 x7 x8 x9 x10 x11 x12 x13 x14 x15 x16 x17 x18 : Nat) (x19 : List (List Int)) (x20 : List ByteArray) (x21 : List (List Int)) : Option (Fin' × List Value × St) :=
 (cond (decide ((x4 : Int) < x3))
 (cond (Nat.ble ((x19.length + 1) * 5) 140737488355328)
  (cond (Nat.beq ((ih x0 x1 x2 x3 (IntKind.i64.wrap (x4 + 1)) x5 x6 x7 x8 x9 x10 x11 x12 x13 x14 x15 x16 x17 x18 (((x19.drop 0).take x19.length) ++ ([[(((fadd .f32 x17 (fmul .f32 (fdiv .f32 (ofInt .f32 x4) (ofInt .f32 x1)) (fsub .f32 x18 x17))) : Nat) : Int)]] : List (List Int))) x20 x21).1) 0)
  (a37l0 x0 x1 x2 x3 x4 x5 x6 x7 x8 x9 x10 x11 x12 x13 x14 x15 x16 x17 x18 x19 x20 x21 (0, ((ih x0 x1 x2 x3 (IntKind.i64.wrap (x4 + 1)) x5 x6 x7 x8 x9 x10 x11 x12 x13 x14 x15 x16 x17 x18 (((x19.drop 0).take x19.length) ++ ([[(((fadd .f32 x17 (fmul .f32 (fdiv .f32 (ofInt .f32 x4) (ofInt .f32 x1)) (fsub .f32 x18 x17))) : Nat) : Int)]] : List (List Int))) x20 x21).2)))
  (cond (Nat.beq ((ih x0 x1 x2 x3 (IntKind.i64.wrap (x4 + 1)) x5 x6 x7 x8 x9 x10 x11 x12 x13 x14 x15 x16 x17 x18 (((x19.drop 0).take x19.length) ++ ([[(((fadd .f32 x17 (fmul .f32 (fdiv .f32 (ofInt .f32 x4) (ofInt .f32 x1)) (fsub .f32 x18 x17))) : Nat) : Int)]] : List (List Int))) x20 x21).1) 1)
  (a37l0 x0 x1 x2 x3 x4 x5 x6 x7 x8 x9 x10 x11 x12 x13 x14 x15 x16 x17 x18 x19 x20 x21 (0, (((x19.drop 0).take x19.length) ++ ([[(((fadd .f32 x17 (fmul .f32 (fdiv .f32 (ofInt .f32 x4) (ofInt .f32 x1)) (fsub .f32 x18 x17))) : Nat) : Int)]] : List (List Int)))))
  none))
  none)
 (a37l0 x0 x1 x2 x3 x4 x5 x6 x7 x8 x9 x10 x11 x12 x13 x14 x15 x16 x17 x18 x19 x20 x21 (1, [])))
set_option maxRecDepth 100000 in
set_option maxHeartbeats 4000000 in
theorem e37l0 (m : Nat) (x0 x1 x2 x3 x4 : Int) (x5 x6 x7 x8 x9 x10 x11 x12 x13 x14 x15 x16 x17 x18 : Nat) (x19 : List (List Int)) (x20 : List ByteArray) (x21 : List (List Int)) : evC Try.prog ext T54 noL 200 (loopN Try.f37 0) (loopTail ([2, 5, 6, 7, 10, 12, 14, 15, 16, 65, 66], []) [2, 5, 6, 7, 10, 12, 14, 15, 16] [5] (sumK 171 [2, 5, 6, 7, 10, 12, 14, 15, 16, 65, 66] [2, 5, 6, 7, 10, 12, 14, 15, 16] (q37l0 m))) (frameOf 171 [2, 5, 6, 7, 10, 12, 14, 15, 16, 65, 66] [.int .i64 x0, .int .i64 x1, .pointer (some ⟨0, 0, some 0⟩), .pointer (some ⟨1, 0, some 0⟩), .pointer (some ⟨2, 0, some 0⟩), .pointer (some ⟨3, 0, some 0⟩), .int .i64 x2, .pointer (some ⟨4, 0, some 0⟩), wsl 5, .int .i64 x3, .int .i64 x4]) ⟨[⟨true, (some (.cells [wsl 6, wsl 7]))⟩, ⟨true, (some (.cells [.float .f32 x5, .float .f32 x6, .float .f32 x7, .float .f32 x8, .float .f32 x9, .float .f32 x10, .float .f32 x11, .float .f32 x12]))⟩, ⟨true, (some (.cells [.float .f32 x13, .float .f32 x14]))⟩, ⟨true, (some (.cells [.float .f32 x15, .float .f32 x16]))⟩, ⟨true, (some (.cells [.float .f32 x17, .float .f32 x18]))⟩, ⟨true, (some (.tab [.fl .f32] x19))⟩, ⟨true, (some (.strs x20))⟩, ⟨true, (some (.tab [.int .i8, .int .i16, .fl .f32] x21))⟩], 8, []⟩ = firstT ([((Nat.beq ((r37l0 (m + 1) x0 x1 x2 x3 x4 x5 x6 x7 x8 x9 x10 x11 x12 x13 x14 x15 x16 x17 x18 x19 x20 x21).1) 0), .exit 0, [.int .i64 x0, .int .i64 x1, .pointer (some ⟨0, 0, some 0⟩), .pointer (some ⟨1, 0, some 0⟩), .pointer (some ⟨2, 0, some 0⟩), .pointer (some ⟨3, 0, some 0⟩), .int .i64 x2, .pointer (some ⟨4, 0, some 0⟩), wsl 8], ⟨[⟨true, (some (.cells [wsl 6, wsl 7]))⟩, ⟨true, (some (.cells [.float .f32 x5, .float .f32 x6, .float .f32 x7, .float .f32 x8, .float .f32 x9, .float .f32 x10, .float .f32 x11, .float .f32 x12]))⟩, ⟨true, (some (.cells [.float .f32 x13, .float .f32 x14]))⟩, ⟨true, (some (.cells [.float .f32 x15, .float .f32 x16]))⟩, ⟨true, (some (.cells [.float .f32 x17, .float .f32 x18]))⟩, ⟨true, none⟩, ⟨true, (some (.strs x20))⟩, ⟨true, (some (.tab [.int .i8, .int .i16, .fl .f32] x21))⟩, ⟨true, (some (.tab [.fl .f32] ((r37l0 (m + 1) x0 x1 x2 x3 x4 x5 x6 x7 x8 x9 x10 x11 x12 x13 x14 x15 x16 x17 x18 x19 x20 x21).2)))⟩], 8, [5]⟩), ((Nat.beq ((r37l0 (m + 1) x0 x1 x2 x3 x4 x5 x6 x7 x8 x9 x10 x11 x12 x13 x14 x15 x16 x17 x18 x19 x20 x21).1) 1), .exit 0, [.int .i64 x0, .int .i64 x1, .pointer (some ⟨0, 0, some 0⟩), .pointer (some ⟨1, 0, some 0⟩), .pointer (some ⟨2, 0, some 0⟩), .pointer (some ⟨3, 0, some 0⟩), .int .i64 x2, .pointer (some ⟨4, 0, some 0⟩), wsl 5], ⟨[⟨true, (some (.cells [wsl 6, wsl 7]))⟩, ⟨true, (some (.cells [.float .f32 x5, .float .f32 x6, .float .f32 x7, .float .f32 x8, .float .f32 x9, .float .f32 x10, .float .f32 x11, .float .f32 x12]))⟩, ⟨true, (some (.cells [.float .f32 x13, .float .f32 x14]))⟩, ⟨true, (some (.cells [.float .f32 x15, .float .f32 x16]))⟩, ⟨true, (some (.cells [.float .f32 x17, .float .f32 x18]))⟩, ⟨true, (some (.tab [.fl .f32] x19))⟩, ⟨true, (some (.strs x20))⟩, ⟨true, (some (.tab [.int .i8, .int .i16, .fl .f32] x21))⟩], 8, [5]⟩)].map fun (b, x) => (b, (x.1, frameOf 171 [2, 5, 6, 7, 10, 12, 14, 15, 16] x.2.1, x.2.2))) :=
 (show evC Try.prog ext T54 noL 200 (loopN Try.f37 0) (loopTail ([2, 5, 6, 7, 10, 12, 14, 15, 16, 65, 66], []) [2, 5, 6, 7, 10, 12, 14, 15, 16] [5] (sumK 171 [2, 5, 6, 7, 10, 12, 14, 15, 16, 65, 66] [2, 5, 6, 7, 10, 12, 14, 15, 16] (q37l0 m))) (frameOf 171 [2, 5, 6, 7, 10, 12, 14, 15, 16, 65, 66] [.int .i64 x0, .int .i64 x1, .pointer (some ⟨0, 0, some 0⟩), .pointer (some ⟨1, 0, some 0⟩), .pointer (some ⟨2, 0, some 0⟩), .pointer (some ⟨3, 0, some 0⟩), .int .i64 x2, .pointer (some ⟨4, 0, some 0⟩), wsl 5, .int .i64 x3, .int .i64 x4]) ⟨[⟨true, (some (.cells [wsl 6, wsl 7]))⟩, ⟨true, (some (.cells [.float .f32 x5, .float .f32 x6, .float .f32 x7, .float .f32 x8, .float .f32 x9, .float .f32 x10, .float .f32 x11, .float .f32 x12]))⟩, ⟨true, (some (.cells [.float .f32 x13, .float .f32 x14]))⟩, ⟨true, (some (.cells [.float .f32 x15, .float .f32 x16]))⟩, ⟨true, (some (.cells [.float .f32 x17, .float .f32 x18]))⟩, ⟨true, (some (.tab [.fl .f32] x19))⟩, ⟨true, (some (.strs x20))⟩, ⟨true, (some (.tab [.int .i8, .int .i16, .fl .f32] x21))⟩], 8, []⟩ = w37l0 (r37l0 m) x0 x1 x2 x3 x4 x5 x6 x7 x8 x9 x10 x11 x12 x13 x14 x15 x16 x17 x18 x19 x20 x21 from by kernel_rfl).trans
 (show w37l0 (r37l0 m) x0 x1 x2 x3 x4 x5 x6 x7 x8 x9 x10 x11 x12 x13 x14 x15 x16 x17 x18 x19 x20 x21 = a37l0 x0 x1 x2 x3 x4 x5 x6 x7 x8 x9 x10 x11 x12 x13 x14 x15 x16 x17 x18 x19 x20 x21 (r37l0 (m + 1) x0 x1 x2 x3 x4 x5 x6 x7 x8 x9 x10 x11 x12 x13 x14 x15 x16 x17 x18 x19 x20 x21) from by unfold w37l0; show _ = a37l0 x0 x1 x2 x3 x4 x5 x6 x7 x8 x9 x10 x11 x12 x13 x14 x15 x16 x17 x18 x19 x20 x21 (b37l0 (r37l0 m) x0 x1 x2 x3 x4 x5 x6 x7 x8 x9 x10 x11 x12 x13 x14 x15 x16 x17 x18 x19 x20 x21); unfold b37l0; exact (cond_app (a37l0 x0 x1 x2 x3 x4 x5 x6 x7 x8 x9 x10 x11 x12 x13 x14 x15 x16 x17 x18 x19 x20 x21) _ (cond_app (a37l0 x0 x1 x2 x3 x4 x5 x6 x7 x8 x9 x10 x11 x12 x13 x14 x15 x16 x17 x18 x19 x20 x21) _ (cond_app (a37l0 x0 x1 x2 x3 x4 x5 x6 x7 x8 x9 x10 x11 x12 x13 x14 x15 x16 x17 x18 x19 x20 x21) _ rfl (cond_app (a37l0 x0 x1 x2 x3 x4 x5 x6 x7 x8 x9 x10 x11 x12 x13 x14 x15 x16 x17 x18 x19 x20 x21) _ rfl rfl)) rfl) rfl))
set_option maxRecDepth 100000 in
set_option maxHeartbeats 4000000 in
theorem qm37l0 : ∀ m, SumKOk Try.prog (loopN Try.f37 0) 171 [2, 5, 6, 7, 10, 12, 14, 15, 16, 65, 66] [2, 5, 6, 7, 10, 12, 14, 15, 16] (q37l0 m) := by
  intro m
  induction m with
  | zero =>
    intro vals s x h1 h2 h3
    unfold q37l0 at h3; split at h3
    · rename_i h; split at h3
      · rename_i hc; obtain ⟨rfl, rfl, rfl, rfl, rfl, rfl, rfl, rfl, rfl, rfl, rfl, rfl, rfl, rfl, rfl, rfl, rfl, rfl⟩ := hc; exact absurd h3 (by simp [r37l0, firstT, Nat.beq])
      · exact noQ_ok _ _ _ h1 h2 h3
    · exact noQ_ok _ _ _ h1 h2 h3
  | succ m ih =>
    intro vals s x h1 h2 h3
    unfold q37l0 at h3; split at h3
    · rename_i h; split at h3
      · rename_i hc; obtain ⟨rfl, rfl, rfl, rfl, rfl, rfl, rfl, rfl, rfl, rfl, rfl, rfl, rfl, rfl, rfl, rfl, rfl, rfl⟩ := hc; exact sum_step ok54 extOk mixed ((lfOkF_no _ _).inner (by kernel_rfl)) ih h1 h2 h (e37l0 m _ _ _ _ _ _ _ _ _ _ _ _ _ _ _ _ _ _ _ _ _ _) rfl h3
      · exact noQ_ok _ _ _ h1 h2 h3
    · exact noQ_ok _ _ _ h1 h2 h3
noncomputable def Q37l0 : SumK := fun vals s => q37l0 (fuelOf vals s.h) vals s
theorem qok37l0 : SumKOk Try.prog (loopN Try.f37 0) 171 [2, 5, 6, 7, 10, 12, 14, 15, 16, 65, 66] [2, 5, 6, 7, 10, 12, 14, 15, 16] Q37l0 := fuel_ok qm37l0 fuelOf
noncomputable def L37_1 : LoopT := addL noL 12 ([2, 5, 6, 7, 10, 12, 14, 15, 16, 65, 66], []) (sumK 171 [2, 5, 6, 7, 10, 12, 14, 15, 16, 65, 66] [2, 5, 6, 7, 10, 12, 14, 15, 16] Q37l0)
theorem lok37_1 : LfOkF Try.prog L37_1 Try.f37 := lfOkF_add (lfOkF_no _ _) qok37l0 (by kernel_rfl) (by kernel_rfl) (by kernel_rfl)
end Go.Proofs.Ytfclciebpnnieaa
