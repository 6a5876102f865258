/- What the functions that the statements reach answer, part 4. -/
import Derived.Test.YtfclciebpnnieaaVi3
namespace Go.Proofs.Ytfclciebpnnieaa
open Go.Ab
set_option maxHeartbeats 4000000
set_option maxRecDepth 100000

/-- impl.runOn[float32] -/
noncomputable def r82 (x0 x1 x2 x3 : Nat) (x4 : List ByteArray) (x5 : List (List Int)) : Nat × List (List Int) :=
 let c51 := (r82l0 (1000 + x5.length + 0 + 0) ((x5.length : Nat) : Int) 0 x0 x1 x2 x3 ([] : List (List Int)) ([] : List (List Int)) x5)
 cond (Nat.beq (c51.1) 0)
  (0, ([] : List (List Int)))
  (cond (Nat.beq (c51.1) 1)
   (0, (c51.2))
   (cond (Nat.beq (c51.1) 2)
    (0, ([] : List (List Int)))
    (1, [])))
noncomputable def a82 (x0 x1 x2 x3 : Nat) (x4 : List ByteArray) (x5 : List (List Int)) (p : Nat × List (List Int)) : Res := firstT [((Nat.beq (p.1) 0), wsl 2, ⟨[⟨true, (some (.strs x4))⟩, ⟨true, (some (.tab [.int .i8, .int .i16, .fl .f32] x5))⟩, ⟨true, (some (.tab [.fl .f32] (p.2)))⟩], 2, []⟩)]
noncomputable def w82 (x0 x1 x2 x3 : Nat) (x4 : List ByteArray) (x5 : List (List Int)) : Res :=
 let c51 := (r82l0 (1000 + x5.length + 0 + 0) ((x5.length : Nat) : Int) 0 x0 x1 x2 x3 ([] : List (List Int)) ([] : List (List Int)) x5)
 (cond (Nat.beq (c51.1) 0)
 (a82 x0 x1 x2 x3 x4 x5 (0, ([] : List (List Int))))
 (cond (Nat.beq (c51.1) 1)
  (a82 x0 x1 x2 x3 x4 x5 (0, (c51.2)))
  (cond (Nat.beq (c51.1) 2)
   (a82 x0 x1 x2 x3 x4 x5 (0, ([] : List (List Int))))
   none)))
set_option maxRecDepth 100000 in
set_option maxHeartbeats 4000000 in
theorem e82 (x0 x1 x2 x3 : Nat) (x4 : List ByteArray) (x5 : List (List Int)) : evFn Try.prog ext T38 L82_1 200 Try.f82 [.agg #[wsl 0, wsl 1], .agg #[.float .f32 x0, .float .f32 x1, .float .f32 x2, .float .f32 x3], .func (.func 83) #[] #[], .func (.func 84) #[] #[]] ⟨[⟨true, (some (.strs x4))⟩, ⟨true, (some (.tab [.int .i8, .int .i16, .fl .f32] x5))⟩], 2, []⟩ = firstT [((Nat.beq ((r82 x0 x1 x2 x3 x4 x5).1) 0), wsl 2, ⟨[⟨true, (some (.strs x4))⟩, ⟨true, (some (.tab [.int .i8, .int .i16, .fl .f32] x5))⟩, ⟨true, (some (.tab [.fl .f32] ((r82 x0 x1 x2 x3 x4 x5).2)))⟩], 2, []⟩)] :=
 (show evFn Try.prog ext T38 L82_1 200 Try.f82 [.agg #[wsl 0, wsl 1], .agg #[.float .f32 x0, .float .f32 x1, .float .f32 x2, .float .f32 x3], .func (.func 83) #[] #[], .func (.func 84) #[] #[]] ⟨[⟨true, (some (.strs x4))⟩, ⟨true, (some (.tab [.int .i8, .int .i16, .fl .f32] x5))⟩], 2, []⟩ = w82 x0 x1 x2 x3 x4 x5 from by kernel_rfl).trans
 (show w82 x0 x1 x2 x3 x4 x5 = a82 x0 x1 x2 x3 x4 x5 (r82 x0 x1 x2 x3 x4 x5) from (cond_app (a82 x0 x1 x2 x3 x4 x5) _ rfl (cond_app (a82 x0 x1 x2 x3 x4 x5) _ rfl (cond_app (a82 x0 x1 x2 x3 x4 x5) _ rfl rfl))))
noncomputable def s82 (args : List Value) (s : St) : List (Bool × Value × St) :=
 match args, s.h with
 | [.agg ⟨[.iface f0 .nilIface, .iface f1 .nilIface]⟩, .agg ⟨[.float .f32 x0, .float .f32 x1, .float .f32 x2, .float .f32 x3]⟩, .func (.func f2) ⟨[]⟩ ⟨[]⟩, .func (.func f3) ⟨[]⟩ ⟨[]⟩], [⟨true, some (.strs x4)⟩, ⟨true, some (.tab [.int .i8, .int .i16, .fl .f32] x5)⟩] => if f0 = 0 ∧ f1 = 1 ∧ f2 = 83 ∧ f3 = 84 then [((Nat.beq ((r82 x0 x1 x2 x3 x4 x5).1) 0), wsl 2, ⟨[⟨true, (some (.strs x4))⟩, ⟨true, (some (.tab [.int .i8, .int .i16, .fl .f32] x5))⟩, ⟨true, (some (.tab [.fl .f32] ((r82 x0 x1 x2 x3 x4 x5).2)))⟩], 2, []⟩)] else T38 82 args s
 | _, _ => T38 82 args s
noncomputable def T39 : CallF := addF T38 82 s82
set_option maxRecDepth 100000 in
set_option maxHeartbeats 4000000 in
theorem ok39 : CfOk Try.prog T39 := by
  refine cfOk_add ok38 fun args s r s' h1 h2 h3 => ?_
  unfold s82 at h3; split at h3
  · rename_i h; split at h3
    · rename_i hc; obtain ⟨rfl, rfl, rfl, rfl⟩ := hc; exact callOk ok38 Try.func82 h1 h2 h lok82_1.body (e82 _ _ _ _ _ _) rfl h3
    · exact ok38 _ _ _ _ _ h1 h2 h3
  · exact ok38 _ _ _ _ _ h1 h2 h3

/-- impl.runNumbers -/
noncomputable def r57 (x0 x1 x2 x3 : Nat) (x4 : List ByteArray) (x5 : List (List Int)) : Nat × List (List Int) :=
 cond (Nat.beq ((r82 x0 x1 x2 x3 x4 x5).1) 0)
  (0, ((r82 x0 x1 x2 x3 x4 x5).2))
  (1, [])
noncomputable def a57 (x0 x1 x2 x3 : Nat) (x4 : List ByteArray) (x5 : List (List Int)) (p : Nat × List (List Int)) : Res := firstT [((Nat.beq (p.1) 0), wsl 2, ⟨[⟨true, (some (.strs x4))⟩, ⟨true, (some (.tab [.int .i8, .int .i16, .fl .f32] x5))⟩, ⟨true, (some (.tab [.fl .f32] (p.2)))⟩], 2, []⟩)]
noncomputable def w57 (x0 x1 x2 x3 : Nat) (x4 : List ByteArray) (x5 : List (List Int)) : Res :=
 (cond (Nat.beq ((r82 x0 x1 x2 x3 x4 x5).1) 0)
 (a57 x0 x1 x2 x3 x4 x5 (0, ((r82 x0 x1 x2 x3 x4 x5).2)))
 none)
set_option maxRecDepth 100000 in
set_option maxHeartbeats 4000000 in
theorem e57 (x0 x1 x2 x3 : Nat) (x4 : List ByteArray) (x5 : List (List Int)) : evFn Try.prog ext T39 noL 200 Try.f57 [.agg #[wsl 0, wsl 1], .agg #[.float .f32 x0, .float .f32 x1, .float .f32 x2, .float .f32 x3]] ⟨[⟨true, (some (.strs x4))⟩, ⟨true, (some (.tab [.int .i8, .int .i16, .fl .f32] x5))⟩], 2, []⟩ = firstT [((Nat.beq ((r57 x0 x1 x2 x3 x4 x5).1) 0), wsl 2, ⟨[⟨true, (some (.strs x4))⟩, ⟨true, (some (.tab [.int .i8, .int .i16, .fl .f32] x5))⟩, ⟨true, (some (.tab [.fl .f32] ((r57 x0 x1 x2 x3 x4 x5).2)))⟩], 2, []⟩)] :=
 (show evFn Try.prog ext T39 noL 200 Try.f57 [.agg #[wsl 0, wsl 1], .agg #[.float .f32 x0, .float .f32 x1, .float .f32 x2, .float .f32 x3]] ⟨[⟨true, (some (.strs x4))⟩, ⟨true, (some (.tab [.int .i8, .int .i16, .fl .f32] x5))⟩], 2, []⟩ = w57 x0 x1 x2 x3 x4 x5 from by kernel_rfl).trans
 (show w57 x0 x1 x2 x3 x4 x5 = a57 x0 x1 x2 x3 x4 x5 (r57 x0 x1 x2 x3 x4 x5) from (cond_app (a57 x0 x1 x2 x3 x4 x5) _ rfl rfl))
noncomputable def s57 (args : List Value) (s : St) : List (Bool × Value × St) :=
 match args, s.h with
 | [.agg ⟨[.iface f0 .nilIface, .iface f1 .nilIface]⟩, .agg ⟨[.float .f32 x0, .float .f32 x1, .float .f32 x2, .float .f32 x3]⟩], [⟨true, some (.strs x4)⟩, ⟨true, some (.tab [.int .i8, .int .i16, .fl .f32] x5)⟩] => if f0 = 0 ∧ f1 = 1 then [((Nat.beq ((r57 x0 x1 x2 x3 x4 x5).1) 0), wsl 2, ⟨[⟨true, (some (.strs x4))⟩, ⟨true, (some (.tab [.int .i8, .int .i16, .fl .f32] x5))⟩, ⟨true, (some (.tab [.fl .f32] ((r57 x0 x1 x2 x3 x4 x5).2)))⟩], 2, []⟩)] else T39 57 args s
 | _, _ => T39 57 args s
noncomputable def T40 : CallF := addF T39 57 s57
set_option maxRecDepth 100000 in
set_option maxHeartbeats 4000000 in
theorem ok40 : CfOk Try.prog T40 := by
  refine cfOk_add ok39 fun args s r s' h1 h2 h3 => ?_
  unfold s57 at h3; split at h3
  · rename_i h; split at h3
    · rename_i hc; obtain ⟨rfl, rfl⟩ := hc; exact callOk ok39 Try.func57 h1 h2 h (lfOkF_no _ _).body (e57 _ _ _ _ _ _) rfl h3
    · exact ok39 _ _ _ _ _ h1 h2 h3
  · exact ok39 _ _ _ _ _ h1 h2 h3

/-- impl.ValueIn -/
noncomputable def r19 (x0 x1 x2 x3 : Nat) (x4 : ByteArray) (x5 : List ByteArray) (x6 : List (List Int)) : Nat × Nat × Int :=
 cond (Nat.beq ((r16 x5 x6).1) 0)
  (cond (!((r16 x5 x6).2))
   (0, 0, 1)
   (cond (Nat.beq ((r56b x4 x5).1) 0)
    (cond (decide ((((r56b x4 x5).2) : Int) < 0))
     (0, 0, 6)
     (cond (Nat.beq ((r57 x0 x1 x2 x3 x5 x6).1) 0)
      (cond ((decide ((0 : Int) ≤ ((r56b x4 x5).2))) && (Nat.blt (Int.toNat ((r56b x4 x5).2)) (((r57 x0 x1 x2 x3 x5 x6).2).length)))
       (0, (Int.toNat ((((r57 x0 x1 x2 x3 x5 x6).2).getD (Int.toNat ((r56b x4 x5).2)) []).getD 0 0)), 0)
       (1, 0, 0))
      (1, 0, 0)))
    (1, 0, 0)))
  (1, 0, 0)
noncomputable def a19 (x0 x1 x2 x3 : Nat) (x4 : ByteArray) (x5 : List ByteArray) (x6 : List (List Int)) (p : Nat × Nat × Int) : Res := firstT [((Nat.beq (p.1) 0), .tuple #[.float .f32 (p.2.1), .int .i64 (p.2.2)], ⟨[⟨true, (some (.strs x5))⟩, ⟨true, (some (.tab [.int .i8, .int .i16, .fl .f32] x6))⟩], 2, []⟩)]
noncomputable def w19 (x0 x1 x2 x3 : Nat) (x4 : ByteArray) (x5 : List ByteArray) (x6 : List (List Int)) : Res :=
 (cond (Nat.beq ((r16 x5 x6).1) 0)
 (cond (!((r16 x5 x6).2))
  (a19 x0 x1 x2 x3 x4 x5 x6 (0, 0, 1))
  (cond (Nat.beq ((r56b x4 x5).1) 0)
   (cond (decide ((((r56b x4 x5).2) : Int) < 0))
    (a19 x0 x1 x2 x3 x4 x5 x6 (0, 0, 6))
    (cond (Nat.beq ((r57 x0 x1 x2 x3 x5 x6).1) 0)
     (cond ((decide ((0 : Int) ≤ ((r56b x4 x5).2))) && (Nat.blt (Int.toNat ((r56b x4 x5).2)) (((r57 x0 x1 x2 x3 x5 x6).2).length)))
      (cond (Nat.blt (Int.toNat ((r56b x4 x5).2)) (((r57 x0 x1 x2 x3 x5 x6).2).length))
       (a19 x0 x1 x2 x3 x4 x5 x6 (0, (Int.toNat ((((r57 x0 x1 x2 x3 x5 x6).2).getD (Int.toNat ((r56b x4 x5).2)) []).getD 0 0)), 0))
       none)
      none)
     none))
   none))
 none)
set_option maxRecDepth 100000 in
set_option maxHeartbeats 4000000 in
theorem e19 (x0 x1 x2 x3 : Nat) (x4 : ByteArray) (x5 : List ByteArray) (x6 : List (List Int)) : evFn Try.prog ext T40 noL 200 Try.f19 [.agg #[wsl 0, wsl 1], .agg #[.float .f32 x0, .float .f32 x1, .float .f32 x2, .float .f32 x3], .string x4] ⟨[⟨true, (some (.strs x5))⟩, ⟨true, (some (.tab [.int .i8, .int .i16, .fl .f32] x6))⟩], 2, []⟩ = firstT [((Nat.beq ((r19 x0 x1 x2 x3 x4 x5 x6).1) 0), .tuple #[.float .f32 ((r19 x0 x1 x2 x3 x4 x5 x6).2.1), .int .i64 ((r19 x0 x1 x2 x3 x4 x5 x6).2.2)], ⟨[⟨true, (some (.strs x5))⟩, ⟨true, (some (.tab [.int .i8, .int .i16, .fl .f32] x6))⟩], 2, []⟩)] :=
 (show evFn Try.prog ext T40 noL 200 Try.f19 [.agg #[wsl 0, wsl 1], .agg #[.float .f32 x0, .float .f32 x1, .float .f32 x2, .float .f32 x3], .string x4] ⟨[⟨true, (some (.strs x5))⟩, ⟨true, (some (.tab [.int .i8, .int .i16, .fl .f32] x6))⟩], 2, []⟩ = w19 x0 x1 x2 x3 x4 x5 x6 from by kernel_rfl).trans
 (show w19 x0 x1 x2 x3 x4 x5 x6 = a19 x0 x1 x2 x3 x4 x5 x6 (r19 x0 x1 x2 x3 x4 x5 x6) from (cond_both (a19 x0 x1 x2 x3 x4 x5 x6) _ (fun h0 => (cond_both (a19 x0 x1 x2 x3 x4 x5 x6) _ (fun h1 => rfl) (fun h1 => (cond_both (a19 x0 x1 x2 x3 x4 x5 x6) _ (fun h2 => (cond_both (a19 x0 x1 x2 x3 x4 x5 x6) _ (fun h3 => rfl) (fun h3 => (cond_both (a19 x0 x1 x2 x3 x4 x5 x6) _ (fun h4 => (cond_both (a19 x0 x1 x2 x3 x4 x5 x6) _ (fun h5 => (cond_t (ev_and2 h5) rfl)) (fun h5 => rfl))) (fun h4 => rfl))))) (fun h2 => rfl))))) (fun h0 => rfl)))
noncomputable def s19 (args : List Value) (s : St) : List (Bool × Value × St) :=
 match args, s.h with
 | [.agg ⟨[.iface f0 .nilIface, .iface f1 .nilIface]⟩, .agg ⟨[.float .f32 x0, .float .f32 x1, .float .f32 x2, .float .f32 x3]⟩, .string x4], [⟨true, some (.strs x5)⟩, ⟨true, some (.tab [.int .i8, .int .i16, .fl .f32] x6)⟩] => if f0 = 0 ∧ f1 = 1 then [((Nat.beq ((r19 x0 x1 x2 x3 x4 x5 x6).1) 0), .tuple #[.float .f32 ((r19 x0 x1 x2 x3 x4 x5 x6).2.1), .int .i64 ((r19 x0 x1 x2 x3 x4 x5 x6).2.2)], ⟨[⟨true, (some (.strs x5))⟩, ⟨true, (some (.tab [.int .i8, .int .i16, .fl .f32] x6))⟩], 2, []⟩)] else T40 19 args s
 | _, _ => T40 19 args s
noncomputable def T41 : CallF := addF T40 19 s19
set_option maxRecDepth 100000 in
set_option maxHeartbeats 4000000 in
theorem ok41 : CfOk Try.prog T41 := by
  refine cfOk_add ok40 fun args s r s' h1 h2 h3 => ?_
  unfold s19 at h3; split at h3
  · rename_i h; split at h3
    · rename_i hc; obtain ⟨rfl, rfl⟩ := hc; exact callOk ok40 Try.func19 h1 h2 h (lfOkF_no _ _).body (e19 _ _ _ _ _ _ _) rfl h3
    · exact ok40 _ _ _ _ _ h1 h2 h3
  · exact ok40 _ _ _ _ _ h1 h2 h3

/-- laws.sameFloat -/
noncomputable def r20 (x0 x1 : Nat) : Bool :=
 cond (!feq .f64 x0 x0)
  ((!feq .f64 x1 x1))
  (cond (!feq .f64 x1 x1)
   (false)
   (cond (feq .f64 x0 0)
    (cond (feq .f64 x1 0)
     (((fgt .f64 (fdiv .f64 4607182418800017408 x0) 0) == (fgt .f64 (fdiv .f64 4607182418800017408 x1) 0)))
     ((feq .f64 x0 x1)))
    ((feq .f64 x0 x1))))
noncomputable def a20 (x0 x1 : Nat) (p : Bool) : Res := firstT [(true, .bool p, st0)]
noncomputable def w20 (x0 x1 : Nat) : Res :=
 (cond (!feq .f64 x0 x0)
 (cond (!feq .f64 x0 x0)
  (a20 x0 x1 ((!feq .f64 x1 x1)))
  (some (.bool false, st0)))
 (cond (!feq .f64 x1 x1)
  (cond (!feq .f64 x0 x0)
   (some (.bool (!feq .f64 x1 x1), st0))
   (a20 x0 x1 (false)))
  (cond (feq .f64 x0 0)
   (cond (feq .f64 x1 0)
    (a20 x0 x1 (((fgt .f64 (fdiv .f64 4607182418800017408 x0) 0) == (fgt .f64 (fdiv .f64 4607182418800017408 x1) 0))))
    (a20 x0 x1 ((feq .f64 x0 x1))))
   (a20 x0 x1 ((feq .f64 x0 x1))))))
set_option maxRecDepth 100000 in
set_option maxHeartbeats 4000000 in
theorem e20 (x0 x1 : Nat) : evFn Try.prog ext T41 noL 200 Try.f20 [.float .f64 x0, .float .f64 x1] st0 = firstT [(true, .bool (r20 x0 x1), st0)] :=
 (show evFn Try.prog ext T41 noL 200 Try.f20 [.float .f64 x0, .float .f64 x1] st0 = w20 x0 x1 from by kernel_rfl).trans
 (show w20 x0 x1 = a20 x0 x1 (r20 x0 x1) from (cond_both (a20 x0 x1) _ (fun h0 => (cond_t (ev_not1 (ev_nott h0)) rfl)) (fun h0 => (cond_both (a20 x0 x1) _ (fun h1 => (cond_f (ev_not0 (ev_notf h0)) rfl)) (fun h1 => (cond_app (a20 x0 x1) _ (cond_app (a20 x0 x1) _ rfl rfl) rfl))))))
noncomputable def s20 (args : List Value) (s : St) : List (Bool × Value × St) :=
 match args, s.h with
 | [.float .f64 x0, .float .f64 x1], [] => [(true, .bool (r20 x0 x1), st0)]
 | _, _ => T41 20 args s
noncomputable def T42 : CallF := addF T41 20 s20
set_option maxRecDepth 100000 in
set_option maxHeartbeats 4000000 in
theorem ok42 : CfOk Try.prog T42 := by
  refine cfOk_add ok41 fun args s r s' h1 h2 h3 => ?_
  unfold s20 at h3; split at h3
  · rename_i h; exact callOk ok41 Try.func20 h1 h2 h (lfOkF_no _ _).body (e20 _ _) rfl h3
  · exact ok41 _ _ _ _ _ h1 h2 h3

/-- laws.eqStringS, loop 0: one round -/
noncomputable def b46l0 (ih : Int → List ByteArray → List ByteArray → Nat) (x0 : Int) (x1 x2 : List ByteArray) : Nat :=
 cond (decide ((x0 : Int) < ((x1.length : Nat) : Int)))
  (cond ((decide ((0 : Int) ≤ x0)) && (Nat.blt (Int.toNat x0) x1.length))
   (cond ((decide ((0 : Int) ≤ x0)) && (Nat.blt (Int.toNat x0) x2.length))
    (cond (!((x1.getD (Int.toNat x0) .empty).toList == (x2.getD (Int.toNat x0) .empty).toList))
     (0)
     (ih (IntKind.i64.wrap (x0 + 1)) x1 x2))
    (2))
   (2))
  (1)
noncomputable def r46l0 : Nat → Int → List ByteArray → List ByteArray → Nat
 | 0, _, _, _ => (2)
 | m + 1, x0, x1, x2 => b46l0 (r46l0 m) x0 x1 x2
noncomputable def a46l0 (x0 : Int) (x1 x2 : List ByteArray) (p : Nat) : Option (Fin' × List Value × St) := firstT ([((Nat.beq p 0), .ret, [.bool false], ⟨[⟨true, (some (.strs x1))⟩, ⟨true, (some (.strs x2))⟩], 2, []⟩), ((Nat.beq p 1), .exit 0, [anyV], ⟨[⟨true, (some (.strs x1))⟩, ⟨true, (some (.strs x2))⟩], 2, []⟩)].map fun (b, x) => (b, (x.1, frameOf 26 [4] x.2.1, x.2.2)))
noncomputable def u46l0 (x0 : Int) (x1 x2 : List ByteArray) (p : Nat) : Option (Fin' × List Value × St) := alts ([((Nat.beq p 0), .ret, [.bool false], ⟨[⟨true, (some (.strs x1))⟩, ⟨true, (some (.strs x2))⟩], 2, []⟩), ((Nat.beq p 1), .exit 0, [anyV], ⟨[⟨true, (some (.strs x1))⟩, ⟨true, (some (.strs x2))⟩], 2, []⟩)].map fun (b, x) => (b, (x.1, frameOf 26 [4] x.2.1, x.2.2))) some
theorem v46l0 (x0 : Int) (x1 x2 : List ByteArray) (p : Nat) : u46l0 x0 x1 x2 p = a46l0 x0 x1 x2 p := alts_first _
noncomputable def q46l0 (m : Nat) : SumK := fun vals s =>
 match vals, s.h with
 | [.iface f0 .nilIface, .iface f1 .nilIface, .int .i64 x0], [⟨true, some (.strs x1)⟩, ⟨true, some (.strs x2)⟩] => if f0 = 0 ∧ f1 = 1 then [((Nat.beq (r46l0 m x0 x1 x2) 0), .ret, [.bool false], ⟨[⟨true, (some (.strs x1))⟩, ⟨true, (some (.strs x2))⟩], 2, []⟩), ((Nat.beq (r46l0 m x0 x1 x2) 1), .exit 0, [anyV], ⟨[⟨true, (some (.strs x1))⟩, ⟨true, (some (.strs x2))⟩], 2, []⟩)] else noQ vals s
 | _, _ => noQ vals s
noncomputable def w46l0 (ih : Int → List ByteArray → List ByteArray → Nat) (x0 : Int) (x1 x2 : List ByteArray) : Option (Fin' × List Value × St) :=
 (cond (decide ((x0 : Int) < ((x1.length : Nat) : Int)))
 (cond ((decide ((0 : Int) ≤ x0)) && (Nat.blt (Int.toNat x0) x1.length))
  (cond (Nat.blt (Int.toNat x0) x1.length)
   (cond ((decide ((0 : Int) ≤ x0)) && (Nat.blt (Int.toNat x0) x2.length))
    (cond (Nat.blt (Int.toNat x0) x2.length)
     (cond (!((x1.getD (Int.toNat x0) .empty).toList == (x2.getD (Int.toNat x0) .empty).toList))
      (a46l0 x0 x1 x2 (0))
      (u46l0 x0 x1 x2 (ih (IntKind.i64.wrap (x0 + 1)) x1 x2)))
     none)
    none)
   none)
  none)
 (a46l0 x0 x1 x2 (1)))
set_option maxRecDepth 100000 in
set_option maxHeartbeats 4000000 in
theorem e46l0 (m : Nat) (x0 : Int) (x1 x2 : List ByteArray) : evC Try.prog ext T42 noL 200 (loopN Try.f46 0) (loopTail ([0, 1, 5], []) [4] [] (sumK 26 [0, 1, 5] [4] (q46l0 m))) (frameOf 26 [0, 1, 5] [wsl 0, wsl 1, .int .i64 x0]) ⟨[⟨true, (some (.strs x1))⟩, ⟨true, (some (.strs x2))⟩], 2, []⟩ = firstT ([((Nat.beq (r46l0 (m + 1) x0 x1 x2) 0), .ret, [.bool false], ⟨[⟨true, (some (.strs x1))⟩, ⟨true, (some (.strs x2))⟩], 2, []⟩), ((Nat.beq (r46l0 (m + 1) x0 x1 x2) 1), .exit 0, [anyV], ⟨[⟨true, (some (.strs x1))⟩, ⟨true, (some (.strs x2))⟩], 2, []⟩)].map fun (b, x) => (b, (x.1, frameOf 26 [4] x.2.1, x.2.2))) :=
 (show evC Try.prog ext T42 noL 200 (loopN Try.f46 0) (loopTail ([0, 1, 5], []) [4] [] (sumK 26 [0, 1, 5] [4] (q46l0 m))) (frameOf 26 [0, 1, 5] [wsl 0, wsl 1, .int .i64 x0]) ⟨[⟨true, (some (.strs x1))⟩, ⟨true, (some (.strs x2))⟩], 2, []⟩ = w46l0 (r46l0 m) x0 x1 x2 from by kernel_rfl).trans
 (show w46l0 (r46l0 m) x0 x1 x2 = a46l0 x0 x1 x2 (r46l0 (m + 1) x0 x1 x2) from (cond_both (a46l0 x0 x1 x2) _ (fun h0 => (cond_both (a46l0 x0 x1 x2) _ (fun h1 => (cond_t (ev_and2 h1) (cond_both (a46l0 x0 x1 x2) _ (fun h2 => (cond_t (ev_and2 h2) (cond_app (a46l0 x0 x1 x2) _ rfl (v46l0 x0 x1 x2 ((r46l0 m) (IntKind.i64.wrap (x0 + 1)) x1 x2))))) (fun h2 => rfl)))) (fun h1 => rfl))) (fun h0 => rfl)))
set_option maxRecDepth 100000 in
set_option maxHeartbeats 4000000 in
theorem qm46l0 : ∀ m, SumKOk Try.prog (loopN Try.f46 0) 26 [0, 1, 5] [4] (q46l0 m) := by
  intro m
  induction m with
  | zero =>
    intro vals s x h1 h2 h3
    unfold q46l0 at h3; split at h3
    · rename_i h; split at h3
      · rename_i hc; obtain ⟨rfl, rfl⟩ := hc; exact absurd h3 (by simp [r46l0, firstT, Nat.beq])
      · exact noQ_ok _ _ _ h1 h2 h3
    · exact noQ_ok _ _ _ h1 h2 h3
  | succ m ih =>
    intro vals s x h1 h2 h3
    unfold q46l0 at h3; split at h3
    · rename_i h; split at h3
      · rename_i hc; obtain ⟨rfl, rfl⟩ := hc; exact sum_step ok42 extOk mixed ((lfOkF_no _ _).inner (by kernel_rfl)) ih h1 h2 h (e46l0 m _ _ _) rfl h3
      · exact noQ_ok _ _ _ h1 h2 h3
    · exact noQ_ok _ _ _ h1 h2 h3
noncomputable def Q46l0 : SumK := fun vals s => q46l0 (fuelOf vals s.h) vals s
theorem qok46l0 : SumKOk Try.prog (loopN Try.f46 0) 26 [0, 1, 5] [4] Q46l0 := fuel_ok qm46l0 fuelOf
noncomputable def L46_1 : LoopT := addL noL 5 ([0, 1, 5], []) (sumK 26 [0, 1, 5] [4] Q46l0)
theorem lok46_1 : LfOkF Try.prog L46_1 Try.f46 := lfOkF_add (lfOkF_no _ _) qok46l0 (by kernel_rfl) (by kernel_rfl) (by kernel_rfl)

/-- laws.eqStringS -/
noncomputable def r46 (x0 x1 : List ByteArray) : Nat × Bool :=
 cond ((((x0.length : Nat) : Int) : Int) != ((x1.length : Nat) : Int))
  (0, false)
  (cond (Nat.beq (r46l0 (1000 + x1.length + x0.length) 0 x0 x1) 0)
   (0, false)
   (cond (Nat.beq (r46l0 (1000 + x1.length + x0.length) 0 x0 x1) 1)
    (0, true)
    (1, false)))
noncomputable def a46 (x0 x1 : List ByteArray) (p : Nat × Bool) : Res := firstT [((Nat.beq (p.1) 0), .bool (p.2), ⟨[⟨true, (some (.strs x0))⟩, ⟨true, (some (.strs x1))⟩], 2, []⟩)]
noncomputable def w46 (x0 x1 : List ByteArray) : Res :=
 (cond ((((x0.length : Nat) : Int) : Int) != ((x1.length : Nat) : Int))
 (a46 x0 x1 (0, false))
 (cond (Nat.beq (r46l0 (1000 + x1.length + x0.length) 0 x0 x1) 0)
  (a46 x0 x1 (0, false))
  (cond (Nat.beq (r46l0 (1000 + x1.length + x0.length) 0 x0 x1) 1)
   (a46 x0 x1 (0, true))
   none)))
set_option maxRecDepth 100000 in
set_option maxHeartbeats 4000000 in
theorem e46 (x0 x1 : List ByteArray) : evFn Try.prog ext T42 L46_1 200 Try.f46 [wsl 0, wsl 1] ⟨[⟨true, (some (.strs x0))⟩, ⟨true, (some (.strs x1))⟩], 2, []⟩ = firstT [((Nat.beq ((r46 x0 x1).1) 0), .bool ((r46 x0 x1).2), ⟨[⟨true, (some (.strs x0))⟩, ⟨true, (some (.strs x1))⟩], 2, []⟩)] :=
 (show evFn Try.prog ext T42 L46_1 200 Try.f46 [wsl 0, wsl 1] ⟨[⟨true, (some (.strs x0))⟩, ⟨true, (some (.strs x1))⟩], 2, []⟩ = w46 x0 x1 from by kernel_rfl).trans
 (show w46 x0 x1 = a46 x0 x1 (r46 x0 x1) from (cond_app (a46 x0 x1) _ rfl (cond_app (a46 x0 x1) _ rfl (cond_app (a46 x0 x1) _ rfl rfl))))
noncomputable def s46 (args : List Value) (s : St) : List (Bool × Value × St) :=
 match args, s.h with
 | [.iface f0 .nilIface, .iface f1 .nilIface], [⟨true, some (.strs x0)⟩, ⟨true, some (.strs x1)⟩] => if f0 = 0 ∧ f1 = 1 then [((Nat.beq ((r46 x0 x1).1) 0), .bool ((r46 x0 x1).2), ⟨[⟨true, (some (.strs x0))⟩, ⟨true, (some (.strs x1))⟩], 2, []⟩)] else T42 46 args s
 | _, _ => T42 46 args s
noncomputable def T43 : CallF := addF T42 46 s46
set_option maxRecDepth 100000 in
set_option maxHeartbeats 4000000 in
theorem ok43 : CfOk Try.prog T43 := by
  refine cfOk_add ok42 fun args s r s' h1 h2 h3 => ?_
  unfold s46 at h3; split at h3
  · rename_i h; split at h3
    · rename_i hc; obtain ⟨rfl, rfl⟩ := hc; exact callOk ok42 Try.func46 h1 h2 h lok46_1.body (e46 _ _) rfl h3
    · exact ok42 _ _ _ _ _ h1 h2 h3
  · exact ok42 _ _ _ _ _ h1 h2 h3

/-- laws.eqOp -/
noncomputable def r74 (x0 x1 : Int) (x2 : Nat) (x3 x4 : Int) (x5 : Nat) : Bool :=
 cond ((x0 : Int) != x3)
  (false)
  (cond ((x1 : Int) != x4)
   (false)
   (cond (!(r20 (widen x2) (widen x5)))
    (false)
    (true)))
noncomputable def a74 (x0 x1 : Int) (x2 : Nat) (x3 x4 : Int) (x5 : Nat) (p : Bool) : Res := firstT [(true, .bool p, st0)]
noncomputable def w74 (x0 x1 : Int) (x2 : Nat) (x3 x4 : Int) (x5 : Nat) : Res :=
 (cond ((x0 : Int) != x3)
 (a74 x0 x1 x2 x3 x4 x5 (false))
 (cond ((x1 : Int) != x4)
  (a74 x0 x1 x2 x3 x4 x5 (false))
  (cond (!(r20 (widen x2) (widen x5)))
   (a74 x0 x1 x2 x3 x4 x5 (false))
   (a74 x0 x1 x2 x3 x4 x5 (true)))))
set_option maxRecDepth 100000 in
set_option maxHeartbeats 4000000 in
theorem e74 (x0 x1 : Int) (x2 : Nat) (x3 x4 : Int) (x5 : Nat) : evFn Try.prog ext T43 noL 200 Try.f74 [.agg #[.int .i8 x0, .int .i16 x1, .float .f32 x2], .agg #[.int .i8 x3, .int .i16 x4, .float .f32 x5]] st0 = firstT [(true, .bool (r74 x0 x1 x2 x3 x4 x5), st0)] :=
 (show evFn Try.prog ext T43 noL 200 Try.f74 [.agg #[.int .i8 x0, .int .i16 x1, .float .f32 x2], .agg #[.int .i8 x3, .int .i16 x4, .float .f32 x5]] st0 = w74 x0 x1 x2 x3 x4 x5 from by kernel_rfl).trans
 (show w74 x0 x1 x2 x3 x4 x5 = a74 x0 x1 x2 x3 x4 x5 (r74 x0 x1 x2 x3 x4 x5) from (cond_app (a74 x0 x1 x2 x3 x4 x5) _ rfl (cond_app (a74 x0 x1 x2 x3 x4 x5) _ rfl (cond_app (a74 x0 x1 x2 x3 x4 x5) _ rfl rfl))))
noncomputable def s74 (args : List Value) (s : St) : List (Bool × Value × St) :=
 match args, s.h with
 | [.agg ⟨[.int .i8 x0, .int .i16 x1, .float .f32 x2]⟩, .agg ⟨[.int .i8 x3, .int .i16 x4, .float .f32 x5]⟩], [] => [(true, .bool (r74 x0 x1 x2 x3 x4 x5), st0)]
 | _, _ => T43 74 args s
noncomputable def T44 : CallF := addF T43 74 s74
set_option maxRecDepth 100000 in
set_option maxHeartbeats 4000000 in
theorem ok44 : CfOk Try.prog T44 := by
  refine cfOk_add ok43 fun args s r s' h1 h2 h3 => ?_
  unfold s74 at h3; split at h3
  · rename_i h; exact callOk ok43 Try.func74 h1 h2 h (lfOkF_no _ _).body (e74 _ _ _ _ _ _) rfl h3
  · exact ok43 _ _ _ _ _ h1 h2 h3

/-- laws.eqOpS, loop 0: one round -/
noncomputable def b47l0 (ih : Int → List (List Int) → List (List Int) → Nat) (x0 : Int) (x1 x2 : List (List Int)) : Nat :=
 let c69 := (r74 ((x1.getD (Int.toNat x0) []).getD 0 0) ((x1.getD (Int.toNat x0) []).getD 1 0) (Int.toNat ((x1.getD (Int.toNat x0) []).getD 2 0)) ((x2.getD (Int.toNat x0) []).getD 0 0) ((x2.getD (Int.toNat x0) []).getD 1 0) (Int.toNat ((x2.getD (Int.toNat x0) []).getD 2 0)))
 cond (decide ((x0 : Int) < ((x1.length : Nat) : Int)))
  (cond ((decide ((0 : Int) ≤ x0)) && (Nat.blt (Int.toNat x0) x1.length))
   (cond ((decide ((0 : Int) ≤ x0)) && (Nat.blt (Int.toNat x0) x2.length))
    (cond (!c69)
     (0)
     (ih (IntKind.i64.wrap (x0 + 1)) x1 x2))
    (2))
   (2))
  (1)
noncomputable def r47l0 : Nat → Int → List (List Int) → List (List Int) → Nat
 | 0, _, _, _ => (2)
 | m + 1, x0, x1, x2 => b47l0 (r47l0 m) x0 x1 x2
noncomputable def a47l0 (x0 : Int) (x1 x2 : List (List Int)) (p : Nat) : Option (Fin' × List Value × St) := firstT ([((Nat.beq p 0), .ret, [.bool false], ⟨[⟨true, (some (.tab [.int .i8, .int .i16, .fl .f32] x1))⟩, ⟨true, (some (.tab [.int .i8, .int .i16, .fl .f32] x2))⟩], 2, []⟩), ((Nat.beq p 1), .exit 0, [anyV], ⟨[⟨true, (some (.tab [.int .i8, .int .i16, .fl .f32] x1))⟩, ⟨true, (some (.tab [.int .i8, .int .i16, .fl .f32] x2))⟩], 2, []⟩)].map fun (b, x) => (b, (x.1, frameOf 27 [4] x.2.1, x.2.2)))
noncomputable def u47l0 (x0 : Int) (x1 x2 : List (List Int)) (p : Nat) : Option (Fin' × List Value × St) := alts ([((Nat.beq p 0), .ret, [.bool false], ⟨[⟨true, (some (.tab [.int .i8, .int .i16, .fl .f32] x1))⟩, ⟨true, (some (.tab [.int .i8, .int .i16, .fl .f32] x2))⟩], 2, []⟩), ((Nat.beq p 1), .exit 0, [anyV], ⟨[⟨true, (some (.tab [.int .i8, .int .i16, .fl .f32] x1))⟩, ⟨true, (some (.tab [.int .i8, .int .i16, .fl .f32] x2))⟩], 2, []⟩)].map fun (b, x) => (b, (x.1, frameOf 27 [4] x.2.1, x.2.2))) some
theorem v47l0 (x0 : Int) (x1 x2 : List (List Int)) (p : Nat) : u47l0 x0 x1 x2 p = a47l0 x0 x1 x2 p := alts_first _
noncomputable def q47l0 (m : Nat) : SumK := fun vals s =>
 match vals, s.h with
 | [.iface f0 .nilIface, .iface f1 .nilIface, .int .i64 x0], [⟨true, some (.tab [.int .i8, .int .i16, .fl .f32] x1)⟩, ⟨true, some (.tab [.int .i8, .int .i16, .fl .f32] x2)⟩] => if f0 = 0 ∧ f1 = 1 then [((Nat.beq (r47l0 m x0 x1 x2) 0), .ret, [.bool false], ⟨[⟨true, (some (.tab [.int .i8, .int .i16, .fl .f32] x1))⟩, ⟨true, (some (.tab [.int .i8, .int .i16, .fl .f32] x2))⟩], 2, []⟩), ((Nat.beq (r47l0 m x0 x1 x2) 1), .exit 0, [anyV], ⟨[⟨true, (some (.tab [.int .i8, .int .i16, .fl .f32] x1))⟩, ⟨true, (some (.tab [.int .i8, .int .i16, .fl .f32] x2))⟩], 2, []⟩)] else noQ vals s
 | _, _ => noQ vals s
noncomputable def w47l0 (ih : Int → List (List Int) → List (List Int) → Nat) (x0 : Int) (x1 x2 : List (List Int)) : Option (Fin' × List Value × St) :=
 let c69 := (r74 ((x1.getD (Int.toNat x0) []).getD 0 0) ((x1.getD (Int.toNat x0) []).getD 1 0) (Int.toNat ((x1.getD (Int.toNat x0) []).getD 2 0)) ((x2.getD (Int.toNat x0) []).getD 0 0) ((x2.getD (Int.toNat x0) []).getD 1 0) (Int.toNat ((x2.getD (Int.toNat x0) []).getD 2 0)))
 (cond (decide ((x0 : Int) < ((x1.length : Nat) : Int)))
 (cond ((decide ((0 : Int) ≤ x0)) && (Nat.blt (Int.toNat x0) x1.length))
  (cond (Nat.blt (Int.toNat x0) x1.length)
   (cond ((decide ((0 : Int) ≤ x0)) && (Nat.blt (Int.toNat x0) x2.length))
    (cond (Nat.blt (Int.toNat x0) x2.length)
     (cond (!c69)
      (a47l0 x0 x1 x2 (0))
      (u47l0 x0 x1 x2 (ih (IntKind.i64.wrap (x0 + 1)) x1 x2)))
     none)
    none)
   none)
  none)
 (a47l0 x0 x1 x2 (1)))
set_option maxRecDepth 100000 in
set_option maxHeartbeats 4000000 in
theorem e47l0 (m : Nat) (x0 : Int) (x1 x2 : List (List Int)) : evC Try.prog ext T44 noL 200 (loopN Try.f47 0) (loopTail ([0, 1, 5], []) [4] [] (sumK 27 [0, 1, 5] [4] (q47l0 m))) (frameOf 27 [0, 1, 5] [wsl 0, wsl 1, .int .i64 x0]) ⟨[⟨true, (some (.tab [.int .i8, .int .i16, .fl .f32] x1))⟩, ⟨true, (some (.tab [.int .i8, .int .i16, .fl .f32] x2))⟩], 2, []⟩ = firstT ([((Nat.beq (r47l0 (m + 1) x0 x1 x2) 0), .ret, [.bool false], ⟨[⟨true, (some (.tab [.int .i8, .int .i16, .fl .f32] x1))⟩, ⟨true, (some (.tab [.int .i8, .int .i16, .fl .f32] x2))⟩], 2, []⟩), ((Nat.beq (r47l0 (m + 1) x0 x1 x2) 1), .exit 0, [anyV], ⟨[⟨true, (some (.tab [.int .i8, .int .i16, .fl .f32] x1))⟩, ⟨true, (some (.tab [.int .i8, .int .i16, .fl .f32] x2))⟩], 2, []⟩)].map fun (b, x) => (b, (x.1, frameOf 27 [4] x.2.1, x.2.2))) :=
 (show evC Try.prog ext T44 noL 200 (loopN Try.f47 0) (loopTail ([0, 1, 5], []) [4] [] (sumK 27 [0, 1, 5] [4] (q47l0 m))) (frameOf 27 [0, 1, 5] [wsl 0, wsl 1, .int .i64 x0]) ⟨[⟨true, (some (.tab [.int .i8, .int .i16, .fl .f32] x1))⟩, ⟨true, (some (.tab [.int .i8, .int .i16, .fl .f32] x2))⟩], 2, []⟩ = w47l0 (r47l0 m) x0 x1 x2 from by kernel_rfl).trans
 (show w47l0 (r47l0 m) x0 x1 x2 = a47l0 x0 x1 x2 (r47l0 (m + 1) x0 x1 x2) from (cond_both (a47l0 x0 x1 x2) _ (fun h0 => (cond_both (a47l0 x0 x1 x2) _ (fun h1 => (cond_t (ev_and2 h1) (cond_both (a47l0 x0 x1 x2) _ (fun h2 => (cond_t (ev_and2 h2) (cond_app (a47l0 x0 x1 x2) _ rfl (v47l0 x0 x1 x2 ((r47l0 m) (IntKind.i64.wrap (x0 + 1)) x1 x2))))) (fun h2 => rfl)))) (fun h1 => rfl))) (fun h0 => rfl)))
set_option maxRecDepth 100000 in
set_option maxHeartbeats 4000000 in
theorem qm47l0 : ∀ m, SumKOk Try.prog (loopN Try.f47 0) 27 [0, 1, 5] [4] (q47l0 m) := by
  intro m
  induction m with
  | zero =>
    intro vals s x h1 h2 h3
    unfold q47l0 at h3; split at h3
    · rename_i h; split at h3
      · rename_i hc; obtain ⟨rfl, rfl⟩ := hc; exact absurd h3 (by simp [r47l0, firstT, Nat.beq])
      · exact noQ_ok _ _ _ h1 h2 h3
    · exact noQ_ok _ _ _ h1 h2 h3
  | succ m ih =>
    intro vals s x h1 h2 h3
    unfold q47l0 at h3; split at h3
    · rename_i h; split at h3
      · rename_i hc; obtain ⟨rfl, rfl⟩ := hc; exact sum_step ok44 extOk mixed ((lfOkF_no _ _).inner (by kernel_rfl)) ih h1 h2 h (e47l0 m _ _ _) rfl h3
      · exact noQ_ok _ _ _ h1 h2 h3
    · exact noQ_ok _ _ _ h1 h2 h3
noncomputable def Q47l0 : SumK := fun vals s => q47l0 (fuelOf vals s.h) vals s
theorem qok47l0 : SumKOk Try.prog (loopN Try.f47 0) 27 [0, 1, 5] [4] Q47l0 := fuel_ok qm47l0 fuelOf
noncomputable def L47_1 : LoopT := addL noL 5 ([0, 1, 5], []) (sumK 27 [0, 1, 5] [4] Q47l0)
theorem lok47_1 : LfOkF Try.prog L47_1 Try.f47 := lfOkF_add (lfOkF_no _ _) qok47l0 (by kernel_rfl) (by kernel_rfl) (by kernel_rfl)

/-- laws.eqOpS -/
noncomputable def r47 (x0 x1 : List (List Int)) : Nat × Bool :=
 cond ((((x0.length : Nat) : Int) : Int) != ((x1.length : Nat) : Int))
  (0, false)
  (cond (Nat.beq (r47l0 (1000 + x1.length + x0.length) 0 x0 x1) 0)
   (0, false)
   (cond (Nat.beq (r47l0 (1000 + x1.length + x0.length) 0 x0 x1) 1)
    (0, true)
    (1, false)))
noncomputable def a47 (x0 x1 : List (List Int)) (p : Nat × Bool) : Res := firstT [((Nat.beq (p.1) 0), .bool (p.2), ⟨[⟨true, (some (.tab [.int .i8, .int .i16, .fl .f32] x0))⟩, ⟨true, (some (.tab [.int .i8, .int .i16, .fl .f32] x1))⟩], 2, []⟩)]
noncomputable def w47 (x0 x1 : List (List Int)) : Res :=
 (cond ((((x0.length : Nat) : Int) : Int) != ((x1.length : Nat) : Int))
 (a47 x0 x1 (0, false))
 (cond (Nat.beq (r47l0 (1000 + x1.length + x0.length) 0 x0 x1) 0)
  (a47 x0 x1 (0, false))
  (cond (Nat.beq (r47l0 (1000 + x1.length + x0.length) 0 x0 x1) 1)
   (a47 x0 x1 (0, true))
   none)))
set_option maxRecDepth 100000 in
set_option maxHeartbeats 4000000 in
theorem e47 (x0 x1 : List (List Int)) : evFn Try.prog ext T44 L47_1 200 Try.f47 [wsl 0, wsl 1] ⟨[⟨true, (some (.tab [.int .i8, .int .i16, .fl .f32] x0))⟩, ⟨true, (some (.tab [.int .i8, .int .i16, .fl .f32] x1))⟩], 2, []⟩ = firstT [((Nat.beq ((r47 x0 x1).1) 0), .bool ((r47 x0 x1).2), ⟨[⟨true, (some (.tab [.int .i8, .int .i16, .fl .f32] x0))⟩, ⟨true, (some (.tab [.int .i8, .int .i16, .fl .f32] x1))⟩], 2, []⟩)] :=
 (show evFn Try.prog ext T44 L47_1 200 Try.f47 [wsl 0, wsl 1] ⟨[⟨true, (some (.tab [.int .i8, .int .i16, .fl .f32] x0))⟩, ⟨true, (some (.tab [.int .i8, .int .i16, .fl .f32] x1))⟩], 2, []⟩ = w47 x0 x1 from by kernel_rfl).trans
 (show w47 x0 x1 = a47 x0 x1 (r47 x0 x1) from (cond_app (a47 x0 x1) _ rfl (cond_app (a47 x0 x1) _ rfl (cond_app (a47 x0 x1) _ rfl rfl))))
noncomputable def s47 (args : List Value) (s : St) : List (Bool × Value × St) :=
 match args, s.h with
 | [.iface f0 .nilIface, .iface f1 .nilIface], [⟨true, some (.tab [.int .i8, .int .i16, .fl .f32] x0)⟩, ⟨true, some (.tab [.int .i8, .int .i16, .fl .f32] x1)⟩] => if f0 = 0 ∧ f1 = 1 then [((Nat.beq ((r47 x0 x1).1) 0), .bool ((r47 x0 x1).2), ⟨[⟨true, (some (.tab [.int .i8, .int .i16, .fl .f32] x0))⟩, ⟨true, (some (.tab [.int .i8, .int .i16, .fl .f32] x1))⟩], 2, []⟩)] else T44 47 args s
 | _, _ => T44 47 args s
noncomputable def T45 : CallF := addF T44 47 s47
set_option maxRecDepth 100000 in
set_option maxHeartbeats 4000000 in
theorem ok45 : CfOk Try.prog T45 := by
  refine cfOk_add ok44 fun args s r s' h1 h2 h3 => ?_
  unfold s47 at h3; split at h3
  · rename_i h; split at h3
    · rename_i hc; obtain ⟨rfl, rfl⟩ := hc; exact callOk ok44 Try.func47 h1 h2 h lok47_1.body (e47 _ _) rfl h3
    · exact ok44 _ _ _ _ _ h1 h2 h3
  · exact ok44 _ _ _ _ _ h1 h2 h3

/-- laws.eqProgram -/
noncomputable def r14 (x0 : List ByteArray) (x1 : List (List Int)) (x2 : List ByteArray) (x3 : List (List Int)) : Nat × Bool :=
 cond (Nat.beq ((r46 x0 x2).1) 0)
  (cond (!((r46 x0 x2).2))
   (0, false)
   (cond (Nat.beq ((r47 x1 x3).1) 0)
    (cond (!((r47 x1 x3).2))
     (0, false)
     (0, true))
    (1, false)))
  (1, false)
noncomputable def a14 (x0 : List ByteArray) (x1 : List (List Int)) (x2 : List ByteArray) (x3 : List (List Int)) (p : Nat × Bool) : Res := firstT [((Nat.beq (p.1) 0), .bool (p.2), ⟨[⟨true, (some (.strs x0))⟩, ⟨true, (some (.tab [.int .i8, .int .i16, .fl .f32] x1))⟩, ⟨true, (some (.strs x2))⟩, ⟨true, (some (.tab [.int .i8, .int .i16, .fl .f32] x3))⟩], 4, []⟩)]
noncomputable def w14 (x0 : List ByteArray) (x1 : List (List Int)) (x2 : List ByteArray) (x3 : List (List Int)) : Res :=
 (cond (Nat.beq ((r46 x0 x2).1) 0)
 (cond (!((r46 x0 x2).2))
  (a14 x0 x1 x2 x3 (0, false))
  (cond (Nat.beq ((r47 x1 x3).1) 0)
   (cond (!((r47 x1 x3).2))
    (a14 x0 x1 x2 x3 (0, false))
    (a14 x0 x1 x2 x3 (0, true)))
   none))
 none)
set_option maxRecDepth 100000 in
set_option maxHeartbeats 4000000 in
theorem e14 (x0 : List ByteArray) (x1 : List (List Int)) (x2 : List ByteArray) (x3 : List (List Int)) : evFn Try.prog ext T45 noL 200 Try.f14 [.agg #[wsl 0, wsl 1], .agg #[wsl 2, wsl 3]] ⟨[⟨true, (some (.strs x0))⟩, ⟨true, (some (.tab [.int .i8, .int .i16, .fl .f32] x1))⟩, ⟨true, (some (.strs x2))⟩, ⟨true, (some (.tab [.int .i8, .int .i16, .fl .f32] x3))⟩], 4, []⟩ = firstT [((Nat.beq ((r14 x0 x1 x2 x3).1) 0), .bool ((r14 x0 x1 x2 x3).2), ⟨[⟨true, (some (.strs x0))⟩, ⟨true, (some (.tab [.int .i8, .int .i16, .fl .f32] x1))⟩, ⟨true, (some (.strs x2))⟩, ⟨true, (some (.tab [.int .i8, .int .i16, .fl .f32] x3))⟩], 4, []⟩)] :=
 (show evFn Try.prog ext T45 noL 200 Try.f14 [.agg #[wsl 0, wsl 1], .agg #[wsl 2, wsl 3]] ⟨[⟨true, (some (.strs x0))⟩, ⟨true, (some (.tab [.int .i8, .int .i16, .fl .f32] x1))⟩, ⟨true, (some (.strs x2))⟩, ⟨true, (some (.tab [.int .i8, .int .i16, .fl .f32] x3))⟩], 4, []⟩ = w14 x0 x1 x2 x3 from by kernel_rfl).trans
 (show w14 x0 x1 x2 x3 = a14 x0 x1 x2 x3 (r14 x0 x1 x2 x3) from (cond_app (a14 x0 x1 x2 x3) _ (cond_app (a14 x0 x1 x2 x3) _ rfl (cond_app (a14 x0 x1 x2 x3) _ (cond_app (a14 x0 x1 x2 x3) _ rfl rfl) rfl)) rfl))
noncomputable def s14 (args : List Value) (s : St) : List (Bool × Value × St) :=
 match args, s.h with
 | [.agg ⟨[.iface f0 .nilIface, .iface f1 .nilIface]⟩, .agg ⟨[.iface f2 .nilIface, .iface f3 .nilIface]⟩], [⟨true, some (.strs x0)⟩, ⟨true, some (.tab [.int .i8, .int .i16, .fl .f32] x1)⟩, ⟨true, some (.strs x2)⟩, ⟨true, some (.tab [.int .i8, .int .i16, .fl .f32] x3)⟩] => if f0 = 0 ∧ f1 = 1 ∧ f2 = 2 ∧ f3 = 3 then [((Nat.beq ((r14 x0 x1 x2 x3).1) 0), .bool ((r14 x0 x1 x2 x3).2), ⟨[⟨true, (some (.strs x0))⟩, ⟨true, (some (.tab [.int .i8, .int .i16, .fl .f32] x1))⟩, ⟨true, (some (.strs x2))⟩, ⟨true, (some (.tab [.int .i8, .int .i16, .fl .f32] x3))⟩], 4, []⟩)] else T45 14 args s
 | _, _ => T45 14 args s
noncomputable def T46 : CallF := addF T45 14 s14
set_option maxRecDepth 100000 in
set_option maxHeartbeats 4000000 in
theorem ok46 : CfOk Try.prog T46 := by
  refine cfOk_add ok45 fun args s r s' h1 h2 h3 => ?_
  unfold s14 at h3; split at h3
  · rename_i h; split at h3
    · rename_i hc; obtain ⟨rfl, rfl, rfl, rfl⟩ := hc; exact callOk ok45 Try.func14 h1 h2 h (lfOkF_no _ _).body (e14 _ _ _ _) rfl h3
    · exact ok45 _ _ _ _ _ h1 h2 h3
  · exact ok45 _ _ _ _ _ h1 h2 h3

/-- laws.FnExactValueIn -/
noncomputable def r5 (x0 x1 x2 x3 : Nat) (x4 : ByteArray) (x5 : List ByteArray) (x6 : List (List Int)) : Nat × Bool :=
 let c52 := (r20 (widen ((r19 x0 x1 x2 x3 x4 ((r12 x5 x6).2.1) ((r12 x5 x6).2.2)).2.1)) (widen ((r17 x0 x1 x2 x3 x4 ((r12 x5 x6).2.1) ((r12 x5 x6).2.2)).2.1)))
 cond (decide (((((x4.size) : Nat) : Int) : Int) > 1048576))
  (0, true)
  (cond (Nat.beq ((r10 1048576 x5 x6).1) 0)
   (cond (decide ((((r10 1048576 x5 x6).2) : Int) < 0))
    (0, true)
    (cond (Nat.beq ((r12 x5 x6).1) 0)
     (cond (Nat.beq ((r17 x0 x1 x2 x3 x4 ((r12 x5 x6).2.1) ((r12 x5 x6).2.2)).1) 0)
      (cond (Nat.beq ((r19 x0 x1 x2 x3 x4 ((r12 x5 x6).2.1) ((r12 x5 x6).2.2)).1) 0)
       (cond (!c52)
        (0, false)
        (cond ((((r19 x0 x1 x2 x3 x4 ((r12 x5 x6).2.1) ((r12 x5 x6).2.2)).2.2) : Int) != ((r17 x0 x1 x2 x3 x4 ((r12 x5 x6).2.1) ((r12 x5 x6).2.2)).2.2))
         (0, false)
         (cond (Nat.beq ((r14 ((r12 x5 x6).2.1) ((r12 x5 x6).2.2) ((r12 x5 x6).2.1) ((r12 x5 x6).2.2)).1) 0)
          (cond (!((r14 ((r12 x5 x6).2.1) ((r12 x5 x6).2.2) ((r12 x5 x6).2.1) ((r12 x5 x6).2.2)).2))
           (0, false)
           (0, true))
          (1, false))))
       (1, false))
      (1, false))
     (1, false)))
   (1, false))
noncomputable def a5 (x0 x1 x2 x3 : Nat) (x4 : ByteArray) (x5 : List ByteArray) (x6 : List (List Int)) (p : Nat × Bool) : Res := firstT [((Nat.beq (p.1) 0), .bool (p.2), ⟨[⟨false, (some (.strs x5))⟩, ⟨false, (some (.tab [.int .i8, .int .i16, .fl .f32] x6))⟩], 2, []⟩)]
noncomputable def w5 (x0 x1 x2 x3 : Nat) (x4 : ByteArray) (x5 : List ByteArray) (x6 : List (List Int)) : Res :=
 let c52 := (r20 (widen ((r19 x0 x1 x2 x3 x4 ((r12 x5 x6).2.1) ((r12 x5 x6).2.2)).2.1)) (widen ((r17 x0 x1 x2 x3 x4 ((r12 x5 x6).2.1) ((r12 x5 x6).2.2)).2.1)))
 (cond (decide (((((x4.size) : Nat) : Int) : Int) > 1048576))
 (a5 x0 x1 x2 x3 x4 x5 x6 (0, true))
 (cond (Nat.beq ((r10 1048576 x5 x6).1) 0)
  (cond (decide ((((r10 1048576 x5 x6).2) : Int) < 0))
   (a5 x0 x1 x2 x3 x4 x5 x6 (0, true))
   (cond (Nat.beq ((r12 x5 x6).1) 0)
    (cond (Nat.beq ((r17 x0 x1 x2 x3 x4 ((r12 x5 x6).2.1) ((r12 x5 x6).2.2)).1) 0)
     (cond (Nat.beq ((r12 x5 x6).1) 0)
      (cond (Nat.beq ((r19 x0 x1 x2 x3 x4 ((r12 x5 x6).2.1) ((r12 x5 x6).2.2)).1) 0)
       (cond (!c52)
        (a5 x0 x1 x2 x3 x4 x5 x6 (0, false))
        (cond ((((r19 x0 x1 x2 x3 x4 ((r12 x5 x6).2.1) ((r12 x5 x6).2.2)).2.2) : Int) != ((r17 x0 x1 x2 x3 x4 ((r12 x5 x6).2.1) ((r12 x5 x6).2.2)).2.2))
         (a5 x0 x1 x2 x3 x4 x5 x6 (0, false))
         (cond (Nat.beq ((r12 x5 x6).1) 0)
          (cond (Nat.beq ((r14 ((r12 x5 x6).2.1) ((r12 x5 x6).2.2) ((r12 x5 x6).2.1) ((r12 x5 x6).2.2)).1) 0)
           (cond (!((r14 ((r12 x5 x6).2.1) ((r12 x5 x6).2.2) ((r12 x5 x6).2.1) ((r12 x5 x6).2.2)).2))
            (a5 x0 x1 x2 x3 x4 x5 x6 (0, false))
            (a5 x0 x1 x2 x3 x4 x5 x6 (0, true)))
           none)
          none)))
       none)
      none)
     none)
    none))
  none))
set_option maxRecDepth 100000 in
set_option maxHeartbeats 4000000 in
theorem e5 (x0 x1 x2 x3 : Nat) (x4 : ByteArray) (x5 : List ByteArray) (x6 : List (List Int)) : evFn Try.prog ext T46 noL 200 Try.f5 [.agg #[wsl 0, wsl 1], .agg #[.float .f32 x0, .float .f32 x1, .float .f32 x2, .float .f32 x3], .string x4] ⟨[⟨false, (some (.strs x5))⟩, ⟨false, (some (.tab [.int .i8, .int .i16, .fl .f32] x6))⟩], 2, []⟩ = firstT [((Nat.beq ((r5 x0 x1 x2 x3 x4 x5 x6).1) 0), .bool ((r5 x0 x1 x2 x3 x4 x5 x6).2), ⟨[⟨false, (some (.strs x5))⟩, ⟨false, (some (.tab [.int .i8, .int .i16, .fl .f32] x6))⟩], 2, []⟩)] :=
 (show evFn Try.prog ext T46 noL 200 Try.f5 [.agg #[wsl 0, wsl 1], .agg #[.float .f32 x0, .float .f32 x1, .float .f32 x2, .float .f32 x3], .string x4] ⟨[⟨false, (some (.strs x5))⟩, ⟨false, (some (.tab [.int .i8, .int .i16, .fl .f32] x6))⟩], 2, []⟩ = w5 x0 x1 x2 x3 x4 x5 x6 from by kernel_rfl).trans
 (show w5 x0 x1 x2 x3 x4 x5 x6 = a5 x0 x1 x2 x3 x4 x5 x6 (r5 x0 x1 x2 x3 x4 x5 x6) from (cond_both (a5 x0 x1 x2 x3 x4 x5 x6) _ (fun h0 => rfl) (fun h0 => (cond_both (a5 x0 x1 x2 x3 x4 x5 x6) _ (fun h1 => (cond_both (a5 x0 x1 x2 x3 x4 x5 x6) _ (fun h2 => rfl) (fun h2 => (cond_both (a5 x0 x1 x2 x3 x4 x5 x6) _ (fun h3 => (cond_both (a5 x0 x1 x2 x3 x4 x5 x6) _ (fun h4 => (cond_t h3 (cond_both (a5 x0 x1 x2 x3 x4 x5 x6) _ (fun h5 => (cond_both (a5 x0 x1 x2 x3 x4 x5 x6) _ (fun h6 => rfl) (fun h6 => (cond_both (a5 x0 x1 x2 x3 x4 x5 x6) _ (fun h7 => rfl) (fun h7 => (cond_t h3 (cond_app (a5 x0 x1 x2 x3 x4 x5 x6) _ (cond_app (a5 x0 x1 x2 x3 x4 x5 x6) _ rfl rfl) rfl))))))) (fun h5 => rfl)))) (fun h4 => rfl))) (fun h3 => rfl))))) (fun h1 => rfl)))))
noncomputable def s5 (args : List Value) (s : St) : List (Bool × Value × St) :=
 match args, s.h with
 | [.agg ⟨[.iface f0 .nilIface, .iface f1 .nilIface]⟩, .agg ⟨[.float .f32 x0, .float .f32 x1, .float .f32 x2, .float .f32 x3]⟩, .string x4], [⟨false, some (.strs x5)⟩, ⟨false, some (.tab [.int .i8, .int .i16, .fl .f32] x6)⟩] => if f0 = 0 ∧ f1 = 1 then [((Nat.beq ((r5 x0 x1 x2 x3 x4 x5 x6).1) 0), .bool ((r5 x0 x1 x2 x3 x4 x5 x6).2), ⟨[⟨false, (some (.strs x5))⟩, ⟨false, (some (.tab [.int .i8, .int .i16, .fl .f32] x6))⟩], 2, []⟩)] else T46 5 args s
 | _, _ => T46 5 args s
noncomputable def T47 : CallF := addF T46 5 s5
set_option maxRecDepth 100000 in
set_option maxHeartbeats 4000000 in
theorem ok47 : CfOk Try.prog T47 := by
  refine cfOk_add ok46 fun args s r s' h1 h2 h3 => ?_
  unfold s5 at h3; split at h3
  · rename_i h; split at h3
    · rename_i hc; obtain ⟨rfl, rfl⟩ := hc; exact callOk ok46 Try.func5 h1 h2 h (lfOkF_no _ _).body (e5 _ _ _ _ _ _ _) rfl h3
    · exact ok46 _ _ _ _ _ h1 h2 h3
  · exact ok46 _ _ _ _ _ h1 h2 h3
end Go.Proofs.Ytfclciebpnnieaa
