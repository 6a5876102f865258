/- What the functions that the statements reach answer, part 3. -/
import Derived.Test.YtffpnkkhcgjmfaaDoorFt2
namespace Go.Proofs.YtffpnkkhcgjmfaaDoor
open Go.Ab
set_option maxHeartbeats 4000000
set_option maxRecDepth 100000

/-- impl.flatText -/
noncomputable def w38 {α : Type} (x0 x1 x2 x3 : List (List Int)) (k : (Nat × ByteArray) → α) : α :=
 let c634 := (r38l0 (1000 + x3.length + x2.length + x1.length + x0.length + 0) (ByteArray.mk #[]) ((x0.length : Nat) : Int) 0 x0 x1 x2 x3)
 let c739 := (r38l1 (1000 + x3.length + x1.length + x0.length + x2.length + ((c634.2).size)) (c634.2) ((x2.length : Nat) : Int) 0 x2 x0 x1 x3)
 let c773 := (r38l3 (1000 + x3.length + ((c739.2).size)) (c739.2) ((x3.length : Nat) : Int) 0 x3)
 cond (Nat.beq (c634.1) 0)
  (cond (Nat.beq (c739.1) 0)
   (cond (Nat.beq (c773.1) 0)
    (k (0, (c773.2)))
    (k (1, ByteArray.empty)))
   (k (1, ByteArray.empty)))
  (k (1, ByteArray.empty))
noncomputable def r38 (x0 x1 x2 x3 : List (List Int)) : Nat × ByteArray := w38 x0 x1 x2 x3 (fun p => p)
noncomputable def g38 (x0 x1 x2 x3 : List (List Int)) (p : Nat × ByteArray) : List (Bool × Value × St) := [((Nat.beq (p.1) 0), .string (p.2), ⟨[⟨true, (some (.tab [.fl .f32] x0))⟩, ⟨true, (some (.tab [.fl .f32] x1))⟩, ⟨true, (some (.tab sc0 x2))⟩, ⟨true, (some (.tab sc1 x3))⟩], 4, []⟩)]
theorem p38 {α : Type} (x0 x1 x2 x3 : List (List Int)) (f : (Nat × ByteArray) → α) : w38 x0 x1 x2 x3 f = f (w38 x0 x1 x2 x3 (fun p => p)) := by unfold w38; exact (cond_app f _ (cond_app f _ (cond_app f _ rfl rfl) rfl) rfl)
set_option maxRecDepth 100000 in
set_option maxHeartbeats 4000000 in
theorem e38 (x0 x1 x2 x3 : List (List Int)) : evFn Tryd.prog ext T40 L38_3 200 Tryd.f38 [.agg #[wsl 0, wsl 1, wsl 2, wsl 3]] ⟨[⟨true, (some (.tab [.fl .f32] x0))⟩, ⟨true, (some (.tab [.fl .f32] x1))⟩, ⟨true, (some (.tab sc0 x2))⟩, ⟨true, (some (.tab sc1 x3))⟩], 4, []⟩ = firstT (g38 x0 x1 x2 x3 (r38 x0 x1 x2 x3)) :=
 Eq.trans (by kernel_rfl) (p38 x0 x1 x2 x3 (fun p => firstT (g38 x0 x1 x2 x3 p)))
noncomputable def s38 (args : List Value) (s : St) : List (Bool × Value × St) :=
 match args, s.h with
 | [.agg ⟨[.iface f0 .nilIface, .iface f1 .nilIface, .iface f2 .nilIface, .iface f3 .nilIface]⟩], [⟨true, some (.tab [.fl .f32] x0)⟩, ⟨true, some (.tab [.fl .f32] x1)⟩, ⟨true, some (.tab [.int .i64, .int .i64, .fl .f32, .fl .f32, .fl .f32, .fl .f32, .fl .f32, .fl .f32] x2)⟩, ⟨true, some (.tab [.int .i64, .int .i64, .fl .f32, .fl .f32] x3)⟩] => if f0 = 0 ∧ f1 = 1 ∧ f2 = 2 ∧ f3 = 3 then (g38 x0 x1 x2 x3 (r38 x0 x1 x2 x3)) else T40 38 args s
 | _, _ => T40 38 args s
noncomputable def T41 : CallF := addF T40 38 s38
set_option maxRecDepth 100000 in
set_option maxHeartbeats 4000000 in
theorem ok41 : CfOk Tryd.prog T41 := by
  refine cfOk_add ok40 fun args s r s' h1 h2 h3 => ?_
  unfold s38 at h3; split at h3
  · rename_i h; split at h3
    · rename_i hc; obtain ⟨rfl, rfl, rfl, rfl⟩ := hc; exact callOk ok40 Tryd.func38 h1 h2 h lok38_3.body (e38 _ _ _ _) rfl h3
    · exact ok40 _ _ _ _ _ h1 h2 h3
  · exact ok40 _ _ _ _ _ h1 h2 h3

/-- impl.FlatText -/
noncomputable def w13 {α : Type} (x0 x1 x2 x3 : List (List Int)) (k : (Nat × ByteArray) → α) : α :=
 cond (Nat.beq ((r37 x0 x1 x2 x3).1) 0)
  (cond (!((r37 x0 x1 x2 x3).2))
   (k (0, (ByteArray.mk #[])))
   (cond (Nat.beq ((r38 x0 x1 x2 x3).1) 0)
    (k (0, ((r38 x0 x1 x2 x3).2)))
    (k (1, ByteArray.empty))))
  (k (1, ByteArray.empty))
noncomputable def r13 (x0 x1 x2 x3 : List (List Int)) : Nat × ByteArray := w13 x0 x1 x2 x3 (fun p => p)
noncomputable def g13 (x0 x1 x2 x3 : List (List Int)) (p : Nat × ByteArray) : List (Bool × Value × St) := [((Nat.beq (p.1) 0), .string (p.2), ⟨[⟨true, (some (.tab [.fl .f32] x0))⟩, ⟨true, (some (.tab [.fl .f32] x1))⟩, ⟨true, (some (.tab sc0 x2))⟩, ⟨true, (some (.tab sc1 x3))⟩], 4, []⟩)]
theorem p13 {α : Type} (x0 x1 x2 x3 : List (List Int)) (f : (Nat × ByteArray) → α) : w13 x0 x1 x2 x3 f = f (w13 x0 x1 x2 x3 (fun p => p)) := by unfold w13; exact (cond_app f _ (cond_app f _ rfl (cond_app f _ rfl rfl)) rfl)
set_option maxRecDepth 100000 in
set_option maxHeartbeats 4000000 in
theorem e13 (x0 x1 x2 x3 : List (List Int)) : evFn Tryd.prog ext T41 noL 200 Tryd.f13 [.agg #[wsl 0, wsl 1, wsl 2, wsl 3]] ⟨[⟨true, (some (.tab [.fl .f32] x0))⟩, ⟨true, (some (.tab [.fl .f32] x1))⟩, ⟨true, (some (.tab sc0 x2))⟩, ⟨true, (some (.tab sc1 x3))⟩], 4, []⟩ = firstT (g13 x0 x1 x2 x3 (r13 x0 x1 x2 x3)) :=
 Eq.trans (by kernel_rfl) (p13 x0 x1 x2 x3 (fun p => firstT (g13 x0 x1 x2 x3 p)))
noncomputable def s13 (args : List Value) (s : St) : List (Bool × Value × St) :=
 match args, s.h with
 | [.agg ⟨[.iface f0 .nilIface, .iface f1 .nilIface, .iface f2 .nilIface, .iface f3 .nilIface]⟩], [⟨true, some (.tab [.fl .f32] x0)⟩, ⟨true, some (.tab [.fl .f32] x1)⟩, ⟨true, some (.tab [.int .i64, .int .i64, .fl .f32, .fl .f32, .fl .f32, .fl .f32, .fl .f32, .fl .f32] x2)⟩, ⟨true, some (.tab [.int .i64, .int .i64, .fl .f32, .fl .f32] x3)⟩] => if f0 = 0 ∧ f1 = 1 ∧ f2 = 2 ∧ f3 = 3 then (g13 x0 x1 x2 x3 (r13 x0 x1 x2 x3)) else T41 13 args s
 | _, _ => T41 13 args s
noncomputable def T42 : CallF := addF T41 13 s13
set_option maxRecDepth 100000 in
set_option maxHeartbeats 4000000 in
theorem ok42 : CfOk Tryd.prog T42 := by
  refine cfOk_add ok41 fun args s r s' h1 h2 h3 => ?_
  unfold s13 at h3; split at h3
  · rename_i h; split at h3
    · rename_i hc; obtain ⟨rfl, rfl, rfl, rfl⟩ := hc; exact callOk ok41 Tryd.func13 h1 h2 h (lfOkF_no _ _).body (e13 _ _ _ _) rfl h3
    · exact ok41 _ _ _ _ _ h1 h2 h3
  · exact ok41 _ _ _ _ _ h1 h2 h3

/-- laws.sameFloat -/
noncomputable def r74 (x0 x1 : Nat) : Bool :=
 cond (!feq .f64 x0 x0)
  ((!feq .f64 x1 x1))
  (cond (!feq .f64 x1 x1)
   (false)
   (cond (feq .f64 x0 0)
    (cond (feq .f64 x1 0)
     (((fgt .f64 (fdiv .f64 4607182418800017408 x0) 0) == (fgt .f64 (fdiv .f64 4607182418800017408 x1) 0)))
     ((feq .f64 x0 x1)))
    ((feq .f64 x0 x1))))
noncomputable def a74 (x0 x1 : Nat) (p : Bool) : Res := firstT [(true, .bool p, st0)]
noncomputable def w74 (x0 x1 : Nat) : Res :=
 (cond (!feq .f64 x0 x0)
 (cond (!feq .f64 x0 x0)
  (a74 x0 x1 ((!feq .f64 x1 x1)))
  (some (.bool false, st0)))
 (cond (!feq .f64 x1 x1)
  (cond (!feq .f64 x0 x0)
   (some (.bool (!feq .f64 x1 x1), st0))
   (a74 x0 x1 (false)))
  (cond (feq .f64 x0 0)
   (cond (feq .f64 x1 0)
    (a74 x0 x1 (((fgt .f64 (fdiv .f64 4607182418800017408 x0) 0) == (fgt .f64 (fdiv .f64 4607182418800017408 x1) 0))))
    (a74 x0 x1 ((feq .f64 x0 x1))))
   (a74 x0 x1 ((feq .f64 x0 x1))))))
set_option maxRecDepth 100000 in
set_option maxHeartbeats 4000000 in
theorem e74 (x0 x1 : Nat) : evFn Tryd.prog ext T42 noL 200 Tryd.f74 [.float .f64 x0, .float .f64 x1] st0 = firstT [(true, .bool (r74 x0 x1), st0)] :=
 (show evFn Tryd.prog ext T42 noL 200 Tryd.f74 [.float .f64 x0, .float .f64 x1] st0 = w74 x0 x1 from by kernel_rfl).trans
 (show w74 x0 x1 = a74 x0 x1 (r74 x0 x1) from by unfold w74 r74; exact (cond_both (a74 x0 x1) _ (fun h0 => (cond_t (ev_not1 (ev_nott h0)) rfl)) (fun h0 => (cond_both (a74 x0 x1) _ (fun h1 => (cond_f (ev_not0 (ev_notf h0)) rfl)) (fun h1 => (cond_app (a74 x0 x1) _ (cond_app (a74 x0 x1) _ rfl rfl) rfl))))))
noncomputable def s74 (args : List Value) (s : St) : List (Bool × Value × St) :=
 match args, s.h with
 | [.float .f64 x0, .float .f64 x1], [] => [(true, .bool (r74 x0 x1), st0)]
 | _, _ => T42 74 args s
noncomputable def T43 : CallF := addF T42 74 s74
set_option maxRecDepth 100000 in
set_option maxHeartbeats 4000000 in
theorem ok43 : CfOk Tryd.prog T43 := by
  refine cfOk_add ok42 fun args s r s' h1 h2 h3 => ?_
  unfold s74 at h3; split at h3
  · rename_i h; exact callOk ok42 Tryd.func74 h1 h2 h (lfOkF_no _ _).body (e74 _ _) rfl h3
  · exact ok42 _ _ _ _ _ h1 h2 h3

/-- laws.eqFloat32S, loop 0: one round -/
noncomputable def b39l0 (ih : Int → List (List Int) → List (List Int) → Nat) (x0 : Int) (x1 x2 : List (List Int)) : Nat :=
 let c791 := (r74 (widen (Int.toNat ((x1.getD (Int.toNat x0) []).getD 0 0))) (widen (Int.toNat ((x2.getD (Int.toNat x0) []).getD 0 0))))
 cond (decide ((x0 : Int) < ((x1.length : Nat) : Int)))
  (cond ((decide ((0 : Int) ≤ x0)) && (Nat.blt (Int.toNat x0) x1.length))
   (cond ((decide ((0 : Int) ≤ x0)) && (Nat.blt (Int.toNat x0) x2.length))
    (cond (!c791)
     (0)
     (ih (IntKind.i64.wrap (x0 + 1)) x1 x2))
    (2))
   (2))
  (1)
noncomputable def r39l0 : Nat → Int → List (List Int) → List (List Int) → Nat
 | 0 => fun _ _ _ => (2)
 | m + 1 => b39l0 (r39l0 m)
noncomputable def a39l0 (x0 : Int) (x1 x2 : List (List Int)) (p : Nat) : Option (Fin' × List Value × St) := firstT ([((Nat.beq p 0), .ret, [.bool false], ⟨[⟨true, (some (.tab [.fl .f32] x1))⟩, ⟨true, (some (.tab [.fl .f32] x2))⟩], 2, []⟩), ((Nat.beq p 1), .exit 0, [anyV], ⟨[⟨true, (some (.tab [.fl .f32] x1))⟩, ⟨true, (some (.tab [.fl .f32] x2))⟩], 2, []⟩)].map fun (b, x) => (b, (x.1, frameOf 29 [4] x.2.1, x.2.2)))
noncomputable def u39l0 (x0 : Int) (x1 x2 : List (List Int)) (p : Nat) : Option (Fin' × List Value × St) := alts ([((Nat.beq p 0), .ret, [.bool false], ⟨[⟨true, (some (.tab [.fl .f32] x1))⟩, ⟨true, (some (.tab [.fl .f32] x2))⟩], 2, []⟩), ((Nat.beq p 1), .exit 0, [anyV], ⟨[⟨true, (some (.tab [.fl .f32] x1))⟩, ⟨true, (some (.tab [.fl .f32] x2))⟩], 2, []⟩)].map fun (b, x) => (b, (x.1, frameOf 29 [4] x.2.1, x.2.2))) some
theorem v39l0 (x0 : Int) (x1 x2 : List (List Int)) (p : Nat) : u39l0 x0 x1 x2 p = a39l0 x0 x1 x2 p := alts_first _
noncomputable def q39l0 (m : Nat) : SumK := fun vals s =>
 match vals, s.h with
 | [.iface f0 .nilIface, .iface f1 .nilIface, .int .i64 x0], [⟨true, some (.tab [.fl .f32] x1)⟩, ⟨true, some (.tab [.fl .f32] x2)⟩] => if f0 = 0 ∧ f1 = 1 then [((Nat.beq (r39l0 m x0 x1 x2) 0), .ret, [.bool false], ⟨[⟨true, (some (.tab [.fl .f32] x1))⟩, ⟨true, (some (.tab [.fl .f32] x2))⟩], 2, []⟩), ((Nat.beq (r39l0 m x0 x1 x2) 1), .exit 0, [anyV], ⟨[⟨true, (some (.tab [.fl .f32] x1))⟩, ⟨true, (some (.tab [.fl .f32] x2))⟩], 2, []⟩)] else noQ vals s
 | _, _ => noQ vals s
noncomputable def w39l0 (ih : Int → List (List Int) → List (List Int) → Nat) (x0 : Int) (x1 x2 : List (List Int)) : Option (Fin' × List Value × St) :=
 let c791 := (r74 (widen (Int.toNat ((x1.getD (Int.toNat x0) []).getD 0 0))) (widen (Int.toNat ((x2.getD (Int.toNat x0) []).getD 0 0))))
 (cond (decide ((x0 : Int) < ((x1.length : Nat) : Int)))
 (cond ((decide ((0 : Int) ≤ x0)) && (Nat.blt (Int.toNat x0) x1.length))
  (cond (Nat.blt (Int.toNat x0) x1.length)
   (cond ((decide ((0 : Int) ≤ x0)) && (Nat.blt (Int.toNat x0) x2.length))
    (cond (Nat.blt (Int.toNat x0) x2.length)
     (cond (!c791)
      (a39l0 x0 x1 x2 (0))
      (u39l0 x0 x1 x2 (ih (IntKind.i64.wrap (x0 + 1)) x1 x2)))
     none)
    none)
   none)
  none)
 (a39l0 x0 x1 x2 (1)))
set_option maxRecDepth 100000 in
set_option maxHeartbeats 4000000 in
theorem e39l0 (m : Nat) (x0 : Int) (x1 x2 : List (List Int)) : evC Tryd.prog ext T43 noL 200 (loopN Tryd.f39 0) (loopTail ([0, 1, 5], []) [4] [] (sumK 29 [0, 1, 5] [4] (q39l0 m))) (frameOf 29 [0, 1, 5] [wsl 0, wsl 1, vi x0]) ⟨[⟨true, (some (.tab [.fl .f32] x1))⟩, ⟨true, (some (.tab [.fl .f32] x2))⟩], 2, []⟩ = firstT ([((Nat.beq (r39l0 (m + 1) x0 x1 x2) 0), .ret, [.bool false], ⟨[⟨true, (some (.tab [.fl .f32] x1))⟩, ⟨true, (some (.tab [.fl .f32] x2))⟩], 2, []⟩), ((Nat.beq (r39l0 (m + 1) x0 x1 x2) 1), .exit 0, [anyV], ⟨[⟨true, (some (.tab [.fl .f32] x1))⟩, ⟨true, (some (.tab [.fl .f32] x2))⟩], 2, []⟩)].map fun (b, x) => (b, (x.1, frameOf 29 [4] x.2.1, x.2.2))) :=
 (show evC Tryd.prog ext T43 noL 200 (loopN Tryd.f39 0) (loopTail ([0, 1, 5], []) [4] [] (sumK 29 [0, 1, 5] [4] (q39l0 m))) (frameOf 29 [0, 1, 5] [wsl 0, wsl 1, vi x0]) ⟨[⟨true, (some (.tab [.fl .f32] x1))⟩, ⟨true, (some (.tab [.fl .f32] x2))⟩], 2, []⟩ = w39l0 (r39l0 m) x0 x1 x2 from by kernel_rfl).trans
 (show w39l0 (r39l0 m) x0 x1 x2 = a39l0 x0 x1 x2 (r39l0 (m + 1) x0 x1 x2) from by unfold w39l0; show _ = a39l0 x0 x1 x2 (b39l0 (r39l0 m) x0 x1 x2); unfold b39l0; exact (cond_both (a39l0 x0 x1 x2) _ (fun h0 => (cond_both (a39l0 x0 x1 x2) _ (fun h1 => (cond_t (ev_and2 h1) (cond_both (a39l0 x0 x1 x2) _ (fun h2 => (cond_t (ev_and2 h2) (cond_app (a39l0 x0 x1 x2) _ rfl (v39l0 x0 x1 x2 ((r39l0 m) (IntKind.i64.wrap (x0 + 1)) x1 x2))))) (fun h2 => rfl)))) (fun h1 => rfl))) (fun h0 => rfl)))
set_option maxRecDepth 100000 in
set_option maxHeartbeats 4000000 in
theorem qm39l0 : ∀ m, SumKOk Tryd.prog (loopN Tryd.f39 0) 29 [0, 1, 5] [4] (q39l0 m) := by
  intro m
  induction m with
  | zero =>
    intro vals s x h1 h2 h3
    unfold q39l0 at h3; split at h3
    · rename_i h; split at h3
      · rename_i hc; obtain ⟨rfl, rfl⟩ := hc; exact absurd h3 (by simp [r39l0, firstT, Nat.beq])
      · exact noQ_ok _ _ _ h1 h2 h3
    · exact noQ_ok _ _ _ h1 h2 h3
  | succ m ih =>
    intro vals s x h1 h2 h3
    unfold q39l0 at h3; split at h3
    · rename_i h; split at h3
      · rename_i hc; obtain ⟨rfl, rfl⟩ := hc; exact sum_step ok43 extOk mixed ((lfOkF_no _ _).inner (by kernel_rfl)) ih h1 h2 h (e39l0 m _ _ _) rfl h3
      · exact noQ_ok _ _ _ h1 h2 h3
    · exact noQ_ok _ _ _ h1 h2 h3
noncomputable def Q39l0 : SumK := fun vals s => q39l0 (fuelOf vals s.h) vals s
theorem qok39l0 : SumKOk Tryd.prog (loopN Tryd.f39 0) 29 [0, 1, 5] [4] Q39l0 := fuel_ok qm39l0 fuelOf
noncomputable def L39_1 : LoopT := addL noL 5 ([0, 1, 5], []) (sumK 29 [0, 1, 5] [4] Q39l0)
theorem lok39_1 : LfOkF Tryd.prog L39_1 Tryd.f39 := lfOkF_add (lfOkF_no _ _) qok39l0 (by kernel_rfl) (by kernel_rfl) (by kernel_rfl)

/-- laws.eqFloat32S -/
noncomputable def w39 {α : Type} (x0 x1 : List (List Int)) (k : (Nat × Bool) → α) : α :=
 let c792 := (r39l0 (1000 + x1.length + x0.length) 0 x0 x1)
 cond ((((x0.length : Nat) : Int) : Int) != ((x1.length : Nat) : Int))
  (k (0, false))
  (cond (Nat.beq c792 0)
   (k (0, false))
   (cond (Nat.beq c792 1)
    (k (0, true))
    (k (1, false))))
noncomputable def r39 (x0 x1 : List (List Int)) : Nat × Bool := w39 x0 x1 (fun p => p)
noncomputable def g39 (x0 x1 : List (List Int)) (p : Nat × Bool) : List (Bool × Value × St) := [((Nat.beq (p.1) 0), .bool (p.2), ⟨[⟨true, (some (.tab [.fl .f32] x0))⟩, ⟨true, (some (.tab [.fl .f32] x1))⟩], 2, []⟩)]
theorem p39 {α : Type} (x0 x1 : List (List Int)) (f : (Nat × Bool) → α) : w39 x0 x1 f = f (w39 x0 x1 (fun p => p)) := by unfold w39; exact (cond_app f _ rfl (cond_app f _ rfl (cond_app f _ rfl rfl)))
set_option maxRecDepth 100000 in
set_option maxHeartbeats 4000000 in
theorem e39 (x0 x1 : List (List Int)) : evFn Tryd.prog ext T43 L39_1 200 Tryd.f39 [wsl 0, wsl 1] ⟨[⟨true, (some (.tab [.fl .f32] x0))⟩, ⟨true, (some (.tab [.fl .f32] x1))⟩], 2, []⟩ = firstT (g39 x0 x1 (r39 x0 x1)) :=
 Eq.trans (by kernel_rfl) (p39 x0 x1 (fun p => firstT (g39 x0 x1 p)))
noncomputable def s39 (args : List Value) (s : St) : List (Bool × Value × St) :=
 match args, s.h with
 | [.iface f0 .nilIface, .iface f1 .nilIface], [⟨true, some (.tab [.fl .f32] x0)⟩, ⟨true, some (.tab [.fl .f32] x1)⟩] => if f0 = 0 ∧ f1 = 1 then (g39 x0 x1 (r39 x0 x1)) else T43 39 args s
 | _, _ => T43 39 args s
noncomputable def T44 : CallF := addF T43 39 s39
set_option maxRecDepth 100000 in
set_option maxHeartbeats 4000000 in
theorem ok44 : CfOk Tryd.prog T44 := by
  refine cfOk_add ok43 fun args s r s' h1 h2 h3 => ?_
  unfold s39 at h3; split at h3
  · rename_i h; split at h3
    · rename_i hc; obtain ⟨rfl, rfl⟩ := hc; exact callOk ok43 Tryd.func39 h1 h2 h lok39_1.body (e39 _ _) rfl h3
    · exact ok43 _ _ _ _ _ h1 h2 h3
  · exact ok43 _ _ _ _ _ h1 h2 h3

/-- laws.eqFloat32A4 -/
noncomputable def w90 {α : Type} (x0 x1 x2 x3 x4 x5 x6 x7 : Nat) (k : Bool → α) : α :=
 cond (!(r74 (widen x0) (widen x4)))
  (k (false))
  (cond (!(r74 (widen x1) (widen x5)))
   (k (false))
   (cond (!(r74 (widen x2) (widen x6)))
    (k (false))
    (cond (!(r74 (widen x3) (widen x7)))
     (k (false))
     (k (true)))))
noncomputable def r90 (x0 x1 x2 x3 x4 x5 x6 x7 : Nat) : Bool := w90 x0 x1 x2 x3 x4 x5 x6 x7 (fun p => p)
noncomputable def g90 (x0 x1 x2 x3 x4 x5 x6 x7 : Nat) (p : Bool) : List (Bool × Value × St) := [(true, .bool p, st0)]
theorem p90 {α : Type} (x0 x1 x2 x3 x4 x5 x6 x7 : Nat) (f : Bool → α) : w90 x0 x1 x2 x3 x4 x5 x6 x7 f = f (w90 x0 x1 x2 x3 x4 x5 x6 x7 (fun p => p)) := by unfold w90; exact (cond_app f _ rfl (cond_app f _ rfl (cond_app f _ rfl (cond_app f _ rfl rfl))))
set_option maxRecDepth 100000 in
set_option maxHeartbeats 4000000 in
theorem e90 (x0 x1 x2 x3 x4 x5 x6 x7 : Nat) : evFn Tryd.prog ext T44 noL 200 Tryd.f90 [.agg #[vf x0, vf x1, vf x2, vf x3], .agg #[vf x4, vf x5, vf x6, vf x7]] st0 = firstT (g90 x0 x1 x2 x3 x4 x5 x6 x7 (r90 x0 x1 x2 x3 x4 x5 x6 x7)) :=
 Eq.trans (by kernel_rfl) (p90 x0 x1 x2 x3 x4 x5 x6 x7 (fun p => firstT (g90 x0 x1 x2 x3 x4 x5 x6 x7 p)))
noncomputable def s90 (args : List Value) (s : St) : List (Bool × Value × St) :=
 match args, s.h with
 | [.agg ⟨[.float .f32 x0, .float .f32 x1, .float .f32 x2, .float .f32 x3]⟩, .agg ⟨[.float .f32 x4, .float .f32 x5, .float .f32 x6, .float .f32 x7]⟩], [] => (g90 x0 x1 x2 x3 x4 x5 x6 x7 (r90 x0 x1 x2 x3 x4 x5 x6 x7))
 | _, _ => T44 90 args s
noncomputable def T45 : CallF := addF T44 90 s90
set_option maxRecDepth 100000 in
set_option maxHeartbeats 4000000 in
theorem ok45 : CfOk Tryd.prog T45 := by
  refine cfOk_add ok44 fun args s r s' h1 h2 h3 => ?_
  unfold s90 at h3; split at h3
  · rename_i h; exact callOk ok44 Tryd.func90 h1 h2 h (lfOkF_no _ _).body (e90 _ _ _ _ _ _ _ _) rfl h3
  · exact ok44 _ _ _ _ _ h1 h2 h3

/-- laws.eqWall -/
noncomputable def w75 {α : Type} (x0 x1 : Int) (x2 x3 x4 x5 x6 x7 : Nat) (x8 x9 : Int) (x10 x11 x12 x13 x14 x15 : Nat) (k : Bool → α) : α :=
 cond ((x0 : Int) != x8)
  (k (false))
  (cond ((x1 : Int) != x9)
   (k (false))
   (cond (!(r74 (widen x2) (widen x10)))
    (k (false))
    (cond (!(r74 (widen x3) (widen x11)))
     (k (false))
     (cond (!(r90 x4 x5 x6 x7 x12 x13 x14 x15))
      (k (false))
      (k (true))))))
noncomputable def r75 (x0 x1 : Int) (x2 x3 x4 x5 x6 x7 : Nat) (x8 x9 : Int) (x10 x11 x12 x13 x14 x15 : Nat) : Bool := w75 x0 x1 x2 x3 x4 x5 x6 x7 x8 x9 x10 x11 x12 x13 x14 x15 (fun p => p)
noncomputable def g75 (x0 x1 : Int) (x2 x3 x4 x5 x6 x7 : Nat) (x8 x9 : Int) (x10 x11 x12 x13 x14 x15 : Nat) (p : Bool) : List (Bool × Value × St) := [(true, .bool p, st0)]
theorem p75 {α : Type} (x0 x1 : Int) (x2 x3 x4 x5 x6 x7 : Nat) (x8 x9 : Int) (x10 x11 x12 x13 x14 x15 : Nat) (f : Bool → α) : w75 x0 x1 x2 x3 x4 x5 x6 x7 x8 x9 x10 x11 x12 x13 x14 x15 f = f (w75 x0 x1 x2 x3 x4 x5 x6 x7 x8 x9 x10 x11 x12 x13 x14 x15 (fun p => p)) := by unfold w75; repeat' (first | refine cond_app f _ ?_ ?_ | rfl)
set_option maxRecDepth 100000 in
set_option maxHeartbeats 4000000 in
theorem e75 (x0 x1 : Int) (x2 x3 x4 x5 x6 x7 : Nat) (x8 x9 : Int) (x10 x11 x12 x13 x14 x15 : Nat) : evFn Tryd.prog ext T45 noL 200 Tryd.f75 [.agg #[vi x0, vi x1, vf x2, vf x3, vf x4, vf x5, vf x6, vf x7], .agg #[vi x8, vi x9, vf x10, vf x11, vf x12, vf x13, vf x14, vf x15]] st0 = firstT (g75 x0 x1 x2 x3 x4 x5 x6 x7 x8 x9 x10 x11 x12 x13 x14 x15 (r75 x0 x1 x2 x3 x4 x5 x6 x7 x8 x9 x10 x11 x12 x13 x14 x15)) :=
 Eq.trans (by kernel_rfl) (p75 x0 x1 x2 x3 x4 x5 x6 x7 x8 x9 x10 x11 x12 x13 x14 x15 (fun p => firstT (g75 x0 x1 x2 x3 x4 x5 x6 x7 x8 x9 x10 x11 x12 x13 x14 x15 p)))
noncomputable def s75 (args : List Value) (s : St) : List (Bool × Value × St) :=
 match args, s.h with
 | [.agg ⟨[.int .i64 x0, .int .i64 x1, .float .f32 x2, .float .f32 x3, .float .f32 x4, .float .f32 x5, .float .f32 x6, .float .f32 x7]⟩, .agg ⟨[.int .i64 x8, .int .i64 x9, .float .f32 x10, .float .f32 x11, .float .f32 x12, .float .f32 x13, .float .f32 x14, .float .f32 x15]⟩], [] => (g75 x0 x1 x2 x3 x4 x5 x6 x7 x8 x9 x10 x11 x12 x13 x14 x15 (r75 x0 x1 x2 x3 x4 x5 x6 x7 x8 x9 x10 x11 x12 x13 x14 x15))
 | _, _ => T45 75 args s
noncomputable def T46 : CallF := addF T45 75 s75
set_option maxRecDepth 100000 in
set_option maxHeartbeats 4000000 in
theorem ok46 : CfOk Tryd.prog T46 := by
  refine cfOk_add ok45 fun args s r s' h1 h2 h3 => ?_
  unfold s75 at h3; split at h3
  · rename_i h; exact callOk ok45 Tryd.func75 h1 h2 h (lfOkF_no _ _).body (e75 _ _ _ _ _ _ _ _ _ _ _ _ _ _ _ _) rfl h3
  · exact ok45 _ _ _ _ _ h1 h2 h3

/-- laws.eqWallS, loop 0: one round -/
noncomputable def b40l0 (ih : Int → List (List Int) → List (List Int) → Nat) (x0 : Int) (x1 x2 : List (List Int)) : Nat :=
 let c809 := (r75 ((x1.getD (Int.toNat x0) []).getD 0 0) ((x1.getD (Int.toNat x0) []).getD 1 0) (Int.toNat ((x1.getD (Int.toNat x0) []).getD 2 0)) (Int.toNat ((x1.getD (Int.toNat x0) []).getD 3 0)) (Int.toNat ((x1.getD (Int.toNat x0) []).getD 4 0)) (Int.toNat ((x1.getD (Int.toNat x0) []).getD 5 0)) (Int.toNat ((x1.getD (Int.toNat x0) []).getD 6 0)) (Int.toNat ((x1.getD (Int.toNat x0) []).getD 7 0)) ((x2.getD (Int.toNat x0) []).getD 0 0) ((x2.getD (Int.toNat x0) []).getD 1 0) (Int.toNat ((x2.getD (Int.toNat x0) []).getD 2 0)) (Int.toNat ((x2.getD (Int.toNat x0) []).getD 3 0)) (Int.toNat ((x2.getD (Int.toNat x0) []).getD 4 0)) (Int.toNat ((x2.getD (Int.toNat x0) []).getD 5 0)) (Int.toNat ((x2.getD (Int.toNat x0) []).getD 6 0)) (Int.toNat ((x2.getD (Int.toNat x0) []).getD 7 0)))
 cond (decide ((x0 : Int) < ((x1.length : Nat) : Int)))
  (cond ((decide ((0 : Int) ≤ x0)) && (Nat.blt (Int.toNat x0) x1.length))
   (cond ((decide ((0 : Int) ≤ x0)) && (Nat.blt (Int.toNat x0) x2.length))
    (cond (!c809)
     (0)
     (ih (IntKind.i64.wrap (x0 + 1)) x1 x2))
    (2))
   (2))
  (1)
noncomputable def r40l0 : Nat → Int → List (List Int) → List (List Int) → Nat
 | 0 => fun _ _ _ => (2)
 | m + 1 => b40l0 (r40l0 m)
noncomputable def a40l0 (x0 : Int) (x1 x2 : List (List Int)) (p : Nat) : Option (Fin' × List Value × St) := firstT ([((Nat.beq p 0), .ret, [.bool false], ⟨[⟨true, (some (.tab sc0 x1))⟩, ⟨true, (some (.tab sc0 x2))⟩], 2, []⟩), ((Nat.beq p 1), .exit 0, [anyV], ⟨[⟨true, (some (.tab sc0 x1))⟩, ⟨true, (some (.tab sc0 x2))⟩], 2, []⟩)].map fun (b, x) => (b, (x.1, frameOf 27 [4] x.2.1, x.2.2)))
noncomputable def u40l0 (x0 : Int) (x1 x2 : List (List Int)) (p : Nat) : Option (Fin' × List Value × St) := alts ([((Nat.beq p 0), .ret, [.bool false], ⟨[⟨true, (some (.tab sc0 x1))⟩, ⟨true, (some (.tab sc0 x2))⟩], 2, []⟩), ((Nat.beq p 1), .exit 0, [anyV], ⟨[⟨true, (some (.tab sc0 x1))⟩, ⟨true, (some (.tab sc0 x2))⟩], 2, []⟩)].map fun (b, x) => (b, (x.1, frameOf 27 [4] x.2.1, x.2.2))) some
theorem v40l0 (x0 : Int) (x1 x2 : List (List Int)) (p : Nat) : u40l0 x0 x1 x2 p = a40l0 x0 x1 x2 p := alts_first _
noncomputable def q40l0 (m : Nat) : SumK := fun vals s =>
 match vals, s.h with
 | [.iface f0 .nilIface, .iface f1 .nilIface, .int .i64 x0], [⟨true, some (.tab [.int .i64, .int .i64, .fl .f32, .fl .f32, .fl .f32, .fl .f32, .fl .f32, .fl .f32] x1)⟩, ⟨true, some (.tab [.int .i64, .int .i64, .fl .f32, .fl .f32, .fl .f32, .fl .f32, .fl .f32, .fl .f32] x2)⟩] => if f0 = 0 ∧ f1 = 1 then [((Nat.beq (r40l0 m x0 x1 x2) 0), .ret, [.bool false], ⟨[⟨true, (some (.tab sc0 x1))⟩, ⟨true, (some (.tab sc0 x2))⟩], 2, []⟩), ((Nat.beq (r40l0 m x0 x1 x2) 1), .exit 0, [anyV], ⟨[⟨true, (some (.tab sc0 x1))⟩, ⟨true, (some (.tab sc0 x2))⟩], 2, []⟩)] else noQ vals s
 | _, _ => noQ vals s
noncomputable def w40l0 (ih : Int → List (List Int) → List (List Int) → Nat) (x0 : Int) (x1 x2 : List (List Int)) : Option (Fin' × List Value × St) :=
 let c809 := (r75 ((x1.getD (Int.toNat x0) []).getD 0 0) ((x1.getD (Int.toNat x0) []).getD 1 0) (Int.toNat ((x1.getD (Int.toNat x0) []).getD 2 0)) (Int.toNat ((x1.getD (Int.toNat x0) []).getD 3 0)) (Int.toNat ((x1.getD (Int.toNat x0) []).getD 4 0)) (Int.toNat ((x1.getD (Int.toNat x0) []).getD 5 0)) (Int.toNat ((x1.getD (Int.toNat x0) []).getD 6 0)) (Int.toNat ((x1.getD (Int.toNat x0) []).getD 7 0)) ((x2.getD (Int.toNat x0) []).getD 0 0) ((x2.getD (Int.toNat x0) []).getD 1 0) (Int.toNat ((x2.getD (Int.toNat x0) []).getD 2 0)) (Int.toNat ((x2.getD (Int.toNat x0) []).getD 3 0)) (Int.toNat ((x2.getD (Int.toNat x0) []).getD 4 0)) (Int.toNat ((x2.getD (Int.toNat x0) []).getD 5 0)) (Int.toNat ((x2.getD (Int.toNat x0) []).getD 6 0)) (Int.toNat ((x2.getD (Int.toNat x0) []).getD 7 0)))
 (cond (decide ((x0 : Int) < ((x1.length : Nat) : Int)))
 (cond ((decide ((0 : Int) ≤ x0)) && (Nat.blt (Int.toNat x0) x1.length))
  (cond (Nat.blt (Int.toNat x0) x1.length)
   (cond ((decide ((0 : Int) ≤ x0)) && (Nat.blt (Int.toNat x0) x2.length))
    (cond (Nat.blt (Int.toNat x0) x2.length)
     (cond (!c809)
      (a40l0 x0 x1 x2 (0))
      (u40l0 x0 x1 x2 (ih (IntKind.i64.wrap (x0 + 1)) x1 x2)))
     none)
    none)
   none)
  none)
 (a40l0 x0 x1 x2 (1)))
set_option maxRecDepth 100000 in
set_option maxHeartbeats 4000000 in
theorem e40l0 (m : Nat) (x0 : Int) (x1 x2 : List (List Int)) : evC Tryd.prog ext T46 noL 200 (loopN Tryd.f40 0) (loopTail ([0, 1, 5], []) [4] [] (sumK 27 [0, 1, 5] [4] (q40l0 m))) (frameOf 27 [0, 1, 5] [wsl 0, wsl 1, vi x0]) ⟨[⟨true, (some (.tab sc0 x1))⟩, ⟨true, (some (.tab sc0 x2))⟩], 2, []⟩ = firstT ([((Nat.beq (r40l0 (m + 1) x0 x1 x2) 0), .ret, [.bool false], ⟨[⟨true, (some (.tab sc0 x1))⟩, ⟨true, (some (.tab sc0 x2))⟩], 2, []⟩), ((Nat.beq (r40l0 (m + 1) x0 x1 x2) 1), .exit 0, [anyV], ⟨[⟨true, (some (.tab sc0 x1))⟩, ⟨true, (some (.tab sc0 x2))⟩], 2, []⟩)].map fun (b, x) => (b, (x.1, frameOf 27 [4] x.2.1, x.2.2))) :=
 (show evC Tryd.prog ext T46 noL 200 (loopN Tryd.f40 0) (loopTail ([0, 1, 5], []) [4] [] (sumK 27 [0, 1, 5] [4] (q40l0 m))) (frameOf 27 [0, 1, 5] [wsl 0, wsl 1, vi x0]) ⟨[⟨true, (some (.tab sc0 x1))⟩, ⟨true, (some (.tab sc0 x2))⟩], 2, []⟩ = w40l0 (r40l0 m) x0 x1 x2 from by kernel_rfl).trans
 (show w40l0 (r40l0 m) x0 x1 x2 = a40l0 x0 x1 x2 (r40l0 (m + 1) x0 x1 x2) from by unfold w40l0; show _ = a40l0 x0 x1 x2 (b40l0 (r40l0 m) x0 x1 x2); unfold b40l0; exact (cond_both (a40l0 x0 x1 x2) _ (fun h0 => (cond_both (a40l0 x0 x1 x2) _ (fun h1 => (cond_t (ev_and2 h1) (cond_both (a40l0 x0 x1 x2) _ (fun h2 => (cond_t (ev_and2 h2) (cond_app (a40l0 x0 x1 x2) _ rfl (v40l0 x0 x1 x2 ((r40l0 m) (IntKind.i64.wrap (x0 + 1)) x1 x2))))) (fun h2 => rfl)))) (fun h1 => rfl))) (fun h0 => rfl)))
set_option maxRecDepth 100000 in
set_option maxHeartbeats 4000000 in
theorem qm40l0 : ∀ m, SumKOk Tryd.prog (loopN Tryd.f40 0) 27 [0, 1, 5] [4] (q40l0 m) := by
  intro m
  induction m with
  | zero =>
    intro vals s x h1 h2 h3
    unfold q40l0 at h3; split at h3
    · rename_i h; split at h3
      · rename_i hc; obtain ⟨rfl, rfl⟩ := hc; exact absurd h3 (by simp [r40l0, firstT, Nat.beq])
      · exact noQ_ok _ _ _ h1 h2 h3
    · exact noQ_ok _ _ _ h1 h2 h3
  | succ m ih =>
    intro vals s x h1 h2 h3
    unfold q40l0 at h3; split at h3
    · rename_i h; split at h3
      · rename_i hc; obtain ⟨rfl, rfl⟩ := hc; exact sum_step ok46 extOk mixed ((lfOkF_no _ _).inner (by kernel_rfl)) ih h1 h2 h (e40l0 m _ _ _) rfl h3
      · exact noQ_ok _ _ _ h1 h2 h3
    · exact noQ_ok _ _ _ h1 h2 h3
noncomputable def Q40l0 : SumK := fun vals s => q40l0 (fuelOf vals s.h) vals s
theorem qok40l0 : SumKOk Tryd.prog (loopN Tryd.f40 0) 27 [0, 1, 5] [4] Q40l0 := fuel_ok qm40l0 fuelOf
noncomputable def L40_1 : LoopT := addL noL 5 ([0, 1, 5], []) (sumK 27 [0, 1, 5] [4] Q40l0)
theorem lok40_1 : LfOkF Tryd.prog L40_1 Tryd.f40 := lfOkF_add (lfOkF_no _ _) qok40l0 (by kernel_rfl) (by kernel_rfl) (by kernel_rfl)

/-- laws.eqWallS -/
noncomputable def w40 {α : Type} (x0 x1 : List (List Int)) (k : (Nat × Bool) → α) : α :=
 let c810 := (r40l0 (1000 + x1.length + x0.length) 0 x0 x1)
 cond ((((x0.length : Nat) : Int) : Int) != ((x1.length : Nat) : Int))
  (k (0, false))
  (cond (Nat.beq c810 0)
   (k (0, false))
   (cond (Nat.beq c810 1)
    (k (0, true))
    (k (1, false))))
noncomputable def r40 (x0 x1 : List (List Int)) : Nat × Bool := w40 x0 x1 (fun p => p)
noncomputable def g40 (x0 x1 : List (List Int)) (p : Nat × Bool) : List (Bool × Value × St) := [((Nat.beq (p.1) 0), .bool (p.2), ⟨[⟨true, (some (.tab sc0 x0))⟩, ⟨true, (some (.tab sc0 x1))⟩], 2, []⟩)]
theorem p40 {α : Type} (x0 x1 : List (List Int)) (f : (Nat × Bool) → α) : w40 x0 x1 f = f (w40 x0 x1 (fun p => p)) := by unfold w40; exact (cond_app f _ rfl (cond_app f _ rfl (cond_app f _ rfl rfl)))
set_option maxRecDepth 100000 in
set_option maxHeartbeats 4000000 in
theorem e40 (x0 x1 : List (List Int)) : evFn Tryd.prog ext T46 L40_1 200 Tryd.f40 [wsl 0, wsl 1] ⟨[⟨true, (some (.tab sc0 x0))⟩, ⟨true, (some (.tab sc0 x1))⟩], 2, []⟩ = firstT (g40 x0 x1 (r40 x0 x1)) :=
 Eq.trans (by kernel_rfl) (p40 x0 x1 (fun p => firstT (g40 x0 x1 p)))
noncomputable def s40 (args : List Value) (s : St) : List (Bool × Value × St) :=
 match args, s.h with
 | [.iface f0 .nilIface, .iface f1 .nilIface], [⟨true, some (.tab [.int .i64, .int .i64, .fl .f32, .fl .f32, .fl .f32, .fl .f32, .fl .f32, .fl .f32] x0)⟩, ⟨true, some (.tab [.int .i64, .int .i64, .fl .f32, .fl .f32, .fl .f32, .fl .f32, .fl .f32, .fl .f32] x1)⟩] => if f0 = 0 ∧ f1 = 1 then (g40 x0 x1 (r40 x0 x1)) else T46 40 args s
 | _, _ => T46 40 args s
noncomputable def T47 : CallF := addF T46 40 s40
set_option maxRecDepth 100000 in
set_option maxHeartbeats 4000000 in
theorem ok47 : CfOk Tryd.prog T47 := by
  refine cfOk_add ok46 fun args s r s' h1 h2 h3 => ?_
  unfold s40 at h3; split at h3
  · rename_i h; split at h3
    · rename_i hc; obtain ⟨rfl, rfl⟩ := hc; exact callOk ok46 Tryd.func40 h1 h2 h lok40_1.body (e40 _ _) rfl h3
    · exact ok46 _ _ _ _ _ h1 h2 h3
  · exact ok46 _ _ _ _ _ h1 h2 h3

/-- laws.eqPane -/
noncomputable def w76 {α : Type} (x0 x1 : Int) (x2 x3 : Nat) (x4 x5 : Int) (x6 x7 : Nat) (k : Bool → α) : α :=
 cond ((x0 : Int) != x4)
  (k (false))
  (cond ((x1 : Int) != x5)
   (k (false))
   (cond (!(r74 (widen x2) (widen x6)))
    (k (false))
    (cond (!(r74 (widen x3) (widen x7)))
     (k (false))
     (k (true)))))
noncomputable def r76 (x0 x1 : Int) (x2 x3 : Nat) (x4 x5 : Int) (x6 x7 : Nat) : Bool := w76 x0 x1 x2 x3 x4 x5 x6 x7 (fun p => p)
noncomputable def g76 (x0 x1 : Int) (x2 x3 : Nat) (x4 x5 : Int) (x6 x7 : Nat) (p : Bool) : List (Bool × Value × St) := [(true, .bool p, st0)]
theorem p76 {α : Type} (x0 x1 : Int) (x2 x3 : Nat) (x4 x5 : Int) (x6 x7 : Nat) (f : Bool → α) : w76 x0 x1 x2 x3 x4 x5 x6 x7 f = f (w76 x0 x1 x2 x3 x4 x5 x6 x7 (fun p => p)) := by unfold w76; exact (cond_app f _ rfl (cond_app f _ rfl (cond_app f _ rfl (cond_app f _ rfl rfl))))
set_option maxRecDepth 100000 in
set_option maxHeartbeats 4000000 in
theorem e76 (x0 x1 : Int) (x2 x3 : Nat) (x4 x5 : Int) (x6 x7 : Nat) : evFn Tryd.prog ext T47 noL 200 Tryd.f76 [.agg #[vi x0, vi x1, vf x2, vf x3], .agg #[vi x4, vi x5, vf x6, vf x7]] st0 = firstT (g76 x0 x1 x2 x3 x4 x5 x6 x7 (r76 x0 x1 x2 x3 x4 x5 x6 x7)) :=
 Eq.trans (by kernel_rfl) (p76 x0 x1 x2 x3 x4 x5 x6 x7 (fun p => firstT (g76 x0 x1 x2 x3 x4 x5 x6 x7 p)))
noncomputable def s76 (args : List Value) (s : St) : List (Bool × Value × St) :=
 match args, s.h with
 | [.agg ⟨[.int .i64 x0, .int .i64 x1, .float .f32 x2, .float .f32 x3]⟩, .agg ⟨[.int .i64 x4, .int .i64 x5, .float .f32 x6, .float .f32 x7]⟩], [] => (g76 x0 x1 x2 x3 x4 x5 x6 x7 (r76 x0 x1 x2 x3 x4 x5 x6 x7))
 | _, _ => T47 76 args s
noncomputable def T48 : CallF := addF T47 76 s76
set_option maxRecDepth 100000 in
set_option maxHeartbeats 4000000 in
theorem ok48 : CfOk Tryd.prog T48 := by
  refine cfOk_add ok47 fun args s r s' h1 h2 h3 => ?_
  unfold s76 at h3; split at h3
  · rename_i h; exact callOk ok47 Tryd.func76 h1 h2 h (lfOkF_no _ _).body (e76 _ _ _ _ _ _ _ _) rfl h3
  · exact ok47 _ _ _ _ _ h1 h2 h3

/-- laws.eqPaneS, loop 0: one round -/
noncomputable def b41l0 (ih : Int → List (List Int) → List (List Int) → Nat) (x0 : Int) (x1 x2 : List (List Int)) : Nat :=
 let c827 := (r76 ((x1.getD (Int.toNat x0) []).getD 0 0) ((x1.getD (Int.toNat x0) []).getD 1 0) (Int.toNat ((x1.getD (Int.toNat x0) []).getD 2 0)) (Int.toNat ((x1.getD (Int.toNat x0) []).getD 3 0)) ((x2.getD (Int.toNat x0) []).getD 0 0) ((x2.getD (Int.toNat x0) []).getD 1 0) (Int.toNat ((x2.getD (Int.toNat x0) []).getD 2 0)) (Int.toNat ((x2.getD (Int.toNat x0) []).getD 3 0)))
 cond (decide ((x0 : Int) < ((x1.length : Nat) : Int)))
  (cond ((decide ((0 : Int) ≤ x0)) && (Nat.blt (Int.toNat x0) x1.length))
   (cond ((decide ((0 : Int) ≤ x0)) && (Nat.blt (Int.toNat x0) x2.length))
    (cond (!c827)
     (0)
     (ih (IntKind.i64.wrap (x0 + 1)) x1 x2))
    (2))
   (2))
  (1)
noncomputable def r41l0 : Nat → Int → List (List Int) → List (List Int) → Nat
 | 0 => fun _ _ _ => (2)
 | m + 1 => b41l0 (r41l0 m)
noncomputable def a41l0 (x0 : Int) (x1 x2 : List (List Int)) (p : Nat) : Option (Fin' × List Value × St) := firstT ([((Nat.beq p 0), .ret, [.bool false], ⟨[⟨true, (some (.tab sc1 x1))⟩, ⟨true, (some (.tab sc1 x2))⟩], 2, []⟩), ((Nat.beq p 1), .exit 0, [anyV], ⟨[⟨true, (some (.tab sc1 x1))⟩, ⟨true, (some (.tab sc1 x2))⟩], 2, []⟩)].map fun (b, x) => (b, (x.1, frameOf 27 [4] x.2.1, x.2.2)))
noncomputable def u41l0 (x0 : Int) (x1 x2 : List (List Int)) (p : Nat) : Option (Fin' × List Value × St) := alts ([((Nat.beq p 0), .ret, [.bool false], ⟨[⟨true, (some (.tab sc1 x1))⟩, ⟨true, (some (.tab sc1 x2))⟩], 2, []⟩), ((Nat.beq p 1), .exit 0, [anyV], ⟨[⟨true, (some (.tab sc1 x1))⟩, ⟨true, (some (.tab sc1 x2))⟩], 2, []⟩)].map fun (b, x) => (b, (x.1, frameOf 27 [4] x.2.1, x.2.2))) some
theorem v41l0 (x0 : Int) (x1 x2 : List (List Int)) (p : Nat) : u41l0 x0 x1 x2 p = a41l0 x0 x1 x2 p := alts_first _
noncomputable def q41l0 (m : Nat) : SumK := fun vals s =>
 match vals, s.h with
 | [.iface f0 .nilIface, .iface f1 .nilIface, .int .i64 x0], [⟨true, some (.tab [.int .i64, .int .i64, .fl .f32, .fl .f32] x1)⟩, ⟨true, some (.tab [.int .i64, .int .i64, .fl .f32, .fl .f32] x2)⟩] => if f0 = 0 ∧ f1 = 1 then [((Nat.beq (r41l0 m x0 x1 x2) 0), .ret, [.bool false], ⟨[⟨true, (some (.tab sc1 x1))⟩, ⟨true, (some (.tab sc1 x2))⟩], 2, []⟩), ((Nat.beq (r41l0 m x0 x1 x2) 1), .exit 0, [anyV], ⟨[⟨true, (some (.tab sc1 x1))⟩, ⟨true, (some (.tab sc1 x2))⟩], 2, []⟩)] else noQ vals s
 | _, _ => noQ vals s
noncomputable def w41l0 (ih : Int → List (List Int) → List (List Int) → Nat) (x0 : Int) (x1 x2 : List (List Int)) : Option (Fin' × List Value × St) :=
 let c827 := (r76 ((x1.getD (Int.toNat x0) []).getD 0 0) ((x1.getD (Int.toNat x0) []).getD 1 0) (Int.toNat ((x1.getD (Int.toNat x0) []).getD 2 0)) (Int.toNat ((x1.getD (Int.toNat x0) []).getD 3 0)) ((x2.getD (Int.toNat x0) []).getD 0 0) ((x2.getD (Int.toNat x0) []).getD 1 0) (Int.toNat ((x2.getD (Int.toNat x0) []).getD 2 0)) (Int.toNat ((x2.getD (Int.toNat x0) []).getD 3 0)))
 (cond (decide ((x0 : Int) < ((x1.length : Nat) : Int)))
 (cond ((decide ((0 : Int) ≤ x0)) && (Nat.blt (Int.toNat x0) x1.length))
  (cond (Nat.blt (Int.toNat x0) x1.length)
   (cond ((decide ((0 : Int) ≤ x0)) && (Nat.blt (Int.toNat x0) x2.length))
    (cond (Nat.blt (Int.toNat x0) x2.length)
     (cond (!c827)
      (a41l0 x0 x1 x2 (0))
      (u41l0 x0 x1 x2 (ih (IntKind.i64.wrap (x0 + 1)) x1 x2)))
     none)
    none)
   none)
  none)
 (a41l0 x0 x1 x2 (1)))
set_option maxRecDepth 100000 in
set_option maxHeartbeats 4000000 in
theorem e41l0 (m : Nat) (x0 : Int) (x1 x2 : List (List Int)) : evC Tryd.prog ext T48 noL 200 (loopN Tryd.f41 0) (loopTail ([0, 1, 5], []) [4] [] (sumK 27 [0, 1, 5] [4] (q41l0 m))) (frameOf 27 [0, 1, 5] [wsl 0, wsl 1, vi x0]) ⟨[⟨true, (some (.tab sc1 x1))⟩, ⟨true, (some (.tab sc1 x2))⟩], 2, []⟩ = firstT ([((Nat.beq (r41l0 (m + 1) x0 x1 x2) 0), .ret, [.bool false], ⟨[⟨true, (some (.tab sc1 x1))⟩, ⟨true, (some (.tab sc1 x2))⟩], 2, []⟩), ((Nat.beq (r41l0 (m + 1) x0 x1 x2) 1), .exit 0, [anyV], ⟨[⟨true, (some (.tab sc1 x1))⟩, ⟨true, (some (.tab sc1 x2))⟩], 2, []⟩)].map fun (b, x) => (b, (x.1, frameOf 27 [4] x.2.1, x.2.2))) :=
 (show evC Tryd.prog ext T48 noL 200 (loopN Tryd.f41 0) (loopTail ([0, 1, 5], []) [4] [] (sumK 27 [0, 1, 5] [4] (q41l0 m))) (frameOf 27 [0, 1, 5] [wsl 0, wsl 1, vi x0]) ⟨[⟨true, (some (.tab sc1 x1))⟩, ⟨true, (some (.tab sc1 x2))⟩], 2, []⟩ = w41l0 (r41l0 m) x0 x1 x2 from by kernel_rfl).trans
 (show w41l0 (r41l0 m) x0 x1 x2 = a41l0 x0 x1 x2 (r41l0 (m + 1) x0 x1 x2) from by unfold w41l0; show _ = a41l0 x0 x1 x2 (b41l0 (r41l0 m) x0 x1 x2); unfold b41l0; exact (cond_both (a41l0 x0 x1 x2) _ (fun h0 => (cond_both (a41l0 x0 x1 x2) _ (fun h1 => (cond_t (ev_and2 h1) (cond_both (a41l0 x0 x1 x2) _ (fun h2 => (cond_t (ev_and2 h2) (cond_app (a41l0 x0 x1 x2) _ rfl (v41l0 x0 x1 x2 ((r41l0 m) (IntKind.i64.wrap (x0 + 1)) x1 x2))))) (fun h2 => rfl)))) (fun h1 => rfl))) (fun h0 => rfl)))
set_option maxRecDepth 100000 in
set_option maxHeartbeats 4000000 in
theorem qm41l0 : ∀ m, SumKOk Tryd.prog (loopN Tryd.f41 0) 27 [0, 1, 5] [4] (q41l0 m) := by
  intro m
  induction m with
  | zero =>
    intro vals s x h1 h2 h3
    unfold q41l0 at h3; split at h3
    · rename_i h; split at h3
      · rename_i hc; obtain ⟨rfl, rfl⟩ := hc; exact absurd h3 (by simp [r41l0, firstT, Nat.beq])
      · exact noQ_ok _ _ _ h1 h2 h3
    · exact noQ_ok _ _ _ h1 h2 h3
  | succ m ih =>
    intro vals s x h1 h2 h3
    unfold q41l0 at h3; split at h3
    · rename_i h; split at h3
      · rename_i hc; obtain ⟨rfl, rfl⟩ := hc; exact sum_step ok48 extOk mixed ((lfOkF_no _ _).inner (by kernel_rfl)) ih h1 h2 h (e41l0 m _ _ _) rfl h3
      · exact noQ_ok _ _ _ h1 h2 h3
    · exact noQ_ok _ _ _ h1 h2 h3
noncomputable def Q41l0 : SumK := fun vals s => q41l0 (fuelOf vals s.h) vals s
theorem qok41l0 : SumKOk Tryd.prog (loopN Tryd.f41 0) 27 [0, 1, 5] [4] Q41l0 := fuel_ok qm41l0 fuelOf
noncomputable def L41_1 : LoopT := addL noL 5 ([0, 1, 5], []) (sumK 27 [0, 1, 5] [4] Q41l0)
theorem lok41_1 : LfOkF Tryd.prog L41_1 Tryd.f41 := lfOkF_add (lfOkF_no _ _) qok41l0 (by kernel_rfl) (by kernel_rfl) (by kernel_rfl)

/-- laws.eqPaneS -/
noncomputable def w41 {α : Type} (x0 x1 : List (List Int)) (k : (Nat × Bool) → α) : α :=
 let c828 := (r41l0 (1000 + x1.length + x0.length) 0 x0 x1)
 cond ((((x0.length : Nat) : Int) : Int) != ((x1.length : Nat) : Int))
  (k (0, false))
  (cond (Nat.beq c828 0)
   (k (0, false))
   (cond (Nat.beq c828 1)
    (k (0, true))
    (k (1, false))))
noncomputable def r41 (x0 x1 : List (List Int)) : Nat × Bool := w41 x0 x1 (fun p => p)
noncomputable def g41 (x0 x1 : List (List Int)) (p : Nat × Bool) : List (Bool × Value × St) := [((Nat.beq (p.1) 0), .bool (p.2), ⟨[⟨true, (some (.tab sc1 x0))⟩, ⟨true, (some (.tab sc1 x1))⟩], 2, []⟩)]
theorem p41 {α : Type} (x0 x1 : List (List Int)) (f : (Nat × Bool) → α) : w41 x0 x1 f = f (w41 x0 x1 (fun p => p)) := by unfold w41; exact (cond_app f _ rfl (cond_app f _ rfl (cond_app f _ rfl rfl)))
set_option maxRecDepth 100000 in
set_option maxHeartbeats 4000000 in
theorem e41 (x0 x1 : List (List Int)) : evFn Tryd.prog ext T48 L41_1 200 Tryd.f41 [wsl 0, wsl 1] ⟨[⟨true, (some (.tab sc1 x0))⟩, ⟨true, (some (.tab sc1 x1))⟩], 2, []⟩ = firstT (g41 x0 x1 (r41 x0 x1)) :=
 Eq.trans (by kernel_rfl) (p41 x0 x1 (fun p => firstT (g41 x0 x1 p)))
noncomputable def s41 (args : List Value) (s : St) : List (Bool × Value × St) :=
 match args, s.h with
 | [.iface f0 .nilIface, .iface f1 .nilIface], [⟨true, some (.tab [.int .i64, .int .i64, .fl .f32, .fl .f32] x0)⟩, ⟨true, some (.tab [.int .i64, .int .i64, .fl .f32, .fl .f32] x1)⟩] => if f0 = 0 ∧ f1 = 1 then (g41 x0 x1 (r41 x0 x1)) else T48 41 args s
 | _, _ => T48 41 args s
noncomputable def T49 : CallF := addF T48 41 s41
set_option maxRecDepth 100000 in
set_option maxHeartbeats 4000000 in
theorem ok49 : CfOk Tryd.prog T49 := by
  refine cfOk_add ok48 fun args s r s' h1 h2 h3 => ?_
  unfold s41 at h3; split at h3
  · rename_i h; split at h3
    · rename_i hc; obtain ⟨rfl, rfl⟩ := hc; exact callOk ok48 Tryd.func41 h1 h2 h lok41_1.body (e41 _ _) rfl h3
    · exact ok48 _ _ _ _ _ h1 h2 h3
  · exact ok48 _ _ _ _ _ h1 h2 h3

/-- laws.eqFlat -/
noncomputable def w14 {α : Type} (x0 x1 x2 x3 x4 x5 x6 x7 : List (List Int)) (k : (Nat × Bool) → α) : α :=
 cond (Nat.beq ((r39 x0 x4).1) 0)
  (cond (!((r39 x0 x4).2))
   (k (0, false))
   (cond (Nat.beq ((r39 x1 x5).1) 0)
    (cond (!((r39 x1 x5).2))
     (k (0, false))
     (cond (Nat.beq ((r40 x2 x6).1) 0)
      (cond (!((r40 x2 x6).2))
       (k (0, false))
       (cond (Nat.beq ((r41 x3 x7).1) 0)
        (cond (!((r41 x3 x7).2))
         (k (0, false))
         (k (0, true)))
        (k (1, false))))
      (k (1, false))))
    (k (1, false))))
  (k (1, false))
noncomputable def r14 (x0 x1 x2 x3 x4 x5 x6 x7 : List (List Int)) : Nat × Bool := w14 x0 x1 x2 x3 x4 x5 x6 x7 (fun p => p)
noncomputable def g14 (x0 x1 x2 x3 x4 x5 x6 x7 : List (List Int)) (p : Nat × Bool) : List (Bool × Value × St) := [((Nat.beq (p.1) 0), .bool (p.2), ⟨[⟨true, (some (.tab [.fl .f32] x0))⟩, ⟨true, (some (.tab [.fl .f32] x1))⟩, ⟨true, (some (.tab sc0 x2))⟩, ⟨true, (some (.tab sc1 x3))⟩, ⟨true, (some (.tab [.fl .f32] x4))⟩, ⟨true, (some (.tab [.fl .f32] x5))⟩, ⟨true, (some (.tab sc0 x6))⟩, ⟨true, (some (.tab sc1 x7))⟩], 8, []⟩)]
theorem p14 {α : Type} (x0 x1 x2 x3 x4 x5 x6 x7 : List (List Int)) (f : (Nat × Bool) → α) : w14 x0 x1 x2 x3 x4 x5 x6 x7 f = f (w14 x0 x1 x2 x3 x4 x5 x6 x7 (fun p => p)) := by unfold w14; repeat' (first | refine cond_app f _ ?_ ?_ | rfl)
set_option maxRecDepth 100000 in
set_option maxHeartbeats 4000000 in
theorem e14 (x0 x1 x2 x3 x4 x5 x6 x7 : List (List Int)) : evFn Tryd.prog ext T49 noL 200 Tryd.f14 [.agg #[wsl 0, wsl 1, wsl 2, wsl 3], .agg #[wsl 4, wsl 5, wsl 6, wsl 7]] ⟨[⟨true, (some (.tab [.fl .f32] x0))⟩, ⟨true, (some (.tab [.fl .f32] x1))⟩, ⟨true, (some (.tab sc0 x2))⟩, ⟨true, (some (.tab sc1 x3))⟩, ⟨true, (some (.tab [.fl .f32] x4))⟩, ⟨true, (some (.tab [.fl .f32] x5))⟩, ⟨true, (some (.tab sc0 x6))⟩, ⟨true, (some (.tab sc1 x7))⟩], 8, []⟩ = firstT (g14 x0 x1 x2 x3 x4 x5 x6 x7 (r14 x0 x1 x2 x3 x4 x5 x6 x7)) :=
 Eq.trans (by kernel_rfl) (p14 x0 x1 x2 x3 x4 x5 x6 x7 (fun p => firstT (g14 x0 x1 x2 x3 x4 x5 x6 x7 p)))
noncomputable def s14 (args : List Value) (s : St) : List (Bool × Value × St) :=
 match args, s.h with
 | [.agg ⟨[.iface f0 .nilIface, .iface f1 .nilIface, .iface f2 .nilIface, .iface f3 .nilIface]⟩, .agg ⟨[.iface f4 .nilIface, .iface f5 .nilIface, .iface f6 .nilIface, .iface f7 .nilIface]⟩], [⟨true, some (.tab [.fl .f32] x0)⟩, ⟨true, some (.tab [.fl .f32] x1)⟩, ⟨true, some (.tab [.int .i64, .int .i64, .fl .f32, .fl .f32, .fl .f32, .fl .f32, .fl .f32, .fl .f32] x2)⟩, ⟨true, some (.tab [.int .i64, .int .i64, .fl .f32, .fl .f32] x3)⟩, ⟨true, some (.tab [.fl .f32] x4)⟩, ⟨true, some (.tab [.fl .f32] x5)⟩, ⟨true, some (.tab [.int .i64, .int .i64, .fl .f32, .fl .f32, .fl .f32, .fl .f32, .fl .f32, .fl .f32] x6)⟩, ⟨true, some (.tab [.int .i64, .int .i64, .fl .f32, .fl .f32] x7)⟩] => if f0 = 0 ∧ f1 = 1 ∧ f2 = 2 ∧ f3 = 3 ∧ f4 = 4 ∧ f5 = 5 ∧ f6 = 6 ∧ f7 = 7 then (g14 x0 x1 x2 x3 x4 x5 x6 x7 (r14 x0 x1 x2 x3 x4 x5 x6 x7)) else T49 14 args s
 | _, _ => T49 14 args s
noncomputable def T50 : CallF := addF T49 14 s14
set_option maxRecDepth 100000 in
set_option maxHeartbeats 4000000 in
theorem ok50 : CfOk Tryd.prog T50 := by
  refine cfOk_add ok49 fun args s r s' h1 h2 h3 => ?_
  unfold s14 at h3; split at h3
  · rename_i h; split at h3
    · rename_i hc; obtain ⟨rfl, rfl, rfl, rfl, rfl, rfl, rfl, rfl⟩ := hc; exact callOk ok49 Tryd.func14 h1 h2 h (lfOkF_no _ _).body (e14 _ _ _ _ _ _ _ _) rfl h3
    · exact ok49 _ _ _ _ _ h1 h2 h3
  · exact ok49 _ _ _ _ _ h1 h2 h3

/-- laws.FnExactFlatText -/
noncomputable def r4 (x0 x1 x2 x3 : List (List Int)) : Nat × Bool :=
 let c376 := (r11 ((r12 x0 x1 x2 x3).2.1) ((r12 x0 x1 x2 x3).2.2.1) ((r12 x0 x1 x2 x3).2.2.2.1) ((r12 x0 x1 x2 x3).2.2.2.2))
 let c774 := (r13 ((r12 x0 x1 x2 x3).2.1) ((r12 x0 x1 x2 x3).2.2.1) ((r12 x0 x1 x2 x3).2.2.2.1) ((r12 x0 x1 x2 x3).2.2.2.2))
 let c829 := (r14 ((r12 x0 x1 x2 x3).2.1) ((r12 x0 x1 x2 x3).2.2.1) ((r12 x0 x1 x2 x3).2.2.2.1) ((r12 x0 x1 x2 x3).2.2.2.2) ((r12 x0 x1 x2 x3).2.1) ((r12 x0 x1 x2 x3).2.2.1) ((r12 x0 x1 x2 x3).2.2.2.1) ((r12 x0 x1 x2 x3).2.2.2.2))
 cond (decide (((r10 1048576 x0 x1 x2 x3) : Int) < 0))
  (0, true)
  (cond (Nat.beq ((r12 x0 x1 x2 x3).1) 0)
   (cond (Nat.beq (c376.1) 0)
    (cond (Nat.beq (c774.1) 0)
     (cond (!((c774.2).toList == (c376.2).toList))
      (0, false)
      (cond (Nat.beq (c829.1) 0)
       (cond (!(c829.2))
        (0, false)
        (0, true))
       (1, false)))
     (1, false))
    (1, false))
   (1, false))
noncomputable def a4 (x0 x1 x2 x3 : List (List Int)) (p : Nat × Bool) : Res := firstT [((Nat.beq (p.1) 0), .bool (p.2), ⟨[⟨false, (some (.tab [.fl .f32] x0))⟩, ⟨false, (some (.tab [.fl .f32] x1))⟩, ⟨false, (some (.tab sc0 x2))⟩, ⟨false, (some (.tab sc1 x3))⟩], 4, []⟩)]
noncomputable def w4 (x0 x1 x2 x3 : List (List Int)) : Res :=
 let c376 := (r11 ((r12 x0 x1 x2 x3).2.1) ((r12 x0 x1 x2 x3).2.2.1) ((r12 x0 x1 x2 x3).2.2.2.1) ((r12 x0 x1 x2 x3).2.2.2.2))
 let c774 := (r13 ((r12 x0 x1 x2 x3).2.1) ((r12 x0 x1 x2 x3).2.2.1) ((r12 x0 x1 x2 x3).2.2.2.1) ((r12 x0 x1 x2 x3).2.2.2.2))
 let c829 := (r14 ((r12 x0 x1 x2 x3).2.1) ((r12 x0 x1 x2 x3).2.2.1) ((r12 x0 x1 x2 x3).2.2.2.1) ((r12 x0 x1 x2 x3).2.2.2.2) ((r12 x0 x1 x2 x3).2.1) ((r12 x0 x1 x2 x3).2.2.1) ((r12 x0 x1 x2 x3).2.2.2.1) ((r12 x0 x1 x2 x3).2.2.2.2))
 (cond (decide (((r10 1048576 x0 x1 x2 x3) : Int) < 0))
 (a4 x0 x1 x2 x3 (0, true))
 (cond (Nat.beq ((r12 x0 x1 x2 x3).1) 0)
  (cond (Nat.beq (c376.1) 0)
   (cond (Nat.beq ((r12 x0 x1 x2 x3).1) 0)
    (cond (Nat.beq (c774.1) 0)
     (cond (!((c774.2).toList == (c376.2).toList))
      (a4 x0 x1 x2 x3 (0, false))
      (cond (Nat.beq ((r12 x0 x1 x2 x3).1) 0)
       (cond (Nat.beq (c829.1) 0)
        (cond (!(c829.2))
         (a4 x0 x1 x2 x3 (0, false))
         (a4 x0 x1 x2 x3 (0, true)))
        none)
       none))
     none)
    none)
   none)
  none))
set_option maxRecDepth 100000 in
set_option maxHeartbeats 4000000 in
theorem e4 (x0 x1 x2 x3 : List (List Int)) : evFn Tryd.prog ext T50 noL 200 Tryd.f4 [.agg #[wsl 0, wsl 1, wsl 2, wsl 3]] ⟨[⟨false, (some (.tab [.fl .f32] x0))⟩, ⟨false, (some (.tab [.fl .f32] x1))⟩, ⟨false, (some (.tab sc0 x2))⟩, ⟨false, (some (.tab sc1 x3))⟩], 4, []⟩ = firstT [((Nat.beq ((r4 x0 x1 x2 x3).1) 0), .bool ((r4 x0 x1 x2 x3).2), ⟨[⟨false, (some (.tab [.fl .f32] x0))⟩, ⟨false, (some (.tab [.fl .f32] x1))⟩, ⟨false, (some (.tab sc0 x2))⟩, ⟨false, (some (.tab sc1 x3))⟩], 4, []⟩)] :=
 (show evFn Tryd.prog ext T50 noL 200 Tryd.f4 [.agg #[wsl 0, wsl 1, wsl 2, wsl 3]] ⟨[⟨false, (some (.tab [.fl .f32] x0))⟩, ⟨false, (some (.tab [.fl .f32] x1))⟩, ⟨false, (some (.tab sc0 x2))⟩, ⟨false, (some (.tab sc1 x3))⟩], 4, []⟩ = w4 x0 x1 x2 x3 from by kernel_rfl).trans
 (show w4 x0 x1 x2 x3 = a4 x0 x1 x2 x3 (r4 x0 x1 x2 x3) from by unfold w4 r4; exact (cond_both (a4 x0 x1 x2 x3) _ (fun h0 => rfl) (fun h0 => (cond_both (a4 x0 x1 x2 x3) _ (fun h1 => (cond_both (a4 x0 x1 x2 x3) _ (fun h2 => (cond_t h1 (cond_both (a4 x0 x1 x2 x3) _ (fun h3 => (cond_both (a4 x0 x1 x2 x3) _ (fun h4 => rfl) (fun h4 => (cond_t h1 (cond_app (a4 x0 x1 x2 x3) _ (cond_app (a4 x0 x1 x2 x3) _ rfl rfl) rfl))))) (fun h3 => rfl)))) (fun h2 => rfl))) (fun h1 => rfl)))))
noncomputable def s4 (args : List Value) (s : St) : List (Bool × Value × St) :=
 match args, s.h with
 | [.agg ⟨[.iface f0 .nilIface, .iface f1 .nilIface, .iface f2 .nilIface, .iface f3 .nilIface]⟩], [⟨false, some (.tab [.fl .f32] x0)⟩, ⟨false, some (.tab [.fl .f32] x1)⟩, ⟨false, some (.tab [.int .i64, .int .i64, .fl .f32, .fl .f32, .fl .f32, .fl .f32, .fl .f32, .fl .f32] x2)⟩, ⟨false, some (.tab [.int .i64, .int .i64, .fl .f32, .fl .f32] x3)⟩] => if f0 = 0 ∧ f1 = 1 ∧ f2 = 2 ∧ f3 = 3 then [((Nat.beq ((r4 x0 x1 x2 x3).1) 0), .bool ((r4 x0 x1 x2 x3).2), ⟨[⟨false, (some (.tab [.fl .f32] x0))⟩, ⟨false, (some (.tab [.fl .f32] x1))⟩, ⟨false, (some (.tab sc0 x2))⟩, ⟨false, (some (.tab sc1 x3))⟩], 4, []⟩)] else T50 4 args s
 | _, _ => T50 4 args s
noncomputable def T51 : CallF := addF T50 4 s4
set_option maxRecDepth 100000 in
set_option maxHeartbeats 4000000 in
theorem ok51 : CfOk Tryd.prog T51 := by
  refine cfOk_add ok50 fun args s r s' h1 h2 h3 => ?_
  unfold s4 at h3; split at h3
  · rename_i h; split at h3
    · rename_i hc; obtain ⟨rfl, rfl, rfl, rfl⟩ := hc; exact callOk ok50 Tryd.func4 h1 h2 h (lfOkF_no _ _).body (e4 _ _ _ _) rfl h3
    · exact ok50 _ _ _ _ _ h1 h2 h3
  · exact ok50 _ _ _ _ _ h1 h2 h3
end Go.Proofs.YtffpnkkhcgjmfaaDoor
