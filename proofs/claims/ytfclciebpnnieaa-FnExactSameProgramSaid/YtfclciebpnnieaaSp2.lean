/- What the functions that the statements reach answer, part 2. -/
import Derived.Test.YtfclciebpnnieaaSp1
namespace Go.Proofs.Ytfclciebpnnieaa
open Go.Ab

/-- laws.eqOp -/
noncomputable def r74 (x0 x1 : Int) (x2 : Nat) (x3 x4 : Int) (x5 : Nat) : Bool :=
 cond ((x0 : Int) != x3)
  (false)
  (cond ((x1 : Int) != x4)
   (false)
   (cond (!(r20 (widen x2) (widen x5)))
    (false)
    (true)))
noncomputable def a74 (x0 x1 : Int) (x2 : Nat) (x3 x4 : Int) (x5 : Nat) (p : Bool) : Res := firstT [(true, .bool p, st0)]
noncomputable def t74 (x0 x1 : Int) (x2 : Nat) (x3 x4 : Int) (x5 : Nat) : Res :=
 (cond ((x0 : Int) != x3)
 (some (.bool false, st0))
 (cond ((x1 : Int) != x4)
  (some (.bool false, st0))
  (cond (!(r20 (widen x2) (widen x5)))
   (some (.bool false, st0))
   (some (.bool true, st0)))))
set_option maxRecDepth 100000 in
set_option maxHeartbeats 4000000 in
theorem e74 (x0 x1 : Int) (x2 : Nat) (x3 x4 : Int) (x5 : Nat) : evFn Try.prog ext T14 noL 200 Try.f74 [.agg #[.int .i8 x0, .int .i16 x1, .float .f32 x2], .agg #[.int .i8 x3, .int .i16 x4, .float .f32 x5]] st0 = firstT [(true, .bool (r74 x0 x1 x2 x3 x4 x5), st0)] :=
 (show evFn Try.prog ext T14 noL 200 Try.f74 [.agg #[.int .i8 x0, .int .i16 x1, .float .f32 x2], .agg #[.int .i8 x3, .int .i16 x4, .float .f32 x5]] st0 = t74 x0 x1 x2 x3 x4 x5 from by kernel_rfl).trans
 (show t74 x0 x1 x2 x3 x4 x5 = a74 x0 x1 x2 x3 x4 x5 (r74 x0 x1 x2 x3 x4 x5) from (cond_app (a74 x0 x1 x2 x3 x4 x5) _ rfl (cond_app (a74 x0 x1 x2 x3 x4 x5) _ rfl (cond_app (a74 x0 x1 x2 x3 x4 x5) _ rfl rfl))))
noncomputable def s74 (args : List Value) (s : St) : List (Bool × Value × St) :=
 match args, s.h with
 | [.agg ⟨[.int .i8 x0, .int .i16 x1, .float .f32 x2]⟩, .agg ⟨[.int .i8 x3, .int .i16 x4, .float .f32 x5]⟩], [] => [(true, .bool (r74 x0 x1 x2 x3 x4 x5), st0)]
 | _, _ => T14 74 args s
noncomputable def T15 : CallF := addF T14 74 s74
set_option maxRecDepth 100000 in
set_option maxHeartbeats 4000000 in
theorem ok15 : CfOk Try.prog T15 := by
  refine cfOk_add ok14 fun args s r s' h1 h2 h3 => ?_
  unfold s74 at h3; split at h3
  · rename_i h; exact callOk ok14 Try.func74 h1 h2 h (lfOkF_no _ _).body (e74 _ _ _ _ _ _) rfl h3
  · exact ok14 _ _ _ _ _ h1 h2 h3

/-- laws.eqOpS, loop 0: one round -/
noncomputable def b47l0 (ih : Int → List (List Int) → List (List Int) → Nat) (x0 : Int) (x1 x2 : List (List Int)) : Nat :=
 let c20 := (r74 ((x1.getD (Int.toNat x0) []).getD 0 0) ((x1.getD (Int.toNat x0) []).getD 1 0) (Int.toNat ((x1.getD (Int.toNat x0) []).getD 2 0)) ((x2.getD (Int.toNat x0) []).getD 0 0) ((x2.getD (Int.toNat x0) []).getD 1 0) (Int.toNat ((x2.getD (Int.toNat x0) []).getD 2 0)))
 cond (decide ((x0 : Int) < ((x1.length : Nat) : Int)))
  (cond ((decide ((0 : Int) ≤ x0)) && (Nat.blt (Int.toNat x0) x1.length))
   (cond ((decide ((0 : Int) ≤ x0)) && (Nat.blt (Int.toNat x0) x2.length))
    (cond (!c20)
     (0)
     (ih (IntKind.i64.wrap (x0 + 1)) x1 x2))
    (2))
   (2))
  (1)
noncomputable def r47l0 : Nat → Int → List (List Int) → List (List Int) → Nat
 | 0, _, _, _ => (2)
 | m + 1, x0, x1, x2 => b47l0 (r47l0 m) x0 x1 x2
noncomputable def a47l0 (x0 : Int) (x1 x2 : List (List Int)) (p : Nat) : Option (Fin' × List Value × St) := firstT ([((Nat.beq p 0), .ret, [.bool false], ⟨[⟨true, (some (.tab [.int .i8, .int .i16, .fl .f32] x1))⟩, ⟨true, (some (.tab [.int .i8, .int .i16, .fl .f32] x2))⟩], 2, []⟩), ((Nat.beq p 1), .exit 0, [anyV], ⟨[⟨true, (some (.tab [.int .i8, .int .i16, .fl .f32] x1))⟩, ⟨true, (some (.tab [.int .i8, .int .i16, .fl .f32] x2))⟩], 2, []⟩)].map fun (b, x) => (b, (x.1, frameOf 27 [4] x.2.1, x.2.2)))
theorem v47l0 (x0 : Int) (x1 x2 : List (List Int)) (p : Nat) : alts ([((Nat.beq p 0), .ret, [.bool false], ⟨[⟨true, (some (.tab [.int .i8, .int .i16, .fl .f32] x1))⟩, ⟨true, (some (.tab [.int .i8, .int .i16, .fl .f32] x2))⟩], 2, []⟩), ((Nat.beq p 1), .exit 0, [anyV], ⟨[⟨true, (some (.tab [.int .i8, .int .i16, .fl .f32] x1))⟩, ⟨true, (some (.tab [.int .i8, .int .i16, .fl .f32] x2))⟩], 2, []⟩)].map fun (b, x) => (b, (x.1, frameOf 27 [4] x.2.1, x.2.2))) some = a47l0 x0 x1 x2 p := alts_first _
noncomputable def q47l0 (m : Nat) : SumK := fun vals s =>
 match vals, s.h with
 | [.iface f0 .nilIface, .iface f1 .nilIface, .int .i64 x0], [⟨true, some (.tab [.int .i8, .int .i16, .fl .f32] x1)⟩, ⟨true, some (.tab [.int .i8, .int .i16, .fl .f32] x2)⟩] => if f0 = 0 ∧ f1 = 1 then [((Nat.beq (r47l0 m x0 x1 x2) 0), .ret, [.bool false], ⟨[⟨true, (some (.tab [.int .i8, .int .i16, .fl .f32] x1))⟩, ⟨true, (some (.tab [.int .i8, .int .i16, .fl .f32] x2))⟩], 2, []⟩), ((Nat.beq (r47l0 m x0 x1 x2) 1), .exit 0, [anyV], ⟨[⟨true, (some (.tab [.int .i8, .int .i16, .fl .f32] x1))⟩, ⟨true, (some (.tab [.int .i8, .int .i16, .fl .f32] x2))⟩], 2, []⟩)] else noQ vals s
 | _, _ => noQ vals s
noncomputable def t47l0 (ih : Int → List (List Int) → List (List Int) → Nat) (x0 : Int) (x1 x2 : List (List Int)) : Option (Fin' × List Value × St) :=
 let c20 := (r74 ((x1.getD (Int.toNat x0) []).getD 0 0) ((x1.getD (Int.toNat x0) []).getD 1 0) (Int.toNat ((x1.getD (Int.toNat x0) []).getD 2 0)) ((x2.getD (Int.toNat x0) []).getD 0 0) ((x2.getD (Int.toNat x0) []).getD 1 0) (Int.toNat ((x2.getD (Int.toNat x0) []).getD 2 0)))
 (cond (decide ((x0 : Int) < ((x1.length : Nat) : Int)))
 (cond ((decide ((0 : Int) ≤ x0)) && (Nat.blt (Int.toNat x0) x1.length))
  (cond ((decide ((0 : Int) ≤ x0)) && (Nat.blt (Int.toNat x0) x2.length))
   (cond (!c20)
    (some (.ret, frameOf 27 [4] [.bool false], ⟨[⟨true, (some (.tab [.int .i8, .int .i16, .fl .f32] x1))⟩, ⟨true, (some (.tab [.int .i8, .int .i16, .fl .f32] x2))⟩], 2, []⟩))
    (cond (Nat.beq (ih (IntKind.i64.wrap (x0 + 1)) x1 x2) 0)
     (some (.ret, frameOf 27 [4] [.bool false], ⟨[⟨true, (some (.tab [.int .i8, .int .i16, .fl .f32] x1))⟩, ⟨true, (some (.tab [.int .i8, .int .i16, .fl .f32] x2))⟩], 2, []⟩))
     (cond (Nat.beq (ih (IntKind.i64.wrap (x0 + 1)) x1 x2) 1)
      (some (.exit 0, frameOf 27 [4] [anyV], ⟨[⟨true, (some (.tab [.int .i8, .int .i16, .fl .f32] x1))⟩, ⟨true, (some (.tab [.int .i8, .int .i16, .fl .f32] x2))⟩], 2, []⟩))
      none)))
   none)
  none)
 (some (.exit 0, frameOf 27 [4] [anyV], ⟨[⟨true, (some (.tab [.int .i8, .int .i16, .fl .f32] x1))⟩, ⟨true, (some (.tab [.int .i8, .int .i16, .fl .f32] x2))⟩], 2, []⟩)))
noncomputable def w47l0 (ih : Int → List (List Int) → List (List Int) → Nat) (x0 : Int) (x1 x2 : List (List Int)) : Option (Fin' × List Value × St) :=
 let c20 := (r74 ((x1.getD (Int.toNat x0) []).getD 0 0) ((x1.getD (Int.toNat x0) []).getD 1 0) (Int.toNat ((x1.getD (Int.toNat x0) []).getD 2 0)) ((x2.getD (Int.toNat x0) []).getD 0 0) ((x2.getD (Int.toNat x0) []).getD 1 0) (Int.toNat ((x2.getD (Int.toNat x0) []).getD 2 0)))
 (cond (decide ((x0 : Int) < ((x1.length : Nat) : Int)))
 (cond ((decide ((0 : Int) ≤ x0)) && (Nat.blt (Int.toNat x0) x1.length))
  (cond (Nat.blt (Int.toNat x0) x1.length)
   (cond ((decide ((0 : Int) ≤ x0)) && (Nat.blt (Int.toNat x0) x2.length))
    (cond (Nat.blt (Int.toNat x0) x2.length)
     (cond (!c20)
      (some (.ret, frameOf 27 [4] [.bool false], ⟨[⟨true, (some (.tab [.int .i8, .int .i16, .fl .f32] x1))⟩, ⟨true, (some (.tab [.int .i8, .int .i16, .fl .f32] x2))⟩], 2, []⟩))
      (cond (Nat.beq (ih (IntKind.i64.wrap (x0 + 1)) x1 x2) 0)
       (some (.ret, frameOf 27 [4] [.bool false], ⟨[⟨true, (some (.tab [.int .i8, .int .i16, .fl .f32] x1))⟩, ⟨true, (some (.tab [.int .i8, .int .i16, .fl .f32] x2))⟩], 2, []⟩))
       (cond (Nat.beq (ih (IntKind.i64.wrap (x0 + 1)) x1 x2) 1)
        (some (.exit 0, frameOf 27 [4] [anyV], ⟨[⟨true, (some (.tab [.int .i8, .int .i16, .fl .f32] x1))⟩, ⟨true, (some (.tab [.int .i8, .int .i16, .fl .f32] x2))⟩], 2, []⟩))
        none)))
     none)
    none)
   none)
  none)
 (some (.exit 0, frameOf 27 [4] [anyV], ⟨[⟨true, (some (.tab [.int .i8, .int .i16, .fl .f32] x1))⟩, ⟨true, (some (.tab [.int .i8, .int .i16, .fl .f32] x2))⟩], 2, []⟩)))
set_option maxRecDepth 100000 in
set_option maxHeartbeats 4000000 in
theorem e47l0 (m : Nat) (x0 : Int) (x1 x2 : List (List Int)) : evC Try.prog ext T15 noL 200 (loopN Try.f47 0) (loopTail [0, 1, 5] [4] [] (sumK 27 [0, 1, 5] [4] (q47l0 m))) (frameOf 27 [0, 1, 5] [wsl 0, wsl 1, .int .i64 x0]) ⟨[⟨true, (some (.tab [.int .i8, .int .i16, .fl .f32] x1))⟩, ⟨true, (some (.tab [.int .i8, .int .i16, .fl .f32] x2))⟩], 2, []⟩ = firstT ([((Nat.beq (r47l0 (m + 1) x0 x1 x2) 0), .ret, [.bool false], ⟨[⟨true, (some (.tab [.int .i8, .int .i16, .fl .f32] x1))⟩, ⟨true, (some (.tab [.int .i8, .int .i16, .fl .f32] x2))⟩], 2, []⟩), ((Nat.beq (r47l0 (m + 1) x0 x1 x2) 1), .exit 0, [anyV], ⟨[⟨true, (some (.tab [.int .i8, .int .i16, .fl .f32] x1))⟩, ⟨true, (some (.tab [.int .i8, .int .i16, .fl .f32] x2))⟩], 2, []⟩)].map fun (b, x) => (b, (x.1, frameOf 27 [4] x.2.1, x.2.2))) :=
 (show evC Try.prog ext T15 noL 200 (loopN Try.f47 0) (loopTail [0, 1, 5] [4] [] (sumK 27 [0, 1, 5] [4] (q47l0 m))) (frameOf 27 [0, 1, 5] [wsl 0, wsl 1, .int .i64 x0]) ⟨[⟨true, (some (.tab [.int .i8, .int .i16, .fl .f32] x1))⟩, ⟨true, (some (.tab [.int .i8, .int .i16, .fl .f32] x2))⟩], 2, []⟩ = w47l0 (r47l0 m) x0 x1 x2 from by kernel_rfl).trans
 ((show w47l0 (r47l0 m) x0 x1 x2 = t47l0 (r47l0 m) x0 x1 x2 from (cond_cong _ (fun h0 => (cond_cong _ (fun h1 => (cond_t (ev_and2 h1) (cond_cong _ (fun h2 => (cond_t (ev_and2 h2) rfl)) (fun h2 => rfl)))) (fun h1 => rfl))) (fun h0 => rfl))).trans
 (show t47l0 (r47l0 m) x0 x1 x2 = a47l0 x0 x1 x2 (r47l0 (m + 1) x0 x1 x2) from (cond_app (a47l0 x0 x1 x2) _ (cond_app (a47l0 x0 x1 x2) _ (cond_app (a47l0 x0 x1 x2) _ (cond_app (a47l0 x0 x1 x2) _ rfl (v47l0 x0 x1 x2 ((r47l0 m) (IntKind.i64.wrap (x0 + 1)) x1 x2))) rfl) rfl) rfl)))
set_option maxRecDepth 100000 in
set_option maxHeartbeats 4000000 in
theorem qm47l0 : ∀ m, SumKOk Try.prog (loopN Try.f47 0) 27 [0, 1, 5] [4] (q47l0 m) := by
  intro m
  induction m with
  | zero =>
    intro vals s x h1 h2 h3
    unfold q47l0 at h3; split at h3
    · rename_i h; split at h3
      · rename_i hc; obtain ⟨rfl, rfl⟩ := hc; exact absurd h3 (by simp [r47l0, firstT, Nat.beq])
      · exact noQ_ok _ _ _ h1 h2 h3
    · exact noQ_ok _ _ _ h1 h2 h3
  | succ m ih =>
    intro vals s x h1 h2 h3
    unfold q47l0 at h3; split at h3
    · rename_i h; split at h3
      · rename_i hc; obtain ⟨rfl, rfl⟩ := hc; exact sum_step ok15 extOk mixed ((lfOkF_no _ _).inner (by kernel_rfl)) ih h1 h2 h (e47l0 m _ _ _) rfl h3
      · exact noQ_ok _ _ _ h1 h2 h3
    · exact noQ_ok _ _ _ h1 h2 h3
noncomputable def Q47l0 : SumK := fun vals s => q47l0 (fuelOf vals s.h) vals s
theorem qok47l0 : SumKOk Try.prog (loopN Try.f47 0) 27 [0, 1, 5] [4] Q47l0 := fuel_ok qm47l0 fuelOf
noncomputable def L47_1 : LoopT := addL noL 5 [0, 1, 5] (sumK 27 [0, 1, 5] [4] Q47l0)
theorem lok47_1 : LfOkF Try.prog L47_1 Try.f47 := lfOkF_add (lfOkF_no _ _) qok47l0 (by kernel_rfl) (by kernel_rfl) (by kernel_rfl)

/-- laws.eqOpS -/
noncomputable def r47 (x0 x1 : List (List Int)) : Nat × Bool :=
 cond ((((x0.length : Nat) : Int) : Int) != ((x1.length : Nat) : Int))
  (0, false)
  (cond (Nat.beq (r47l0 (1000 + x1.length + x0.length) 0 x0 x1) 0)
   (0, false)
   (cond (Nat.beq (r47l0 (1000 + x1.length + x0.length) 0 x0 x1) 1)
    (0, true)
    (1, false)))
noncomputable def a47 (x0 x1 : List (List Int)) (p : Nat × Bool) : Res := firstT [((Nat.beq (p.1) 0), .bool (p.2), ⟨[⟨true, (some (.tab [.int .i8, .int .i16, .fl .f32] x0))⟩, ⟨true, (some (.tab [.int .i8, .int .i16, .fl .f32] x1))⟩], 2, []⟩)]
noncomputable def t47 (x0 x1 : List (List Int)) : Res :=
 (cond ((((x0.length : Nat) : Int) : Int) != ((x1.length : Nat) : Int))
 (some (.bool false, ⟨[⟨true, (some (.tab [.int .i8, .int .i16, .fl .f32] x0))⟩, ⟨true, (some (.tab [.int .i8, .int .i16, .fl .f32] x1))⟩], 2, []⟩))
 (cond (Nat.beq (r47l0 (1000 + x1.length + x0.length) 0 x0 x1) 0)
  (some (.bool false, ⟨[⟨true, (some (.tab [.int .i8, .int .i16, .fl .f32] x0))⟩, ⟨true, (some (.tab [.int .i8, .int .i16, .fl .f32] x1))⟩], 2, []⟩))
  (cond (Nat.beq (r47l0 (1000 + x1.length + x0.length) 0 x0 x1) 1)
   (some (.bool true, ⟨[⟨true, (some (.tab [.int .i8, .int .i16, .fl .f32] x0))⟩, ⟨true, (some (.tab [.int .i8, .int .i16, .fl .f32] x1))⟩], 2, []⟩))
   none)))
set_option maxRecDepth 100000 in
set_option maxHeartbeats 4000000 in
theorem e47 (x0 x1 : List (List Int)) : evFn Try.prog ext T15 L47_1 200 Try.f47 [wsl 0, wsl 1] ⟨[⟨true, (some (.tab [.int .i8, .int .i16, .fl .f32] x0))⟩, ⟨true, (some (.tab [.int .i8, .int .i16, .fl .f32] x1))⟩], 2, []⟩ = firstT [((Nat.beq ((r47 x0 x1).1) 0), .bool ((r47 x0 x1).2), ⟨[⟨true, (some (.tab [.int .i8, .int .i16, .fl .f32] x0))⟩, ⟨true, (some (.tab [.int .i8, .int .i16, .fl .f32] x1))⟩], 2, []⟩)] :=
 (show evFn Try.prog ext T15 L47_1 200 Try.f47 [wsl 0, wsl 1] ⟨[⟨true, (some (.tab [.int .i8, .int .i16, .fl .f32] x0))⟩, ⟨true, (some (.tab [.int .i8, .int .i16, .fl .f32] x1))⟩], 2, []⟩ = t47 x0 x1 from by kernel_rfl).trans
 (show t47 x0 x1 = a47 x0 x1 (r47 x0 x1) from (cond_app (a47 x0 x1) _ rfl (cond_app (a47 x0 x1) _ rfl (cond_app (a47 x0 x1) _ rfl rfl))))
noncomputable def s47 (args : List Value) (s : St) : List (Bool × Value × St) :=
 match args, s.h with
 | [.iface f0 .nilIface, .iface f1 .nilIface], [⟨true, some (.tab [.int .i8, .int .i16, .fl .f32] x0)⟩, ⟨true, some (.tab [.int .i8, .int .i16, .fl .f32] x1)⟩] => if f0 = 0 ∧ f1 = 1 then [((Nat.beq ((r47 x0 x1).1) 0), .bool ((r47 x0 x1).2), ⟨[⟨true, (some (.tab [.int .i8, .int .i16, .fl .f32] x0))⟩, ⟨true, (some (.tab [.int .i8, .int .i16, .fl .f32] x1))⟩], 2, []⟩)] else T15 47 args s
 | _, _ => T15 47 args s
noncomputable def T16 : CallF := addF T15 47 s47
set_option maxRecDepth 100000 in
set_option maxHeartbeats 4000000 in
theorem ok16 : CfOk Try.prog T16 := by
  refine cfOk_add ok15 fun args s r s' h1 h2 h3 => ?_
  unfold s47 at h3; split at h3
  · rename_i h; split at h3
    · rename_i hc; obtain ⟨rfl, rfl⟩ := hc; exact callOk ok15 Try.func47 h1 h2 h lok47_1.body (e47 _ _) rfl h3
    · exact ok15 _ _ _ _ _ h1 h2 h3
  · exact ok15 _ _ _ _ _ h1 h2 h3

/-- laws.eqProgram -/
noncomputable def r14 (x0 : List ByteArray) (x1 : List (List Int)) (x2 : List ByteArray) (x3 : List (List Int)) : Nat × Bool :=
 cond (Nat.beq ((r46 x0 x2).1) 0)
  (cond (!((r46 x0 x2).2))
   (0, false)
   (cond (Nat.beq ((r47 x1 x3).1) 0)
    (cond (!((r47 x1 x3).2))
     (0, false)
     (0, true))
    (1, false)))
  (1, false)
noncomputable def a14 (x0 : List ByteArray) (x1 : List (List Int)) (x2 : List ByteArray) (x3 : List (List Int)) (p : Nat × Bool) : Res := firstT [((Nat.beq (p.1) 0), .bool (p.2), ⟨[⟨true, (some (.strs x0))⟩, ⟨true, (some (.tab [.int .i8, .int .i16, .fl .f32] x1))⟩, ⟨true, (some (.strs x2))⟩, ⟨true, (some (.tab [.int .i8, .int .i16, .fl .f32] x3))⟩], 4, []⟩)]
noncomputable def t14 (x0 : List ByteArray) (x1 : List (List Int)) (x2 : List ByteArray) (x3 : List (List Int)) : Res :=
 (cond (Nat.beq ((r46 x0 x2).1) 0)
 (cond (!((r46 x0 x2).2))
  (some (.bool false, ⟨[⟨true, (some (.strs x0))⟩, ⟨true, (some (.tab [.int .i8, .int .i16, .fl .f32] x1))⟩, ⟨true, (some (.strs x2))⟩, ⟨true, (some (.tab [.int .i8, .int .i16, .fl .f32] x3))⟩], 4, []⟩))
  (cond (Nat.beq ((r47 x1 x3).1) 0)
   (cond (!((r47 x1 x3).2))
    (some (.bool false, ⟨[⟨true, (some (.strs x0))⟩, ⟨true, (some (.tab [.int .i8, .int .i16, .fl .f32] x1))⟩, ⟨true, (some (.strs x2))⟩, ⟨true, (some (.tab [.int .i8, .int .i16, .fl .f32] x3))⟩], 4, []⟩))
    (some (.bool true, ⟨[⟨true, (some (.strs x0))⟩, ⟨true, (some (.tab [.int .i8, .int .i16, .fl .f32] x1))⟩, ⟨true, (some (.strs x2))⟩, ⟨true, (some (.tab [.int .i8, .int .i16, .fl .f32] x3))⟩], 4, []⟩)))
   none))
 none)
set_option maxRecDepth 100000 in
set_option maxHeartbeats 4000000 in
theorem e14 (x0 : List ByteArray) (x1 : List (List Int)) (x2 : List ByteArray) (x3 : List (List Int)) : evFn Try.prog ext T16 noL 200 Try.f14 [.agg #[wsl 0, wsl 1], .agg #[wsl 2, wsl 3]] ⟨[⟨true, (some (.strs x0))⟩, ⟨true, (some (.tab [.int .i8, .int .i16, .fl .f32] x1))⟩, ⟨true, (some (.strs x2))⟩, ⟨true, (some (.tab [.int .i8, .int .i16, .fl .f32] x3))⟩], 4, []⟩ = firstT [((Nat.beq ((r14 x0 x1 x2 x3).1) 0), .bool ((r14 x0 x1 x2 x3).2), ⟨[⟨true, (some (.strs x0))⟩, ⟨true, (some (.tab [.int .i8, .int .i16, .fl .f32] x1))⟩, ⟨true, (some (.strs x2))⟩, ⟨true, (some (.tab [.int .i8, .int .i16, .fl .f32] x3))⟩], 4, []⟩)] :=
 (show evFn Try.prog ext T16 noL 200 Try.f14 [.agg #[wsl 0, wsl 1], .agg #[wsl 2, wsl 3]] ⟨[⟨true, (some (.strs x0))⟩, ⟨true, (some (.tab [.int .i8, .int .i16, .fl .f32] x1))⟩, ⟨true, (some (.strs x2))⟩, ⟨true, (some (.tab [.int .i8, .int .i16, .fl .f32] x3))⟩], 4, []⟩ = t14 x0 x1 x2 x3 from by kernel_rfl).trans
 (show t14 x0 x1 x2 x3 = a14 x0 x1 x2 x3 (r14 x0 x1 x2 x3) from (cond_app (a14 x0 x1 x2 x3) _ (cond_app (a14 x0 x1 x2 x3) _ rfl (cond_app (a14 x0 x1 x2 x3) _ (cond_app (a14 x0 x1 x2 x3) _ rfl rfl) rfl)) rfl))
noncomputable def s14 (args : List Value) (s : St) : List (Bool × Value × St) :=
 match args, s.h with
 | [.agg ⟨[.iface f0 .nilIface, .iface f1 .nilIface]⟩, .agg ⟨[.iface f2 .nilIface, .iface f3 .nilIface]⟩], [⟨true, some (.strs x0)⟩, ⟨true, some (.tab [.int .i8, .int .i16, .fl .f32] x1)⟩, ⟨true, some (.strs x2)⟩, ⟨true, some (.tab [.int .i8, .int .i16, .fl .f32] x3)⟩] => if f0 = 0 ∧ f1 = 1 ∧ f2 = 2 ∧ f3 = 3 then [((Nat.beq ((r14 x0 x1 x2 x3).1) 0), .bool ((r14 x0 x1 x2 x3).2), ⟨[⟨true, (some (.strs x0))⟩, ⟨true, (some (.tab [.int .i8, .int .i16, .fl .f32] x1))⟩, ⟨true, (some (.strs x2))⟩, ⟨true, (some (.tab [.int .i8, .int .i16, .fl .f32] x3))⟩], 4, []⟩)] else T16 14 args s
 | _, _ => T16 14 args s
noncomputable def T17 : CallF := addF T16 14 s14
set_option maxRecDepth 100000 in
set_option maxHeartbeats 4000000 in
theorem ok17 : CfOk Try.prog T17 := by
  refine cfOk_add ok16 fun args s r s' h1 h2 h3 => ?_
  unfold s14 at h3; split at h3
  · rename_i h; split at h3
    · rename_i hc; obtain ⟨rfl, rfl, rfl, rfl⟩ := hc; exact callOk ok16 Try.func14 h1 h2 h (lfOkF_no _ _).body (e14 _ _ _ _) rfl h3
    · exact ok16 _ _ _ _ _ h1 h2 h3
  · exact ok16 _ _ _ _ _ h1 h2 h3

/-- laws.FnExactSameProgram -/
noncomputable def r3 (x0 : List ByteArray) (x1 : List (List Int)) (x2 : List ByteArray) (x3 : List (List Int)) : Nat × Bool :=
 cond (Nat.beq ((r10 1048576 x0 x1).1) 0)
  (cond (decide ((((r10 1048576 x0 x1).2) : Int) < 0))
   (0, true)
   (cond (Nat.beq ((r10 ((r10 1048576 x0 x1).2) x2 x3).1) 0)
    (cond (decide ((((r10 ((r10 1048576 x0 x1).2) x2 x3).2) : Int) < 0))
     (0, true)
     (cond (Nat.beq ((r12 x0 x1).1) 0)
      (cond (Nat.beq ((r12 x2 x3).1) 0)
       (cond (Nat.beq ((r11 ((r12 x0 x1).2.1) ((r12 x0 x1).2.2) ((r12 x2 x3).2.1) ((r12 x2 x3).2.2)).1) 0)
        (cond (Nat.beq ((r13 ((r12 x0 x1).2.1) ((r12 x0 x1).2.2) ((r12 x2 x3).2.1) ((r12 x2 x3).2.2)).1) 0)
         (cond (!(((r13 ((r12 x0 x1).2.1) ((r12 x0 x1).2.2) ((r12 x2 x3).2.1) ((r12 x2 x3).2.2)).2) == ((r11 ((r12 x0 x1).2.1) ((r12 x0 x1).2.2) ((r12 x2 x3).2.1) ((r12 x2 x3).2.2)).2)))
          (0, false)
          (cond (Nat.beq ((r14 ((r12 x0 x1).2.1) ((r12 x0 x1).2.2) ((r12 x0 x1).2.1) ((r12 x0 x1).2.2)).1) 0)
           (cond (!((r14 ((r12 x0 x1).2.1) ((r12 x0 x1).2.2) ((r12 x0 x1).2.1) ((r12 x0 x1).2.2)).2))
            (0, false)
            (cond (Nat.beq ((r14 ((r12 x2 x3).2.1) ((r12 x2 x3).2.2) ((r12 x2 x3).2.1) ((r12 x2 x3).2.2)).1) 0)
             (cond (!((r14 ((r12 x2 x3).2.1) ((r12 x2 x3).2.2) ((r12 x2 x3).2.1) ((r12 x2 x3).2.2)).2))
              (0, false)
              (0, true))
             (1, false)))
           (1, false)))
         (1, false))
        (1, false))
       (1, false))
      (1, false)))
    (1, false)))
  (1, false)
noncomputable def a3 (x0 : List ByteArray) (x1 : List (List Int)) (x2 : List ByteArray) (x3 : List (List Int)) (p : Nat × Bool) : Res := firstT [((Nat.beq (p.1) 0), .bool (p.2), ⟨[⟨false, (some (.strs x0))⟩, ⟨false, (some (.tab [.int .i8, .int .i16, .fl .f32] x1))⟩, ⟨false, (some (.strs x2))⟩, ⟨false, (some (.tab [.int .i8, .int .i16, .fl .f32] x3))⟩], 4, []⟩)]
noncomputable def t3 (x0 : List ByteArray) (x1 : List (List Int)) (x2 : List ByteArray) (x3 : List (List Int)) : Res :=
 (cond (Nat.beq ((r10 1048576 x0 x1).1) 0)
 (cond (decide ((((r10 1048576 x0 x1).2) : Int) < 0))
  (some (.bool true, ⟨[⟨false, (some (.strs x0))⟩, ⟨false, (some (.tab [.int .i8, .int .i16, .fl .f32] x1))⟩, ⟨false, (some (.strs x2))⟩, ⟨false, (some (.tab [.int .i8, .int .i16, .fl .f32] x3))⟩], 4, []⟩))
  (cond (Nat.beq ((r10 ((r10 1048576 x0 x1).2) x2 x3).1) 0)
   (cond (decide ((((r10 ((r10 1048576 x0 x1).2) x2 x3).2) : Int) < 0))
    (some (.bool true, ⟨[⟨false, (some (.strs x0))⟩, ⟨false, (some (.tab [.int .i8, .int .i16, .fl .f32] x1))⟩, ⟨false, (some (.strs x2))⟩, ⟨false, (some (.tab [.int .i8, .int .i16, .fl .f32] x3))⟩], 4, []⟩))
    (cond (Nat.beq ((r12 x0 x1).1) 0)
     (cond (Nat.beq ((r12 x2 x3).1) 0)
      (cond (Nat.beq ((r11 ((r12 x0 x1).2.1) ((r12 x0 x1).2.2) ((r12 x2 x3).2.1) ((r12 x2 x3).2.2)).1) 0)
       (cond (Nat.beq ((r13 ((r12 x0 x1).2.1) ((r12 x0 x1).2.2) ((r12 x2 x3).2.1) ((r12 x2 x3).2.2)).1) 0)
        (cond (!(((r13 ((r12 x0 x1).2.1) ((r12 x0 x1).2.2) ((r12 x2 x3).2.1) ((r12 x2 x3).2.2)).2) == ((r11 ((r12 x0 x1).2.1) ((r12 x0 x1).2.2) ((r12 x2 x3).2.1) ((r12 x2 x3).2.2)).2)))
         (some (.bool false, ⟨[⟨false, (some (.strs x0))⟩, ⟨false, (some (.tab [.int .i8, .int .i16, .fl .f32] x1))⟩, ⟨false, (some (.strs x2))⟩, ⟨false, (some (.tab [.int .i8, .int .i16, .fl .f32] x3))⟩], 4, []⟩))
         (cond (Nat.beq ((r14 ((r12 x0 x1).2.1) ((r12 x0 x1).2.2) ((r12 x0 x1).2.1) ((r12 x0 x1).2.2)).1) 0)
          (cond (!((r14 ((r12 x0 x1).2.1) ((r12 x0 x1).2.2) ((r12 x0 x1).2.1) ((r12 x0 x1).2.2)).2))
           (some (.bool false, ⟨[⟨false, (some (.strs x0))⟩, ⟨false, (some (.tab [.int .i8, .int .i16, .fl .f32] x1))⟩, ⟨false, (some (.strs x2))⟩, ⟨false, (some (.tab [.int .i8, .int .i16, .fl .f32] x3))⟩], 4, []⟩))
           (cond (Nat.beq ((r14 ((r12 x2 x3).2.1) ((r12 x2 x3).2.2) ((r12 x2 x3).2.1) ((r12 x2 x3).2.2)).1) 0)
            (cond (!((r14 ((r12 x2 x3).2.1) ((r12 x2 x3).2.2) ((r12 x2 x3).2.1) ((r12 x2 x3).2.2)).2))
             (some (.bool false, ⟨[⟨false, (some (.strs x0))⟩, ⟨false, (some (.tab [.int .i8, .int .i16, .fl .f32] x1))⟩, ⟨false, (some (.strs x2))⟩, ⟨false, (some (.tab [.int .i8, .int .i16, .fl .f32] x3))⟩], 4, []⟩))
             (some (.bool true, ⟨[⟨false, (some (.strs x0))⟩, ⟨false, (some (.tab [.int .i8, .int .i16, .fl .f32] x1))⟩, ⟨false, (some (.strs x2))⟩, ⟨false, (some (.tab [.int .i8, .int .i16, .fl .f32] x3))⟩], 4, []⟩)))
            none))
          none))
        none)
       none)
      none)
     none))
   none))
 none)
noncomputable def w3 (x0 : List ByteArray) (x1 : List (List Int)) (x2 : List ByteArray) (x3 : List (List Int)) : Res :=
 (cond (Nat.beq ((r10 1048576 x0 x1).1) 0)
 (cond (decide ((((r10 1048576 x0 x1).2) : Int) < 0))
  (some (.bool true, ⟨[⟨false, (some (.strs x0))⟩, ⟨false, (some (.tab [.int .i8, .int .i16, .fl .f32] x1))⟩, ⟨false, (some (.strs x2))⟩, ⟨false, (some (.tab [.int .i8, .int .i16, .fl .f32] x3))⟩], 4, []⟩))
  (cond (Nat.beq ((r10 ((r10 1048576 x0 x1).2) x2 x3).1) 0)
   (cond (decide ((((r10 ((r10 1048576 x0 x1).2) x2 x3).2) : Int) < 0))
    (some (.bool true, ⟨[⟨false, (some (.strs x0))⟩, ⟨false, (some (.tab [.int .i8, .int .i16, .fl .f32] x1))⟩, ⟨false, (some (.strs x2))⟩, ⟨false, (some (.tab [.int .i8, .int .i16, .fl .f32] x3))⟩], 4, []⟩))
    (cond (Nat.beq ((r12 x0 x1).1) 0)
     (cond (Nat.beq ((r12 x2 x3).1) 0)
      (cond (Nat.beq ((r11 ((r12 x0 x1).2.1) ((r12 x0 x1).2.2) ((r12 x2 x3).2.1) ((r12 x2 x3).2.2)).1) 0)
       (cond (Nat.beq ((r12 x0 x1).1) 0)
        (cond (Nat.beq ((r12 x2 x3).1) 0)
         (cond (Nat.beq ((r13 ((r12 x0 x1).2.1) ((r12 x0 x1).2.2) ((r12 x2 x3).2.1) ((r12 x2 x3).2.2)).1) 0)
          (cond (!(((r13 ((r12 x0 x1).2.1) ((r12 x0 x1).2.2) ((r12 x2 x3).2.1) ((r12 x2 x3).2.2)).2) == ((r11 ((r12 x0 x1).2.1) ((r12 x0 x1).2.2) ((r12 x2 x3).2.1) ((r12 x2 x3).2.2)).2)))
           (some (.bool false, ⟨[⟨false, (some (.strs x0))⟩, ⟨false, (some (.tab [.int .i8, .int .i16, .fl .f32] x1))⟩, ⟨false, (some (.strs x2))⟩, ⟨false, (some (.tab [.int .i8, .int .i16, .fl .f32] x3))⟩], 4, []⟩))
           (cond (Nat.beq ((r12 x0 x1).1) 0)
            (cond (Nat.beq ((r14 ((r12 x0 x1).2.1) ((r12 x0 x1).2.2) ((r12 x0 x1).2.1) ((r12 x0 x1).2.2)).1) 0)
             (cond (!((r14 ((r12 x0 x1).2.1) ((r12 x0 x1).2.2) ((r12 x0 x1).2.1) ((r12 x0 x1).2.2)).2))
              (some (.bool false, ⟨[⟨false, (some (.strs x0))⟩, ⟨false, (some (.tab [.int .i8, .int .i16, .fl .f32] x1))⟩, ⟨false, (some (.strs x2))⟩, ⟨false, (some (.tab [.int .i8, .int .i16, .fl .f32] x3))⟩], 4, []⟩))
              (cond (Nat.beq ((r12 x2 x3).1) 0)
               (cond (Nat.beq ((r14 ((r12 x2 x3).2.1) ((r12 x2 x3).2.2) ((r12 x2 x3).2.1) ((r12 x2 x3).2.2)).1) 0)
                (cond (!((r14 ((r12 x2 x3).2.1) ((r12 x2 x3).2.2) ((r12 x2 x3).2.1) ((r12 x2 x3).2.2)).2))
                 (some (.bool false, ⟨[⟨false, (some (.strs x0))⟩, ⟨false, (some (.tab [.int .i8, .int .i16, .fl .f32] x1))⟩, ⟨false, (some (.strs x2))⟩, ⟨false, (some (.tab [.int .i8, .int .i16, .fl .f32] x3))⟩], 4, []⟩))
                 (some (.bool true, ⟨[⟨false, (some (.strs x0))⟩, ⟨false, (some (.tab [.int .i8, .int .i16, .fl .f32] x1))⟩, ⟨false, (some (.strs x2))⟩, ⟨false, (some (.tab [.int .i8, .int .i16, .fl .f32] x3))⟩], 4, []⟩)))
                none)
               none))
             none)
            none))
          none)
         none)
        none)
       none)
      none)
     none))
   none))
 none)
set_option maxRecDepth 100000 in
set_option maxHeartbeats 4000000 in
theorem e3 (x0 : List ByteArray) (x1 : List (List Int)) (x2 : List ByteArray) (x3 : List (List Int)) : evFn Try.prog ext T17 noL 200 Try.f3 [.agg #[wsl 0, wsl 1], .agg #[wsl 2, wsl 3]] ⟨[⟨false, (some (.strs x0))⟩, ⟨false, (some (.tab [.int .i8, .int .i16, .fl .f32] x1))⟩, ⟨false, (some (.strs x2))⟩, ⟨false, (some (.tab [.int .i8, .int .i16, .fl .f32] x3))⟩], 4, []⟩ = firstT [((Nat.beq ((r3 x0 x1 x2 x3).1) 0), .bool ((r3 x0 x1 x2 x3).2), ⟨[⟨false, (some (.strs x0))⟩, ⟨false, (some (.tab [.int .i8, .int .i16, .fl .f32] x1))⟩, ⟨false, (some (.strs x2))⟩, ⟨false, (some (.tab [.int .i8, .int .i16, .fl .f32] x3))⟩], 4, []⟩)] :=
 (show evFn Try.prog ext T17 noL 200 Try.f3 [.agg #[wsl 0, wsl 1], .agg #[wsl 2, wsl 3]] ⟨[⟨false, (some (.strs x0))⟩, ⟨false, (some (.tab [.int .i8, .int .i16, .fl .f32] x1))⟩, ⟨false, (some (.strs x2))⟩, ⟨false, (some (.tab [.int .i8, .int .i16, .fl .f32] x3))⟩], 4, []⟩ = w3 x0 x1 x2 x3 from by kernel_rfl).trans
 ((show w3 x0 x1 x2 x3 = t3 x0 x1 x2 x3 from (cond_cong _ (fun h0 => (cond_cong _ (fun h1 => rfl) (fun h1 => (cond_cong _ (fun h2 => (cond_cong _ (fun h3 => rfl) (fun h3 => (cond_cong _ (fun h4 => (cond_cong _ (fun h5 => (cond_cong _ (fun h6 => (cond_t h4 (cond_t h5 (cond_cong _ (fun h7 => (cond_cong _ (fun h8 => rfl) (fun h8 => (cond_t h4 (cond_cong _ (fun h9 => (cond_cong _ (fun h10 => rfl) (fun h10 => (cond_t h5 rfl)))) (fun h9 => rfl)))))) (fun h7 => rfl))))) (fun h6 => rfl))) (fun h5 => rfl))) (fun h4 => rfl))))) (fun h2 => rfl))))) (fun h0 => rfl))).trans
 (show t3 x0 x1 x2 x3 = a3 x0 x1 x2 x3 (r3 x0 x1 x2 x3) from (cond_app (a3 x0 x1 x2 x3) _ (cond_app (a3 x0 x1 x2 x3) _ rfl (cond_app (a3 x0 x1 x2 x3) _ (cond_app (a3 x0 x1 x2 x3) _ rfl (cond_app (a3 x0 x1 x2 x3) _ (cond_app (a3 x0 x1 x2 x3) _ (cond_app (a3 x0 x1 x2 x3) _ (cond_app (a3 x0 x1 x2 x3) _ (cond_app (a3 x0 x1 x2 x3) _ rfl (cond_app (a3 x0 x1 x2 x3) _ (cond_app (a3 x0 x1 x2 x3) _ rfl (cond_app (a3 x0 x1 x2 x3) _ (cond_app (a3 x0 x1 x2 x3) _ rfl rfl) rfl)) rfl)) rfl) rfl) rfl) rfl)) rfl)) rfl)))
noncomputable def s3 (args : List Value) (s : St) : List (Bool × Value × St) :=
 match args, s.h with
 | [.agg ⟨[.iface f0 .nilIface, .iface f1 .nilIface]⟩, .agg ⟨[.iface f2 .nilIface, .iface f3 .nilIface]⟩], [⟨false, some (.strs x0)⟩, ⟨false, some (.tab [.int .i8, .int .i16, .fl .f32] x1)⟩, ⟨false, some (.strs x2)⟩, ⟨false, some (.tab [.int .i8, .int .i16, .fl .f32] x3)⟩] => if f0 = 0 ∧ f1 = 1 ∧ f2 = 2 ∧ f3 = 3 then [((Nat.beq ((r3 x0 x1 x2 x3).1) 0), .bool ((r3 x0 x1 x2 x3).2), ⟨[⟨false, (some (.strs x0))⟩, ⟨false, (some (.tab [.int .i8, .int .i16, .fl .f32] x1))⟩, ⟨false, (some (.strs x2))⟩, ⟨false, (some (.tab [.int .i8, .int .i16, .fl .f32] x3))⟩], 4, []⟩)] else T17 3 args s
 | _, _ => T17 3 args s
noncomputable def T18 : CallF := addF T17 3 s3
set_option maxRecDepth 100000 in
set_option maxHeartbeats 4000000 in
theorem ok18 : CfOk Try.prog T18 := by
  refine cfOk_add ok17 fun args s r s' h1 h2 h3 => ?_
  unfold s3 at h3; split at h3
  · rename_i h; split at h3
    · rename_i hc; obtain ⟨rfl, rfl, rfl, rfl⟩ := hc; exact callOk ok17 Try.func3 h1 h2 h (lfOkF_no _ _).body (e3 _ _ _ _) rfl h3
    · exact ok17 _ _ _ _ _ h1 h2 h3
  · exact ok17 _ _ _ _ _ h1 h2 h3
end Go.Proofs.Ytfclciebpnnieaa
