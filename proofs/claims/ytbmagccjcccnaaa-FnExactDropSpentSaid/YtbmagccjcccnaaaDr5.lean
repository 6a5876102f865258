/- What the functions that the statements reach answer, part 5. -/
import Derived.Test.YtbmagccjcccnaaaDr4
namespace Go.Proofs.Ytbmagccjcccnaaa
open Go.Ab
set_option maxHeartbeats 4000000

/-- laws.eqStove -/
noncomputable def r23d (x0 x1 : Nat) (x2 x3 : Int) (x4 x5 x6 : Nat) (x7 x8 : Int) (x9 : Nat) (x10 : List (List Int)) : Bool :=
 cond (!(r66d x10))
  (false)
  (cond (!(r14 (widen x0) (widen x5)))
   (false)
   (cond (!(r14 (widen x1) (widen x6)))
    (false)
    (cond ((x2 : Int) != x7)
     (false)
     (cond ((x3 : Int) != x8)
      (false)
      (cond (!(r14 (widen x4) (widen x9)))
       (false)
       (true))))))
noncomputable def a23d (x0 x1 : Nat) (x2 x3 : Int) (x4 x5 x6 : Nat) (x7 x8 : Int) (x9 : Nat) (x10 : List (List Int)) (p : Bool) : Res := firstT [(true, .bool p, ⟨[⟨true, (some (.tab sc0 x10))⟩], 1, []⟩)]
noncomputable def t23d (x0 x1 : Nat) (x2 x3 : Int) (x4 x5 x6 : Nat) (x7 x8 : Int) (x9 : Nat) (x10 : List (List Int)) : Res :=
 (cond (!(r66d x10))
 (some (.bool false, ⟨[⟨true, (some (.tab sc0 x10))⟩], 1, []⟩))
 (cond (!(r14 (widen x0) (widen x5)))
  (some (.bool false, ⟨[⟨true, (some (.tab sc0 x10))⟩], 1, []⟩))
  (cond (!(r14 (widen x1) (widen x6)))
   (some (.bool false, ⟨[⟨true, (some (.tab sc0 x10))⟩], 1, []⟩))
   (cond ((x2 : Int) != x7)
    (some (.bool false, ⟨[⟨true, (some (.tab sc0 x10))⟩], 1, []⟩))
    (cond ((x3 : Int) != x8)
     (some (.bool false, ⟨[⟨true, (some (.tab sc0 x10))⟩], 1, []⟩))
     (cond (!(r14 (widen x4) (widen x9)))
      (some (.bool false, ⟨[⟨true, (some (.tab sc0 x10))⟩], 1, []⟩))
      (some (.bool true, ⟨[⟨true, (some (.tab sc0 x10))⟩], 1, []⟩))))))))
set_option maxRecDepth 100000 in
set_option maxHeartbeats 4000000 in
theorem e23d (x0 x1 : Nat) (x2 x3 : Int) (x4 x5 x6 : Nat) (x7 x8 : Int) (x9 : Nat) (x10 : List (List Int)) : evFn Try.prog ext T43 noL 200 Try.f23 [.agg #[.slice none 0 0, .float .f32 x0, .float .f32 x1, .int .i8 x2, .int .i64 x3, .float .f32 x4], .agg #[wsl 0, .float .f32 x5, .float .f32 x6, .int .i8 x7, .int .i64 x8, .float .f32 x9]] ⟨[⟨true, (some (.tab sc0 x10))⟩], 1, []⟩ = firstT [(true, .bool (r23d x0 x1 x2 x3 x4 x5 x6 x7 x8 x9 x10), ⟨[⟨true, (some (.tab sc0 x10))⟩], 1, []⟩)] :=
 (show evFn Try.prog ext T43 noL 200 Try.f23 [.agg #[.slice none 0 0, .float .f32 x0, .float .f32 x1, .int .i8 x2, .int .i64 x3, .float .f32 x4], .agg #[wsl 0, .float .f32 x5, .float .f32 x6, .int .i8 x7, .int .i64 x8, .float .f32 x9]] ⟨[⟨true, (some (.tab sc0 x10))⟩], 1, []⟩ = t23d x0 x1 x2 x3 x4 x5 x6 x7 x8 x9 x10 from by kernel_rfl).trans
 (show t23d x0 x1 x2 x3 x4 x5 x6 x7 x8 x9 x10 = a23d x0 x1 x2 x3 x4 x5 x6 x7 x8 x9 x10 (r23d x0 x1 x2 x3 x4 x5 x6 x7 x8 x9 x10) from (cond_app (a23d x0 x1 x2 x3 x4 x5 x6 x7 x8 x9 x10) _ rfl (cond_app (a23d x0 x1 x2 x3 x4 x5 x6 x7 x8 x9 x10) _ rfl (cond_app (a23d x0 x1 x2 x3 x4 x5 x6 x7 x8 x9 x10) _ rfl (cond_app (a23d x0 x1 x2 x3 x4 x5 x6 x7 x8 x9 x10) _ rfl (cond_app (a23d x0 x1 x2 x3 x4 x5 x6 x7 x8 x9 x10) _ rfl (cond_app (a23d x0 x1 x2 x3 x4 x5 x6 x7 x8 x9 x10) _ rfl rfl)))))))
noncomputable def s23d (args : List Value) (s : St) : List (Bool × Value × St) :=
 match args, s.h with
 | [.agg ⟨[.slice none f0 f1, .float .f32 x0, .float .f32 x1, .int .i8 x2, .int .i64 x3, .float .f32 x4]⟩, .agg ⟨[.iface f2 .nilIface, .float .f32 x5, .float .f32 x6, .int .i8 x7, .int .i64 x8, .float .f32 x9]⟩], [⟨true, some (.tab [.fl .f32, .fl .f32, .fl .f32, .fl .f32, .fl .f32, .fl .f32, .fl .f32, .fl .f32, .fl .f32, .fl .f32, .fl .f32, .fl .f32, .fl .f32, .fl .f32, .fl .f32, .fl .f32, .fl .f32, .fl .f32] x10)⟩] => if f0 = 0 ∧ f1 = 0 ∧ f2 = 0 then [(true, .bool (r23d x0 x1 x2 x3 x4 x5 x6 x7 x8 x9 x10), ⟨[⟨true, (some (.tab sc0 x10))⟩], 1, []⟩)] else T43 23 args s
 | _, _ => T43 23 args s
noncomputable def T44 : CallF := addF T43 23 s23d
set_option maxRecDepth 100000 in
set_option maxHeartbeats 4000000 in
theorem ok44 : CfOk Try.prog T44 := by
  refine cfOk_add ok43 fun args s r s' h1 h2 h3 => ?_
  unfold s23d at h3; split at h3
  · rename_i h; split at h3
    · rename_i hc; obtain ⟨rfl, rfl, rfl⟩ := hc; exact callOk ok43 Try.func23 h1 h2 h (lfOkF_no _ _).body (e23d _ _ _ _ _ _ _ _ _ _ _) rfl h3
    · exact ok43 _ _ _ _ _ h1 h2 h3
  · exact ok43 _ _ _ _ _ h1 h2 h3

/-- laws.heldWoodS, loop 3 -/
noncomputable def r69l3 (x0 x1 : Int) (x2 : List (List Int)) : Unit :=
 ()
noncomputable def a69l3 (x0 x1 : Int) (x2 : List (List Int)) (p : Unit) : Option (Fin' × List Value × St) := firstT ([(true, .exit 6, [wsl 0, .int .i64 x0, anyV, .int .i64 x1], ⟨[⟨true, (some (.tab sc0 x2))⟩], 1, []⟩)].map fun (b, x) => (b, (x.1, frameOf 64 [0, 1, 4, 5] x.2.1, x.2.2)))
noncomputable def t69l3 (x0 x1 : Int) (x2 : List (List Int)) : Option (Fin' × List Value × St) :=
 (some (.exit 6, frameOf 64 [0, 1, 4, 5] [wsl 0, .int .i64 x0, anyV, .int .i64 x1], ⟨[⟨true, (some (.tab sc0 x2))⟩], 1, []⟩))
set_option maxRecDepth 100000 in
set_option maxHeartbeats 4000000 in
theorem e69l3 (x0 x1 : Int) (x2 : List (List Int)) : evC Try.prog ext T44 L69_1 200 (loopN Try.f69 3) (loopTail [0, 1, 5, 8] [0, 1, 4, 5] [] (sumK 64 [0, 1, 5, 8] [0, 1, 4, 5] noQ)) (frameOf 64 [0, 1, 5, 8] [wsl 0, .int .i64 x0, .int .i64 x1, .int .i64 6]) ⟨[⟨true, (some (.tab sc0 x2))⟩], 1, []⟩ = firstT ([(true, .exit 6, [wsl 0, .int .i64 x0, anyV, .int .i64 x1], ⟨[⟨true, (some (.tab sc0 x2))⟩], 1, []⟩)].map fun (b, x) => (b, (x.1, frameOf 64 [0, 1, 4, 5] x.2.1, x.2.2))) :=
 (show evC Try.prog ext T44 L69_1 200 (loopN Try.f69 3) (loopTail [0, 1, 5, 8] [0, 1, 4, 5] [] (sumK 64 [0, 1, 5, 8] [0, 1, 4, 5] noQ)) (frameOf 64 [0, 1, 5, 8] [wsl 0, .int .i64 x0, .int .i64 x1, .int .i64 6]) ⟨[⟨true, (some (.tab sc0 x2))⟩], 1, []⟩ = t69l3 x0 x1 x2 from by kernel_rfl).trans
 (show t69l3 x0 x1 x2 = a69l3 x0 x1 x2 (r69l3 x0 x1 x2) from rfl)
noncomputable def Q69l3 : SumK := fun vals s =>
 match vals, s.h with
 | [.iface f0 .nilIface, .int .i64 x0, .int .i64 x1, .int .i64 f1], [⟨true, some (.tab [.fl .f32, .fl .f32, .fl .f32, .fl .f32, .fl .f32, .fl .f32, .fl .f32, .fl .f32, .fl .f32, .fl .f32, .fl .f32, .fl .f32, .fl .f32, .fl .f32, .fl .f32, .fl .f32, .fl .f32, .fl .f32] x2)⟩] => if f0 = 0 ∧ f1 = 6 then [(true, .exit 6, [wsl 0, .int .i64 x0, anyV, .int .i64 x1], ⟨[⟨true, (some (.tab sc0 x2))⟩], 1, []⟩)] else noQ vals s
 | _, _ => noQ vals s
set_option maxRecDepth 100000 in
set_option maxHeartbeats 4000000 in
theorem qok69l3 : SumKOk Try.prog (loopN Try.f69 3) 64 [0, 1, 5, 8] [0, 1, 4, 5] Q69l3 := by
  intro vals s x h1 h2 h3
  unfold Q69l3 at h3; split at h3
  · rename_i h; split at h3
    · rename_i hc; obtain ⟨rfl, rfl⟩ := hc; exact sum_step ok44 extOk mixed (lok69_1.inner (by kernel_rfl)) noQ_ok h1 h2 h (e69l3 _ _ _) rfl h3
    · exact noQ_ok _ _ _ h1 h2 h3
  · exact noQ_ok _ _ _ h1 h2 h3
noncomputable def L69_2 : LoopT := addL L69_1 18 [0, 1, 5, 8] (sumK 64 [0, 1, 5, 8] [0, 1, 4, 5] Q69l3)
theorem lok69_2 : LfOkF Try.prog L69_2 Try.f69 := lfOkF_add lok69_1 qok69l3 (by kernel_rfl) (by kernel_rfl) (by kernel_rfl)

/-- laws.heldWoodS, loop 3 -/
noncomputable def r69l3b (x0 x1 : Int) (x2 : List (List Int)) : Nat × Int :=
 cond ((decide ((0 : Int) ≤ x1)) && (Nat.blt (Int.toNat x1) x2.length))
  (cond (!feq .f32 (Int.toNat ((x2.getD (Int.toNat x1) []).getD 17 0)) (ofInt .f32 x0))
   (0, 0)
   (1, (IntKind.i64.wrap (x0 + 1))))
  (2, 0)
noncomputable def a69l3b (x0 x1 : Int) (x2 : List (List Int)) (p : Nat × Int) : Option (Fin' × List Value × St) := firstT ([((Nat.beq (p.1) 0), .ret, [wsl 0, .int .i64 x0, .int .i64 (-1), .int .i64 x1], ⟨[⟨true, (some (.tab sc0 x2))⟩], 1, []⟩), ((Nat.beq (p.1) 1), .exit 6, [wsl 0, .int .i64 (p.2), anyV, .int .i64 x1], ⟨[⟨true, (some (.tab sc0 x2))⟩], 1, []⟩)].map fun (b, x) => (b, (x.1, frameOf 64 [0, 1, 4, 5] x.2.1, x.2.2)))
noncomputable def t69l3b (x0 x1 : Int) (x2 : List (List Int)) : Option (Fin' × List Value × St) :=
 (cond ((decide ((0 : Int) ≤ x1)) && (Nat.blt (Int.toNat x1) x2.length))
 (cond (!feq .f32 (Int.toNat ((x2.getD (Int.toNat x1) []).getD 17 0)) (ofInt .f32 x0))
  (some (.ret, frameOf 64 [0, 1, 4, 5] [wsl 0, .int .i64 x0, .int .i64 (-1), .int .i64 x1], ⟨[⟨true, (some (.tab sc0 x2))⟩], 1, []⟩))
  (some (.exit 6, frameOf 64 [0, 1, 4, 5] [wsl 0, .int .i64 (IntKind.i64.wrap (x0 + 1)), anyV, .int .i64 x1], ⟨[⟨true, (some (.tab sc0 x2))⟩], 1, []⟩)))
 none)
noncomputable def w69l3b (x0 x1 : Int) (x2 : List (List Int)) : Option (Fin' × List Value × St) :=
 (cond ((decide ((0 : Int) ≤ x1)) && (Nat.blt (Int.toNat x1) x2.length))
 (cond (Nat.blt (Int.toNat x1) x2.length)
  (cond (!feq .f32 (Int.toNat ((x2.getD (Int.toNat x1) []).getD 17 0)) (ofInt .f32 x0))
   (some (.ret, frameOf 64 [0, 1, 4, 5] [wsl 0, .int .i64 x0, .int .i64 (-1), .int .i64 x1], ⟨[⟨true, (some (.tab sc0 x2))⟩], 1, []⟩))
   (some (.exit 6, frameOf 64 [0, 1, 4, 5] [wsl 0, .int .i64 (IntKind.i64.wrap (x0 + 1)), anyV, .int .i64 x1], ⟨[⟨true, (some (.tab sc0 x2))⟩], 1, []⟩)))
  none)
 none)
set_option maxRecDepth 100000 in
set_option maxHeartbeats 4000000 in
theorem e69l3b (x0 x1 : Int) (x2 : List (List Int)) : evC Try.prog ext T44 L69_2 200 (loopN Try.f69 3) (loopTail [0, 1, 5, 8] [0, 1, 4, 5] [] (sumK 64 [0, 1, 5, 8] [0, 1, 4, 5] Q69l3)) (frameOf 64 [0, 1, 5, 8] [wsl 0, .int .i64 x0, .int .i64 x1, .int .i64 5]) ⟨[⟨true, (some (.tab sc0 x2))⟩], 1, []⟩ = firstT ([((Nat.beq ((r69l3b x0 x1 x2).1) 0), .ret, [wsl 0, .int .i64 x0, .int .i64 (-1), .int .i64 x1], ⟨[⟨true, (some (.tab sc0 x2))⟩], 1, []⟩), ((Nat.beq ((r69l3b x0 x1 x2).1) 1), .exit 6, [wsl 0, .int .i64 ((r69l3b x0 x1 x2).2), anyV, .int .i64 x1], ⟨[⟨true, (some (.tab sc0 x2))⟩], 1, []⟩)].map fun (b, x) => (b, (x.1, frameOf 64 [0, 1, 4, 5] x.2.1, x.2.2))) :=
 (show evC Try.prog ext T44 L69_2 200 (loopN Try.f69 3) (loopTail [0, 1, 5, 8] [0, 1, 4, 5] [] (sumK 64 [0, 1, 5, 8] [0, 1, 4, 5] Q69l3)) (frameOf 64 [0, 1, 5, 8] [wsl 0, .int .i64 x0, .int .i64 x1, .int .i64 5]) ⟨[⟨true, (some (.tab sc0 x2))⟩], 1, []⟩ = w69l3b x0 x1 x2 from by kernel_rfl).trans
 ((show w69l3b x0 x1 x2 = t69l3b x0 x1 x2 from (cond_cong _ (fun h0 => (cond_t (ev_and2 h0) rfl)) (fun h0 => rfl))).trans
 (show t69l3b x0 x1 x2 = a69l3b x0 x1 x2 (r69l3b x0 x1 x2) from (cond_app (a69l3b x0 x1 x2) _ (cond_app (a69l3b x0 x1 x2) _ rfl rfl) rfl)))
noncomputable def Q69l3b : SumK := fun vals s =>
 match vals, s.h with
 | [.iface f0 .nilIface, .int .i64 x0, .int .i64 x1, .int .i64 f1], [⟨true, some (.tab [.fl .f32, .fl .f32, .fl .f32, .fl .f32, .fl .f32, .fl .f32, .fl .f32, .fl .f32, .fl .f32, .fl .f32, .fl .f32, .fl .f32, .fl .f32, .fl .f32, .fl .f32, .fl .f32, .fl .f32, .fl .f32] x2)⟩] => if f0 = 0 ∧ f1 = 5 then [((Nat.beq ((r69l3b x0 x1 x2).1) 0), .ret, [wsl 0, .int .i64 x0, .int .i64 (-1), .int .i64 x1], ⟨[⟨true, (some (.tab sc0 x2))⟩], 1, []⟩), ((Nat.beq ((r69l3b x0 x1 x2).1) 1), .exit 6, [wsl 0, .int .i64 ((r69l3b x0 x1 x2).2), anyV, .int .i64 x1], ⟨[⟨true, (some (.tab sc0 x2))⟩], 1, []⟩)] else Q69l3 vals s
 | _, _ => Q69l3 vals s
set_option maxRecDepth 100000 in
set_option maxHeartbeats 4000000 in
theorem qok69l3b : SumKOk Try.prog (loopN Try.f69 3) 64 [0, 1, 5, 8] [0, 1, 4, 5] Q69l3b := by
  intro vals s x h1 h2 h3
  unfold Q69l3b at h3; split at h3
  · rename_i h; split at h3
    · rename_i hc; obtain ⟨rfl, rfl⟩ := hc; exact sum_step ok44 extOk mixed (lok69_2.inner (by kernel_rfl)) qok69l3 h1 h2 h (e69l3b _ _ _) rfl h3
    · exact qok69l3 _ _ _ h1 h2 h3
  · exact qok69l3 _ _ _ h1 h2 h3
noncomputable def L69_3 : LoopT := addL L69_2 18 [0, 1, 5, 8] (sumK 64 [0, 1, 5, 8] [0, 1, 4, 5] Q69l3b)
theorem lok69_3 : LfOkF Try.prog L69_3 Try.f69 := lfOkF_add lok69_2 qok69l3b (by kernel_rfl) (by kernel_rfl) (by kernel_rfl)

/-- laws.heldWoodS, loop 3 -/
noncomputable def r69l3c (x0 x1 : Int) (x2 : List (List Int)) : Nat × Int × Int :=
 cond ((decide ((0 : Int) ≤ x1)) && (Nat.blt (Int.toNat x1) x2.length))
  (cond (!feq .f32 (Int.toNat ((x2.getD (Int.toNat x1) []).getD 16 0)) (ofInt .f32 x0))
   (0, x0, 0)
   (cond (Nat.beq ((r69l3b (IntKind.i64.wrap (x0 + 1)) x1 x2).1) 0)
    (0, (IntKind.i64.wrap (x0 + 1)), 0)
    (cond (Nat.beq ((r69l3b (IntKind.i64.wrap (x0 + 1)) x1 x2).1) 1)
     (1, 0, ((r69l3b (IntKind.i64.wrap (x0 + 1)) x1 x2).2))
     (2, 0, 0))))
  (2, 0, 0)
noncomputable def a69l3c (x0 x1 : Int) (x2 : List (List Int)) (p : Nat × Int × Int) : Option (Fin' × List Value × St) := firstT ([((Nat.beq (p.1) 0), .ret, [wsl 0, .int .i64 (p.2.1), .int .i64 (-1), .int .i64 x1], ⟨[⟨true, (some (.tab sc0 x2))⟩], 1, []⟩), ((Nat.beq (p.1) 1), .exit 6, [wsl 0, .int .i64 (p.2.2), anyV, .int .i64 x1], ⟨[⟨true, (some (.tab sc0 x2))⟩], 1, []⟩)].map fun (b, x) => (b, (x.1, frameOf 64 [0, 1, 4, 5] x.2.1, x.2.2)))
noncomputable def t69l3c (x0 x1 : Int) (x2 : List (List Int)) : Option (Fin' × List Value × St) :=
 (cond ((decide ((0 : Int) ≤ x1)) && (Nat.blt (Int.toNat x1) x2.length))
 (cond (!feq .f32 (Int.toNat ((x2.getD (Int.toNat x1) []).getD 16 0)) (ofInt .f32 x0))
  (some (.ret, frameOf 64 [0, 1, 4, 5] [wsl 0, .int .i64 x0, .int .i64 (-1), .int .i64 x1], ⟨[⟨true, (some (.tab sc0 x2))⟩], 1, []⟩))
  (cond (Nat.beq ((r69l3b (IntKind.i64.wrap (x0 + 1)) x1 x2).1) 0)
   (some (.ret, frameOf 64 [0, 1, 4, 5] [wsl 0, .int .i64 (IntKind.i64.wrap (x0 + 1)), .int .i64 (-1), .int .i64 x1], ⟨[⟨true, (some (.tab sc0 x2))⟩], 1, []⟩))
   (cond (Nat.beq ((r69l3b (IntKind.i64.wrap (x0 + 1)) x1 x2).1) 1)
    (some (.exit 6, frameOf 64 [0, 1, 4, 5] [wsl 0, .int .i64 ((r69l3b (IntKind.i64.wrap (x0 + 1)) x1 x2).2), anyV, .int .i64 x1], ⟨[⟨true, (some (.tab sc0 x2))⟩], 1, []⟩))
    none)))
 none)
noncomputable def w69l3c (x0 x1 : Int) (x2 : List (List Int)) : Option (Fin' × List Value × St) :=
 (cond ((decide ((0 : Int) ≤ x1)) && (Nat.blt (Int.toNat x1) x2.length))
 (cond (Nat.blt (Int.toNat x1) x2.length)
  (cond (!feq .f32 (Int.toNat ((x2.getD (Int.toNat x1) []).getD 16 0)) (ofInt .f32 x0))
   (some (.ret, frameOf 64 [0, 1, 4, 5] [wsl 0, .int .i64 x0, .int .i64 (-1), .int .i64 x1], ⟨[⟨true, (some (.tab sc0 x2))⟩], 1, []⟩))
   (cond (Nat.beq ((r69l3b (IntKind.i64.wrap (x0 + 1)) x1 x2).1) 0)
    (some (.ret, frameOf 64 [0, 1, 4, 5] [wsl 0, .int .i64 (IntKind.i64.wrap (x0 + 1)), .int .i64 (-1), .int .i64 x1], ⟨[⟨true, (some (.tab sc0 x2))⟩], 1, []⟩))
    (cond (Nat.beq ((r69l3b (IntKind.i64.wrap (x0 + 1)) x1 x2).1) 1)
     (some (.exit 6, frameOf 64 [0, 1, 4, 5] [wsl 0, .int .i64 ((r69l3b (IntKind.i64.wrap (x0 + 1)) x1 x2).2), anyV, .int .i64 x1], ⟨[⟨true, (some (.tab sc0 x2))⟩], 1, []⟩))
     none)))
  none)
 none)
set_option maxRecDepth 100000 in
set_option maxHeartbeats 4000000 in
theorem e69l3c (x0 x1 : Int) (x2 : List (List Int)) : evC Try.prog ext T44 L69_3 200 (loopN Try.f69 3) (loopTail [0, 1, 5, 8] [0, 1, 4, 5] [] (sumK 64 [0, 1, 5, 8] [0, 1, 4, 5] Q69l3b)) (frameOf 64 [0, 1, 5, 8] [wsl 0, .int .i64 x0, .int .i64 x1, .int .i64 4]) ⟨[⟨true, (some (.tab sc0 x2))⟩], 1, []⟩ = firstT ([((Nat.beq ((r69l3c x0 x1 x2).1) 0), .ret, [wsl 0, .int .i64 ((r69l3c x0 x1 x2).2.1), .int .i64 (-1), .int .i64 x1], ⟨[⟨true, (some (.tab sc0 x2))⟩], 1, []⟩), ((Nat.beq ((r69l3c x0 x1 x2).1) 1), .exit 6, [wsl 0, .int .i64 ((r69l3c x0 x1 x2).2.2), anyV, .int .i64 x1], ⟨[⟨true, (some (.tab sc0 x2))⟩], 1, []⟩)].map fun (b, x) => (b, (x.1, frameOf 64 [0, 1, 4, 5] x.2.1, x.2.2))) :=
 (show evC Try.prog ext T44 L69_3 200 (loopN Try.f69 3) (loopTail [0, 1, 5, 8] [0, 1, 4, 5] [] (sumK 64 [0, 1, 5, 8] [0, 1, 4, 5] Q69l3b)) (frameOf 64 [0, 1, 5, 8] [wsl 0, .int .i64 x0, .int .i64 x1, .int .i64 4]) ⟨[⟨true, (some (.tab sc0 x2))⟩], 1, []⟩ = w69l3c x0 x1 x2 from by kernel_rfl).trans
 ((show w69l3c x0 x1 x2 = t69l3c x0 x1 x2 from (cond_cong _ (fun h0 => (cond_t (ev_and2 h0) rfl)) (fun h0 => rfl))).trans
 (show t69l3c x0 x1 x2 = a69l3c x0 x1 x2 (r69l3c x0 x1 x2) from (cond_app (a69l3c x0 x1 x2) _ (cond_app (a69l3c x0 x1 x2) _ rfl (cond_app (a69l3c x0 x1 x2) _ rfl (cond_app (a69l3c x0 x1 x2) _ rfl rfl))) rfl)))
noncomputable def Q69l3c : SumK := fun vals s =>
 match vals, s.h with
 | [.iface f0 .nilIface, .int .i64 x0, .int .i64 x1, .int .i64 f1], [⟨true, some (.tab [.fl .f32, .fl .f32, .fl .f32, .fl .f32, .fl .f32, .fl .f32, .fl .f32, .fl .f32, .fl .f32, .fl .f32, .fl .f32, .fl .f32, .fl .f32, .fl .f32, .fl .f32, .fl .f32, .fl .f32, .fl .f32] x2)⟩] => if f0 = 0 ∧ f1 = 4 then [((Nat.beq ((r69l3c x0 x1 x2).1) 0), .ret, [wsl 0, .int .i64 ((r69l3c x0 x1 x2).2.1), .int .i64 (-1), .int .i64 x1], ⟨[⟨true, (some (.tab sc0 x2))⟩], 1, []⟩), ((Nat.beq ((r69l3c x0 x1 x2).1) 1), .exit 6, [wsl 0, .int .i64 ((r69l3c x0 x1 x2).2.2), anyV, .int .i64 x1], ⟨[⟨true, (some (.tab sc0 x2))⟩], 1, []⟩)] else Q69l3b vals s
 | _, _ => Q69l3b vals s
set_option maxRecDepth 100000 in
set_option maxHeartbeats 4000000 in
theorem qok69l3c : SumKOk Try.prog (loopN Try.f69 3) 64 [0, 1, 5, 8] [0, 1, 4, 5] Q69l3c := by
  intro vals s x h1 h2 h3
  unfold Q69l3c at h3; split at h3
  · rename_i h; split at h3
    · rename_i hc; obtain ⟨rfl, rfl⟩ := hc; exact sum_step ok44 extOk mixed (lok69_3.inner (by kernel_rfl)) qok69l3b h1 h2 h (e69l3c _ _ _) rfl h3
    · exact qok69l3b _ _ _ h1 h2 h3
  · exact qok69l3b _ _ _ h1 h2 h3
noncomputable def L69_4 : LoopT := addL L69_3 18 [0, 1, 5, 8] (sumK 64 [0, 1, 5, 8] [0, 1, 4, 5] Q69l3c)
theorem lok69_4 : LfOkF Try.prog L69_4 Try.f69 := lfOkF_add lok69_3 qok69l3c (by kernel_rfl) (by kernel_rfl) (by kernel_rfl)

/-- laws.heldWoodS, loop 3 -/
noncomputable def r69l3d (x0 x1 : Int) (x2 : List (List Int)) : Nat × Int × Int :=
 cond ((decide ((0 : Int) ≤ x1)) && (Nat.blt (Int.toNat x1) x2.length))
  (cond (!feq .f32 (Int.toNat ((x2.getD (Int.toNat x1) []).getD 15 0)) (ofInt .f32 x0))
   (0, x0, 0)
   (cond (Nat.beq ((r69l3c (IntKind.i64.wrap (x0 + 1)) x1 x2).1) 0)
    (0, ((r69l3c (IntKind.i64.wrap (x0 + 1)) x1 x2).2.1), 0)
    (cond (Nat.beq ((r69l3c (IntKind.i64.wrap (x0 + 1)) x1 x2).1) 1)
     (1, 0, ((r69l3c (IntKind.i64.wrap (x0 + 1)) x1 x2).2.2))
     (2, 0, 0))))
  (2, 0, 0)
noncomputable def a69l3d (x0 x1 : Int) (x2 : List (List Int)) (p : Nat × Int × Int) : Option (Fin' × List Value × St) := firstT ([((Nat.beq (p.1) 0), .ret, [wsl 0, .int .i64 (p.2.1), .int .i64 (-1), .int .i64 x1], ⟨[⟨true, (some (.tab sc0 x2))⟩], 1, []⟩), ((Nat.beq (p.1) 1), .exit 6, [wsl 0, .int .i64 (p.2.2), anyV, .int .i64 x1], ⟨[⟨true, (some (.tab sc0 x2))⟩], 1, []⟩)].map fun (b, x) => (b, (x.1, frameOf 64 [0, 1, 4, 5] x.2.1, x.2.2)))
noncomputable def t69l3d (x0 x1 : Int) (x2 : List (List Int)) : Option (Fin' × List Value × St) :=
 (cond ((decide ((0 : Int) ≤ x1)) && (Nat.blt (Int.toNat x1) x2.length))
 (cond (!feq .f32 (Int.toNat ((x2.getD (Int.toNat x1) []).getD 15 0)) (ofInt .f32 x0))
  (some (.ret, frameOf 64 [0, 1, 4, 5] [wsl 0, .int .i64 x0, .int .i64 (-1), .int .i64 x1], ⟨[⟨true, (some (.tab sc0 x2))⟩], 1, []⟩))
  (cond (Nat.beq ((r69l3c (IntKind.i64.wrap (x0 + 1)) x1 x2).1) 0)
   (some (.ret, frameOf 64 [0, 1, 4, 5] [wsl 0, .int .i64 ((r69l3c (IntKind.i64.wrap (x0 + 1)) x1 x2).2.1), .int .i64 (-1), .int .i64 x1], ⟨[⟨true, (some (.tab sc0 x2))⟩], 1, []⟩))
   (cond (Nat.beq ((r69l3c (IntKind.i64.wrap (x0 + 1)) x1 x2).1) 1)
    (some (.exit 6, frameOf 64 [0, 1, 4, 5] [wsl 0, .int .i64 ((r69l3c (IntKind.i64.wrap (x0 + 1)) x1 x2).2.2), anyV, .int .i64 x1], ⟨[⟨true, (some (.tab sc0 x2))⟩], 1, []⟩))
    none)))
 none)
noncomputable def w69l3d (x0 x1 : Int) (x2 : List (List Int)) : Option (Fin' × List Value × St) :=
 (cond ((decide ((0 : Int) ≤ x1)) && (Nat.blt (Int.toNat x1) x2.length))
 (cond (Nat.blt (Int.toNat x1) x2.length)
  (cond (!feq .f32 (Int.toNat ((x2.getD (Int.toNat x1) []).getD 15 0)) (ofInt .f32 x0))
   (some (.ret, frameOf 64 [0, 1, 4, 5] [wsl 0, .int .i64 x0, .int .i64 (-1), .int .i64 x1], ⟨[⟨true, (some (.tab sc0 x2))⟩], 1, []⟩))
   (cond (Nat.beq ((r69l3c (IntKind.i64.wrap (x0 + 1)) x1 x2).1) 0)
    (some (.ret, frameOf 64 [0, 1, 4, 5] [wsl 0, .int .i64 ((r69l3c (IntKind.i64.wrap (x0 + 1)) x1 x2).2.1), .int .i64 (-1), .int .i64 x1], ⟨[⟨true, (some (.tab sc0 x2))⟩], 1, []⟩))
    (cond (Nat.beq ((r69l3c (IntKind.i64.wrap (x0 + 1)) x1 x2).1) 1)
     (some (.exit 6, frameOf 64 [0, 1, 4, 5] [wsl 0, .int .i64 ((r69l3c (IntKind.i64.wrap (x0 + 1)) x1 x2).2.2), anyV, .int .i64 x1], ⟨[⟨true, (some (.tab sc0 x2))⟩], 1, []⟩))
     none)))
  none)
 none)
set_option maxRecDepth 100000 in
set_option maxHeartbeats 4000000 in
theorem e69l3d (x0 x1 : Int) (x2 : List (List Int)) : evC Try.prog ext T44 L69_4 200 (loopN Try.f69 3) (loopTail [0, 1, 5, 8] [0, 1, 4, 5] [] (sumK 64 [0, 1, 5, 8] [0, 1, 4, 5] Q69l3c)) (frameOf 64 [0, 1, 5, 8] [wsl 0, .int .i64 x0, .int .i64 x1, .int .i64 3]) ⟨[⟨true, (some (.tab sc0 x2))⟩], 1, []⟩ = firstT ([((Nat.beq ((r69l3d x0 x1 x2).1) 0), .ret, [wsl 0, .int .i64 ((r69l3d x0 x1 x2).2.1), .int .i64 (-1), .int .i64 x1], ⟨[⟨true, (some (.tab sc0 x2))⟩], 1, []⟩), ((Nat.beq ((r69l3d x0 x1 x2).1) 1), .exit 6, [wsl 0, .int .i64 ((r69l3d x0 x1 x2).2.2), anyV, .int .i64 x1], ⟨[⟨true, (some (.tab sc0 x2))⟩], 1, []⟩)].map fun (b, x) => (b, (x.1, frameOf 64 [0, 1, 4, 5] x.2.1, x.2.2))) :=
 (show evC Try.prog ext T44 L69_4 200 (loopN Try.f69 3) (loopTail [0, 1, 5, 8] [0, 1, 4, 5] [] (sumK 64 [0, 1, 5, 8] [0, 1, 4, 5] Q69l3c)) (frameOf 64 [0, 1, 5, 8] [wsl 0, .int .i64 x0, .int .i64 x1, .int .i64 3]) ⟨[⟨true, (some (.tab sc0 x2))⟩], 1, []⟩ = w69l3d x0 x1 x2 from by kernel_rfl).trans
 ((show w69l3d x0 x1 x2 = t69l3d x0 x1 x2 from (cond_cong _ (fun h0 => (cond_t (ev_and2 h0) rfl)) (fun h0 => rfl))).trans
 (show t69l3d x0 x1 x2 = a69l3d x0 x1 x2 (r69l3d x0 x1 x2) from (cond_app (a69l3d x0 x1 x2) _ (cond_app (a69l3d x0 x1 x2) _ rfl (cond_app (a69l3d x0 x1 x2) _ rfl (cond_app (a69l3d x0 x1 x2) _ rfl rfl))) rfl)))
noncomputable def Q69l3d : SumK := fun vals s =>
 match vals, s.h with
 | [.iface f0 .nilIface, .int .i64 x0, .int .i64 x1, .int .i64 f1], [⟨true, some (.tab [.fl .f32, .fl .f32, .fl .f32, .fl .f32, .fl .f32, .fl .f32, .fl .f32, .fl .f32, .fl .f32, .fl .f32, .fl .f32, .fl .f32, .fl .f32, .fl .f32, .fl .f32, .fl .f32, .fl .f32, .fl .f32] x2)⟩] => if f0 = 0 ∧ f1 = 3 then [((Nat.beq ((r69l3d x0 x1 x2).1) 0), .ret, [wsl 0, .int .i64 ((r69l3d x0 x1 x2).2.1), .int .i64 (-1), .int .i64 x1], ⟨[⟨true, (some (.tab sc0 x2))⟩], 1, []⟩), ((Nat.beq ((r69l3d x0 x1 x2).1) 1), .exit 6, [wsl 0, .int .i64 ((r69l3d x0 x1 x2).2.2), anyV, .int .i64 x1], ⟨[⟨true, (some (.tab sc0 x2))⟩], 1, []⟩)] else Q69l3c vals s
 | _, _ => Q69l3c vals s
set_option maxRecDepth 100000 in
set_option maxHeartbeats 4000000 in
theorem qok69l3d : SumKOk Try.prog (loopN Try.f69 3) 64 [0, 1, 5, 8] [0, 1, 4, 5] Q69l3d := by
  intro vals s x h1 h2 h3
  unfold Q69l3d at h3; split at h3
  · rename_i h; split at h3
    · rename_i hc; obtain ⟨rfl, rfl⟩ := hc; exact sum_step ok44 extOk mixed (lok69_4.inner (by kernel_rfl)) qok69l3c h1 h2 h (e69l3d _ _ _) rfl h3
    · exact qok69l3c _ _ _ h1 h2 h3
  · exact qok69l3c _ _ _ h1 h2 h3
noncomputable def L69_5 : LoopT := addL L69_4 18 [0, 1, 5, 8] (sumK 64 [0, 1, 5, 8] [0, 1, 4, 5] Q69l3d)
theorem lok69_5 : LfOkF Try.prog L69_5 Try.f69 := lfOkF_add lok69_4 qok69l3d (by kernel_rfl) (by kernel_rfl) (by kernel_rfl)

/-- laws.heldWoodS, loop 3 -/
noncomputable def r69l3e (x0 x1 : Int) (x2 : List (List Int)) : Nat × Int × Int :=
 cond ((decide ((0 : Int) ≤ x1)) && (Nat.blt (Int.toNat x1) x2.length))
  (cond (!feq .f32 (Int.toNat ((x2.getD (Int.toNat x1) []).getD 14 0)) (ofInt .f32 x0))
   (0, x0, 0)
   (cond (Nat.beq ((r69l3d (IntKind.i64.wrap (x0 + 1)) x1 x2).1) 0)
    (0, ((r69l3d (IntKind.i64.wrap (x0 + 1)) x1 x2).2.1), 0)
    (cond (Nat.beq ((r69l3d (IntKind.i64.wrap (x0 + 1)) x1 x2).1) 1)
     (1, 0, ((r69l3d (IntKind.i64.wrap (x0 + 1)) x1 x2).2.2))
     (2, 0, 0))))
  (2, 0, 0)
noncomputable def a69l3e (x0 x1 : Int) (x2 : List (List Int)) (p : Nat × Int × Int) : Option (Fin' × List Value × St) := firstT ([((Nat.beq (p.1) 0), .ret, [wsl 0, .int .i64 (p.2.1), .int .i64 (-1), .int .i64 x1], ⟨[⟨true, (some (.tab sc0 x2))⟩], 1, []⟩), ((Nat.beq (p.1) 1), .exit 6, [wsl 0, .int .i64 (p.2.2), anyV, .int .i64 x1], ⟨[⟨true, (some (.tab sc0 x2))⟩], 1, []⟩)].map fun (b, x) => (b, (x.1, frameOf 64 [0, 1, 4, 5] x.2.1, x.2.2)))
noncomputable def t69l3e (x0 x1 : Int) (x2 : List (List Int)) : Option (Fin' × List Value × St) :=
 (cond ((decide ((0 : Int) ≤ x1)) && (Nat.blt (Int.toNat x1) x2.length))
 (cond (!feq .f32 (Int.toNat ((x2.getD (Int.toNat x1) []).getD 14 0)) (ofInt .f32 x0))
  (some (.ret, frameOf 64 [0, 1, 4, 5] [wsl 0, .int .i64 x0, .int .i64 (-1), .int .i64 x1], ⟨[⟨true, (some (.tab sc0 x2))⟩], 1, []⟩))
  (cond (Nat.beq ((r69l3d (IntKind.i64.wrap (x0 + 1)) x1 x2).1) 0)
   (some (.ret, frameOf 64 [0, 1, 4, 5] [wsl 0, .int .i64 ((r69l3d (IntKind.i64.wrap (x0 + 1)) x1 x2).2.1), .int .i64 (-1), .int .i64 x1], ⟨[⟨true, (some (.tab sc0 x2))⟩], 1, []⟩))
   (cond (Nat.beq ((r69l3d (IntKind.i64.wrap (x0 + 1)) x1 x2).1) 1)
    (some (.exit 6, frameOf 64 [0, 1, 4, 5] [wsl 0, .int .i64 ((r69l3d (IntKind.i64.wrap (x0 + 1)) x1 x2).2.2), anyV, .int .i64 x1], ⟨[⟨true, (some (.tab sc0 x2))⟩], 1, []⟩))
    none)))
 none)
noncomputable def w69l3e (x0 x1 : Int) (x2 : List (List Int)) : Option (Fin' × List Value × St) :=
 (cond ((decide ((0 : Int) ≤ x1)) && (Nat.blt (Int.toNat x1) x2.length))
 (cond (Nat.blt (Int.toNat x1) x2.length)
  (cond (!feq .f32 (Int.toNat ((x2.getD (Int.toNat x1) []).getD 14 0)) (ofInt .f32 x0))
   (some (.ret, frameOf 64 [0, 1, 4, 5] [wsl 0, .int .i64 x0, .int .i64 (-1), .int .i64 x1], ⟨[⟨true, (some (.tab sc0 x2))⟩], 1, []⟩))
   (cond (Nat.beq ((r69l3d (IntKind.i64.wrap (x0 + 1)) x1 x2).1) 0)
    (some (.ret, frameOf 64 [0, 1, 4, 5] [wsl 0, .int .i64 ((r69l3d (IntKind.i64.wrap (x0 + 1)) x1 x2).2.1), .int .i64 (-1), .int .i64 x1], ⟨[⟨true, (some (.tab sc0 x2))⟩], 1, []⟩))
    (cond (Nat.beq ((r69l3d (IntKind.i64.wrap (x0 + 1)) x1 x2).1) 1)
     (some (.exit 6, frameOf 64 [0, 1, 4, 5] [wsl 0, .int .i64 ((r69l3d (IntKind.i64.wrap (x0 + 1)) x1 x2).2.2), anyV, .int .i64 x1], ⟨[⟨true, (some (.tab sc0 x2))⟩], 1, []⟩))
     none)))
  none)
 none)
set_option maxRecDepth 100000 in
set_option maxHeartbeats 4000000 in
theorem e69l3e (x0 x1 : Int) (x2 : List (List Int)) : evC Try.prog ext T44 L69_5 200 (loopN Try.f69 3) (loopTail [0, 1, 5, 8] [0, 1, 4, 5] [] (sumK 64 [0, 1, 5, 8] [0, 1, 4, 5] Q69l3d)) (frameOf 64 [0, 1, 5, 8] [wsl 0, .int .i64 x0, .int .i64 x1, .int .i64 2]) ⟨[⟨true, (some (.tab sc0 x2))⟩], 1, []⟩ = firstT ([((Nat.beq ((r69l3e x0 x1 x2).1) 0), .ret, [wsl 0, .int .i64 ((r69l3e x0 x1 x2).2.1), .int .i64 (-1), .int .i64 x1], ⟨[⟨true, (some (.tab sc0 x2))⟩], 1, []⟩), ((Nat.beq ((r69l3e x0 x1 x2).1) 1), .exit 6, [wsl 0, .int .i64 ((r69l3e x0 x1 x2).2.2), anyV, .int .i64 x1], ⟨[⟨true, (some (.tab sc0 x2))⟩], 1, []⟩)].map fun (b, x) => (b, (x.1, frameOf 64 [0, 1, 4, 5] x.2.1, x.2.2))) :=
 (show evC Try.prog ext T44 L69_5 200 (loopN Try.f69 3) (loopTail [0, 1, 5, 8] [0, 1, 4, 5] [] (sumK 64 [0, 1, 5, 8] [0, 1, 4, 5] Q69l3d)) (frameOf 64 [0, 1, 5, 8] [wsl 0, .int .i64 x0, .int .i64 x1, .int .i64 2]) ⟨[⟨true, (some (.tab sc0 x2))⟩], 1, []⟩ = w69l3e x0 x1 x2 from by kernel_rfl).trans
 ((show w69l3e x0 x1 x2 = t69l3e x0 x1 x2 from (cond_cong _ (fun h0 => (cond_t (ev_and2 h0) rfl)) (fun h0 => rfl))).trans
 (show t69l3e x0 x1 x2 = a69l3e x0 x1 x2 (r69l3e x0 x1 x2) from (cond_app (a69l3e x0 x1 x2) _ (cond_app (a69l3e x0 x1 x2) _ rfl (cond_app (a69l3e x0 x1 x2) _ rfl (cond_app (a69l3e x0 x1 x2) _ rfl rfl))) rfl)))
noncomputable def Q69l3e : SumK := fun vals s =>
 match vals, s.h with
 | [.iface f0 .nilIface, .int .i64 x0, .int .i64 x1, .int .i64 f1], [⟨true, some (.tab [.fl .f32, .fl .f32, .fl .f32, .fl .f32, .fl .f32, .fl .f32, .fl .f32, .fl .f32, .fl .f32, .fl .f32, .fl .f32, .fl .f32, .fl .f32, .fl .f32, .fl .f32, .fl .f32, .fl .f32, .fl .f32] x2)⟩] => if f0 = 0 ∧ f1 = 2 then [((Nat.beq ((r69l3e x0 x1 x2).1) 0), .ret, [wsl 0, .int .i64 ((r69l3e x0 x1 x2).2.1), .int .i64 (-1), .int .i64 x1], ⟨[⟨true, (some (.tab sc0 x2))⟩], 1, []⟩), ((Nat.beq ((r69l3e x0 x1 x2).1) 1), .exit 6, [wsl 0, .int .i64 ((r69l3e x0 x1 x2).2.2), anyV, .int .i64 x1], ⟨[⟨true, (some (.tab sc0 x2))⟩], 1, []⟩)] else Q69l3d vals s
 | _, _ => Q69l3d vals s
set_option maxRecDepth 100000 in
set_option maxHeartbeats 4000000 in
theorem qok69l3e : SumKOk Try.prog (loopN Try.f69 3) 64 [0, 1, 5, 8] [0, 1, 4, 5] Q69l3e := by
  intro vals s x h1 h2 h3
  unfold Q69l3e at h3; split at h3
  · rename_i h; split at h3
    · rename_i hc; obtain ⟨rfl, rfl⟩ := hc; exact sum_step ok44 extOk mixed (lok69_5.inner (by kernel_rfl)) qok69l3d h1 h2 h (e69l3e _ _ _) rfl h3
    · exact qok69l3d _ _ _ h1 h2 h3
  · exact qok69l3d _ _ _ h1 h2 h3
noncomputable def L69_6 : LoopT := addL L69_5 18 [0, 1, 5, 8] (sumK 64 [0, 1, 5, 8] [0, 1, 4, 5] Q69l3e)
theorem lok69_6 : LfOkF Try.prog L69_6 Try.f69 := lfOkF_add lok69_5 qok69l3e (by kernel_rfl) (by kernel_rfl) (by kernel_rfl)

/-- laws.heldWoodS, loop 3 -/
noncomputable def r69l3f (x0 x1 : Int) (x2 : List (List Int)) : Nat × Int × Int :=
 cond ((decide ((0 : Int) ≤ x1)) && (Nat.blt (Int.toNat x1) x2.length))
  (cond (!feq .f32 (Int.toNat ((x2.getD (Int.toNat x1) []).getD 13 0)) (ofInt .f32 x0))
   (0, x0, 0)
   (cond (Nat.beq ((r69l3e (IntKind.i64.wrap (x0 + 1)) x1 x2).1) 0)
    (0, ((r69l3e (IntKind.i64.wrap (x0 + 1)) x1 x2).2.1), 0)
    (cond (Nat.beq ((r69l3e (IntKind.i64.wrap (x0 + 1)) x1 x2).1) 1)
     (1, 0, ((r69l3e (IntKind.i64.wrap (x0 + 1)) x1 x2).2.2))
     (2, 0, 0))))
  (2, 0, 0)
noncomputable def a69l3f (x0 x1 : Int) (x2 : List (List Int)) (p : Nat × Int × Int) : Option (Fin' × List Value × St) := firstT ([((Nat.beq (p.1) 0), .ret, [wsl 0, .int .i64 (p.2.1), .int .i64 (-1), .int .i64 x1], ⟨[⟨true, (some (.tab sc0 x2))⟩], 1, []⟩), ((Nat.beq (p.1) 1), .exit 6, [wsl 0, .int .i64 (p.2.2), anyV, .int .i64 x1], ⟨[⟨true, (some (.tab sc0 x2))⟩], 1, []⟩)].map fun (b, x) => (b, (x.1, frameOf 64 [0, 1, 4, 5] x.2.1, x.2.2)))
noncomputable def t69l3f (x0 x1 : Int) (x2 : List (List Int)) : Option (Fin' × List Value × St) :=
 (cond ((decide ((0 : Int) ≤ x1)) && (Nat.blt (Int.toNat x1) x2.length))
 (cond (!feq .f32 (Int.toNat ((x2.getD (Int.toNat x1) []).getD 13 0)) (ofInt .f32 x0))
  (some (.ret, frameOf 64 [0, 1, 4, 5] [wsl 0, .int .i64 x0, .int .i64 (-1), .int .i64 x1], ⟨[⟨true, (some (.tab sc0 x2))⟩], 1, []⟩))
  (cond (Nat.beq ((r69l3e (IntKind.i64.wrap (x0 + 1)) x1 x2).1) 0)
   (some (.ret, frameOf 64 [0, 1, 4, 5] [wsl 0, .int .i64 ((r69l3e (IntKind.i64.wrap (x0 + 1)) x1 x2).2.1), .int .i64 (-1), .int .i64 x1], ⟨[⟨true, (some (.tab sc0 x2))⟩], 1, []⟩))
   (cond (Nat.beq ((r69l3e (IntKind.i64.wrap (x0 + 1)) x1 x2).1) 1)
    (some (.exit 6, frameOf 64 [0, 1, 4, 5] [wsl 0, .int .i64 ((r69l3e (IntKind.i64.wrap (x0 + 1)) x1 x2).2.2), anyV, .int .i64 x1], ⟨[⟨true, (some (.tab sc0 x2))⟩], 1, []⟩))
    none)))
 none)
noncomputable def w69l3f (x0 x1 : Int) (x2 : List (List Int)) : Option (Fin' × List Value × St) :=
 (cond ((decide ((0 : Int) ≤ x1)) && (Nat.blt (Int.toNat x1) x2.length))
 (cond (Nat.blt (Int.toNat x1) x2.length)
  (cond (!feq .f32 (Int.toNat ((x2.getD (Int.toNat x1) []).getD 13 0)) (ofInt .f32 x0))
   (some (.ret, frameOf 64 [0, 1, 4, 5] [wsl 0, .int .i64 x0, .int .i64 (-1), .int .i64 x1], ⟨[⟨true, (some (.tab sc0 x2))⟩], 1, []⟩))
   (cond (Nat.beq ((r69l3e (IntKind.i64.wrap (x0 + 1)) x1 x2).1) 0)
    (some (.ret, frameOf 64 [0, 1, 4, 5] [wsl 0, .int .i64 ((r69l3e (IntKind.i64.wrap (x0 + 1)) x1 x2).2.1), .int .i64 (-1), .int .i64 x1], ⟨[⟨true, (some (.tab sc0 x2))⟩], 1, []⟩))
    (cond (Nat.beq ((r69l3e (IntKind.i64.wrap (x0 + 1)) x1 x2).1) 1)
     (some (.exit 6, frameOf 64 [0, 1, 4, 5] [wsl 0, .int .i64 ((r69l3e (IntKind.i64.wrap (x0 + 1)) x1 x2).2.2), anyV, .int .i64 x1], ⟨[⟨true, (some (.tab sc0 x2))⟩], 1, []⟩))
     none)))
  none)
 none)
set_option maxRecDepth 100000 in
set_option maxHeartbeats 4000000 in
theorem e69l3f (x0 x1 : Int) (x2 : List (List Int)) : evC Try.prog ext T44 L69_6 200 (loopN Try.f69 3) (loopTail [0, 1, 5, 8] [0, 1, 4, 5] [] (sumK 64 [0, 1, 5, 8] [0, 1, 4, 5] Q69l3e)) (frameOf 64 [0, 1, 5, 8] [wsl 0, .int .i64 x0, .int .i64 x1, .int .i64 1]) ⟨[⟨true, (some (.tab sc0 x2))⟩], 1, []⟩ = firstT ([((Nat.beq ((r69l3f x0 x1 x2).1) 0), .ret, [wsl 0, .int .i64 ((r69l3f x0 x1 x2).2.1), .int .i64 (-1), .int .i64 x1], ⟨[⟨true, (some (.tab sc0 x2))⟩], 1, []⟩), ((Nat.beq ((r69l3f x0 x1 x2).1) 1), .exit 6, [wsl 0, .int .i64 ((r69l3f x0 x1 x2).2.2), anyV, .int .i64 x1], ⟨[⟨true, (some (.tab sc0 x2))⟩], 1, []⟩)].map fun (b, x) => (b, (x.1, frameOf 64 [0, 1, 4, 5] x.2.1, x.2.2))) :=
 (show evC Try.prog ext T44 L69_6 200 (loopN Try.f69 3) (loopTail [0, 1, 5, 8] [0, 1, 4, 5] [] (sumK 64 [0, 1, 5, 8] [0, 1, 4, 5] Q69l3e)) (frameOf 64 [0, 1, 5, 8] [wsl 0, .int .i64 x0, .int .i64 x1, .int .i64 1]) ⟨[⟨true, (some (.tab sc0 x2))⟩], 1, []⟩ = w69l3f x0 x1 x2 from by kernel_rfl).trans
 ((show w69l3f x0 x1 x2 = t69l3f x0 x1 x2 from (cond_cong _ (fun h0 => (cond_t (ev_and2 h0) rfl)) (fun h0 => rfl))).trans
 (show t69l3f x0 x1 x2 = a69l3f x0 x1 x2 (r69l3f x0 x1 x2) from (cond_app (a69l3f x0 x1 x2) _ (cond_app (a69l3f x0 x1 x2) _ rfl (cond_app (a69l3f x0 x1 x2) _ rfl (cond_app (a69l3f x0 x1 x2) _ rfl rfl))) rfl)))
noncomputable def Q69l3f : SumK := fun vals s =>
 match vals, s.h with
 | [.iface f0 .nilIface, .int .i64 x0, .int .i64 x1, .int .i64 f1], [⟨true, some (.tab [.fl .f32, .fl .f32, .fl .f32, .fl .f32, .fl .f32, .fl .f32, .fl .f32, .fl .f32, .fl .f32, .fl .f32, .fl .f32, .fl .f32, .fl .f32, .fl .f32, .fl .f32, .fl .f32, .fl .f32, .fl .f32] x2)⟩] => if f0 = 0 ∧ f1 = 1 then [((Nat.beq ((r69l3f x0 x1 x2).1) 0), .ret, [wsl 0, .int .i64 ((r69l3f x0 x1 x2).2.1), .int .i64 (-1), .int .i64 x1], ⟨[⟨true, (some (.tab sc0 x2))⟩], 1, []⟩), ((Nat.beq ((r69l3f x0 x1 x2).1) 1), .exit 6, [wsl 0, .int .i64 ((r69l3f x0 x1 x2).2.2), anyV, .int .i64 x1], ⟨[⟨true, (some (.tab sc0 x2))⟩], 1, []⟩)] else Q69l3e vals s
 | _, _ => Q69l3e vals s
set_option maxRecDepth 100000 in
set_option maxHeartbeats 4000000 in
theorem qok69l3f : SumKOk Try.prog (loopN Try.f69 3) 64 [0, 1, 5, 8] [0, 1, 4, 5] Q69l3f := by
  intro vals s x h1 h2 h3
  unfold Q69l3f at h3; split at h3
  · rename_i h; split at h3
    · rename_i hc; obtain ⟨rfl, rfl⟩ := hc; exact sum_step ok44 extOk mixed (lok69_6.inner (by kernel_rfl)) qok69l3e h1 h2 h (e69l3f _ _ _) rfl h3
    · exact qok69l3e _ _ _ h1 h2 h3
  · exact qok69l3e _ _ _ h1 h2 h3
noncomputable def L69_7 : LoopT := addL L69_6 18 [0, 1, 5, 8] (sumK 64 [0, 1, 5, 8] [0, 1, 4, 5] Q69l3f)
theorem lok69_7 : LfOkF Try.prog L69_7 Try.f69 := lfOkF_add lok69_6 qok69l3f (by kernel_rfl) (by kernel_rfl) (by kernel_rfl)

/-- laws.heldWoodS, loop 3 -/
noncomputable def r69l3g (x0 x1 : Int) (x2 : List (List Int)) : Nat × Int × Int :=
 cond ((decide ((0 : Int) ≤ x1)) && (Nat.blt (Int.toNat x1) x2.length))
  (cond (!feq .f32 (Int.toNat ((x2.getD (Int.toNat x1) []).getD 12 0)) (ofInt .f32 x0))
   (0, x0, 0)
   (cond (Nat.beq ((r69l3f (IntKind.i64.wrap (x0 + 1)) x1 x2).1) 0)
    (0, ((r69l3f (IntKind.i64.wrap (x0 + 1)) x1 x2).2.1), 0)
    (cond (Nat.beq ((r69l3f (IntKind.i64.wrap (x0 + 1)) x1 x2).1) 1)
     (1, 0, ((r69l3f (IntKind.i64.wrap (x0 + 1)) x1 x2).2.2))
     (2, 0, 0))))
  (2, 0, 0)
noncomputable def a69l3g (x0 x1 : Int) (x2 : List (List Int)) (p : Nat × Int × Int) : Option (Fin' × List Value × St) := firstT ([((Nat.beq (p.1) 0), .ret, [wsl 0, .int .i64 (p.2.1), .int .i64 (-1), .int .i64 x1], ⟨[⟨true, (some (.tab sc0 x2))⟩], 1, []⟩), ((Nat.beq (p.1) 1), .exit 6, [wsl 0, .int .i64 (p.2.2), anyV, .int .i64 x1], ⟨[⟨true, (some (.tab sc0 x2))⟩], 1, []⟩)].map fun (b, x) => (b, (x.1, frameOf 64 [0, 1, 4, 5] x.2.1, x.2.2)))
noncomputable def t69l3g (x0 x1 : Int) (x2 : List (List Int)) : Option (Fin' × List Value × St) :=
 (cond ((decide ((0 : Int) ≤ x1)) && (Nat.blt (Int.toNat x1) x2.length))
 (cond (!feq .f32 (Int.toNat ((x2.getD (Int.toNat x1) []).getD 12 0)) (ofInt .f32 x0))
  (some (.ret, frameOf 64 [0, 1, 4, 5] [wsl 0, .int .i64 x0, .int .i64 (-1), .int .i64 x1], ⟨[⟨true, (some (.tab sc0 x2))⟩], 1, []⟩))
  (cond (Nat.beq ((r69l3f (IntKind.i64.wrap (x0 + 1)) x1 x2).1) 0)
   (some (.ret, frameOf 64 [0, 1, 4, 5] [wsl 0, .int .i64 ((r69l3f (IntKind.i64.wrap (x0 + 1)) x1 x2).2.1), .int .i64 (-1), .int .i64 x1], ⟨[⟨true, (some (.tab sc0 x2))⟩], 1, []⟩))
   (cond (Nat.beq ((r69l3f (IntKind.i64.wrap (x0 + 1)) x1 x2).1) 1)
    (some (.exit 6, frameOf 64 [0, 1, 4, 5] [wsl 0, .int .i64 ((r69l3f (IntKind.i64.wrap (x0 + 1)) x1 x2).2.2), anyV, .int .i64 x1], ⟨[⟨true, (some (.tab sc0 x2))⟩], 1, []⟩))
    none)))
 none)
noncomputable def w69l3g (x0 x1 : Int) (x2 : List (List Int)) : Option (Fin' × List Value × St) :=
 (cond ((decide ((0 : Int) ≤ x1)) && (Nat.blt (Int.toNat x1) x2.length))
 (cond (Nat.blt (Int.toNat x1) x2.length)
  (cond (!feq .f32 (Int.toNat ((x2.getD (Int.toNat x1) []).getD 12 0)) (ofInt .f32 x0))
   (some (.ret, frameOf 64 [0, 1, 4, 5] [wsl 0, .int .i64 x0, .int .i64 (-1), .int .i64 x1], ⟨[⟨true, (some (.tab sc0 x2))⟩], 1, []⟩))
   (cond (Nat.beq ((r69l3f (IntKind.i64.wrap (x0 + 1)) x1 x2).1) 0)
    (some (.ret, frameOf 64 [0, 1, 4, 5] [wsl 0, .int .i64 ((r69l3f (IntKind.i64.wrap (x0 + 1)) x1 x2).2.1), .int .i64 (-1), .int .i64 x1], ⟨[⟨true, (some (.tab sc0 x2))⟩], 1, []⟩))
    (cond (Nat.beq ((r69l3f (IntKind.i64.wrap (x0 + 1)) x1 x2).1) 1)
     (some (.exit 6, frameOf 64 [0, 1, 4, 5] [wsl 0, .int .i64 ((r69l3f (IntKind.i64.wrap (x0 + 1)) x1 x2).2.2), anyV, .int .i64 x1], ⟨[⟨true, (some (.tab sc0 x2))⟩], 1, []⟩))
     none)))
  none)
 none)
set_option maxRecDepth 100000 in
set_option maxHeartbeats 4000000 in
theorem e69l3g (x0 x1 : Int) (x2 : List (List Int)) : evC Try.prog ext T44 L69_7 200 (loopN Try.f69 3) (loopTail [0, 1, 5, 8] [0, 1, 4, 5] [] (sumK 64 [0, 1, 5, 8] [0, 1, 4, 5] Q69l3f)) (frameOf 64 [0, 1, 5, 8] [wsl 0, .int .i64 x0, .int .i64 x1, .int .i64 0]) ⟨[⟨true, (some (.tab sc0 x2))⟩], 1, []⟩ = firstT ([((Nat.beq ((r69l3g x0 x1 x2).1) 0), .ret, [wsl 0, .int .i64 ((r69l3g x0 x1 x2).2.1), .int .i64 (-1), .int .i64 x1], ⟨[⟨true, (some (.tab sc0 x2))⟩], 1, []⟩), ((Nat.beq ((r69l3g x0 x1 x2).1) 1), .exit 6, [wsl 0, .int .i64 ((r69l3g x0 x1 x2).2.2), anyV, .int .i64 x1], ⟨[⟨true, (some (.tab sc0 x2))⟩], 1, []⟩)].map fun (b, x) => (b, (x.1, frameOf 64 [0, 1, 4, 5] x.2.1, x.2.2))) :=
 (show evC Try.prog ext T44 L69_7 200 (loopN Try.f69 3) (loopTail [0, 1, 5, 8] [0, 1, 4, 5] [] (sumK 64 [0, 1, 5, 8] [0, 1, 4, 5] Q69l3f)) (frameOf 64 [0, 1, 5, 8] [wsl 0, .int .i64 x0, .int .i64 x1, .int .i64 0]) ⟨[⟨true, (some (.tab sc0 x2))⟩], 1, []⟩ = w69l3g x0 x1 x2 from by kernel_rfl).trans
 ((show w69l3g x0 x1 x2 = t69l3g x0 x1 x2 from (cond_cong _ (fun h0 => (cond_t (ev_and2 h0) rfl)) (fun h0 => rfl))).trans
 (show t69l3g x0 x1 x2 = a69l3g x0 x1 x2 (r69l3g x0 x1 x2) from (cond_app (a69l3g x0 x1 x2) _ (cond_app (a69l3g x0 x1 x2) _ rfl (cond_app (a69l3g x0 x1 x2) _ rfl (cond_app (a69l3g x0 x1 x2) _ rfl rfl))) rfl)))
noncomputable def Q69l3g : SumK := fun vals s =>
 match vals, s.h with
 | [.iface f0 .nilIface, .int .i64 x0, .int .i64 x1, .int .i64 f1], [⟨true, some (.tab [.fl .f32, .fl .f32, .fl .f32, .fl .f32, .fl .f32, .fl .f32, .fl .f32, .fl .f32, .fl .f32, .fl .f32, .fl .f32, .fl .f32, .fl .f32, .fl .f32, .fl .f32, .fl .f32, .fl .f32, .fl .f32] x2)⟩] => if f0 = 0 ∧ f1 = 0 then [((Nat.beq ((r69l3g x0 x1 x2).1) 0), .ret, [wsl 0, .int .i64 ((r69l3g x0 x1 x2).2.1), .int .i64 (-1), .int .i64 x1], ⟨[⟨true, (some (.tab sc0 x2))⟩], 1, []⟩), ((Nat.beq ((r69l3g x0 x1 x2).1) 1), .exit 6, [wsl 0, .int .i64 ((r69l3g x0 x1 x2).2.2), anyV, .int .i64 x1], ⟨[⟨true, (some (.tab sc0 x2))⟩], 1, []⟩)] else Q69l3f vals s
 | _, _ => Q69l3f vals s
set_option maxRecDepth 100000 in
set_option maxHeartbeats 4000000 in
theorem qok69l3g : SumKOk Try.prog (loopN Try.f69 3) 64 [0, 1, 5, 8] [0, 1, 4, 5] Q69l3g := by
  intro vals s x h1 h2 h3
  unfold Q69l3g at h3; split at h3
  · rename_i h; split at h3
    · rename_i hc; obtain ⟨rfl, rfl⟩ := hc; exact sum_step ok44 extOk mixed (lok69_7.inner (by kernel_rfl)) qok69l3f h1 h2 h (e69l3g _ _ _) rfl h3
    · exact qok69l3f _ _ _ h1 h2 h3
  · exact qok69l3f _ _ _ h1 h2 h3
noncomputable def L69_8 : LoopT := addL L69_7 18 [0, 1, 5, 8] (sumK 64 [0, 1, 5, 8] [0, 1, 4, 5] Q69l3g)
theorem lok69_8 : LfOkF Try.prog L69_8 Try.f69 := lfOkF_add lok69_7 qok69l3g (by kernel_rfl) (by kernel_rfl) (by kernel_rfl)

/-- laws.heldWoodS, loop 0: one round -/
noncomputable def b69l0b (ih : Int → Int → List (List Int) → (Nat × Int × Int)) (x0 x1 : Int) (x2 : List (List Int)) : Nat × Int × Int :=
 let c92 := (r69l3g (IntKind.i64.wrap ((IntKind.i64.wrap ((IntKind.i64.wrap ((IntKind.i64.wrap ((IntKind.i64.wrap ((IntKind.i64.wrap ((IntKind.i64.wrap ((IntKind.i64.wrap ((IntKind.i64.wrap ((IntKind.i64.wrap ((IntKind.i64.wrap ((IntKind.i64.wrap (x0 + 1)) + 1)) + 1)) + 1)) + 1)) + 1)) + 1)) + 1)) + 1)) + 1)) + 1)) + 1)) x1 x2)
 cond (decide ((x1 : Int) < ((x2.length : Nat) : Int)))
  (cond ((decide ((0 : Int) ≤ x1)) && (Nat.blt (Int.toNat x1) x2.length))
   (cond (!feq .f32 (Int.toNat ((x2.getD (Int.toNat x1) []).getD 0 0)) (ofInt .f32 x0))
    (0, x0, 0)
    (cond (!feq .f32 (Int.toNat ((x2.getD (Int.toNat x1) []).getD 1 0)) (ofInt .f32 (IntKind.i64.wrap (x0 + 1))))
     (0, (IntKind.i64.wrap (x0 + 1)), 0)
     (cond (!feq .f32 (Int.toNat ((x2.getD (Int.toNat x1) []).getD 2 0)) (ofInt .f32 (IntKind.i64.wrap ((IntKind.i64.wrap (x0 + 1)) + 1))))
      (0, (IntKind.i64.wrap ((IntKind.i64.wrap (x0 + 1)) + 1)), 0)
      (cond (!feq .f32 (Int.toNat ((x2.getD (Int.toNat x1) []).getD 3 0)) (ofInt .f32 (IntKind.i64.wrap ((IntKind.i64.wrap ((IntKind.i64.wrap (x0 + 1)) + 1)) + 1))))
       (0, (IntKind.i64.wrap ((IntKind.i64.wrap ((IntKind.i64.wrap (x0 + 1)) + 1)) + 1)), 0)
       (cond (!feq .f32 (Int.toNat ((x2.getD (Int.toNat x1) []).getD 4 0)) (ofInt .f32 (IntKind.i64.wrap ((IntKind.i64.wrap ((IntKind.i64.wrap ((IntKind.i64.wrap (x0 + 1)) + 1)) + 1)) + 1))))
        (0, (IntKind.i64.wrap ((IntKind.i64.wrap ((IntKind.i64.wrap ((IntKind.i64.wrap (x0 + 1)) + 1)) + 1)) + 1)), 0)
        (cond (!feq .f32 (Int.toNat ((x2.getD (Int.toNat x1) []).getD 5 0)) (ofInt .f32 (IntKind.i64.wrap ((IntKind.i64.wrap ((IntKind.i64.wrap ((IntKind.i64.wrap ((IntKind.i64.wrap (x0 + 1)) + 1)) + 1)) + 1)) + 1))))
         (0, (IntKind.i64.wrap ((IntKind.i64.wrap ((IntKind.i64.wrap ((IntKind.i64.wrap ((IntKind.i64.wrap (x0 + 1)) + 1)) + 1)) + 1)) + 1)), 0)
         (cond (!feq .f32 (Int.toNat ((x2.getD (Int.toNat x1) []).getD 6 0)) (ofInt .f32 (IntKind.i64.wrap ((IntKind.i64.wrap ((IntKind.i64.wrap ((IntKind.i64.wrap ((IntKind.i64.wrap ((IntKind.i64.wrap (x0 + 1)) + 1)) + 1)) + 1)) + 1)) + 1))))
          (0, (IntKind.i64.wrap ((IntKind.i64.wrap ((IntKind.i64.wrap ((IntKind.i64.wrap ((IntKind.i64.wrap ((IntKind.i64.wrap (x0 + 1)) + 1)) + 1)) + 1)) + 1)) + 1)), 0)
          (cond (!feq .f32 (Int.toNat ((x2.getD (Int.toNat x1) []).getD 7 0)) (ofInt .f32 (IntKind.i64.wrap ((IntKind.i64.wrap ((IntKind.i64.wrap ((IntKind.i64.wrap ((IntKind.i64.wrap ((IntKind.i64.wrap ((IntKind.i64.wrap (x0 + 1)) + 1)) + 1)) + 1)) + 1)) + 1)) + 1))))
           (0, (IntKind.i64.wrap ((IntKind.i64.wrap ((IntKind.i64.wrap ((IntKind.i64.wrap ((IntKind.i64.wrap ((IntKind.i64.wrap ((IntKind.i64.wrap (x0 + 1)) + 1)) + 1)) + 1)) + 1)) + 1)) + 1)), 0)
           (cond (!feq .f32 (Int.toNat ((x2.getD (Int.toNat x1) []).getD 8 0)) (ofInt .f32 (IntKind.i64.wrap ((IntKind.i64.wrap ((IntKind.i64.wrap ((IntKind.i64.wrap ((IntKind.i64.wrap ((IntKind.i64.wrap ((IntKind.i64.wrap ((IntKind.i64.wrap (x0 + 1)) + 1)) + 1)) + 1)) + 1)) + 1)) + 1)) + 1))))
            (0, (IntKind.i64.wrap ((IntKind.i64.wrap ((IntKind.i64.wrap ((IntKind.i64.wrap ((IntKind.i64.wrap ((IntKind.i64.wrap ((IntKind.i64.wrap ((IntKind.i64.wrap (x0 + 1)) + 1)) + 1)) + 1)) + 1)) + 1)) + 1)) + 1)), 0)
            (cond (!feq .f32 (Int.toNat ((x2.getD (Int.toNat x1) []).getD 9 0)) (ofInt .f32 (IntKind.i64.wrap ((IntKind.i64.wrap ((IntKind.i64.wrap ((IntKind.i64.wrap ((IntKind.i64.wrap ((IntKind.i64.wrap ((IntKind.i64.wrap ((IntKind.i64.wrap ((IntKind.i64.wrap (x0 + 1)) + 1)) + 1)) + 1)) + 1)) + 1)) + 1)) + 1)) + 1))))
             (0, (IntKind.i64.wrap ((IntKind.i64.wrap ((IntKind.i64.wrap ((IntKind.i64.wrap ((IntKind.i64.wrap ((IntKind.i64.wrap ((IntKind.i64.wrap ((IntKind.i64.wrap ((IntKind.i64.wrap (x0 + 1)) + 1)) + 1)) + 1)) + 1)) + 1)) + 1)) + 1)) + 1)), 0)
             (cond (!feq .f32 (Int.toNat ((x2.getD (Int.toNat x1) []).getD 10 0)) (ofInt .f32 (IntKind.i64.wrap ((IntKind.i64.wrap ((IntKind.i64.wrap ((IntKind.i64.wrap ((IntKind.i64.wrap ((IntKind.i64.wrap ((IntKind.i64.wrap ((IntKind.i64.wrap ((IntKind.i64.wrap ((IntKind.i64.wrap (x0 + 1)) + 1)) + 1)) + 1)) + 1)) + 1)) + 1)) + 1)) + 1)) + 1))))
              (0, (IntKind.i64.wrap ((IntKind.i64.wrap ((IntKind.i64.wrap ((IntKind.i64.wrap ((IntKind.i64.wrap ((IntKind.i64.wrap ((IntKind.i64.wrap ((IntKind.i64.wrap ((IntKind.i64.wrap ((IntKind.i64.wrap (x0 + 1)) + 1)) + 1)) + 1)) + 1)) + 1)) + 1)) + 1)) + 1)) + 1)), 0)
              (cond (!feq .f32 (Int.toNat ((x2.getD (Int.toNat x1) []).getD 11 0)) (ofInt .f32 (IntKind.i64.wrap ((IntKind.i64.wrap ((IntKind.i64.wrap ((IntKind.i64.wrap ((IntKind.i64.wrap ((IntKind.i64.wrap ((IntKind.i64.wrap ((IntKind.i64.wrap ((IntKind.i64.wrap ((IntKind.i64.wrap ((IntKind.i64.wrap (x0 + 1)) + 1)) + 1)) + 1)) + 1)) + 1)) + 1)) + 1)) + 1)) + 1)) + 1))))
               (0, (IntKind.i64.wrap ((IntKind.i64.wrap ((IntKind.i64.wrap ((IntKind.i64.wrap ((IntKind.i64.wrap ((IntKind.i64.wrap ((IntKind.i64.wrap ((IntKind.i64.wrap ((IntKind.i64.wrap ((IntKind.i64.wrap ((IntKind.i64.wrap (x0 + 1)) + 1)) + 1)) + 1)) + 1)) + 1)) + 1)) + 1)) + 1)) + 1)) + 1)), 0)
               (cond (Nat.beq (c92.1) 0)
                (0, (c92.2.1), 0)
                (cond (Nat.beq (c92.1) 1)
                 (ih (c92.2.2) (IntKind.i64.wrap (x1 + 1)) x2)
                 (2, 0, 0)))))))))))))))
   (2, 0, 0))
  (1, 0, x0)
noncomputable def r69l0b : Nat → Int → Int → List (List Int) → (Nat × Int × Int)
 | 0, _, _, _ => (2, 0, 0)
 | m + 1, x0, x1, x2 => b69l0b (r69l0b m) x0 x1 x2
noncomputable def a69l0b (x0 x1 : Int) (x2 : List (List Int)) (p : Nat × Int × Int) : Option (Fin' × List Value × St) := firstT ([((Nat.beq (p.1) 0), .ret, [.int .i64 (p.2.1), .int .i64 (-1)], ⟨[⟨true, (some (.tab sc0 x2))⟩], 1, []⟩), ((Nat.beq (p.1) 1), .exit 0, [.int .i64 (p.2.2), anyV], ⟨[⟨true, (some (.tab sc0 x2))⟩], 1, []⟩)].map fun (b, x) => (b, (x.1, frameOf 64 [1, 4] x.2.1, x.2.2)))
theorem v69l0b (x0 x1 : Int) (x2 : List (List Int)) (p : Nat × Int × Int) : alts ([((Nat.beq (p.1) 0), .ret, [.int .i64 (p.2.1), .int .i64 (-1)], ⟨[⟨true, (some (.tab sc0 x2))⟩], 1, []⟩), ((Nat.beq (p.1) 1), .exit 0, [.int .i64 (p.2.2), anyV], ⟨[⟨true, (some (.tab sc0 x2))⟩], 1, []⟩)].map fun (b, x) => (b, (x.1, frameOf 64 [1, 4] x.2.1, x.2.2))) some = a69l0b x0 x1 x2 p := alts_first _
noncomputable def q69l0b (m : Nat) : SumK := fun vals s =>
 match vals, s.h with
 | [.iface f0 .nilIface, .int .i64 x0, .int .i64 x1], [⟨true, some (.tab [.fl .f32, .fl .f32, .fl .f32, .fl .f32, .fl .f32, .fl .f32, .fl .f32, .fl .f32, .fl .f32, .fl .f32, .fl .f32, .fl .f32, .fl .f32, .fl .f32, .fl .f32, .fl .f32, .fl .f32, .fl .f32] x2)⟩] => if f0 = 0 then [((Nat.beq ((r69l0b m x0 x1 x2).1) 0), .ret, [.int .i64 ((r69l0b m x0 x1 x2).2.1), .int .i64 (-1)], ⟨[⟨true, (some (.tab sc0 x2))⟩], 1, []⟩), ((Nat.beq ((r69l0b m x0 x1 x2).1) 1), .exit 0, [.int .i64 ((r69l0b m x0 x1 x2).2.2), anyV], ⟨[⟨true, (some (.tab sc0 x2))⟩], 1, []⟩)] else Q69l0 vals s
 | _, _ => Q69l0 vals s
noncomputable def t69l0b (ih : Int → Int → List (List Int) → (Nat × Int × Int)) (x0 x1 : Int) (x2 : List (List Int)) : Option (Fin' × List Value × St) :=
 let c92 := (r69l3g (IntKind.i64.wrap ((IntKind.i64.wrap ((IntKind.i64.wrap ((IntKind.i64.wrap ((IntKind.i64.wrap ((IntKind.i64.wrap ((IntKind.i64.wrap ((IntKind.i64.wrap ((IntKind.i64.wrap ((IntKind.i64.wrap ((IntKind.i64.wrap ((IntKind.i64.wrap (x0 + 1)) + 1)) + 1)) + 1)) + 1)) + 1)) + 1)) + 1)) + 1)) + 1)) + 1)) + 1)) x1 x2)
 (cond (decide ((x1 : Int) < ((x2.length : Nat) : Int)))
 (cond ((decide ((0 : Int) ≤ x1)) && (Nat.blt (Int.toNat x1) x2.length))
  (cond (!feq .f32 (Int.toNat ((x2.getD (Int.toNat x1) []).getD 0 0)) (ofInt .f32 x0))
   (some (.ret, frameOf 64 [1, 4] [.int .i64 x0, .int .i64 (-1)], ⟨[⟨true, (some (.tab sc0 x2))⟩], 1, []⟩))
   (cond (!feq .f32 (Int.toNat ((x2.getD (Int.toNat x1) []).getD 1 0)) (ofInt .f32 (IntKind.i64.wrap (x0 + 1))))
    (some (.ret, frameOf 64 [1, 4] [.int .i64 (IntKind.i64.wrap (x0 + 1)), .int .i64 (-1)], ⟨[⟨true, (some (.tab sc0 x2))⟩], 1, []⟩))
    (cond (!feq .f32 (Int.toNat ((x2.getD (Int.toNat x1) []).getD 2 0)) (ofInt .f32 (IntKind.i64.wrap ((IntKind.i64.wrap (x0 + 1)) + 1))))
     (some (.ret, frameOf 64 [1, 4] [.int .i64 (IntKind.i64.wrap ((IntKind.i64.wrap (x0 + 1)) + 1)), .int .i64 (-1)], ⟨[⟨true, (some (.tab sc0 x2))⟩], 1, []⟩))
     (cond (!feq .f32 (Int.toNat ((x2.getD (Int.toNat x1) []).getD 3 0)) (ofInt .f32 (IntKind.i64.wrap ((IntKind.i64.wrap ((IntKind.i64.wrap (x0 + 1)) + 1)) + 1))))
      (some (.ret, frameOf 64 [1, 4] [.int .i64 (IntKind.i64.wrap ((IntKind.i64.wrap ((IntKind.i64.wrap (x0 + 1)) + 1)) + 1)), .int .i64 (-1)], ⟨[⟨true, (some (.tab sc0 x2))⟩], 1, []⟩))
      (cond (!feq .f32 (Int.toNat ((x2.getD (Int.toNat x1) []).getD 4 0)) (ofInt .f32 (IntKind.i64.wrap ((IntKind.i64.wrap ((IntKind.i64.wrap ((IntKind.i64.wrap (x0 + 1)) + 1)) + 1)) + 1))))
       (some (.ret, frameOf 64 [1, 4] [.int .i64 (IntKind.i64.wrap ((IntKind.i64.wrap ((IntKind.i64.wrap ((IntKind.i64.wrap (x0 + 1)) + 1)) + 1)) + 1)), .int .i64 (-1)], ⟨[⟨true, (some (.tab sc0 x2))⟩], 1, []⟩))
       (cond (!feq .f32 (Int.toNat ((x2.getD (Int.toNat x1) []).getD 5 0)) (ofInt .f32 (IntKind.i64.wrap ((IntKind.i64.wrap ((IntKind.i64.wrap ((IntKind.i64.wrap ((IntKind.i64.wrap (x0 + 1)) + 1)) + 1)) + 1)) + 1))))
        (some (.ret, frameOf 64 [1, 4] [.int .i64 (IntKind.i64.wrap ((IntKind.i64.wrap ((IntKind.i64.wrap ((IntKind.i64.wrap ((IntKind.i64.wrap (x0 + 1)) + 1)) + 1)) + 1)) + 1)), .int .i64 (-1)], ⟨[⟨true, (some (.tab sc0 x2))⟩], 1, []⟩))
        (cond (!feq .f32 (Int.toNat ((x2.getD (Int.toNat x1) []).getD 6 0)) (ofInt .f32 (IntKind.i64.wrap ((IntKind.i64.wrap ((IntKind.i64.wrap ((IntKind.i64.wrap ((IntKind.i64.wrap ((IntKind.i64.wrap (x0 + 1)) + 1)) + 1)) + 1)) + 1)) + 1))))
         (some (.ret, frameOf 64 [1, 4] [.int .i64 (IntKind.i64.wrap ((IntKind.i64.wrap ((IntKind.i64.wrap ((IntKind.i64.wrap ((IntKind.i64.wrap ((IntKind.i64.wrap (x0 + 1)) + 1)) + 1)) + 1)) + 1)) + 1)), .int .i64 (-1)], ⟨[⟨true, (some (.tab sc0 x2))⟩], 1, []⟩))
         (cond (!feq .f32 (Int.toNat ((x2.getD (Int.toNat x1) []).getD 7 0)) (ofInt .f32 (IntKind.i64.wrap ((IntKind.i64.wrap ((IntKind.i64.wrap ((IntKind.i64.wrap ((IntKind.i64.wrap ((IntKind.i64.wrap ((IntKind.i64.wrap (x0 + 1)) + 1)) + 1)) + 1)) + 1)) + 1)) + 1))))
          (some (.ret, frameOf 64 [1, 4] [.int .i64 (IntKind.i64.wrap ((IntKind.i64.wrap ((IntKind.i64.wrap ((IntKind.i64.wrap ((IntKind.i64.wrap ((IntKind.i64.wrap ((IntKind.i64.wrap (x0 + 1)) + 1)) + 1)) + 1)) + 1)) + 1)) + 1)), .int .i64 (-1)], ⟨[⟨true, (some (.tab sc0 x2))⟩], 1, []⟩))
          (cond (!feq .f32 (Int.toNat ((x2.getD (Int.toNat x1) []).getD 8 0)) (ofInt .f32 (IntKind.i64.wrap ((IntKind.i64.wrap ((IntKind.i64.wrap ((IntKind.i64.wrap ((IntKind.i64.wrap ((IntKind.i64.wrap ((IntKind.i64.wrap ((IntKind.i64.wrap (x0 + 1)) + 1)) + 1)) + 1)) + 1)) + 1)) + 1)) + 1))))
           (some (.ret, frameOf 64 [1, 4] [.int .i64 (IntKind.i64.wrap ((IntKind.i64.wrap ((IntKind.i64.wrap ((IntKind.i64.wrap ((IntKind.i64.wrap ((IntKind.i64.wrap ((IntKind.i64.wrap ((IntKind.i64.wrap (x0 + 1)) + 1)) + 1)) + 1)) + 1)) + 1)) + 1)) + 1)), .int .i64 (-1)], ⟨[⟨true, (some (.tab sc0 x2))⟩], 1, []⟩))
           (cond (!feq .f32 (Int.toNat ((x2.getD (Int.toNat x1) []).getD 9 0)) (ofInt .f32 (IntKind.i64.wrap ((IntKind.i64.wrap ((IntKind.i64.wrap ((IntKind.i64.wrap ((IntKind.i64.wrap ((IntKind.i64.wrap ((IntKind.i64.wrap ((IntKind.i64.wrap ((IntKind.i64.wrap (x0 + 1)) + 1)) + 1)) + 1)) + 1)) + 1)) + 1)) + 1)) + 1))))
            (some (.ret, frameOf 64 [1, 4] [.int .i64 (IntKind.i64.wrap ((IntKind.i64.wrap ((IntKind.i64.wrap ((IntKind.i64.wrap ((IntKind.i64.wrap ((IntKind.i64.wrap ((IntKind.i64.wrap ((IntKind.i64.wrap ((IntKind.i64.wrap (x0 + 1)) + 1)) + 1)) + 1)) + 1)) + 1)) + 1)) + 1)) + 1)), .int .i64 (-1)], ⟨[⟨true, (some (.tab sc0 x2))⟩], 1, []⟩))
            (cond (!feq .f32 (Int.toNat ((x2.getD (Int.toNat x1) []).getD 10 0)) (ofInt .f32 (IntKind.i64.wrap ((IntKind.i64.wrap ((IntKind.i64.wrap ((IntKind.i64.wrap ((IntKind.i64.wrap ((IntKind.i64.wrap ((IntKind.i64.wrap ((IntKind.i64.wrap ((IntKind.i64.wrap ((IntKind.i64.wrap (x0 + 1)) + 1)) + 1)) + 1)) + 1)) + 1)) + 1)) + 1)) + 1)) + 1))))
             (some (.ret, frameOf 64 [1, 4] [.int .i64 (IntKind.i64.wrap ((IntKind.i64.wrap ((IntKind.i64.wrap ((IntKind.i64.wrap ((IntKind.i64.wrap ((IntKind.i64.wrap ((IntKind.i64.wrap ((IntKind.i64.wrap ((IntKind.i64.wrap ((IntKind.i64.wrap (x0 + 1)) + 1)) + 1)) + 1)) + 1)) + 1)) + 1)) + 1)) + 1)) + 1)), .int .i64 (-1)], ⟨[⟨true, (some (.tab sc0 x2))⟩], 1, []⟩))
             (cond (!feq .f32 (Int.toNat ((x2.getD (Int.toNat x1) []).getD 11 0)) (ofInt .f32 (IntKind.i64.wrap ((IntKind.i64.wrap ((IntKind.i64.wrap ((IntKind.i64.wrap ((IntKind.i64.wrap ((IntKind.i64.wrap ((IntKind.i64.wrap ((IntKind.i64.wrap ((IntKind.i64.wrap ((IntKind.i64.wrap ((IntKind.i64.wrap (x0 + 1)) + 1)) + 1)) + 1)) + 1)) + 1)) + 1)) + 1)) + 1)) + 1)) + 1))))
              (some (.ret, frameOf 64 [1, 4] [.int .i64 (IntKind.i64.wrap ((IntKind.i64.wrap ((IntKind.i64.wrap ((IntKind.i64.wrap ((IntKind.i64.wrap ((IntKind.i64.wrap ((IntKind.i64.wrap ((IntKind.i64.wrap ((IntKind.i64.wrap ((IntKind.i64.wrap ((IntKind.i64.wrap (x0 + 1)) + 1)) + 1)) + 1)) + 1)) + 1)) + 1)) + 1)) + 1)) + 1)) + 1)), .int .i64 (-1)], ⟨[⟨true, (some (.tab sc0 x2))⟩], 1, []⟩))
              (cond (Nat.beq (c92.1) 0)
               (some (.ret, frameOf 64 [1, 4] [.int .i64 (c92.2.1), .int .i64 (-1)], ⟨[⟨true, (some (.tab sc0 x2))⟩], 1, []⟩))
               (cond (Nat.beq (c92.1) 1)
                (cond (Nat.beq ((ih (c92.2.2) (IntKind.i64.wrap (x1 + 1)) x2).1) 0)
                 (some (.ret, frameOf 64 [1, 4] [.int .i64 ((ih (c92.2.2) (IntKind.i64.wrap (x1 + 1)) x2).2.1), .int .i64 (-1)], ⟨[⟨true, (some (.tab sc0 x2))⟩], 1, []⟩))
                 (cond (Nat.beq ((ih (c92.2.2) (IntKind.i64.wrap (x1 + 1)) x2).1) 1)
                  (some (.exit 0, frameOf 64 [1, 4] [.int .i64 ((ih (c92.2.2) (IntKind.i64.wrap (x1 + 1)) x2).2.2), anyV], ⟨[⟨true, (some (.tab sc0 x2))⟩], 1, []⟩))
                  none))
                none))))))))))))))
  none)
 (some (.exit 0, frameOf 64 [1, 4] [.int .i64 x0, anyV], ⟨[⟨true, (some (.tab sc0 x2))⟩], 1, []⟩)))
noncomputable def w69l0b (ih : Int → Int → List (List Int) → (Nat × Int × Int)) (x0 x1 : Int) (x2 : List (List Int)) : Option (Fin' × List Value × St) :=
 let c92 := (r69l3g (IntKind.i64.wrap ((IntKind.i64.wrap ((IntKind.i64.wrap ((IntKind.i64.wrap ((IntKind.i64.wrap ((IntKind.i64.wrap ((IntKind.i64.wrap ((IntKind.i64.wrap ((IntKind.i64.wrap ((IntKind.i64.wrap ((IntKind.i64.wrap ((IntKind.i64.wrap (x0 + 1)) + 1)) + 1)) + 1)) + 1)) + 1)) + 1)) + 1)) + 1)) + 1)) + 1)) + 1)) x1 x2)
 (cond (decide ((x1 : Int) < ((x2.length : Nat) : Int)))
 (cond ((decide ((0 : Int) ≤ x1)) && (Nat.blt (Int.toNat x1) x2.length))
  (cond (Nat.blt (Int.toNat x1) x2.length)
   (cond (!feq .f32 (Int.toNat ((x2.getD (Int.toNat x1) []).getD 0 0)) (ofInt .f32 x0))
    (some (.ret, frameOf 64 [1, 4] [.int .i64 x0, .int .i64 (-1)], ⟨[⟨true, (some (.tab sc0 x2))⟩], 1, []⟩))
    (cond ((decide ((0 : Int) ≤ x1)) && (Nat.blt (Int.toNat x1) x2.length))
     (cond (Nat.blt (Int.toNat x1) x2.length)
      (cond (!feq .f32 (Int.toNat ((x2.getD (Int.toNat x1) []).getD 1 0)) (ofInt .f32 (IntKind.i64.wrap (x0 + 1))))
       (some (.ret, frameOf 64 [1, 4] [.int .i64 (IntKind.i64.wrap (x0 + 1)), .int .i64 (-1)], ⟨[⟨true, (some (.tab sc0 x2))⟩], 1, []⟩))
       (cond ((decide ((0 : Int) ≤ x1)) && (Nat.blt (Int.toNat x1) x2.length))
        (cond (Nat.blt (Int.toNat x1) x2.length)
         (cond (!feq .f32 (Int.toNat ((x2.getD (Int.toNat x1) []).getD 2 0)) (ofInt .f32 (IntKind.i64.wrap ((IntKind.i64.wrap (x0 + 1)) + 1))))
          (some (.ret, frameOf 64 [1, 4] [.int .i64 (IntKind.i64.wrap ((IntKind.i64.wrap (x0 + 1)) + 1)), .int .i64 (-1)], ⟨[⟨true, (some (.tab sc0 x2))⟩], 1, []⟩))
          (cond ((decide ((0 : Int) ≤ x1)) && (Nat.blt (Int.toNat x1) x2.length))
           (cond (Nat.blt (Int.toNat x1) x2.length)
            (cond (!feq .f32 (Int.toNat ((x2.getD (Int.toNat x1) []).getD 3 0)) (ofInt .f32 (IntKind.i64.wrap ((IntKind.i64.wrap ((IntKind.i64.wrap (x0 + 1)) + 1)) + 1))))
             (some (.ret, frameOf 64 [1, 4] [.int .i64 (IntKind.i64.wrap ((IntKind.i64.wrap ((IntKind.i64.wrap (x0 + 1)) + 1)) + 1)), .int .i64 (-1)], ⟨[⟨true, (some (.tab sc0 x2))⟩], 1, []⟩))
             (cond ((decide ((0 : Int) ≤ x1)) && (Nat.blt (Int.toNat x1) x2.length))
              (cond (Nat.blt (Int.toNat x1) x2.length)
               (cond (!feq .f32 (Int.toNat ((x2.getD (Int.toNat x1) []).getD 4 0)) (ofInt .f32 (IntKind.i64.wrap ((IntKind.i64.wrap ((IntKind.i64.wrap ((IntKind.i64.wrap (x0 + 1)) + 1)) + 1)) + 1))))
                (some (.ret, frameOf 64 [1, 4] [.int .i64 (IntKind.i64.wrap ((IntKind.i64.wrap ((IntKind.i64.wrap ((IntKind.i64.wrap (x0 + 1)) + 1)) + 1)) + 1)), .int .i64 (-1)], ⟨[⟨true, (some (.tab sc0 x2))⟩], 1, []⟩))
                (cond ((decide ((0 : Int) ≤ x1)) && (Nat.blt (Int.toNat x1) x2.length))
                 (cond (Nat.blt (Int.toNat x1) x2.length)
                  (cond (!feq .f32 (Int.toNat ((x2.getD (Int.toNat x1) []).getD 5 0)) (ofInt .f32 (IntKind.i64.wrap ((IntKind.i64.wrap ((IntKind.i64.wrap ((IntKind.i64.wrap ((IntKind.i64.wrap (x0 + 1)) + 1)) + 1)) + 1)) + 1))))
                   (some (.ret, frameOf 64 [1, 4] [.int .i64 (IntKind.i64.wrap ((IntKind.i64.wrap ((IntKind.i64.wrap ((IntKind.i64.wrap ((IntKind.i64.wrap (x0 + 1)) + 1)) + 1)) + 1)) + 1)), .int .i64 (-1)], ⟨[⟨true, (some (.tab sc0 x2))⟩], 1, []⟩))
                   (cond ((decide ((0 : Int) ≤ x1)) && (Nat.blt (Int.toNat x1) x2.length))
                    (cond (Nat.blt (Int.toNat x1) x2.length)
                     (cond (!feq .f32 (Int.toNat ((x2.getD (Int.toNat x1) []).getD 6 0)) (ofInt .f32 (IntKind.i64.wrap ((IntKind.i64.wrap ((IntKind.i64.wrap ((IntKind.i64.wrap ((IntKind.i64.wrap ((IntKind.i64.wrap (x0 + 1)) + 1)) + 1)) + 1)) + 1)) + 1))))
                      (some (.ret, frameOf 64 [1, 4] [.int .i64 (IntKind.i64.wrap ((IntKind.i64.wrap ((IntKind.i64.wrap ((IntKind.i64.wrap ((IntKind.i64.wrap ((IntKind.i64.wrap (x0 + 1)) + 1)) + 1)) + 1)) + 1)) + 1)), .int .i64 (-1)], ⟨[⟨true, (some (.tab sc0 x2))⟩], 1, []⟩))
                      (cond ((decide ((0 : Int) ≤ x1)) && (Nat.blt (Int.toNat x1) x2.length))
                       (cond (Nat.blt (Int.toNat x1) x2.length)
                        (cond (!feq .f32 (Int.toNat ((x2.getD (Int.toNat x1) []).getD 7 0)) (ofInt .f32 (IntKind.i64.wrap ((IntKind.i64.wrap ((IntKind.i64.wrap ((IntKind.i64.wrap ((IntKind.i64.wrap ((IntKind.i64.wrap ((IntKind.i64.wrap (x0 + 1)) + 1)) + 1)) + 1)) + 1)) + 1)) + 1))))
                         (some (.ret, frameOf 64 [1, 4] [.int .i64 (IntKind.i64.wrap ((IntKind.i64.wrap ((IntKind.i64.wrap ((IntKind.i64.wrap ((IntKind.i64.wrap ((IntKind.i64.wrap ((IntKind.i64.wrap (x0 + 1)) + 1)) + 1)) + 1)) + 1)) + 1)) + 1)), .int .i64 (-1)], ⟨[⟨true, (some (.tab sc0 x2))⟩], 1, []⟩))
                         (cond ((decide ((0 : Int) ≤ x1)) && (Nat.blt (Int.toNat x1) x2.length))
                          (cond (Nat.blt (Int.toNat x1) x2.length)
                           (cond (!feq .f32 (Int.toNat ((x2.getD (Int.toNat x1) []).getD 8 0)) (ofInt .f32 (IntKind.i64.wrap ((IntKind.i64.wrap ((IntKind.i64.wrap ((IntKind.i64.wrap ((IntKind.i64.wrap ((IntKind.i64.wrap ((IntKind.i64.wrap ((IntKind.i64.wrap (x0 + 1)) + 1)) + 1)) + 1)) + 1)) + 1)) + 1)) + 1))))
                            (some (.ret, frameOf 64 [1, 4] [.int .i64 (IntKind.i64.wrap ((IntKind.i64.wrap ((IntKind.i64.wrap ((IntKind.i64.wrap ((IntKind.i64.wrap ((IntKind.i64.wrap ((IntKind.i64.wrap ((IntKind.i64.wrap (x0 + 1)) + 1)) + 1)) + 1)) + 1)) + 1)) + 1)) + 1)), .int .i64 (-1)], ⟨[⟨true, (some (.tab sc0 x2))⟩], 1, []⟩))
                            (cond ((decide ((0 : Int) ≤ x1)) && (Nat.blt (Int.toNat x1) x2.length))
                             (cond (Nat.blt (Int.toNat x1) x2.length)
                              (cond (!feq .f32 (Int.toNat ((x2.getD (Int.toNat x1) []).getD 9 0)) (ofInt .f32 (IntKind.i64.wrap ((IntKind.i64.wrap ((IntKind.i64.wrap ((IntKind.i64.wrap ((IntKind.i64.wrap ((IntKind.i64.wrap ((IntKind.i64.wrap ((IntKind.i64.wrap ((IntKind.i64.wrap (x0 + 1)) + 1)) + 1)) + 1)) + 1)) + 1)) + 1)) + 1)) + 1))))
                               (some (.ret, frameOf 64 [1, 4] [.int .i64 (IntKind.i64.wrap ((IntKind.i64.wrap ((IntKind.i64.wrap ((IntKind.i64.wrap ((IntKind.i64.wrap ((IntKind.i64.wrap ((IntKind.i64.wrap ((IntKind.i64.wrap ((IntKind.i64.wrap (x0 + 1)) + 1)) + 1)) + 1)) + 1)) + 1)) + 1)) + 1)) + 1)), .int .i64 (-1)], ⟨[⟨true, (some (.tab sc0 x2))⟩], 1, []⟩))
                               (cond ((decide ((0 : Int) ≤ x1)) && (Nat.blt (Int.toNat x1) x2.length))
                                (cond (Nat.blt (Int.toNat x1) x2.length)
                                 (cond (!feq .f32 (Int.toNat ((x2.getD (Int.toNat x1) []).getD 10 0)) (ofInt .f32 (IntKind.i64.wrap ((IntKind.i64.wrap ((IntKind.i64.wrap ((IntKind.i64.wrap ((IntKind.i64.wrap ((IntKind.i64.wrap ((IntKind.i64.wrap ((IntKind.i64.wrap ((IntKind.i64.wrap ((IntKind.i64.wrap (x0 + 1)) + 1)) + 1)) + 1)) + 1)) + 1)) + 1)) + 1)) + 1)) + 1))))
                                  (some (.ret, frameOf 64 [1, 4] [.int .i64 (IntKind.i64.wrap ((IntKind.i64.wrap ((IntKind.i64.wrap ((IntKind.i64.wrap ((IntKind.i64.wrap ((IntKind.i64.wrap ((IntKind.i64.wrap ((IntKind.i64.wrap ((IntKind.i64.wrap ((IntKind.i64.wrap (x0 + 1)) + 1)) + 1)) + 1)) + 1)) + 1)) + 1)) + 1)) + 1)) + 1)), .int .i64 (-1)], ⟨[⟨true, (some (.tab sc0 x2))⟩], 1, []⟩))
                                  (cond ((decide ((0 : Int) ≤ x1)) && (Nat.blt (Int.toNat x1) x2.length))
                                   (cond (Nat.blt (Int.toNat x1) x2.length)
                                    (cond (!feq .f32 (Int.toNat ((x2.getD (Int.toNat x1) []).getD 11 0)) (ofInt .f32 (IntKind.i64.wrap ((IntKind.i64.wrap ((IntKind.i64.wrap ((IntKind.i64.wrap ((IntKind.i64.wrap ((IntKind.i64.wrap ((IntKind.i64.wrap ((IntKind.i64.wrap ((IntKind.i64.wrap ((IntKind.i64.wrap ((IntKind.i64.wrap (x0 + 1)) + 1)) + 1)) + 1)) + 1)) + 1)) + 1)) + 1)) + 1)) + 1)) + 1))))
                                     (some (.ret, frameOf 64 [1, 4] [.int .i64 (IntKind.i64.wrap ((IntKind.i64.wrap ((IntKind.i64.wrap ((IntKind.i64.wrap ((IntKind.i64.wrap ((IntKind.i64.wrap ((IntKind.i64.wrap ((IntKind.i64.wrap ((IntKind.i64.wrap ((IntKind.i64.wrap ((IntKind.i64.wrap (x0 + 1)) + 1)) + 1)) + 1)) + 1)) + 1)) + 1)) + 1)) + 1)) + 1)) + 1)), .int .i64 (-1)], ⟨[⟨true, (some (.tab sc0 x2))⟩], 1, []⟩))
                                     (cond (Nat.beq (c92.1) 0)
                                      (some (.ret, frameOf 64 [1, 4] [.int .i64 (c92.2.1), .int .i64 (-1)], ⟨[⟨true, (some (.tab sc0 x2))⟩], 1, []⟩))
                                      (cond (Nat.beq (c92.1) 1)
                                       (cond (Nat.beq ((ih (c92.2.2) (IntKind.i64.wrap (x1 + 1)) x2).1) 0)
                                        (some (.ret, frameOf 64 [1, 4] [.int .i64 ((ih (c92.2.2) (IntKind.i64.wrap (x1 + 1)) x2).2.1), .int .i64 (-1)], ⟨[⟨true, (some (.tab sc0 x2))⟩], 1, []⟩))
                                        (cond (Nat.beq ((ih (c92.2.2) (IntKind.i64.wrap (x1 + 1)) x2).1) 1)
                                         (some (.exit 0, frameOf 64 [1, 4] [.int .i64 ((ih (c92.2.2) (IntKind.i64.wrap (x1 + 1)) x2).2.2), anyV], ⟨[⟨true, (some (.tab sc0 x2))⟩], 1, []⟩))
                                         none))
                                       none)))
                                    none)
                                   none))
                                 none)
                                none))
                              none)
                             none))
                           none)
                          none))
                        none)
                       none))
                     none)
                    none))
                  none)
                 none))
               none)
              none))
            none)
           none))
         none)
        none))
      none)
     none))
   none)
  none)
 (some (.exit 0, frameOf 64 [1, 4] [.int .i64 x0, anyV], ⟨[⟨true, (some (.tab sc0 x2))⟩], 1, []⟩)))
set_option maxRecDepth 100000 in
set_option maxHeartbeats 4000000 in
theorem e69l0b (m : Nat) (x0 x1 : Int) (x2 : List (List Int)) : evC Try.prog ext T44 L69_8 200 (loopN Try.f69 0) (loopTail [0, 1, 5] [1, 4] [] (sumK 64 [0, 1, 5] [1, 4] (q69l0b m))) (frameOf 64 [0, 1, 5] [wsl 0, .int .i64 x0, .int .i64 x1]) ⟨[⟨true, (some (.tab sc0 x2))⟩], 1, []⟩ = firstT ([((Nat.beq ((r69l0b (m + 1) x0 x1 x2).1) 0), .ret, [.int .i64 ((r69l0b (m + 1) x0 x1 x2).2.1), .int .i64 (-1)], ⟨[⟨true, (some (.tab sc0 x2))⟩], 1, []⟩), ((Nat.beq ((r69l0b (m + 1) x0 x1 x2).1) 1), .exit 0, [.int .i64 ((r69l0b (m + 1) x0 x1 x2).2.2), anyV], ⟨[⟨true, (some (.tab sc0 x2))⟩], 1, []⟩)].map fun (b, x) => (b, (x.1, frameOf 64 [1, 4] x.2.1, x.2.2))) :=
 (show evC Try.prog ext T44 L69_8 200 (loopN Try.f69 0) (loopTail [0, 1, 5] [1, 4] [] (sumK 64 [0, 1, 5] [1, 4] (q69l0b m))) (frameOf 64 [0, 1, 5] [wsl 0, .int .i64 x0, .int .i64 x1]) ⟨[⟨true, (some (.tab sc0 x2))⟩], 1, []⟩ = w69l0b (r69l0b m) x0 x1 x2 from by kernel_rfl).trans
 ((show w69l0b (r69l0b m) x0 x1 x2 = t69l0b (r69l0b m) x0 x1 x2 from (cond_cong _ (fun h0 => (cond_cong _ (fun h1 => (cond_t (ev_and2 h1) (cond_cong _ (fun h2 => rfl) (fun h2 => (cond_t h1 (cond_t (ev_and2 h1) (cond_cong _ (fun h3 => rfl) (fun h3 => (cond_t h1 (cond_t (ev_and2 h1) (cond_cong _ (fun h4 => rfl) (fun h4 => (cond_t h1 (cond_t (ev_and2 h1) (cond_cong _ (fun h5 => rfl) (fun h5 => (cond_t h1 (cond_t (ev_and2 h1) (cond_cong _ (fun h6 => rfl) (fun h6 => (cond_t h1 (cond_t (ev_and2 h1) (cond_cong _ (fun h7 => rfl) (fun h7 => (cond_t h1 (cond_t (ev_and2 h1) (cond_cong _ (fun h8 => rfl) (fun h8 => (cond_t h1 (cond_t (ev_and2 h1) (cond_cong _ (fun h9 => rfl) (fun h9 => (cond_t h1 (cond_t (ev_and2 h1) (cond_cong _ (fun h10 => rfl) (fun h10 => (cond_t h1 (cond_t (ev_and2 h1) (cond_cong _ (fun h11 => rfl) (fun h11 => (cond_t h1 (cond_t (ev_and2 h1) (cond_cong _ (fun h12 => rfl) (fun h12 => (cond_t h1 (cond_t (ev_and2 h1) rfl)))))))))))))))))))))))))))))))))))))))))))))) (fun h1 => rfl))) (fun h0 => rfl))).trans
 (show t69l0b (r69l0b m) x0 x1 x2 = a69l0b x0 x1 x2 (r69l0b (m + 1) x0 x1 x2) from (cond_app (a69l0b x0 x1 x2) _ (cond_app (a69l0b x0 x1 x2) _ (cond_app (a69l0b x0 x1 x2) _ rfl (cond_app (a69l0b x0 x1 x2) _ rfl (cond_app (a69l0b x0 x1 x2) _ rfl (cond_app (a69l0b x0 x1 x2) _ rfl (cond_app (a69l0b x0 x1 x2) _ rfl (cond_app (a69l0b x0 x1 x2) _ rfl (cond_app (a69l0b x0 x1 x2) _ rfl (cond_app (a69l0b x0 x1 x2) _ rfl (cond_app (a69l0b x0 x1 x2) _ rfl (cond_app (a69l0b x0 x1 x2) _ rfl (cond_app (a69l0b x0 x1 x2) _ rfl (cond_app (a69l0b x0 x1 x2) _ rfl (cond_app (a69l0b x0 x1 x2) _ rfl (cond_app (a69l0b x0 x1 x2) _ (v69l0b x0 x1 x2 ((r69l0b m) ((r69l3g (IntKind.i64.wrap ((IntKind.i64.wrap ((IntKind.i64.wrap ((IntKind.i64.wrap ((IntKind.i64.wrap ((IntKind.i64.wrap ((IntKind.i64.wrap ((IntKind.i64.wrap ((IntKind.i64.wrap ((IntKind.i64.wrap ((IntKind.i64.wrap ((IntKind.i64.wrap (x0 + 1)) + 1)) + 1)) + 1)) + 1)) + 1)) + 1)) + 1)) + 1)) + 1)) + 1)) + 1)) x1 x2).2.2) (IntKind.i64.wrap (x1 + 1)) x2)) rfl)))))))))))))) rfl) rfl)))
set_option maxRecDepth 100000 in
set_option maxHeartbeats 4000000 in
theorem qm69l0b : ∀ m, SumKOk Try.prog (loopN Try.f69 0) 64 [0, 1, 5] [1, 4] (q69l0b m) := by
  intro m
  induction m with
  | zero =>
    intro vals s x h1 h2 h3
    unfold q69l0b at h3; split at h3
    · rename_i h; split at h3
      · rename_i hc; obtain ⟨rfl⟩ := hc; exact absurd h3 (by simp [r69l0b, firstT, Nat.beq])
      · exact qok69l0 _ _ _ h1 h2 h3
    · exact qok69l0 _ _ _ h1 h2 h3
  | succ m ih =>
    intro vals s x h1 h2 h3
    unfold q69l0b at h3; split at h3
    · rename_i h; split at h3
      · rename_i hc; obtain ⟨rfl⟩ := hc; exact sum_step ok44 extOk mixed (lok69_8.inner (by kernel_rfl)) ih h1 h2 h (e69l0b m _ _ _) rfl h3
      · exact qok69l0 _ _ _ h1 h2 h3
    · exact qok69l0 _ _ _ h1 h2 h3
noncomputable def Q69l0b : SumK := fun vals s => q69l0b (fuelOf vals s.h) vals s
theorem qok69l0b : SumKOk Try.prog (loopN Try.f69 0) 64 [0, 1, 5] [1, 4] Q69l0b := fuel_ok qm69l0b fuelOf
noncomputable def L69_9 : LoopT := addL L69_8 3 [0, 1, 5] (sumK 64 [0, 1, 5] [1, 4] Q69l0b)
theorem lok69_9 : LfOkF Try.prog L69_9 Try.f69 := lfOkF_add lok69_8 qok69l0b (by kernel_rfl) (by kernel_rfl) (by kernel_rfl)

/-- laws.heldWoodS -/
noncomputable def r69b (x0 : Int) (x1 : List (List Int)) : Nat × Int :=
 cond (Nat.beq ((r69l0b (1000 + x1.length) x0 0 x1).1) 0)
  (0, (-1))
  (cond (Nat.beq ((r69l0b (1000 + x1.length) x0 0 x1).1) 1)
   (0, ((r69l0b (1000 + x1.length) x0 0 x1).2.2))
   (1, 0))
noncomputable def a69b (x0 : Int) (x1 : List (List Int)) (p : Nat × Int) : Res := firstT [((Nat.beq (p.1) 0), .int .i64 (p.2), ⟨[⟨true, (some (.tab sc0 x1))⟩], 1, []⟩)]
noncomputable def t69b (x0 : Int) (x1 : List (List Int)) : Res :=
 (cond (Nat.beq ((r69l0b (1000 + x1.length) x0 0 x1).1) 0)
 (some (.int .i64 (-1), ⟨[⟨true, (some (.tab sc0 x1))⟩], 1, []⟩))
 (cond (Nat.beq ((r69l0b (1000 + x1.length) x0 0 x1).1) 1)
  (some (.int .i64 ((r69l0b (1000 + x1.length) x0 0 x1).2.2), ⟨[⟨true, (some (.tab sc0 x1))⟩], 1, []⟩))
  none))
set_option maxRecDepth 100000 in
set_option maxHeartbeats 4000000 in
theorem e69b (x0 : Int) (x1 : List (List Int)) : evFn Try.prog ext T44 L69_9 200 Try.f69 [wsl 0, .int .i64 x0] ⟨[⟨true, (some (.tab sc0 x1))⟩], 1, []⟩ = firstT [((Nat.beq ((r69b x0 x1).1) 0), .int .i64 ((r69b x0 x1).2), ⟨[⟨true, (some (.tab sc0 x1))⟩], 1, []⟩)] :=
 (show evFn Try.prog ext T44 L69_9 200 Try.f69 [wsl 0, .int .i64 x0] ⟨[⟨true, (some (.tab sc0 x1))⟩], 1, []⟩ = t69b x0 x1 from by kernel_rfl).trans
 (show t69b x0 x1 = a69b x0 x1 (r69b x0 x1) from (cond_app (a69b x0 x1) _ rfl (cond_app (a69b x0 x1) _ rfl rfl)))
noncomputable def s69b (args : List Value) (s : St) : List (Bool × Value × St) :=
 match args, s.h with
 | [.iface f0 .nilIface, .int .i64 x0], [⟨true, some (.tab [.fl .f32, .fl .f32, .fl .f32, .fl .f32, .fl .f32, .fl .f32, .fl .f32, .fl .f32, .fl .f32, .fl .f32, .fl .f32, .fl .f32, .fl .f32, .fl .f32, .fl .f32, .fl .f32, .fl .f32, .fl .f32] x1)⟩] => if f0 = 0 then [((Nat.beq ((r69b x0 x1).1) 0), .int .i64 ((r69b x0 x1).2), ⟨[⟨true, (some (.tab sc0 x1))⟩], 1, []⟩)] else T44 69 args s
 | _, _ => T44 69 args s
noncomputable def T45 : CallF := addF T44 69 s69b
set_option maxRecDepth 100000 in
set_option maxHeartbeats 4000000 in
theorem ok45 : CfOk Try.prog T45 := by
  refine cfOk_add ok44 fun args s r s' h1 h2 h3 => ?_
  unfold s69b at h3; split at h3
  · rename_i h; split at h3
    · rename_i hc; obtain ⟨rfl⟩ := hc; exact callOk ok44 Try.func69 h1 h2 h lok69_9.body (e69b _ _) rfl h3
    · exact ok44 _ _ _ _ _ h1 h2 h3
  · exact ok44 _ _ _ _ _ h1 h2 h3

/-- laws.heldStove -/
noncomputable def r27b (x0 x1 : Nat) (x2 x3 : Int) (x4 : Nat) (x5 : Int) (x6 : List (List Int)) : Nat × Int :=
 cond (Nat.beq ((r69b x5 x6).1) 0)
  (cond (decide ((((r69b x5 x6).2) : Int) < 0))
   (0, (-1))
   (0, ((r69b x5 x6).2)))
  (1, 0)
noncomputable def a27b (x0 x1 : Nat) (x2 x3 : Int) (x4 : Nat) (x5 : Int) (x6 : List (List Int)) (p : Nat × Int) : Res := firstT [((Nat.beq (p.1) 0), .int .i64 (p.2), ⟨[⟨true, (some (.tab sc0 x6))⟩], 1, []⟩)]
noncomputable def t27b (x0 x1 : Nat) (x2 x3 : Int) (x4 : Nat) (x5 : Int) (x6 : List (List Int)) : Res :=
 (cond (Nat.beq ((r69b x5 x6).1) 0)
 (cond (decide ((((r69b x5 x6).2) : Int) < 0))
  (some (.int .i64 (-1), ⟨[⟨true, (some (.tab sc0 x6))⟩], 1, []⟩))
  (some (.int .i64 ((r69b x5 x6).2), ⟨[⟨true, (some (.tab sc0 x6))⟩], 1, []⟩)))
 none)
set_option maxRecDepth 100000 in
set_option maxHeartbeats 4000000 in
theorem e27b (x0 x1 : Nat) (x2 x3 : Int) (x4 : Nat) (x5 : Int) (x6 : List (List Int)) : evFn Try.prog ext T45 noL 200 Try.f27 [.agg #[wsl 0, .float .f32 x0, .float .f32 x1, .int .i8 x2, .int .i64 x3, .float .f32 x4], .int .i64 x5] ⟨[⟨true, (some (.tab sc0 x6))⟩], 1, []⟩ = firstT [((Nat.beq ((r27b x0 x1 x2 x3 x4 x5 x6).1) 0), .int .i64 ((r27b x0 x1 x2 x3 x4 x5 x6).2), ⟨[⟨true, (some (.tab sc0 x6))⟩], 1, []⟩)] :=
 (show evFn Try.prog ext T45 noL 200 Try.f27 [.agg #[wsl 0, .float .f32 x0, .float .f32 x1, .int .i8 x2, .int .i64 x3, .float .f32 x4], .int .i64 x5] ⟨[⟨true, (some (.tab sc0 x6))⟩], 1, []⟩ = t27b x0 x1 x2 x3 x4 x5 x6 from by kernel_rfl).trans
 (show t27b x0 x1 x2 x3 x4 x5 x6 = a27b x0 x1 x2 x3 x4 x5 x6 (r27b x0 x1 x2 x3 x4 x5 x6) from (cond_app (a27b x0 x1 x2 x3 x4 x5 x6) _ (cond_app (a27b x0 x1 x2 x3 x4 x5 x6) _ rfl rfl) rfl))
noncomputable def s27b (args : List Value) (s : St) : List (Bool × Value × St) :=
 match args, s.h with
 | [.agg ⟨[.iface f0 .nilIface, .float .f32 x0, .float .f32 x1, .int .i8 x2, .int .i64 x3, .float .f32 x4]⟩, .int .i64 x5], [⟨true, some (.tab [.fl .f32, .fl .f32, .fl .f32, .fl .f32, .fl .f32, .fl .f32, .fl .f32, .fl .f32, .fl .f32, .fl .f32, .fl .f32, .fl .f32, .fl .f32, .fl .f32, .fl .f32, .fl .f32, .fl .f32, .fl .f32] x6)⟩] => if f0 = 0 then [((Nat.beq ((r27b x0 x1 x2 x3 x4 x5 x6).1) 0), .int .i64 ((r27b x0 x1 x2 x3 x4 x5 x6).2), ⟨[⟨true, (some (.tab sc0 x6))⟩], 1, []⟩)] else T45 27 args s
 | _, _ => T45 27 args s
noncomputable def T46 : CallF := addF T45 27 s27b
set_option maxRecDepth 100000 in
set_option maxHeartbeats 4000000 in
theorem ok46 : CfOk Try.prog T46 := by
  refine cfOk_add ok45 fun args s r s' h1 h2 h3 => ?_
  unfold s27b at h3; split at h3
  · rename_i h; split at h3
    · rename_i hc; obtain ⟨rfl⟩ := hc; exact callOk ok45 Try.func27 h1 h2 h (lfOkF_no _ _).body (e27b _ _ _ _ _ _ _) rfl h3
    · exact ok45 _ _ _ _ _ h1 h2 h3
  · exact ok45 _ _ _ _ _ h1 h2 h3

/-- laws.FnExactDropSpent -/
noncomputable def r7 (x0 x1 : Nat) (x2 x3 : Int) (x4 : Nat) (x5 : List (List Int)) : Nat × Bool :=
 let c75 := (r23b x0 x1 x2 x3 x4 x0 x1 x2 x3 x4 ((r25 x0 x1 x2 x3 x4 ((r21 x0 x1 x2 x3 x4 x5).2)).2.2) ((r24 x0 x1 x2 x3 x4 ((r21 x0 x1 x2 x3 x4 x5).2)).2.2))
 cond (decide (((r19 x0 x1 x2 x3 x4 1048576 x5) : Int) < 0))
  (0, true)
  (cond (Nat.beq ((r21 x0 x1 x2 x3 x4 x5).1) 0)
   (cond (Nat.beq ((r24 x0 x1 x2 x3 x4 ((r21 x0 x1 x2 x3 x4 x5).2)).1) 0)
    (cond (Nat.beq ((r25 x0 x1 x2 x3 x4 ((r21 x0 x1 x2 x3 x4 x5).2)).1) 0)
     (cond (!(r23 0 0 0 0 0 0 0 0 0 0))
      (0, false)
      (cond (Nat.beq ((r23b x0 x1 x2 x3 x4 x0 x1 x2 x3 x4 ((r21 x0 x1 x2 x3 x4 x5).2) ((r21 x0 x1 x2 x3 x4 x5).2)).1) 0)
       (cond (!((r23b x0 x1 x2 x3 x4 x0 x1 x2 x3 x4 ((r21 x0 x1 x2 x3 x4 x5).2) ((r21 x0 x1 x2 x3 x4 x5).2)).2))
        (0, false)
        (cond (Nat.beq ((r26 x0 x1 x2 x3 x4 1 ((r21 x0 x1 x2 x3 x4 x5).2)).1) 0)
         (cond (decide ((((r26 x0 x1 x2 x3 x4 1 ((r21 x0 x1 x2 x3 x4 x5).2)).2.1) : Int) < 0))
          (0, false)
          (cond (decide (((r27 0 0 0 0 0 1) : Int) < 0))
           (0, false)
           (cond (((r27 0 0 0 0 0 1) : Int) != 1)
            (0, false)
            (0, true))))
         (1, false)))
       (1, false)))
     (cond (Nat.beq ((r25 x0 x1 x2 x3 x4 ((r21 x0 x1 x2 x3 x4 x5).2)).1) 1)
      (cond (Nat.beq ((r23c x0 x1 x2 x3 x4 0 0 0 0 0 ((r25 x0 x1 x2 x3 x4 ((r21 x0 x1 x2 x3 x4 x5).2)).2.2)).1) 0)
       (cond (!((r23c x0 x1 x2 x3 x4 0 0 0 0 0 ((r25 x0 x1 x2 x3 x4 ((r21 x0 x1 x2 x3 x4 x5).2)).2.2)).2))
        (0, false)
        (cond ((((r25 x0 x1 x2 x3 x4 ((r21 x0 x1 x2 x3 x4 x5).2)).2.1) : Int) != 0)
         (0, false)
         (0, false)))
       (1, false))
      (1, false)))
    (cond (Nat.beq ((r24 x0 x1 x2 x3 x4 ((r21 x0 x1 x2 x3 x4 x5).2)).1) 1)
     (cond (Nat.beq ((r25 x0 x1 x2 x3 x4 ((r21 x0 x1 x2 x3 x4 x5).2)).1) 0)
      (cond (!(r23d 0 0 0 0 0 x0 x1 x2 x3 x4 ((r24 x0 x1 x2 x3 x4 ((r21 x0 x1 x2 x3 x4 x5).2)).2.2)))
       (0, false)
       (cond ((0 : Int) != ((r24 x0 x1 x2 x3 x4 ((r21 x0 x1 x2 x3 x4 x5).2)).2.1))
        (0, false)
        (0, false)))
      (cond (Nat.beq ((r25 x0 x1 x2 x3 x4 ((r21 x0 x1 x2 x3 x4 x5).2)).1) 1)
       (cond (Nat.beq (c75.1) 0)
        (cond (!(c75.2))
         (0, false)
         (cond ((((r25 x0 x1 x2 x3 x4 ((r21 x0 x1 x2 x3 x4 x5).2)).2.1) : Int) != ((r24 x0 x1 x2 x3 x4 ((r21 x0 x1 x2 x3 x4 x5).2)).2.1))
          (0, false)
          (cond (Nat.beq ((r23b x0 x1 x2 x3 x4 x0 x1 x2 x3 x4 ((r21 x0 x1 x2 x3 x4 x5).2) ((r21 x0 x1 x2 x3 x4 x5).2)).1) 0)
           (cond (!((r23b x0 x1 x2 x3 x4 x0 x1 x2 x3 x4 ((r21 x0 x1 x2 x3 x4 x5).2) ((r21 x0 x1 x2 x3 x4 x5).2)).2))
            (0, false)
            (cond (Nat.beq ((r26 x0 x1 x2 x3 x4 1 ((r21 x0 x1 x2 x3 x4 x5).2)).1) 0)
             (cond (decide ((((r26 x0 x1 x2 x3 x4 1 ((r21 x0 x1 x2 x3 x4 x5).2)).2.1) : Int) < 0))
              (0, false)
              (cond (Nat.beq ((r26 x0 x1 x2 x3 x4 1 ((r25 x0 x1 x2 x3 x4 ((r21 x0 x1 x2 x3 x4 x5).2)).2.2)).1) 0)
               (cond (Nat.beq ((r27b x0 x1 x2 x3 x4 1 ((r26 x0 x1 x2 x3 x4 1 ((r25 x0 x1 x2 x3 x4 ((r21 x0 x1 x2 x3 x4 x5).2)).2.2)).2.2)).1) 0)
                (cond (decide ((((r27b x0 x1 x2 x3 x4 1 ((r26 x0 x1 x2 x3 x4 1 ((r25 x0 x1 x2 x3 x4 ((r21 x0 x1 x2 x3 x4 x5).2)).2.2)).2.2)).2) : Int) < 0))
                 (0, false)
                 (cond ((((r27b x0 x1 x2 x3 x4 1 ((r26 x0 x1 x2 x3 x4 1 ((r25 x0 x1 x2 x3 x4 ((r21 x0 x1 x2 x3 x4 x5).2)).2.2)).2.2)).2) : Int) != ((r26 x0 x1 x2 x3 x4 1 ((r25 x0 x1 x2 x3 x4 ((r21 x0 x1 x2 x3 x4 x5).2)).2.2)).2.1))
                  (0, false)
                  (0, true)))
                (1, false))
               (1, false)))
             (1, false)))
           (1, false))))
        (1, false))
       (1, false)))
     (1, false)))
   (1, false))
noncomputable def a7 (x0 x1 : Nat) (x2 x3 : Int) (x4 : Nat) (x5 : List (List Int)) (p : Nat × Bool) : Res := firstT [((Nat.beq (p.1) 0), .bool (p.2), ⟨[⟨false, (some (.tab sc0 x5))⟩], 1, []⟩)]
noncomputable def t7 (x0 x1 : Nat) (x2 x3 : Int) (x4 : Nat) (x5 : List (List Int)) : Res :=
 let c75 := (r23b x0 x1 x2 x3 x4 x0 x1 x2 x3 x4 ((r25 x0 x1 x2 x3 x4 ((r21 x0 x1 x2 x3 x4 x5).2)).2.2) ((r24 x0 x1 x2 x3 x4 ((r21 x0 x1 x2 x3 x4 x5).2)).2.2))
 (cond (decide (((r19 x0 x1 x2 x3 x4 1048576 x5) : Int) < 0))
 (some (.bool true, ⟨[⟨false, (some (.tab sc0 x5))⟩], 1, []⟩))
 (cond (Nat.beq ((r21 x0 x1 x2 x3 x4 x5).1) 0)
  (cond (Nat.beq ((r24 x0 x1 x2 x3 x4 ((r21 x0 x1 x2 x3 x4 x5).2)).1) 0)
   (cond (Nat.beq ((r25 x0 x1 x2 x3 x4 ((r21 x0 x1 x2 x3 x4 x5).2)).1) 0)
    (cond (!(r23 0 0 0 0 0 0 0 0 0 0))
     (some (.bool false, ⟨[⟨false, (some (.tab sc0 x5))⟩], 1, []⟩))
     (cond (Nat.beq ((r23b x0 x1 x2 x3 x4 x0 x1 x2 x3 x4 ((r21 x0 x1 x2 x3 x4 x5).2) ((r21 x0 x1 x2 x3 x4 x5).2)).1) 0)
      (cond (!((r23b x0 x1 x2 x3 x4 x0 x1 x2 x3 x4 ((r21 x0 x1 x2 x3 x4 x5).2) ((r21 x0 x1 x2 x3 x4 x5).2)).2))
       (some (.bool false, ⟨[⟨false, (some (.tab sc0 x5))⟩], 1, []⟩))
       (cond (Nat.beq ((r26 x0 x1 x2 x3 x4 1 ((r21 x0 x1 x2 x3 x4 x5).2)).1) 0)
        (cond (decide ((((r26 x0 x1 x2 x3 x4 1 ((r21 x0 x1 x2 x3 x4 x5).2)).2.1) : Int) < 0))
         (some (.bool false, ⟨[⟨false, (some (.tab sc0 x5))⟩], 1, []⟩))
         (cond (decide (((r27 0 0 0 0 0 1) : Int) < 0))
          (some (.bool false, ⟨[⟨false, (some (.tab sc0 x5))⟩], 1, []⟩))
          (cond (((r27 0 0 0 0 0 1) : Int) != 1)
           (some (.bool false, ⟨[⟨false, (some (.tab sc0 x5))⟩], 1, []⟩))
           (some (.bool true, ⟨[⟨false, (some (.tab sc0 x5))⟩], 1, []⟩)))))
        none))
      none))
    (cond (Nat.beq ((r25 x0 x1 x2 x3 x4 ((r21 x0 x1 x2 x3 x4 x5).2)).1) 1)
     (cond (Nat.beq ((r23c x0 x1 x2 x3 x4 0 0 0 0 0 ((r25 x0 x1 x2 x3 x4 ((r21 x0 x1 x2 x3 x4 x5).2)).2.2)).1) 0)
      (cond (!((r23c x0 x1 x2 x3 x4 0 0 0 0 0 ((r25 x0 x1 x2 x3 x4 ((r21 x0 x1 x2 x3 x4 x5).2)).2.2)).2))
       (some (.bool false, ⟨[⟨false, (some (.tab sc0 x5))⟩], 1, []⟩))
       (cond ((((r25 x0 x1 x2 x3 x4 ((r21 x0 x1 x2 x3 x4 x5).2)).2.1) : Int) != 0)
        (some (.bool false, ⟨[⟨false, (some (.tab sc0 x5))⟩], 1, []⟩))
        (some (.bool false, ⟨[⟨false, (some (.tab sc0 x5))⟩], 1, []⟩))))
      none)
     none))
   (cond (Nat.beq ((r24 x0 x1 x2 x3 x4 ((r21 x0 x1 x2 x3 x4 x5).2)).1) 1)
    (cond (Nat.beq ((r25 x0 x1 x2 x3 x4 ((r21 x0 x1 x2 x3 x4 x5).2)).1) 0)
     (cond (!(r23d 0 0 0 0 0 x0 x1 x2 x3 x4 ((r24 x0 x1 x2 x3 x4 ((r21 x0 x1 x2 x3 x4 x5).2)).2.2)))
      (some (.bool false, ⟨[⟨false, (some (.tab sc0 x5))⟩], 1, []⟩))
      (cond ((0 : Int) != ((r24 x0 x1 x2 x3 x4 ((r21 x0 x1 x2 x3 x4 x5).2)).2.1))
       (some (.bool false, ⟨[⟨false, (some (.tab sc0 x5))⟩], 1, []⟩))
       (some (.bool false, ⟨[⟨false, (some (.tab sc0 x5))⟩], 1, []⟩))))
     (cond (Nat.beq ((r25 x0 x1 x2 x3 x4 ((r21 x0 x1 x2 x3 x4 x5).2)).1) 1)
      (cond (Nat.beq (c75.1) 0)
       (cond (!(c75.2))
        (some (.bool false, ⟨[⟨false, (some (.tab sc0 x5))⟩], 1, []⟩))
        (cond ((((r25 x0 x1 x2 x3 x4 ((r21 x0 x1 x2 x3 x4 x5).2)).2.1) : Int) != ((r24 x0 x1 x2 x3 x4 ((r21 x0 x1 x2 x3 x4 x5).2)).2.1))
         (some (.bool false, ⟨[⟨false, (some (.tab sc0 x5))⟩], 1, []⟩))
         (cond (Nat.beq ((r23b x0 x1 x2 x3 x4 x0 x1 x2 x3 x4 ((r21 x0 x1 x2 x3 x4 x5).2) ((r21 x0 x1 x2 x3 x4 x5).2)).1) 0)
          (cond (!((r23b x0 x1 x2 x3 x4 x0 x1 x2 x3 x4 ((r21 x0 x1 x2 x3 x4 x5).2) ((r21 x0 x1 x2 x3 x4 x5).2)).2))
           (some (.bool false, ⟨[⟨false, (some (.tab sc0 x5))⟩], 1, []⟩))
           (cond (Nat.beq ((r26 x0 x1 x2 x3 x4 1 ((r21 x0 x1 x2 x3 x4 x5).2)).1) 0)
            (cond (decide ((((r26 x0 x1 x2 x3 x4 1 ((r21 x0 x1 x2 x3 x4 x5).2)).2.1) : Int) < 0))
             (some (.bool false, ⟨[⟨false, (some (.tab sc0 x5))⟩], 1, []⟩))
             (cond (Nat.beq ((r26 x0 x1 x2 x3 x4 1 ((r25 x0 x1 x2 x3 x4 ((r21 x0 x1 x2 x3 x4 x5).2)).2.2)).1) 0)
              (cond (Nat.beq ((r27b x0 x1 x2 x3 x4 1 ((r26 x0 x1 x2 x3 x4 1 ((r25 x0 x1 x2 x3 x4 ((r21 x0 x1 x2 x3 x4 x5).2)).2.2)).2.2)).1) 0)
               (cond (decide ((((r27b x0 x1 x2 x3 x4 1 ((r26 x0 x1 x2 x3 x4 1 ((r25 x0 x1 x2 x3 x4 ((r21 x0 x1 x2 x3 x4 x5).2)).2.2)).2.2)).2) : Int) < 0))
                (some (.bool false, ⟨[⟨false, (some (.tab sc0 x5))⟩], 1, []⟩))
                (cond ((((r27b x0 x1 x2 x3 x4 1 ((r26 x0 x1 x2 x3 x4 1 ((r25 x0 x1 x2 x3 x4 ((r21 x0 x1 x2 x3 x4 x5).2)).2.2)).2.2)).2) : Int) != ((r26 x0 x1 x2 x3 x4 1 ((r25 x0 x1 x2 x3 x4 ((r21 x0 x1 x2 x3 x4 x5).2)).2.2)).2.1))
                 (some (.bool false, ⟨[⟨false, (some (.tab sc0 x5))⟩], 1, []⟩))
                 (some (.bool true, ⟨[⟨false, (some (.tab sc0 x5))⟩], 1, []⟩))))
               none)
              none))
            none))
          none)))
       none)
      none))
    none))
  none))
noncomputable def w7 (x0 x1 : Nat) (x2 x3 : Int) (x4 : Nat) (x5 : List (List Int)) : Res :=
 let c75 := (r23b x0 x1 x2 x3 x4 x0 x1 x2 x3 x4 ((r25 x0 x1 x2 x3 x4 ((r21 x0 x1 x2 x3 x4 x5).2)).2.2) ((r24 x0 x1 x2 x3 x4 ((r21 x0 x1 x2 x3 x4 x5).2)).2.2))
 (cond (decide (((r19 x0 x1 x2 x3 x4 1048576 x5) : Int) < 0))
 (some (.bool true, ⟨[⟨false, (some (.tab sc0 x5))⟩], 1, []⟩))
 (cond (Nat.beq ((r21 x0 x1 x2 x3 x4 x5).1) 0)
  (cond (Nat.beq ((r24 x0 x1 x2 x3 x4 ((r21 x0 x1 x2 x3 x4 x5).2)).1) 0)
   (cond (Nat.beq ((r21 x0 x1 x2 x3 x4 x5).1) 0)
    (cond (Nat.beq ((r25 x0 x1 x2 x3 x4 ((r21 x0 x1 x2 x3 x4 x5).2)).1) 0)
     (cond (!(r23 0 0 0 0 0 0 0 0 0 0))
      (some (.bool false, ⟨[⟨false, (some (.tab sc0 x5))⟩], 1, []⟩))
      (cond (Nat.beq ((r21 x0 x1 x2 x3 x4 x5).1) 0)
       (cond (Nat.beq ((r23b x0 x1 x2 x3 x4 x0 x1 x2 x3 x4 ((r21 x0 x1 x2 x3 x4 x5).2) ((r21 x0 x1 x2 x3 x4 x5).2)).1) 0)
        (cond (!((r23b x0 x1 x2 x3 x4 x0 x1 x2 x3 x4 ((r21 x0 x1 x2 x3 x4 x5).2) ((r21 x0 x1 x2 x3 x4 x5).2)).2))
         (some (.bool false, ⟨[⟨false, (some (.tab sc0 x5))⟩], 1, []⟩))
         (cond (Nat.beq ((r26 x0 x1 x2 x3 x4 1 ((r21 x0 x1 x2 x3 x4 x5).2)).1) 0)
          (cond (decide ((((r26 x0 x1 x2 x3 x4 1 ((r21 x0 x1 x2 x3 x4 x5).2)).2.1) : Int) < 0))
           (some (.bool false, ⟨[⟨false, (some (.tab sc0 x5))⟩], 1, []⟩))
           (cond (!(r23 0 0 0 0 0 0 0 0 0 0))
            (some (.bool false, ⟨[⟨false, (some (.tab sc0 x5))⟩], 1, []⟩))
            (cond (decide (((r27 0 0 0 0 0 1) : Int) < 0))
             (some (.bool false, ⟨[⟨false, (some (.tab sc0 x5))⟩], 1, []⟩))
             (cond (((r27 0 0 0 0 0 1) : Int) != 1)
              (some (.bool false, ⟨[⟨false, (some (.tab sc0 x5))⟩], 1, []⟩))
              (cond (Nat.beq ((r21 x0 x1 x2 x3 x4 x5).1) 0)
               (cond (Nat.beq ((r25 x0 x1 x2 x3 x4 ((r21 x0 x1 x2 x3 x4 x5).2)).1) 0)
                (cond (!(r23 0 0 0 0 0 0 0 0 0 0))
                 (some (.bool false, ⟨[⟨false, (some (.tab sc0 x5))⟩], 1, []⟩))
                 (cond (decide (((r27 0 0 0 0 0 1) : Int) < 0))
                  (some (.bool false, ⟨[⟨false, (some (.tab sc0 x5))⟩], 1, []⟩))
                  (cond (((r27 0 0 0 0 0 1) : Int) != 1)
                   (some (.bool false, ⟨[⟨false, (some (.tab sc0 x5))⟩], 1, []⟩))
                   (some (.bool true, ⟨[⟨false, (some (.tab sc0 x5))⟩], 1, []⟩)))))
                (cond (Nat.beq ((r25 x0 x1 x2 x3 x4 ((r21 x0 x1 x2 x3 x4 x5).2)).1) 1)
                 (cond (Nat.beq ((r23c x0 x1 x2 x3 x4 0 0 0 0 0 ((r25 x0 x1 x2 x3 x4 ((r21 x0 x1 x2 x3 x4 x5).2)).2.2)).1) 0)
                  (cond (!((r23c x0 x1 x2 x3 x4 0 0 0 0 0 ((r25 x0 x1 x2 x3 x4 ((r21 x0 x1 x2 x3 x4 x5).2)).2.2)).2))
                   (some (.bool false, ⟨[⟨false, (some (.tab sc0 x5))⟩], 1, []⟩))
                   (cond ((((r25 x0 x1 x2 x3 x4 ((r21 x0 x1 x2 x3 x4 x5).2)).2.1) : Int) != 0)
                    (some (.bool false, ⟨[⟨false, (some (.tab sc0 x5))⟩], 1, []⟩))
                    (some (.bool false, ⟨[⟨false, (some (.tab sc0 x5))⟩], 1, []⟩))))
                  none)
                 none))
               none)))))
          none))
        none)
       none))
     (cond (Nat.beq ((r25 x0 x1 x2 x3 x4 ((r21 x0 x1 x2 x3 x4 x5).2)).1) 1)
      (cond (Nat.beq ((r23c x0 x1 x2 x3 x4 0 0 0 0 0 ((r25 x0 x1 x2 x3 x4 ((r21 x0 x1 x2 x3 x4 x5).2)).2.2)).1) 0)
       (cond (!((r23c x0 x1 x2 x3 x4 0 0 0 0 0 ((r25 x0 x1 x2 x3 x4 ((r21 x0 x1 x2 x3 x4 x5).2)).2.2)).2))
        (some (.bool false, ⟨[⟨false, (some (.tab sc0 x5))⟩], 1, []⟩))
        (cond ((((r25 x0 x1 x2 x3 x4 ((r21 x0 x1 x2 x3 x4 x5).2)).2.1) : Int) != 0)
         (some (.bool false, ⟨[⟨false, (some (.tab sc0 x5))⟩], 1, []⟩))
         (some (.bool false, ⟨[⟨false, (some (.tab sc0 x5))⟩], 1, []⟩))))
       none)
      none))
    none)
   (cond (Nat.beq ((r24 x0 x1 x2 x3 x4 ((r21 x0 x1 x2 x3 x4 x5).2)).1) 1)
    (cond (Nat.beq ((r21 x0 x1 x2 x3 x4 x5).1) 0)
     (cond (Nat.beq ((r25 x0 x1 x2 x3 x4 ((r21 x0 x1 x2 x3 x4 x5).2)).1) 0)
      (cond (!(r23d 0 0 0 0 0 x0 x1 x2 x3 x4 ((r24 x0 x1 x2 x3 x4 ((r21 x0 x1 x2 x3 x4 x5).2)).2.2)))
       (some (.bool false, ⟨[⟨false, (some (.tab sc0 x5))⟩], 1, []⟩))
       (cond ((0 : Int) != ((r24 x0 x1 x2 x3 x4 ((r21 x0 x1 x2 x3 x4 x5).2)).2.1))
        (some (.bool false, ⟨[⟨false, (some (.tab sc0 x5))⟩], 1, []⟩))
        (some (.bool false, ⟨[⟨false, (some (.tab sc0 x5))⟩], 1, []⟩))))
      (cond (Nat.beq ((r25 x0 x1 x2 x3 x4 ((r21 x0 x1 x2 x3 x4 x5).2)).1) 1)
       (cond (Nat.beq (c75.1) 0)
        (cond (!(c75.2))
         (some (.bool false, ⟨[⟨false, (some (.tab sc0 x5))⟩], 1, []⟩))
         (cond ((((r25 x0 x1 x2 x3 x4 ((r21 x0 x1 x2 x3 x4 x5).2)).2.1) : Int) != ((r24 x0 x1 x2 x3 x4 ((r21 x0 x1 x2 x3 x4 x5).2)).2.1))
          (some (.bool false, ⟨[⟨false, (some (.tab sc0 x5))⟩], 1, []⟩))
          (cond (Nat.beq ((r21 x0 x1 x2 x3 x4 x5).1) 0)
           (cond (Nat.beq ((r23b x0 x1 x2 x3 x4 x0 x1 x2 x3 x4 ((r21 x0 x1 x2 x3 x4 x5).2) ((r21 x0 x1 x2 x3 x4 x5).2)).1) 0)
            (cond (!((r23b x0 x1 x2 x3 x4 x0 x1 x2 x3 x4 ((r21 x0 x1 x2 x3 x4 x5).2) ((r21 x0 x1 x2 x3 x4 x5).2)).2))
             (some (.bool false, ⟨[⟨false, (some (.tab sc0 x5))⟩], 1, []⟩))
             (cond (Nat.beq ((r26 x0 x1 x2 x3 x4 1 ((r21 x0 x1 x2 x3 x4 x5).2)).1) 0)
              (cond (decide ((((r26 x0 x1 x2 x3 x4 1 ((r21 x0 x1 x2 x3 x4 x5).2)).2.1) : Int) < 0))
               (some (.bool false, ⟨[⟨false, (some (.tab sc0 x5))⟩], 1, []⟩))
               (cond (Nat.beq (c75.1) 0)
                (cond (!(c75.2))
                 (some (.bool false, ⟨[⟨false, (some (.tab sc0 x5))⟩], 1, []⟩))
                 (cond ((((r25 x0 x1 x2 x3 x4 ((r21 x0 x1 x2 x3 x4 x5).2)).2.1) : Int) != ((r24 x0 x1 x2 x3 x4 ((r21 x0 x1 x2 x3 x4 x5).2)).2.1))
                  (some (.bool false, ⟨[⟨false, (some (.tab sc0 x5))⟩], 1, []⟩))
                  (cond (Nat.beq ((r26 x0 x1 x2 x3 x4 1 ((r25 x0 x1 x2 x3 x4 ((r21 x0 x1 x2 x3 x4 x5).2)).2.2)).1) 0)
                   (cond (Nat.beq ((r27b x0 x1 x2 x3 x4 1 ((r26 x0 x1 x2 x3 x4 1 ((r25 x0 x1 x2 x3 x4 ((r21 x0 x1 x2 x3 x4 x5).2)).2.2)).2.2)).1) 0)
                    (cond (decide ((((r27b x0 x1 x2 x3 x4 1 ((r26 x0 x1 x2 x3 x4 1 ((r25 x0 x1 x2 x3 x4 ((r21 x0 x1 x2 x3 x4 x5).2)).2.2)).2.2)).2) : Int) < 0))
                     (some (.bool false, ⟨[⟨false, (some (.tab sc0 x5))⟩], 1, []⟩))
                     (cond ((((r27b x0 x1 x2 x3 x4 1 ((r26 x0 x1 x2 x3 x4 1 ((r25 x0 x1 x2 x3 x4 ((r21 x0 x1 x2 x3 x4 x5).2)).2.2)).2.2)).2) : Int) != ((r26 x0 x1 x2 x3 x4 1 ((r25 x0 x1 x2 x3 x4 ((r21 x0 x1 x2 x3 x4 x5).2)).2.2)).2.1))
                      (some (.bool false, ⟨[⟨false, (some (.tab sc0 x5))⟩], 1, []⟩))
                      (cond (Nat.beq ((r21 x0 x1 x2 x3 x4 x5).1) 0)
                       (cond (Nat.beq ((r25 x0 x1 x2 x3 x4 ((r21 x0 x1 x2 x3 x4 x5).2)).1) 0)
                        (cond (!(r23d 0 0 0 0 0 x0 x1 x2 x3 x4 ((r24 x0 x1 x2 x3 x4 ((r21 x0 x1 x2 x3 x4 x5).2)).2.2)))
                         (some (.bool false, ⟨[⟨false, (some (.tab sc0 x5))⟩], 1, []⟩))
                         (cond ((0 : Int) != ((r24 x0 x1 x2 x3 x4 ((r21 x0 x1 x2 x3 x4 x5).2)).2.1))
                          (some (.bool false, ⟨[⟨false, (some (.tab sc0 x5))⟩], 1, []⟩))
                          (some (.bool false, ⟨[⟨false, (some (.tab sc0 x5))⟩], 1, []⟩))))
                        (cond (Nat.beq ((r25 x0 x1 x2 x3 x4 ((r21 x0 x1 x2 x3 x4 x5).2)).1) 1)
                         (cond (Nat.beq (c75.1) 0)
                          (cond (!(c75.2))
                           (some (.bool false, ⟨[⟨false, (some (.tab sc0 x5))⟩], 1, []⟩))
                           (cond ((((r25 x0 x1 x2 x3 x4 ((r21 x0 x1 x2 x3 x4 x5).2)).2.1) : Int) != ((r24 x0 x1 x2 x3 x4 ((r21 x0 x1 x2 x3 x4 x5).2)).2.1))
                            (some (.bool false, ⟨[⟨false, (some (.tab sc0 x5))⟩], 1, []⟩))
                            (cond (Nat.beq ((r27b x0 x1 x2 x3 x4 1 ((r26 x0 x1 x2 x3 x4 1 ((r25 x0 x1 x2 x3 x4 ((r21 x0 x1 x2 x3 x4 x5).2)).2.2)).2.2)).1) 0)
                             (cond (decide ((((r27b x0 x1 x2 x3 x4 1 ((r26 x0 x1 x2 x3 x4 1 ((r25 x0 x1 x2 x3 x4 ((r21 x0 x1 x2 x3 x4 x5).2)).2.2)).2.2)).2) : Int) < 0))
                              (some (.bool false, ⟨[⟨false, (some (.tab sc0 x5))⟩], 1, []⟩))
                              (cond ((((r27b x0 x1 x2 x3 x4 1 ((r26 x0 x1 x2 x3 x4 1 ((r25 x0 x1 x2 x3 x4 ((r21 x0 x1 x2 x3 x4 x5).2)).2.2)).2.2)).2) : Int) != ((r26 x0 x1 x2 x3 x4 1 ((r25 x0 x1 x2 x3 x4 ((r21 x0 x1 x2 x3 x4 x5).2)).2.2)).2.1))
                               (some (.bool false, ⟨[⟨false, (some (.tab sc0 x5))⟩], 1, []⟩))
                               (some (.bool true, ⟨[⟨false, (some (.tab sc0 x5))⟩], 1, []⟩))))
                             none)))
                          none)
                         none))
                       none)))
                    none)
                   none)))
                none))
              none))
            none)
           none)))
        none)
       none))
     none)
    none))
  none))
set_option maxRecDepth 100000 in
set_option maxHeartbeats 4000000 in
theorem e7 (x0 x1 : Nat) (x2 x3 : Int) (x4 : Nat) (x5 : List (List Int)) : evFn Try.prog ext T46 noL 200 Try.f7 [.agg #[wsl 0, .float .f32 x0, .float .f32 x1, .int .i8 x2, .int .i64 x3, .float .f32 x4]] ⟨[⟨false, (some (.tab sc0 x5))⟩], 1, []⟩ = firstT [((Nat.beq ((r7 x0 x1 x2 x3 x4 x5).1) 0), .bool ((r7 x0 x1 x2 x3 x4 x5).2), ⟨[⟨false, (some (.tab sc0 x5))⟩], 1, []⟩)] :=
 (show evFn Try.prog ext T46 noL 200 Try.f7 [.agg #[wsl 0, .float .f32 x0, .float .f32 x1, .int .i8 x2, .int .i64 x3, .float .f32 x4]] ⟨[⟨false, (some (.tab sc0 x5))⟩], 1, []⟩ = w7 x0 x1 x2 x3 x4 x5 from by kernel_rfl).trans
 ((show w7 x0 x1 x2 x3 x4 x5 = t7 x0 x1 x2 x3 x4 x5 from (cond_cong _ (fun h0 => rfl) (fun h0 => (cond_cong _ (fun h1 => (cond_cong _ (fun h2 => (cond_t h1 (cond_cong _ (fun h3 => (cond_cong _ (fun h4 => rfl) (fun h4 => (cond_t h1 (cond_cong _ (fun h5 => (cond_cong _ (fun h6 => rfl) (fun h6 => (cond_cong _ (fun h7 => (cond_cong _ (fun h8 => rfl) (fun h8 => (cond_f (ev_not0 (ev_notf h4)) (cond_cong _ (fun h9 => rfl) (fun h9 => (cond_cong _ (fun h10 => rfl) (fun h10 => (cond_t h1 (cond_t h3 (cond_f (ev_not0 (ev_notf h4)) (cond_f h9 (cond_f h10 rfl))))))))))))) (fun h7 => rfl))))) (fun h5 => rfl)))))) (fun h3 => rfl)))) (fun h2 => (cond_cong _ (fun h3 => (cond_t h1 (cond_cong _ (fun h4 => rfl) (fun h4 => (cond_cong _ (fun h5 => (cond_cong _ (fun h6 => (cond_cong _ (fun h7 => rfl) (fun h7 => (cond_cong _ (fun h8 => rfl) (fun h8 => (cond_t h1 (cond_cong _ (fun h9 => (cond_cong _ (fun h10 => rfl) (fun h10 => (cond_cong _ (fun h11 => (cond_cong _ (fun h12 => rfl) (fun h12 => (cond_t h6 (cond_f (ev_not0 (ev_notf h7)) (cond_f h8 (cond_cong _ (fun h13 => (cond_cong _ (fun h14 => (cond_cong _ (fun h15 => rfl) (fun h15 => (cond_cong _ (fun h16 => rfl) (fun h16 => (cond_t h1 (cond_f h4 (cond_t h5 (cond_t h6 (cond_f (ev_not0 (ev_notf h7)) (cond_f h8 (cond_t h14 (cond_f h15 (cond_f h16 rfl)))))))))))))) (fun h14 => rfl))) (fun h13 => rfl)))))))) (fun h11 => rfl))))) (fun h9 => rfl)))))))) (fun h6 => rfl))) (fun h5 => rfl)))))) (fun h3 => rfl))))) (fun h1 => rfl))))).trans
 (show t7 x0 x1 x2 x3 x4 x5 = a7 x0 x1 x2 x3 x4 x5 (r7 x0 x1 x2 x3 x4 x5) from (cond_app (a7 x0 x1 x2 x3 x4 x5) _ rfl (cond_app (a7 x0 x1 x2 x3 x4 x5) _ (cond_app (a7 x0 x1 x2 x3 x4 x5) _ (cond_app (a7 x0 x1 x2 x3 x4 x5) _ (cond_app (a7 x0 x1 x2 x3 x4 x5) _ rfl (cond_app (a7 x0 x1 x2 x3 x4 x5) _ (cond_app (a7 x0 x1 x2 x3 x4 x5) _ rfl (cond_app (a7 x0 x1 x2 x3 x4 x5) _ (cond_app (a7 x0 x1 x2 x3 x4 x5) _ rfl (cond_app (a7 x0 x1 x2 x3 x4 x5) _ rfl (cond_app (a7 x0 x1 x2 x3 x4 x5) _ rfl rfl))) rfl)) rfl)) (cond_app (a7 x0 x1 x2 x3 x4 x5) _ (cond_app (a7 x0 x1 x2 x3 x4 x5) _ (cond_app (a7 x0 x1 x2 x3 x4 x5) _ rfl (cond_app (a7 x0 x1 x2 x3 x4 x5) _ rfl rfl)) rfl) rfl)) (cond_app (a7 x0 x1 x2 x3 x4 x5) _ (cond_app (a7 x0 x1 x2 x3 x4 x5) _ (cond_app (a7 x0 x1 x2 x3 x4 x5) _ rfl (cond_app (a7 x0 x1 x2 x3 x4 x5) _ rfl rfl)) (cond_app (a7 x0 x1 x2 x3 x4 x5) _ (cond_app (a7 x0 x1 x2 x3 x4 x5) _ (cond_app (a7 x0 x1 x2 x3 x4 x5) _ rfl (cond_app (a7 x0 x1 x2 x3 x4 x5) _ rfl (cond_app (a7 x0 x1 x2 x3 x4 x5) _ (cond_app (a7 x0 x1 x2 x3 x4 x5) _ rfl (cond_app (a7 x0 x1 x2 x3 x4 x5) _ (cond_app (a7 x0 x1 x2 x3 x4 x5) _ rfl (cond_app (a7 x0 x1 x2 x3 x4 x5) _ (cond_app (a7 x0 x1 x2 x3 x4 x5) _ (cond_app (a7 x0 x1 x2 x3 x4 x5) _ rfl (cond_app (a7 x0 x1 x2 x3 x4 x5) _ rfl rfl)) rfl) rfl)) rfl)) rfl))) rfl) rfl)) rfl)) rfl))))
noncomputable def s7 (args : List Value) (s : St) : List (Bool × Value × St) :=
 match args, s.h with
 | [.agg ⟨[.iface f0 .nilIface, .float .f32 x0, .float .f32 x1, .int .i8 x2, .int .i64 x3, .float .f32 x4]⟩], [⟨false, some (.tab [.fl .f32, .fl .f32, .fl .f32, .fl .f32, .fl .f32, .fl .f32, .fl .f32, .fl .f32, .fl .f32, .fl .f32, .fl .f32, .fl .f32, .fl .f32, .fl .f32, .fl .f32, .fl .f32, .fl .f32, .fl .f32] x5)⟩] => if f0 = 0 then [((Nat.beq ((r7 x0 x1 x2 x3 x4 x5).1) 0), .bool ((r7 x0 x1 x2 x3 x4 x5).2), ⟨[⟨false, (some (.tab sc0 x5))⟩], 1, []⟩)] else T46 7 args s
 | _, _ => T46 7 args s
noncomputable def T47 : CallF := addF T46 7 s7
set_option maxRecDepth 100000 in
set_option maxHeartbeats 4000000 in
theorem ok47 : CfOk Try.prog T47 := by
  refine cfOk_add ok46 fun args s r s' h1 h2 h3 => ?_
  unfold s7 at h3; split at h3
  · rename_i h; split at h3
    · rename_i hc; obtain ⟨rfl⟩ := hc; exact callOk ok46 Try.func7 h1 h2 h (lfOkF_no _ _).body (e7 _ _ _ _ _ _) rfl h3
    · exact ok46 _ _ _ _ _ h1 h2 h3
  · exact ok46 _ _ _ _ _ h1 h2 h3
end Go.Proofs.Ytbmagccjcccnaaa
