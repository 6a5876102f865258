/- What the functions that the statements reach answer, part 2. -/
import Derived.Test.YtdpkbkmmlbmllaaCd1
namespace Go.Proofs.Ytdpkbkmmlbmllaa
open Go.Ab
set_option maxHeartbeats 4000000
set_option maxRecDepth 100000

/-- impl.branches, loop 0: one round -/
noncomputable def b100l0 (ih : Int → Int → Int → List (List Int) → List (List Int) → (Nat × List (List Int))) (x0 x1 x2 : Int) (x3 x4 : List (List Int)) : Nat × List (List Int) :=
 cond (decide ((x2 : Int) < x1))
  (cond ((decide ((0 : Int) ≤ x2)) && (Nat.blt (Int.toNat x2) x4.length))
   (cond ((((x4.getD (Int.toNat x2) []).getD 4 0) : Int) == x0)
    (cond (Nat.ble ((x3.length + 1) * 9) 140737488355328)
     (cond (Nat.beq ((ih x0 x1 (IntKind.i64.wrap (x2 + 1)) (((x3.drop 0).take x3.length) ++ ([[x2]] : List (List Int))) x4).1) 0)
      (0, ((ih x0 x1 (IntKind.i64.wrap (x2 + 1)) (((x3.drop 0).take x3.length) ++ ([[x2]] : List (List Int))) x4).2))
      (cond (Nat.beq ((ih x0 x1 (IntKind.i64.wrap (x2 + 1)) (((x3.drop 0).take x3.length) ++ ([[x2]] : List (List Int))) x4).1) 1)
       (0, (((x3.drop 0).take x3.length) ++ ([[x2]] : List (List Int))))
       (2, [])))
     (2, []))
    (ih x0 x1 (IntKind.i64.wrap (x2 + 1)) x3 x4))
   (2, []))
  (1, [])
noncomputable def r100l0 : Nat → Int → Int → Int → List (List Int) → List (List Int) → (Nat × List (List Int))
 | 0 => fun _ _ _ _ _ => (2, [])
 | m + 1 => b100l0 (r100l0 m)
noncomputable def a100l0 (x0 x1 x2 : Int) (x3 x4 : List (List Int)) (p : Nat × List (List Int)) : Option (Fin' × List Value × St) := firstT ([((Nat.beq (p.1) 0), .exit 0, [wsl 2], ⟨[⟨true, none⟩, ⟨true, (some (.tab sc0 x4))⟩, ⟨true, (some (.tab [.int .i64] (p.2)))⟩], 2, [0]⟩), ((Nat.beq (p.1) 1), .exit 0, [wsl 0], ⟨[⟨true, (some (.tab [.int .i64] x3))⟩, ⟨true, (some (.tab sc0 x4))⟩], 2, [0]⟩)].map fun (b, x) => (b, (x.1, frameOf 26 [5] x.2.1, x.2.2)))
noncomputable def u100l0 (x0 x1 x2 : Int) (x3 x4 : List (List Int)) (p : Nat × List (List Int)) : Option (Fin' × List Value × St) := alts ([((Nat.beq (p.1) 0), .exit 0, [wsl 2], ⟨[⟨true, none⟩, ⟨true, (some (.tab sc0 x4))⟩, ⟨true, (some (.tab [.int .i64] (p.2)))⟩], 2, [0]⟩), ((Nat.beq (p.1) 1), .exit 0, [wsl 0], ⟨[⟨true, (some (.tab [.int .i64] x3))⟩, ⟨true, (some (.tab sc0 x4))⟩], 2, [0]⟩)].map fun (b, x) => (b, (x.1, frameOf 26 [5] x.2.1, x.2.2))) some
theorem v100l0 (x0 x1 x2 : Int) (x3 x4 : List (List Int)) (p : Nat × List (List Int)) : u100l0 x0 x1 x2 x3 x4 p = a100l0 x0 x1 x2 x3 x4 p := alts_first _
noncomputable def q100l0 (m : Nat) : SumK := fun vals s =>
 match vals, s.h with
 | [.int .i64 x0, .iface f0 .nilIface, .iface f1 .nilIface, .int .i64 x1, .int .i64 x2], [⟨true, some (.tab [.int .i64] x3)⟩, ⟨true, some (.tab [.fl .f32, .fl .f32, .fl .f32, .fl .f32, .int .i64] x4)⟩] => if f0 = 0 ∧ f1 = 1 then [((Nat.beq ((r100l0 m x0 x1 x2 x3 x4).1) 0), .exit 0, [wsl 2], ⟨[⟨true, none⟩, ⟨true, (some (.tab sc0 x4))⟩, ⟨true, (some (.tab [.int .i64] ((r100l0 m x0 x1 x2 x3 x4).2)))⟩], 2, [0]⟩), ((Nat.beq ((r100l0 m x0 x1 x2 x3 x4).1) 1), .exit 0, [wsl 0], ⟨[⟨true, (some (.tab [.int .i64] x3))⟩, ⟨true, (some (.tab sc0 x4))⟩], 2, [0]⟩)] else noQ vals s
 | _, _ => noQ vals s
noncomputable def w100l0 (ih : Int → Int → Int → List (List Int) → List (List Int) → (Nat × List (List Int))) (x0 x1 x2 : Int) (x3 x4 : List (List Int)) : Option (Fin' × List Value × St) :=
 (cond (decide ((x2 : Int) < x1))
 (cond ((decide ((0 : Int) ≤ x2)) && (Nat.blt (Int.toNat x2) x4.length))
  (cond (Nat.blt (Int.toNat x2) x4.length)
   (cond ((((x4.getD (Int.toNat x2) []).getD 4 0) : Int) == x0)
    (cond (Nat.ble ((x3.length + 1) * 9) 140737488355328)
     (cond (Nat.beq ((ih x0 x1 (IntKind.i64.wrap (x2 + 1)) (((x3.drop 0).take x3.length) ++ ([[x2]] : List (List Int))) x4).1) 0)
      (a100l0 x0 x1 x2 x3 x4 (0, ((ih x0 x1 (IntKind.i64.wrap (x2 + 1)) (((x3.drop 0).take x3.length) ++ ([[x2]] : List (List Int))) x4).2)))
      (cond (Nat.beq ((ih x0 x1 (IntKind.i64.wrap (x2 + 1)) (((x3.drop 0).take x3.length) ++ ([[x2]] : List (List Int))) x4).1) 1)
       (a100l0 x0 x1 x2 x3 x4 (0, (((x3.drop 0).take x3.length) ++ ([[x2]] : List (List Int)))))
       none))
     none)
    (u100l0 x0 x1 x2 x3 x4 (ih x0 x1 (IntKind.i64.wrap (x2 + 1)) x3 x4)))
   none)
  none)
 (a100l0 x0 x1 x2 x3 x4 (1, [])))
set_option maxRecDepth 100000 in
set_option maxHeartbeats 4000000 in
theorem e100l0 (m : Nat) (x0 x1 x2 : Int) (x3 x4 : List (List Int)) : evC Try.prog ext T33 noL 200 (loopN Try.f100 0) (loopTail ([1, 5, 9, 10, 11], []) [5] [0] (sumK 26 [1, 5, 9, 10, 11] [5] (q100l0 m))) (frameOf 26 [1, 5, 9, 10, 11] [.int .i64 x0, wsl 0, wsl 1, .int .i64 x1, .int .i64 x2]) ⟨[⟨true, (some (.tab [.int .i64] x3))⟩, ⟨true, (some (.tab sc0 x4))⟩], 2, []⟩ = firstT ([((Nat.beq ((r100l0 (m + 1) x0 x1 x2 x3 x4).1) 0), .exit 0, [wsl 2], ⟨[⟨true, none⟩, ⟨true, (some (.tab sc0 x4))⟩, ⟨true, (some (.tab [.int .i64] ((r100l0 (m + 1) x0 x1 x2 x3 x4).2)))⟩], 2, [0]⟩), ((Nat.beq ((r100l0 (m + 1) x0 x1 x2 x3 x4).1) 1), .exit 0, [wsl 0], ⟨[⟨true, (some (.tab [.int .i64] x3))⟩, ⟨true, (some (.tab sc0 x4))⟩], 2, [0]⟩)].map fun (b, x) => (b, (x.1, frameOf 26 [5] x.2.1, x.2.2))) :=
 (show evC Try.prog ext T33 noL 200 (loopN Try.f100 0) (loopTail ([1, 5, 9, 10, 11], []) [5] [0] (sumK 26 [1, 5, 9, 10, 11] [5] (q100l0 m))) (frameOf 26 [1, 5, 9, 10, 11] [.int .i64 x0, wsl 0, wsl 1, .int .i64 x1, .int .i64 x2]) ⟨[⟨true, (some (.tab [.int .i64] x3))⟩, ⟨true, (some (.tab sc0 x4))⟩], 2, []⟩ = w100l0 (r100l0 m) x0 x1 x2 x3 x4 from by kernel_rfl).trans
 (show w100l0 (r100l0 m) x0 x1 x2 x3 x4 = a100l0 x0 x1 x2 x3 x4 (r100l0 (m + 1) x0 x1 x2 x3 x4) from by unfold w100l0; show _ = a100l0 x0 x1 x2 x3 x4 (b100l0 (r100l0 m) x0 x1 x2 x3 x4); unfold b100l0; exact (cond_both (a100l0 x0 x1 x2 x3 x4) _ (fun h0 => (cond_both (a100l0 x0 x1 x2 x3 x4) _ (fun h1 => (cond_t (ev_and2 h1) (cond_app (a100l0 x0 x1 x2 x3 x4) _ (cond_app (a100l0 x0 x1 x2 x3 x4) _ (cond_app (a100l0 x0 x1 x2 x3 x4) _ rfl (cond_app (a100l0 x0 x1 x2 x3 x4) _ rfl rfl)) rfl) (v100l0 x0 x1 x2 x3 x4 ((r100l0 m) x0 x1 (IntKind.i64.wrap (x2 + 1)) x3 x4))))) (fun h1 => rfl))) (fun h0 => rfl)))
set_option maxRecDepth 100000 in
set_option maxHeartbeats 4000000 in
theorem qm100l0 : ∀ m, SumKOk Try.prog (loopN Try.f100 0) 26 [1, 5, 9, 10, 11] [5] (q100l0 m) := by
  intro m
  induction m with
  | zero =>
    intro vals s x h1 h2 h3
    unfold q100l0 at h3; split at h3
    · rename_i h; split at h3
      · rename_i hc; obtain ⟨rfl, rfl⟩ := hc; exact absurd h3 (by simp [r100l0, firstT, Nat.beq])
      · exact noQ_ok _ _ _ h1 h2 h3
    · exact noQ_ok _ _ _ h1 h2 h3
  | succ m ih =>
    intro vals s x h1 h2 h3
    unfold q100l0 at h3; split at h3
    · rename_i h; split at h3
      · rename_i hc; obtain ⟨rfl, rfl⟩ := hc; exact sum_step ok33 extOk mixed ((lfOkF_no _ _).inner (by kernel_rfl)) ih h1 h2 h (e100l0 m _ _ _ _ _) rfl h3
      · exact noQ_ok _ _ _ h1 h2 h3
    · exact noQ_ok _ _ _ h1 h2 h3
noncomputable def Q100l0 : SumK := fun vals s => q100l0 (fuelOf vals s.h) vals s
theorem qok100l0 : SumKOk Try.prog (loopN Try.f100 0) 26 [1, 5, 9, 10, 11] [5] Q100l0 := fuel_ok qm100l0 fuelOf
noncomputable def L100_1 : LoopT := addL noL 4 ([1, 5, 9, 10, 11], []) (sumK 26 [1, 5, 9, 10, 11] [5] Q100l0)
theorem lok100_1 : LfOkF Try.prog L100_1 Try.f100 := lfOkF_add (lfOkF_no _ _) qok100l0 (by kernel_rfl) (by kernel_rfl) (by kernel_rfl)

/-- impl.branches -/
noncomputable def r100 (x0 : Int) (x1 : List (List Int)) : Nat × List (List Int) :=
 cond (Nat.beq ((r100l0 (1000 + x1.length + 0) x0 ((x1.length : Nat) : Int) 0 ([] : List (List Int)) x1).1) 0)
  (0, ((r100l0 (1000 + x1.length + 0) x0 ((x1.length : Nat) : Int) 0 ([] : List (List Int)) x1).2))
  (cond (Nat.beq ((r100l0 (1000 + x1.length + 0) x0 ((x1.length : Nat) : Int) 0 ([] : List (List Int)) x1).1) 1)
   (0, ([] : List (List Int)))
   (1, []))
noncomputable def a100 (x0 : Int) (x1 : List (List Int)) (p : Nat × List (List Int)) : Res := firstT [((Nat.beq (p.1) 0), wsl 1, ⟨[⟨true, (some (.tab sc0 x1))⟩, ⟨true, (some (.tab [.int .i64] (p.2)))⟩], 1, []⟩)]
noncomputable def w100 (x0 : Int) (x1 : List (List Int)) : Res :=
 (cond (Nat.beq ((r100l0 (1000 + x1.length + 0) x0 ((x1.length : Nat) : Int) 0 ([] : List (List Int)) x1).1) 0)
 (a100 x0 x1 (0, ((r100l0 (1000 + x1.length + 0) x0 ((x1.length : Nat) : Int) 0 ([] : List (List Int)) x1).2)))
 (cond (Nat.beq ((r100l0 (1000 + x1.length + 0) x0 ((x1.length : Nat) : Int) 0 ([] : List (List Int)) x1).1) 1)
  (a100 x0 x1 (0, ([] : List (List Int))))
  none))
set_option maxRecDepth 100000 in
set_option maxHeartbeats 4000000 in
theorem e100 (x0 : Int) (x1 : List (List Int)) : evFn Try.prog ext T33 L100_1 200 Try.f100 [wsl 0, .int .i64 x0] ⟨[⟨true, (some (.tab sc0 x1))⟩], 1, []⟩ = firstT [((Nat.beq ((r100 x0 x1).1) 0), wsl 1, ⟨[⟨true, (some (.tab sc0 x1))⟩, ⟨true, (some (.tab [.int .i64] ((r100 x0 x1).2)))⟩], 1, []⟩)] :=
 (show evFn Try.prog ext T33 L100_1 200 Try.f100 [wsl 0, .int .i64 x0] ⟨[⟨true, (some (.tab sc0 x1))⟩], 1, []⟩ = w100 x0 x1 from by kernel_rfl).trans
 (show w100 x0 x1 = a100 x0 x1 (r100 x0 x1) from by unfold w100 r100; exact (cond_app (a100 x0 x1) _ rfl (cond_app (a100 x0 x1) _ rfl rfl)))
noncomputable def s100 (args : List Value) (s : St) : List (Bool × Value × St) :=
 match args, s.h with
 | [.iface f0 .nilIface, .int .i64 x0], [⟨true, some (.tab [.fl .f32, .fl .f32, .fl .f32, .fl .f32, .int .i64] x1)⟩] => if f0 = 0 then [((Nat.beq ((r100 x0 x1).1) 0), wsl 1, ⟨[⟨true, (some (.tab sc0 x1))⟩, ⟨true, (some (.tab [.int .i64] ((r100 x0 x1).2)))⟩], 1, []⟩)] else T33 100 args s
 | _, _ => T33 100 args s
noncomputable def T34 : CallF := addF T33 100 s100
set_option maxRecDepth 100000 in
set_option maxHeartbeats 4000000 in
theorem ok34 : CfOk Try.prog T34 := by
  refine cfOk_add ok33 fun args s r s' h1 h2 h3 => ?_
  unfold s100 at h3; split at h3
  · rename_i h; split at h3
    · rename_i hc; obtain ⟨rfl⟩ := hc; exact callOk ok33 Try.func100 h1 h2 h lok100_1.body (e100 _ _) rfl h3
    · exact ok33 _ _ _ _ _ h1 h2 h3
  · exact ok33 _ _ _ _ _ h1 h2 h3

/-- impl.dense -/
noncomputable def r117 (x0 : Nat) : Nat :=
 ((fdiv .f32 1135640576 (fadd .f32 x0 1133019136)))
noncomputable def a117 (x0 : Nat) (p : Nat) : Res := firstT [(true, .float .f32 p, st0)]
noncomputable def w117 (x0 : Nat) : Res :=
 (a117 x0 ((fdiv .f32 1135640576 (fadd .f32 x0 1133019136))))
set_option maxRecDepth 100000 in
set_option maxHeartbeats 4000000 in
theorem e117 (x0 : Nat) : evFn Try.prog ext T34 noL 200 Try.f117 [.float .f32 x0] st0 = firstT [(true, .float .f32 (r117 x0), st0)] :=
 (show evFn Try.prog ext T34 noL 200 Try.f117 [.float .f32 x0] st0 = w117 x0 from by kernel_rfl).trans
 (show w117 x0 = a117 x0 (r117 x0) from by unfold w117 r117; exact rfl)
noncomputable def s117 (args : List Value) (s : St) : List (Bool × Value × St) :=
 match args, s.h with
 | [.float .f32 x0], [] => [(true, .float .f32 (r117 x0), st0)]
 | _, _ => T34 117 args s
noncomputable def T35 : CallF := addF T34 117 s117
set_option maxRecDepth 100000 in
set_option maxHeartbeats 4000000 in
theorem ok35 : CfOk Try.prog T35 := by
  refine cfOk_add ok34 fun args s r s' h1 h2 h3 => ?_
  unfold s117 at h3; split at h3
  · rename_i h; exact callOk ok34 Try.func117 h1 h2 h (lfOkF_no _ _).body (e117 _) rfl h3
  · exact ok34 _ _ _ _ _ h1 h2 h3

/-- impl.draft -/
noncomputable def r110 (x0 x1 x2 x3 : Nat) (x4 : Int) (x5 : Nat) : Nat :=
 ((fmul .f32 (fmul .f32 1092354048 x0) (fsub .f32 (r117 x5) (r117 x2))))
noncomputable def a110 (x0 x1 x2 x3 : Nat) (x4 : Int) (x5 : Nat) (p : Nat) : Res := firstT [(true, .float .f32 p, st0)]
noncomputable def w110 (x0 x1 x2 x3 : Nat) (x4 : Int) (x5 : Nat) : Res :=
 (a110 x0 x1 x2 x3 x4 x5 ((fmul .f32 (fmul .f32 1092354048 x0) (fsub .f32 (r117 x5) (r117 x2)))))
set_option maxRecDepth 100000 in
set_option maxHeartbeats 4000000 in
theorem e110 (x0 x1 x2 x3 : Nat) (x4 : Int) (x5 : Nat) : evFn Try.prog ext T35 noL 200 Try.f110 [.agg #[.float .f32 x0, .float .f32 x1, .float .f32 x2, .float .f32 x3, .int .i64 x4], .float .f32 x5] st0 = firstT [(true, .float .f32 (r110 x0 x1 x2 x3 x4 x5), st0)] :=
 (show evFn Try.prog ext T35 noL 200 Try.f110 [.agg #[.float .f32 x0, .float .f32 x1, .float .f32 x2, .float .f32 x3, .int .i64 x4], .float .f32 x5] st0 = w110 x0 x1 x2 x3 x4 x5 from by kernel_rfl).trans
 (show w110 x0 x1 x2 x3 x4 x5 = a110 x0 x1 x2 x3 x4 x5 (r110 x0 x1 x2 x3 x4 x5) from by unfold w110 r110; exact rfl)
noncomputable def s110 (args : List Value) (s : St) : List (Bool × Value × St) :=
 match args, s.h with
 | [.agg ⟨[.float .f32 x0, .float .f32 x1, .float .f32 x2, .float .f32 x3, .int .i64 x4]⟩, .float .f32 x5], [] => [(true, .float .f32 (r110 x0 x1 x2 x3 x4 x5), st0)]
 | _, _ => T35 110 args s
noncomputable def T36 : CallF := addF T35 110 s110
set_option maxRecDepth 100000 in
set_option maxHeartbeats 4000000 in
theorem ok36 : CfOk Try.prog T36 := by
  refine cfOk_add ok35 fun args s r s' h1 h2 h3 => ?_
  unfold s110 at h3; split at h3
  · rename_i h; exact callOk ok35 Try.func110 h1 h2 h (lfOkF_no _ _).body (e110 _ _ _ _ _ _) rfl h3
  · exact ok35 _ _ _ _ _ h1 h2 h3

/-- impl.resist -/
noncomputable def r111 (x0 x1 x2 x3 : Nat) (x4 : Int) : Nat :=
 ((fdiv .f32 (fadd .f32 1065353216 (fmul .f32 1048576000 x0)) (fmul .f32 (fmul .f32 x1 x3) (fmul .f32 x1 x3))))
noncomputable def a111 (x0 x1 x2 x3 : Nat) (x4 : Int) (p : Nat) : Res := firstT [(true, .float .f32 p, st0)]
noncomputable def w111 (x0 x1 x2 x3 : Nat) (x4 : Int) : Res :=
 (a111 x0 x1 x2 x3 x4 ((fdiv .f32 (fadd .f32 1065353216 (fmul .f32 1048576000 x0)) (fmul .f32 (fmul .f32 x1 x3) (fmul .f32 x1 x3)))))
set_option maxRecDepth 100000 in
set_option maxHeartbeats 4000000 in
theorem e111 (x0 x1 x2 x3 : Nat) (x4 : Int) : evFn Try.prog ext T36 noL 200 Try.f111 [.agg #[.float .f32 x0, .float .f32 x1, .float .f32 x2, .float .f32 x3, .int .i64 x4]] st0 = firstT [(true, .float .f32 (r111 x0 x1 x2 x3 x4), st0)] :=
 (show evFn Try.prog ext T36 noL 200 Try.f111 [.agg #[.float .f32 x0, .float .f32 x1, .float .f32 x2, .float .f32 x3, .int .i64 x4]] st0 = w111 x0 x1 x2 x3 x4 from by kernel_rfl).trans
 (show w111 x0 x1 x2 x3 x4 = a111 x0 x1 x2 x3 x4 (r111 x0 x1 x2 x3 x4) from by unfold w111 r111; exact rfl)
noncomputable def s111 (args : List Value) (s : St) : List (Bool × Value × St) :=
 match args, s.h with
 | [.agg ⟨[.float .f32 x0, .float .f32 x1, .float .f32 x2, .float .f32 x3, .int .i64 x4]⟩], [] => [(true, .float .f32 (r111 x0 x1 x2 x3 x4), st0)]
 | _, _ => T36 111 args s
noncomputable def T37 : CallF := addF T36 111 s111
set_option maxRecDepth 100000 in
set_option maxHeartbeats 4000000 in
theorem ok37 : CfOk Try.prog T37 := by
  refine cfOk_add ok36 fun args s r s' h1 h2 h3 => ?_
  unfold s111 at h3; split at h3
  · rename_i h; exact callOk ok36 Try.func111 h1 h2 h (lfOkF_no _ _).body (e111 _ _ _ _ _) rfl h3
  · exact ok36 _ _ _ _ _ h1 h2 h3

/-- impl.root -/
noncomputable def r112 (x0 : Nat) : Nat × Nat :=
 cond (narrowOk (r116 (widen x0)))
  (0, (narrow (r116 (widen x0))))
  (1, 0)
noncomputable def a112 (x0 : Nat) (p : Nat × Nat) : Res := firstT [((Nat.beq (p.1) 0), .float .f32 (p.2), st0)]
noncomputable def w112 (x0 : Nat) : Res :=
 (cond (narrowOk (r116 (widen x0)))
 (a112 x0 (0, (narrow (r116 (widen x0)))))
 none)
set_option maxRecDepth 100000 in
set_option maxHeartbeats 4000000 in
theorem e112 (x0 : Nat) : evFn Try.prog ext T37 noL 200 Try.f112 [.float .f32 x0] st0 = firstT [((Nat.beq ((r112 x0).1) 0), .float .f32 ((r112 x0).2), st0)] :=
 (show evFn Try.prog ext T37 noL 200 Try.f112 [.float .f32 x0] st0 = w112 x0 from by kernel_rfl).trans
 (show w112 x0 = a112 x0 (r112 x0) from by unfold w112 r112; exact (cond_app (a112 x0) _ rfl rfl))
noncomputable def s112 (args : List Value) (s : St) : List (Bool × Value × St) :=
 match args, s.h with
 | [.float .f32 x0], [] => [((Nat.beq ((r112 x0).1) 0), .float .f32 ((r112 x0).2), st0)]
 | _, _ => T37 112 args s
noncomputable def T38 : CallF := addF T37 112 s112
set_option maxRecDepth 100000 in
set_option maxHeartbeats 4000000 in
theorem ok38 : CfOk Try.prog T38 := by
  refine cfOk_add ok37 fun args s r s' h1 h2 h3 => ?_
  unfold s112 at h3; split at h3
  · rename_i h; exact callOk ok37 Try.func112 h1 h2 h (lfOkF_no _ _).body (e112 _) rfl h3
  · exact ok37 _ _ _ _ _ h1 h2 h3

/-- impl.through -/
noncomputable def r93 (x0 x1 x2 x3 : Nat) (x4 : Int) (x5 x6 : Nat) : Nat × Nat :=
 cond (feq .f32 x3 0)
  (0, 0)
  (cond (flt .f32 (fdiv .f32 (fadd .f32 (r110 x0 x1 x2 x3 x4 x5) x6) (r111 x0 x1 x2 x3 x4)) 0)
   (cond (Nat.beq ((r112 (fneg .f32 (fdiv .f32 (fadd .f32 (r110 x0 x1 x2 x3 x4 x5) x6) (r111 x0 x1 x2 x3 x4)))).1) 0)
    (0, (fneg .f32 ((r112 (fneg .f32 (fdiv .f32 (fadd .f32 (r110 x0 x1 x2 x3 x4 x5) x6) (r111 x0 x1 x2 x3 x4)))).2)))
    (1, 0))
   (cond (Nat.beq ((r112 (fdiv .f32 (fadd .f32 (r110 x0 x1 x2 x3 x4 x5) x6) (r111 x0 x1 x2 x3 x4))).1) 0)
    (0, ((r112 (fdiv .f32 (fadd .f32 (r110 x0 x1 x2 x3 x4 x5) x6) (r111 x0 x1 x2 x3 x4))).2))
    (1, 0)))
noncomputable def a93 (x0 x1 x2 x3 : Nat) (x4 : Int) (x5 x6 : Nat) (p : Nat × Nat) : Res := firstT [((Nat.beq (p.1) 0), .float .f32 (p.2), st0)]
noncomputable def w93 (x0 x1 x2 x3 : Nat) (x4 : Int) (x5 x6 : Nat) : Res :=
 (cond (feq .f32 x3 0)
 (a93 x0 x1 x2 x3 x4 x5 x6 (0, 0))
 (cond (flt .f32 (fdiv .f32 (fadd .f32 (r110 x0 x1 x2 x3 x4 x5) x6) (r111 x0 x1 x2 x3 x4)) 0)
  (cond (Nat.beq ((r112 (fneg .f32 (fdiv .f32 (fadd .f32 (r110 x0 x1 x2 x3 x4 x5) x6) (r111 x0 x1 x2 x3 x4)))).1) 0)
   (a93 x0 x1 x2 x3 x4 x5 x6 (0, (fneg .f32 ((r112 (fneg .f32 (fdiv .f32 (fadd .f32 (r110 x0 x1 x2 x3 x4 x5) x6) (r111 x0 x1 x2 x3 x4)))).2))))
   none)
  (cond (Nat.beq ((r112 (fdiv .f32 (fadd .f32 (r110 x0 x1 x2 x3 x4 x5) x6) (r111 x0 x1 x2 x3 x4))).1) 0)
   (a93 x0 x1 x2 x3 x4 x5 x6 (0, ((r112 (fdiv .f32 (fadd .f32 (r110 x0 x1 x2 x3 x4 x5) x6) (r111 x0 x1 x2 x3 x4))).2)))
   none)))
set_option maxRecDepth 100000 in
set_option maxHeartbeats 4000000 in
theorem e93 (x0 x1 x2 x3 : Nat) (x4 : Int) (x5 x6 : Nat) : evFn Try.prog ext T38 noL 200 Try.f93 [.agg #[.float .f32 x0, .float .f32 x1, .float .f32 x2, .float .f32 x3, .int .i64 x4], .float .f32 x5, .float .f32 x6] st0 = firstT [((Nat.beq ((r93 x0 x1 x2 x3 x4 x5 x6).1) 0), .float .f32 ((r93 x0 x1 x2 x3 x4 x5 x6).2), st0)] :=
 (show evFn Try.prog ext T38 noL 200 Try.f93 [.agg #[.float .f32 x0, .float .f32 x1, .float .f32 x2, .float .f32 x3, .int .i64 x4], .float .f32 x5, .float .f32 x6] st0 = w93 x0 x1 x2 x3 x4 x5 x6 from by kernel_rfl).trans
 (show w93 x0 x1 x2 x3 x4 x5 x6 = a93 x0 x1 x2 x3 x4 x5 x6 (r93 x0 x1 x2 x3 x4 x5 x6) from by unfold w93 r93; exact (cond_app (a93 x0 x1 x2 x3 x4 x5 x6) _ rfl (cond_app (a93 x0 x1 x2 x3 x4 x5 x6) _ (cond_app (a93 x0 x1 x2 x3 x4 x5 x6) _ rfl rfl) (cond_app (a93 x0 x1 x2 x3 x4 x5 x6) _ rfl rfl))))
noncomputable def s93 (args : List Value) (s : St) : List (Bool × Value × St) :=
 match args, s.h with
 | [.agg ⟨[.float .f32 x0, .float .f32 x1, .float .f32 x2, .float .f32 x3, .int .i64 x4]⟩, .float .f32 x5, .float .f32 x6], [] => [((Nat.beq ((r93 x0 x1 x2 x3 x4 x5 x6).1) 0), .float .f32 ((r93 x0 x1 x2 x3 x4 x5 x6).2), st0)]
 | _, _ => T38 93 args s
noncomputable def T39 : CallF := addF T38 93 s93
set_option maxRecDepth 100000 in
set_option maxHeartbeats 4000000 in
theorem ok39 : CfOk Try.prog T39 := by
  refine cfOk_add ok38 fun args s r s' h1 h2 h3 => ?_
  unfold s93 at h3; split at h3
  · rename_i h; exact callOk ok38 Try.func93 h1 h2 h (lfOkF_no _ _).body (e93 _ _ _ _ _ _ _) rfl h3
  · exact ok38 _ _ _ _ _ h1 h2 h3

/-- impl.sum, loop 0: one round -/
noncomputable def b101l0 (ih : Nat → Nat → Nat → Int → Int → List (List Int) → (Nat × Nat)) (x0 x1 x2 : Nat) (x3 x4 : Int) (x5 : List (List Int)) : Nat × Nat :=
 cond (decide ((x4 : Int) < x3))
  (cond ((decide ((0 : Int) ≤ x4)) && (Nat.blt (Int.toNat x4) x1))
   (cond (Nat.blt (1 + (Int.toNat x4)) x5.length)
    (ih (fadd .f32 x0 (Int.toNat ((x5.getD (1 + (Int.toNat x4)) []).getD 0 0))) x1 x2 x3 (IntKind.i64.wrap (x4 + 1)) x5)
    (1, 0))
   (1, 0))
  (0, x0)
noncomputable def r101l0 : Nat → Nat → Nat → Nat → Int → Int → List (List Int) → (Nat × Nat)
 | 0 => fun _ _ _ _ _ _ => (1, 0)
 | m + 1 => b101l0 (r101l0 m)
noncomputable def a101l0 (x0 x1 x2 : Nat) (x3 x4 : Int) (x5 : List (List Int)) (p : Nat × Nat) : Option (Fin' × List Value × St) := firstT ([((Nat.beq (p.1) 0), .exit 0, [.float .f32 (p.2)], ⟨[⟨true, (some (.tab [.fl .f32] x5))⟩], 1, []⟩)].map fun (b, x) => (b, (x.1, frameOf 21 [3] x.2.1, x.2.2)))
noncomputable def u101l0 (x0 x1 x2 : Nat) (x3 x4 : Int) (x5 : List (List Int)) (p : Nat × Nat) : Option (Fin' × List Value × St) := alts ([((Nat.beq (p.1) 0), .exit 0, [.float .f32 (p.2)], ⟨[⟨true, (some (.tab [.fl .f32] x5))⟩], 1, []⟩)].map fun (b, x) => (b, (x.1, frameOf 21 [3] x.2.1, x.2.2))) some
theorem v101l0 (x0 x1 x2 : Nat) (x3 x4 : Int) (x5 : List (List Int)) (p : Nat × Nat) : u101l0 x0 x1 x2 x3 x4 x5 p = a101l0 x0 x1 x2 x3 x4 x5 p := alts_first _
noncomputable def q101l0 (m : Nat) : SumK := fun vals s =>
 match vals, s.h with
 | [.float .f32 x0, .slice (some ⟨f0, f1, some f2⟩) x1 x2, .int .i64 x3, .int .i64 x4], [⟨true, some (.tab [.fl .f32] x5)⟩] => if f0 = 0 ∧ f1 = 1 ∧ f2 = 0 then [((Nat.beq ((r101l0 m x0 x1 x2 x3 x4 x5).1) 0), .exit 0, [.float .f32 ((r101l0 m x0 x1 x2 x3 x4 x5).2)], ⟨[⟨true, (some (.tab [.fl .f32] x5))⟩], 1, []⟩)] else noQ vals s
 | _, _ => noQ vals s
noncomputable def w101l0 (ih : Nat → Nat → Nat → Int → Int → List (List Int) → (Nat × Nat)) (x0 x1 x2 : Nat) (x3 x4 : Int) (x5 : List (List Int)) : Option (Fin' × List Value × St) :=
 (cond (decide ((x4 : Int) < x3))
 (cond ((decide ((0 : Int) ≤ x4)) && (Nat.blt (Int.toNat x4) x1))
  (cond (Nat.blt (1 + (Int.toNat x4)) x5.length)
   (u101l0 x0 x1 x2 x3 x4 x5 (ih (fadd .f32 x0 (Int.toNat ((x5.getD (1 + (Int.toNat x4)) []).getD 0 0))) x1 x2 x3 (IntKind.i64.wrap (x4 + 1)) x5))
   none)
  none)
 (a101l0 x0 x1 x2 x3 x4 x5 (0, x0)))
set_option maxRecDepth 100000 in
set_option maxHeartbeats 4000000 in
theorem e101l0 (m : Nat) (x0 x1 x2 : Nat) (x3 x4 : Int) (x5 : List (List Int)) : evC Try.prog ext T39 noL 200 (loopN Try.f101 0) (loopTail ([3, 10, 11, 12], []) [3] [] (sumK 21 [3, 10, 11, 12] [3] (q101l0 m))) (frameOf 21 [3, 10, 11, 12] [.float .f32 x0, .slice (some ⟨0, 1, some 0⟩) x1 x2, .int .i64 x3, .int .i64 x4]) ⟨[⟨true, (some (.tab [.fl .f32] x5))⟩], 1, []⟩ = firstT ([((Nat.beq ((r101l0 (m + 1) x0 x1 x2 x3 x4 x5).1) 0), .exit 0, [.float .f32 ((r101l0 (m + 1) x0 x1 x2 x3 x4 x5).2)], ⟨[⟨true, (some (.tab [.fl .f32] x5))⟩], 1, []⟩)].map fun (b, x) => (b, (x.1, frameOf 21 [3] x.2.1, x.2.2))) :=
 (show evC Try.prog ext T39 noL 200 (loopN Try.f101 0) (loopTail ([3, 10, 11, 12], []) [3] [] (sumK 21 [3, 10, 11, 12] [3] (q101l0 m))) (frameOf 21 [3, 10, 11, 12] [.float .f32 x0, .slice (some ⟨0, 1, some 0⟩) x1 x2, .int .i64 x3, .int .i64 x4]) ⟨[⟨true, (some (.tab [.fl .f32] x5))⟩], 1, []⟩ = w101l0 (r101l0 m) x0 x1 x2 x3 x4 x5 from by kernel_rfl).trans
 (show w101l0 (r101l0 m) x0 x1 x2 x3 x4 x5 = a101l0 x0 x1 x2 x3 x4 x5 (r101l0 (m + 1) x0 x1 x2 x3 x4 x5) from by unfold w101l0; show _ = a101l0 x0 x1 x2 x3 x4 x5 (b101l0 (r101l0 m) x0 x1 x2 x3 x4 x5); unfold b101l0; exact (cond_app (a101l0 x0 x1 x2 x3 x4 x5) _ (cond_app (a101l0 x0 x1 x2 x3 x4 x5) _ (cond_app (a101l0 x0 x1 x2 x3 x4 x5) _ (v101l0 x0 x1 x2 x3 x4 x5 ((r101l0 m) (fadd .f32 x0 (Int.toNat ((x5.getD (1 + (Int.toNat x4)) []).getD 0 0))) x1 x2 x3 (IntKind.i64.wrap (x4 + 1)) x5)) rfl) rfl) rfl))
set_option maxRecDepth 100000 in
set_option maxHeartbeats 4000000 in
theorem qm101l0 : ∀ m, SumKOk Try.prog (loopN Try.f101 0) 21 [3, 10, 11, 12] [3] (q101l0 m) := by
  intro m
  induction m with
  | zero =>
    intro vals s x h1 h2 h3
    unfold q101l0 at h3; split at h3
    · rename_i h; split at h3
      · rename_i hc; obtain ⟨rfl, rfl, rfl⟩ := hc; exact absurd h3 (by simp [r101l0, firstT, Nat.beq])
      · exact noQ_ok _ _ _ h1 h2 h3
    · exact noQ_ok _ _ _ h1 h2 h3
  | succ m ih =>
    intro vals s x h1 h2 h3
    unfold q101l0 at h3; split at h3
    · rename_i h; split at h3
      · rename_i hc; obtain ⟨rfl, rfl, rfl⟩ := hc; exact sum_step ok39 extOk mixed ((lfOkF_no _ _).inner (by kernel_rfl)) ih h1 h2 h (e101l0 m _ _ _ _ _ _) rfl h3
      · exact noQ_ok _ _ _ h1 h2 h3
    · exact noQ_ok _ _ _ h1 h2 h3
noncomputable def Q101l0 : SumK := fun vals s => q101l0 (fuelOf vals s.h) vals s
theorem qok101l0 : SumKOk Try.prog (loopN Try.f101 0) 21 [3, 10, 11, 12] [3] Q101l0 := fuel_ok qm101l0 fuelOf
noncomputable def L101_1 : LoopT := addL noL 4 ([3, 10, 11, 12], []) (sumK 21 [3, 10, 11, 12] [3] Q101l0)
theorem lok101_1 : LfOkF Try.prog L101_1 Try.f101 := lfOkF_add (lfOkF_no _ _) qok101l0 (by kernel_rfl) (by kernel_rfl) (by kernel_rfl)

/-- impl.sum, loop 0 -/
noncomputable def r101l0b (x0 : Nat) : Unit :=
 ()
noncomputable def a101l0b (x0 : Nat) (p : Unit) : Option (Fin' × List Value × St) := firstT ([(true, .exit 0, [.float .f32 x0], st0)].map fun (b, x) => (b, (x.1, frameOf 21 [3] x.2.1, x.2.2)))
noncomputable def w101l0b (x0 : Nat) : Option (Fin' × List Value × St) :=
 (a101l0b x0 ())
set_option maxRecDepth 100000 in
set_option maxHeartbeats 4000000 in
theorem e101l0b (x0 : Nat) : evC Try.prog ext T39 L101_1 200 (loopN Try.f101 0) (loopTail ([3, 10, 11, 12], []) [3] [] (sumK 21 [3, 10, 11, 12] [3] Q101l0)) (frameOf 21 [3, 10, 11, 12] [.float .f32 x0, .iface 0 (.slice none 0 0), .int .i64 0, .int .i64 0]) ⟨[], 0, []⟩ = firstT ([(true, .exit 0, [.float .f32 x0], st0)].map fun (b, x) => (b, (x.1, frameOf 21 [3] x.2.1, x.2.2))) :=
 (show evC Try.prog ext T39 L101_1 200 (loopN Try.f101 0) (loopTail ([3, 10, 11, 12], []) [3] [] (sumK 21 [3, 10, 11, 12] [3] Q101l0)) (frameOf 21 [3, 10, 11, 12] [.float .f32 x0, .iface 0 (.slice none 0 0), .int .i64 0, .int .i64 0]) ⟨[], 0, []⟩ = w101l0b x0 from by kernel_rfl).trans
 (show w101l0b x0 = a101l0b x0 (r101l0b x0) from by unfold w101l0b r101l0b; exact rfl)
noncomputable def Q101l0b : SumK := fun vals s =>
 match vals, s.h with
 | [.float .f32 x0, .iface f0 (.slice none f1 f2), .int .i64 f3, .int .i64 f4], [] => if f0 = 0 ∧ f1 = 0 ∧ f2 = 0 ∧ f3 = 0 ∧ f4 = 0 then [(true, .exit 0, [.float .f32 x0], st0)] else Q101l0 vals s
 | _, _ => Q101l0 vals s
set_option maxRecDepth 100000 in
set_option maxHeartbeats 4000000 in
theorem qok101l0b : SumKOk Try.prog (loopN Try.f101 0) 21 [3, 10, 11, 12] [3] Q101l0b := by
  intro vals s x h1 h2 h3
  unfold Q101l0b at h3; split at h3
  · rename_i h; split at h3
    · rename_i hc; obtain ⟨rfl, rfl, rfl, rfl, rfl⟩ := hc; exact sum_step ok39 extOk mixed (lok101_1.inner (by kernel_rfl)) qok101l0 h1 h2 h (e101l0b _) rfl h3
    · exact qok101l0 _ _ _ h1 h2 h3
  · exact qok101l0 _ _ _ h1 h2 h3
noncomputable def L101_2 : LoopT := addL L101_1 4 ([3, 10, 11, 12], []) (sumK 21 [3, 10, 11, 12] [3] Q101l0b)
theorem lok101_2 : LfOkF Try.prog L101_2 Try.f101 := lfOkF_add lok101_1 qok101l0b (by kernel_rfl) (by kernel_rfl) (by kernel_rfl)

/-- impl.sum -/
noncomputable def r101 (x0 : List (List Int)) : Nat × Nat :=
 let c196 := (r101l0 (1000 + x0.length) (Int.toNat ((x0.getD 0 []).getD 0 0)) (x0.length - 1) (x0.length - 1) (((x0.length - 1) : Nat) : Int) 0 x0)
 cond (Nat.blt 0 x0.length)
  (cond ((Nat.blt 1 x0.length) && ((Nat.ble 1 x0.length) && (Nat.ble x0.length x0.length)))
   (cond (Nat.beq (c196.1) 0)
    (0, (c196.2))
    (1, 0))
   (cond ((Nat.beq 1 x0.length) && ((Nat.ble 1 x0.length) && (Nat.ble x0.length x0.length)))
    (0, (Int.toNat ((x0.getD 0 []).getD 0 0)))
    (1, 0)))
  (1, 0)
noncomputable def a101 (x0 : List (List Int)) (p : Nat × Nat) : Res := firstT [((Nat.beq (p.1) 0), .float .f32 (p.2), ⟨[⟨true, (some (.tab [.fl .f32] x0))⟩], 1, []⟩)]
noncomputable def w101 (x0 : List (List Int)) : Res :=
 let c196 := (r101l0 (1000 + x0.length) (Int.toNat ((x0.getD 0 []).getD 0 0)) (x0.length - 1) (x0.length - 1) (((x0.length - 1) : Nat) : Int) 0 x0)
 (cond (Nat.blt 0 x0.length)
 (cond (Nat.blt 0 x0.length)
  (cond ((Nat.blt 1 x0.length) && ((Nat.ble 1 x0.length) && (Nat.ble x0.length x0.length)))
   (cond (Nat.beq (c196.1) 0)
    (a101 x0 (0, (c196.2)))
    none)
   (cond ((Nat.beq 1 x0.length) && ((Nat.ble 1 x0.length) && (Nat.ble x0.length x0.length)))
    (a101 x0 (0, (Int.toNat ((x0.getD 0 []).getD 0 0))))
    none))
  none)
 none)
set_option maxRecDepth 100000 in
set_option maxHeartbeats 4000000 in
theorem e101 (x0 : List (List Int)) : evFn Try.prog ext T39 L101_2 200 Try.f101 [wsl 0] ⟨[⟨true, (some (.tab [.fl .f32] x0))⟩], 1, []⟩ = firstT [((Nat.beq ((r101 x0).1) 0), .float .f32 ((r101 x0).2), ⟨[⟨true, (some (.tab [.fl .f32] x0))⟩], 1, []⟩)] :=
 (show evFn Try.prog ext T39 L101_2 200 Try.f101 [wsl 0] ⟨[⟨true, (some (.tab [.fl .f32] x0))⟩], 1, []⟩ = w101 x0 from by kernel_rfl).trans
 (show w101 x0 = a101 x0 (r101 x0) from by unfold w101 r101; exact (cond_both (a101 x0) _ (fun h0 => (cond_t h0 (cond_app (a101 x0) _ (cond_app (a101 x0) _ rfl rfl) (cond_app (a101 x0) _ rfl rfl)))) (fun h0 => rfl)))
noncomputable def s101 (args : List Value) (s : St) : List (Bool × Value × St) :=
 match args, s.h with
 | [.iface f0 .nilIface], [⟨true, some (.tab [.fl .f32] x0)⟩] => if f0 = 0 then [((Nat.beq ((r101 x0).1) 0), .float .f32 ((r101 x0).2), ⟨[⟨true, (some (.tab [.fl .f32] x0))⟩], 1, []⟩)] else T39 101 args s
 | _, _ => T39 101 args s
noncomputable def T40 : CallF := addF T39 101 s101
set_option maxRecDepth 100000 in
set_option maxHeartbeats 4000000 in
theorem ok40 : CfOk Try.prog T40 := by
  refine cfOk_add ok39 fun args s r s' h1 h2 h3 => ?_
  unfold s101 at h3; split at h3
  · rename_i h; split at h3
    · rename_i hc; obtain ⟨rfl⟩ := hc; exact callOk ok39 Try.func101 h1 h2 h lok101_2.body (e101 _) rfl h3
    · exact ok39 _ _ _ _ _ h1 h2 h3
  · exact ok39 _ _ _ _ _ h1 h2 h3

/-- impl.pushAt, loop 1: one round -/
noncomputable def b62l1 (ih : Int → Nat → Nat → Nat → Nat → Nat → Int → Int → Int → List (List Int) → List (List Int) → List (List Int) → (Nat × List (List Int))) (x0 : Int) (x1 x2 x3 x4 x5 : Nat) (x6 x7 x8 : Int) (x9 x10 x11 : List (List Int)) : Nat × List (List Int) :=
 let c422 := (r93 (Int.toNat ((x9.getD (Int.toNat ((x10.getD (Int.toNat x8) []).getD 0 0)) []).getD 0 0)) (Int.toNat ((x9.getD (Int.toNat ((x10.getD (Int.toNat x8) []).getD 0 0)) []).getD 1 0)) (Int.toNat ((x9.getD (Int.toNat ((x10.getD (Int.toNat x8) []).getD 0 0)) []).getD 2 0)) (Int.toNat ((x9.getD (Int.toNat ((x10.getD (Int.toNat x8) []).getD 0 0)) []).getD 3 0)) ((x9.getD (Int.toNat ((x10.getD (Int.toNat x8) []).getD 0 0)) []).getD 4 0) x1 (fsub .f32 0 x5))
 cond (decide ((x8 : Int) < x7))
  (cond ((decide ((0 : Int) ≤ x8)) && (Nat.blt (Int.toNat x8) x10.length))
   (cond ((decide ((0 : Int) ≤ ((x10.getD (Int.toNat x8) []).getD 0 0))) && (Nat.blt (Int.toNat ((x10.getD (Int.toNat x8) []).getD 0 0)) x9.length))
    (cond (Nat.beq (c422.1) 0)
     (cond (Nat.ble ((x11.length + 1) * 5) 140737488355328)
      (cond (Nat.beq ((ih x0 x1 x2 x3 x4 x5 x6 x7 (IntKind.i64.wrap (x8 + 1)) x9 x10 (((x11.drop 0).take x11.length) ++ ([[(((c422.2) : Nat) : Int)]] : List (List Int)))).1) 0)
       (0, ((ih x0 x1 x2 x3 x4 x5 x6 x7 (IntKind.i64.wrap (x8 + 1)) x9 x10 (((x11.drop 0).take x11.length) ++ ([[(((c422.2) : Nat) : Int)]] : List (List Int)))).2))
       (cond (Nat.beq ((ih x0 x1 x2 x3 x4 x5 x6 x7 (IntKind.i64.wrap (x8 + 1)) x9 x10 (((x11.drop 0).take x11.length) ++ ([[(((c422.2) : Nat) : Int)]] : List (List Int)))).1) 1)
        (0, (((x11.drop 0).take x11.length) ++ ([[(((c422.2) : Nat) : Int)]] : List (List Int))))
        (2, [])))
      (2, []))
     (2, []))
    (2, []))
   (2, []))
  (1, [])
noncomputable def r62l1 : Nat → Int → Nat → Nat → Nat → Nat → Nat → Int → Int → Int → List (List Int) → List (List Int) → List (List Int) → (Nat × List (List Int))
 | 0 => fun _ _ _ _ _ _ _ _ _ _ _ _ => (2, [])
 | m + 1 => b62l1 (r62l1 m)
noncomputable def a62l1 (x0 : Int) (x1 x2 x3 x4 x5 : Nat) (x6 x7 x8 : Int) (x9 x10 x11 : List (List Int)) (p : Nat × List (List Int)) : Option (Fin' × List Value × St) := firstT ([((Nat.beq (p.1) 0), .exit 2, [wsl 0, .int .i64 x0, .float .f32 x1, .float .f32 x2, wsl 1, .float .f32 x3, .float .f32 x4, .float .f32 x5, wsl 3, .int .i64 x6], ⟨[⟨true, (some (.tab sc0 x9))⟩, ⟨true, (some (.tab [.int .i64] x10))⟩, ⟨true, none⟩, ⟨true, (some (.tab [.fl .f32] (p.2)))⟩], 3, [2]⟩), ((Nat.beq (p.1) 1), .exit 2, [wsl 0, .int .i64 x0, .float .f32 x1, .float .f32 x2, wsl 1, .float .f32 x3, .float .f32 x4, .float .f32 x5, wsl 2, .int .i64 x6], ⟨[⟨true, (some (.tab sc0 x9))⟩, ⟨true, (some (.tab [.int .i64] x10))⟩, ⟨true, (some (.tab [.fl .f32] x11))⟩], 3, [2]⟩)].map fun (b, x) => (b, (x.1, frameOf 63 [0, 1, 2, 3, 9, 10, 11, 12, 13, 22] x.2.1, x.2.2)))
noncomputable def u62l1 (x0 : Int) (x1 x2 x3 x4 x5 : Nat) (x6 x7 x8 : Int) (x9 x10 x11 : List (List Int)) (p : Nat × List (List Int)) : Option (Fin' × List Value × St) := alts ([((Nat.beq (p.1) 0), .exit 2, [wsl 0, .int .i64 x0, .float .f32 x1, .float .f32 x2, wsl 1, .float .f32 x3, .float .f32 x4, .float .f32 x5, wsl 3, .int .i64 x6], ⟨[⟨true, (some (.tab sc0 x9))⟩, ⟨true, (some (.tab [.int .i64] x10))⟩, ⟨true, none⟩, ⟨true, (some (.tab [.fl .f32] (p.2)))⟩], 3, [2]⟩), ((Nat.beq (p.1) 1), .exit 2, [wsl 0, .int .i64 x0, .float .f32 x1, .float .f32 x2, wsl 1, .float .f32 x3, .float .f32 x4, .float .f32 x5, wsl 2, .int .i64 x6], ⟨[⟨true, (some (.tab sc0 x9))⟩, ⟨true, (some (.tab [.int .i64] x10))⟩, ⟨true, (some (.tab [.fl .f32] x11))⟩], 3, [2]⟩)].map fun (b, x) => (b, (x.1, frameOf 63 [0, 1, 2, 3, 9, 10, 11, 12, 13, 22] x.2.1, x.2.2))) some
theorem v62l1 (x0 : Int) (x1 x2 x3 x4 x5 : Nat) (x6 x7 x8 : Int) (x9 x10 x11 : List (List Int)) (p : Nat × List (List Int)) : u62l1 x0 x1 x2 x3 x4 x5 x6 x7 x8 x9 x10 x11 p = a62l1 x0 x1 x2 x3 x4 x5 x6 x7 x8 x9 x10 x11 p := alts_first _
noncomputable def q62l1 (m : Nat) : SumK := fun vals s =>
 match vals, s.h with
 | [.iface f0 .nilIface, .int .i64 x0, .float .f32 x1, .float .f32 x2, .iface f1 .nilIface, .float .f32 x3, .float .f32 x4, .float .f32 x5, .iface f2 .nilIface, .int .i64 x6, .iface f3 .nilIface, .int .i64 x7, .int .i64 x8], [⟨true, some (.tab [.fl .f32, .fl .f32, .fl .f32, .fl .f32, .int .i64] x9)⟩, ⟨true, some (.tab [.int .i64] x10)⟩, ⟨true, some (.tab [.fl .f32] x11)⟩] => if f0 = 0 ∧ f1 = 1 ∧ f2 = 2 ∧ f3 = 1 then [((Nat.beq ((r62l1 m x0 x1 x2 x3 x4 x5 x6 x7 x8 x9 x10 x11).1) 0), .exit 2, [wsl 0, .int .i64 x0, .float .f32 x1, .float .f32 x2, wsl 1, .float .f32 x3, .float .f32 x4, .float .f32 x5, wsl 3, .int .i64 x6], ⟨[⟨true, (some (.tab sc0 x9))⟩, ⟨true, (some (.tab [.int .i64] x10))⟩, ⟨true, none⟩, ⟨true, (some (.tab [.fl .f32] ((r62l1 m x0 x1 x2 x3 x4 x5 x6 x7 x8 x9 x10 x11).2)))⟩], 3, [2]⟩), ((Nat.beq ((r62l1 m x0 x1 x2 x3 x4 x5 x6 x7 x8 x9 x10 x11).1) 1), .exit 2, [wsl 0, .int .i64 x0, .float .f32 x1, .float .f32 x2, wsl 1, .float .f32 x3, .float .f32 x4, .float .f32 x5, wsl 2, .int .i64 x6], ⟨[⟨true, (some (.tab sc0 x9))⟩, ⟨true, (some (.tab [.int .i64] x10))⟩, ⟨true, (some (.tab [.fl .f32] x11))⟩], 3, [2]⟩)] else noQ vals s
 | _, _ => noQ vals s
noncomputable def w62l1 (ih : Int → Nat → Nat → Nat → Nat → Nat → Int → Int → Int → List (List Int) → List (List Int) → List (List Int) → (Nat × List (List Int))) (x0 : Int) (x1 x2 x3 x4 x5 : Nat) (x6 x7 x8 : Int) (x9 x10 x11 : List (List Int)) : Option (Fin' × List Value × St) :=
 let c422 := (r93 (Int.toNat ((x9.getD (Int.toNat ((x10.getD (Int.toNat x8) []).getD 0 0)) []).getD 0 0)) (Int.toNat ((x9.getD (Int.toNat ((x10.getD (Int.toNat x8) []).getD 0 0)) []).getD 1 0)) (Int.toNat ((x9.getD (Int.toNat ((x10.getD (Int.toNat x8) []).getD 0 0)) []).getD 2 0)) (Int.toNat ((x9.getD (Int.toNat ((x10.getD (Int.toNat x8) []).getD 0 0)) []).getD 3 0)) ((x9.getD (Int.toNat ((x10.getD (Int.toNat x8) []).getD 0 0)) []).getD 4 0) x1 (fsub .f32 0 x5))
 (cond (decide ((x8 : Int) < x7))
 (cond ((decide ((0 : Int) ≤ x8)) && (Nat.blt (Int.toNat x8) x10.length))
  (cond (Nat.blt (Int.toNat x8) x10.length)
   (cond ((decide ((0 : Int) ≤ ((x10.getD (Int.toNat x8) []).getD 0 0))) && (Nat.blt (Int.toNat ((x10.getD (Int.toNat x8) []).getD 0 0)) x9.length))
    (cond (Nat.blt (Int.toNat ((x10.getD (Int.toNat x8) []).getD 0 0)) x9.length)
     (cond (Nat.beq (c422.1) 0)
      (cond (Nat.ble ((x11.length + 1) * 5) 140737488355328)
       (cond (Nat.beq ((ih x0 x1 x2 x3 x4 x5 x6 x7 (IntKind.i64.wrap (x8 + 1)) x9 x10 (((x11.drop 0).take x11.length) ++ ([[(((c422.2) : Nat) : Int)]] : List (List Int)))).1) 0)
        (a62l1 x0 x1 x2 x3 x4 x5 x6 x7 x8 x9 x10 x11 (0, ((ih x0 x1 x2 x3 x4 x5 x6 x7 (IntKind.i64.wrap (x8 + 1)) x9 x10 (((x11.drop 0).take x11.length) ++ ([[(((c422.2) : Nat) : Int)]] : List (List Int)))).2)))
        (cond (Nat.beq ((ih x0 x1 x2 x3 x4 x5 x6 x7 (IntKind.i64.wrap (x8 + 1)) x9 x10 (((x11.drop 0).take x11.length) ++ ([[(((c422.2) : Nat) : Int)]] : List (List Int)))).1) 1)
         (a62l1 x0 x1 x2 x3 x4 x5 x6 x7 x8 x9 x10 x11 (0, (((x11.drop 0).take x11.length) ++ ([[(((c422.2) : Nat) : Int)]] : List (List Int)))))
         none))
       none)
      none)
     none)
    none)
   none)
  none)
 (a62l1 x0 x1 x2 x3 x4 x5 x6 x7 x8 x9 x10 x11 (1, [])))
set_option maxRecDepth 100000 in
set_option maxHeartbeats 4000000 in
theorem e62l1 (m : Nat) (x0 : Int) (x1 x2 x3 x4 x5 : Nat) (x6 x7 x8 : Int) (x9 x10 x11 : List (List Int)) : evC Try.prog ext T40 noL 200 (loopN Try.f62 1) (loopTail ([0, 1, 2, 3, 9, 10, 11, 12, 13, 22, 29, 30, 31], []) [0, 1, 2, 3, 9, 10, 11, 12, 13, 22] [2] (sumK 63 [0, 1, 2, 3, 9, 10, 11, 12, 13, 22, 29, 30, 31] [0, 1, 2, 3, 9, 10, 11, 12, 13, 22] (q62l1 m))) (frameOf 63 [0, 1, 2, 3, 9, 10, 11, 12, 13, 22, 29, 30, 31] [wsl 0, .int .i64 x0, .float .f32 x1, .float .f32 x2, wsl 1, .float .f32 x3, .float .f32 x4, .float .f32 x5, wsl 2, .int .i64 x6, wsl 1, .int .i64 x7, .int .i64 x8]) ⟨[⟨true, (some (.tab sc0 x9))⟩, ⟨true, (some (.tab [.int .i64] x10))⟩, ⟨true, (some (.tab [.fl .f32] x11))⟩], 3, []⟩ = firstT ([((Nat.beq ((r62l1 (m + 1) x0 x1 x2 x3 x4 x5 x6 x7 x8 x9 x10 x11).1) 0), .exit 2, [wsl 0, .int .i64 x0, .float .f32 x1, .float .f32 x2, wsl 1, .float .f32 x3, .float .f32 x4, .float .f32 x5, wsl 3, .int .i64 x6], ⟨[⟨true, (some (.tab sc0 x9))⟩, ⟨true, (some (.tab [.int .i64] x10))⟩, ⟨true, none⟩, ⟨true, (some (.tab [.fl .f32] ((r62l1 (m + 1) x0 x1 x2 x3 x4 x5 x6 x7 x8 x9 x10 x11).2)))⟩], 3, [2]⟩), ((Nat.beq ((r62l1 (m + 1) x0 x1 x2 x3 x4 x5 x6 x7 x8 x9 x10 x11).1) 1), .exit 2, [wsl 0, .int .i64 x0, .float .f32 x1, .float .f32 x2, wsl 1, .float .f32 x3, .float .f32 x4, .float .f32 x5, wsl 2, .int .i64 x6], ⟨[⟨true, (some (.tab sc0 x9))⟩, ⟨true, (some (.tab [.int .i64] x10))⟩, ⟨true, (some (.tab [.fl .f32] x11))⟩], 3, [2]⟩)].map fun (b, x) => (b, (x.1, frameOf 63 [0, 1, 2, 3, 9, 10, 11, 12, 13, 22] x.2.1, x.2.2))) :=
 (show evC Try.prog ext T40 noL 200 (loopN Try.f62 1) (loopTail ([0, 1, 2, 3, 9, 10, 11, 12, 13, 22, 29, 30, 31], []) [0, 1, 2, 3, 9, 10, 11, 12, 13, 22] [2] (sumK 63 [0, 1, 2, 3, 9, 10, 11, 12, 13, 22, 29, 30, 31] [0, 1, 2, 3, 9, 10, 11, 12, 13, 22] (q62l1 m))) (frameOf 63 [0, 1, 2, 3, 9, 10, 11, 12, 13, 22, 29, 30, 31] [wsl 0, .int .i64 x0, .float .f32 x1, .float .f32 x2, wsl 1, .float .f32 x3, .float .f32 x4, .float .f32 x5, wsl 2, .int .i64 x6, wsl 1, .int .i64 x7, .int .i64 x8]) ⟨[⟨true, (some (.tab sc0 x9))⟩, ⟨true, (some (.tab [.int .i64] x10))⟩, ⟨true, (some (.tab [.fl .f32] x11))⟩], 3, []⟩ = w62l1 (r62l1 m) x0 x1 x2 x3 x4 x5 x6 x7 x8 x9 x10 x11 from by kernel_rfl).trans
 (show w62l1 (r62l1 m) x0 x1 x2 x3 x4 x5 x6 x7 x8 x9 x10 x11 = a62l1 x0 x1 x2 x3 x4 x5 x6 x7 x8 x9 x10 x11 (r62l1 (m + 1) x0 x1 x2 x3 x4 x5 x6 x7 x8 x9 x10 x11) from by unfold w62l1; show _ = a62l1 x0 x1 x2 x3 x4 x5 x6 x7 x8 x9 x10 x11 (b62l1 (r62l1 m) x0 x1 x2 x3 x4 x5 x6 x7 x8 x9 x10 x11); unfold b62l1; exact (cond_both (a62l1 x0 x1 x2 x3 x4 x5 x6 x7 x8 x9 x10 x11) _ (fun h0 => (cond_both (a62l1 x0 x1 x2 x3 x4 x5 x6 x7 x8 x9 x10 x11) _ (fun h1 => (cond_t (ev_and2 h1) (cond_both (a62l1 x0 x1 x2 x3 x4 x5 x6 x7 x8 x9 x10 x11) _ (fun h2 => (cond_t (ev_and2 h2) (cond_app (a62l1 x0 x1 x2 x3 x4 x5 x6 x7 x8 x9 x10 x11) _ (cond_app (a62l1 x0 x1 x2 x3 x4 x5 x6 x7 x8 x9 x10 x11) _ (cond_app (a62l1 x0 x1 x2 x3 x4 x5 x6 x7 x8 x9 x10 x11) _ rfl (cond_app (a62l1 x0 x1 x2 x3 x4 x5 x6 x7 x8 x9 x10 x11) _ rfl rfl)) rfl) rfl))) (fun h2 => rfl)))) (fun h1 => rfl))) (fun h0 => rfl)))
set_option maxRecDepth 100000 in
set_option maxHeartbeats 4000000 in
theorem qm62l1 : ∀ m, SumKOk Try.prog (loopN Try.f62 1) 63 [0, 1, 2, 3, 9, 10, 11, 12, 13, 22, 29, 30, 31] [0, 1, 2, 3, 9, 10, 11, 12, 13, 22] (q62l1 m) := by
  intro m
  induction m with
  | zero =>
    intro vals s x h1 h2 h3
    unfold q62l1 at h3; split at h3
    · rename_i h; split at h3
      · rename_i hc; obtain ⟨rfl, rfl, rfl, rfl⟩ := hc; exact absurd h3 (by simp [r62l1, firstT, Nat.beq])
      · exact noQ_ok _ _ _ h1 h2 h3
    · exact noQ_ok _ _ _ h1 h2 h3
  | succ m ih =>
    intro vals s x h1 h2 h3
    unfold q62l1 at h3; split at h3
    · rename_i h; split at h3
      · rename_i hc; obtain ⟨rfl, rfl, rfl, rfl⟩ := hc; exact sum_step ok40 extOk mixed ((lfOkF_no _ _).inner (by kernel_rfl)) ih h1 h2 h (e62l1 m _ _ _ _ _ _ _ _ _ _ _ _) rfl h3
      · exact noQ_ok _ _ _ h1 h2 h3
    · exact noQ_ok _ _ _ h1 h2 h3
noncomputable def Q62l1 : SumK := fun vals s => q62l1 (fuelOf vals s.h) vals s
theorem qok62l1 : SumKOk Try.prog (loopN Try.f62 1) 63 [0, 1, 2, 3, 9, 10, 11, 12, 13, 22, 29, 30, 31] [0, 1, 2, 3, 9, 10, 11, 12, 13, 22] Q62l1 := fuel_ok qm62l1 fuelOf
noncomputable def L62_1 : LoopT := addL noL 11 ([0, 1, 2, 3, 9, 10, 11, 12, 13, 22, 29, 30, 31], []) (sumK 63 [0, 1, 2, 3, 9, 10, 11, 12, 13, 22, 29, 30, 31] [0, 1, 2, 3, 9, 10, 11, 12, 13, 22] Q62l1)
theorem lok62_1 : LfOkF Try.prog L62_1 Try.f62 := lfOkF_add (lfOkF_no _ _) qok62l1 (by kernel_rfl) (by kernel_rfl) (by kernel_rfl)

/-- impl.pushAt, loop 0: one round -/
noncomputable def b62l0 (ih : Int → Nat → Nat → Nat → Nat → Int → List (List Int) → List (List Int) → (Nat × Nat)) (x0 : Int) (x1 x2 x3 x4 : Nat) (x5 : Int) (x6 x7 : List (List Int)) : Nat × Nat :=
 let c438 := (r62l1 (1000 + 0 + x7.length + x6.length) x0 x1 x2 x3 x4 (fmul .f32 1056964608 (fadd .f32 x3 x4)) x5 ((x7.length : Nat) : Int) 0 x6 x7 ([] : List (List Int)))
 let c439 := (r93 (Int.toNat ((x6.getD (Int.toNat x0) []).getD 0 0)) (Int.toNat ((x6.getD (Int.toNat x0) []).getD 1 0)) (Int.toNat ((x6.getD (Int.toNat x0) []).getD 2 0)) (Int.toNat ((x6.getD (Int.toNat x0) []).getD 3 0)) ((x6.getD (Int.toNat x0) []).getD 4 0) x1 (fsub .f32 (fmul .f32 1056964608 (fadd .f32 x3 x4)) x2))
 cond (decide ((x5 : Int) < 40))
  (cond (Nat.beq (c438.1) 0)
   (cond (Nat.beq ((r101 (c438.2)).1) 0)
    (cond ((decide ((0 : Int) ≤ x0)) && (Nat.blt (Int.toNat x0) x6.length))
     (cond (Nat.beq (c439.1) 0)
      (cond (fgt .f32 ((r101 (c438.2)).2) (c439.2))
       (ih x0 x1 x2 (fmul .f32 1056964608 (fadd .f32 x3 x4)) x4 (IntKind.i64.wrap (x5 + 1)) x6 x7)
       (ih x0 x1 x2 x3 (fmul .f32 1056964608 (fadd .f32 x3 x4)) (IntKind.i64.wrap (x5 + 1)) x6 x7))
      (1, 0))
     (1, 0))
    (1, 0))
   (cond (Nat.beq (c438.1) 1)
    (cond (Nat.beq ((r101 ([] : List (List Int))).1) 0)
     (cond ((decide ((0 : Int) ≤ x0)) && (Nat.blt (Int.toNat x0) x6.length))
      (cond (Nat.beq (c439.1) 0)
       (cond (fgt .f32 ((r101 ([] : List (List Int))).2) (c439.2))
        (ih x0 x1 x2 (fmul .f32 1056964608 (fadd .f32 x3 x4)) x4 (IntKind.i64.wrap (x5 + 1)) x6 x7)
        (ih x0 x1 x2 x3 (fmul .f32 1056964608 (fadd .f32 x3 x4)) (IntKind.i64.wrap (x5 + 1)) x6 x7))
       (1, 0))
      (1, 0))
     (1, 0))
    (1, 0)))
  (0, x4)
noncomputable def r62l0 : Nat → Int → Nat → Nat → Nat → Nat → Int → List (List Int) → List (List Int) → (Nat × Nat)
 | 0 => fun _ _ _ _ _ _ _ _ => (1, 0)
 | m + 1 => b62l0 (r62l0 m)
noncomputable def a62l0 (x0 : Int) (x1 x2 x3 x4 : Nat) (x5 : Int) (x6 x7 : List (List Int)) (p : Nat × Nat) : Option (Fin' × List Value × St) := firstT ([((Nat.beq (p.1) 0), .exit 0, [.float .f32 (p.2)], ⟨[⟨true, (some (.tab sc0 x6))⟩, ⟨true, (some (.tab [.int .i64] x7))⟩], 2, []⟩)].map fun (b, x) => (b, (x.1, frameOf 63 [11] x.2.1, x.2.2)))
noncomputable def u62l0 (x0 : Int) (x1 x2 x3 x4 : Nat) (x5 : Int) (x6 x7 : List (List Int)) (p : Nat × Nat) : Option (Fin' × List Value × St) := alts ([((Nat.beq (p.1) 0), .exit 0, [.float .f32 (p.2)], ⟨[⟨true, (some (.tab sc0 x6))⟩, ⟨true, (some (.tab [.int .i64] x7))⟩], 2, []⟩)].map fun (b, x) => (b, (x.1, frameOf 63 [11] x.2.1, x.2.2))) some
theorem v62l0 (x0 : Int) (x1 x2 x3 x4 : Nat) (x5 : Int) (x6 x7 : List (List Int)) (p : Nat × Nat) : u62l0 x0 x1 x2 x3 x4 x5 x6 x7 p = a62l0 x0 x1 x2 x3 x4 x5 x6 x7 p := alts_first _
noncomputable def q62l0 (m : Nat) : SumK := fun vals s =>
 match vals, s.h with
 | [.iface f0 .nilIface, .int .i64 x0, .float .f32 x1, .float .f32 x2, .iface f1 .nilIface, .float .f32 x3, .float .f32 x4, .int .i64 x5], [⟨true, some (.tab [.fl .f32, .fl .f32, .fl .f32, .fl .f32, .int .i64] x6)⟩, ⟨true, some (.tab [.int .i64] x7)⟩] => if f0 = 0 ∧ f1 = 1 then [((Nat.beq ((r62l0 m x0 x1 x2 x3 x4 x5 x6 x7).1) 0), .exit 0, [.float .f32 ((r62l0 m x0 x1 x2 x3 x4 x5 x6 x7).2)], ⟨[⟨true, (some (.tab sc0 x6))⟩, ⟨true, (some (.tab [.int .i64] x7))⟩], 2, []⟩)] else noQ vals s
 | _, _ => noQ vals s
noncomputable def w62l0 (ih : Int → Nat → Nat → Nat → Nat → Int → List (List Int) → List (List Int) → (Nat × Nat)) (x0 : Int) (x1 x2 x3 x4 : Nat) (x5 : Int) (x6 x7 : List (List Int)) : Option (Fin' × List Value × St) :=
 let c438 := (r62l1 (1000 + 0 + x7.length + x6.length) x0 x1 x2 x3 x4 (fmul .f32 1056964608 (fadd .f32 x3 x4)) x5 ((x7.length : Nat) : Int) 0 x6 x7 ([] : List (List Int)))
 let c439 := (r93 (Int.toNat ((x6.getD (Int.toNat x0) []).getD 0 0)) (Int.toNat ((x6.getD (Int.toNat x0) []).getD 1 0)) (Int.toNat ((x6.getD (Int.toNat x0) []).getD 2 0)) (Int.toNat ((x6.getD (Int.toNat x0) []).getD 3 0)) ((x6.getD (Int.toNat x0) []).getD 4 0) x1 (fsub .f32 (fmul .f32 1056964608 (fadd .f32 x3 x4)) x2))
 (cond (decide ((x5 : Int) < 40))
 (cond (Nat.beq (c438.1) 0)
  (cond (Nat.beq ((r101 (c438.2)).1) 0)
   (cond ((decide ((0 : Int) ≤ x0)) && (Nat.blt (Int.toNat x0) x6.length))
    (cond (Nat.blt (Int.toNat x0) x6.length)
     (cond (Nat.beq (c439.1) 0)
      (cond (fgt .f32 ((r101 (c438.2)).2) (c439.2))
       (u62l0 x0 x1 x2 x3 x4 x5 x6 x7 (ih x0 x1 x2 (fmul .f32 1056964608 (fadd .f32 x3 x4)) x4 (IntKind.i64.wrap (x5 + 1)) x6 x7))
       (u62l0 x0 x1 x2 x3 x4 x5 x6 x7 (ih x0 x1 x2 x3 (fmul .f32 1056964608 (fadd .f32 x3 x4)) (IntKind.i64.wrap (x5 + 1)) x6 x7)))
      none)
     none)
    none)
   none)
  (cond (Nat.beq (c438.1) 1)
   (cond (Nat.beq ((r101 ([] : List (List Int))).1) 0)
    (cond ((decide ((0 : Int) ≤ x0)) && (Nat.blt (Int.toNat x0) x6.length))
     (cond (Nat.blt (Int.toNat x0) x6.length)
      (cond (Nat.beq (c439.1) 0)
       (cond (fgt .f32 ((r101 ([] : List (List Int))).2) (c439.2))
        (u62l0 x0 x1 x2 x3 x4 x5 x6 x7 (ih x0 x1 x2 (fmul .f32 1056964608 (fadd .f32 x3 x4)) x4 (IntKind.i64.wrap (x5 + 1)) x6 x7))
        (u62l0 x0 x1 x2 x3 x4 x5 x6 x7 (ih x0 x1 x2 x3 (fmul .f32 1056964608 (fadd .f32 x3 x4)) (IntKind.i64.wrap (x5 + 1)) x6 x7)))
       none)
      none)
     none)
    none)
   none))
 (a62l0 x0 x1 x2 x3 x4 x5 x6 x7 (0, x4)))
set_option maxRecDepth 100000 in
set_option maxHeartbeats 4000000 in
theorem e62l0 (m : Nat) (x0 : Int) (x1 x2 x3 x4 : Nat) (x5 : Int) (x6 x7 : List (List Int)) : evC Try.prog ext T40 L62_1 200 (loopN Try.f62 0) (loopTail ([0, 1, 2, 3, 9, 10, 11, 22], []) [11] [] (sumK 63 [0, 1, 2, 3, 9, 10, 11, 22] [11] (q62l0 m))) (frameOf 63 [0, 1, 2, 3, 9, 10, 11, 22] [wsl 0, .int .i64 x0, .float .f32 x1, .float .f32 x2, wsl 1, .float .f32 x3, .float .f32 x4, .int .i64 x5]) ⟨[⟨true, (some (.tab sc0 x6))⟩, ⟨true, (some (.tab [.int .i64] x7))⟩], 2, []⟩ = firstT ([((Nat.beq ((r62l0 (m + 1) x0 x1 x2 x3 x4 x5 x6 x7).1) 0), .exit 0, [.float .f32 ((r62l0 (m + 1) x0 x1 x2 x3 x4 x5 x6 x7).2)], ⟨[⟨true, (some (.tab sc0 x6))⟩, ⟨true, (some (.tab [.int .i64] x7))⟩], 2, []⟩)].map fun (b, x) => (b, (x.1, frameOf 63 [11] x.2.1, x.2.2))) :=
 (show evC Try.prog ext T40 L62_1 200 (loopN Try.f62 0) (loopTail ([0, 1, 2, 3, 9, 10, 11, 22], []) [11] [] (sumK 63 [0, 1, 2, 3, 9, 10, 11, 22] [11] (q62l0 m))) (frameOf 63 [0, 1, 2, 3, 9, 10, 11, 22] [wsl 0, .int .i64 x0, .float .f32 x1, .float .f32 x2, wsl 1, .float .f32 x3, .float .f32 x4, .int .i64 x5]) ⟨[⟨true, (some (.tab sc0 x6))⟩, ⟨true, (some (.tab [.int .i64] x7))⟩], 2, []⟩ = w62l0 (r62l0 m) x0 x1 x2 x3 x4 x5 x6 x7 from by kernel_rfl).trans
 (show w62l0 (r62l0 m) x0 x1 x2 x3 x4 x5 x6 x7 = a62l0 x0 x1 x2 x3 x4 x5 x6 x7 (r62l0 (m + 1) x0 x1 x2 x3 x4 x5 x6 x7) from by unfold w62l0; show _ = a62l0 x0 x1 x2 x3 x4 x5 x6 x7 (b62l0 (r62l0 m) x0 x1 x2 x3 x4 x5 x6 x7); unfold b62l0; exact (cond_both (a62l0 x0 x1 x2 x3 x4 x5 x6 x7) _ (fun h0 => (cond_both (a62l0 x0 x1 x2 x3 x4 x5 x6 x7) _ (fun h1 => (cond_both (a62l0 x0 x1 x2 x3 x4 x5 x6 x7) _ (fun h2 => (cond_both (a62l0 x0 x1 x2 x3 x4 x5 x6 x7) _ (fun h3 => (cond_t (ev_and2 h3) (cond_app (a62l0 x0 x1 x2 x3 x4 x5 x6 x7) _ (cond_app (a62l0 x0 x1 x2 x3 x4 x5 x6 x7) _ (v62l0 x0 x1 x2 x3 x4 x5 x6 x7 ((r62l0 m) x0 x1 x2 (fmul .f32 1056964608 (fadd .f32 x3 x4)) x4 (IntKind.i64.wrap (x5 + 1)) x6 x7)) (v62l0 x0 x1 x2 x3 x4 x5 x6 x7 ((r62l0 m) x0 x1 x2 x3 (fmul .f32 1056964608 (fadd .f32 x3 x4)) (IntKind.i64.wrap (x5 + 1)) x6 x7))) rfl))) (fun h3 => rfl))) (fun h2 => rfl))) (fun h1 => (cond_both (a62l0 x0 x1 x2 x3 x4 x5 x6 x7) _ (fun h2 => (cond_both (a62l0 x0 x1 x2 x3 x4 x5 x6 x7) _ (fun h3 => (cond_both (a62l0 x0 x1 x2 x3 x4 x5 x6 x7) _ (fun h4 => (cond_t (ev_and2 h4) (cond_app (a62l0 x0 x1 x2 x3 x4 x5 x6 x7) _ (cond_app (a62l0 x0 x1 x2 x3 x4 x5 x6 x7) _ (v62l0 x0 x1 x2 x3 x4 x5 x6 x7 ((r62l0 m) x0 x1 x2 (fmul .f32 1056964608 (fadd .f32 x3 x4)) x4 (IntKind.i64.wrap (x5 + 1)) x6 x7)) (v62l0 x0 x1 x2 x3 x4 x5 x6 x7 ((r62l0 m) x0 x1 x2 x3 (fmul .f32 1056964608 (fadd .f32 x3 x4)) (IntKind.i64.wrap (x5 + 1)) x6 x7))) rfl))) (fun h4 => rfl))) (fun h3 => rfl))) (fun h2 => rfl))))) (fun h0 => rfl)))
set_option maxRecDepth 100000 in
set_option maxHeartbeats 4000000 in
theorem qm62l0 : ∀ m, SumKOk Try.prog (loopN Try.f62 0) 63 [0, 1, 2, 3, 9, 10, 11, 22] [11] (q62l0 m) := by
  intro m
  induction m with
  | zero =>
    intro vals s x h1 h2 h3
    unfold q62l0 at h3; split at h3
    · rename_i h; split at h3
      · rename_i hc; obtain ⟨rfl, rfl⟩ := hc; exact absurd h3 (by simp [r62l0, firstT, Nat.beq])
      · exact noQ_ok _ _ _ h1 h2 h3
    · exact noQ_ok _ _ _ h1 h2 h3
  | succ m ih =>
    intro vals s x h1 h2 h3
    unfold q62l0 at h3; split at h3
    · rename_i h; split at h3
      · rename_i hc; obtain ⟨rfl, rfl⟩ := hc; exact sum_step ok40 extOk mixed (lok62_1.inner (by kernel_rfl)) ih h1 h2 h (e62l0 m _ _ _ _ _ _ _ _) rfl h3
      · exact noQ_ok _ _ _ h1 h2 h3
    · exact noQ_ok _ _ _ h1 h2 h3
noncomputable def Q62l0 : SumK := fun vals s => q62l0 (fuelOf vals s.h) vals s
theorem qok62l0 : SumKOk Try.prog (loopN Try.f62 0) 63 [0, 1, 2, 3, 9, 10, 11, 22] [11] Q62l0 := fuel_ok qm62l0 fuelOf
noncomputable def L62_2 : LoopT := addL L62_1 7 ([0, 1, 2, 3, 9, 10, 11, 22], []) (sumK 63 [0, 1, 2, 3, 9, 10, 11, 22] [11] Q62l0)
theorem lok62_2 : LfOkF Try.prog L62_2 Try.f62 := lfOkF_add lok62_1 qok62l0 (by kernel_rfl) (by kernel_rfl) (by kernel_rfl)

/-- impl.pushAt -/
noncomputable def r62 (x0 : Int) (x1 x2 : Nat) (x3 : List (List Int)) : Nat × Nat :=
 cond (Nat.beq ((r100 x0 x3).1) 0)
  (cond ((((((r100 x0 x3).2).length : Nat) : Int) : Int) == 0)
   (0, 0)
   (cond (Nat.beq ((r62l0 (1000 + ((r100 x0 x3).2).length + x3.length) x0 x1 x2 3296329728 1148846080 0 x3 ((r100 x0 x3).2)).1) 0)
    (0, ((r62l0 (1000 + ((r100 x0 x3).2).length + x3.length) x0 x1 x2 3296329728 1148846080 0 x3 ((r100 x0 x3).2)).2))
    (1, 0)))
  (1, 0)
noncomputable def a62 (x0 : Int) (x1 x2 : Nat) (x3 : List (List Int)) (p : Nat × Nat) : Res := firstT [((Nat.beq (p.1) 0), .float .f32 (p.2), ⟨[⟨true, (some (.tab sc0 x3))⟩], 1, []⟩)]
noncomputable def w62 (x0 : Int) (x1 x2 : Nat) (x3 : List (List Int)) : Res :=
 (cond (Nat.beq ((r100 x0 x3).1) 0)
 (cond ((((((r100 x0 x3).2).length : Nat) : Int) : Int) == 0)
  (a62 x0 x1 x2 x3 (0, 0))
  (cond (Nat.beq ((r62l0 (1000 + ((r100 x0 x3).2).length + x3.length) x0 x1 x2 3296329728 1148846080 0 x3 ((r100 x0 x3).2)).1) 0)
   (a62 x0 x1 x2 x3 (0, ((r62l0 (1000 + ((r100 x0 x3).2).length + x3.length) x0 x1 x2 3296329728 1148846080 0 x3 ((r100 x0 x3).2)).2)))
   none))
 none)
set_option maxRecDepth 100000 in
set_option maxHeartbeats 4000000 in
theorem e62 (x0 : Int) (x1 x2 : Nat) (x3 : List (List Int)) : evFn Try.prog ext T40 L62_2 200 Try.f62 [wsl 0, .int .i64 x0, .float .f32 x1, .float .f32 x2] ⟨[⟨true, (some (.tab sc0 x3))⟩], 1, []⟩ = firstT [((Nat.beq ((r62 x0 x1 x2 x3).1) 0), .float .f32 ((r62 x0 x1 x2 x3).2), ⟨[⟨true, (some (.tab sc0 x3))⟩], 1, []⟩)] :=
 (show evFn Try.prog ext T40 L62_2 200 Try.f62 [wsl 0, .int .i64 x0, .float .f32 x1, .float .f32 x2] ⟨[⟨true, (some (.tab sc0 x3))⟩], 1, []⟩ = w62 x0 x1 x2 x3 from by kernel_rfl).trans
 (show w62 x0 x1 x2 x3 = a62 x0 x1 x2 x3 (r62 x0 x1 x2 x3) from by unfold w62 r62; exact (cond_app (a62 x0 x1 x2 x3) _ (cond_app (a62 x0 x1 x2 x3) _ rfl (cond_app (a62 x0 x1 x2 x3) _ rfl rfl)) rfl))
noncomputable def s62 (args : List Value) (s : St) : List (Bool × Value × St) :=
 match args, s.h with
 | [.iface f0 .nilIface, .int .i64 x0, .float .f32 x1, .float .f32 x2], [⟨true, some (.tab [.fl .f32, .fl .f32, .fl .f32, .fl .f32, .int .i64] x3)⟩] => if f0 = 0 then [((Nat.beq ((r62 x0 x1 x2 x3).1) 0), .float .f32 ((r62 x0 x1 x2 x3).2), ⟨[⟨true, (some (.tab sc0 x3))⟩], 1, []⟩)] else T40 62 args s
 | _, _ => T40 62 args s
noncomputable def T41 : CallF := addF T40 62 s62
set_option maxRecDepth 100000 in
set_option maxHeartbeats 4000000 in
theorem ok41 : CfOk Try.prog T41 := by
  refine cfOk_add ok40 fun args s r s' h1 h2 h3 => ?_
  unfold s62 at h3; split at h3
  · rename_i h; split at h3
    · rename_i hc; obtain ⟨rfl⟩ := hc; exact callOk ok40 Try.func62 h1 h2 h lok62_2.body (e62 _ _ _ _) rfl h3
    · exact ok40 _ _ _ _ _ h1 h2 h3
  · exact ok40 _ _ _ _ _ h1 h2 h3

/-- impl.PushAt -/
noncomputable def r20 (x0 : Int) (x1 x2 : Nat) (x3 : List (List Int)) : Nat × Nat × Int :=
 cond (Nat.beq ((r54 x1 x2 x3).1) 0)
  (cond ((((r54 x1 x2 x3).2) : Int) != 0)
   (0, 0, ((r54 x1 x2 x3).2))
   (cond (decide ((x0 : Int) < 0))
    (0, 0, 2)
    (cond (decide ((x0 : Int) ≥ ((x3.length : Nat) : Int)))
     (0, 0, 2)
     (cond ((decide ((0 : Int) ≤ x0)) && (Nat.blt (Int.toNat x0) x3.length))
      (cond ((((x3.getD (Int.toNat x0) []).getD 4 0) : Int) != (-1))
       (0, 0, 2)
       (cond (Nat.beq ((r62 x0 x1 x2 x3).1) 0)
        (0, ((r62 x0 x1 x2 x3).2), 0)
        (1, 0, 0)))
      (1, 0, 0)))))
  (1, 0, 0)
noncomputable def a20 (x0 : Int) (x1 x2 : Nat) (x3 : List (List Int)) (p : Nat × Nat × Int) : Res := firstT [((Nat.beq (p.1) 0), .tuple #[.float .f32 (p.2.1), .int .i64 (p.2.2)], ⟨[⟨true, (some (.tab sc0 x3))⟩], 1, []⟩)]
noncomputable def w20 (x0 : Int) (x1 x2 : Nat) (x3 : List (List Int)) : Res :=
 (cond (Nat.beq ((r54 x1 x2 x3).1) 0)
 (cond ((((r54 x1 x2 x3).2) : Int) != 0)
  (a20 x0 x1 x2 x3 (0, 0, ((r54 x1 x2 x3).2)))
  (cond (decide ((x0 : Int) < 0))
   (a20 x0 x1 x2 x3 (0, 0, 2))
   (cond (decide ((x0 : Int) ≥ ((x3.length : Nat) : Int)))
    (a20 x0 x1 x2 x3 (0, 0, 2))
    (cond ((decide ((0 : Int) ≤ x0)) && (Nat.blt (Int.toNat x0) x3.length))
     (cond (Nat.blt (Int.toNat x0) x3.length)
      (cond ((((x3.getD (Int.toNat x0) []).getD 4 0) : Int) != (-1))
       (a20 x0 x1 x2 x3 (0, 0, 2))
       (cond (Nat.beq ((r62 x0 x1 x2 x3).1) 0)
        (a20 x0 x1 x2 x3 (0, ((r62 x0 x1 x2 x3).2), 0))
        none))
      none)
     none))))
 none)
set_option maxRecDepth 100000 in
set_option maxHeartbeats 4000000 in
theorem e20 (x0 : Int) (x1 x2 : Nat) (x3 : List (List Int)) : evFn Try.prog ext T41 noL 200 Try.f20 [wsl 0, .int .i64 x0, .float .f32 x1, .float .f32 x2] ⟨[⟨true, (some (.tab sc0 x3))⟩], 1, []⟩ = firstT [((Nat.beq ((r20 x0 x1 x2 x3).1) 0), .tuple #[.float .f32 ((r20 x0 x1 x2 x3).2.1), .int .i64 ((r20 x0 x1 x2 x3).2.2)], ⟨[⟨true, (some (.tab sc0 x3))⟩], 1, []⟩)] :=
 (show evFn Try.prog ext T41 noL 200 Try.f20 [wsl 0, .int .i64 x0, .float .f32 x1, .float .f32 x2] ⟨[⟨true, (some (.tab sc0 x3))⟩], 1, []⟩ = w20 x0 x1 x2 x3 from by kernel_rfl).trans
 (show w20 x0 x1 x2 x3 = a20 x0 x1 x2 x3 (r20 x0 x1 x2 x3) from by unfold w20 r20; exact (cond_both (a20 x0 x1 x2 x3) _ (fun h0 => (cond_both (a20 x0 x1 x2 x3) _ (fun h1 => rfl) (fun h1 => (cond_both (a20 x0 x1 x2 x3) _ (fun h2 => rfl) (fun h2 => (cond_both (a20 x0 x1 x2 x3) _ (fun h3 => rfl) (fun h3 => (cond_both (a20 x0 x1 x2 x3) _ (fun h4 => (cond_t (ev_and2 h4) (cond_app (a20 x0 x1 x2 x3) _ rfl (cond_app (a20 x0 x1 x2 x3) _ rfl rfl)))) (fun h4 => rfl))))))))) (fun h0 => rfl)))
noncomputable def s20 (args : List Value) (s : St) : List (Bool × Value × St) :=
 match args, s.h with
 | [.iface f0 .nilIface, .int .i64 x0, .float .f32 x1, .float .f32 x2], [⟨true, some (.tab [.fl .f32, .fl .f32, .fl .f32, .fl .f32, .int .i64] x3)⟩] => if f0 = 0 then [((Nat.beq ((r20 x0 x1 x2 x3).1) 0), .tuple #[.float .f32 ((r20 x0 x1 x2 x3).2.1), .int .i64 ((r20 x0 x1 x2 x3).2.2)], ⟨[⟨true, (some (.tab sc0 x3))⟩], 1, []⟩)] else T41 20 args s
 | _, _ => T41 20 args s
noncomputable def T42 : CallF := addF T41 20 s20
set_option maxRecDepth 100000 in
set_option maxHeartbeats 4000000 in
theorem ok42 : CfOk Try.prog T42 := by
  refine cfOk_add ok41 fun args s r s' h1 h2 h3 => ?_
  unfold s20 at h3; split at h3
  · rename_i h; split at h3
    · rename_i hc; obtain ⟨rfl⟩ := hc; exact callOk ok41 Try.func20 h1 h2 h (lfOkF_no _ _).body (e20 _ _ _ _) rfl h3
    · exact ok41 _ _ _ _ _ h1 h2 h3
  · exact ok41 _ _ _ _ _ h1 h2 h3

/-- laws.sameFloat -/
noncomputable def r26 (x0 x1 : Nat) : Bool :=
 cond (!feq .f64 x0 x0)
  ((!feq .f64 x1 x1))
  (cond (!feq .f64 x1 x1)
   (false)
   (cond (feq .f64 x0 0)
    (cond (feq .f64 x1 0)
     (((fgt .f64 (fdiv .f64 4607182418800017408 x0) 0) == (fgt .f64 (fdiv .f64 4607182418800017408 x1) 0)))
     ((feq .f64 x0 x1)))
    ((feq .f64 x0 x1))))
noncomputable def a26 (x0 x1 : Nat) (p : Bool) : Res := firstT [(true, .bool p, st0)]
noncomputable def w26 (x0 x1 : Nat) : Res :=
 (cond (!feq .f64 x0 x0)
 (cond (!feq .f64 x0 x0)
  (a26 x0 x1 ((!feq .f64 x1 x1)))
  (some (.bool false, st0)))
 (cond (!feq .f64 x1 x1)
  (cond (!feq .f64 x0 x0)
   (some (.bool (!feq .f64 x1 x1), st0))
   (a26 x0 x1 (false)))
  (cond (feq .f64 x0 0)
   (cond (feq .f64 x1 0)
    (a26 x0 x1 (((fgt .f64 (fdiv .f64 4607182418800017408 x0) 0) == (fgt .f64 (fdiv .f64 4607182418800017408 x1) 0))))
    (a26 x0 x1 ((feq .f64 x0 x1))))
   (a26 x0 x1 ((feq .f64 x0 x1))))))
set_option maxRecDepth 100000 in
set_option maxHeartbeats 4000000 in
theorem e26 (x0 x1 : Nat) : evFn Try.prog ext T42 noL 200 Try.f26 [.float .f64 x0, .float .f64 x1] st0 = firstT [(true, .bool (r26 x0 x1), st0)] :=
 (show evFn Try.prog ext T42 noL 200 Try.f26 [.float .f64 x0, .float .f64 x1] st0 = w26 x0 x1 from by kernel_rfl).trans
 (show w26 x0 x1 = a26 x0 x1 (r26 x0 x1) from by unfold w26 r26; exact (cond_both (a26 x0 x1) _ (fun h0 => (cond_t (ev_not1 (ev_nott h0)) rfl)) (fun h0 => (cond_both (a26 x0 x1) _ (fun h1 => (cond_f (ev_not0 (ev_notf h0)) rfl)) (fun h1 => (cond_app (a26 x0 x1) _ (cond_app (a26 x0 x1) _ rfl rfl) rfl))))))
noncomputable def s26 (args : List Value) (s : St) : List (Bool × Value × St) :=
 match args, s.h with
 | [.float .f64 x0, .float .f64 x1], [] => [(true, .bool (r26 x0 x1), st0)]
 | _, _ => T42 26 args s
noncomputable def T43 : CallF := addF T42 26 s26
set_option maxRecDepth 100000 in
set_option maxHeartbeats 4000000 in
theorem ok43 : CfOk Try.prog T43 := by
  refine cfOk_add ok42 fun args s r s' h1 h2 h3 => ?_
  unfold s26 at h3; split at h3
  · rename_i h; exact callOk ok42 Try.func26 h1 h2 h (lfOkF_no _ _).body (e26 _ _) rfl h3
  · exact ok42 _ _ _ _ _ h1 h2 h3

/-- laws.eqFlue -/
noncomputable def r67 (x0 x1 x2 x3 : Nat) (x4 : Int) (x5 x6 x7 x8 : Nat) (x9 : Int) : Bool :=
 cond (!(r26 (widen x0) (widen x5)))
  (false)
  (cond (!(r26 (widen x1) (widen x6)))
   (false)
   (cond (!(r26 (widen x2) (widen x7)))
    (false)
    (cond (!(r26 (widen x3) (widen x8)))
     (false)
     (cond ((x4 : Int) != x9)
      (false)
      (true)))))
noncomputable def a67 (x0 x1 x2 x3 : Nat) (x4 : Int) (x5 x6 x7 x8 : Nat) (x9 : Int) (p : Bool) : Res := firstT [(true, .bool p, st0)]
noncomputable def w67 (x0 x1 x2 x3 : Nat) (x4 : Int) (x5 x6 x7 x8 : Nat) (x9 : Int) : Res :=
 (cond (!(r26 (widen x0) (widen x5)))
 (a67 x0 x1 x2 x3 x4 x5 x6 x7 x8 x9 (false))
 (cond (!(r26 (widen x1) (widen x6)))
  (a67 x0 x1 x2 x3 x4 x5 x6 x7 x8 x9 (false))
  (cond (!(r26 (widen x2) (widen x7)))
   (a67 x0 x1 x2 x3 x4 x5 x6 x7 x8 x9 (false))
   (cond (!(r26 (widen x3) (widen x8)))
    (a67 x0 x1 x2 x3 x4 x5 x6 x7 x8 x9 (false))
    (cond ((x4 : Int) != x9)
     (a67 x0 x1 x2 x3 x4 x5 x6 x7 x8 x9 (false))
     (a67 x0 x1 x2 x3 x4 x5 x6 x7 x8 x9 (true)))))))
set_option maxRecDepth 100000 in
set_option maxHeartbeats 4000000 in
theorem e67 (x0 x1 x2 x3 : Nat) (x4 : Int) (x5 x6 x7 x8 : Nat) (x9 : Int) : evFn Try.prog ext T43 noL 200 Try.f67 [.agg #[.float .f32 x0, .float .f32 x1, .float .f32 x2, .float .f32 x3, .int .i64 x4], .agg #[.float .f32 x5, .float .f32 x6, .float .f32 x7, .float .f32 x8, .int .i64 x9]] st0 = firstT [(true, .bool (r67 x0 x1 x2 x3 x4 x5 x6 x7 x8 x9), st0)] :=
 (show evFn Try.prog ext T43 noL 200 Try.f67 [.agg #[.float .f32 x0, .float .f32 x1, .float .f32 x2, .float .f32 x3, .int .i64 x4], .agg #[.float .f32 x5, .float .f32 x6, .float .f32 x7, .float .f32 x8, .int .i64 x9]] st0 = w67 x0 x1 x2 x3 x4 x5 x6 x7 x8 x9 from by kernel_rfl).trans
 (show w67 x0 x1 x2 x3 x4 x5 x6 x7 x8 x9 = a67 x0 x1 x2 x3 x4 x5 x6 x7 x8 x9 (r67 x0 x1 x2 x3 x4 x5 x6 x7 x8 x9) from by unfold w67 r67; exact (cond_app (a67 x0 x1 x2 x3 x4 x5 x6 x7 x8 x9) _ rfl (cond_app (a67 x0 x1 x2 x3 x4 x5 x6 x7 x8 x9) _ rfl (cond_app (a67 x0 x1 x2 x3 x4 x5 x6 x7 x8 x9) _ rfl (cond_app (a67 x0 x1 x2 x3 x4 x5 x6 x7 x8 x9) _ rfl (cond_app (a67 x0 x1 x2 x3 x4 x5 x6 x7 x8 x9) _ rfl rfl))))))
noncomputable def s67 (args : List Value) (s : St) : List (Bool × Value × St) :=
 match args, s.h with
 | [.agg ⟨[.float .f32 x0, .float .f32 x1, .float .f32 x2, .float .f32 x3, .int .i64 x4]⟩, .agg ⟨[.float .f32 x5, .float .f32 x6, .float .f32 x7, .float .f32 x8, .int .i64 x9]⟩], [] => [(true, .bool (r67 x0 x1 x2 x3 x4 x5 x6 x7 x8 x9), st0)]
 | _, _ => T43 67 args s
noncomputable def T44 : CallF := addF T43 67 s67
set_option maxRecDepth 100000 in
set_option maxHeartbeats 4000000 in
theorem ok44 : CfOk Try.prog T44 := by
  refine cfOk_add ok43 fun args s r s' h1 h2 h3 => ?_
  unfold s67 at h3; split at h3
  · rename_i h; exact callOk ok43 Try.func67 h1 h2 h (lfOkF_no _ _).body (e67 _ _ _ _ _ _ _ _ _ _) rfl h3
  · exact ok43 _ _ _ _ _ h1 h2 h3

/-- laws.eqFlueS, loop 0: one round -/
noncomputable def b27l0 (ih : Int → List (List Int) → List (List Int) → Nat) (x0 : Int) (x1 x2 : List (List Int)) : Nat :=
 let c456 := (r67 (Int.toNat ((x1.getD (Int.toNat x0) []).getD 0 0)) (Int.toNat ((x1.getD (Int.toNat x0) []).getD 1 0)) (Int.toNat ((x1.getD (Int.toNat x0) []).getD 2 0)) (Int.toNat ((x1.getD (Int.toNat x0) []).getD 3 0)) ((x1.getD (Int.toNat x0) []).getD 4 0) (Int.toNat ((x2.getD (Int.toNat x0) []).getD 0 0)) (Int.toNat ((x2.getD (Int.toNat x0) []).getD 1 0)) (Int.toNat ((x2.getD (Int.toNat x0) []).getD 2 0)) (Int.toNat ((x2.getD (Int.toNat x0) []).getD 3 0)) ((x2.getD (Int.toNat x0) []).getD 4 0))
 cond (decide ((x0 : Int) < ((x1.length : Nat) : Int)))
  (cond ((decide ((0 : Int) ≤ x0)) && (Nat.blt (Int.toNat x0) x1.length))
   (cond ((decide ((0 : Int) ≤ x0)) && (Nat.blt (Int.toNat x0) x2.length))
    (cond (!c456)
     (0)
     (ih (IntKind.i64.wrap (x0 + 1)) x1 x2))
    (2))
   (2))
  (1)
noncomputable def r27l0 : Nat → Int → List (List Int) → List (List Int) → Nat
 | 0 => fun _ _ _ => (2)
 | m + 1 => b27l0 (r27l0 m)
noncomputable def a27l0 (x0 : Int) (x1 x2 : List (List Int)) (p : Nat) : Option (Fin' × List Value × St) := firstT ([((Nat.beq p 0), .ret, [.bool false], ⟨[⟨true, (some (.tab sc0 x1))⟩, ⟨true, (some (.tab sc0 x2))⟩], 2, []⟩), ((Nat.beq p 1), .exit 0, [anyV], ⟨[⟨true, (some (.tab sc0 x1))⟩, ⟨true, (some (.tab sc0 x2))⟩], 2, []⟩)].map fun (b, x) => (b, (x.1, frameOf 27 [4] x.2.1, x.2.2)))
noncomputable def u27l0 (x0 : Int) (x1 x2 : List (List Int)) (p : Nat) : Option (Fin' × List Value × St) := alts ([((Nat.beq p 0), .ret, [.bool false], ⟨[⟨true, (some (.tab sc0 x1))⟩, ⟨true, (some (.tab sc0 x2))⟩], 2, []⟩), ((Nat.beq p 1), .exit 0, [anyV], ⟨[⟨true, (some (.tab sc0 x1))⟩, ⟨true, (some (.tab sc0 x2))⟩], 2, []⟩)].map fun (b, x) => (b, (x.1, frameOf 27 [4] x.2.1, x.2.2))) some
theorem v27l0 (x0 : Int) (x1 x2 : List (List Int)) (p : Nat) : u27l0 x0 x1 x2 p = a27l0 x0 x1 x2 p := alts_first _
noncomputable def q27l0 (m : Nat) : SumK := fun vals s =>
 match vals, s.h with
 | [.iface f0 .nilIface, .iface f1 .nilIface, .int .i64 x0], [⟨true, some (.tab [.fl .f32, .fl .f32, .fl .f32, .fl .f32, .int .i64] x1)⟩, ⟨true, some (.tab [.fl .f32, .fl .f32, .fl .f32, .fl .f32, .int .i64] x2)⟩] => if f0 = 0 ∧ f1 = 1 then [((Nat.beq (r27l0 m x0 x1 x2) 0), .ret, [.bool false], ⟨[⟨true, (some (.tab sc0 x1))⟩, ⟨true, (some (.tab sc0 x2))⟩], 2, []⟩), ((Nat.beq (r27l0 m x0 x1 x2) 1), .exit 0, [anyV], ⟨[⟨true, (some (.tab sc0 x1))⟩, ⟨true, (some (.tab sc0 x2))⟩], 2, []⟩)] else noQ vals s
 | _, _ => noQ vals s
noncomputable def w27l0 (ih : Int → List (List Int) → List (List Int) → Nat) (x0 : Int) (x1 x2 : List (List Int)) : Option (Fin' × List Value × St) :=
 let c456 := (r67 (Int.toNat ((x1.getD (Int.toNat x0) []).getD 0 0)) (Int.toNat ((x1.getD (Int.toNat x0) []).getD 1 0)) (Int.toNat ((x1.getD (Int.toNat x0) []).getD 2 0)) (Int.toNat ((x1.getD (Int.toNat x0) []).getD 3 0)) ((x1.getD (Int.toNat x0) []).getD 4 0) (Int.toNat ((x2.getD (Int.toNat x0) []).getD 0 0)) (Int.toNat ((x2.getD (Int.toNat x0) []).getD 1 0)) (Int.toNat ((x2.getD (Int.toNat x0) []).getD 2 0)) (Int.toNat ((x2.getD (Int.toNat x0) []).getD 3 0)) ((x2.getD (Int.toNat x0) []).getD 4 0))
 (cond (decide ((x0 : Int) < ((x1.length : Nat) : Int)))
 (cond ((decide ((0 : Int) ≤ x0)) && (Nat.blt (Int.toNat x0) x1.length))
  (cond (Nat.blt (Int.toNat x0) x1.length)
   (cond ((decide ((0 : Int) ≤ x0)) && (Nat.blt (Int.toNat x0) x2.length))
    (cond (Nat.blt (Int.toNat x0) x2.length)
     (cond (!c456)
      (a27l0 x0 x1 x2 (0))
      (u27l0 x0 x1 x2 (ih (IntKind.i64.wrap (x0 + 1)) x1 x2)))
     none)
    none)
   none)
  none)
 (a27l0 x0 x1 x2 (1)))
set_option maxRecDepth 100000 in
set_option maxHeartbeats 4000000 in
theorem e27l0 (m : Nat) (x0 : Int) (x1 x2 : List (List Int)) : evC Try.prog ext T44 noL 200 (loopN Try.f27 0) (loopTail ([0, 1, 5], []) [4] [] (sumK 27 [0, 1, 5] [4] (q27l0 m))) (frameOf 27 [0, 1, 5] [wsl 0, wsl 1, .int .i64 x0]) ⟨[⟨true, (some (.tab sc0 x1))⟩, ⟨true, (some (.tab sc0 x2))⟩], 2, []⟩ = firstT ([((Nat.beq (r27l0 (m + 1) x0 x1 x2) 0), .ret, [.bool false], ⟨[⟨true, (some (.tab sc0 x1))⟩, ⟨true, (some (.tab sc0 x2))⟩], 2, []⟩), ((Nat.beq (r27l0 (m + 1) x0 x1 x2) 1), .exit 0, [anyV], ⟨[⟨true, (some (.tab sc0 x1))⟩, ⟨true, (some (.tab sc0 x2))⟩], 2, []⟩)].map fun (b, x) => (b, (x.1, frameOf 27 [4] x.2.1, x.2.2))) :=
 (show evC Try.prog ext T44 noL 200 (loopN Try.f27 0) (loopTail ([0, 1, 5], []) [4] [] (sumK 27 [0, 1, 5] [4] (q27l0 m))) (frameOf 27 [0, 1, 5] [wsl 0, wsl 1, .int .i64 x0]) ⟨[⟨true, (some (.tab sc0 x1))⟩, ⟨true, (some (.tab sc0 x2))⟩], 2, []⟩ = w27l0 (r27l0 m) x0 x1 x2 from by kernel_rfl).trans
 (show w27l0 (r27l0 m) x0 x1 x2 = a27l0 x0 x1 x2 (r27l0 (m + 1) x0 x1 x2) from by unfold w27l0; show _ = a27l0 x0 x1 x2 (b27l0 (r27l0 m) x0 x1 x2); unfold b27l0; exact (cond_both (a27l0 x0 x1 x2) _ (fun h0 => (cond_both (a27l0 x0 x1 x2) _ (fun h1 => (cond_t (ev_and2 h1) (cond_both (a27l0 x0 x1 x2) _ (fun h2 => (cond_t (ev_and2 h2) (cond_app (a27l0 x0 x1 x2) _ rfl (v27l0 x0 x1 x2 ((r27l0 m) (IntKind.i64.wrap (x0 + 1)) x1 x2))))) (fun h2 => rfl)))) (fun h1 => rfl))) (fun h0 => rfl)))
set_option maxRecDepth 100000 in
set_option maxHeartbeats 4000000 in
theorem qm27l0 : ∀ m, SumKOk Try.prog (loopN Try.f27 0) 27 [0, 1, 5] [4] (q27l0 m) := by
  intro m
  induction m with
  | zero =>
    intro vals s x h1 h2 h3
    unfold q27l0 at h3; split at h3
    · rename_i h; split at h3
      · rename_i hc; obtain ⟨rfl, rfl⟩ := hc; exact absurd h3 (by simp [r27l0, firstT, Nat.beq])
      · exact noQ_ok _ _ _ h1 h2 h3
    · exact noQ_ok _ _ _ h1 h2 h3
  | succ m ih =>
    intro vals s x h1 h2 h3
    unfold q27l0 at h3; split at h3
    · rename_i h; split at h3
      · rename_i hc; obtain ⟨rfl, rfl⟩ := hc; exact sum_step ok44 extOk mixed ((lfOkF_no _ _).inner (by kernel_rfl)) ih h1 h2 h (e27l0 m _ _ _) rfl h3
      · exact noQ_ok _ _ _ h1 h2 h3
    · exact noQ_ok _ _ _ h1 h2 h3
noncomputable def Q27l0 : SumK := fun vals s => q27l0 (fuelOf vals s.h) vals s
theorem qok27l0 : SumKOk Try.prog (loopN Try.f27 0) 27 [0, 1, 5] [4] Q27l0 := fuel_ok qm27l0 fuelOf
noncomputable def L27_1 : LoopT := addL noL 5 ([0, 1, 5], []) (sumK 27 [0, 1, 5] [4] Q27l0)
theorem lok27_1 : LfOkF Try.prog L27_1 Try.f27 := lfOkF_add (lfOkF_no _ _) qok27l0 (by kernel_rfl) (by kernel_rfl) (by kernel_rfl)

/-- laws.eqFlueS -/
noncomputable def r27 (x0 x1 : List (List Int)) : Nat × Bool :=
 cond ((((x0.length : Nat) : Int) : Int) != ((x1.length : Nat) : Int))
  (0, false)
  (cond (Nat.beq (r27l0 (1000 + x1.length + x0.length) 0 x0 x1) 0)
   (0, false)
   (cond (Nat.beq (r27l0 (1000 + x1.length + x0.length) 0 x0 x1) 1)
    (0, true)
    (1, false)))
noncomputable def a27 (x0 x1 : List (List Int)) (p : Nat × Bool) : Res := firstT [((Nat.beq (p.1) 0), .bool (p.2), ⟨[⟨true, (some (.tab sc0 x0))⟩, ⟨true, (some (.tab sc0 x1))⟩], 2, []⟩)]
noncomputable def w27 (x0 x1 : List (List Int)) : Res :=
 (cond ((((x0.length : Nat) : Int) : Int) != ((x1.length : Nat) : Int))
 (a27 x0 x1 (0, false))
 (cond (Nat.beq (r27l0 (1000 + x1.length + x0.length) 0 x0 x1) 0)
  (a27 x0 x1 (0, false))
  (cond (Nat.beq (r27l0 (1000 + x1.length + x0.length) 0 x0 x1) 1)
   (a27 x0 x1 (0, true))
   none)))
set_option maxRecDepth 100000 in
set_option maxHeartbeats 4000000 in
theorem e27 (x0 x1 : List (List Int)) : evFn Try.prog ext T44 L27_1 200 Try.f27 [wsl 0, wsl 1] ⟨[⟨true, (some (.tab sc0 x0))⟩, ⟨true, (some (.tab sc0 x1))⟩], 2, []⟩ = firstT [((Nat.beq ((r27 x0 x1).1) 0), .bool ((r27 x0 x1).2), ⟨[⟨true, (some (.tab sc0 x0))⟩, ⟨true, (some (.tab sc0 x1))⟩], 2, []⟩)] :=
 (show evFn Try.prog ext T44 L27_1 200 Try.f27 [wsl 0, wsl 1] ⟨[⟨true, (some (.tab sc0 x0))⟩, ⟨true, (some (.tab sc0 x1))⟩], 2, []⟩ = w27 x0 x1 from by kernel_rfl).trans
 (show w27 x0 x1 = a27 x0 x1 (r27 x0 x1) from by unfold w27 r27; exact (cond_app (a27 x0 x1) _ rfl (cond_app (a27 x0 x1) _ rfl (cond_app (a27 x0 x1) _ rfl rfl))))
noncomputable def s27 (args : List Value) (s : St) : List (Bool × Value × St) :=
 match args, s.h with
 | [.iface f0 .nilIface, .iface f1 .nilIface], [⟨true, some (.tab [.fl .f32, .fl .f32, .fl .f32, .fl .f32, .int .i64] x0)⟩, ⟨true, some (.tab [.fl .f32, .fl .f32, .fl .f32, .fl .f32, .int .i64] x1)⟩] => if f0 = 0 ∧ f1 = 1 then [((Nat.beq ((r27 x0 x1).1) 0), .bool ((r27 x0 x1).2), ⟨[⟨true, (some (.tab sc0 x0))⟩, ⟨true, (some (.tab sc0 x1))⟩], 2, []⟩)] else T44 27 args s
 | _, _ => T44 27 args s
noncomputable def T45 : CallF := addF T44 27 s27
set_option maxRecDepth 100000 in
set_option maxHeartbeats 4000000 in
theorem ok45 : CfOk Try.prog T45 := by
  refine cfOk_add ok44 fun args s r s' h1 h2 h3 => ?_
  unfold s27 at h3; split at h3
  · rename_i h; split at h3
    · rename_i hc; obtain ⟨rfl, rfl⟩ := hc; exact callOk ok44 Try.func27 h1 h2 h lok27_1.body (e27 _ _) rfl h3
    · exact ok44 _ _ _ _ _ h1 h2 h3
  · exact ok44 _ _ _ _ _ h1 h2 h3

/-- laws.FnExactPushAt -/
noncomputable def r4 (x0 : Int) (x1 x2 : Nat) (x3 : List (List Int)) : Nat × Bool :=
 cond (decide (((r24 1048576 x3) : Int) < 0))
  (0, true)
  (cond (Nat.beq ((r25 x3).1) 0)
   (cond (Nat.beq ((r21 x0 x1 x2 ((r25 x3).2)).1) 0)
    (cond (Nat.beq ((r20 x0 x1 x2 ((r25 x3).2)).1) 0)
     (cond (!(r26 (widen ((r20 x0 x1 x2 ((r25 x3).2)).2.1)) (widen ((r21 x0 x1 x2 ((r25 x3).2)).2.1))))
      (0, false)
      (cond ((((r20 x0 x1 x2 ((r25 x3).2)).2.2) : Int) != ((r21 x0 x1 x2 ((r25 x3).2)).2.2))
       (0, false)
       (cond (Nat.beq ((r27 ((r25 x3).2) ((r25 x3).2)).1) 0)
        (cond (!((r27 ((r25 x3).2) ((r25 x3).2)).2))
         (0, false)
         (0, true))
        (1, false))))
     (1, false))
    (1, false))
   (1, false))
noncomputable def a4 (x0 : Int) (x1 x2 : Nat) (x3 : List (List Int)) (p : Nat × Bool) : Res := firstT [((Nat.beq (p.1) 0), .bool (p.2), ⟨[⟨false, (some (.tab sc0 x3))⟩], 1, []⟩)]
noncomputable def w4 (x0 : Int) (x1 x2 : Nat) (x3 : List (List Int)) : Res :=
 (cond (decide (((r24 1048576 x3) : Int) < 0))
 (a4 x0 x1 x2 x3 (0, true))
 (cond (Nat.beq ((r25 x3).1) 0)
  (cond (Nat.beq ((r21 x0 x1 x2 ((r25 x3).2)).1) 0)
   (cond (Nat.beq ((r25 x3).1) 0)
    (cond (Nat.beq ((r20 x0 x1 x2 ((r25 x3).2)).1) 0)
     (cond (!(r26 (widen ((r20 x0 x1 x2 ((r25 x3).2)).2.1)) (widen ((r21 x0 x1 x2 ((r25 x3).2)).2.1))))
      (a4 x0 x1 x2 x3 (0, false))
      (cond ((((r20 x0 x1 x2 ((r25 x3).2)).2.2) : Int) != ((r21 x0 x1 x2 ((r25 x3).2)).2.2))
       (a4 x0 x1 x2 x3 (0, false))
       (cond (Nat.beq ((r25 x3).1) 0)
        (cond (Nat.beq ((r27 ((r25 x3).2) ((r25 x3).2)).1) 0)
         (cond (!((r27 ((r25 x3).2) ((r25 x3).2)).2))
          (a4 x0 x1 x2 x3 (0, false))
          (a4 x0 x1 x2 x3 (0, true)))
         none)
        none)))
     none)
    none)
   none)
  none))
set_option maxRecDepth 100000 in
set_option maxHeartbeats 4000000 in
theorem e4 (x0 : Int) (x1 x2 : Nat) (x3 : List (List Int)) : evFn Try.prog ext T45 noL 200 Try.f4 [wsl 0, .int .i64 x0, .float .f32 x1, .float .f32 x2] ⟨[⟨false, (some (.tab sc0 x3))⟩], 1, []⟩ = firstT [((Nat.beq ((r4 x0 x1 x2 x3).1) 0), .bool ((r4 x0 x1 x2 x3).2), ⟨[⟨false, (some (.tab sc0 x3))⟩], 1, []⟩)] :=
 (show evFn Try.prog ext T45 noL 200 Try.f4 [wsl 0, .int .i64 x0, .float .f32 x1, .float .f32 x2] ⟨[⟨false, (some (.tab sc0 x3))⟩], 1, []⟩ = w4 x0 x1 x2 x3 from by kernel_rfl).trans
 (show w4 x0 x1 x2 x3 = a4 x0 x1 x2 x3 (r4 x0 x1 x2 x3) from by unfold w4 r4; exact (cond_both (a4 x0 x1 x2 x3) _ (fun h0 => rfl) (fun h0 => (cond_both (a4 x0 x1 x2 x3) _ (fun h1 => (cond_both (a4 x0 x1 x2 x3) _ (fun h2 => (cond_t h1 (cond_both (a4 x0 x1 x2 x3) _ (fun h3 => (cond_both (a4 x0 x1 x2 x3) _ (fun h4 => rfl) (fun h4 => (cond_both (a4 x0 x1 x2 x3) _ (fun h5 => rfl) (fun h5 => (cond_t h1 (cond_app (a4 x0 x1 x2 x3) _ (cond_app (a4 x0 x1 x2 x3) _ rfl rfl) rfl))))))) (fun h3 => rfl)))) (fun h2 => rfl))) (fun h1 => rfl)))))
noncomputable def s4 (args : List Value) (s : St) : List (Bool × Value × St) :=
 match args, s.h with
 | [.iface f0 .nilIface, .int .i64 x0, .float .f32 x1, .float .f32 x2], [⟨false, some (.tab [.fl .f32, .fl .f32, .fl .f32, .fl .f32, .int .i64] x3)⟩] => if f0 = 0 then [((Nat.beq ((r4 x0 x1 x2 x3).1) 0), .bool ((r4 x0 x1 x2 x3).2), ⟨[⟨false, (some (.tab sc0 x3))⟩], 1, []⟩)] else T45 4 args s
 | _, _ => T45 4 args s
noncomputable def T46 : CallF := addF T45 4 s4
set_option maxRecDepth 100000 in
set_option maxHeartbeats 4000000 in
theorem ok46 : CfOk Try.prog T46 := by
  refine cfOk_add ok45 fun args s r s' h1 h2 h3 => ?_
  unfold s4 at h3; split at h3
  · rename_i h; split at h3
    · rename_i hc; obtain ⟨rfl⟩ := hc; exact callOk ok45 Try.func4 h1 h2 h (lfOkF_no _ _).body (e4 _ _ _ _) rfl h3
    · exact ok45 _ _ _ _ _ h1 h2 h3
  · exact ok45 _ _ _ _ _ h1 h2 h3
end Go.Proofs.Ytdpkbkmmlbmllaa
