/- What the functions that the statements reach answer, part 3. -/
import Derived.Test.YtdpkbkmmlbmllaaCd2
namespace Go.Proofs.Ytdpkbkmmlbmllaa
open Go.Ab
set_option maxHeartbeats 4000000
set_option maxRecDepth 100000

/-- spec.l03Number -/
noncomputable def r97 (x0 : Nat) : Nat × Int :=
 cond (!(r103 x0))
  (0, 4)
  (x0, 0)
noncomputable def a97 (x0 : Nat) (p : Nat × Int) : Res := firstT [(true, .tuple #[.float .f32 (p.1), .int .i64 (p.2)], st0)]
noncomputable def w97 (x0 : Nat) : Res :=
 (cond (!(r103 x0))
 (a97 x0 (0, 4))
 (a97 x0 (x0, 0)))
set_option maxRecDepth 100000 in
set_option maxHeartbeats 4000000 in
theorem e97 (x0 : Nat) : evFn Try.prog ext T46 noL 200 Try.f97 [.float .f32 x0] st0 = firstT [(true, .tuple #[.float .f32 ((r97 x0).1), .int .i64 ((r97 x0).2)], st0)] :=
 (show evFn Try.prog ext T46 noL 200 Try.f97 [.float .f32 x0] st0 = w97 x0 from by kernel_rfl).trans
 (show w97 x0 = a97 x0 (r97 x0) from by unfold w97 r97; exact (cond_app (a97 x0) _ rfl rfl))
noncomputable def s97 (args : List Value) (s : St) : List (Bool × Value × St) :=
 match args, s.h with
 | [.float .f32 x0], [] => [(true, .tuple #[.float .f32 ((r97 x0).1), .int .i64 ((r97 x0).2)], st0)]
 | _, _ => T46 97 args s
noncomputable def T47 : CallF := addF T46 97 s97
set_option maxRecDepth 100000 in
set_option maxHeartbeats 4000000 in
theorem ok47 : CfOk Try.prog T47 := by
  refine cfOk_add ok46 fun args s r s' h1 h2 h3 => ?_
  unfold s97 at h3; split at h3
  · rename_i h; exact callOk ok46 Try.func97 h1 h2 h (lfOkF_no _ _).body (e97 _) rfl h3
  · exact ok46 _ _ _ _ _ h1 h2 h3

/-- spec.l03Flows, loop 0: one round -/
noncomputable def b58l0 (ih : Nat → Nat → Int → List (List Int) → List (List Int) → (Nat × Int × Int × List (List Int) × List (List Int))) (x0 x1 : Nat) (x2 : Int) (x3 x4 : List (List Int)) : Nat × Int × Int × List (List Int) × List (List Int) :=
 cond (decide ((x2 : Int) < ((x3.length : Nat) : Int)))
  (cond ((decide ((0 : Int) ≤ x2)) && (Nat.blt (Int.toNat x2) x3.length))
   (cond ((((x3.getD (Int.toNat x2) []).getD 4 0) : Int) == (-1))
    (cond (Nat.beq ((r64 x2 x0 x1 x3).1) 0)
     (cond (Nat.beq ((r98 (Int.toNat x2) x0 (fsub .f32 ((r64 x2 x0 x1 x3).2) x1) x3).1) 0)
      (cond ((((r97 ((r98 (Int.toNat x2) x0 (fsub .f32 ((r64 x2 x0 x1 x3).2) x1) x3).2)).2) : Int) != 0)
       (0, ((r97 ((r98 (Int.toNat x2) x0 (fsub .f32 ((r64 x2 x0 x1 x3).2) x1) x3).2)).2), 0, [], [])
       (cond (Nat.ble ((x4.length + 1) * 5) 140737488355328)
        (cond (Nat.beq ((ih x0 x1 (IntKind.i64.wrap (x2 + 1)) x3 (((x4.drop 0).take x4.length) ++ ([[((((r97 ((r98 (Int.toNat x2) x0 (fsub .f32 ((r64 x2 x0 x1 x3).2) x1) x3).2)).1) : Nat) : Int)]] : List (List Int)))).1) 0)
         (1, 0, ((ih x0 x1 (IntKind.i64.wrap (x2 + 1)) x3 (((x4.drop 0).take x4.length) ++ ([[((((r97 ((r98 (Int.toNat x2) x0 (fsub .f32 ((r64 x2 x0 x1 x3).2) x1) x3).2)).1) : Nat) : Int)]] : List (List Int)))).2.1), (((x4.drop 0).take x4.length) ++ ([[((((r97 ((r98 (Int.toNat x2) x0 (fsub .f32 ((r64 x2 x0 x1 x3).2) x1) x3).2)).1) : Nat) : Int)]] : List (List Int))), [])
         (cond (Nat.beq ((ih x0 x1 (IntKind.i64.wrap (x2 + 1)) x3 (((x4.drop 0).take x4.length) ++ ([[((((r97 ((r98 (Int.toNat x2) x0 (fsub .f32 ((r64 x2 x0 x1 x3).2) x1) x3).2)).1) : Nat) : Int)]] : List (List Int)))).1) 1)
          (1, 0, ((ih x0 x1 (IntKind.i64.wrap (x2 + 1)) x3 (((x4.drop 0).take x4.length) ++ ([[((((r97 ((r98 (Int.toNat x2) x0 (fsub .f32 ((r64 x2 x0 x1 x3).2) x1) x3).2)).1) : Nat) : Int)]] : List (List Int)))).2.2.1), ((ih x0 x1 (IntKind.i64.wrap (x2 + 1)) x3 (((x4.drop 0).take x4.length) ++ ([[((((r97 ((r98 (Int.toNat x2) x0 (fsub .f32 ((r64 x2 x0 x1 x3).2) x1) x3).2)).1) : Nat) : Int)]] : List (List Int)))).2.2.2.1), [])
          (cond (Nat.beq ((ih x0 x1 (IntKind.i64.wrap (x2 + 1)) x3 (((x4.drop 0).take x4.length) ++ ([[((((r97 ((r98 (Int.toNat x2) x0 (fsub .f32 ((r64 x2 x0 x1 x3).2) x1) x3).2)).1) : Nat) : Int)]] : List (List Int)))).1) 2)
           (2, 0, 0, [], ((ih x0 x1 (IntKind.i64.wrap (x2 + 1)) x3 (((x4.drop 0).take x4.length) ++ ([[((((r97 ((r98 (Int.toNat x2) x0 (fsub .f32 ((r64 x2 x0 x1 x3).2) x1) x3).2)).1) : Nat) : Int)]] : List (List Int)))).2.2.2.2))
           (cond (Nat.beq ((ih x0 x1 (IntKind.i64.wrap (x2 + 1)) x3 (((x4.drop 0).take x4.length) ++ ([[((((r97 ((r98 (Int.toNat x2) x0 (fsub .f32 ((r64 x2 x0 x1 x3).2) x1) x3).2)).1) : Nat) : Int)]] : List (List Int)))).1) 3)
            (2, 0, 0, [], (((x4.drop 0).take x4.length) ++ ([[((((r97 ((r98 (Int.toNat x2) x0 (fsub .f32 ((r64 x2 x0 x1 x3).2) x1) x3).2)).1) : Nat) : Int)]] : List (List Int))))
            (4, 0, 0, [], [])))))
        (4, 0, 0, [], [])))
      (4, 0, 0, [], []))
     (4, 0, 0, [], []))
    (cond (Nat.beq ((r64 ((x3.getD (Int.toNat x2) []).getD 4 0) x0 x1 x3).1) 0)
     (cond (Nat.beq ((r98 (Int.toNat x2) x0 (fsub .f32 0 ((r64 ((x3.getD (Int.toNat x2) []).getD 4 0) x0 x1 x3).2)) x3).1) 0)
      (cond ((((r97 ((r98 (Int.toNat x2) x0 (fsub .f32 0 ((r64 ((x3.getD (Int.toNat x2) []).getD 4 0) x0 x1 x3).2)) x3).2)).2) : Int) != 0)
       (0, ((r97 ((r98 (Int.toNat x2) x0 (fsub .f32 0 ((r64 ((x3.getD (Int.toNat x2) []).getD 4 0) x0 x1 x3).2)) x3).2)).2), 0, [], [])
       (cond (Nat.ble ((x4.length + 1) * 5) 140737488355328)
        (cond (Nat.beq ((ih x0 x1 (IntKind.i64.wrap (x2 + 1)) x3 (((x4.drop 0).take x4.length) ++ ([[((((r97 ((r98 (Int.toNat x2) x0 (fsub .f32 0 ((r64 ((x3.getD (Int.toNat x2) []).getD 4 0) x0 x1 x3).2)) x3).2)).1) : Nat) : Int)]] : List (List Int)))).1) 0)
         (1, 0, ((ih x0 x1 (IntKind.i64.wrap (x2 + 1)) x3 (((x4.drop 0).take x4.length) ++ ([[((((r97 ((r98 (Int.toNat x2) x0 (fsub .f32 0 ((r64 ((x3.getD (Int.toNat x2) []).getD 4 0) x0 x1 x3).2)) x3).2)).1) : Nat) : Int)]] : List (List Int)))).2.1), (((x4.drop 0).take x4.length) ++ ([[((((r97 ((r98 (Int.toNat x2) x0 (fsub .f32 0 ((r64 ((x3.getD (Int.toNat x2) []).getD 4 0) x0 x1 x3).2)) x3).2)).1) : Nat) : Int)]] : List (List Int))), [])
         (cond (Nat.beq ((ih x0 x1 (IntKind.i64.wrap (x2 + 1)) x3 (((x4.drop 0).take x4.length) ++ ([[((((r97 ((r98 (Int.toNat x2) x0 (fsub .f32 0 ((r64 ((x3.getD (Int.toNat x2) []).getD 4 0) x0 x1 x3).2)) x3).2)).1) : Nat) : Int)]] : List (List Int)))).1) 1)
          (1, 0, ((ih x0 x1 (IntKind.i64.wrap (x2 + 1)) x3 (((x4.drop 0).take x4.length) ++ ([[((((r97 ((r98 (Int.toNat x2) x0 (fsub .f32 0 ((r64 ((x3.getD (Int.toNat x2) []).getD 4 0) x0 x1 x3).2)) x3).2)).1) : Nat) : Int)]] : List (List Int)))).2.2.1), ((ih x0 x1 (IntKind.i64.wrap (x2 + 1)) x3 (((x4.drop 0).take x4.length) ++ ([[((((r97 ((r98 (Int.toNat x2) x0 (fsub .f32 0 ((r64 ((x3.getD (Int.toNat x2) []).getD 4 0) x0 x1 x3).2)) x3).2)).1) : Nat) : Int)]] : List (List Int)))).2.2.2.1), [])
          (cond (Nat.beq ((ih x0 x1 (IntKind.i64.wrap (x2 + 1)) x3 (((x4.drop 0).take x4.length) ++ ([[((((r97 ((r98 (Int.toNat x2) x0 (fsub .f32 0 ((r64 ((x3.getD (Int.toNat x2) []).getD 4 0) x0 x1 x3).2)) x3).2)).1) : Nat) : Int)]] : List (List Int)))).1) 2)
           (2, 0, 0, [], ((ih x0 x1 (IntKind.i64.wrap (x2 + 1)) x3 (((x4.drop 0).take x4.length) ++ ([[((((r97 ((r98 (Int.toNat x2) x0 (fsub .f32 0 ((r64 ((x3.getD (Int.toNat x2) []).getD 4 0) x0 x1 x3).2)) x3).2)).1) : Nat) : Int)]] : List (List Int)))).2.2.2.2))
           (cond (Nat.beq ((ih x0 x1 (IntKind.i64.wrap (x2 + 1)) x3 (((x4.drop 0).take x4.length) ++ ([[((((r97 ((r98 (Int.toNat x2) x0 (fsub .f32 0 ((r64 ((x3.getD (Int.toNat x2) []).getD 4 0) x0 x1 x3).2)) x3).2)).1) : Nat) : Int)]] : List (List Int)))).1) 3)
            (2, 0, 0, [], (((x4.drop 0).take x4.length) ++ ([[((((r97 ((r98 (Int.toNat x2) x0 (fsub .f32 0 ((r64 ((x3.getD (Int.toNat x2) []).getD 4 0) x0 x1 x3).2)) x3).2)).1) : Nat) : Int)]] : List (List Int))))
            (4, 0, 0, [], [])))))
        (4, 0, 0, [], [])))
      (4, 0, 0, [], []))
     (4, 0, 0, [], [])))
   (4, 0, 0, [], []))
  (3, 0, 0, [], [])
noncomputable def r58l0 : Nat → Nat → Nat → Int → List (List Int) → List (List Int) → (Nat × Int × Int × List (List Int) × List (List Int))
 | 0 => fun _ _ _ _ _ => (4, 0, 0, [], [])
 | m + 1 => b58l0 (r58l0 m)
noncomputable def a58l0 (x0 x1 : Nat) (x2 : Int) (x3 x4 : List (List Int)) (p : Nat × Int × Int × List (List Int) × List (List Int)) : Option (Fin' × List Value × St) := firstT ([((Nat.beq (p.1) 0), .ret, [wsl 2, .int .i64 (p.2.1), wsl 1], ⟨[⟨true, (some (.tab sc0 x3))⟩, ⟨true, (some (.tab [.fl .f32] x4))⟩, ⟨true, (some (.tab [.fl .f32] ([] : List (List Int))))⟩], 2, [1]⟩), ((Nat.beq (p.1) 1), .ret, [wsl 2, .int .i64 (p.2.2.1), wsl 3], ⟨[⟨true, (some (.tab sc0 x3))⟩, ⟨true, none⟩, ⟨true, (some (.tab [.fl .f32] ([] : List (List Int))))⟩, ⟨true, (some (.tab [.fl .f32] (p.2.2.2.1)))⟩], 2, [1]⟩), ((Nat.beq (p.1) 2), .exit 0, [anyV, anyV, wsl 2], ⟨[⟨true, (some (.tab sc0 x3))⟩, ⟨true, none⟩, ⟨true, (some (.tab [.fl .f32] (p.2.2.2.2)))⟩], 2, [1]⟩), ((Nat.beq (p.1) 3), .exit 0, [anyV, anyV, wsl 1], ⟨[⟨true, (some (.tab sc0 x3))⟩, ⟨true, (some (.tab [.fl .f32] x4))⟩], 2, [1]⟩)].map fun (b, x) => (b, (x.1, frameOf 62 [6, 7, 8] x.2.1, x.2.2)))
noncomputable def u58l0 (x0 x1 : Nat) (x2 : Int) (x3 x4 : List (List Int)) (p : Nat × Int × Int × List (List Int) × List (List Int)) : Option (Fin' × List Value × St) := alts ([((Nat.beq (p.1) 0), .ret, [wsl 2, .int .i64 (p.2.1), wsl 1], ⟨[⟨true, (some (.tab sc0 x3))⟩, ⟨true, (some (.tab [.fl .f32] x4))⟩, ⟨true, (some (.tab [.fl .f32] ([] : List (List Int))))⟩], 2, [1]⟩), ((Nat.beq (p.1) 1), .ret, [wsl 2, .int .i64 (p.2.2.1), wsl 3], ⟨[⟨true, (some (.tab sc0 x3))⟩, ⟨true, none⟩, ⟨true, (some (.tab [.fl .f32] ([] : List (List Int))))⟩, ⟨true, (some (.tab [.fl .f32] (p.2.2.2.1)))⟩], 2, [1]⟩), ((Nat.beq (p.1) 2), .exit 0, [anyV, anyV, wsl 2], ⟨[⟨true, (some (.tab sc0 x3))⟩, ⟨true, none⟩, ⟨true, (some (.tab [.fl .f32] (p.2.2.2.2)))⟩], 2, [1]⟩), ((Nat.beq (p.1) 3), .exit 0, [anyV, anyV, wsl 1], ⟨[⟨true, (some (.tab sc0 x3))⟩, ⟨true, (some (.tab [.fl .f32] x4))⟩], 2, [1]⟩)].map fun (b, x) => (b, (x.1, frameOf 62 [6, 7, 8] x.2.1, x.2.2))) some
theorem v58l0 (x0 x1 : Nat) (x2 : Int) (x3 x4 : List (List Int)) (p : Nat × Int × Int × List (List Int) × List (List Int)) : u58l0 x0 x1 x2 x3 x4 p = a58l0 x0 x1 x2 x3 x4 p := alts_first _
noncomputable def q58l0 (m : Nat) : SumK := fun vals s =>
 match vals, s.h with
 | [.iface f0 .nilIface, .float .f32 x0, .float .f32 x1, .iface f1 .nilIface, .int .i64 x2], [⟨true, some (.tab [.fl .f32, .fl .f32, .fl .f32, .fl .f32, .int .i64] x3)⟩, ⟨true, some (.tab [.fl .f32] x4)⟩] => if f0 = 0 ∧ f1 = 1 then [((Nat.beq ((r58l0 m x0 x1 x2 x3 x4).1) 0), .ret, [wsl 2, .int .i64 ((r58l0 m x0 x1 x2 x3 x4).2.1), wsl 1], ⟨[⟨true, (some (.tab sc0 x3))⟩, ⟨true, (some (.tab [.fl .f32] x4))⟩, ⟨true, (some (.tab [.fl .f32] ([] : List (List Int))))⟩], 2, [1]⟩), ((Nat.beq ((r58l0 m x0 x1 x2 x3 x4).1) 1), .ret, [wsl 2, .int .i64 ((r58l0 m x0 x1 x2 x3 x4).2.2.1), wsl 3], ⟨[⟨true, (some (.tab sc0 x3))⟩, ⟨true, none⟩, ⟨true, (some (.tab [.fl .f32] ([] : List (List Int))))⟩, ⟨true, (some (.tab [.fl .f32] ((r58l0 m x0 x1 x2 x3 x4).2.2.2.1)))⟩], 2, [1]⟩), ((Nat.beq ((r58l0 m x0 x1 x2 x3 x4).1) 2), .exit 0, [anyV, anyV, wsl 2], ⟨[⟨true, (some (.tab sc0 x3))⟩, ⟨true, none⟩, ⟨true, (some (.tab [.fl .f32] ((r58l0 m x0 x1 x2 x3 x4).2.2.2.2)))⟩], 2, [1]⟩), ((Nat.beq ((r58l0 m x0 x1 x2 x3 x4).1) 3), .exit 0, [anyV, anyV, wsl 1], ⟨[⟨true, (some (.tab sc0 x3))⟩, ⟨true, (some (.tab [.fl .f32] x4))⟩], 2, [1]⟩)] else noQ vals s
 | _, _ => noQ vals s
noncomputable def w58l0 (ih : Nat → Nat → Int → List (List Int) → List (List Int) → (Nat × Int × Int × List (List Int) × List (List Int))) (x0 x1 : Nat) (x2 : Int) (x3 x4 : List (List Int)) : Option (Fin' × List Value × St) :=
 (cond (decide ((x2 : Int) < ((x3.length : Nat) : Int)))
 (cond ((decide ((0 : Int) ≤ x2)) && (Nat.blt (Int.toNat x2) x3.length))
  (cond (Nat.blt (Int.toNat x2) x3.length)
   (cond ((((x3.getD (Int.toNat x2) []).getD 4 0) : Int) == (-1))
    (cond (Nat.beq ((r64 x2 x0 x1 x3).1) 0)
     (cond ((decide ((0 : Int) ≤ x2)) && (Nat.blt (Int.toNat x2) x3.length))
      (cond (Nat.beq ((r98 (Int.toNat x2) x0 (fsub .f32 ((r64 x2 x0 x1 x3).2) x1) x3).1) 0)
       (cond ((((r97 ((r98 (Int.toNat x2) x0 (fsub .f32 ((r64 x2 x0 x1 x3).2) x1) x3).2)).2) : Int) != 0)
        (a58l0 x0 x1 x2 x3 x4 (0, ((r97 ((r98 (Int.toNat x2) x0 (fsub .f32 ((r64 x2 x0 x1 x3).2) x1) x3).2)).2), 0, [], []))
        (cond (Nat.ble ((x4.length + 1) * 5) 140737488355328)
         (cond (Nat.beq ((ih x0 x1 (IntKind.i64.wrap (x2 + 1)) x3 (((x4.drop 0).take x4.length) ++ ([[((((r97 ((r98 (Int.toNat x2) x0 (fsub .f32 ((r64 x2 x0 x1 x3).2) x1) x3).2)).1) : Nat) : Int)]] : List (List Int)))).1) 0)
          (a58l0 x0 x1 x2 x3 x4 (1, 0, ((ih x0 x1 (IntKind.i64.wrap (x2 + 1)) x3 (((x4.drop 0).take x4.length) ++ ([[((((r97 ((r98 (Int.toNat x2) x0 (fsub .f32 ((r64 x2 x0 x1 x3).2) x1) x3).2)).1) : Nat) : Int)]] : List (List Int)))).2.1), (((x4.drop 0).take x4.length) ++ ([[((((r97 ((r98 (Int.toNat x2) x0 (fsub .f32 ((r64 x2 x0 x1 x3).2) x1) x3).2)).1) : Nat) : Int)]] : List (List Int))), []))
          (cond (Nat.beq ((ih x0 x1 (IntKind.i64.wrap (x2 + 1)) x3 (((x4.drop 0).take x4.length) ++ ([[((((r97 ((r98 (Int.toNat x2) x0 (fsub .f32 ((r64 x2 x0 x1 x3).2) x1) x3).2)).1) : Nat) : Int)]] : List (List Int)))).1) 1)
           (a58l0 x0 x1 x2 x3 x4 (1, 0, ((ih x0 x1 (IntKind.i64.wrap (x2 + 1)) x3 (((x4.drop 0).take x4.length) ++ ([[((((r97 ((r98 (Int.toNat x2) x0 (fsub .f32 ((r64 x2 x0 x1 x3).2) x1) x3).2)).1) : Nat) : Int)]] : List (List Int)))).2.2.1), ((ih x0 x1 (IntKind.i64.wrap (x2 + 1)) x3 (((x4.drop 0).take x4.length) ++ ([[((((r97 ((r98 (Int.toNat x2) x0 (fsub .f32 ((r64 x2 x0 x1 x3).2) x1) x3).2)).1) : Nat) : Int)]] : List (List Int)))).2.2.2.1), []))
           (cond (Nat.beq ((ih x0 x1 (IntKind.i64.wrap (x2 + 1)) x3 (((x4.drop 0).take x4.length) ++ ([[((((r97 ((r98 (Int.toNat x2) x0 (fsub .f32 ((r64 x2 x0 x1 x3).2) x1) x3).2)).1) : Nat) : Int)]] : List (List Int)))).1) 2)
            (a58l0 x0 x1 x2 x3 x4 (2, 0, 0, [], ((ih x0 x1 (IntKind.i64.wrap (x2 + 1)) x3 (((x4.drop 0).take x4.length) ++ ([[((((r97 ((r98 (Int.toNat x2) x0 (fsub .f32 ((r64 x2 x0 x1 x3).2) x1) x3).2)).1) : Nat) : Int)]] : List (List Int)))).2.2.2.2)))
            (cond (Nat.beq ((ih x0 x1 (IntKind.i64.wrap (x2 + 1)) x3 (((x4.drop 0).take x4.length) ++ ([[((((r97 ((r98 (Int.toNat x2) x0 (fsub .f32 ((r64 x2 x0 x1 x3).2) x1) x3).2)).1) : Nat) : Int)]] : List (List Int)))).1) 3)
             (a58l0 x0 x1 x2 x3 x4 (2, 0, 0, [], (((x4.drop 0).take x4.length) ++ ([[((((r97 ((r98 (Int.toNat x2) x0 (fsub .f32 ((r64 x2 x0 x1 x3).2) x1) x3).2)).1) : Nat) : Int)]] : List (List Int)))))
             none))))
         none))
       none)
      none)
     none)
    (cond ((decide ((0 : Int) ≤ x2)) && (Nat.blt (Int.toNat x2) x3.length))
     (cond (Nat.blt (Int.toNat x2) x3.length)
      (cond (Nat.beq ((r64 ((x3.getD (Int.toNat x2) []).getD 4 0) x0 x1 x3).1) 0)
       (cond ((decide ((0 : Int) ≤ x2)) && (Nat.blt (Int.toNat x2) x3.length))
        (cond (Nat.beq ((r98 (Int.toNat x2) x0 (fsub .f32 0 ((r64 ((x3.getD (Int.toNat x2) []).getD 4 0) x0 x1 x3).2)) x3).1) 0)
         (cond ((((r97 ((r98 (Int.toNat x2) x0 (fsub .f32 0 ((r64 ((x3.getD (Int.toNat x2) []).getD 4 0) x0 x1 x3).2)) x3).2)).2) : Int) != 0)
          (a58l0 x0 x1 x2 x3 x4 (0, ((r97 ((r98 (Int.toNat x2) x0 (fsub .f32 0 ((r64 ((x3.getD (Int.toNat x2) []).getD 4 0) x0 x1 x3).2)) x3).2)).2), 0, [], []))
          (cond (Nat.ble ((x4.length + 1) * 5) 140737488355328)
           (cond (Nat.beq ((ih x0 x1 (IntKind.i64.wrap (x2 + 1)) x3 (((x4.drop 0).take x4.length) ++ ([[((((r97 ((r98 (Int.toNat x2) x0 (fsub .f32 0 ((r64 ((x3.getD (Int.toNat x2) []).getD 4 0) x0 x1 x3).2)) x3).2)).1) : Nat) : Int)]] : List (List Int)))).1) 0)
            (a58l0 x0 x1 x2 x3 x4 (1, 0, ((ih x0 x1 (IntKind.i64.wrap (x2 + 1)) x3 (((x4.drop 0).take x4.length) ++ ([[((((r97 ((r98 (Int.toNat x2) x0 (fsub .f32 0 ((r64 ((x3.getD (Int.toNat x2) []).getD 4 0) x0 x1 x3).2)) x3).2)).1) : Nat) : Int)]] : List (List Int)))).2.1), (((x4.drop 0).take x4.length) ++ ([[((((r97 ((r98 (Int.toNat x2) x0 (fsub .f32 0 ((r64 ((x3.getD (Int.toNat x2) []).getD 4 0) x0 x1 x3).2)) x3).2)).1) : Nat) : Int)]] : List (List Int))), []))
            (cond (Nat.beq ((ih x0 x1 (IntKind.i64.wrap (x2 + 1)) x3 (((x4.drop 0).take x4.length) ++ ([[((((r97 ((r98 (Int.toNat x2) x0 (fsub .f32 0 ((r64 ((x3.getD (Int.toNat x2) []).getD 4 0) x0 x1 x3).2)) x3).2)).1) : Nat) : Int)]] : List (List Int)))).1) 1)
             (a58l0 x0 x1 x2 x3 x4 (1, 0, ((ih x0 x1 (IntKind.i64.wrap (x2 + 1)) x3 (((x4.drop 0).take x4.length) ++ ([[((((r97 ((r98 (Int.toNat x2) x0 (fsub .f32 0 ((r64 ((x3.getD (Int.toNat x2) []).getD 4 0) x0 x1 x3).2)) x3).2)).1) : Nat) : Int)]] : List (List Int)))).2.2.1), ((ih x0 x1 (IntKind.i64.wrap (x2 + 1)) x3 (((x4.drop 0).take x4.length) ++ ([[((((r97 ((r98 (Int.toNat x2) x0 (fsub .f32 0 ((r64 ((x3.getD (Int.toNat x2) []).getD 4 0) x0 x1 x3).2)) x3).2)).1) : Nat) : Int)]] : List (List Int)))).2.2.2.1), []))
             (cond (Nat.beq ((ih x0 x1 (IntKind.i64.wrap (x2 + 1)) x3 (((x4.drop 0).take x4.length) ++ ([[((((r97 ((r98 (Int.toNat x2) x0 (fsub .f32 0 ((r64 ((x3.getD (Int.toNat x2) []).getD 4 0) x0 x1 x3).2)) x3).2)).1) : Nat) : Int)]] : List (List Int)))).1) 2)
              (a58l0 x0 x1 x2 x3 x4 (2, 0, 0, [], ((ih x0 x1 (IntKind.i64.wrap (x2 + 1)) x3 (((x4.drop 0).take x4.length) ++ ([[((((r97 ((r98 (Int.toNat x2) x0 (fsub .f32 0 ((r64 ((x3.getD (Int.toNat x2) []).getD 4 0) x0 x1 x3).2)) x3).2)).1) : Nat) : Int)]] : List (List Int)))).2.2.2.2)))
              (cond (Nat.beq ((ih x0 x1 (IntKind.i64.wrap (x2 + 1)) x3 (((x4.drop 0).take x4.length) ++ ([[((((r97 ((r98 (Int.toNat x2) x0 (fsub .f32 0 ((r64 ((x3.getD (Int.toNat x2) []).getD 4 0) x0 x1 x3).2)) x3).2)).1) : Nat) : Int)]] : List (List Int)))).1) 3)
               (a58l0 x0 x1 x2 x3 x4 (2, 0, 0, [], (((x4.drop 0).take x4.length) ++ ([[((((r97 ((r98 (Int.toNat x2) x0 (fsub .f32 0 ((r64 ((x3.getD (Int.toNat x2) []).getD 4 0) x0 x1 x3).2)) x3).2)).1) : Nat) : Int)]] : List (List Int)))))
               none))))
           none))
         none)
        none)
       none)
      none)
     none))
   none)
  none)
 (a58l0 x0 x1 x2 x3 x4 (3, 0, 0, [], [])))
set_option maxRecDepth 100000 in
set_option maxHeartbeats 4000000 in
theorem e58l0 (m : Nat) (x0 x1 : Nat) (x2 : Int) (x3 x4 : List (List Int)) : evC Try.prog ext T47 noL 200 (loopN Try.f58 0) (loopTail ([0, 1, 2, 8, 9], []) [6, 7, 8] [1] (sumK 62 [0, 1, 2, 8, 9] [6, 7, 8] (q58l0 m))) (frameOf 62 [0, 1, 2, 8, 9] [wsl 0, .float .f32 x0, .float .f32 x1, wsl 1, .int .i64 x2]) ⟨[⟨true, (some (.tab sc0 x3))⟩, ⟨true, (some (.tab [.fl .f32] x4))⟩], 2, []⟩ = firstT ([((Nat.beq ((r58l0 (m + 1) x0 x1 x2 x3 x4).1) 0), .ret, [wsl 2, .int .i64 ((r58l0 (m + 1) x0 x1 x2 x3 x4).2.1), wsl 1], ⟨[⟨true, (some (.tab sc0 x3))⟩, ⟨true, (some (.tab [.fl .f32] x4))⟩, ⟨true, (some (.tab [.fl .f32] ([] : List (List Int))))⟩], 2, [1]⟩), ((Nat.beq ((r58l0 (m + 1) x0 x1 x2 x3 x4).1) 1), .ret, [wsl 2, .int .i64 ((r58l0 (m + 1) x0 x1 x2 x3 x4).2.2.1), wsl 3], ⟨[⟨true, (some (.tab sc0 x3))⟩, ⟨true, none⟩, ⟨true, (some (.tab [.fl .f32] ([] : List (List Int))))⟩, ⟨true, (some (.tab [.fl .f32] ((r58l0 (m + 1) x0 x1 x2 x3 x4).2.2.2.1)))⟩], 2, [1]⟩), ((Nat.beq ((r58l0 (m + 1) x0 x1 x2 x3 x4).1) 2), .exit 0, [anyV, anyV, wsl 2], ⟨[⟨true, (some (.tab sc0 x3))⟩, ⟨true, none⟩, ⟨true, (some (.tab [.fl .f32] ((r58l0 (m + 1) x0 x1 x2 x3 x4).2.2.2.2)))⟩], 2, [1]⟩), ((Nat.beq ((r58l0 (m + 1) x0 x1 x2 x3 x4).1) 3), .exit 0, [anyV, anyV, wsl 1], ⟨[⟨true, (some (.tab sc0 x3))⟩, ⟨true, (some (.tab [.fl .f32] x4))⟩], 2, [1]⟩)].map fun (b, x) => (b, (x.1, frameOf 62 [6, 7, 8] x.2.1, x.2.2))) :=
 (show evC Try.prog ext T47 noL 200 (loopN Try.f58 0) (loopTail ([0, 1, 2, 8, 9], []) [6, 7, 8] [1] (sumK 62 [0, 1, 2, 8, 9] [6, 7, 8] (q58l0 m))) (frameOf 62 [0, 1, 2, 8, 9] [wsl 0, .float .f32 x0, .float .f32 x1, wsl 1, .int .i64 x2]) ⟨[⟨true, (some (.tab sc0 x3))⟩, ⟨true, (some (.tab [.fl .f32] x4))⟩], 2, []⟩ = w58l0 (r58l0 m) x0 x1 x2 x3 x4 from by kernel_rfl).trans
 (show w58l0 (r58l0 m) x0 x1 x2 x3 x4 = a58l0 x0 x1 x2 x3 x4 (r58l0 (m + 1) x0 x1 x2 x3 x4) from by unfold w58l0; show _ = a58l0 x0 x1 x2 x3 x4 (b58l0 (r58l0 m) x0 x1 x2 x3 x4); unfold b58l0; exact (cond_both (a58l0 x0 x1 x2 x3 x4) _ (fun h0 => (cond_both (a58l0 x0 x1 x2 x3 x4) _ (fun h1 => (cond_t (ev_and2 h1) (cond_both (a58l0 x0 x1 x2 x3 x4) _ (fun h2 => (cond_both (a58l0 x0 x1 x2 x3 x4) _ (fun h3 => (cond_t h1 (cond_app (a58l0 x0 x1 x2 x3 x4) _ (cond_app (a58l0 x0 x1 x2 x3 x4) _ rfl (cond_app (a58l0 x0 x1 x2 x3 x4) _ (cond_app (a58l0 x0 x1 x2 x3 x4) _ rfl (cond_app (a58l0 x0 x1 x2 x3 x4) _ rfl (cond_app (a58l0 x0 x1 x2 x3 x4) _ rfl (cond_app (a58l0 x0 x1 x2 x3 x4) _ rfl rfl)))) rfl)) rfl))) (fun h3 => rfl))) (fun h2 => (cond_t h1 (cond_t (ev_and2 h1) (cond_both (a58l0 x0 x1 x2 x3 x4) _ (fun h3 => (cond_t h1 (cond_app (a58l0 x0 x1 x2 x3 x4) _ (cond_app (a58l0 x0 x1 x2 x3 x4) _ rfl (cond_app (a58l0 x0 x1 x2 x3 x4) _ (cond_app (a58l0 x0 x1 x2 x3 x4) _ rfl (cond_app (a58l0 x0 x1 x2 x3 x4) _ rfl (cond_app (a58l0 x0 x1 x2 x3 x4) _ rfl (cond_app (a58l0 x0 x1 x2 x3 x4) _ rfl rfl)))) rfl)) rfl))) (fun h3 => rfl)))))))) (fun h1 => rfl))) (fun h0 => rfl)))
set_option maxRecDepth 100000 in
set_option maxHeartbeats 4000000 in
theorem qm58l0 : ∀ m, SumKOk Try.prog (loopN Try.f58 0) 62 [0, 1, 2, 8, 9] [6, 7, 8] (q58l0 m) := by
  intro m
  induction m with
  | zero =>
    intro vals s x h1 h2 h3
    unfold q58l0 at h3; split at h3
    · rename_i h; split at h3
      · rename_i hc; obtain ⟨rfl, rfl⟩ := hc; exact absurd h3 (by simp [r58l0, firstT, Nat.beq])
      · exact noQ_ok _ _ _ h1 h2 h3
    · exact noQ_ok _ _ _ h1 h2 h3
  | succ m ih =>
    intro vals s x h1 h2 h3
    unfold q58l0 at h3; split at h3
    · rename_i h; split at h3
      · rename_i hc; obtain ⟨rfl, rfl⟩ := hc; exact sum_step ok47 extOk mixed ((lfOkF_no _ _).inner (by kernel_rfl)) ih h1 h2 h (e58l0 m _ _ _ _ _) rfl h3
      · exact noQ_ok _ _ _ h1 h2 h3
    · exact noQ_ok _ _ _ h1 h2 h3
noncomputable def Q58l0 : SumK := fun vals s => q58l0 (fuelOf vals s.h) vals s
theorem qok58l0 : SumKOk Try.prog (loopN Try.f58 0) 62 [0, 1, 2, 8, 9] [6, 7, 8] Q58l0 := fuel_ok qm58l0 fuelOf
noncomputable def L58_1 : LoopT := addL noL 4 ([0, 1, 2, 8, 9], []) (sumK 62 [0, 1, 2, 8, 9] [6, 7, 8] Q58l0)
theorem lok58_1 : LfOkF Try.prog L58_1 Try.f58 := lfOkF_add (lfOkF_no _ _) qok58l0 (by kernel_rfl) (by kernel_rfl) (by kernel_rfl)

/-- spec.l03Flows -/
noncomputable def r58 (x0 x1 : Nat) (x2 : List (List Int)) : Nat × Int × List (List Int) :=
 cond (Nat.beq ((r58l0 (1000 + 0 + x2.length) x0 x1 0 x2 ([] : List (List Int))).1) 0)
  (0, ((r58l0 (1000 + 0 + x2.length) x0 x1 0 x2 ([] : List (List Int))).2.1), ([] : List (List Int)))
  (cond (Nat.beq ((r58l0 (1000 + 0 + x2.length) x0 x1 0 x2 ([] : List (List Int))).1) 1)
   (0, ((r58l0 (1000 + 0 + x2.length) x0 x1 0 x2 ([] : List (List Int))).2.2.1), ([] : List (List Int)))
   (cond (Nat.beq ((r58l0 (1000 + 0 + x2.length) x0 x1 0 x2 ([] : List (List Int))).1) 2)
    (0, 0, ((r58l0 (1000 + 0 + x2.length) x0 x1 0 x2 ([] : List (List Int))).2.2.2.2))
    (cond (Nat.beq ((r58l0 (1000 + 0 + x2.length) x0 x1 0 x2 ([] : List (List Int))).1) 3)
     (0, 0, ([] : List (List Int)))
     (1, 0, []))))
noncomputable def a58 (x0 x1 : Nat) (x2 : List (List Int)) (p : Nat × Int × List (List Int)) : Res := firstT [((Nat.beq (p.1) 0), .tuple #[wsl 1, .int .i64 (p.2.1)], ⟨[⟨true, (some (.tab sc0 x2))⟩, ⟨true, (some (.tab [.fl .f32] (p.2.2)))⟩], 1, []⟩)]
noncomputable def w58 (x0 x1 : Nat) (x2 : List (List Int)) : Res :=
 (cond (Nat.beq ((r58l0 (1000 + 0 + x2.length) x0 x1 0 x2 ([] : List (List Int))).1) 0)
 (a58 x0 x1 x2 (0, ((r58l0 (1000 + 0 + x2.length) x0 x1 0 x2 ([] : List (List Int))).2.1), ([] : List (List Int))))
 (cond (Nat.beq ((r58l0 (1000 + 0 + x2.length) x0 x1 0 x2 ([] : List (List Int))).1) 1)
  (a58 x0 x1 x2 (0, ((r58l0 (1000 + 0 + x2.length) x0 x1 0 x2 ([] : List (List Int))).2.2.1), ([] : List (List Int))))
  (cond (Nat.beq ((r58l0 (1000 + 0 + x2.length) x0 x1 0 x2 ([] : List (List Int))).1) 2)
   (a58 x0 x1 x2 (0, 0, ((r58l0 (1000 + 0 + x2.length) x0 x1 0 x2 ([] : List (List Int))).2.2.2.2)))
   (cond (Nat.beq ((r58l0 (1000 + 0 + x2.length) x0 x1 0 x2 ([] : List (List Int))).1) 3)
    (a58 x0 x1 x2 (0, 0, ([] : List (List Int))))
    none))))
set_option maxRecDepth 100000 in
set_option maxHeartbeats 4000000 in
theorem e58 (x0 x1 : Nat) (x2 : List (List Int)) : evFn Try.prog ext T47 L58_1 200 Try.f58 [wsl 0, .float .f32 x0, .float .f32 x1] ⟨[⟨true, (some (.tab sc0 x2))⟩], 1, []⟩ = firstT [((Nat.beq ((r58 x0 x1 x2).1) 0), .tuple #[wsl 1, .int .i64 ((r58 x0 x1 x2).2.1)], ⟨[⟨true, (some (.tab sc0 x2))⟩, ⟨true, (some (.tab [.fl .f32] ((r58 x0 x1 x2).2.2)))⟩], 1, []⟩)] :=
 (show evFn Try.prog ext T47 L58_1 200 Try.f58 [wsl 0, .float .f32 x0, .float .f32 x1] ⟨[⟨true, (some (.tab sc0 x2))⟩], 1, []⟩ = w58 x0 x1 x2 from by kernel_rfl).trans
 (show w58 x0 x1 x2 = a58 x0 x1 x2 (r58 x0 x1 x2) from by unfold w58 r58; exact (cond_app (a58 x0 x1 x2) _ rfl (cond_app (a58 x0 x1 x2) _ rfl (cond_app (a58 x0 x1 x2) _ rfl (cond_app (a58 x0 x1 x2) _ rfl rfl)))))
noncomputable def s58 (args : List Value) (s : St) : List (Bool × Value × St) :=
 match args, s.h with
 | [.iface f0 .nilIface, .float .f32 x0, .float .f32 x1], [⟨true, some (.tab [.fl .f32, .fl .f32, .fl .f32, .fl .f32, .int .i64] x2)⟩] => if f0 = 0 then [((Nat.beq ((r58 x0 x1 x2).1) 0), .tuple #[wsl 1, .int .i64 ((r58 x0 x1 x2).2.1)], ⟨[⟨true, (some (.tab sc0 x2))⟩, ⟨true, (some (.tab [.fl .f32] ((r58 x0 x1 x2).2.2)))⟩], 1, []⟩)] else T47 58 args s
 | _, _ => T47 58 args s
noncomputable def T48 : CallF := addF T47 58 s58
set_option maxRecDepth 100000 in
set_option maxHeartbeats 4000000 in
theorem ok48 : CfOk Try.prog T48 := by
  refine cfOk_add ok47 fun args s r s' h1 h2 h3 => ?_
  unfold s58 at h3; split at h3
  · rename_i h; split at h3
    · rename_i hc; obtain ⟨rfl⟩ := hc; exact callOk ok47 Try.func58 h1 h2 h lok58_1.body (e58 _ _ _) rfl h3
    · exact ok47 _ _ _ _ _ h1 h2 h3
  · exact ok47 _ _ _ _ _ h1 h2 h3

/-- spec.FlowsOf -/
noncomputable def r16 (x0 x1 : Nat) (x2 : List (List Int)) : Nat × Int × List (List Int) :=
 cond (Nat.beq ((r57 x0 x1 x2).1) 0)
  (cond ((((r57 x0 x1 x2).2) : Int) != 0)
   (0, ((r57 x0 x1 x2).2), ([] : List (List Int)))
   (cond (Nat.beq ((r58 x0 x1 x2).1) 0)
    (0, ((r58 x0 x1 x2).2.1), ((r58 x0 x1 x2).2.2))
    (1, 0, [])))
  (1, 0, [])
noncomputable def a16 (x0 x1 : Nat) (x2 : List (List Int)) (p : Nat × Int × List (List Int)) : Res := firstT [((Nat.beq (p.1) 0), .tuple #[wsl 1, .int .i64 (p.2.1)], ⟨[⟨true, (some (.tab sc0 x2))⟩, ⟨true, (some (.tab [.fl .f32] (p.2.2)))⟩], 1, []⟩)]
noncomputable def w16 (x0 x1 : Nat) (x2 : List (List Int)) : Res :=
 (cond (Nat.beq ((r57 x0 x1 x2).1) 0)
 (cond ((((r57 x0 x1 x2).2) : Int) != 0)
  (a16 x0 x1 x2 (0, ((r57 x0 x1 x2).2), ([] : List (List Int))))
  (cond (Nat.beq ((r58 x0 x1 x2).1) 0)
   (a16 x0 x1 x2 (0, ((r58 x0 x1 x2).2.1), ((r58 x0 x1 x2).2.2)))
   none))
 none)
set_option maxRecDepth 100000 in
set_option maxHeartbeats 4000000 in
theorem e16 (x0 x1 : Nat) (x2 : List (List Int)) : evFn Try.prog ext T48 noL 200 Try.f16 [wsl 0, .float .f32 x0, .float .f32 x1] ⟨[⟨true, (some (.tab sc0 x2))⟩], 1, []⟩ = firstT [((Nat.beq ((r16 x0 x1 x2).1) 0), .tuple #[wsl 1, .int .i64 ((r16 x0 x1 x2).2.1)], ⟨[⟨true, (some (.tab sc0 x2))⟩, ⟨true, (some (.tab [.fl .f32] ((r16 x0 x1 x2).2.2)))⟩], 1, []⟩)] :=
 (show evFn Try.prog ext T48 noL 200 Try.f16 [wsl 0, .float .f32 x0, .float .f32 x1] ⟨[⟨true, (some (.tab sc0 x2))⟩], 1, []⟩ = w16 x0 x1 x2 from by kernel_rfl).trans
 (show w16 x0 x1 x2 = a16 x0 x1 x2 (r16 x0 x1 x2) from by unfold w16 r16; exact (cond_app (a16 x0 x1 x2) _ (cond_app (a16 x0 x1 x2) _ rfl (cond_app (a16 x0 x1 x2) _ rfl rfl)) rfl))
noncomputable def s16 (args : List Value) (s : St) : List (Bool × Value × St) :=
 match args, s.h with
 | [.iface f0 .nilIface, .float .f32 x0, .float .f32 x1], [⟨true, some (.tab [.fl .f32, .fl .f32, .fl .f32, .fl .f32, .int .i64] x2)⟩] => if f0 = 0 then [((Nat.beq ((r16 x0 x1 x2).1) 0), .tuple #[wsl 1, .int .i64 ((r16 x0 x1 x2).2.1)], ⟨[⟨true, (some (.tab sc0 x2))⟩, ⟨true, (some (.tab [.fl .f32] ((r16 x0 x1 x2).2.2)))⟩], 1, []⟩)] else T48 16 args s
 | _, _ => T48 16 args s
noncomputable def T49 : CallF := addF T48 16 s16
set_option maxRecDepth 100000 in
set_option maxHeartbeats 4000000 in
theorem ok49 : CfOk Try.prog T49 := by
  refine cfOk_add ok48 fun args s r s' h1 h2 h3 => ?_
  unfold s16 at h3; split at h3
  · rename_i h; split at h3
    · rename_i hc; obtain ⟨rfl⟩ := hc; exact callOk ok48 Try.func16 h1 h2 h (lfOkF_no _ _).body (e16 _ _ _) rfl h3
    · exact ok48 _ _ _ _ _ h1 h2 h3
  · exact ok48 _ _ _ _ _ h1 h2 h3

/-- impl.flowsOf, loop 0: one round -/
noncomputable def b55l0 (ih : Nat → Nat → Int → Int → List (List Int) → List (List Int) → (Nat × List (List Int))) (x0 x1 : Nat) (x2 x3 : Int) (x4 x5 : List (List Int)) : Nat × List (List Int) :=
 let c489 := (r93 (Int.toNat ((x4.getD (Int.toNat x3) []).getD 0 0)) (Int.toNat ((x4.getD (Int.toNat x3) []).getD 1 0)) (Int.toNat ((x4.getD (Int.toNat x3) []).getD 2 0)) (Int.toNat ((x4.getD (Int.toNat x3) []).getD 3 0)) ((x4.getD (Int.toNat x3) []).getD 4 0) x0 (fsub .f32 ((r62 x3 x0 x1 x4).2) x1))
 let c490 := (r93 (Int.toNat ((x4.getD (Int.toNat x3) []).getD 0 0)) (Int.toNat ((x4.getD (Int.toNat x3) []).getD 1 0)) (Int.toNat ((x4.getD (Int.toNat x3) []).getD 2 0)) (Int.toNat ((x4.getD (Int.toNat x3) []).getD 3 0)) ((x4.getD (Int.toNat x3) []).getD 4 0) x0 (fsub .f32 0 ((r62 ((x4.getD (Int.toNat x3) []).getD 4 0) x0 x1 x4).2)))
 cond (decide ((x3 : Int) < x2))
  (cond ((decide ((0 : Int) ≤ x3)) && (Nat.blt (Int.toNat x3) x4.length))
   (cond ((((x4.getD (Int.toNat x3) []).getD 4 0) : Int) == (-1))
    (cond (Nat.beq ((r62 x3 x0 x1 x4).1) 0)
     (cond (Nat.beq (c489.1) 0)
      (cond (Nat.ble ((x5.length + 1) * 5) 140737488355328)
       (cond (Nat.beq ((ih x0 x1 x2 (IntKind.i64.wrap (x3 + 1)) x4 (((x5.drop 0).take x5.length) ++ ([[(((c489.2) : Nat) : Int)]] : List (List Int)))).1) 0)
        (0, ((ih x0 x1 x2 (IntKind.i64.wrap (x3 + 1)) x4 (((x5.drop 0).take x5.length) ++ ([[(((c489.2) : Nat) : Int)]] : List (List Int)))).2))
        (cond (Nat.beq ((ih x0 x1 x2 (IntKind.i64.wrap (x3 + 1)) x4 (((x5.drop 0).take x5.length) ++ ([[(((c489.2) : Nat) : Int)]] : List (List Int)))).1) 1)
         (0, (((x5.drop 0).take x5.length) ++ ([[(((c489.2) : Nat) : Int)]] : List (List Int))))
         (2, [])))
       (2, []))
      (2, []))
     (2, []))
    (cond (Nat.beq ((r62 ((x4.getD (Int.toNat x3) []).getD 4 0) x0 x1 x4).1) 0)
     (cond (Nat.beq (c490.1) 0)
      (cond (Nat.ble ((x5.length + 1) * 5) 140737488355328)
       (cond (Nat.beq ((ih x0 x1 x2 (IntKind.i64.wrap (x3 + 1)) x4 (((x5.drop 0).take x5.length) ++ ([[(((c490.2) : Nat) : Int)]] : List (List Int)))).1) 0)
        (0, ((ih x0 x1 x2 (IntKind.i64.wrap (x3 + 1)) x4 (((x5.drop 0).take x5.length) ++ ([[(((c490.2) : Nat) : Int)]] : List (List Int)))).2))
        (cond (Nat.beq ((ih x0 x1 x2 (IntKind.i64.wrap (x3 + 1)) x4 (((x5.drop 0).take x5.length) ++ ([[(((c490.2) : Nat) : Int)]] : List (List Int)))).1) 1)
         (0, (((x5.drop 0).take x5.length) ++ ([[(((c490.2) : Nat) : Int)]] : List (List Int))))
         (2, [])))
       (2, []))
      (2, []))
     (2, [])))
   (2, []))
  (1, [])
noncomputable def r55l0 : Nat → Nat → Nat → Int → Int → List (List Int) → List (List Int) → (Nat × List (List Int))
 | 0 => fun _ _ _ _ _ _ => (2, [])
 | m + 1 => b55l0 (r55l0 m)
noncomputable def a55l0 (x0 x1 : Nat) (x2 x3 : Int) (x4 x5 : List (List Int)) (p : Nat × List (List Int)) : Option (Fin' × List Value × St) := firstT ([((Nat.beq (p.1) 0), .exit 0, [wsl 2], ⟨[⟨true, (some (.tab sc0 x4))⟩, ⟨true, none⟩, ⟨true, (some (.tab [.fl .f32] (p.2)))⟩], 2, [1]⟩), ((Nat.beq (p.1) 1), .exit 0, [wsl 1], ⟨[⟨true, (some (.tab sc0 x4))⟩, ⟨true, (some (.tab [.fl .f32] x5))⟩], 2, [1]⟩)].map fun (b, x) => (b, (x.1, frameOf 49 [7] x.2.1, x.2.2)))
noncomputable def u55l0 (x0 x1 : Nat) (x2 x3 : Int) (x4 x5 : List (List Int)) (p : Nat × List (List Int)) : Option (Fin' × List Value × St) := alts ([((Nat.beq (p.1) 0), .exit 0, [wsl 2], ⟨[⟨true, (some (.tab sc0 x4))⟩, ⟨true, none⟩, ⟨true, (some (.tab [.fl .f32] (p.2)))⟩], 2, [1]⟩), ((Nat.beq (p.1) 1), .exit 0, [wsl 1], ⟨[⟨true, (some (.tab sc0 x4))⟩, ⟨true, (some (.tab [.fl .f32] x5))⟩], 2, [1]⟩)].map fun (b, x) => (b, (x.1, frameOf 49 [7] x.2.1, x.2.2))) some
theorem v55l0 (x0 x1 : Nat) (x2 x3 : Int) (x4 x5 : List (List Int)) (p : Nat × List (List Int)) : u55l0 x0 x1 x2 x3 x4 x5 p = a55l0 x0 x1 x2 x3 x4 x5 p := alts_first _
noncomputable def q55l0 (m : Nat) : SumK := fun vals s =>
 match vals, s.h with
 | [.iface f0 .nilIface, .float .f32 x0, .float .f32 x1, .iface f1 .nilIface, .iface f2 .nilIface, .int .i64 x2, .int .i64 x3], [⟨true, some (.tab [.fl .f32, .fl .f32, .fl .f32, .fl .f32, .int .i64] x4)⟩, ⟨true, some (.tab [.fl .f32] x5)⟩] => if f0 = 0 ∧ f1 = 1 ∧ f2 = 0 then [((Nat.beq ((r55l0 m x0 x1 x2 x3 x4 x5).1) 0), .exit 0, [wsl 2], ⟨[⟨true, (some (.tab sc0 x4))⟩, ⟨true, none⟩, ⟨true, (some (.tab [.fl .f32] ((r55l0 m x0 x1 x2 x3 x4 x5).2)))⟩], 2, [1]⟩), ((Nat.beq ((r55l0 m x0 x1 x2 x3 x4 x5).1) 1), .exit 0, [wsl 1], ⟨[⟨true, (some (.tab sc0 x4))⟩, ⟨true, (some (.tab [.fl .f32] x5))⟩], 2, [1]⟩)] else noQ vals s
 | _, _ => noQ vals s
noncomputable def w55l0 (ih : Nat → Nat → Int → Int → List (List Int) → List (List Int) → (Nat × List (List Int))) (x0 x1 : Nat) (x2 x3 : Int) (x4 x5 : List (List Int)) : Option (Fin' × List Value × St) :=
 let c489 := (r93 (Int.toNat ((x4.getD (Int.toNat x3) []).getD 0 0)) (Int.toNat ((x4.getD (Int.toNat x3) []).getD 1 0)) (Int.toNat ((x4.getD (Int.toNat x3) []).getD 2 0)) (Int.toNat ((x4.getD (Int.toNat x3) []).getD 3 0)) ((x4.getD (Int.toNat x3) []).getD 4 0) x0 (fsub .f32 ((r62 x3 x0 x1 x4).2) x1))
 let c490 := (r93 (Int.toNat ((x4.getD (Int.toNat x3) []).getD 0 0)) (Int.toNat ((x4.getD (Int.toNat x3) []).getD 1 0)) (Int.toNat ((x4.getD (Int.toNat x3) []).getD 2 0)) (Int.toNat ((x4.getD (Int.toNat x3) []).getD 3 0)) ((x4.getD (Int.toNat x3) []).getD 4 0) x0 (fsub .f32 0 ((r62 ((x4.getD (Int.toNat x3) []).getD 4 0) x0 x1 x4).2)))
 (cond (decide ((x3 : Int) < x2))
 (cond ((decide ((0 : Int) ≤ x3)) && (Nat.blt (Int.toNat x3) x4.length))
  (cond (Nat.blt (Int.toNat x3) x4.length)
   (cond ((((x4.getD (Int.toNat x3) []).getD 4 0) : Int) == (-1))
    (cond (Nat.beq ((r62 x3 x0 x1 x4).1) 0)
     (cond (Nat.beq (c489.1) 0)
      (cond (Nat.ble ((x5.length + 1) * 5) 140737488355328)
       (cond (Nat.beq ((ih x0 x1 x2 (IntKind.i64.wrap (x3 + 1)) x4 (((x5.drop 0).take x5.length) ++ ([[(((c489.2) : Nat) : Int)]] : List (List Int)))).1) 0)
        (a55l0 x0 x1 x2 x3 x4 x5 (0, ((ih x0 x1 x2 (IntKind.i64.wrap (x3 + 1)) x4 (((x5.drop 0).take x5.length) ++ ([[(((c489.2) : Nat) : Int)]] : List (List Int)))).2)))
        (cond (Nat.beq ((ih x0 x1 x2 (IntKind.i64.wrap (x3 + 1)) x4 (((x5.drop 0).take x5.length) ++ ([[(((c489.2) : Nat) : Int)]] : List (List Int)))).1) 1)
         (a55l0 x0 x1 x2 x3 x4 x5 (0, (((x5.drop 0).take x5.length) ++ ([[(((c489.2) : Nat) : Int)]] : List (List Int)))))
         none))
       none)
      none)
     none)
    (cond (Nat.beq ((r62 ((x4.getD (Int.toNat x3) []).getD 4 0) x0 x1 x4).1) 0)
     (cond (Nat.beq (c490.1) 0)
      (cond (Nat.ble ((x5.length + 1) * 5) 140737488355328)
       (cond (Nat.beq ((ih x0 x1 x2 (IntKind.i64.wrap (x3 + 1)) x4 (((x5.drop 0).take x5.length) ++ ([[(((c490.2) : Nat) : Int)]] : List (List Int)))).1) 0)
        (a55l0 x0 x1 x2 x3 x4 x5 (0, ((ih x0 x1 x2 (IntKind.i64.wrap (x3 + 1)) x4 (((x5.drop 0).take x5.length) ++ ([[(((c490.2) : Nat) : Int)]] : List (List Int)))).2)))
        (cond (Nat.beq ((ih x0 x1 x2 (IntKind.i64.wrap (x3 + 1)) x4 (((x5.drop 0).take x5.length) ++ ([[(((c490.2) : Nat) : Int)]] : List (List Int)))).1) 1)
         (a55l0 x0 x1 x2 x3 x4 x5 (0, (((x5.drop 0).take x5.length) ++ ([[(((c490.2) : Nat) : Int)]] : List (List Int)))))
         none))
       none)
      none)
     none))
   none)
  none)
 (a55l0 x0 x1 x2 x3 x4 x5 (1, [])))
set_option maxRecDepth 100000 in
set_option maxHeartbeats 4000000 in
theorem e55l0 (m : Nat) (x0 x1 : Nat) (x2 x3 : Int) (x4 x5 : List (List Int)) : evC Try.prog ext T49 noL 200 (loopN Try.f55 0) (loopTail ([0, 1, 2, 7, 11, 12, 13], []) [7] [1] (sumK 49 [0, 1, 2, 7, 11, 12, 13] [7] (q55l0 m))) (frameOf 49 [0, 1, 2, 7, 11, 12, 13] [wsl 0, .float .f32 x0, .float .f32 x1, wsl 1, wsl 0, .int .i64 x2, .int .i64 x3]) ⟨[⟨true, (some (.tab sc0 x4))⟩, ⟨true, (some (.tab [.fl .f32] x5))⟩], 2, []⟩ = firstT ([((Nat.beq ((r55l0 (m + 1) x0 x1 x2 x3 x4 x5).1) 0), .exit 0, [wsl 2], ⟨[⟨true, (some (.tab sc0 x4))⟩, ⟨true, none⟩, ⟨true, (some (.tab [.fl .f32] ((r55l0 (m + 1) x0 x1 x2 x3 x4 x5).2)))⟩], 2, [1]⟩), ((Nat.beq ((r55l0 (m + 1) x0 x1 x2 x3 x4 x5).1) 1), .exit 0, [wsl 1], ⟨[⟨true, (some (.tab sc0 x4))⟩, ⟨true, (some (.tab [.fl .f32] x5))⟩], 2, [1]⟩)].map fun (b, x) => (b, (x.1, frameOf 49 [7] x.2.1, x.2.2))) :=
 (show evC Try.prog ext T49 noL 200 (loopN Try.f55 0) (loopTail ([0, 1, 2, 7, 11, 12, 13], []) [7] [1] (sumK 49 [0, 1, 2, 7, 11, 12, 13] [7] (q55l0 m))) (frameOf 49 [0, 1, 2, 7, 11, 12, 13] [wsl 0, .float .f32 x0, .float .f32 x1, wsl 1, wsl 0, .int .i64 x2, .int .i64 x3]) ⟨[⟨true, (some (.tab sc0 x4))⟩, ⟨true, (some (.tab [.fl .f32] x5))⟩], 2, []⟩ = w55l0 (r55l0 m) x0 x1 x2 x3 x4 x5 from by kernel_rfl).trans
 (show w55l0 (r55l0 m) x0 x1 x2 x3 x4 x5 = a55l0 x0 x1 x2 x3 x4 x5 (r55l0 (m + 1) x0 x1 x2 x3 x4 x5) from by unfold w55l0; show _ = a55l0 x0 x1 x2 x3 x4 x5 (b55l0 (r55l0 m) x0 x1 x2 x3 x4 x5); unfold b55l0; exact (cond_both (a55l0 x0 x1 x2 x3 x4 x5) _ (fun h0 => (cond_both (a55l0 x0 x1 x2 x3 x4 x5) _ (fun h1 => (cond_t (ev_and2 h1) (cond_app (a55l0 x0 x1 x2 x3 x4 x5) _ (cond_app (a55l0 x0 x1 x2 x3 x4 x5) _ (cond_app (a55l0 x0 x1 x2 x3 x4 x5) _ (cond_app (a55l0 x0 x1 x2 x3 x4 x5) _ (cond_app (a55l0 x0 x1 x2 x3 x4 x5) _ rfl (cond_app (a55l0 x0 x1 x2 x3 x4 x5) _ rfl rfl)) rfl) rfl) rfl) (cond_app (a55l0 x0 x1 x2 x3 x4 x5) _ (cond_app (a55l0 x0 x1 x2 x3 x4 x5) _ (cond_app (a55l0 x0 x1 x2 x3 x4 x5) _ (cond_app (a55l0 x0 x1 x2 x3 x4 x5) _ rfl (cond_app (a55l0 x0 x1 x2 x3 x4 x5) _ rfl rfl)) rfl) rfl) rfl)))) (fun h1 => rfl))) (fun h0 => rfl)))
set_option maxRecDepth 100000 in
set_option maxHeartbeats 4000000 in
theorem qm55l0 : ∀ m, SumKOk Try.prog (loopN Try.f55 0) 49 [0, 1, 2, 7, 11, 12, 13] [7] (q55l0 m) := by
  intro m
  induction m with
  | zero =>
    intro vals s x h1 h2 h3
    unfold q55l0 at h3; split at h3
    · rename_i h; split at h3
      · rename_i hc; obtain ⟨rfl, rfl, rfl⟩ := hc; exact absurd h3 (by simp [r55l0, firstT, Nat.beq])
      · exact noQ_ok _ _ _ h1 h2 h3
    · exact noQ_ok _ _ _ h1 h2 h3
  | succ m ih =>
    intro vals s x h1 h2 h3
    unfold q55l0 at h3; split at h3
    · rename_i h; split at h3
      · rename_i hc; obtain ⟨rfl, rfl, rfl⟩ := hc; exact sum_step ok49 extOk mixed ((lfOkF_no _ _).inner (by kernel_rfl)) ih h1 h2 h (e55l0 m _ _ _ _ _ _) rfl h3
      · exact noQ_ok _ _ _ h1 h2 h3
    · exact noQ_ok _ _ _ h1 h2 h3
noncomputable def Q55l0 : SumK := fun vals s => q55l0 (fuelOf vals s.h) vals s
theorem qok55l0 : SumKOk Try.prog (loopN Try.f55 0) 49 [0, 1, 2, 7, 11, 12, 13] [7] Q55l0 := fuel_ok qm55l0 fuelOf
noncomputable def L55_1 : LoopT := addL noL 4 ([0, 1, 2, 7, 11, 12, 13], []) (sumK 49 [0, 1, 2, 7, 11, 12, 13] [7] Q55l0)
theorem lok55_1 : LfOkF Try.prog L55_1 Try.f55 := lfOkF_add (lfOkF_no _ _) qok55l0 (by kernel_rfl) (by kernel_rfl) (by kernel_rfl)

/-- impl.flowsOf -/
noncomputable def r55 (x0 x1 : Nat) (x2 : List (List Int)) : Nat × List (List Int) :=
 cond (Nat.beq ((r55l0 (1000 + 0 + x2.length) x0 x1 ((x2.length : Nat) : Int) 0 x2 ([] : List (List Int))).1) 0)
  (0, ((r55l0 (1000 + 0 + x2.length) x0 x1 ((x2.length : Nat) : Int) 0 x2 ([] : List (List Int))).2))
  (cond (Nat.beq ((r55l0 (1000 + 0 + x2.length) x0 x1 ((x2.length : Nat) : Int) 0 x2 ([] : List (List Int))).1) 1)
   (0, ([] : List (List Int)))
   (1, []))
noncomputable def a55 (x0 x1 : Nat) (x2 : List (List Int)) (p : Nat × List (List Int)) : Res := firstT [((Nat.beq (p.1) 0), wsl 1, ⟨[⟨true, (some (.tab sc0 x2))⟩, ⟨true, (some (.tab [.fl .f32] (p.2)))⟩], 1, []⟩)]
noncomputable def w55 (x0 x1 : Nat) (x2 : List (List Int)) : Res :=
 (cond (Nat.beq ((r55l0 (1000 + 0 + x2.length) x0 x1 ((x2.length : Nat) : Int) 0 x2 ([] : List (List Int))).1) 0)
 (a55 x0 x1 x2 (0, ((r55l0 (1000 + 0 + x2.length) x0 x1 ((x2.length : Nat) : Int) 0 x2 ([] : List (List Int))).2)))
 (cond (Nat.beq ((r55l0 (1000 + 0 + x2.length) x0 x1 ((x2.length : Nat) : Int) 0 x2 ([] : List (List Int))).1) 1)
  (a55 x0 x1 x2 (0, ([] : List (List Int))))
  none))
set_option maxRecDepth 100000 in
set_option maxHeartbeats 4000000 in
theorem e55 (x0 x1 : Nat) (x2 : List (List Int)) : evFn Try.prog ext T49 L55_1 200 Try.f55 [wsl 0, .float .f32 x0, .float .f32 x1] ⟨[⟨true, (some (.tab sc0 x2))⟩], 1, []⟩ = firstT [((Nat.beq ((r55 x0 x1 x2).1) 0), wsl 1, ⟨[⟨true, (some (.tab sc0 x2))⟩, ⟨true, (some (.tab [.fl .f32] ((r55 x0 x1 x2).2)))⟩], 1, []⟩)] :=
 (show evFn Try.prog ext T49 L55_1 200 Try.f55 [wsl 0, .float .f32 x0, .float .f32 x1] ⟨[⟨true, (some (.tab sc0 x2))⟩], 1, []⟩ = w55 x0 x1 x2 from by kernel_rfl).trans
 (show w55 x0 x1 x2 = a55 x0 x1 x2 (r55 x0 x1 x2) from by unfold w55 r55; exact (cond_app (a55 x0 x1 x2) _ rfl (cond_app (a55 x0 x1 x2) _ rfl rfl)))
noncomputable def s55 (args : List Value) (s : St) : List (Bool × Value × St) :=
 match args, s.h with
 | [.iface f0 .nilIface, .float .f32 x0, .float .f32 x1], [⟨true, some (.tab [.fl .f32, .fl .f32, .fl .f32, .fl .f32, .int .i64] x2)⟩] => if f0 = 0 then [((Nat.beq ((r55 x0 x1 x2).1) 0), wsl 1, ⟨[⟨true, (some (.tab sc0 x2))⟩, ⟨true, (some (.tab [.fl .f32] ((r55 x0 x1 x2).2)))⟩], 1, []⟩)] else T49 55 args s
 | _, _ => T49 55 args s
noncomputable def T50 : CallF := addF T49 55 s55
set_option maxRecDepth 100000 in
set_option maxHeartbeats 4000000 in
theorem ok50 : CfOk Try.prog T50 := by
  refine cfOk_add ok49 fun args s r s' h1 h2 h3 => ?_
  unfold s55 at h3; split at h3
  · rename_i h; split at h3
    · rename_i hc; obtain ⟨rfl⟩ := hc; exact callOk ok49 Try.func55 h1 h2 h lok55_1.body (e55 _ _ _) rfl h3
    · exact ok49 _ _ _ _ _ h1 h2 h3
  · exact ok49 _ _ _ _ _ h1 h2 h3

/-- impl.isFinite, loop 0: one round -/
noncomputable def b56l0c (ih : Int → Int → List (List Int) → Nat) (x0 x1 : Int) (x2 : List (List Int)) : Nat :=
 cond (decide ((x1 : Int) < x0))
  (cond ((decide ((0 : Int) ≤ x1)) && (Nat.blt (Int.toNat x1) x2.length))
   (cond (r94 (widen (Int.toNat ((x2.getD (Int.toNat x1) []).getD 0 0))))
    (0)
    (cond (r95 (widen (Int.toNat ((x2.getD (Int.toNat x1) []).getD 0 0))) 0)
     (0)
     (ih x0 (IntKind.i64.wrap (x1 + 1)) x2)))
   (2))
  (1)
noncomputable def r56l0c : Nat → Int → Int → List (List Int) → Nat
 | 0 => fun _ _ _ => (2)
 | m + 1 => b56l0c (r56l0c m)
noncomputable def a56l0c (x0 x1 : Int) (x2 : List (List Int)) (p : Nat) : Option (Fin' × List Value × St) := firstT ([((Nat.beq p 0), .ret, [.bool false], ⟨[⟨true, (some (.tab [.fl .f32] x2))⟩], 1, []⟩), ((Nat.beq p 1), .exit 0, [anyV], ⟨[⟨true, (some (.tab [.fl .f32] x2))⟩], 1, []⟩)].map fun (b, x) => (b, (x.1, frameOf 20 [2] x.2.1, x.2.2)))
noncomputable def u56l0c (x0 x1 : Int) (x2 : List (List Int)) (p : Nat) : Option (Fin' × List Value × St) := alts ([((Nat.beq p 0), .ret, [.bool false], ⟨[⟨true, (some (.tab [.fl .f32] x2))⟩], 1, []⟩), ((Nat.beq p 1), .exit 0, [anyV], ⟨[⟨true, (some (.tab [.fl .f32] x2))⟩], 1, []⟩)].map fun (b, x) => (b, (x.1, frameOf 20 [2] x.2.1, x.2.2))) some
theorem v56l0c (x0 x1 : Int) (x2 : List (List Int)) (p : Nat) : u56l0c x0 x1 x2 p = a56l0c x0 x1 x2 p := alts_first _
noncomputable def q56l0c (m : Nat) : SumK := fun vals s =>
 match vals, s.h with
 | [.iface f0 .nilIface, .int .i64 x0, .int .i64 x1], [⟨true, some (.tab [.fl .f32] x2)⟩] => if f0 = 0 then [((Nat.beq (r56l0c m x0 x1 x2) 0), .ret, [.bool false], ⟨[⟨true, (some (.tab [.fl .f32] x2))⟩], 1, []⟩), ((Nat.beq (r56l0c m x0 x1 x2) 1), .exit 0, [anyV], ⟨[⟨true, (some (.tab [.fl .f32] x2))⟩], 1, []⟩)] else Q56l0b vals s
 | _, _ => Q56l0b vals s
noncomputable def w56l0c (ih : Int → Int → List (List Int) → Nat) (x0 x1 : Int) (x2 : List (List Int)) : Option (Fin' × List Value × St) :=
 (cond (decide ((x1 : Int) < x0))
 (cond ((decide ((0 : Int) ≤ x1)) && (Nat.blt (Int.toNat x1) x2.length))
  (cond (Nat.blt (Int.toNat x1) x2.length)
   (cond (r94 (widen (Int.toNat ((x2.getD (Int.toNat x1) []).getD 0 0))))
    (a56l0c x0 x1 x2 (0))
    (cond (r95 (widen (Int.toNat ((x2.getD (Int.toNat x1) []).getD 0 0))) 0)
     (a56l0c x0 x1 x2 (0))
     (u56l0c x0 x1 x2 (ih x0 (IntKind.i64.wrap (x1 + 1)) x2))))
   none)
  none)
 (a56l0c x0 x1 x2 (1)))
set_option maxRecDepth 100000 in
set_option maxHeartbeats 4000000 in
theorem e56l0c (m : Nat) (x0 x1 : Int) (x2 : List (List Int)) : evC Try.prog ext T50 L56_2 200 (loopN Try.f56 0) (loopTail ([5, 6, 7], []) [2] [] (sumK 20 [5, 6, 7] [2] (q56l0c m))) (frameOf 20 [5, 6, 7] [wsl 0, .int .i64 x0, .int .i64 x1]) ⟨[⟨true, (some (.tab [.fl .f32] x2))⟩], 1, []⟩ = firstT ([((Nat.beq (r56l0c (m + 1) x0 x1 x2) 0), .ret, [.bool false], ⟨[⟨true, (some (.tab [.fl .f32] x2))⟩], 1, []⟩), ((Nat.beq (r56l0c (m + 1) x0 x1 x2) 1), .exit 0, [anyV], ⟨[⟨true, (some (.tab [.fl .f32] x2))⟩], 1, []⟩)].map fun (b, x) => (b, (x.1, frameOf 20 [2] x.2.1, x.2.2))) :=
 (show evC Try.prog ext T50 L56_2 200 (loopN Try.f56 0) (loopTail ([5, 6, 7], []) [2] [] (sumK 20 [5, 6, 7] [2] (q56l0c m))) (frameOf 20 [5, 6, 7] [wsl 0, .int .i64 x0, .int .i64 x1]) ⟨[⟨true, (some (.tab [.fl .f32] x2))⟩], 1, []⟩ = w56l0c (r56l0c m) x0 x1 x2 from by kernel_rfl).trans
 (show w56l0c (r56l0c m) x0 x1 x2 = a56l0c x0 x1 x2 (r56l0c (m + 1) x0 x1 x2) from by unfold w56l0c; show _ = a56l0c x0 x1 x2 (b56l0c (r56l0c m) x0 x1 x2); unfold b56l0c; exact (cond_both (a56l0c x0 x1 x2) _ (fun h0 => (cond_both (a56l0c x0 x1 x2) _ (fun h1 => (cond_t (ev_and2 h1) (cond_app (a56l0c x0 x1 x2) _ rfl (cond_app (a56l0c x0 x1 x2) _ rfl (v56l0c x0 x1 x2 ((r56l0c m) x0 (IntKind.i64.wrap (x1 + 1)) x2)))))) (fun h1 => rfl))) (fun h0 => rfl)))
set_option maxRecDepth 100000 in
set_option maxHeartbeats 4000000 in
theorem qm56l0c : ∀ m, SumKOk Try.prog (loopN Try.f56 0) 20 [5, 6, 7] [2] (q56l0c m) := by
  intro m
  induction m with
  | zero =>
    intro vals s x h1 h2 h3
    unfold q56l0c at h3; split at h3
    · rename_i h; split at h3
      · rename_i hc; obtain ⟨rfl⟩ := hc; exact absurd h3 (by simp [r56l0c, firstT, Nat.beq])
      · exact qok56l0b _ _ _ h1 h2 h3
    · exact qok56l0b _ _ _ h1 h2 h3
  | succ m ih =>
    intro vals s x h1 h2 h3
    unfold q56l0c at h3; split at h3
    · rename_i h; split at h3
      · rename_i hc; obtain ⟨rfl⟩ := hc; exact sum_step ok50 extOk mixed (lok56_2.inner (by kernel_rfl)) ih h1 h2 h (e56l0c m _ _ _) rfl h3
      · exact qok56l0b _ _ _ h1 h2 h3
    · exact qok56l0b _ _ _ h1 h2 h3
noncomputable def Q56l0c : SumK := fun vals s => q56l0c (fuelOf vals s.h) vals s
theorem qok56l0c : SumKOk Try.prog (loopN Try.f56 0) 20 [5, 6, 7] [2] Q56l0c := fuel_ok qm56l0c fuelOf
noncomputable def L56_3 : LoopT := addL L56_2 3 ([5, 6, 7], []) (sumK 20 [5, 6, 7] [2] Q56l0c)
theorem lok56_3 : LfOkF Try.prog L56_3 Try.f56 := lfOkF_add lok56_2 qok56l0c (by kernel_rfl) (by kernel_rfl) (by kernel_rfl)

/-- impl.isFinite -/
noncomputable def r56b (x0 : List (List Int)) : Nat × Bool :=
 cond (Nat.beq (r56l0c (1000 + x0.length) ((x0.length : Nat) : Int) 0 x0) 0)
  (0, false)
  (cond (Nat.beq (r56l0c (1000 + x0.length) ((x0.length : Nat) : Int) 0 x0) 1)
   (0, true)
   (1, false))
noncomputable def a56b (x0 : List (List Int)) (p : Nat × Bool) : Res := firstT [((Nat.beq (p.1) 0), .bool (p.2), ⟨[⟨true, (some (.tab [.fl .f32] x0))⟩], 1, []⟩)]
noncomputable def w56b (x0 : List (List Int)) : Res :=
 (cond (Nat.beq (r56l0c (1000 + x0.length) ((x0.length : Nat) : Int) 0 x0) 0)
 (a56b x0 (0, false))
 (cond (Nat.beq (r56l0c (1000 + x0.length) ((x0.length : Nat) : Int) 0 x0) 1)
  (a56b x0 (0, true))
  none))
set_option maxRecDepth 100000 in
set_option maxHeartbeats 4000000 in
theorem e56b (x0 : List (List Int)) : evFn Try.prog ext T50 L56_3 200 Try.f56 [wsl 0] ⟨[⟨true, (some (.tab [.fl .f32] x0))⟩], 1, []⟩ = firstT [((Nat.beq ((r56b x0).1) 0), .bool ((r56b x0).2), ⟨[⟨true, (some (.tab [.fl .f32] x0))⟩], 1, []⟩)] :=
 (show evFn Try.prog ext T50 L56_3 200 Try.f56 [wsl 0] ⟨[⟨true, (some (.tab [.fl .f32] x0))⟩], 1, []⟩ = w56b x0 from by kernel_rfl).trans
 (show w56b x0 = a56b x0 (r56b x0) from by unfold w56b r56b; exact (cond_app (a56b x0) _ rfl (cond_app (a56b x0) _ rfl rfl)))
noncomputable def s56b (args : List Value) (s : St) : List (Bool × Value × St) :=
 match args, s.h with
 | [.iface f0 .nilIface], [⟨true, some (.tab [.fl .f32] x0)⟩] => if f0 = 0 then [((Nat.beq ((r56b x0).1) 0), .bool ((r56b x0).2), ⟨[⟨true, (some (.tab [.fl .f32] x0))⟩], 1, []⟩)] else T50 56 args s
 | _, _ => T50 56 args s
noncomputable def T51 : CallF := addF T50 56 s56b
set_option maxRecDepth 100000 in
set_option maxHeartbeats 4000000 in
theorem ok51 : CfOk Try.prog T51 := by
  refine cfOk_add ok50 fun args s r s' h1 h2 h3 => ?_
  unfold s56b at h3; split at h3
  · rename_i h; split at h3
    · rename_i hc; obtain ⟨rfl⟩ := hc; exact callOk ok50 Try.func56 h1 h2 h lok56_3.body (e56b _) rfl h3
    · exact ok50 _ _ _ _ _ h1 h2 h3
  · exact ok50 _ _ _ _ _ h1 h2 h3

/-- impl.FlowsOf -/
noncomputable def r15 (x0 x1 : Nat) (x2 : List (List Int)) : Nat × Int × List (List Int) :=
 cond (Nat.beq ((r54 x0 x1 x2).1) 0)
  (cond ((((r54 x0 x1 x2).2) : Int) != 0)
   (0, ((r54 x0 x1 x2).2), [])
   (cond (Nat.beq ((r55 x0 x1 x2).1) 0)
    (cond (Nat.beq ((r56b ((r55 x0 x1 x2).2)).1) 0)
     (cond (!((r56b ((r55 x0 x1 x2).2)).2))
      (0, 4, [])
      (1, 0, ((r55 x0 x1 x2).2)))
     (2, 0, []))
    (2, 0, [])))
  (2, 0, [])
noncomputable def a15 (x0 x1 : Nat) (x2 : List (List Int)) (p : Nat × Int × List (List Int)) : Res := firstT [((Nat.beq (p.1) 0), .tuple #[.slice none 0 0, .int .i64 (p.2.1)], ⟨[⟨true, (some (.tab sc0 x2))⟩], 1, []⟩), ((Nat.beq (p.1) 1), .tuple #[wsl 1, .int .i64 0], ⟨[⟨true, (some (.tab sc0 x2))⟩, ⟨true, (some (.tab [.fl .f32] (p.2.2)))⟩], 1, []⟩)]
noncomputable def w15 (x0 x1 : Nat) (x2 : List (List Int)) : Res :=
 (cond (Nat.beq ((r54 x0 x1 x2).1) 0)
 (cond ((((r54 x0 x1 x2).2) : Int) != 0)
  (a15 x0 x1 x2 (0, ((r54 x0 x1 x2).2), []))
  (cond (Nat.beq ((r55 x0 x1 x2).1) 0)
   (cond (Nat.beq ((r56b ((r55 x0 x1 x2).2)).1) 0)
    (cond (!((r56b ((r55 x0 x1 x2).2)).2))
     (a15 x0 x1 x2 (0, 4, []))
     (a15 x0 x1 x2 (1, 0, ((r55 x0 x1 x2).2))))
    none)
   none))
 none)
set_option maxRecDepth 100000 in
set_option maxHeartbeats 4000000 in
theorem e15 (x0 x1 : Nat) (x2 : List (List Int)) : evFn Try.prog ext T51 noL 200 Try.f15 [wsl 0, .float .f32 x0, .float .f32 x1] ⟨[⟨true, (some (.tab sc0 x2))⟩], 1, []⟩ = firstT [((Nat.beq ((r15 x0 x1 x2).1) 0), .tuple #[.slice none 0 0, .int .i64 ((r15 x0 x1 x2).2.1)], ⟨[⟨true, (some (.tab sc0 x2))⟩], 1, []⟩), ((Nat.beq ((r15 x0 x1 x2).1) 1), .tuple #[wsl 1, .int .i64 0], ⟨[⟨true, (some (.tab sc0 x2))⟩, ⟨true, (some (.tab [.fl .f32] ((r15 x0 x1 x2).2.2)))⟩], 1, []⟩)] :=
 (show evFn Try.prog ext T51 noL 200 Try.f15 [wsl 0, .float .f32 x0, .float .f32 x1] ⟨[⟨true, (some (.tab sc0 x2))⟩], 1, []⟩ = w15 x0 x1 x2 from by kernel_rfl).trans
 (show w15 x0 x1 x2 = a15 x0 x1 x2 (r15 x0 x1 x2) from by unfold w15 r15; exact (cond_app (a15 x0 x1 x2) _ (cond_app (a15 x0 x1 x2) _ rfl (cond_app (a15 x0 x1 x2) _ (cond_app (a15 x0 x1 x2) _ (cond_app (a15 x0 x1 x2) _ rfl rfl) rfl) rfl)) rfl))
noncomputable def s15 (args : List Value) (s : St) : List (Bool × Value × St) :=
 match args, s.h with
 | [.iface f0 .nilIface, .float .f32 x0, .float .f32 x1], [⟨true, some (.tab [.fl .f32, .fl .f32, .fl .f32, .fl .f32, .int .i64] x2)⟩] => if f0 = 0 then [((Nat.beq ((r15 x0 x1 x2).1) 0), .tuple #[.slice none 0 0, .int .i64 ((r15 x0 x1 x2).2.1)], ⟨[⟨true, (some (.tab sc0 x2))⟩], 1, []⟩), ((Nat.beq ((r15 x0 x1 x2).1) 1), .tuple #[wsl 1, .int .i64 0], ⟨[⟨true, (some (.tab sc0 x2))⟩, ⟨true, (some (.tab [.fl .f32] ((r15 x0 x1 x2).2.2)))⟩], 1, []⟩)] else T51 15 args s
 | _, _ => T51 15 args s
noncomputable def T52 : CallF := addF T51 15 s15
set_option maxRecDepth 100000 in
set_option maxHeartbeats 4000000 in
theorem ok52 : CfOk Try.prog T52 := by
  refine cfOk_add ok51 fun args s r s' h1 h2 h3 => ?_
  unfold s15 at h3; split at h3
  · rename_i h; split at h3
    · rename_i hc; obtain ⟨rfl⟩ := hc; exact callOk ok51 Try.func15 h1 h2 h (lfOkF_no _ _).body (e15 _ _ _) rfl h3
    · exact ok51 _ _ _ _ _ h1 h2 h3
  · exact ok51 _ _ _ _ _ h1 h2 h3

/-- laws.eqFloat32S, loop 0 -/
noncomputable def r30l0 (x0 : List (List Int)) : Unit :=
 ()
noncomputable def a30l0 (x0 : List (List Int)) (p : Unit) : Option (Fin' × List Value × St) := firstT ([(true, .exit 0, [anyV], ⟨[⟨true, (some (.tab [.fl .f32] x0))⟩], 1, []⟩)].map fun (b, x) => (b, (x.1, frameOf 29 [4] x.2.1, x.2.2)))
noncomputable def w30l0 (x0 : List (List Int)) : Option (Fin' × List Value × St) :=
 (a30l0 x0 ())
set_option maxRecDepth 100000 in
set_option maxHeartbeats 4000000 in
theorem e30l0 (x0 : List (List Int)) : evC Try.prog ext T52 noL 200 (loopN Try.f30 0) (loopTail ([0, 1, 5], []) [4] [] (sumK 29 [0, 1, 5] [4] noQ)) (frameOf 29 [0, 1, 5] [.slice none 0 0, wsl 0, .int .i64 0]) ⟨[⟨true, (some (.tab [.fl .f32] x0))⟩], 1, []⟩ = firstT ([(true, .exit 0, [anyV], ⟨[⟨true, (some (.tab [.fl .f32] x0))⟩], 1, []⟩)].map fun (b, x) => (b, (x.1, frameOf 29 [4] x.2.1, x.2.2))) :=
 (show evC Try.prog ext T52 noL 200 (loopN Try.f30 0) (loopTail ([0, 1, 5], []) [4] [] (sumK 29 [0, 1, 5] [4] noQ)) (frameOf 29 [0, 1, 5] [.slice none 0 0, wsl 0, .int .i64 0]) ⟨[⟨true, (some (.tab [.fl .f32] x0))⟩], 1, []⟩ = w30l0 x0 from by kernel_rfl).trans
 (show w30l0 x0 = a30l0 x0 (r30l0 x0) from by unfold w30l0 r30l0; exact rfl)
noncomputable def Q30l0 : SumK := fun vals s =>
 match vals, s.h with
 | [.slice none f0 f1, .iface f2 .nilIface, .int .i64 f3], [⟨true, some (.tab [.fl .f32] x0)⟩] => if f0 = 0 ∧ f1 = 0 ∧ f2 = 0 ∧ f3 = 0 then [(true, .exit 0, [anyV], ⟨[⟨true, (some (.tab [.fl .f32] x0))⟩], 1, []⟩)] else noQ vals s
 | _, _ => noQ vals s
set_option maxRecDepth 100000 in
set_option maxHeartbeats 4000000 in
theorem qok30l0 : SumKOk Try.prog (loopN Try.f30 0) 29 [0, 1, 5] [4] Q30l0 := by
  intro vals s x h1 h2 h3
  unfold Q30l0 at h3; split at h3
  · rename_i h; split at h3
    · rename_i hc; obtain ⟨rfl, rfl, rfl, rfl⟩ := hc; exact sum_step ok52 extOk mixed ((lfOkF_no _ _).inner (by kernel_rfl)) noQ_ok h1 h2 h (e30l0 _) rfl h3
    · exact noQ_ok _ _ _ h1 h2 h3
  · exact noQ_ok _ _ _ h1 h2 h3
noncomputable def L30_1 : LoopT := addL noL 5 ([0, 1, 5], []) (sumK 29 [0, 1, 5] [4] Q30l0)
theorem lok30_1 : LfOkF Try.prog L30_1 Try.f30 := lfOkF_add (lfOkF_no _ _) qok30l0 (by kernel_rfl) (by kernel_rfl) (by kernel_rfl)

/-- laws.eqFloat32S -/
noncomputable def r30 (x0 : List (List Int)) : Bool :=
 cond ((0 : Int) != ((x0.length : Nat) : Int))
  (false)
  (true)
noncomputable def a30 (x0 : List (List Int)) (p : Bool) : Res := firstT [(true, .bool p, ⟨[⟨true, (some (.tab [.fl .f32] x0))⟩], 1, []⟩)]
noncomputable def w30 (x0 : List (List Int)) : Res :=
 (cond ((0 : Int) != ((x0.length : Nat) : Int))
 (a30 x0 (false))
 (a30 x0 (true)))
set_option maxRecDepth 100000 in
set_option maxHeartbeats 4000000 in
theorem e30 (x0 : List (List Int)) : evFn Try.prog ext T52 L30_1 200 Try.f30 [.slice none 0 0, wsl 0] ⟨[⟨true, (some (.tab [.fl .f32] x0))⟩], 1, []⟩ = firstT [(true, .bool (r30 x0), ⟨[⟨true, (some (.tab [.fl .f32] x0))⟩], 1, []⟩)] :=
 (show evFn Try.prog ext T52 L30_1 200 Try.f30 [.slice none 0 0, wsl 0] ⟨[⟨true, (some (.tab [.fl .f32] x0))⟩], 1, []⟩ = w30 x0 from by kernel_rfl).trans
 (show w30 x0 = a30 x0 (r30 x0) from by unfold w30 r30; exact (cond_app (a30 x0) _ rfl rfl))
noncomputable def s30 (args : List Value) (s : St) : List (Bool × Value × St) :=
 match args, s.h with
 | [.slice none f0 f1, .iface f2 .nilIface], [⟨true, some (.tab [.fl .f32] x0)⟩] => if f0 = 0 ∧ f1 = 0 ∧ f2 = 0 then [(true, .bool (r30 x0), ⟨[⟨true, (some (.tab [.fl .f32] x0))⟩], 1, []⟩)] else T52 30 args s
 | _, _ => T52 30 args s
noncomputable def T53 : CallF := addF T52 30 s30
set_option maxRecDepth 100000 in
set_option maxHeartbeats 4000000 in
theorem ok53 : CfOk Try.prog T53 := by
  refine cfOk_add ok52 fun args s r s' h1 h2 h3 => ?_
  unfold s30 at h3; split at h3
  · rename_i h; split at h3
    · rename_i hc; obtain ⟨rfl, rfl, rfl⟩ := hc; exact callOk ok52 Try.func30 h1 h2 h lok30_1.body (e30 _) rfl h3
    · exact ok52 _ _ _ _ _ h1 h2 h3
  · exact ok52 _ _ _ _ _ h1 h2 h3

/-- laws.markFlueS, loop 0: one round -/
noncomputable def b31l0 (ih : Int → Int → List (List Int) → (Nat × Int × List (List Int))) (x0 x1 : Int) (x2 : List (List Int)) : Nat × Int × List (List Int) :=
 cond (decide ((x1 : Int) < ((x2.length : Nat) : Int)))
  (cond ((decide ((0 : Int) ≤ x1)) && (Nat.blt (Int.toNat x1) x2.length))
   (cond ((decide ((0 : Int) ≤ x1)) && (Nat.blt (Int.toNat x1) ((x2.modify (Int.toNat x1) (fun r => spl 5 r 0 [(((ofInt .f32 x0) : Nat) : Int)])).length)))
    (cond ((decide ((0 : Int) ≤ x1)) && (Nat.blt (Int.toNat x1) (((x2.modify (Int.toNat x1) (fun r => spl 5 r 0 [(((ofInt .f32 x0) : Nat) : Int)])).modify (Int.toNat x1) (fun r => spl 5 r 1 [(((ofInt .f32 (IntKind.i64.wrap (x0 + 1))) : Nat) : Int)])).length)))
     (cond ((decide ((0 : Int) ≤ x1)) && (Nat.blt (Int.toNat x1) ((((x2.modify (Int.toNat x1) (fun r => spl 5 r 0 [(((ofInt .f32 x0) : Nat) : Int)])).modify (Int.toNat x1) (fun r => spl 5 r 1 [(((ofInt .f32 (IntKind.i64.wrap (x0 + 1))) : Nat) : Int)])).modify (Int.toNat x1) (fun r => spl 5 r 2 [(((ofInt .f32 (IntKind.i64.wrap ((IntKind.i64.wrap (x0 + 1)) + 1))) : Nat) : Int)])).length)))
      (cond ((decide ((0 : Int) ≤ x1)) && (Nat.blt (Int.toNat x1) (((((x2.modify (Int.toNat x1) (fun r => spl 5 r 0 [(((ofInt .f32 x0) : Nat) : Int)])).modify (Int.toNat x1) (fun r => spl 5 r 1 [(((ofInt .f32 (IntKind.i64.wrap (x0 + 1))) : Nat) : Int)])).modify (Int.toNat x1) (fun r => spl 5 r 2 [(((ofInt .f32 (IntKind.i64.wrap ((IntKind.i64.wrap (x0 + 1)) + 1))) : Nat) : Int)])).modify (Int.toNat x1) (fun r => spl 5 r 3 [(((ofInt .f32 (IntKind.i64.wrap ((IntKind.i64.wrap ((IntKind.i64.wrap (x0 + 1)) + 1)) + 1))) : Nat) : Int)])).length)))
       (ih (IntKind.i64.wrap ((IntKind.i64.wrap ((IntKind.i64.wrap ((IntKind.i64.wrap ((IntKind.i64.wrap (x0 + 1)) + 1)) + 1)) + 1)) + 1)) (IntKind.i64.wrap (x1 + 1)) (((((x2.modify (Int.toNat x1) (fun r => spl 5 r 0 [(((ofInt .f32 x0) : Nat) : Int)])).modify (Int.toNat x1) (fun r => spl 5 r 1 [(((ofInt .f32 (IntKind.i64.wrap (x0 + 1))) : Nat) : Int)])).modify (Int.toNat x1) (fun r => spl 5 r 2 [(((ofInt .f32 (IntKind.i64.wrap ((IntKind.i64.wrap (x0 + 1)) + 1))) : Nat) : Int)])).modify (Int.toNat x1) (fun r => spl 5 r 3 [(((ofInt .f32 (IntKind.i64.wrap ((IntKind.i64.wrap ((IntKind.i64.wrap (x0 + 1)) + 1)) + 1))) : Nat) : Int)])).modify (Int.toNat x1) (fun r => spl 5 r 4 [(IntKind.i64.wrap ((IntKind.i64.wrap ((IntKind.i64.wrap ((IntKind.i64.wrap (x0 + 1)) + 1)) + 1)) + 1))])))
       (1, 0, []))
      (1, 0, []))
     (1, 0, []))
    (1, 0, []))
   (1, 0, []))
  (0, x0, x2)
noncomputable def r31l0 : Nat → Int → Int → List (List Int) → (Nat × Int × List (List Int))
 | 0 => fun _ _ _ => (1, 0, [])
 | m + 1 => b31l0 (r31l0 m)
noncomputable def a31l0 (x0 x1 : Int) (x2 : List (List Int)) (p : Nat × Int × List (List Int)) : Option (Fin' × List Value × St) := firstT ([((Nat.beq (p.1) 0), .exit 0, [.int .i64 (p.2.1)], ⟨[⟨true, (some (.tab sc0 (p.2.2)))⟩], 1, [0]⟩)].map fun (b, x) => (b, (x.1, frameOf 52 [1] x.2.1, x.2.2)))
noncomputable def u31l0 (x0 x1 : Int) (x2 : List (List Int)) (p : Nat × Int × List (List Int)) : Option (Fin' × List Value × St) := alts ([((Nat.beq (p.1) 0), .exit 0, [.int .i64 (p.2.1)], ⟨[⟨true, (some (.tab sc0 (p.2.2)))⟩], 1, [0]⟩)].map fun (b, x) => (b, (x.1, frameOf 52 [1] x.2.1, x.2.2))) some
theorem v31l0 (x0 x1 : Int) (x2 : List (List Int)) (p : Nat × Int × List (List Int)) : u31l0 x0 x1 x2 p = a31l0 x0 x1 x2 p := alts_first _
noncomputable def q31l0 (m : Nat) : SumK := fun vals s =>
 match vals, s.h with
 | [.iface f0 .nilIface, .int .i64 x0, .int .i64 x1], [⟨true, some (.tab [.fl .f32, .fl .f32, .fl .f32, .fl .f32, .int .i64] x2)⟩] => if f0 = 0 then [((Nat.beq ((r31l0 m x0 x1 x2).1) 0), .exit 0, [.int .i64 ((r31l0 m x0 x1 x2).2.1)], ⟨[⟨true, (some (.tab sc0 ((r31l0 m x0 x1 x2).2.2)))⟩], 1, [0]⟩)] else noQ vals s
 | _, _ => noQ vals s
noncomputable def w31l0 (ih : Int → Int → List (List Int) → (Nat × Int × List (List Int))) (x0 x1 : Int) (x2 : List (List Int)) : Option (Fin' × List Value × St) :=
 (cond (decide ((x1 : Int) < ((x2.length : Nat) : Int)))
 (cond ((decide ((0 : Int) ≤ x1)) && (Nat.blt (Int.toNat x1) x2.length))
  (cond (Nat.blt (Int.toNat x1) x2.length)
   (cond ((decide ((0 : Int) ≤ x1)) && (Nat.blt (Int.toNat x1) ((x2.modify (Int.toNat x1) (fun r => spl 5 r 0 [(((ofInt .f32 x0) : Nat) : Int)])).length)))
    (cond (Nat.blt (Int.toNat x1) ((x2.modify (Int.toNat x1) (fun r => spl 5 r 0 [(((ofInt .f32 x0) : Nat) : Int)])).length))
     (cond ((decide ((0 : Int) ≤ x1)) && (Nat.blt (Int.toNat x1) (((x2.modify (Int.toNat x1) (fun r => spl 5 r 0 [(((ofInt .f32 x0) : Nat) : Int)])).modify (Int.toNat x1) (fun r => spl 5 r 1 [(((ofInt .f32 (IntKind.i64.wrap (x0 + 1))) : Nat) : Int)])).length)))
      (cond (Nat.blt (Int.toNat x1) (((x2.modify (Int.toNat x1) (fun r => spl 5 r 0 [(((ofInt .f32 x0) : Nat) : Int)])).modify (Int.toNat x1) (fun r => spl 5 r 1 [(((ofInt .f32 (IntKind.i64.wrap (x0 + 1))) : Nat) : Int)])).length))
       (cond ((decide ((0 : Int) ≤ x1)) && (Nat.blt (Int.toNat x1) ((((x2.modify (Int.toNat x1) (fun r => spl 5 r 0 [(((ofInt .f32 x0) : Nat) : Int)])).modify (Int.toNat x1) (fun r => spl 5 r 1 [(((ofInt .f32 (IntKind.i64.wrap (x0 + 1))) : Nat) : Int)])).modify (Int.toNat x1) (fun r => spl 5 r 2 [(((ofInt .f32 (IntKind.i64.wrap ((IntKind.i64.wrap (x0 + 1)) + 1))) : Nat) : Int)])).length)))
        (cond (Nat.blt (Int.toNat x1) ((((x2.modify (Int.toNat x1) (fun r => spl 5 r 0 [(((ofInt .f32 x0) : Nat) : Int)])).modify (Int.toNat x1) (fun r => spl 5 r 1 [(((ofInt .f32 (IntKind.i64.wrap (x0 + 1))) : Nat) : Int)])).modify (Int.toNat x1) (fun r => spl 5 r 2 [(((ofInt .f32 (IntKind.i64.wrap ((IntKind.i64.wrap (x0 + 1)) + 1))) : Nat) : Int)])).length))
         (cond ((decide ((0 : Int) ≤ x1)) && (Nat.blt (Int.toNat x1) (((((x2.modify (Int.toNat x1) (fun r => spl 5 r 0 [(((ofInt .f32 x0) : Nat) : Int)])).modify (Int.toNat x1) (fun r => spl 5 r 1 [(((ofInt .f32 (IntKind.i64.wrap (x0 + 1))) : Nat) : Int)])).modify (Int.toNat x1) (fun r => spl 5 r 2 [(((ofInt .f32 (IntKind.i64.wrap ((IntKind.i64.wrap (x0 + 1)) + 1))) : Nat) : Int)])).modify (Int.toNat x1) (fun r => spl 5 r 3 [(((ofInt .f32 (IntKind.i64.wrap ((IntKind.i64.wrap ((IntKind.i64.wrap (x0 + 1)) + 1)) + 1))) : Nat) : Int)])).length)))
          (cond (Nat.blt (Int.toNat x1) (((((x2.modify (Int.toNat x1) (fun r => spl 5 r 0 [(((ofInt .f32 x0) : Nat) : Int)])).modify (Int.toNat x1) (fun r => spl 5 r 1 [(((ofInt .f32 (IntKind.i64.wrap (x0 + 1))) : Nat) : Int)])).modify (Int.toNat x1) (fun r => spl 5 r 2 [(((ofInt .f32 (IntKind.i64.wrap ((IntKind.i64.wrap (x0 + 1)) + 1))) : Nat) : Int)])).modify (Int.toNat x1) (fun r => spl 5 r 3 [(((ofInt .f32 (IntKind.i64.wrap ((IntKind.i64.wrap ((IntKind.i64.wrap (x0 + 1)) + 1)) + 1))) : Nat) : Int)])).length))
           (u31l0 x0 x1 x2 (ih (IntKind.i64.wrap ((IntKind.i64.wrap ((IntKind.i64.wrap ((IntKind.i64.wrap ((IntKind.i64.wrap (x0 + 1)) + 1)) + 1)) + 1)) + 1)) (IntKind.i64.wrap (x1 + 1)) (((((x2.modify (Int.toNat x1) (fun r => spl 5 r 0 [(((ofInt .f32 x0) : Nat) : Int)])).modify (Int.toNat x1) (fun r => spl 5 r 1 [(((ofInt .f32 (IntKind.i64.wrap (x0 + 1))) : Nat) : Int)])).modify (Int.toNat x1) (fun r => spl 5 r 2 [(((ofInt .f32 (IntKind.i64.wrap ((IntKind.i64.wrap (x0 + 1)) + 1))) : Nat) : Int)])).modify (Int.toNat x1) (fun r => spl 5 r 3 [(((ofInt .f32 (IntKind.i64.wrap ((IntKind.i64.wrap ((IntKind.i64.wrap (x0 + 1)) + 1)) + 1))) : Nat) : Int)])).modify (Int.toNat x1) (fun r => spl 5 r 4 [(IntKind.i64.wrap ((IntKind.i64.wrap ((IntKind.i64.wrap ((IntKind.i64.wrap (x0 + 1)) + 1)) + 1)) + 1))]))))
           none)
          none)
         none)
        none)
       none)
      none)
     none)
    none)
   none)
  none)
 (a31l0 x0 x1 x2 (0, x0, x2)))
set_option maxRecDepth 100000 in
set_option maxHeartbeats 4000000 in
theorem e31l0 (m : Nat) (x0 x1 : Int) (x2 : List (List Int)) : evC Try.prog ext T53 noL 200 (loopN Try.f31 0) (loopTail ([0, 1, 5], []) [1] [0] (sumK 52 [0, 1, 5] [1] (q31l0 m))) (frameOf 52 [0, 1, 5] [wsl 0, .int .i64 x0, .int .i64 x1]) ⟨[⟨true, (some (.tab sc0 x2))⟩], 1, []⟩ = firstT ([((Nat.beq ((r31l0 (m + 1) x0 x1 x2).1) 0), .exit 0, [.int .i64 ((r31l0 (m + 1) x0 x1 x2).2.1)], ⟨[⟨true, (some (.tab sc0 ((r31l0 (m + 1) x0 x1 x2).2.2)))⟩], 1, [0]⟩)].map fun (b, x) => (b, (x.1, frameOf 52 [1] x.2.1, x.2.2))) :=
 (show evC Try.prog ext T53 noL 200 (loopN Try.f31 0) (loopTail ([0, 1, 5], []) [1] [0] (sumK 52 [0, 1, 5] [1] (q31l0 m))) (frameOf 52 [0, 1, 5] [wsl 0, .int .i64 x0, .int .i64 x1]) ⟨[⟨true, (some (.tab sc0 x2))⟩], 1, []⟩ = w31l0 (r31l0 m) x0 x1 x2 from by kernel_rfl).trans
 (show w31l0 (r31l0 m) x0 x1 x2 = a31l0 x0 x1 x2 (r31l0 (m + 1) x0 x1 x2) from by unfold w31l0; show _ = a31l0 x0 x1 x2 (b31l0 (r31l0 m) x0 x1 x2); unfold b31l0; exact (cond_both (a31l0 x0 x1 x2) _ (fun h0 => (cond_both (a31l0 x0 x1 x2) _ (fun h1 => (cond_t (ev_and2 h1) (cond_both (a31l0 x0 x1 x2) _ (fun h2 => (cond_t (ev_and2 h2) (cond_both (a31l0 x0 x1 x2) _ (fun h3 => (cond_t (ev_and2 h3) (cond_both (a31l0 x0 x1 x2) _ (fun h4 => (cond_t (ev_and2 h4) (cond_both (a31l0 x0 x1 x2) _ (fun h5 => (cond_t (ev_and2 h5) (v31l0 x0 x1 x2 ((r31l0 m) (IntKind.i64.wrap ((IntKind.i64.wrap ((IntKind.i64.wrap ((IntKind.i64.wrap ((IntKind.i64.wrap (x0 + 1)) + 1)) + 1)) + 1)) + 1)) (IntKind.i64.wrap (x1 + 1)) (((((x2.modify (Int.toNat x1) (fun r => spl 5 r 0 [(((ofInt .f32 x0) : Nat) : Int)])).modify (Int.toNat x1) (fun r => spl 5 r 1 [(((ofInt .f32 (IntKind.i64.wrap (x0 + 1))) : Nat) : Int)])).modify (Int.toNat x1) (fun r => spl 5 r 2 [(((ofInt .f32 (IntKind.i64.wrap ((IntKind.i64.wrap (x0 + 1)) + 1))) : Nat) : Int)])).modify (Int.toNat x1) (fun r => spl 5 r 3 [(((ofInt .f32 (IntKind.i64.wrap ((IntKind.i64.wrap ((IntKind.i64.wrap (x0 + 1)) + 1)) + 1))) : Nat) : Int)])).modify (Int.toNat x1) (fun r => spl 5 r 4 [(IntKind.i64.wrap ((IntKind.i64.wrap ((IntKind.i64.wrap ((IntKind.i64.wrap (x0 + 1)) + 1)) + 1)) + 1))])))))) (fun h5 => rfl)))) (fun h4 => rfl)))) (fun h3 => rfl)))) (fun h2 => rfl)))) (fun h1 => rfl))) (fun h0 => rfl)))
set_option maxRecDepth 100000 in
set_option maxHeartbeats 4000000 in
theorem qm31l0 : ∀ m, SumKOk Try.prog (loopN Try.f31 0) 52 [0, 1, 5] [1] (q31l0 m) := by
  intro m
  induction m with
  | zero =>
    intro vals s x h1 h2 h3
    unfold q31l0 at h3; split at h3
    · rename_i h; split at h3
      · rename_i hc; obtain ⟨rfl⟩ := hc; exact absurd h3 (by simp [r31l0, firstT, Nat.beq])
      · exact noQ_ok _ _ _ h1 h2 h3
    · exact noQ_ok _ _ _ h1 h2 h3
  | succ m ih =>
    intro vals s x h1 h2 h3
    unfold q31l0 at h3; split at h3
    · rename_i h; split at h3
      · rename_i hc; obtain ⟨rfl⟩ := hc; exact sum_step ok53 extOk mixed ((lfOkF_no _ _).inner (by kernel_rfl)) ih h1 h2 h (e31l0 m _ _ _) rfl h3
      · exact noQ_ok _ _ _ h1 h2 h3
    · exact noQ_ok _ _ _ h1 h2 h3
noncomputable def Q31l0 : SumK := fun vals s => q31l0 (fuelOf vals s.h) vals s
theorem qok31l0 : SumKOk Try.prog (loopN Try.f31 0) 52 [0, 1, 5] [1] Q31l0 := fuel_ok qm31l0 fuelOf
noncomputable def L31_1 : LoopT := addL noL 3 ([0, 1, 5], []) (sumK 52 [0, 1, 5] [1] Q31l0)
theorem lok31_1 : LfOkF Try.prog L31_1 Try.f31 := lfOkF_add (lfOkF_no _ _) qok31l0 (by kernel_rfl) (by kernel_rfl) (by kernel_rfl)

/-- laws.markFlueS -/
noncomputable def r31 (x0 : Int) (x1 : List (List Int)) : Nat × Int × List (List Int) :=
 cond (Nat.beq ((r31l0 (1000 + x1.length) x0 0 x1).1) 0)
  (0, ((r31l0 (1000 + x1.length) x0 0 x1).2.1), ((r31l0 (1000 + x1.length) x0 0 x1).2.2))
  (1, 0, [])
noncomputable def a31 (x0 : Int) (x1 : List (List Int)) (p : Nat × Int × List (List Int)) : Res := firstT [((Nat.beq (p.1) 0), .int .i64 (p.2.1), ⟨[⟨true, (some (.tab sc0 (p.2.2)))⟩], 1, [0]⟩)]
noncomputable def w31 (x0 : Int) (x1 : List (List Int)) : Res :=
 (cond (Nat.beq ((r31l0 (1000 + x1.length) x0 0 x1).1) 0)
 (a31 x0 x1 (0, ((r31l0 (1000 + x1.length) x0 0 x1).2.1), ((r31l0 (1000 + x1.length) x0 0 x1).2.2)))
 none)
set_option maxRecDepth 100000 in
set_option maxHeartbeats 4000000 in
theorem e31 (x0 : Int) (x1 : List (List Int)) : evFn Try.prog ext T53 L31_1 200 Try.f31 [wsl 0, .int .i64 x0] ⟨[⟨true, (some (.tab sc0 x1))⟩], 1, []⟩ = firstT [((Nat.beq ((r31 x0 x1).1) 0), .int .i64 ((r31 x0 x1).2.1), ⟨[⟨true, (some (.tab sc0 ((r31 x0 x1).2.2)))⟩], 1, [0]⟩)] :=
 (show evFn Try.prog ext T53 L31_1 200 Try.f31 [wsl 0, .int .i64 x0] ⟨[⟨true, (some (.tab sc0 x1))⟩], 1, []⟩ = w31 x0 x1 from by kernel_rfl).trans
 (show w31 x0 x1 = a31 x0 x1 (r31 x0 x1) from by unfold w31 r31; exact (cond_app (a31 x0 x1) _ rfl rfl))
noncomputable def s31 (args : List Value) (s : St) : List (Bool × Value × St) :=
 match args, s.h with
 | [.iface f0 .nilIface, .int .i64 x0], [⟨true, some (.tab [.fl .f32, .fl .f32, .fl .f32, .fl .f32, .int .i64] x1)⟩] => if f0 = 0 then [((Nat.beq ((r31 x0 x1).1) 0), .int .i64 ((r31 x0 x1).2.1), ⟨[⟨true, (some (.tab sc0 ((r31 x0 x1).2.2)))⟩], 1, [0]⟩)] else T53 31 args s
 | _, _ => T53 31 args s
noncomputable def T54 : CallF := addF T53 31 s31
set_option maxRecDepth 100000 in
set_option maxHeartbeats 4000000 in
theorem ok54 : CfOk Try.prog T54 := by
  refine cfOk_add ok53 fun args s r s' h1 h2 h3 => ?_
  unfold s31 at h3; split at h3
  · rename_i h; split at h3
    · rename_i hc; obtain ⟨rfl⟩ := hc; exact callOk ok53 Try.func31 h1 h2 h lok31_1.body (e31 _ _) rfl h3
    · exact ok53 _ _ _ _ _ h1 h2 h3
  · exact ok53 _ _ _ _ _ h1 h2 h3

/-- laws.markFloat32S, loop 0 -/
noncomputable def r32l0 (x0 : Int) : Unit :=
 ()
noncomputable def a32l0 (x0 : Int) (p : Unit) : Option (Fin' × List Value × St) := firstT ([(true, .exit 0, [.int .i64 x0], st0)].map fun (b, x) => (b, (x.1, frameOf 20 [1] x.2.1, x.2.2)))
noncomputable def w32l0 (x0 : Int) : Option (Fin' × List Value × St) :=
 (a32l0 x0 ())
set_option maxRecDepth 100000 in
set_option maxHeartbeats 4000000 in
theorem e32l0 (x0 : Int) : evC Try.prog ext T54 noL 200 (loopN Try.f32 0) (loopTail ([0, 1, 5], []) [1] [] (sumK 20 [0, 1, 5] [1] noQ)) (frameOf 20 [0, 1, 5] [.slice none 0 0, .int .i64 x0, .int .i64 0]) ⟨[], 0, []⟩ = firstT ([(true, .exit 0, [.int .i64 x0], st0)].map fun (b, x) => (b, (x.1, frameOf 20 [1] x.2.1, x.2.2))) :=
 (show evC Try.prog ext T54 noL 200 (loopN Try.f32 0) (loopTail ([0, 1, 5], []) [1] [] (sumK 20 [0, 1, 5] [1] noQ)) (frameOf 20 [0, 1, 5] [.slice none 0 0, .int .i64 x0, .int .i64 0]) ⟨[], 0, []⟩ = w32l0 x0 from by kernel_rfl).trans
 (show w32l0 x0 = a32l0 x0 (r32l0 x0) from by unfold w32l0 r32l0; exact rfl)
noncomputable def Q32l0 : SumK := fun vals s =>
 match vals, s.h with
 | [.slice none f0 f1, .int .i64 x0, .int .i64 f2], [] => if f0 = 0 ∧ f1 = 0 ∧ f2 = 0 then [(true, .exit 0, [.int .i64 x0], st0)] else noQ vals s
 | _, _ => noQ vals s
set_option maxRecDepth 100000 in
set_option maxHeartbeats 4000000 in
theorem qok32l0 : SumKOk Try.prog (loopN Try.f32 0) 20 [0, 1, 5] [1] Q32l0 := by
  intro vals s x h1 h2 h3
  unfold Q32l0 at h3; split at h3
  · rename_i h; split at h3
    · rename_i hc; obtain ⟨rfl, rfl, rfl⟩ := hc; exact sum_step ok54 extOk mixed ((lfOkF_no _ _).inner (by kernel_rfl)) noQ_ok h1 h2 h (e32l0 _) rfl h3
    · exact noQ_ok _ _ _ h1 h2 h3
  · exact noQ_ok _ _ _ h1 h2 h3
noncomputable def L32_1 : LoopT := addL noL 3 ([0, 1, 5], []) (sumK 20 [0, 1, 5] [1] Q32l0)
theorem lok32_1 : LfOkF Try.prog L32_1 Try.f32 := lfOkF_add (lfOkF_no _ _) qok32l0 (by kernel_rfl) (by kernel_rfl) (by kernel_rfl)

/-- laws.markFloat32S -/
noncomputable def r32 (x0 : Int) : Unit :=
 ()
noncomputable def a32 (x0 : Int) (p : Unit) : Res := firstT [(true, .int .i64 x0, st0)]
noncomputable def w32 (x0 : Int) : Res :=
 (a32 x0 ())
set_option maxRecDepth 100000 in
set_option maxHeartbeats 4000000 in
theorem e32 (x0 : Int) : evFn Try.prog ext T54 L32_1 200 Try.f32 [.slice none 0 0, .int .i64 x0] st0 = firstT [(true, .int .i64 x0, st0)] :=
 (show evFn Try.prog ext T54 L32_1 200 Try.f32 [.slice none 0 0, .int .i64 x0] st0 = w32 x0 from by kernel_rfl).trans
 (show w32 x0 = a32 x0 (r32 x0) from by unfold w32 r32; exact rfl)
noncomputable def s32 (args : List Value) (s : St) : List (Bool × Value × St) :=
 match args, s.h with
 | [.slice none f0 f1, .int .i64 x0], [] => if f0 = 0 ∧ f1 = 0 then [(true, .int .i64 x0, st0)] else T54 32 args s
 | _, _ => T54 32 args s
noncomputable def T55 : CallF := addF T54 32 s32
set_option maxRecDepth 100000 in
set_option maxHeartbeats 4000000 in
theorem ok55 : CfOk Try.prog T55 := by
  refine cfOk_add ok54 fun args s r s' h1 h2 h3 => ?_
  unfold s32 at h3; split at h3
  · rename_i h; split at h3
    · rename_i hc; obtain ⟨rfl, rfl⟩ := hc; exact callOk ok54 Try.func32 h1 h2 h lok32_1.body (e32 _) rfl h3
    · exact ok54 _ _ _ _ _ h1 h2 h3
  · exact ok54 _ _ _ _ _ h1 h2 h3

/-- laws.heldFloat32S, loop 0 -/
noncomputable def r33l0 (x0 : Int) : Unit :=
 ()
noncomputable def a33l0 (x0 : Int) (p : Unit) : Option (Fin' × List Value × St) := firstT ([(true, .exit 0, [.int .i64 x0, anyV], st0)].map fun (b, x) => (b, (x.1, frameOf 22 [1, 4] x.2.1, x.2.2)))
noncomputable def w33l0 (x0 : Int) : Option (Fin' × List Value × St) :=
 (a33l0 x0 ())
set_option maxRecDepth 100000 in
set_option maxHeartbeats 4000000 in
theorem e33l0 (x0 : Int) : evC Try.prog ext T55 noL 200 (loopN Try.f33 0) (loopTail ([0, 1, 5], []) [1, 4] [] (sumK 22 [0, 1, 5] [1, 4] noQ)) (frameOf 22 [0, 1, 5] [.slice none 0 0, .int .i64 x0, .int .i64 0]) ⟨[], 0, []⟩ = firstT ([(true, .exit 0, [.int .i64 x0, anyV], st0)].map fun (b, x) => (b, (x.1, frameOf 22 [1, 4] x.2.1, x.2.2))) :=
 (show evC Try.prog ext T55 noL 200 (loopN Try.f33 0) (loopTail ([0, 1, 5], []) [1, 4] [] (sumK 22 [0, 1, 5] [1, 4] noQ)) (frameOf 22 [0, 1, 5] [.slice none 0 0, .int .i64 x0, .int .i64 0]) ⟨[], 0, []⟩ = w33l0 x0 from by kernel_rfl).trans
 (show w33l0 x0 = a33l0 x0 (r33l0 x0) from by unfold w33l0 r33l0; exact rfl)
noncomputable def Q33l0 : SumK := fun vals s =>
 match vals, s.h with
 | [.slice none f0 f1, .int .i64 x0, .int .i64 f2], [] => if f0 = 0 ∧ f1 = 0 ∧ f2 = 0 then [(true, .exit 0, [.int .i64 x0, anyV], st0)] else noQ vals s
 | _, _ => noQ vals s
set_option maxRecDepth 100000 in
set_option maxHeartbeats 4000000 in
theorem qok33l0 : SumKOk Try.prog (loopN Try.f33 0) 22 [0, 1, 5] [1, 4] Q33l0 := by
  intro vals s x h1 h2 h3
  unfold Q33l0 at h3; split at h3
  · rename_i h; split at h3
    · rename_i hc; obtain ⟨rfl, rfl, rfl⟩ := hc; exact sum_step ok55 extOk mixed ((lfOkF_no _ _).inner (by kernel_rfl)) noQ_ok h1 h2 h (e33l0 _) rfl h3
    · exact noQ_ok _ _ _ h1 h2 h3
  · exact noQ_ok _ _ _ h1 h2 h3
noncomputable def L33_1 : LoopT := addL noL 3 ([0, 1, 5], []) (sumK 22 [0, 1, 5] [1, 4] Q33l0)
theorem lok33_1 : LfOkF Try.prog L33_1 Try.f33 := lfOkF_add (lfOkF_no _ _) qok33l0 (by kernel_rfl) (by kernel_rfl) (by kernel_rfl)

/-- laws.heldFloat32S -/
noncomputable def r33 (x0 : Int) : Unit :=
 ()
noncomputable def a33 (x0 : Int) (p : Unit) : Res := firstT [(true, .int .i64 x0, st0)]
noncomputable def w33 (x0 : Int) : Res :=
 (a33 x0 ())
set_option maxRecDepth 100000 in
set_option maxHeartbeats 4000000 in
theorem e33 (x0 : Int) : evFn Try.prog ext T55 L33_1 200 Try.f33 [.slice none 0 0, .int .i64 x0] st0 = firstT [(true, .int .i64 x0, st0)] :=
 (show evFn Try.prog ext T55 L33_1 200 Try.f33 [.slice none 0 0, .int .i64 x0] st0 = w33 x0 from by kernel_rfl).trans
 (show w33 x0 = a33 x0 (r33 x0) from by unfold w33 r33; exact rfl)
noncomputable def s33 (args : List Value) (s : St) : List (Bool × Value × St) :=
 match args, s.h with
 | [.slice none f0 f1, .int .i64 x0], [] => if f0 = 0 ∧ f1 = 0 then [(true, .int .i64 x0, st0)] else T55 33 args s
 | _, _ => T55 33 args s
noncomputable def T56 : CallF := addF T55 33 s33
set_option maxRecDepth 100000 in
set_option maxHeartbeats 4000000 in
theorem ok56 : CfOk Try.prog T56 := by
  refine cfOk_add ok55 fun args s r s' h1 h2 h3 => ?_
  unfold s33 at h3; split at h3
  · rename_i h; split at h3
    · rename_i hc; obtain ⟨rfl, rfl⟩ := hc; exact callOk ok55 Try.func33 h1 h2 h lok33_1.body (e33 _) rfl h3
    · exact ok55 _ _ _ _ _ h1 h2 h3
  · exact ok55 _ _ _ _ _ h1 h2 h3

/-- laws.eqFloat32S, loop 0: one round -/
noncomputable def b30l0b (ih : Int → List (List Int) → List (List Int) → Nat) (x0 : Int) (x1 x2 : List (List Int)) : Nat :=
 let c492 := (r26 (widen (Int.toNat ((x1.getD (Int.toNat x0) []).getD 0 0))) (widen (Int.toNat ((x2.getD (Int.toNat x0) []).getD 0 0))))
 cond (decide ((x0 : Int) < ((x1.length : Nat) : Int)))
  (cond ((decide ((0 : Int) ≤ x0)) && (Nat.blt (Int.toNat x0) x1.length))
   (cond ((decide ((0 : Int) ≤ x0)) && (Nat.blt (Int.toNat x0) x2.length))
    (cond (!c492)
     (0)
     (ih (IntKind.i64.wrap (x0 + 1)) x1 x2))
    (2))
   (2))
  (1)
noncomputable def r30l0b : Nat → Int → List (List Int) → List (List Int) → Nat
 | 0 => fun _ _ _ => (2)
 | m + 1 => b30l0b (r30l0b m)
noncomputable def a30l0b (x0 : Int) (x1 x2 : List (List Int)) (p : Nat) : Option (Fin' × List Value × St) := firstT ([((Nat.beq p 0), .ret, [.bool false], ⟨[⟨true, (some (.tab [.fl .f32] x1))⟩, ⟨true, (some (.tab [.fl .f32] x2))⟩], 2, []⟩), ((Nat.beq p 1), .exit 0, [anyV], ⟨[⟨true, (some (.tab [.fl .f32] x1))⟩, ⟨true, (some (.tab [.fl .f32] x2))⟩], 2, []⟩)].map fun (b, x) => (b, (x.1, frameOf 29 [4] x.2.1, x.2.2)))
noncomputable def u30l0b (x0 : Int) (x1 x2 : List (List Int)) (p : Nat) : Option (Fin' × List Value × St) := alts ([((Nat.beq p 0), .ret, [.bool false], ⟨[⟨true, (some (.tab [.fl .f32] x1))⟩, ⟨true, (some (.tab [.fl .f32] x2))⟩], 2, []⟩), ((Nat.beq p 1), .exit 0, [anyV], ⟨[⟨true, (some (.tab [.fl .f32] x1))⟩, ⟨true, (some (.tab [.fl .f32] x2))⟩], 2, []⟩)].map fun (b, x) => (b, (x.1, frameOf 29 [4] x.2.1, x.2.2))) some
theorem v30l0b (x0 : Int) (x1 x2 : List (List Int)) (p : Nat) : u30l0b x0 x1 x2 p = a30l0b x0 x1 x2 p := alts_first _
noncomputable def q30l0b (m : Nat) : SumK := fun vals s =>
 match vals, s.h with
 | [.iface f0 .nilIface, .iface f1 .nilIface, .int .i64 x0], [⟨true, some (.tab [.fl .f32] x1)⟩, ⟨true, some (.tab [.fl .f32] x2)⟩] => if f0 = 0 ∧ f1 = 1 then [((Nat.beq (r30l0b m x0 x1 x2) 0), .ret, [.bool false], ⟨[⟨true, (some (.tab [.fl .f32] x1))⟩, ⟨true, (some (.tab [.fl .f32] x2))⟩], 2, []⟩), ((Nat.beq (r30l0b m x0 x1 x2) 1), .exit 0, [anyV], ⟨[⟨true, (some (.tab [.fl .f32] x1))⟩, ⟨true, (some (.tab [.fl .f32] x2))⟩], 2, []⟩)] else Q30l0 vals s
 | _, _ => Q30l0 vals s
noncomputable def w30l0b (ih : Int → List (List Int) → List (List Int) → Nat) (x0 : Int) (x1 x2 : List (List Int)) : Option (Fin' × List Value × St) :=
 let c492 := (r26 (widen (Int.toNat ((x1.getD (Int.toNat x0) []).getD 0 0))) (widen (Int.toNat ((x2.getD (Int.toNat x0) []).getD 0 0))))
 (cond (decide ((x0 : Int) < ((x1.length : Nat) : Int)))
 (cond ((decide ((0 : Int) ≤ x0)) && (Nat.blt (Int.toNat x0) x1.length))
  (cond (Nat.blt (Int.toNat x0) x1.length)
   (cond ((decide ((0 : Int) ≤ x0)) && (Nat.blt (Int.toNat x0) x2.length))
    (cond (Nat.blt (Int.toNat x0) x2.length)
     (cond (!c492)
      (a30l0b x0 x1 x2 (0))
      (u30l0b x0 x1 x2 (ih (IntKind.i64.wrap (x0 + 1)) x1 x2)))
     none)
    none)
   none)
  none)
 (a30l0b x0 x1 x2 (1)))
set_option maxRecDepth 100000 in
set_option maxHeartbeats 4000000 in
theorem e30l0b (m : Nat) (x0 : Int) (x1 x2 : List (List Int)) : evC Try.prog ext T56 L30_1 200 (loopN Try.f30 0) (loopTail ([0, 1, 5], []) [4] [] (sumK 29 [0, 1, 5] [4] (q30l0b m))) (frameOf 29 [0, 1, 5] [wsl 0, wsl 1, .int .i64 x0]) ⟨[⟨true, (some (.tab [.fl .f32] x1))⟩, ⟨true, (some (.tab [.fl .f32] x2))⟩], 2, []⟩ = firstT ([((Nat.beq (r30l0b (m + 1) x0 x1 x2) 0), .ret, [.bool false], ⟨[⟨true, (some (.tab [.fl .f32] x1))⟩, ⟨true, (some (.tab [.fl .f32] x2))⟩], 2, []⟩), ((Nat.beq (r30l0b (m + 1) x0 x1 x2) 1), .exit 0, [anyV], ⟨[⟨true, (some (.tab [.fl .f32] x1))⟩, ⟨true, (some (.tab [.fl .f32] x2))⟩], 2, []⟩)].map fun (b, x) => (b, (x.1, frameOf 29 [4] x.2.1, x.2.2))) :=
 (show evC Try.prog ext T56 L30_1 200 (loopN Try.f30 0) (loopTail ([0, 1, 5], []) [4] [] (sumK 29 [0, 1, 5] [4] (q30l0b m))) (frameOf 29 [0, 1, 5] [wsl 0, wsl 1, .int .i64 x0]) ⟨[⟨true, (some (.tab [.fl .f32] x1))⟩, ⟨true, (some (.tab [.fl .f32] x2))⟩], 2, []⟩ = w30l0b (r30l0b m) x0 x1 x2 from by kernel_rfl).trans
 (show w30l0b (r30l0b m) x0 x1 x2 = a30l0b x0 x1 x2 (r30l0b (m + 1) x0 x1 x2) from by unfold w30l0b; show _ = a30l0b x0 x1 x2 (b30l0b (r30l0b m) x0 x1 x2); unfold b30l0b; exact (cond_both (a30l0b x0 x1 x2) _ (fun h0 => (cond_both (a30l0b x0 x1 x2) _ (fun h1 => (cond_t (ev_and2 h1) (cond_both (a30l0b x0 x1 x2) _ (fun h2 => (cond_t (ev_and2 h2) (cond_app (a30l0b x0 x1 x2) _ rfl (v30l0b x0 x1 x2 ((r30l0b m) (IntKind.i64.wrap (x0 + 1)) x1 x2))))) (fun h2 => rfl)))) (fun h1 => rfl))) (fun h0 => rfl)))
set_option maxRecDepth 100000 in
set_option maxHeartbeats 4000000 in
theorem qm30l0b : ∀ m, SumKOk Try.prog (loopN Try.f30 0) 29 [0, 1, 5] [4] (q30l0b m) := by
  intro m
  induction m with
  | zero =>
    intro vals s x h1 h2 h3
    unfold q30l0b at h3; split at h3
    · rename_i h; split at h3
      · rename_i hc; obtain ⟨rfl, rfl⟩ := hc; exact absurd h3 (by simp [r30l0b, firstT, Nat.beq])
      · exact qok30l0 _ _ _ h1 h2 h3
    · exact qok30l0 _ _ _ h1 h2 h3
  | succ m ih =>
    intro vals s x h1 h2 h3
    unfold q30l0b at h3; split at h3
    · rename_i h; split at h3
      · rename_i hc; obtain ⟨rfl, rfl⟩ := hc; exact sum_step ok56 extOk mixed (lok30_1.inner (by kernel_rfl)) ih h1 h2 h (e30l0b m _ _ _) rfl h3
      · exact qok30l0 _ _ _ h1 h2 h3
    · exact qok30l0 _ _ _ h1 h2 h3
noncomputable def Q30l0b : SumK := fun vals s => q30l0b (fuelOf vals s.h) vals s
theorem qok30l0b : SumKOk Try.prog (loopN Try.f30 0) 29 [0, 1, 5] [4] Q30l0b := fuel_ok qm30l0b fuelOf
noncomputable def L30_2 : LoopT := addL L30_1 5 ([0, 1, 5], []) (sumK 29 [0, 1, 5] [4] Q30l0b)
theorem lok30_2 : LfOkF Try.prog L30_2 Try.f30 := lfOkF_add lok30_1 qok30l0b (by kernel_rfl) (by kernel_rfl) (by kernel_rfl)

/-- laws.eqFloat32S -/
noncomputable def r30b (x0 x1 : List (List Int)) : Nat × Bool :=
 cond ((((x0.length : Nat) : Int) : Int) != ((x1.length : Nat) : Int))
  (0, false)
  (cond (Nat.beq (r30l0b (1000 + x1.length + x0.length) 0 x0 x1) 0)
   (0, false)
   (cond (Nat.beq (r30l0b (1000 + x1.length + x0.length) 0 x0 x1) 1)
    (0, true)
    (1, false)))
noncomputable def a30b (x0 x1 : List (List Int)) (p : Nat × Bool) : Res := firstT [((Nat.beq (p.1) 0), .bool (p.2), ⟨[⟨true, (some (.tab [.fl .f32] x0))⟩, ⟨true, (some (.tab [.fl .f32] x1))⟩], 2, []⟩)]
noncomputable def w30b (x0 x1 : List (List Int)) : Res :=
 (cond ((((x0.length : Nat) : Int) : Int) != ((x1.length : Nat) : Int))
 (a30b x0 x1 (0, false))
 (cond (Nat.beq (r30l0b (1000 + x1.length + x0.length) 0 x0 x1) 0)
  (a30b x0 x1 (0, false))
  (cond (Nat.beq (r30l0b (1000 + x1.length + x0.length) 0 x0 x1) 1)
   (a30b x0 x1 (0, true))
   none)))
set_option maxRecDepth 100000 in
set_option maxHeartbeats 4000000 in
theorem e30b (x0 x1 : List (List Int)) : evFn Try.prog ext T56 L30_2 200 Try.f30 [wsl 0, wsl 1] ⟨[⟨true, (some (.tab [.fl .f32] x0))⟩, ⟨true, (some (.tab [.fl .f32] x1))⟩], 2, []⟩ = firstT [((Nat.beq ((r30b x0 x1).1) 0), .bool ((r30b x0 x1).2), ⟨[⟨true, (some (.tab [.fl .f32] x0))⟩, ⟨true, (some (.tab [.fl .f32] x1))⟩], 2, []⟩)] :=
 (show evFn Try.prog ext T56 L30_2 200 Try.f30 [wsl 0, wsl 1] ⟨[⟨true, (some (.tab [.fl .f32] x0))⟩, ⟨true, (some (.tab [.fl .f32] x1))⟩], 2, []⟩ = w30b x0 x1 from by kernel_rfl).trans
 (show w30b x0 x1 = a30b x0 x1 (r30b x0 x1) from by unfold w30b r30b; exact (cond_app (a30b x0 x1) _ rfl (cond_app (a30b x0 x1) _ rfl (cond_app (a30b x0 x1) _ rfl rfl))))
noncomputable def s30b (args : List Value) (s : St) : List (Bool × Value × St) :=
 match args, s.h with
 | [.iface f0 .nilIface, .iface f1 .nilIface], [⟨true, some (.tab [.fl .f32] x0)⟩, ⟨true, some (.tab [.fl .f32] x1)⟩] => if f0 = 0 ∧ f1 = 1 then [((Nat.beq ((r30b x0 x1).1) 0), .bool ((r30b x0 x1).2), ⟨[⟨true, (some (.tab [.fl .f32] x0))⟩, ⟨true, (some (.tab [.fl .f32] x1))⟩], 2, []⟩)] else T56 30 args s
 | _, _ => T56 30 args s
noncomputable def T57 : CallF := addF T56 30 s30b
set_option maxRecDepth 100000 in
set_option maxHeartbeats 4000000 in
theorem ok57 : CfOk Try.prog T57 := by
  refine cfOk_add ok56 fun args s r s' h1 h2 h3 => ?_
  unfold s30b at h3; split at h3
  · rename_i h; split at h3
    · rename_i hc; obtain ⟨rfl, rfl⟩ := hc; exact callOk ok56 Try.func30 h1 h2 h lok30_2.body (e30b _ _) rfl h3
    · exact ok56 _ _ _ _ _ h1 h2 h3
  · exact ok56 _ _ _ _ _ h1 h2 h3

/-- laws.markFloat32S, loop 0: one round -/
noncomputable def b32l0b (ih : Int → Int → List (List Int) → (Nat × Int × List (List Int))) (x0 x1 : Int) (x2 : List (List Int)) : Nat × Int × List (List Int) :=
 cond (decide ((x1 : Int) < ((x2.length : Nat) : Int)))
  (cond ((decide ((0 : Int) ≤ x1)) && (Nat.blt (Int.toNat x1) x2.length))
   (ih (IntKind.i64.wrap (x0 + 1)) (IntKind.i64.wrap (x1 + 1)) (x2.set (Int.toNat x1) [(((ofInt .f32 x0) : Nat) : Int)]))
   (1, 0, []))
  (0, x0, x2)
noncomputable def r32l0b : Nat → Int → Int → List (List Int) → (Nat × Int × List (List Int))
 | 0 => fun _ _ _ => (1, 0, [])
 | m + 1 => b32l0b (r32l0b m)
noncomputable def a32l0b (x0 x1 : Int) (x2 : List (List Int)) (p : Nat × Int × List (List Int)) : Option (Fin' × List Value × St) := firstT ([((Nat.beq (p.1) 0), .exit 0, [.int .i64 (p.2.1)], ⟨[⟨true, (some (.tab [.fl .f32] (p.2.2)))⟩], 1, [0]⟩)].map fun (b, x) => (b, (x.1, frameOf 20 [1] x.2.1, x.2.2)))
noncomputable def u32l0b (x0 x1 : Int) (x2 : List (List Int)) (p : Nat × Int × List (List Int)) : Option (Fin' × List Value × St) := alts ([((Nat.beq (p.1) 0), .exit 0, [.int .i64 (p.2.1)], ⟨[⟨true, (some (.tab [.fl .f32] (p.2.2)))⟩], 1, [0]⟩)].map fun (b, x) => (b, (x.1, frameOf 20 [1] x.2.1, x.2.2))) some
theorem v32l0b (x0 x1 : Int) (x2 : List (List Int)) (p : Nat × Int × List (List Int)) : u32l0b x0 x1 x2 p = a32l0b x0 x1 x2 p := alts_first _
noncomputable def q32l0b (m : Nat) : SumK := fun vals s =>
 match vals, s.h with
 | [.iface f0 .nilIface, .int .i64 x0, .int .i64 x1], [⟨true, some (.tab [.fl .f32] x2)⟩] => if f0 = 0 then [((Nat.beq ((r32l0b m x0 x1 x2).1) 0), .exit 0, [.int .i64 ((r32l0b m x0 x1 x2).2.1)], ⟨[⟨true, (some (.tab [.fl .f32] ((r32l0b m x0 x1 x2).2.2)))⟩], 1, [0]⟩)] else Q32l0 vals s
 | _, _ => Q32l0 vals s
noncomputable def w32l0b (ih : Int → Int → List (List Int) → (Nat × Int × List (List Int))) (x0 x1 : Int) (x2 : List (List Int)) : Option (Fin' × List Value × St) :=
 (cond (decide ((x1 : Int) < ((x2.length : Nat) : Int)))
 (cond ((decide ((0 : Int) ≤ x1)) && (Nat.blt (Int.toNat x1) x2.length))
  (cond (Nat.blt (Int.toNat x1) x2.length)
   (u32l0b x0 x1 x2 (ih (IntKind.i64.wrap (x0 + 1)) (IntKind.i64.wrap (x1 + 1)) (x2.set (Int.toNat x1) [(((ofInt .f32 x0) : Nat) : Int)])))
   none)
  none)
 (a32l0b x0 x1 x2 (0, x0, x2)))
set_option maxRecDepth 100000 in
set_option maxHeartbeats 4000000 in
theorem e32l0b (m : Nat) (x0 x1 : Int) (x2 : List (List Int)) : evC Try.prog ext T57 L32_1 200 (loopN Try.f32 0) (loopTail ([0, 1, 5], []) [1] [0] (sumK 20 [0, 1, 5] [1] (q32l0b m))) (frameOf 20 [0, 1, 5] [wsl 0, .int .i64 x0, .int .i64 x1]) ⟨[⟨true, (some (.tab [.fl .f32] x2))⟩], 1, []⟩ = firstT ([((Nat.beq ((r32l0b (m + 1) x0 x1 x2).1) 0), .exit 0, [.int .i64 ((r32l0b (m + 1) x0 x1 x2).2.1)], ⟨[⟨true, (some (.tab [.fl .f32] ((r32l0b (m + 1) x0 x1 x2).2.2)))⟩], 1, [0]⟩)].map fun (b, x) => (b, (x.1, frameOf 20 [1] x.2.1, x.2.2))) :=
 (show evC Try.prog ext T57 L32_1 200 (loopN Try.f32 0) (loopTail ([0, 1, 5], []) [1] [0] (sumK 20 [0, 1, 5] [1] (q32l0b m))) (frameOf 20 [0, 1, 5] [wsl 0, .int .i64 x0, .int .i64 x1]) ⟨[⟨true, (some (.tab [.fl .f32] x2))⟩], 1, []⟩ = w32l0b (r32l0b m) x0 x1 x2 from by kernel_rfl).trans
 (show w32l0b (r32l0b m) x0 x1 x2 = a32l0b x0 x1 x2 (r32l0b (m + 1) x0 x1 x2) from by unfold w32l0b; show _ = a32l0b x0 x1 x2 (b32l0b (r32l0b m) x0 x1 x2); unfold b32l0b; exact (cond_both (a32l0b x0 x1 x2) _ (fun h0 => (cond_both (a32l0b x0 x1 x2) _ (fun h1 => (cond_t (ev_and2 h1) (v32l0b x0 x1 x2 ((r32l0b m) (IntKind.i64.wrap (x0 + 1)) (IntKind.i64.wrap (x1 + 1)) (x2.set (Int.toNat x1) [(((ofInt .f32 x0) : Nat) : Int)]))))) (fun h1 => rfl))) (fun h0 => rfl)))
set_option maxRecDepth 100000 in
set_option maxHeartbeats 4000000 in
theorem qm32l0b : ∀ m, SumKOk Try.prog (loopN Try.f32 0) 20 [0, 1, 5] [1] (q32l0b m) := by
  intro m
  induction m with
  | zero =>
    intro vals s x h1 h2 h3
    unfold q32l0b at h3; split at h3
    · rename_i h; split at h3
      · rename_i hc; obtain ⟨rfl⟩ := hc; exact absurd h3 (by simp [r32l0b, firstT, Nat.beq])
      · exact qok32l0 _ _ _ h1 h2 h3
    · exact qok32l0 _ _ _ h1 h2 h3
  | succ m ih =>
    intro vals s x h1 h2 h3
    unfold q32l0b at h3; split at h3
    · rename_i h; split at h3
      · rename_i hc; obtain ⟨rfl⟩ := hc; exact sum_step ok57 extOk mixed (lok32_1.inner (by kernel_rfl)) ih h1 h2 h (e32l0b m _ _ _) rfl h3
      · exact qok32l0 _ _ _ h1 h2 h3
    · exact qok32l0 _ _ _ h1 h2 h3
noncomputable def Q32l0b : SumK := fun vals s => q32l0b (fuelOf vals s.h) vals s
theorem qok32l0b : SumKOk Try.prog (loopN Try.f32 0) 20 [0, 1, 5] [1] Q32l0b := fuel_ok qm32l0b fuelOf
noncomputable def L32_2 : LoopT := addL L32_1 3 ([0, 1, 5], []) (sumK 20 [0, 1, 5] [1] Q32l0b)
theorem lok32_2 : LfOkF Try.prog L32_2 Try.f32 := lfOkF_add lok32_1 qok32l0b (by kernel_rfl) (by kernel_rfl) (by kernel_rfl)

/-- laws.markFloat32S -/
noncomputable def r32b (x0 : Int) (x1 : List (List Int)) : Nat × Int × List (List Int) :=
 cond (Nat.beq ((r32l0b (1000 + x1.length) x0 0 x1).1) 0)
  (0, ((r32l0b (1000 + x1.length) x0 0 x1).2.1), ((r32l0b (1000 + x1.length) x0 0 x1).2.2))
  (1, 0, [])
noncomputable def a32b (x0 : Int) (x1 : List (List Int)) (p : Nat × Int × List (List Int)) : Res := firstT [((Nat.beq (p.1) 0), .int .i64 (p.2.1), ⟨[⟨true, (some (.tab [.fl .f32] (p.2.2)))⟩], 1, [0]⟩)]
noncomputable def w32b (x0 : Int) (x1 : List (List Int)) : Res :=
 (cond (Nat.beq ((r32l0b (1000 + x1.length) x0 0 x1).1) 0)
 (a32b x0 x1 (0, ((r32l0b (1000 + x1.length) x0 0 x1).2.1), ((r32l0b (1000 + x1.length) x0 0 x1).2.2)))
 none)
set_option maxRecDepth 100000 in
set_option maxHeartbeats 4000000 in
theorem e32b (x0 : Int) (x1 : List (List Int)) : evFn Try.prog ext T57 L32_2 200 Try.f32 [wsl 0, .int .i64 x0] ⟨[⟨true, (some (.tab [.fl .f32] x1))⟩], 1, []⟩ = firstT [((Nat.beq ((r32b x0 x1).1) 0), .int .i64 ((r32b x0 x1).2.1), ⟨[⟨true, (some (.tab [.fl .f32] ((r32b x0 x1).2.2)))⟩], 1, [0]⟩)] :=
 (show evFn Try.prog ext T57 L32_2 200 Try.f32 [wsl 0, .int .i64 x0] ⟨[⟨true, (some (.tab [.fl .f32] x1))⟩], 1, []⟩ = w32b x0 x1 from by kernel_rfl).trans
 (show w32b x0 x1 = a32b x0 x1 (r32b x0 x1) from by unfold w32b r32b; exact (cond_app (a32b x0 x1) _ rfl rfl))
noncomputable def s32b (args : List Value) (s : St) : List (Bool × Value × St) :=
 match args, s.h with
 | [.iface f0 .nilIface, .int .i64 x0], [⟨true, some (.tab [.fl .f32] x1)⟩] => if f0 = 0 then [((Nat.beq ((r32b x0 x1).1) 0), .int .i64 ((r32b x0 x1).2.1), ⟨[⟨true, (some (.tab [.fl .f32] ((r32b x0 x1).2.2)))⟩], 1, [0]⟩)] else T57 32 args s
 | _, _ => T57 32 args s
noncomputable def T58 : CallF := addF T57 32 s32b
set_option maxRecDepth 100000 in
set_option maxHeartbeats 4000000 in
theorem ok58 : CfOk Try.prog T58 := by
  refine cfOk_add ok57 fun args s r s' h1 h2 h3 => ?_
  unfold s32b at h3; split at h3
  · rename_i h; split at h3
    · rename_i hc; obtain ⟨rfl⟩ := hc; exact callOk ok57 Try.func32 h1 h2 h lok32_2.body (e32b _ _) rfl h3
    · exact ok57 _ _ _ _ _ h1 h2 h3
  · exact ok57 _ _ _ _ _ h1 h2 h3

/-- laws.heldFloat32S, loop 0: one round -/
noncomputable def b33l0b (ih : Int → Int → List (List Int) → (Nat × Int × Int)) (x0 x1 : Int) (x2 : List (List Int)) : Nat × Int × Int :=
 cond (decide ((x1 : Int) < ((x2.length : Nat) : Int)))
  (cond ((decide ((0 : Int) ≤ x1)) && (Nat.blt (Int.toNat x1) x2.length))
   (cond (!feq .f32 (Int.toNat ((x2.getD (Int.toNat x1) []).getD 0 0)) (ofInt .f32 x0))
    (0, x0, 0)
    (ih (IntKind.i64.wrap (x0 + 1)) (IntKind.i64.wrap (x1 + 1)) x2))
   (2, 0, 0))
  (1, 0, x0)
noncomputable def r33l0b : Nat → Int → Int → List (List Int) → (Nat × Int × Int)
 | 0 => fun _ _ _ => (2, 0, 0)
 | m + 1 => b33l0b (r33l0b m)
noncomputable def a33l0b (x0 x1 : Int) (x2 : List (List Int)) (p : Nat × Int × Int) : Option (Fin' × List Value × St) := firstT ([((Nat.beq (p.1) 0), .ret, [.int .i64 (p.2.1), .int .i64 (-1)], ⟨[⟨true, (some (.tab [.fl .f32] x2))⟩], 1, []⟩), ((Nat.beq (p.1) 1), .exit 0, [.int .i64 (p.2.2), anyV], ⟨[⟨true, (some (.tab [.fl .f32] x2))⟩], 1, []⟩)].map fun (b, x) => (b, (x.1, frameOf 22 [1, 4] x.2.1, x.2.2)))
noncomputable def u33l0b (x0 x1 : Int) (x2 : List (List Int)) (p : Nat × Int × Int) : Option (Fin' × List Value × St) := alts ([((Nat.beq (p.1) 0), .ret, [.int .i64 (p.2.1), .int .i64 (-1)], ⟨[⟨true, (some (.tab [.fl .f32] x2))⟩], 1, []⟩), ((Nat.beq (p.1) 1), .exit 0, [.int .i64 (p.2.2), anyV], ⟨[⟨true, (some (.tab [.fl .f32] x2))⟩], 1, []⟩)].map fun (b, x) => (b, (x.1, frameOf 22 [1, 4] x.2.1, x.2.2))) some
theorem v33l0b (x0 x1 : Int) (x2 : List (List Int)) (p : Nat × Int × Int) : u33l0b x0 x1 x2 p = a33l0b x0 x1 x2 p := alts_first _
noncomputable def q33l0b (m : Nat) : SumK := fun vals s =>
 match vals, s.h with
 | [.iface f0 .nilIface, .int .i64 x0, .int .i64 x1], [⟨true, some (.tab [.fl .f32] x2)⟩] => if f0 = 0 then [((Nat.beq ((r33l0b m x0 x1 x2).1) 0), .ret, [.int .i64 ((r33l0b m x0 x1 x2).2.1), .int .i64 (-1)], ⟨[⟨true, (some (.tab [.fl .f32] x2))⟩], 1, []⟩), ((Nat.beq ((r33l0b m x0 x1 x2).1) 1), .exit 0, [.int .i64 ((r33l0b m x0 x1 x2).2.2), anyV], ⟨[⟨true, (some (.tab [.fl .f32] x2))⟩], 1, []⟩)] else Q33l0 vals s
 | _, _ => Q33l0 vals s
noncomputable def w33l0b (ih : Int → Int → List (List Int) → (Nat × Int × Int)) (x0 x1 : Int) (x2 : List (List Int)) : Option (Fin' × List Value × St) :=
 (cond (decide ((x1 : Int) < ((x2.length : Nat) : Int)))
 (cond ((decide ((0 : Int) ≤ x1)) && (Nat.blt (Int.toNat x1) x2.length))
  (cond (Nat.blt (Int.toNat x1) x2.length)
   (cond (!feq .f32 (Int.toNat ((x2.getD (Int.toNat x1) []).getD 0 0)) (ofInt .f32 x0))
    (a33l0b x0 x1 x2 (0, x0, 0))
    (u33l0b x0 x1 x2 (ih (IntKind.i64.wrap (x0 + 1)) (IntKind.i64.wrap (x1 + 1)) x2)))
   none)
  none)
 (a33l0b x0 x1 x2 (1, 0, x0)))
set_option maxRecDepth 100000 in
set_option maxHeartbeats 4000000 in
theorem e33l0b (m : Nat) (x0 x1 : Int) (x2 : List (List Int)) : evC Try.prog ext T58 L33_1 200 (loopN Try.f33 0) (loopTail ([0, 1, 5], []) [1, 4] [] (sumK 22 [0, 1, 5] [1, 4] (q33l0b m))) (frameOf 22 [0, 1, 5] [wsl 0, .int .i64 x0, .int .i64 x1]) ⟨[⟨true, (some (.tab [.fl .f32] x2))⟩], 1, []⟩ = firstT ([((Nat.beq ((r33l0b (m + 1) x0 x1 x2).1) 0), .ret, [.int .i64 ((r33l0b (m + 1) x0 x1 x2).2.1), .int .i64 (-1)], ⟨[⟨true, (some (.tab [.fl .f32] x2))⟩], 1, []⟩), ((Nat.beq ((r33l0b (m + 1) x0 x1 x2).1) 1), .exit 0, [.int .i64 ((r33l0b (m + 1) x0 x1 x2).2.2), anyV], ⟨[⟨true, (some (.tab [.fl .f32] x2))⟩], 1, []⟩)].map fun (b, x) => (b, (x.1, frameOf 22 [1, 4] x.2.1, x.2.2))) :=
 (show evC Try.prog ext T58 L33_1 200 (loopN Try.f33 0) (loopTail ([0, 1, 5], []) [1, 4] [] (sumK 22 [0, 1, 5] [1, 4] (q33l0b m))) (frameOf 22 [0, 1, 5] [wsl 0, .int .i64 x0, .int .i64 x1]) ⟨[⟨true, (some (.tab [.fl .f32] x2))⟩], 1, []⟩ = w33l0b (r33l0b m) x0 x1 x2 from by kernel_rfl).trans
 (show w33l0b (r33l0b m) x0 x1 x2 = a33l0b x0 x1 x2 (r33l0b (m + 1) x0 x1 x2) from by unfold w33l0b; show _ = a33l0b x0 x1 x2 (b33l0b (r33l0b m) x0 x1 x2); unfold b33l0b; exact (cond_both (a33l0b x0 x1 x2) _ (fun h0 => (cond_both (a33l0b x0 x1 x2) _ (fun h1 => (cond_t (ev_and2 h1) (cond_app (a33l0b x0 x1 x2) _ rfl (v33l0b x0 x1 x2 ((r33l0b m) (IntKind.i64.wrap (x0 + 1)) (IntKind.i64.wrap (x1 + 1)) x2))))) (fun h1 => rfl))) (fun h0 => rfl)))
set_option maxRecDepth 100000 in
set_option maxHeartbeats 4000000 in
theorem qm33l0b : ∀ m, SumKOk Try.prog (loopN Try.f33 0) 22 [0, 1, 5] [1, 4] (q33l0b m) := by
  intro m
  induction m with
  | zero =>
    intro vals s x h1 h2 h3
    unfold q33l0b at h3; split at h3
    · rename_i h; split at h3
      · rename_i hc; obtain ⟨rfl⟩ := hc; exact absurd h3 (by simp [r33l0b, firstT, Nat.beq])
      · exact qok33l0 _ _ _ h1 h2 h3
    · exact qok33l0 _ _ _ h1 h2 h3
  | succ m ih =>
    intro vals s x h1 h2 h3
    unfold q33l0b at h3; split at h3
    · rename_i h; split at h3
      · rename_i hc; obtain ⟨rfl⟩ := hc; exact sum_step ok58 extOk mixed (lok33_1.inner (by kernel_rfl)) ih h1 h2 h (e33l0b m _ _ _) rfl h3
      · exact qok33l0 _ _ _ h1 h2 h3
    · exact qok33l0 _ _ _ h1 h2 h3
noncomputable def Q33l0b : SumK := fun vals s => q33l0b (fuelOf vals s.h) vals s
theorem qok33l0b : SumKOk Try.prog (loopN Try.f33 0) 22 [0, 1, 5] [1, 4] Q33l0b := fuel_ok qm33l0b fuelOf
noncomputable def L33_2 : LoopT := addL L33_1 3 ([0, 1, 5], []) (sumK 22 [0, 1, 5] [1, 4] Q33l0b)
theorem lok33_2 : LfOkF Try.prog L33_2 Try.f33 := lfOkF_add lok33_1 qok33l0b (by kernel_rfl) (by kernel_rfl) (by kernel_rfl)

/-- laws.heldFloat32S -/
noncomputable def r33b (x0 : Int) (x1 : List (List Int)) : Nat × Int :=
 cond (Nat.beq ((r33l0b (1000 + x1.length) x0 0 x1).1) 0)
  (0, (-1))
  (cond (Nat.beq ((r33l0b (1000 + x1.length) x0 0 x1).1) 1)
   (0, ((r33l0b (1000 + x1.length) x0 0 x1).2.2))
   (1, 0))
noncomputable def a33b (x0 : Int) (x1 : List (List Int)) (p : Nat × Int) : Res := firstT [((Nat.beq (p.1) 0), .int .i64 (p.2), ⟨[⟨true, (some (.tab [.fl .f32] x1))⟩], 1, []⟩)]
noncomputable def w33b (x0 : Int) (x1 : List (List Int)) : Res :=
 (cond (Nat.beq ((r33l0b (1000 + x1.length) x0 0 x1).1) 0)
 (a33b x0 x1 (0, (-1)))
 (cond (Nat.beq ((r33l0b (1000 + x1.length) x0 0 x1).1) 1)
  (a33b x0 x1 (0, ((r33l0b (1000 + x1.length) x0 0 x1).2.2)))
  none))
set_option maxRecDepth 100000 in
set_option maxHeartbeats 4000000 in
theorem e33b (x0 : Int) (x1 : List (List Int)) : evFn Try.prog ext T58 L33_2 200 Try.f33 [wsl 0, .int .i64 x0] ⟨[⟨true, (some (.tab [.fl .f32] x1))⟩], 1, []⟩ = firstT [((Nat.beq ((r33b x0 x1).1) 0), .int .i64 ((r33b x0 x1).2), ⟨[⟨true, (some (.tab [.fl .f32] x1))⟩], 1, []⟩)] :=
 (show evFn Try.prog ext T58 L33_2 200 Try.f33 [wsl 0, .int .i64 x0] ⟨[⟨true, (some (.tab [.fl .f32] x1))⟩], 1, []⟩ = w33b x0 x1 from by kernel_rfl).trans
 (show w33b x0 x1 = a33b x0 x1 (r33b x0 x1) from by unfold w33b r33b; exact (cond_app (a33b x0 x1) _ rfl (cond_app (a33b x0 x1) _ rfl rfl)))
noncomputable def s33b (args : List Value) (s : St) : List (Bool × Value × St) :=
 match args, s.h with
 | [.iface f0 .nilIface, .int .i64 x0], [⟨true, some (.tab [.fl .f32] x1)⟩] => if f0 = 0 then [((Nat.beq ((r33b x0 x1).1) 0), .int .i64 ((r33b x0 x1).2), ⟨[⟨true, (some (.tab [.fl .f32] x1))⟩], 1, []⟩)] else T58 33 args s
 | _, _ => T58 33 args s
noncomputable def T59 : CallF := addF T58 33 s33b
set_option maxRecDepth 100000 in
set_option maxHeartbeats 4000000 in
theorem ok59 : CfOk Try.prog T59 := by
  refine cfOk_add ok58 fun args s r s' h1 h2 h3 => ?_
  unfold s33b at h3; split at h3
  · rename_i h; split at h3
    · rename_i hc; obtain ⟨rfl⟩ := hc; exact callOk ok58 Try.func33 h1 h2 h lok33_2.body (e33b _ _) rfl h3
    · exact ok58 _ _ _ _ _ h1 h2 h3
  · exact ok58 _ _ _ _ _ h1 h2 h3

/-- laws.FnExactFlowsOf -/
noncomputable def r6 (x0 x1 : Nat) (x2 : List (List Int)) : Nat × Bool :=
 cond (decide (((r24 1048576 x2) : Int) < 0))
  (0, true)
  (cond (Nat.beq ((r25 x2).1) 0)
   (cond (Nat.beq ((r16 x0 x1 ((r25 x2).2)).1) 0)
    (cond (Nat.beq ((r15 x0 x1 ((r25 x2).2)).1) 0)
     (cond (!(r30 ((r16 x0 x1 ((r25 x2).2)).2.2)))
      (0, false)
      (cond ((((r15 x0 x1 ((r25 x2).2)).2.1) : Int) != ((r16 x0 x1 ((r25 x2).2)).2.1))
       (0, false)
       (cond (Nat.beq ((r27 ((r25 x2).2) ((r25 x2).2)).1) 0)
        (cond (!((r27 ((r25 x2).2) ((r25 x2).2)).2))
         (0, false)
         (cond (Nat.beq ((r31 1 ((r25 x2).2)).1) 0)
          (cond (decide ((((r31 1 ((r25 x2).2)).2.1) : Int) < 0))
           (0, false)
           (0, true))
          (1, false)))
        (1, false))))
     (cond (Nat.beq ((r15 x0 x1 ((r25 x2).2)).1) 1)
      (cond (Nat.beq ((r30b ((r15 x0 x1 ((r25 x2).2)).2.2) ((r16 x0 x1 ((r25 x2).2)).2.2)).1) 0)
       (cond (!((r30b ((r15 x0 x1 ((r25 x2).2)).2.2) ((r16 x0 x1 ((r25 x2).2)).2.2)).2))
        (0, false)
        (cond ((0 : Int) != ((r16 x0 x1 ((r25 x2).2)).2.1))
         (0, false)
         (cond (Nat.beq ((r27 ((r25 x2).2) ((r25 x2).2)).1) 0)
          (cond (!((r27 ((r25 x2).2) ((r25 x2).2)).2))
           (0, false)
           (cond (Nat.beq ((r31 1 ((r25 x2).2)).1) 0)
            (cond (decide ((((r31 1 ((r25 x2).2)).2.1) : Int) < 0))
             (0, false)
             (cond (Nat.beq ((r32b 1 ((r15 x0 x1 ((r25 x2).2)).2.2)).1) 0)
              (cond (Nat.beq ((r33b 1 ((r32b 1 ((r15 x0 x1 ((r25 x2).2)).2.2)).2.2)).1) 0)
               (cond (decide ((((r33b 1 ((r32b 1 ((r15 x0 x1 ((r25 x2).2)).2.2)).2.2)).2) : Int) < 0))
                (0, false)
                (cond ((((r33b 1 ((r32b 1 ((r15 x0 x1 ((r25 x2).2)).2.2)).2.2)).2) : Int) != ((r32b 1 ((r15 x0 x1 ((r25 x2).2)).2.2)).2.1))
                 (0, false)
                 (0, true)))
               (1, false))
              (1, false)))
            (1, false)))
          (1, false))))
       (1, false))
      (1, false)))
    (1, false))
   (1, false))
noncomputable def a6 (x0 x1 : Nat) (x2 : List (List Int)) (p : Nat × Bool) : Res := firstT [((Nat.beq (p.1) 0), .bool (p.2), ⟨[⟨false, (some (.tab sc0 x2))⟩], 1, []⟩)]
noncomputable def w6 (x0 x1 : Nat) (x2 : List (List Int)) : Res :=
 (cond (decide (((r24 1048576 x2) : Int) < 0))
 (a6 x0 x1 x2 (0, true))
 (cond (Nat.beq ((r25 x2).1) 0)
  (cond (Nat.beq ((r16 x0 x1 ((r25 x2).2)).1) 0)
   (cond (Nat.beq ((r25 x2).1) 0)
    (cond (Nat.beq ((r15 x0 x1 ((r25 x2).2)).1) 0)
     (cond (!(r30 ((r16 x0 x1 ((r25 x2).2)).2.2)))
      (a6 x0 x1 x2 (0, false))
      (cond ((((r15 x0 x1 ((r25 x2).2)).2.1) : Int) != ((r16 x0 x1 ((r25 x2).2)).2.1))
       (a6 x0 x1 x2 (0, false))
       (cond (Nat.beq ((r25 x2).1) 0)
        (cond (Nat.beq ((r27 ((r25 x2).2) ((r25 x2).2)).1) 0)
         (cond (!((r27 ((r25 x2).2) ((r25 x2).2)).2))
          (a6 x0 x1 x2 (0, false))
          (cond (Nat.beq ((r31 1 ((r25 x2).2)).1) 0)
           (cond (decide ((((r31 1 ((r25 x2).2)).2.1) : Int) < 0))
            (a6 x0 x1 x2 (0, false))
            (cond (!(r30 ((r16 x0 x1 ((r25 x2).2)).2.2)))
             (some (.bool false, ⟨[⟨false, (some (.tab sc0 x2))⟩], 1, []⟩))
             (cond ((((r15 x0 x1 ((r25 x2).2)).2.1) : Int) != ((r16 x0 x1 ((r25 x2).2)).2.1))
              (some (.bool false, ⟨[⟨false, (some (.tab sc0 x2))⟩], 1, []⟩))
              (cond (Nat.beq ((r25 x2).1) 0)
               (cond (Nat.beq ((r15 x0 x1 ((r25 x2).2)).1) 0)
                (cond (!(r30 ((r16 x0 x1 ((r25 x2).2)).2.2)))
                 (some (.bool false, ⟨[⟨false, (some (.tab sc0 x2))⟩], 1, []⟩))
                 (cond ((((r15 x0 x1 ((r25 x2).2)).2.1) : Int) != ((r16 x0 x1 ((r25 x2).2)).2.1))
                  (some (.bool false, ⟨[⟨false, (some (.tab sc0 x2))⟩], 1, []⟩))
                  (a6 x0 x1 x2 (0, true))))
                (cond (Nat.beq ((r15 x0 x1 ((r25 x2).2)).1) 1)
                 (cond (Nat.beq ((r30b ((r15 x0 x1 ((r25 x2).2)).2.2) ((r16 x0 x1 ((r25 x2).2)).2.2)).1) 0)
                  (cond (!((r30b ((r15 x0 x1 ((r25 x2).2)).2.2) ((r16 x0 x1 ((r25 x2).2)).2.2)).2))
                   (some (.bool false, ⟨[⟨false, (some (.tab sc0 x2))⟩], 1, []⟩))
                   (cond ((0 : Int) != ((r16 x0 x1 ((r25 x2).2)).2.1))
                    (some (.bool false, ⟨[⟨false, (some (.tab sc0 x2))⟩], 1, []⟩))
                    (some (.bool true, ⟨[⟨false, (some (.tab sc0 x2))⟩], 1, []⟩))))
                  none)
                 none))
               none))))
           none))
         none)
        none)))
     (cond (Nat.beq ((r15 x0 x1 ((r25 x2).2)).1) 1)
      (cond (Nat.beq ((r30b ((r15 x0 x1 ((r25 x2).2)).2.2) ((r16 x0 x1 ((r25 x2).2)).2.2)).1) 0)
       (cond (!((r30b ((r15 x0 x1 ((r25 x2).2)).2.2) ((r16 x0 x1 ((r25 x2).2)).2.2)).2))
        (a6 x0 x1 x2 (0, false))
        (cond ((0 : Int) != ((r16 x0 x1 ((r25 x2).2)).2.1))
         (a6 x0 x1 x2 (0, false))
         (cond (Nat.beq ((r25 x2).1) 0)
          (cond (Nat.beq ((r27 ((r25 x2).2) ((r25 x2).2)).1) 0)
           (cond (!((r27 ((r25 x2).2) ((r25 x2).2)).2))
            (a6 x0 x1 x2 (0, false))
            (cond (Nat.beq ((r31 1 ((r25 x2).2)).1) 0)
             (cond (decide ((((r31 1 ((r25 x2).2)).2.1) : Int) < 0))
              (a6 x0 x1 x2 (0, false))
              (cond (Nat.beq ((r30b ((r15 x0 x1 ((r25 x2).2)).2.2) ((r16 x0 x1 ((r25 x2).2)).2.2)).1) 0)
               (cond (!((r30b ((r15 x0 x1 ((r25 x2).2)).2.2) ((r16 x0 x1 ((r25 x2).2)).2.2)).2))
                (some (.bool false, ⟨[⟨false, (some (.tab sc0 x2))⟩], 1, []⟩))
                (cond ((0 : Int) != ((r16 x0 x1 ((r25 x2).2)).2.1))
                 (some (.bool false, ⟨[⟨false, (some (.tab sc0 x2))⟩], 1, []⟩))
                 (cond (Nat.beq ((r32b 1 ((r15 x0 x1 ((r25 x2).2)).2.2)).1) 0)
                  (cond (Nat.beq ((r33b 1 ((r32b 1 ((r15 x0 x1 ((r25 x2).2)).2.2)).2.2)).1) 0)
                   (cond (decide ((((r33b 1 ((r32b 1 ((r15 x0 x1 ((r25 x2).2)).2.2)).2.2)).2) : Int) < 0))
                    (a6 x0 x1 x2 (0, false))
                    (cond ((((r33b 1 ((r32b 1 ((r15 x0 x1 ((r25 x2).2)).2.2)).2.2)).2) : Int) != ((r32b 1 ((r15 x0 x1 ((r25 x2).2)).2.2)).2.1))
                     (a6 x0 x1 x2 (0, false))
                     (cond (Nat.beq ((r25 x2).1) 0)
                      (cond (Nat.beq ((r15 x0 x1 ((r25 x2).2)).1) 0)
                       (cond (!(r30 ((r16 x0 x1 ((r25 x2).2)).2.2)))
                        (some (.bool false, ⟨[⟨false, (some (.tab sc0 x2))⟩], 1, []⟩))
                        (cond ((((r15 x0 x1 ((r25 x2).2)).2.1) : Int) != ((r16 x0 x1 ((r25 x2).2)).2.1))
                         (some (.bool false, ⟨[⟨false, (some (.tab sc0 x2))⟩], 1, []⟩))
                         (cond (Nat.beq ((r33b 1 ((r32b 1 ((r15 x0 x1 ((r25 x2).2)).2.2)).2.2)).1) 0)
                          (cond (decide ((((r33b 1 ((r32b 1 ((r15 x0 x1 ((r25 x2).2)).2.2)).2.2)).2) : Int) < 0))
                           (some (.bool false, ⟨[⟨false, (some (.tab sc0 x2))⟩], 1, []⟩))
                           (cond ((((r33b 1 ((r32b 1 ((r15 x0 x1 ((r25 x2).2)).2.2)).2.2)).2) : Int) != ((r32b 1 ((r15 x0 x1 ((r25 x2).2)).2.2)).2.1))
                            (some (.bool false, ⟨[⟨false, (some (.tab sc0 x2))⟩], 1, []⟩))
                            (some (.bool true, ⟨[⟨false, (some (.tab sc0 x2))⟩], 1, []⟩))))
                          none)))
                       (cond (Nat.beq ((r15 x0 x1 ((r25 x2).2)).1) 1)
                        (cond (Nat.beq ((r30b ((r15 x0 x1 ((r25 x2).2)).2.2) ((r16 x0 x1 ((r25 x2).2)).2.2)).1) 0)
                         (cond (!((r30b ((r15 x0 x1 ((r25 x2).2)).2.2) ((r16 x0 x1 ((r25 x2).2)).2.2)).2))
                          (some (.bool false, ⟨[⟨false, (some (.tab sc0 x2))⟩], 1, []⟩))
                          (cond ((0 : Int) != ((r16 x0 x1 ((r25 x2).2)).2.1))
                           (some (.bool false, ⟨[⟨false, (some (.tab sc0 x2))⟩], 1, []⟩))
                           (cond (Nat.beq ((r33b 1 ((r32b 1 ((r15 x0 x1 ((r25 x2).2)).2.2)).2.2)).1) 0)
                            (cond (decide ((((r33b 1 ((r32b 1 ((r15 x0 x1 ((r25 x2).2)).2.2)).2.2)).2) : Int) < 0))
                             (some (.bool false, ⟨[⟨false, (some (.tab sc0 x2))⟩], 1, []⟩))
                             (cond ((((r33b 1 ((r32b 1 ((r15 x0 x1 ((r25 x2).2)).2.2)).2.2)).2) : Int) != ((r32b 1 ((r15 x0 x1 ((r25 x2).2)).2.2)).2.1))
                              (some (.bool false, ⟨[⟨false, (some (.tab sc0 x2))⟩], 1, []⟩))
                              (a6 x0 x1 x2 (0, true))))
                            none)))
                         none)
                        none))
                      none)))
                   none)
                  none)))
               none))
             none))
           none)
          none)))
       none)
      none))
    none)
   none)
  none))
set_option maxRecDepth 100000 in
set_option maxHeartbeats 4000000 in
theorem e6 (x0 x1 : Nat) (x2 : List (List Int)) : evFn Try.prog ext T59 noL 200 Try.f6 [wsl 0, .float .f32 x0, .float .f32 x1] ⟨[⟨false, (some (.tab sc0 x2))⟩], 1, []⟩ = firstT [((Nat.beq ((r6 x0 x1 x2).1) 0), .bool ((r6 x0 x1 x2).2), ⟨[⟨false, (some (.tab sc0 x2))⟩], 1, []⟩)] :=
 (show evFn Try.prog ext T59 noL 200 Try.f6 [wsl 0, .float .f32 x0, .float .f32 x1] ⟨[⟨false, (some (.tab sc0 x2))⟩], 1, []⟩ = w6 x0 x1 x2 from by kernel_rfl).trans
 (show w6 x0 x1 x2 = a6 x0 x1 x2 (r6 x0 x1 x2) from by unfold w6 r6; exact (cond_both (a6 x0 x1 x2) _ (fun h0 => rfl) (fun h0 => (cond_both (a6 x0 x1 x2) _ (fun h1 => (cond_both (a6 x0 x1 x2) _ (fun h2 => (cond_t h1 (cond_both (a6 x0 x1 x2) _ (fun h3 => (cond_both (a6 x0 x1 x2) _ (fun h4 => rfl) (fun h4 => (cond_both (a6 x0 x1 x2) _ (fun h5 => rfl) (fun h5 => (cond_t h1 (cond_both (a6 x0 x1 x2) _ (fun h6 => (cond_both (a6 x0 x1 x2) _ (fun h7 => rfl) (fun h7 => (cond_both (a6 x0 x1 x2) _ (fun h8 => (cond_both (a6 x0 x1 x2) _ (fun h9 => rfl) (fun h9 => (cond_f (ev_not0 (ev_notf h4)) (cond_f h5 (cond_t h1 (cond_t h3 (cond_f (ev_not0 (ev_notf h4)) (cond_f h5 rfl))))))))) (fun h8 => rfl))))) (fun h6 => rfl)))))))) (fun h3 => (cond_both (a6 x0 x1 x2) _ (fun h4 => (cond_both (a6 x0 x1 x2) _ (fun h5 => (cond_both (a6 x0 x1 x2) _ (fun h6 => rfl) (fun h6 => (cond_both (a6 x0 x1 x2) _ (fun h7 => rfl) (fun h7 => (cond_t h1 (cond_both (a6 x0 x1 x2) _ (fun h8 => (cond_both (a6 x0 x1 x2) _ (fun h9 => rfl) (fun h9 => (cond_both (a6 x0 x1 x2) _ (fun h10 => (cond_both (a6 x0 x1 x2) _ (fun h11 => rfl) (fun h11 => (cond_t h5 (cond_f (ev_not0 (ev_notf h6)) (cond_f h7 (cond_both (a6 x0 x1 x2) _ (fun h12 => (cond_both (a6 x0 x1 x2) _ (fun h13 => (cond_both (a6 x0 x1 x2) _ (fun h14 => rfl) (fun h14 => (cond_both (a6 x0 x1 x2) _ (fun h15 => rfl) (fun h15 => (cond_t h1 (cond_f h3 (cond_t h4 (cond_t h5 (cond_f (ev_not0 (ev_notf h6)) (cond_f h7 (cond_t h13 (cond_f h14 (cond_f h15 rfl)))))))))))))) (fun h13 => rfl))) (fun h12 => rfl)))))))) (fun h10 => rfl))))) (fun h8 => rfl)))))))) (fun h5 => rfl))) (fun h4 => rfl)))))) (fun h2 => rfl))) (fun h1 => rfl)))))
noncomputable def s6 (args : List Value) (s : St) : List (Bool × Value × St) :=
 match args, s.h with
 | [.iface f0 .nilIface, .float .f32 x0, .float .f32 x1], [⟨false, some (.tab [.fl .f32, .fl .f32, .fl .f32, .fl .f32, .int .i64] x2)⟩] => if f0 = 0 then [((Nat.beq ((r6 x0 x1 x2).1) 0), .bool ((r6 x0 x1 x2).2), ⟨[⟨false, (some (.tab sc0 x2))⟩], 1, []⟩)] else T59 6 args s
 | _, _ => T59 6 args s
noncomputable def T60 : CallF := addF T59 6 s6
set_option maxRecDepth 100000 in
set_option maxHeartbeats 4000000 in
theorem ok60 : CfOk Try.prog T60 := by
  refine cfOk_add ok59 fun args s r s' h1 h2 h3 => ?_
  unfold s6 at h3; split at h3
  · rename_i h; split at h3
    · rename_i hc; obtain ⟨rfl⟩ := hc; exact callOk ok59 Try.func6 h1 h2 h (lfOkF_no _ _).body (e6 _ _ _) rfl h3
    · exact ok59 _ _ _ _ _ h1 h2 h3
  · exact ok59 _ _ _ _ _ h1 h2 h3
end Go.Proofs.Ytdpkbkmmlbmllaa
