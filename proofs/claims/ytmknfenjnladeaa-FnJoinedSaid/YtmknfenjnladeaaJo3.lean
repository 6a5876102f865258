/- What the functions that the statements reach answer, part 3. -/
import Derived.Test.YtmknfenjnladeaaJo2
namespace Go.Proofs.Ytmknfenjnladeaa
open Go.Ab
set_option maxHeartbeats 4000000
set_option maxRecDepth 100000

/-- spec.l03Flows, loop 0: one round -/
noncomputable def b61l0 (ih : Nat → Nat → Int → List (List Int) → List (List Int) → (Nat × Int × Int × List (List Int) × List (List Int))) (x0 x1 : Nat) (x2 : Int) (x3 x4 : List (List Int)) : Nat × Int × Int × List (List Int) × List (List Int) :=
 cond (decide ((x2 : Int) < ((x3.length : Nat) : Int))) (cond ((decide ((0 : Int) ≤ x2)) && (Nat.blt (Int.toNat x2) x3.length)) (cond ((((x3.getD (Int.toNat x2) []).getD 4 0) : Int) == (-1)) (cond (Nat.beq ((r67 x2 x0 x1 x3).1) 0) (cond (Nat.beq ((r129 (Int.toNat x2) x0 (fsub .f32 ((r67 x2 x0 x1 x3).2) x1) x3).1) 0) (cond ((((r94 ((r129 (Int.toNat x2) x0 (fsub .f32 ((r67 x2 x0 x1 x3).2) x1) x3).2)).2) : Int) != 0) (0, ((r94 ((r129 (Int.toNat x2) x0 (fsub .f32 ((r67 x2 x0 x1 x3).2) x1) x3).2)).2), 0, [], []) (cond (Nat.ble ((x4.length + 1) * 5) 140737488355328) (cond (Nat.beq ((ih x0 x1 (IntKind.i64.wrap (x2 + 1)) x3 (((x4.drop 0).take x4.length) ++ ([[((((r94 ((r129 (Int.toNat x2) x0 (fsub .f32 ((r67 x2 x0 x1 x3).2) x1) x3).2)).1) : Nat) : Int)]] : List (List Int)))).1) 0) (1, 0, ((ih x0 x1 (IntKind.i64.wrap (x2 + 1)) x3 (((x4.drop 0).take x4.length) ++ ([[((((r94 ((r129 (Int.toNat x2) x0 (fsub .f32 ((r67 x2 x0 x1 x3).2) x1) x3).2)).1) : Nat) : Int)]] : List (List Int)))).2.1), (((x4.drop 0).take x4.length) ++ ([[((((r94 ((r129 (Int.toNat x2) x0 (fsub .f32 ((r67 x2 x0 x1 x3).2) x1) x3).2)).1) : Nat) : Int)]] : List (List Int))), []) (cond (Nat.beq ((ih x0 x1 (IntKind.i64.wrap (x2 + 1)) x3 (((x4.drop 0).take x4.length) ++ ([[((((r94 ((r129 (Int.toNat x2) x0 (fsub .f32 ((r67 x2 x0 x1 x3).2) x1) x3).2)).1) : Nat) : Int)]] : List (List Int)))).1) 1) (1, 0, ((ih x0 x1 (IntKind.i64.wrap (x2 + 1)) x3 (((x4.drop 0).take x4.length) ++ ([[((((r94 ((r129 (Int.toNat x2) x0 (fsub .f32 ((r67 x2 x0 x1 x3).2) x1) x3).2)).1) : Nat) : Int)]] : List (List Int)))).2.2.1), ((ih x0 x1 (IntKind.i64.wrap (x2 + 1)) x3 (((x4.drop 0).take x4.length) ++ ([[((((r94 ((r129 (Int.toNat x2) x0 (fsub .f32 ((r67 x2 x0 x1 x3).2) x1) x3).2)).1) : Nat) : Int)]] : List (List Int)))).2.2.2.1), []) (cond (Nat.beq ((ih x0 x1 (IntKind.i64.wrap (x2 + 1)) x3 (((x4.drop 0).take x4.length) ++ ([[((((r94 ((r129 (Int.toNat x2) x0 (fsub .f32 ((r67 x2 x0 x1 x3).2) x1) x3).2)).1) : Nat) : Int)]] : List (List Int)))).1) 2) (2, 0, 0, [], ((ih x0 x1 (IntKind.i64.wrap (x2 + 1)) x3 (((x4.drop 0).take x4.length) ++ ([[((((r94 ((r129 (Int.toNat x2) x0 (fsub .f32 ((r67 x2 x0 x1 x3).2) x1) x3).2)).1) : Nat) : Int)]] : List (List Int)))).2.2.2.2)) (cond (Nat.beq ((ih x0 x1 (IntKind.i64.wrap (x2 + 1)) x3 (((x4.drop 0).take x4.length) ++ ([[((((r94 ((r129 (Int.toNat x2) x0 (fsub .f32 ((r67 x2 x0 x1 x3).2) x1) x3).2)).1) : Nat) : Int)]] : List (List Int)))).1) 3) (2, 0, 0, [], (((x4.drop 0).take x4.length) ++ ([[((((r94 ((r129 (Int.toNat x2) x0 (fsub .f32 ((r67 x2 x0 x1 x3).2) x1) x3).2)).1) : Nat) : Int)]] : List (List Int)))) (4, 0, 0, [], []))))) (4, 0, 0, [], []))) (4, 0, 0, [], [])) (4, 0, 0, [], [])) (cond (Nat.beq ((r67 ((x3.getD (Int.toNat x2) []).getD 4 0) x0 x1 x3).1) 0) (cond (Nat.beq ((r129 (Int.toNat x2) x0 (fsub .f32 0 ((r67 ((x3.getD (Int.toNat x2) []).getD 4 0) x0 x1 x3).2)) x3).1) 0) (cond ((((r94 ((r129 (Int.toNat x2) x0 (fsub .f32 0 ((r67 ((x3.getD (Int.toNat x2) []).getD 4 0) x0 x1 x3).2)) x3).2)).2) : Int) != 0) (0, ((r94 ((r129 (Int.toNat x2) x0 (fsub .f32 0 ((r67 ((x3.getD (Int.toNat x2) []).getD 4 0) x0 x1 x3).2)) x3).2)).2), 0, [], []) (cond (Nat.ble ((x4.length + 1) * 5) 140737488355328) (cond (Nat.beq ((ih x0 x1 (IntKind.i64.wrap (x2 + 1)) x3 (((x4.drop 0).take x4.length) ++ ([[((((r94 ((r129 (Int.toNat x2) x0 (fsub .f32 0 ((r67 ((x3.getD (Int.toNat x2) []).getD 4 0) x0 x1 x3).2)) x3).2)).1) : Nat) : Int)]] : List (List Int)))).1) 0) (1, 0, ((ih x0 x1 (IntKind.i64.wrap (x2 + 1)) x3 (((x4.drop 0).take x4.length) ++ ([[((((r94 ((r129 (Int.toNat x2) x0 (fsub .f32 0 ((r67 ((x3.getD (Int.toNat x2) []).getD 4 0) x0 x1 x3).2)) x3).2)).1) : Nat) : Int)]] : List (List Int)))).2.1), (((x4.drop 0).take x4.length) ++ ([[((((r94 ((r129 (Int.toNat x2) x0 (fsub .f32 0 ((r67 ((x3.getD (Int.toNat x2) []).getD 4 0) x0 x1 x3).2)) x3).2)).1) : Nat) : Int)]] : List (List Int))), []) (cond (Nat.beq ((ih x0 x1 (IntKind.i64.wrap (x2 + 1)) x3 (((x4.drop 0).take x4.length) ++ ([[((((r94 ((r129 (Int.toNat x2) x0 (fsub .f32 0 ((r67 ((x3.getD (Int.toNat x2) []).getD 4 0) x0 x1 x3).2)) x3).2)).1) : Nat) : Int)]] : List (List Int)))).1) 1) (1, 0, ((ih x0 x1 (IntKind.i64.wrap (x2 + 1)) x3 (((x4.drop 0).take x4.length) ++ ([[((((r94 ((r129 (Int.toNat x2) x0 (fsub .f32 0 ((r67 ((x3.getD (Int.toNat x2) []).getD 4 0) x0 x1 x3).2)) x3).2)).1) : Nat) : Int)]] : List (List Int)))).2.2.1), ((ih x0 x1 (IntKind.i64.wrap (x2 + 1)) x3 (((x4.drop 0).take x4.length) ++ ([[((((r94 ((r129 (Int.toNat x2) x0 (fsub .f32 0 ((r67 ((x3.getD (Int.toNat x2) []).getD 4 0) x0 x1 x3).2)) x3).2)).1) : Nat) : Int)]] : List (List Int)))).2.2.2.1), []) (cond (Nat.beq ((ih x0 x1 (IntKind.i64.wrap (x2 + 1)) x3 (((x4.drop 0).take x4.length) ++ ([[((((r94 ((r129 (Int.toNat x2) x0 (fsub .f32 0 ((r67 ((x3.getD (Int.toNat x2) []).getD 4 0) x0 x1 x3).2)) x3).2)).1) : Nat) : Int)]] : List (List Int)))).1) 2) (2, 0, 0, [], ((ih x0 x1 (IntKind.i64.wrap (x2 + 1)) x3 (((x4.drop 0).take x4.length) ++ ([[((((r94 ((r129 (Int.toNat x2) x0 (fsub .f32 0 ((r67 ((x3.getD (Int.toNat x2) []).getD 4 0) x0 x1 x3).2)) x3).2)).1) : Nat) : Int)]] : List (List Int)))).2.2.2.2)) (cond (Nat.beq ((ih x0 x1 (IntKind.i64.wrap (x2 + 1)) x3 (((x4.drop 0).take x4.length) ++ ([[((((r94 ((r129 (Int.toNat x2) x0 (fsub .f32 0 ((r67 ((x3.getD (Int.toNat x2) []).getD 4 0) x0 x1 x3).2)) x3).2)).1) : Nat) : Int)]] : List (List Int)))).1) 3) (2, 0, 0, [], (((x4.drop 0).take x4.length) ++ ([[((((r94 ((r129 (Int.toNat x2) x0 (fsub .f32 0 ((r67 ((x3.getD (Int.toNat x2) []).getD 4 0) x0 x1 x3).2)) x3).2)).1) : Nat) : Int)]] : List (List Int)))) (4, 0, 0, [], []))))) (4, 0, 0, [], []))) (4, 0, 0, [], [])) (4, 0, 0, [], []))) (4, 0, 0, [], [])) (3, 0, 0, [], [])
noncomputable def r61l0 : Nat → Nat → Nat → Int → List (List Int) → List (List Int) → (Nat × Int × Int × List (List Int) × List (List Int))
 | 0 => fun _ _ _ _ _ => (4, 0, 0, [], [])
 | m + 1 => b61l0 (r61l0 m)
noncomputable def a61l0 (x0 x1 : Nat) (x2 : Int) (x3 x4 : List (List Int)) (p : Nat × Int × Int × List (List Int) × List (List Int)) : Option (Fin' × List Value × St) := firstT ([((Nat.beq (p.1) 0), .ret, [wsl 2, vi (p.2.1), wsl 1], ⟨[⟨true, (some (.tab sc0 x3))⟩, ⟨true, (some (.tab [.fl .f32] x4))⟩, ⟨true, (some (.tab [.fl .f32] ([] : List (List Int))))⟩], 2, [1]⟩), ((Nat.beq (p.1) 1), .ret, [wsl 2, vi (p.2.2.1), wsl 3], ⟨[⟨true, (some (.tab sc0 x3))⟩, ⟨true, none⟩, ⟨true, (some (.tab [.fl .f32] ([] : List (List Int))))⟩, ⟨true, (some (.tab [.fl .f32] (p.2.2.2.1)))⟩], 2, [1]⟩), ((Nat.beq (p.1) 2), .exit 0, [anyV, anyV, wsl 2], ⟨[⟨true, (some (.tab sc0 x3))⟩, ⟨true, none⟩, ⟨true, (some (.tab [.fl .f32] (p.2.2.2.2)))⟩], 2, [1]⟩), ((Nat.beq (p.1) 3), .exit 0, [anyV, anyV, wsl 1], ⟨[⟨true, (some (.tab sc0 x3))⟩, ⟨true, (some (.tab [.fl .f32] x4))⟩], 2, [1]⟩)].map fun (b, x) => (b, (x.1, frameOf 62 [6, 7, 8] x.2.1, x.2.2)))
noncomputable def u61l0 (x0 x1 : Nat) (x2 : Int) (x3 x4 : List (List Int)) (p : Nat × Int × Int × List (List Int) × List (List Int)) : Option (Fin' × List Value × St) := alts ([((Nat.beq (p.1) 0), .ret, [wsl 2, vi (p.2.1), wsl 1], ⟨[⟨true, (some (.tab sc0 x3))⟩, ⟨true, (some (.tab [.fl .f32] x4))⟩, ⟨true, (some (.tab [.fl .f32] ([] : List (List Int))))⟩], 2, [1]⟩), ((Nat.beq (p.1) 1), .ret, [wsl 2, vi (p.2.2.1), wsl 3], ⟨[⟨true, (some (.tab sc0 x3))⟩, ⟨true, none⟩, ⟨true, (some (.tab [.fl .f32] ([] : List (List Int))))⟩, ⟨true, (some (.tab [.fl .f32] (p.2.2.2.1)))⟩], 2, [1]⟩), ((Nat.beq (p.1) 2), .exit 0, [anyV, anyV, wsl 2], ⟨[⟨true, (some (.tab sc0 x3))⟩, ⟨true, none⟩, ⟨true, (some (.tab [.fl .f32] (p.2.2.2.2)))⟩], 2, [1]⟩), ((Nat.beq (p.1) 3), .exit 0, [anyV, anyV, wsl 1], ⟨[⟨true, (some (.tab sc0 x3))⟩, ⟨true, (some (.tab [.fl .f32] x4))⟩], 2, [1]⟩)].map fun (b, x) => (b, (x.1, frameOf 62 [6, 7, 8] x.2.1, x.2.2))) some
theorem v61l0 (x0 x1 : Nat) (x2 : Int) (x3 x4 : List (List Int)) (p : Nat × Int × Int × List (List Int) × List (List Int)) : u61l0 x0 x1 x2 x3 x4 p = a61l0 x0 x1 x2 x3 x4 p := alts_first _
noncomputable def q61l0 (m : Nat) : SumK := fun vals s =>
 match vals, s.h with
 | [.iface f0 .nilIface, .float .f32 x0, .float .f32 x1, .iface f1 .nilIface, .int .i64 x2], [⟨true, some (.tab [.fl .f32, .fl .f32, .fl .f32, .fl .f32, .int .i64] x3)⟩, ⟨true, some (.tab [.fl .f32] x4)⟩] => if f0 = 0 ∧ f1 = 1 then [((Nat.beq ((r61l0 m x0 x1 x2 x3 x4).1) 0), .ret, [wsl 2, vi ((r61l0 m x0 x1 x2 x3 x4).2.1), wsl 1], ⟨[⟨true, (some (.tab sc0 x3))⟩, ⟨true, (some (.tab [.fl .f32] x4))⟩, ⟨true, (some (.tab [.fl .f32] ([] : List (List Int))))⟩], 2, [1]⟩), ((Nat.beq ((r61l0 m x0 x1 x2 x3 x4).1) 1), .ret, [wsl 2, vi ((r61l0 m x0 x1 x2 x3 x4).2.2.1), wsl 3], ⟨[⟨true, (some (.tab sc0 x3))⟩, ⟨true, none⟩, ⟨true, (some (.tab [.fl .f32] ([] : List (List Int))))⟩, ⟨true, (some (.tab [.fl .f32] ((r61l0 m x0 x1 x2 x3 x4).2.2.2.1)))⟩], 2, [1]⟩), ((Nat.beq ((r61l0 m x0 x1 x2 x3 x4).1) 2), .exit 0, [anyV, anyV, wsl 2], ⟨[⟨true, (some (.tab sc0 x3))⟩, ⟨true, none⟩, ⟨true, (some (.tab [.fl .f32] ((r61l0 m x0 x1 x2 x3 x4).2.2.2.2)))⟩], 2, [1]⟩), ((Nat.beq ((r61l0 m x0 x1 x2 x3 x4).1) 3), .exit 0, [anyV, anyV, wsl 1], ⟨[⟨true, (some (.tab sc0 x3))⟩, ⟨true, (some (.tab [.fl .f32] x4))⟩], 2, [1]⟩)] else noQ vals s
 | _, _ => noQ vals s
noncomputable def w61l0 (ih : Nat → Nat → Int → List (List Int) → List (List Int) → (Nat × Int × Int × List (List Int) × List (List Int))) (x0 x1 : Nat) (x2 : Int) (x3 x4 : List (List Int)) : Option (Fin' × List Value × St) :=
 (cond (decide ((x2 : Int) < ((x3.length : Nat) : Int)))
 (cond ((decide ((0 : Int) ≤ x2)) && (Nat.blt (Int.toNat x2) x3.length)) (cond (Nat.blt (Int.toNat x2) x3.length) (cond ((((x3.getD (Int.toNat x2) []).getD 4 0) : Int) == (-1)) (cond (Nat.beq ((r67 x2 x0 x1 x3).1) 0) (cond ((decide ((0 : Int) ≤ x2)) && (Nat.blt (Int.toNat x2) x3.length)) (cond (Nat.beq ((r129 (Int.toNat x2) x0 (fsub .f32 ((r67 x2 x0 x1 x3).2) x1) x3).1) 0) (cond ((((r94 ((r129 (Int.toNat x2) x0 (fsub .f32 ((r67 x2 x0 x1 x3).2) x1) x3).2)).2) : Int) != 0) (a61l0 x0 x1 x2 x3 x4 (0, ((r94 ((r129 (Int.toNat x2) x0 (fsub .f32 ((r67 x2 x0 x1 x3).2) x1) x3).2)).2), 0, [], [])) (cond (Nat.ble ((x4.length + 1) * 5) 140737488355328) (cond (Nat.beq ((ih x0 x1 (IntKind.i64.wrap (x2 + 1)) x3 (((x4.drop 0).take x4.length) ++ ([[((((r94 ((r129 (Int.toNat x2) x0 (fsub .f32 ((r67 x2 x0 x1 x3).2) x1) x3).2)).1) : Nat) : Int)]] : List (List Int)))).1) 0) (a61l0 x0 x1 x2 x3 x4 (1, 0, ((ih x0 x1 (IntKind.i64.wrap (x2 + 1)) x3 (((x4.drop 0).take x4.length) ++ ([[((((r94 ((r129 (Int.toNat x2) x0 (fsub .f32 ((r67 x2 x0 x1 x3).2) x1) x3).2)).1) : Nat) : Int)]] : List (List Int)))).2.1), (((x4.drop 0).take x4.length) ++ ([[((((r94 ((r129 (Int.toNat x2) x0 (fsub .f32 ((r67 x2 x0 x1 x3).2) x1) x3).2)).1) : Nat) : Int)]] : List (List Int))), [])) (cond (Nat.beq ((ih x0 x1 (IntKind.i64.wrap (x2 + 1)) x3 (((x4.drop 0).take x4.length) ++ ([[((((r94 ((r129 (Int.toNat x2) x0 (fsub .f32 ((r67 x2 x0 x1 x3).2) x1) x3).2)).1) : Nat) : Int)]] : List (List Int)))).1) 1) (a61l0 x0 x1 x2 x3 x4 (1, 0, ((ih x0 x1 (IntKind.i64.wrap (x2 + 1)) x3 (((x4.drop 0).take x4.length) ++ ([[((((r94 ((r129 (Int.toNat x2) x0 (fsub .f32 ((r67 x2 x0 x1 x3).2) x1) x3).2)).1) : Nat) : Int)]] : List (List Int)))).2.2.1), ((ih x0 x1 (IntKind.i64.wrap (x2 + 1)) x3 (((x4.drop 0).take x4.length) ++ ([[((((r94 ((r129 (Int.toNat x2) x0 (fsub .f32 ((r67 x2 x0 x1 x3).2) x1) x3).2)).1) : Nat) : Int)]] : List (List Int)))).2.2.2.1), [])) (cond (Nat.beq ((ih x0 x1 (IntKind.i64.wrap (x2 + 1)) x3 (((x4.drop 0).take x4.length) ++ ([[((((r94 ((r129 (Int.toNat x2) x0 (fsub .f32 ((r67 x2 x0 x1 x3).2) x1) x3).2)).1) : Nat) : Int)]] : List (List Int)))).1) 2) (a61l0 x0 x1 x2 x3 x4 (2, 0, 0, [], ((ih x0 x1 (IntKind.i64.wrap (x2 + 1)) x3 (((x4.drop 0).take x4.length) ++ ([[((((r94 ((r129 (Int.toNat x2) x0 (fsub .f32 ((r67 x2 x0 x1 x3).2) x1) x3).2)).1) : Nat) : Int)]] : List (List Int)))).2.2.2.2))) (cond (Nat.beq ((ih x0 x1 (IntKind.i64.wrap (x2 + 1)) x3 (((x4.drop 0).take x4.length) ++ ([[((((r94 ((r129 (Int.toNat x2) x0 (fsub .f32 ((r67 x2 x0 x1 x3).2) x1) x3).2)).1) : Nat) : Int)]] : List (List Int)))).1) 3) (a61l0 x0 x1 x2 x3 x4 (2, 0, 0, [], (((x4.drop 0).take x4.length) ++ ([[((((r94 ((r129 (Int.toNat x2) x0 (fsub .f32 ((r67 x2 x0 x1 x3).2) x1) x3).2)).1) : Nat) : Int)]] : List (List Int))))) none)))) none)) none) none) none) (cond ((decide ((0 : Int) ≤ x2)) && (Nat.blt (Int.toNat x2) x3.length)) (cond (Nat.blt (Int.toNat x2) x3.length) (cond (Nat.beq ((r67 ((x3.getD (Int.toNat x2) []).getD 4 0) x0 x1 x3).1) 0) (cond ((decide ((0 : Int) ≤ x2)) && (Nat.blt (Int.toNat x2) x3.length)) (cond (Nat.beq ((r129 (Int.toNat x2) x0 (fsub .f32 0 ((r67 ((x3.getD (Int.toNat x2) []).getD 4 0) x0 x1 x3).2)) x3).1) 0) (cond ((((r94 ((r129 (Int.toNat x2) x0 (fsub .f32 0 ((r67 ((x3.getD (Int.toNat x2) []).getD 4 0) x0 x1 x3).2)) x3).2)).2) : Int) != 0) (a61l0 x0 x1 x2 x3 x4 (0, ((r94 ((r129 (Int.toNat x2) x0 (fsub .f32 0 ((r67 ((x3.getD (Int.toNat x2) []).getD 4 0) x0 x1 x3).2)) x3).2)).2), 0, [], [])) (cond (Nat.ble ((x4.length + 1) * 5) 140737488355328) (cond (Nat.beq ((ih x0 x1 (IntKind.i64.wrap (x2 + 1)) x3 (((x4.drop 0).take x4.length) ++ ([[((((r94 ((r129 (Int.toNat x2) x0 (fsub .f32 0 ((r67 ((x3.getD (Int.toNat x2) []).getD 4 0) x0 x1 x3).2)) x3).2)).1) : Nat) : Int)]] : List (List Int)))).1) 0) (a61l0 x0 x1 x2 x3 x4 (1, 0, ((ih x0 x1 (IntKind.i64.wrap (x2 + 1)) x3 (((x4.drop 0).take x4.length) ++ ([[((((r94 ((r129 (Int.toNat x2) x0 (fsub .f32 0 ((r67 ((x3.getD (Int.toNat x2) []).getD 4 0) x0 x1 x3).2)) x3).2)).1) : Nat) : Int)]] : List (List Int)))).2.1), (((x4.drop 0).take x4.length) ++ ([[((((r94 ((r129 (Int.toNat x2) x0 (fsub .f32 0 ((r67 ((x3.getD (Int.toNat x2) []).getD 4 0) x0 x1 x3).2)) x3).2)).1) : Nat) : Int)]] : List (List Int))), [])) (cond (Nat.beq ((ih x0 x1 (IntKind.i64.wrap (x2 + 1)) x3 (((x4.drop 0).take x4.length) ++ ([[((((r94 ((r129 (Int.toNat x2) x0 (fsub .f32 0 ((r67 ((x3.getD (Int.toNat x2) []).getD 4 0) x0 x1 x3).2)) x3).2)).1) : Nat) : Int)]] : List (List Int)))).1) 1) (a61l0 x0 x1 x2 x3 x4 (1, 0, ((ih x0 x1 (IntKind.i64.wrap (x2 + 1)) x3 (((x4.drop 0).take x4.length) ++ ([[((((r94 ((r129 (Int.toNat x2) x0 (fsub .f32 0 ((r67 ((x3.getD (Int.toNat x2) []).getD 4 0) x0 x1 x3).2)) x3).2)).1) : Nat) : Int)]] : List (List Int)))).2.2.1), ((ih x0 x1 (IntKind.i64.wrap (x2 + 1)) x3 (((x4.drop 0).take x4.length) ++ ([[((((r94 ((r129 (Int.toNat x2) x0 (fsub .f32 0 ((r67 ((x3.getD (Int.toNat x2) []).getD 4 0) x0 x1 x3).2)) x3).2)).1) : Nat) : Int)]] : List (List Int)))).2.2.2.1), [])) (cond (Nat.beq ((ih x0 x1 (IntKind.i64.wrap (x2 + 1)) x3 (((x4.drop 0).take x4.length) ++ ([[((((r94 ((r129 (Int.toNat x2) x0 (fsub .f32 0 ((r67 ((x3.getD (Int.toNat x2) []).getD 4 0) x0 x1 x3).2)) x3).2)).1) : Nat) : Int)]] : List (List Int)))).1) 2) (a61l0 x0 x1 x2 x3 x4 (2, 0, 0, [], ((ih x0 x1 (IntKind.i64.wrap (x2 + 1)) x3 (((x4.drop 0).take x4.length) ++ ([[((((r94 ((r129 (Int.toNat x2) x0 (fsub .f32 0 ((r67 ((x3.getD (Int.toNat x2) []).getD 4 0) x0 x1 x3).2)) x3).2)).1) : Nat) : Int)]] : List (List Int)))).2.2.2.2))) (cond (Nat.beq ((ih x0 x1 (IntKind.i64.wrap (x2 + 1)) x3 (((x4.drop 0).take x4.length) ++ ([[((((r94 ((r129 (Int.toNat x2) x0 (fsub .f32 0 ((r67 ((x3.getD (Int.toNat x2) []).getD 4 0) x0 x1 x3).2)) x3).2)).1) : Nat) : Int)]] : List (List Int)))).1) 3) (a61l0 x0 x1 x2 x3 x4 (2, 0, 0, [], (((x4.drop 0).take x4.length) ++ ([[((((r94 ((r129 (Int.toNat x2) x0 (fsub .f32 0 ((r67 ((x3.getD (Int.toNat x2) []).getD 4 0) x0 x1 x3).2)) x3).2)).1) : Nat) : Int)]] : List (List Int))))) none)))) none)) none) none) none) none) none)) none) none)
 (a61l0 x0 x1 x2 x3 x4 (3, 0, 0, [], [])))
set_option maxRecDepth 100000 in
set_option maxHeartbeats 4000000 in
theorem e61l0 (m : Nat) (x0 x1 : Nat) (x2 : Int) (x3 x4 : List (List Int)) : evC Try.prog ext T50 noL 200 (loopN Try.f61 0) (loopTail ([0, 1, 2, 8, 9], []) [6, 7, 8] [1] (sumK 62 [0, 1, 2, 8, 9] [6, 7, 8] (q61l0 m))) (frameOf 62 [0, 1, 2, 8, 9] [wsl 0, vf x0, vf x1, wsl 1, vi x2]) ⟨[⟨true, (some (.tab sc0 x3))⟩, ⟨true, (some (.tab [.fl .f32] x4))⟩], 2, []⟩ = firstT ([((Nat.beq ((r61l0 (m + 1) x0 x1 x2 x3 x4).1) 0), .ret, [wsl 2, vi ((r61l0 (m + 1) x0 x1 x2 x3 x4).2.1), wsl 1], ⟨[⟨true, (some (.tab sc0 x3))⟩, ⟨true, (some (.tab [.fl .f32] x4))⟩, ⟨true, (some (.tab [.fl .f32] ([] : List (List Int))))⟩], 2, [1]⟩), ((Nat.beq ((r61l0 (m + 1) x0 x1 x2 x3 x4).1) 1), .ret, [wsl 2, vi ((r61l0 (m + 1) x0 x1 x2 x3 x4).2.2.1), wsl 3], ⟨[⟨true, (some (.tab sc0 x3))⟩, ⟨true, none⟩, ⟨true, (some (.tab [.fl .f32] ([] : List (List Int))))⟩, ⟨true, (some (.tab [.fl .f32] ((r61l0 (m + 1) x0 x1 x2 x3 x4).2.2.2.1)))⟩], 2, [1]⟩), ((Nat.beq ((r61l0 (m + 1) x0 x1 x2 x3 x4).1) 2), .exit 0, [anyV, anyV, wsl 2], ⟨[⟨true, (some (.tab sc0 x3))⟩, ⟨true, none⟩, ⟨true, (some (.tab [.fl .f32] ((r61l0 (m + 1) x0 x1 x2 x3 x4).2.2.2.2)))⟩], 2, [1]⟩), ((Nat.beq ((r61l0 (m + 1) x0 x1 x2 x3 x4).1) 3), .exit 0, [anyV, anyV, wsl 1], ⟨[⟨true, (some (.tab sc0 x3))⟩, ⟨true, (some (.tab [.fl .f32] x4))⟩], 2, [1]⟩)].map fun (b, x) => (b, (x.1, frameOf 62 [6, 7, 8] x.2.1, x.2.2))) :=
 (show _ = w61l0 (r61l0 m) x0 x1 x2 x3 x4 from by kernel_rfl).trans
 (show w61l0 (r61l0 m) x0 x1 x2 x3 x4 = a61l0 x0 x1 x2 x3 x4 (r61l0 (m + 1) x0 x1 x2 x3 x4) from by unfold w61l0; show _ = a61l0 x0 x1 x2 x3 x4 (b61l0 (r61l0 m) x0 x1 x2 x3 x4); unfold b61l0; exact (cond_both (a61l0 x0 x1 x2 x3 x4) _ (fun h0 => (cond_both (a61l0 x0 x1 x2 x3 x4) _ (fun h1 => (cond_t (ev_and2 h1) (cond_both (a61l0 x0 x1 x2 x3 x4) _ (fun h2 => (cond_both (a61l0 x0 x1 x2 x3 x4) _ (fun h3 => (cond_t h1 (cond_app (a61l0 x0 x1 x2 x3 x4) _ (cond_app (a61l0 x0 x1 x2 x3 x4) _ rfl (cond_app (a61l0 x0 x1 x2 x3 x4) _ (cond_app (a61l0 x0 x1 x2 x3 x4) _ rfl (cond_app (a61l0 x0 x1 x2 x3 x4) _ rfl (cond_app (a61l0 x0 x1 x2 x3 x4) _ rfl (cond_app (a61l0 x0 x1 x2 x3 x4) _ rfl rfl)))) rfl)) rfl))) (fun h3 => rfl))) (fun h2 => (cond_t h1 (cond_t (ev_and2 h1) (cond_both (a61l0 x0 x1 x2 x3 x4) _ (fun h3 => (cond_t h1 (cond_app (a61l0 x0 x1 x2 x3 x4) _ (cond_app (a61l0 x0 x1 x2 x3 x4) _ rfl (cond_app (a61l0 x0 x1 x2 x3 x4) _ (cond_app (a61l0 x0 x1 x2 x3 x4) _ rfl (cond_app (a61l0 x0 x1 x2 x3 x4) _ rfl (cond_app (a61l0 x0 x1 x2 x3 x4) _ rfl (cond_app (a61l0 x0 x1 x2 x3 x4) _ rfl rfl)))) rfl)) rfl))) (fun h3 => rfl)))))))) (fun h1 => rfl))) (fun h0 => rfl)))
set_option maxRecDepth 100000 in
set_option maxHeartbeats 4000000 in
theorem qm61l0 : ∀ m, SumKOk Try.prog (loopN Try.f61 0) 62 [0, 1, 2, 8, 9] [6, 7, 8] (q61l0 m) := by
  intro m
  induction m with
  | zero =>
    intro vals s x h1 h2 h3
    unfold q61l0 at h3; split at h3
    · rename_i h; split at h3
      · rename_i hc; obtain ⟨rfl, rfl⟩ := hc; exact absurd h3 (by simp [r61l0, firstT, Nat.beq])
      · exact noQ_ok _ _ _ h1 h2 h3
    · exact noQ_ok _ _ _ h1 h2 h3
  | succ m ih =>
    intro vals s x h1 h2 h3
    unfold q61l0 at h3; split at h3
    · rename_i h; split at h3
      · rename_i hc; obtain ⟨rfl, rfl⟩ := hc; exact sum_step ok50 extOk mixed ((lfOkF_no _ _).inner (by kernel_rfl)) ih h1 h2 h (e61l0 m _ _ _ _ _) rfl h3
      · exact noQ_ok _ _ _ h1 h2 h3
    · exact noQ_ok _ _ _ h1 h2 h3
noncomputable def Q61l0 : SumK := fun vals s => q61l0 (fuelOf vals s.h) vals s
theorem qok61l0 : SumKOk Try.prog (loopN Try.f61 0) 62 [0, 1, 2, 8, 9] [6, 7, 8] Q61l0 := fuel_ok qm61l0 fuelOf
noncomputable def L61_1 : LoopT := addL noL 4 ([0, 1, 2, 8, 9], []) (sumK 62 [0, 1, 2, 8, 9] [6, 7, 8] Q61l0)
theorem lok61_1 : LfOkF Try.prog L61_1 Try.f61 := lfOkF_add (lfOkF_no _ _) qok61l0 (by kernel_rfl) (by kernel_rfl) (by kernel_rfl)

/-- spec.l03Flows -/
noncomputable def r61 (x0 x1 : Nat) (x2 : List (List Int)) : Nat × Int × List (List Int) :=
 cond (Nat.beq ((r61l0 (1000 + 0 + x2.length) x0 x1 0 x2 ([] : List (List Int))).1) 0) (0, ((r61l0 (1000 + 0 + x2.length) x0 x1 0 x2 ([] : List (List Int))).2.1), ([] : List (List Int))) (cond (Nat.beq ((r61l0 (1000 + 0 + x2.length) x0 x1 0 x2 ([] : List (List Int))).1) 1) (0, ((r61l0 (1000 + 0 + x2.length) x0 x1 0 x2 ([] : List (List Int))).2.2.1), ([] : List (List Int))) (cond (Nat.beq ((r61l0 (1000 + 0 + x2.length) x0 x1 0 x2 ([] : List (List Int))).1) 2) (0, 0, ((r61l0 (1000 + 0 + x2.length) x0 x1 0 x2 ([] : List (List Int))).2.2.2.2)) (cond (Nat.beq ((r61l0 (1000 + 0 + x2.length) x0 x1 0 x2 ([] : List (List Int))).1) 3) (0, 0, ([] : List (List Int))) (1, 0, []))))
noncomputable def a61 (x0 x1 : Nat) (x2 : List (List Int)) (p : Nat × Int × List (List Int)) : Res := firstT [((Nat.beq (p.1) 0), .tuple #[wsl 1, vi (p.2.1)], ⟨[⟨true, (some (.tab sc0 x2))⟩, ⟨true, (some (.tab [.fl .f32] (p.2.2)))⟩], 1, []⟩)]
noncomputable def w61 (x0 x1 : Nat) (x2 : List (List Int)) : Res :=
 (cond (Nat.beq ((r61l0 (1000 + 0 + x2.length) x0 x1 0 x2 ([] : List (List Int))).1) 0)
 (a61 x0 x1 x2 (0, ((r61l0 (1000 + 0 + x2.length) x0 x1 0 x2 ([] : List (List Int))).2.1), ([] : List (List Int))))
 (cond (Nat.beq ((r61l0 (1000 + 0 + x2.length) x0 x1 0 x2 ([] : List (List Int))).1) 1) (a61 x0 x1 x2 (0, ((r61l0 (1000 + 0 + x2.length) x0 x1 0 x2 ([] : List (List Int))).2.2.1), ([] : List (List Int)))) (cond (Nat.beq ((r61l0 (1000 + 0 + x2.length) x0 x1 0 x2 ([] : List (List Int))).1) 2) (a61 x0 x1 x2 (0, 0, ((r61l0 (1000 + 0 + x2.length) x0 x1 0 x2 ([] : List (List Int))).2.2.2.2))) (cond (Nat.beq ((r61l0 (1000 + 0 + x2.length) x0 x1 0 x2 ([] : List (List Int))).1) 3) (a61 x0 x1 x2 (0, 0, ([] : List (List Int)))) none))))
set_option maxRecDepth 100000 in
set_option maxHeartbeats 4000000 in
theorem e61 (x0 x1 : Nat) (x2 : List (List Int)) : evFn Try.prog ext T50 L61_1 200 Try.f61 [wsl 0, vf x0, vf x1] ⟨[⟨true, (some (.tab sc0 x2))⟩], 1, []⟩ = firstT [((Nat.beq ((r61 x0 x1 x2).1) 0), .tuple #[wsl 1, vi ((r61 x0 x1 x2).2.1)], ⟨[⟨true, (some (.tab sc0 x2))⟩, ⟨true, (some (.tab [.fl .f32] ((r61 x0 x1 x2).2.2)))⟩], 1, []⟩)] :=
 (show _ = w61 x0 x1 x2 from by kernel_rfl).trans
 (show w61 x0 x1 x2 = a61 x0 x1 x2 (r61 x0 x1 x2) from by unfold w61 r61; exact (cond_app (a61 x0 x1 x2) _ rfl (cond_app (a61 x0 x1 x2) _ rfl (cond_app (a61 x0 x1 x2) _ rfl (cond_app (a61 x0 x1 x2) _ rfl rfl)))))
noncomputable def s61 (args : List Value) (s : St) : List (Bool × Value × St) :=
 match args, s.h with
 | [.iface f0 .nilIface, .float .f32 x0, .float .f32 x1], [⟨true, some (.tab [.fl .f32, .fl .f32, .fl .f32, .fl .f32, .int .i64] x2)⟩] => if f0 = 0 then [((Nat.beq ((r61 x0 x1 x2).1) 0), .tuple #[wsl 1, vi ((r61 x0 x1 x2).2.1)], ⟨[⟨true, (some (.tab sc0 x2))⟩, ⟨true, (some (.tab [.fl .f32] ((r61 x0 x1 x2).2.2)))⟩], 1, []⟩)] else T50 61 args s
 | _, _ => T50 61 args s
noncomputable def T51 : CallF := addF T50 61 s61
set_option maxRecDepth 100000 in
set_option maxHeartbeats 4000000 in
theorem ok51 : CfOk Try.prog T51 := by
  refine cfOk_add ok50 fun args s r s' h1 h2 h3 => ?_
  unfold s61 at h3; split at h3
  · rename_i h; split at h3
    · rename_i hc; obtain ⟨rfl⟩ := hc; exact callOk ok50 Try.func61 h1 h2 h lok61_1.body (e61 _ _ _) rfl h3
    · exact ok50 _ _ _ _ _ h1 h2 h3
  · exact ok50 _ _ _ _ _ h1 h2 h3

/-- spec.FlowsOf -/
noncomputable def r12 (x0 x1 : Nat) (x2 : List (List Int)) : Nat × Int × List (List Int) :=
 cond (Nat.beq ((r60 x0 x1 x2).1) 0) (cond ((((r60 x0 x1 x2).2) : Int) != 0) (0, ((r60 x0 x1 x2).2), ([] : List (List Int))) (cond (Nat.beq ((r61 x0 x1 x2).1) 0) (0, ((r61 x0 x1 x2).2.1), ((r61 x0 x1 x2).2.2)) (1, 0, []))) (1, 0, [])
noncomputable def a12 (x0 x1 : Nat) (x2 : List (List Int)) (p : Nat × Int × List (List Int)) : Res := firstT [((Nat.beq (p.1) 0), .tuple #[wsl 1, vi (p.2.1)], ⟨[⟨true, (some (.tab sc0 x2))⟩, ⟨true, (some (.tab [.fl .f32] (p.2.2)))⟩], 1, []⟩)]
noncomputable def w12 (x0 x1 : Nat) (x2 : List (List Int)) : Res :=
 (cond (Nat.beq ((r60 x0 x1 x2).1) 0)
 (cond ((((r60 x0 x1 x2).2) : Int) != 0) (a12 x0 x1 x2 (0, ((r60 x0 x1 x2).2), ([] : List (List Int)))) (cond (Nat.beq ((r61 x0 x1 x2).1) 0) (a12 x0 x1 x2 (0, ((r61 x0 x1 x2).2.1), ((r61 x0 x1 x2).2.2))) none))
 none)
set_option maxRecDepth 100000 in
set_option maxHeartbeats 4000000 in
theorem e12 (x0 x1 : Nat) (x2 : List (List Int)) : evFn Try.prog ext T51 noL 200 Try.f12 [wsl 0, vf x0, vf x1] ⟨[⟨true, (some (.tab sc0 x2))⟩], 1, []⟩ = firstT [((Nat.beq ((r12 x0 x1 x2).1) 0), .tuple #[wsl 1, vi ((r12 x0 x1 x2).2.1)], ⟨[⟨true, (some (.tab sc0 x2))⟩, ⟨true, (some (.tab [.fl .f32] ((r12 x0 x1 x2).2.2)))⟩], 1, []⟩)] :=
 (show _ = w12 x0 x1 x2 from by kernel_rfl).trans
 (show w12 x0 x1 x2 = a12 x0 x1 x2 (r12 x0 x1 x2) from by unfold w12 r12; exact (cond_app (a12 x0 x1 x2) _ (cond_app (a12 x0 x1 x2) _ rfl (cond_app (a12 x0 x1 x2) _ rfl rfl)) rfl))
noncomputable def s12 (args : List Value) (s : St) : List (Bool × Value × St) :=
 match args, s.h with
 | [.iface f0 .nilIface, .float .f32 x0, .float .f32 x1], [⟨true, some (.tab [.fl .f32, .fl .f32, .fl .f32, .fl .f32, .int .i64] x2)⟩] => if f0 = 0 then [((Nat.beq ((r12 x0 x1 x2).1) 0), .tuple #[wsl 1, vi ((r12 x0 x1 x2).2.1)], ⟨[⟨true, (some (.tab sc0 x2))⟩, ⟨true, (some (.tab [.fl .f32] ((r12 x0 x1 x2).2.2)))⟩], 1, []⟩)] else T51 12 args s
 | _, _ => T51 12 args s
noncomputable def T52 : CallF := addF T51 12 s12
set_option maxRecDepth 100000 in
set_option maxHeartbeats 4000000 in
theorem ok52 : CfOk Try.prog T52 := by
  refine cfOk_add ok51 fun args s r s' h1 h2 h3 => ?_
  unfold s12 at h3; split at h3
  · rename_i h; split at h3
    · rename_i hc; obtain ⟨rfl⟩ := hc; exact callOk ok51 Try.func12 h1 h2 h (lfOkF_no _ _).body (e12 _ _ _) rfl h3
    · exact ok51 _ _ _ _ _ h1 h2 h3
  · exact ok51 _ _ _ _ _ h1 h2 h3

/-- impl.blown, loop 0: one round -/
noncomputable def b62l0 (ih : Int → Int → List (List Int) → List (List Int) → (Nat × List (List Int))) (x0 x1 : Int) (x2 x3 : List (List Int)) : Nat × List (List Int) :=
 cond (decide ((x1 : Int) < x0)) (cond ((decide ((0 : Int) ≤ x1)) && (Nat.blt (Int.toNat x1) x3.length)) (cond (flt .f32 (Int.toNat ((x3.getD (Int.toNat x1) []).getD 0 0)) 0) (cond (Nat.ble ((x2.length + 1) * 9) 140737488355328) (cond (Nat.beq ((ih x0 (IntKind.i64.wrap (x1 + 1)) (((x2.drop 0).take x2.length) ++ ([[x1]] : List (List Int))) x3).1) 0) (0, ((ih x0 (IntKind.i64.wrap (x1 + 1)) (((x2.drop 0).take x2.length) ++ ([[x1]] : List (List Int))) x3).2)) (cond (Nat.beq ((ih x0 (IntKind.i64.wrap (x1 + 1)) (((x2.drop 0).take x2.length) ++ ([[x1]] : List (List Int))) x3).1) 1) (0, (((x2.drop 0).take x2.length) ++ ([[x1]] : List (List Int)))) (2, []))) (2, [])) (ih x0 (IntKind.i64.wrap (x1 + 1)) x2 x3)) (2, [])) (1, [])
noncomputable def r62l0 : Nat → Int → Int → List (List Int) → List (List Int) → (Nat × List (List Int))
 | 0 => fun _ _ _ _ => (2, [])
 | m + 1 => b62l0 (r62l0 m)
noncomputable def a62l0 (x0 x1 : Int) (x2 x3 : List (List Int)) (p : Nat × List (List Int)) : Option (Fin' × List Value × St) := firstT ([((Nat.beq (p.1) 0), .exit 0, [wsl 2], ⟨[⟨true, none⟩, ⟨true, (some (.tab [.fl .f32] x3))⟩, ⟨true, (some (.tab [.int .i64] (p.2)))⟩], 2, [0]⟩), ((Nat.beq (p.1) 1), .exit 0, [wsl 0], ⟨[⟨true, (some (.tab [.int .i64] x2))⟩, ⟨true, (some (.tab [.fl .f32] x3))⟩], 2, [0]⟩)].map fun (b, x) => (b, (x.1, frameOf 22 [3] x.2.1, x.2.2)))
noncomputable def u62l0 (x0 x1 : Int) (x2 x3 : List (List Int)) (p : Nat × List (List Int)) : Option (Fin' × List Value × St) := alts ([((Nat.beq (p.1) 0), .exit 0, [wsl 2], ⟨[⟨true, none⟩, ⟨true, (some (.tab [.fl .f32] x3))⟩, ⟨true, (some (.tab [.int .i64] (p.2)))⟩], 2, [0]⟩), ((Nat.beq (p.1) 1), .exit 0, [wsl 0], ⟨[⟨true, (some (.tab [.int .i64] x2))⟩, ⟨true, (some (.tab [.fl .f32] x3))⟩], 2, [0]⟩)].map fun (b, x) => (b, (x.1, frameOf 22 [3] x.2.1, x.2.2))) some
theorem v62l0 (x0 x1 : Int) (x2 x3 : List (List Int)) (p : Nat × List (List Int)) : u62l0 x0 x1 x2 x3 p = a62l0 x0 x1 x2 x3 p := alts_first _
noncomputable def q62l0 (m : Nat) : SumK := fun vals s =>
 match vals, s.h with
 | [.iface f0 .nilIface, .iface f1 .nilIface, .int .i64 x0, .int .i64 x1], [⟨true, some (.tab [.int .i64] x2)⟩, ⟨true, some (.tab [.fl .f32] x3)⟩] => if f0 = 0 ∧ f1 = 1 then [((Nat.beq ((r62l0 m x0 x1 x2 x3).1) 0), .exit 0, [wsl 2], ⟨[⟨true, none⟩, ⟨true, (some (.tab [.fl .f32] x3))⟩, ⟨true, (some (.tab [.int .i64] ((r62l0 m x0 x1 x2 x3).2)))⟩], 2, [0]⟩), ((Nat.beq ((r62l0 m x0 x1 x2 x3).1) 1), .exit 0, [wsl 0], ⟨[⟨true, (some (.tab [.int .i64] x2))⟩, ⟨true, (some (.tab [.fl .f32] x3))⟩], 2, [0]⟩)] else noQ vals s
 | _, _ => noQ vals s
noncomputable def w62l0 (ih : Int → Int → List (List Int) → List (List Int) → (Nat × List (List Int))) (x0 x1 : Int) (x2 x3 : List (List Int)) : Option (Fin' × List Value × St) :=
 (cond (decide ((x1 : Int) < x0))
 (cond ((decide ((0 : Int) ≤ x1)) && (Nat.blt (Int.toNat x1) x3.length)) (cond (Nat.blt (Int.toNat x1) x3.length) (cond (flt .f32 (Int.toNat ((x3.getD (Int.toNat x1) []).getD 0 0)) 0) (cond (Nat.ble ((x2.length + 1) * 9) 140737488355328) (cond (Nat.beq ((ih x0 (IntKind.i64.wrap (x1 + 1)) (((x2.drop 0).take x2.length) ++ ([[x1]] : List (List Int))) x3).1) 0) (a62l0 x0 x1 x2 x3 (0, ((ih x0 (IntKind.i64.wrap (x1 + 1)) (((x2.drop 0).take x2.length) ++ ([[x1]] : List (List Int))) x3).2))) (cond (Nat.beq ((ih x0 (IntKind.i64.wrap (x1 + 1)) (((x2.drop 0).take x2.length) ++ ([[x1]] : List (List Int))) x3).1) 1) (a62l0 x0 x1 x2 x3 (0, (((x2.drop 0).take x2.length) ++ ([[x1]] : List (List Int))))) none)) none) (u62l0 x0 x1 x2 x3 (ih x0 (IntKind.i64.wrap (x1 + 1)) x2 x3))) none) none)
 (a62l0 x0 x1 x2 x3 (1, [])))
set_option maxRecDepth 100000 in
set_option maxHeartbeats 4000000 in
theorem e62l0 (m : Nat) (x0 x1 : Int) (x2 x3 : List (List Int)) : evC Try.prog ext T52 noL 200 (loopN Try.f62 0) (loopTail ([3, 7, 8, 9], []) [3] [0] (sumK 22 [3, 7, 8, 9] [3] (q62l0 m))) (frameOf 22 [3, 7, 8, 9] [wsl 0, wsl 1, vi x0, vi x1]) ⟨[⟨true, (some (.tab [.int .i64] x2))⟩, ⟨true, (some (.tab [.fl .f32] x3))⟩], 2, []⟩ = firstT ([((Nat.beq ((r62l0 (m + 1) x0 x1 x2 x3).1) 0), .exit 0, [wsl 2], ⟨[⟨true, none⟩, ⟨true, (some (.tab [.fl .f32] x3))⟩, ⟨true, (some (.tab [.int .i64] ((r62l0 (m + 1) x0 x1 x2 x3).2)))⟩], 2, [0]⟩), ((Nat.beq ((r62l0 (m + 1) x0 x1 x2 x3).1) 1), .exit 0, [wsl 0], ⟨[⟨true, (some (.tab [.int .i64] x2))⟩, ⟨true, (some (.tab [.fl .f32] x3))⟩], 2, [0]⟩)].map fun (b, x) => (b, (x.1, frameOf 22 [3] x.2.1, x.2.2))) :=
 (show _ = w62l0 (r62l0 m) x0 x1 x2 x3 from by kernel_rfl).trans
 (show w62l0 (r62l0 m) x0 x1 x2 x3 = a62l0 x0 x1 x2 x3 (r62l0 (m + 1) x0 x1 x2 x3) from by unfold w62l0; show _ = a62l0 x0 x1 x2 x3 (b62l0 (r62l0 m) x0 x1 x2 x3); unfold b62l0; exact (cond_both (a62l0 x0 x1 x2 x3) _ (fun h0 => (cond_both (a62l0 x0 x1 x2 x3) _ (fun h1 => (cond_t (ev_and2 h1) (cond_app (a62l0 x0 x1 x2 x3) _ (cond_app (a62l0 x0 x1 x2 x3) _ (cond_app (a62l0 x0 x1 x2 x3) _ rfl (cond_app (a62l0 x0 x1 x2 x3) _ rfl rfl)) rfl) (v62l0 x0 x1 x2 x3 ((r62l0 m) x0 (IntKind.i64.wrap (x1 + 1)) x2 x3))))) (fun h1 => rfl))) (fun h0 => rfl)))
set_option maxRecDepth 100000 in
set_option maxHeartbeats 4000000 in
theorem qm62l0 : ∀ m, SumKOk Try.prog (loopN Try.f62 0) 22 [3, 7, 8, 9] [3] (q62l0 m) := by
  intro m
  induction m with
  | zero =>
    intro vals s x h1 h2 h3
    unfold q62l0 at h3; split at h3
    · rename_i h; split at h3
      · rename_i hc; obtain ⟨rfl, rfl⟩ := hc; exact absurd h3 (by simp [r62l0, firstT, Nat.beq])
      · exact noQ_ok _ _ _ h1 h2 h3
    · exact noQ_ok _ _ _ h1 h2 h3
  | succ m ih =>
    intro vals s x h1 h2 h3
    unfold q62l0 at h3; split at h3
    · rename_i h; split at h3
      · rename_i hc; obtain ⟨rfl, rfl⟩ := hc; exact sum_step ok52 extOk mixed ((lfOkF_no _ _).inner (by kernel_rfl)) ih h1 h2 h (e62l0 m _ _ _ _) rfl h3
      · exact noQ_ok _ _ _ h1 h2 h3
    · exact noQ_ok _ _ _ h1 h2 h3
noncomputable def Q62l0 : SumK := fun vals s => q62l0 (fuelOf vals s.h) vals s
theorem qok62l0 : SumKOk Try.prog (loopN Try.f62 0) 22 [3, 7, 8, 9] [3] Q62l0 := fuel_ok qm62l0 fuelOf
noncomputable def L62_1 : LoopT := addL noL 4 ([3, 7, 8, 9], []) (sumK 22 [3, 7, 8, 9] [3] Q62l0)
theorem lok62_1 : LfOkF Try.prog L62_1 Try.f62 := lfOkF_add (lfOkF_no _ _) qok62l0 (by kernel_rfl) (by kernel_rfl) (by kernel_rfl)

/-- impl.blown -/
noncomputable def r62 (x0 : List (List Int)) : Nat × List (List Int) :=
 cond (Nat.beq ((r62l0 (1000 + x0.length + 0) ((x0.length : Nat) : Int) 0 ([] : List (List Int)) x0).1) 0) (0, ((r62l0 (1000 + x0.length + 0) ((x0.length : Nat) : Int) 0 ([] : List (List Int)) x0).2)) (cond (Nat.beq ((r62l0 (1000 + x0.length + 0) ((x0.length : Nat) : Int) 0 ([] : List (List Int)) x0).1) 1) (0, ([] : List (List Int))) (1, []))
noncomputable def a62 (x0 : List (List Int)) (p : Nat × List (List Int)) : Res := firstT [((Nat.beq (p.1) 0), wsl 1, ⟨[⟨true, (some (.tab [.fl .f32] x0))⟩, ⟨true, (some (.tab [.int .i64] (p.2)))⟩], 1, []⟩)]
noncomputable def w62 (x0 : List (List Int)) : Res :=
 (cond (Nat.beq ((r62l0 (1000 + x0.length + 0) ((x0.length : Nat) : Int) 0 ([] : List (List Int)) x0).1) 0)
 (a62 x0 (0, ((r62l0 (1000 + x0.length + 0) ((x0.length : Nat) : Int) 0 ([] : List (List Int)) x0).2)))
 (cond (Nat.beq ((r62l0 (1000 + x0.length + 0) ((x0.length : Nat) : Int) 0 ([] : List (List Int)) x0).1) 1) (a62 x0 (0, ([] : List (List Int)))) none))
set_option maxRecDepth 100000 in
set_option maxHeartbeats 4000000 in
theorem e62 (x0 : List (List Int)) : evFn Try.prog ext T52 L62_1 200 Try.f62 [wsl 0] ⟨[⟨true, (some (.tab [.fl .f32] x0))⟩], 1, []⟩ = firstT [((Nat.beq ((r62 x0).1) 0), wsl 1, ⟨[⟨true, (some (.tab [.fl .f32] x0))⟩, ⟨true, (some (.tab [.int .i64] ((r62 x0).2)))⟩], 1, []⟩)] :=
 (show _ = w62 x0 from by kernel_rfl).trans
 (show w62 x0 = a62 x0 (r62 x0) from by unfold w62 r62; exact (cond_app (a62 x0) _ rfl (cond_app (a62 x0) _ rfl rfl)))
noncomputable def s62 (args : List Value) (s : St) : List (Bool × Value × St) :=
 match args, s.h with
 | [.iface f0 .nilIface], [⟨true, some (.tab [.fl .f32] x0)⟩] => if f0 = 0 then [((Nat.beq ((r62 x0).1) 0), wsl 1, ⟨[⟨true, (some (.tab [.fl .f32] x0))⟩, ⟨true, (some (.tab [.int .i64] ((r62 x0).2)))⟩], 1, []⟩)] else T52 62 args s
 | _, _ => T52 62 args s
noncomputable def T53 : CallF := addF T52 62 s62
set_option maxRecDepth 100000 in
set_option maxHeartbeats 4000000 in
theorem ok53 : CfOk Try.prog T53 := by
  refine cfOk_add ok52 fun args s r s' h1 h2 h3 => ?_
  unfold s62 at h3; split at h3
  · rename_i h; split at h3
    · rename_i hc; obtain ⟨rfl⟩ := hc; exact callOk ok52 Try.func62 h1 h2 h lok62_1.body (e62 _) rfl h3
    · exact ok52 _ _ _ _ _ h1 h2 h3
  · exact ok52 _ _ _ _ _ h1 h2 h3

/-- impl.BlownBack -/
noncomputable def r13 (x0 x1 : Nat) (x2 : List (List Int)) : Nat × Int × List (List Int) :=
 cond (Nat.beq ((r57 x0 x1 x2).1) 0) (cond ((((r57 x0 x1 x2).2) : Int) != 0) (0, ((r57 x0 x1 x2).2), []) (cond (Nat.beq ((r58 x0 x1 x2).1) 0) (cond (Nat.beq ((r62 ((r58 x0 x1 x2).2)).1) 0) (1, 0, ((r62 ((r58 x0 x1 x2).2)).2)) (2, 0, [])) (2, 0, []))) (2, 0, [])
noncomputable def a13 (x0 x1 : Nat) (x2 : List (List Int)) (p : Nat × Int × List (List Int)) : Res := firstT [((Nat.beq (p.1) 0), .tuple #[.slice none 0 0, vi (p.2.1)], ⟨[⟨true, (some (.tab sc0 x2))⟩], 1, []⟩), ((Nat.beq (p.1) 1), .tuple #[wsl 1, vi 0], ⟨[⟨true, (some (.tab sc0 x2))⟩, ⟨true, (some (.tab [.int .i64] (p.2.2)))⟩], 1, []⟩)]
noncomputable def w13 (x0 x1 : Nat) (x2 : List (List Int)) : Res :=
 (cond (Nat.beq ((r57 x0 x1 x2).1) 0)
 (cond ((((r57 x0 x1 x2).2) : Int) != 0) (a13 x0 x1 x2 (0, ((r57 x0 x1 x2).2), [])) (cond (Nat.beq ((r58 x0 x1 x2).1) 0) (cond (Nat.beq ((r62 ((r58 x0 x1 x2).2)).1) 0) (a13 x0 x1 x2 (1, 0, ((r62 ((r58 x0 x1 x2).2)).2))) none) none))
 none)
set_option maxRecDepth 100000 in
set_option maxHeartbeats 4000000 in
theorem e13 (x0 x1 : Nat) (x2 : List (List Int)) : evFn Try.prog ext T53 noL 200 Try.f13 [wsl 0, vf x0, vf x1] ⟨[⟨true, (some (.tab sc0 x2))⟩], 1, []⟩ = firstT [((Nat.beq ((r13 x0 x1 x2).1) 0), .tuple #[.slice none 0 0, vi ((r13 x0 x1 x2).2.1)], ⟨[⟨true, (some (.tab sc0 x2))⟩], 1, []⟩), ((Nat.beq ((r13 x0 x1 x2).1) 1), .tuple #[wsl 1, vi 0], ⟨[⟨true, (some (.tab sc0 x2))⟩, ⟨true, (some (.tab [.int .i64] ((r13 x0 x1 x2).2.2)))⟩], 1, []⟩)] :=
 (show _ = w13 x0 x1 x2 from by kernel_rfl).trans
 (show w13 x0 x1 x2 = a13 x0 x1 x2 (r13 x0 x1 x2) from by unfold w13 r13; exact (cond_app (a13 x0 x1 x2) _ (cond_app (a13 x0 x1 x2) _ rfl (cond_app (a13 x0 x1 x2) _ (cond_app (a13 x0 x1 x2) _ rfl rfl) rfl)) rfl))
noncomputable def s13 (args : List Value) (s : St) : List (Bool × Value × St) :=
 match args, s.h with
 | [.iface f0 .nilIface, .float .f32 x0, .float .f32 x1], [⟨true, some (.tab [.fl .f32, .fl .f32, .fl .f32, .fl .f32, .int .i64] x2)⟩] => if f0 = 0 then [((Nat.beq ((r13 x0 x1 x2).1) 0), .tuple #[.slice none 0 0, vi ((r13 x0 x1 x2).2.1)], ⟨[⟨true, (some (.tab sc0 x2))⟩], 1, []⟩), ((Nat.beq ((r13 x0 x1 x2).1) 1), .tuple #[wsl 1, vi 0], ⟨[⟨true, (some (.tab sc0 x2))⟩, ⟨true, (some (.tab [.int .i64] ((r13 x0 x1 x2).2.2)))⟩], 1, []⟩)] else T53 13 args s
 | _, _ => T53 13 args s
noncomputable def T54 : CallF := addF T53 13 s13
set_option maxRecDepth 100000 in
set_option maxHeartbeats 4000000 in
theorem ok54 : CfOk Try.prog T54 := by
  refine cfOk_add ok53 fun args s r s' h1 h2 h3 => ?_
  unfold s13 at h3; split at h3
  · rename_i h; split at h3
    · rename_i hc; obtain ⟨rfl⟩ := hc; exact callOk ok53 Try.func13 h1 h2 h (lfOkF_no _ _).body (e13 _ _ _) rfl h3
    · exact ok53 _ _ _ _ _ h1 h2 h3
  · exact ok53 _ _ _ _ _ h1 h2 h3

/-- spec.SameNumbers, loop 0 -/
noncomputable def r14l0 (x0 : List (List Int)) : Unit :=
 ()
noncomputable def a14l0 (x0 : List (List Int)) (p : Unit) : Option (Fin' × List Value × St) := firstT ([(true, .exit 0, [anyV], ⟨[⟨true, (some (.tab [.fl .f32] x0))⟩], 1, []⟩)].map fun (b, x) => (b, (x.1, frameOf 27 [4] x.2.1, x.2.2)))
noncomputable def w14l0 (x0 : List (List Int)) : Option (Fin' × List Value × St) :=
 (a14l0 x0 ())
set_option maxRecDepth 100000 in
set_option maxHeartbeats 4000000 in
theorem e14l0 (x0 : List (List Int)) : evC Try.prog ext T54 noL 200 (loopN Try.f14 0) (loopTail ([0, 1, 5], []) [4] [] (sumK 27 [0, 1, 5] [4] noQ)) (frameOf 27 [0, 1, 5] [.slice none 0 0, wsl 0, vi 0]) ⟨[⟨true, (some (.tab [.fl .f32] x0))⟩], 1, []⟩ = firstT ([(true, .exit 0, [anyV], ⟨[⟨true, (some (.tab [.fl .f32] x0))⟩], 1, []⟩)].map fun (b, x) => (b, (x.1, frameOf 27 [4] x.2.1, x.2.2))) :=
 (show _ = w14l0 x0 from by kernel_rfl).trans
 (show w14l0 x0 = a14l0 x0 (r14l0 x0) from by unfold w14l0 r14l0; exact rfl)
noncomputable def Q14l0 : SumK := fun vals s =>
 match vals, s.h with
 | [.slice none f0 f1, .iface f2 .nilIface, .int .i64 f3], [⟨true, some (.tab [.fl .f32] x0)⟩] => if f0 = 0 ∧ f1 = 0 ∧ f2 = 0 ∧ f3 = 0 then [(true, .exit 0, [anyV], ⟨[⟨true, (some (.tab [.fl .f32] x0))⟩], 1, []⟩)] else noQ vals s
 | _, _ => noQ vals s
set_option maxRecDepth 100000 in
set_option maxHeartbeats 4000000 in
theorem qok14l0 : SumKOk Try.prog (loopN Try.f14 0) 27 [0, 1, 5] [4] Q14l0 := by
  intro vals s x h1 h2 h3
  unfold Q14l0 at h3; split at h3
  · rename_i h; split at h3
    · rename_i hc; obtain ⟨rfl, rfl, rfl, rfl⟩ := hc; exact sum_step ok54 extOk mixed ((lfOkF_no _ _).inner (by kernel_rfl)) noQ_ok h1 h2 h (e14l0 _) rfl h3
    · exact noQ_ok _ _ _ h1 h2 h3
  · exact noQ_ok _ _ _ h1 h2 h3
noncomputable def L14_1 : LoopT := addL noL 5 ([0, 1, 5], []) (sumK 27 [0, 1, 5] [4] Q14l0)
theorem lok14_1 : LfOkF Try.prog L14_1 Try.f14 := lfOkF_add (lfOkF_no _ _) qok14l0 (by kernel_rfl) (by kernel_rfl) (by kernel_rfl)

/-- spec.SameNumbers -/
noncomputable def r14 (x0 : List (List Int)) : Bool :=
 cond ((0 : Int) != ((x0.length : Nat) : Int)) (false) (true)
noncomputable def a14 (x0 : List (List Int)) (p : Bool) : Res := firstT [(true, .bool p, ⟨[⟨true, (some (.tab [.fl .f32] x0))⟩], 1, []⟩)]
noncomputable def w14 (x0 : List (List Int)) : Res :=
 (cond ((0 : Int) != ((x0.length : Nat) : Int))
 (a14 x0 (false))
 (a14 x0 (true)))
set_option maxRecDepth 100000 in
set_option maxHeartbeats 4000000 in
theorem e14 (x0 : List (List Int)) : evFn Try.prog ext T54 L14_1 200 Try.f14 [.slice none 0 0, wsl 0] ⟨[⟨true, (some (.tab [.fl .f32] x0))⟩], 1, []⟩ = firstT [(true, .bool (r14 x0), ⟨[⟨true, (some (.tab [.fl .f32] x0))⟩], 1, []⟩)] :=
 (show _ = w14 x0 from by kernel_rfl).trans
 (show w14 x0 = a14 x0 (r14 x0) from by unfold w14 r14; exact (cond_app (a14 x0) _ rfl rfl))
noncomputable def s14 (args : List Value) (s : St) : List (Bool × Value × St) :=
 match args, s.h with
 | [.slice none f0 f1, .iface f2 .nilIface], [⟨true, some (.tab [.fl .f32] x0)⟩] => if f0 = 0 ∧ f1 = 0 ∧ f2 = 0 then [(true, .bool (r14 x0), ⟨[⟨true, (some (.tab [.fl .f32] x0))⟩], 1, []⟩)] else T54 14 args s
 | _, _ => T54 14 args s
noncomputable def T55 : CallF := addF T54 14 s14
set_option maxRecDepth 100000 in
set_option maxHeartbeats 4000000 in
theorem ok55 : CfOk Try.prog T55 := by
  refine cfOk_add ok54 fun args s r s' h1 h2 h3 => ?_
  unfold s14 at h3; split at h3
  · rename_i h; split at h3
    · rename_i hc; obtain ⟨rfl, rfl, rfl⟩ := hc; exact callOk ok54 Try.func14 h1 h2 h lok14_1.body (e14 _) rfl h3
    · exact ok54 _ _ _ _ _ h1 h2 h3
  · exact ok54 _ _ _ _ _ h1 h2 h3

/-- spec.l01Same -/
noncomputable def r63 (x0 x1 : Nat) : Bool :=
 cond (!feq .f32 x0 x0) ((!feq .f32 x1 x1)) (cond (!feq .f32 x1 x1) (false) (((((x0 : Nat) : Int) : Int) == ((x1 : Nat) : Int))))
noncomputable def a63 (x0 x1 : Nat) (p : Bool) : Res := firstT [(true, .bool p, st0)]
noncomputable def w63 (x0 x1 : Nat) : Res :=
 (cond (!feq .f32 x0 x0)
 (cond (!feq .f32 x0 x0) (a63 x0 x1 ((!feq .f32 x1 x1))) (some (.bool false, st0)))
 (cond (!feq .f32 x1 x1) (cond (!feq .f32 x0 x0) (some (.bool (!feq .f32 x1 x1), st0)) (a63 x0 x1 (false))) (cond (!isN .f32 x0) (cond (!isN .f32 x1) (a63 x0 x1 (((((x0 : Nat) : Int) : Int) == ((x1 : Nat) : Int)))) none) (cond (!isN .f32 x1) (cond (decide ((0 : Int) ≤ ((x1 : Nat) : Int)) && (!isN .f32 x1)) (some (.bool false, st0)) none) none))))
set_option maxRecDepth 100000 in
set_option maxHeartbeats 4000000 in
theorem e63 (x0 x1 : Nat) : evFn Try.prog ext T55 noL 200 Try.f63 [vf x0, vf x1] st0 = firstT [(true, .bool (r63 x0 x1), st0)] :=
 (show _ = w63 x0 x1 from by kernel_rfl).trans
 (show w63 x0 x1 = a63 x0 x1 (r63 x0 x1) from by unfold w63 r63; exact (cond_both (a63 x0 x1) _ (fun h0 => (cond_t (ev_not1 (ev_nott h0)) rfl)) (fun h0 => (cond_both (a63 x0 x1) _ (fun h1 => (cond_f (ev_not0 (ev_notf h0)) rfl)) (fun h1 => (cond_t (ev_not1 (ev_eq1 (ev_notf h0))) (cond_t (ev_not1 (ev_eq1 (ev_notf h1))) rfl)))))))
noncomputable def s63 (args : List Value) (s : St) : List (Bool × Value × St) :=
 match args, s.h with
 | [.float .f32 x0, .float .f32 x1], [] => [(true, .bool (r63 x0 x1), st0)]
 | _, _ => T55 63 args s
noncomputable def T56 : CallF := addF T55 63 s63
set_option maxRecDepth 100000 in
set_option maxHeartbeats 4000000 in
theorem ok56 : CfOk Try.prog T56 := by
  refine cfOk_add ok55 fun args s r s' h1 h2 h3 => ?_
  unfold s63 at h3; split at h3
  · rename_i h; exact callOk ok55 Try.func63 h1 h2 h (lfOkF_no _ _).body (e63 _ _) rfl h3
  · exact ok55 _ _ _ _ _ h1 h2 h3

/-- spec.SameNumbers, loop 0: one round -/
noncomputable def b14l0b (ih : Int → List (List Int) → List (List Int) → Nat) (x0 : Int) (x1 x2 : List (List Int)) : Nat :=
 cond (decide ((x0 : Int) < ((x1.length : Nat) : Int))) (cond ((decide ((0 : Int) ≤ x0)) && (Nat.blt (Int.toNat x0) x1.length)) (cond ((decide ((0 : Int) ≤ x0)) && (Nat.blt (Int.toNat x0) x2.length)) (cond (!(r63 (Int.toNat ((x1.getD (Int.toNat x0) []).getD 0 0)) (Int.toNat ((x2.getD (Int.toNat x0) []).getD 0 0)))) (0) (ih (IntKind.i64.wrap (x0 + 1)) x1 x2)) (2)) (2)) (1)
noncomputable def r14l0b : Nat → Int → List (List Int) → List (List Int) → Nat
 | 0 => fun _ _ _ => (2)
 | m + 1 => b14l0b (r14l0b m)
noncomputable def a14l0b (x0 : Int) (x1 x2 : List (List Int)) (p : Nat) : Option (Fin' × List Value × St) := firstT ([((Nat.beq p 0), .ret, [.bool false], ⟨[⟨true, (some (.tab [.fl .f32] x1))⟩, ⟨true, (some (.tab [.fl .f32] x2))⟩], 2, []⟩), ((Nat.beq p 1), .exit 0, [anyV], ⟨[⟨true, (some (.tab [.fl .f32] x1))⟩, ⟨true, (some (.tab [.fl .f32] x2))⟩], 2, []⟩)].map fun (b, x) => (b, (x.1, frameOf 27 [4] x.2.1, x.2.2)))
noncomputable def u14l0b (x0 : Int) (x1 x2 : List (List Int)) (p : Nat) : Option (Fin' × List Value × St) := alts ([((Nat.beq p 0), .ret, [.bool false], ⟨[⟨true, (some (.tab [.fl .f32] x1))⟩, ⟨true, (some (.tab [.fl .f32] x2))⟩], 2, []⟩), ((Nat.beq p 1), .exit 0, [anyV], ⟨[⟨true, (some (.tab [.fl .f32] x1))⟩, ⟨true, (some (.tab [.fl .f32] x2))⟩], 2, []⟩)].map fun (b, x) => (b, (x.1, frameOf 27 [4] x.2.1, x.2.2))) some
theorem v14l0b (x0 : Int) (x1 x2 : List (List Int)) (p : Nat) : u14l0b x0 x1 x2 p = a14l0b x0 x1 x2 p := alts_first _
noncomputable def q14l0b (m : Nat) : SumK := fun vals s =>
 match vals, s.h with
 | [.iface f0 .nilIface, .iface f1 .nilIface, .int .i64 x0], [⟨true, some (.tab [.fl .f32] x1)⟩, ⟨true, some (.tab [.fl .f32] x2)⟩] => if f0 = 0 ∧ f1 = 1 then [((Nat.beq (r14l0b m x0 x1 x2) 0), .ret, [.bool false], ⟨[⟨true, (some (.tab [.fl .f32] x1))⟩, ⟨true, (some (.tab [.fl .f32] x2))⟩], 2, []⟩), ((Nat.beq (r14l0b m x0 x1 x2) 1), .exit 0, [anyV], ⟨[⟨true, (some (.tab [.fl .f32] x1))⟩, ⟨true, (some (.tab [.fl .f32] x2))⟩], 2, []⟩)] else Q14l0 vals s
 | _, _ => Q14l0 vals s
noncomputable def w14l0b (ih : Int → List (List Int) → List (List Int) → Nat) (x0 : Int) (x1 x2 : List (List Int)) : Option (Fin' × List Value × St) :=
 (cond (decide ((x0 : Int) < ((x1.length : Nat) : Int)))
 (cond ((decide ((0 : Int) ≤ x0)) && (Nat.blt (Int.toNat x0) x1.length)) (cond (Nat.blt (Int.toNat x0) x1.length) (cond ((decide ((0 : Int) ≤ x0)) && (Nat.blt (Int.toNat x0) x2.length)) (cond (Nat.blt (Int.toNat x0) x2.length) (cond (!(r63 (Int.toNat ((x1.getD (Int.toNat x0) []).getD 0 0)) (Int.toNat ((x2.getD (Int.toNat x0) []).getD 0 0)))) (a14l0b x0 x1 x2 (0)) (u14l0b x0 x1 x2 (ih (IntKind.i64.wrap (x0 + 1)) x1 x2))) none) none) none) none)
 (a14l0b x0 x1 x2 (1)))
set_option maxRecDepth 100000 in
set_option maxHeartbeats 4000000 in
theorem e14l0b (m : Nat) (x0 : Int) (x1 x2 : List (List Int)) : evC Try.prog ext T56 L14_1 200 (loopN Try.f14 0) (loopTail ([0, 1, 5], []) [4] [] (sumK 27 [0, 1, 5] [4] (q14l0b m))) (frameOf 27 [0, 1, 5] [wsl 0, wsl 1, vi x0]) ⟨[⟨true, (some (.tab [.fl .f32] x1))⟩, ⟨true, (some (.tab [.fl .f32] x2))⟩], 2, []⟩ = firstT ([((Nat.beq (r14l0b (m + 1) x0 x1 x2) 0), .ret, [.bool false], ⟨[⟨true, (some (.tab [.fl .f32] x1))⟩, ⟨true, (some (.tab [.fl .f32] x2))⟩], 2, []⟩), ((Nat.beq (r14l0b (m + 1) x0 x1 x2) 1), .exit 0, [anyV], ⟨[⟨true, (some (.tab [.fl .f32] x1))⟩, ⟨true, (some (.tab [.fl .f32] x2))⟩], 2, []⟩)].map fun (b, x) => (b, (x.1, frameOf 27 [4] x.2.1, x.2.2))) :=
 (show _ = w14l0b (r14l0b m) x0 x1 x2 from by kernel_rfl).trans
 (show w14l0b (r14l0b m) x0 x1 x2 = a14l0b x0 x1 x2 (r14l0b (m + 1) x0 x1 x2) from by unfold w14l0b; show _ = a14l0b x0 x1 x2 (b14l0b (r14l0b m) x0 x1 x2); unfold b14l0b; exact (cond_both (a14l0b x0 x1 x2) _ (fun h0 => (cond_both (a14l0b x0 x1 x2) _ (fun h1 => (cond_t (ev_and2 h1) (cond_both (a14l0b x0 x1 x2) _ (fun h2 => (cond_t (ev_and2 h2) (cond_app (a14l0b x0 x1 x2) _ rfl (v14l0b x0 x1 x2 ((r14l0b m) (IntKind.i64.wrap (x0 + 1)) x1 x2))))) (fun h2 => rfl)))) (fun h1 => rfl))) (fun h0 => rfl)))
set_option maxRecDepth 100000 in
set_option maxHeartbeats 4000000 in
theorem qm14l0b : ∀ m, SumKOk Try.prog (loopN Try.f14 0) 27 [0, 1, 5] [4] (q14l0b m) := by
  intro m
  induction m with
  | zero =>
    intro vals s x h1 h2 h3
    unfold q14l0b at h3; split at h3
    · rename_i h; split at h3
      · rename_i hc; obtain ⟨rfl, rfl⟩ := hc; exact absurd h3 (by simp [r14l0b, firstT, Nat.beq])
      · exact qok14l0 _ _ _ h1 h2 h3
    · exact qok14l0 _ _ _ h1 h2 h3
  | succ m ih =>
    intro vals s x h1 h2 h3
    unfold q14l0b at h3; split at h3
    · rename_i h; split at h3
      · rename_i hc; obtain ⟨rfl, rfl⟩ := hc; exact sum_step ok56 extOk mixed (lok14_1.inner (by kernel_rfl)) ih h1 h2 h (e14l0b m _ _ _) rfl h3
      · exact qok14l0 _ _ _ h1 h2 h3
    · exact qok14l0 _ _ _ h1 h2 h3
noncomputable def Q14l0b : SumK := fun vals s => q14l0b (fuelOf vals s.h) vals s
theorem qok14l0b : SumKOk Try.prog (loopN Try.f14 0) 27 [0, 1, 5] [4] Q14l0b := fuel_ok qm14l0b fuelOf
noncomputable def L14_2 : LoopT := addL L14_1 5 ([0, 1, 5], []) (sumK 27 [0, 1, 5] [4] Q14l0b)
theorem lok14_2 : LfOkF Try.prog L14_2 Try.f14 := lfOkF_add lok14_1 qok14l0b (by kernel_rfl) (by kernel_rfl) (by kernel_rfl)

/-- spec.SameNumbers -/
noncomputable def r14b (x0 x1 : List (List Int)) : Nat × Bool :=
 cond ((((x0.length : Nat) : Int) : Int) != ((x1.length : Nat) : Int)) (0, false) (cond (Nat.beq (r14l0b (1000 + x1.length + x0.length) 0 x0 x1) 0) (0, false) (cond (Nat.beq (r14l0b (1000 + x1.length + x0.length) 0 x0 x1) 1) (0, true) (1, false)))
noncomputable def a14b (x0 x1 : List (List Int)) (p : Nat × Bool) : Res := firstT [((Nat.beq (p.1) 0), .bool (p.2), ⟨[⟨true, (some (.tab [.fl .f32] x0))⟩, ⟨true, (some (.tab [.fl .f32] x1))⟩], 2, []⟩)]
noncomputable def w14b (x0 x1 : List (List Int)) : Res :=
 (cond ((((x0.length : Nat) : Int) : Int) != ((x1.length : Nat) : Int))
 (a14b x0 x1 (0, false))
 (cond (Nat.beq (r14l0b (1000 + x1.length + x0.length) 0 x0 x1) 0) (a14b x0 x1 (0, false)) (cond (Nat.beq (r14l0b (1000 + x1.length + x0.length) 0 x0 x1) 1) (a14b x0 x1 (0, true)) none)))
set_option maxRecDepth 100000 in
set_option maxHeartbeats 4000000 in
theorem e14b (x0 x1 : List (List Int)) : evFn Try.prog ext T56 L14_2 200 Try.f14 [wsl 0, wsl 1] ⟨[⟨true, (some (.tab [.fl .f32] x0))⟩, ⟨true, (some (.tab [.fl .f32] x1))⟩], 2, []⟩ = firstT [((Nat.beq ((r14b x0 x1).1) 0), .bool ((r14b x0 x1).2), ⟨[⟨true, (some (.tab [.fl .f32] x0))⟩, ⟨true, (some (.tab [.fl .f32] x1))⟩], 2, []⟩)] :=
 (show _ = w14b x0 x1 from by kernel_rfl).trans
 (show w14b x0 x1 = a14b x0 x1 (r14b x0 x1) from by unfold w14b r14b; exact (cond_app (a14b x0 x1) _ rfl (cond_app (a14b x0 x1) _ rfl (cond_app (a14b x0 x1) _ rfl rfl))))
noncomputable def s14b (args : List Value) (s : St) : List (Bool × Value × St) :=
 match args, s.h with
 | [.iface f0 .nilIface, .iface f1 .nilIface], [⟨true, some (.tab [.fl .f32] x0)⟩, ⟨true, some (.tab [.fl .f32] x1)⟩] => if f0 = 0 ∧ f1 = 1 then [((Nat.beq ((r14b x0 x1).1) 0), .bool ((r14b x0 x1).2), ⟨[⟨true, (some (.tab [.fl .f32] x0))⟩, ⟨true, (some (.tab [.fl .f32] x1))⟩], 2, []⟩)] else T56 14 args s
 | _, _ => T56 14 args s
noncomputable def T57 : CallF := addF T56 14 s14b
set_option maxRecDepth 100000 in
set_option maxHeartbeats 4000000 in
theorem ok57 : CfOk Try.prog T57 := by
  refine cfOk_add ok56 fun args s r s' h1 h2 h3 => ?_
  unfold s14b at h3; split at h3
  · rename_i h; split at h3
    · rename_i hc; obtain ⟨rfl, rfl⟩ := hc; exact callOk ok56 Try.func14 h1 h2 h lok14_2.body (e14b _ _) rfl h3
    · exact ok56 _ _ _ _ _ h1 h2 h3
  · exact ok56 _ _ _ _ _ h1 h2 h3

/-- spec.l00Has, loop 0 -/
noncomputable def r64l0 (x0 : Int) : Unit :=
 ()
noncomputable def a64l0 (x0 : Int) (p : Unit) : Option (Fin' × List Value × St) := firstT ([(true, .exit 0, [anyV], st0)].map fun (b, x) => (b, (x.1, frameOf 18 [4] x.2.1, x.2.2)))
noncomputable def w64l0 (x0 : Int) : Option (Fin' × List Value × St) :=
 (a64l0 x0 ())
set_option maxRecDepth 100000 in
set_option maxHeartbeats 4000000 in
theorem e64l0 (x0 : Int) : evC Try.prog ext T57 noL 200 (loopN Try.f64 0) (loopTail ([0, 1, 5], []) [4] [] (sumK 18 [0, 1, 5] [4] noQ)) (frameOf 18 [0, 1, 5] [.slice none 0 0, vi x0, vi 0]) ⟨[], 0, []⟩ = firstT ([(true, .exit 0, [anyV], st0)].map fun (b, x) => (b, (x.1, frameOf 18 [4] x.2.1, x.2.2))) :=
 (show _ = w64l0 x0 from by kernel_rfl).trans
 (show w64l0 x0 = a64l0 x0 (r64l0 x0) from by unfold w64l0 r64l0; exact rfl)
noncomputable def Q64l0 : SumK := fun vals s =>
 match vals, s.h with
 | [.slice none f0 f1, .int .i64 x0, .int .i64 f2], [] => if f0 = 0 ∧ f1 = 0 ∧ f2 = 0 then [(true, .exit 0, [anyV], st0)] else noQ vals s
 | _, _ => noQ vals s
set_option maxRecDepth 100000 in
set_option maxHeartbeats 4000000 in
theorem qok64l0 : SumKOk Try.prog (loopN Try.f64 0) 18 [0, 1, 5] [4] Q64l0 := by
  intro vals s x h1 h2 h3
  unfold Q64l0 at h3; split at h3
  · rename_i h; split at h3
    · rename_i hc; obtain ⟨rfl, rfl, rfl⟩ := hc; exact sum_step ok57 extOk mixed ((lfOkF_no _ _).inner (by kernel_rfl)) noQ_ok h1 h2 h (e64l0 _) rfl h3
    · exact noQ_ok _ _ _ h1 h2 h3
  · exact noQ_ok _ _ _ h1 h2 h3
noncomputable def L64_1 : LoopT := addL noL 3 ([0, 1, 5], []) (sumK 18 [0, 1, 5] [4] Q64l0)
theorem lok64_1 : LfOkF Try.prog L64_1 Try.f64 := lfOkF_add (lfOkF_no _ _) qok64l0 (by kernel_rfl) (by kernel_rfl) (by kernel_rfl)

/-- spec.l00Has -/
noncomputable def r64 (x0 : Int) : Unit :=
 ()
noncomputable def a64 (x0 : Int) (p : Unit) : Res := firstT [(true, .bool false, st0)]
noncomputable def w64 (x0 : Int) : Res :=
 (a64 x0 ())
set_option maxRecDepth 100000 in
set_option maxHeartbeats 4000000 in
theorem e64 (x0 : Int) : evFn Try.prog ext T57 L64_1 200 Try.f64 [.slice none 0 0, vi x0] st0 = firstT [(true, .bool false, st0)] :=
 (show _ = w64 x0 from by kernel_rfl).trans
 (show w64 x0 = a64 x0 (r64 x0) from by unfold w64 r64; exact rfl)
noncomputable def s64 (args : List Value) (s : St) : List (Bool × Value × St) :=
 match args, s.h with
 | [.slice none f0 f1, .int .i64 x0], [] => if f0 = 0 ∧ f1 = 0 then [(true, .bool false, st0)] else T57 64 args s
 | _, _ => T57 64 args s
noncomputable def T58 : CallF := addF T57 64 s64
set_option maxRecDepth 100000 in
set_option maxHeartbeats 4000000 in
theorem ok58 : CfOk Try.prog T58 := by
  refine cfOk_add ok57 fun args s r s' h1 h2 h3 => ?_
  unfold s64 at h3; split at h3
  · rename_i h; split at h3
    · rename_i hc; obtain ⟨rfl, rfl⟩ := hc; exact callOk ok57 Try.func64 h1 h2 h lok64_1.body (e64 _) rfl h3
    · exact ok57 _ _ _ _ _ h1 h2 h3
  · exact ok57 _ _ _ _ _ h1 h2 h3

/-- spec.HasIndex -/
noncomputable def r15 (x0 : Int) : Unit :=
 ()
noncomputable def a15 (x0 : Int) (p : Unit) : Res := firstT [(true, .bool false, st0)]
noncomputable def w15 (x0 : Int) : Res :=
 (a15 x0 ())
set_option maxRecDepth 100000 in
set_option maxHeartbeats 4000000 in
theorem e15 (x0 : Int) : evFn Try.prog ext T58 noL 200 Try.f15 [.slice none 0 0, vi x0] st0 = firstT [(true, .bool false, st0)] :=
 (show _ = w15 x0 from by kernel_rfl).trans
 (show w15 x0 = a15 x0 (r15 x0) from by unfold w15 r15; exact rfl)
noncomputable def s15 (args : List Value) (s : St) : List (Bool × Value × St) :=
 match args, s.h with
 | [.slice none f0 f1, .int .i64 x0], [] => if f0 = 0 ∧ f1 = 0 then [(true, .bool false, st0)] else T58 15 args s
 | _, _ => T58 15 args s
noncomputable def T59 : CallF := addF T58 15 s15
set_option maxRecDepth 100000 in
set_option maxHeartbeats 4000000 in
theorem ok59 : CfOk Try.prog T59 := by
  refine cfOk_add ok58 fun args s r s' h1 h2 h3 => ?_
  unfold s15 at h3; split at h3
  · rename_i h; split at h3
    · rename_i hc; obtain ⟨rfl, rfl⟩ := hc; exact callOk ok58 Try.func15 h1 h2 h (lfOkF_no _ _).body (e15 _) rfl h3
    · exact ok58 _ _ _ _ _ h1 h2 h3
  · exact ok58 _ _ _ _ _ h1 h2 h3

/-- impl.PushAt -/
noncomputable def r16 (x0 : Int) (x1 x2 : Nat) (x3 : List (List Int)) : Nat × Nat × Int :=
 cond (Nat.beq ((r57 x1 x2 x3).1) 0) (cond ((((r57 x1 x2 x3).2) : Int) != 0) (0, 0, ((r57 x1 x2 x3).2)) (cond (decide ((x0 : Int) < 0)) (0, 0, 2) (cond (decide ((x0 : Int) ≥ ((x3.length : Nat) : Int))) (0, 0, 2) (cond ((decide ((0 : Int) ≤ x0)) && (Nat.blt (Int.toNat x0) x3.length)) (cond ((((x3.getD (Int.toNat x0) []).getD 4 0) : Int) != (-1)) (0, 0, 2) (cond (Nat.beq ((r65 x0 x1 x2 x3).1) 0) (0, ((r65 x0 x1 x2 x3).2), 0) (1, 0, 0))) (1, 0, 0))))) (1, 0, 0)
noncomputable def a16 (x0 : Int) (x1 x2 : Nat) (x3 : List (List Int)) (p : Nat × Nat × Int) : Res := firstT [((Nat.beq (p.1) 0), .tuple #[vf (p.2.1), vi (p.2.2)], ⟨[⟨true, (some (.tab sc0 x3))⟩], 1, []⟩)]
noncomputable def w16 (x0 : Int) (x1 x2 : Nat) (x3 : List (List Int)) : Res :=
 (cond (Nat.beq ((r57 x1 x2 x3).1) 0)
 (cond ((((r57 x1 x2 x3).2) : Int) != 0) (a16 x0 x1 x2 x3 (0, 0, ((r57 x1 x2 x3).2))) (cond (decide ((x0 : Int) < 0)) (a16 x0 x1 x2 x3 (0, 0, 2)) (cond (decide ((x0 : Int) ≥ ((x3.length : Nat) : Int))) (a16 x0 x1 x2 x3 (0, 0, 2)) (cond ((decide ((0 : Int) ≤ x0)) && (Nat.blt (Int.toNat x0) x3.length)) (cond (Nat.blt (Int.toNat x0) x3.length) (cond ((((x3.getD (Int.toNat x0) []).getD 4 0) : Int) != (-1)) (a16 x0 x1 x2 x3 (0, 0, 2)) (cond (Nat.beq ((r65 x0 x1 x2 x3).1) 0) (a16 x0 x1 x2 x3 (0, ((r65 x0 x1 x2 x3).2), 0)) none)) none) none))))
 none)
set_option maxRecDepth 100000 in
set_option maxHeartbeats 4000000 in
theorem e16 (x0 : Int) (x1 x2 : Nat) (x3 : List (List Int)) : evFn Try.prog ext T59 noL 200 Try.f16 [wsl 0, vi x0, vf x1, vf x2] ⟨[⟨true, (some (.tab sc0 x3))⟩], 1, []⟩ = firstT [((Nat.beq ((r16 x0 x1 x2 x3).1) 0), .tuple #[vf ((r16 x0 x1 x2 x3).2.1), vi ((r16 x0 x1 x2 x3).2.2)], ⟨[⟨true, (some (.tab sc0 x3))⟩], 1, []⟩)] :=
 (show _ = w16 x0 x1 x2 x3 from by kernel_rfl).trans
 (show w16 x0 x1 x2 x3 = a16 x0 x1 x2 x3 (r16 x0 x1 x2 x3) from by unfold w16 r16; exact (cond_both (a16 x0 x1 x2 x3) _ (fun h0 => (cond_both (a16 x0 x1 x2 x3) _ (fun h1 => rfl) (fun h1 => (cond_both (a16 x0 x1 x2 x3) _ (fun h2 => rfl) (fun h2 => (cond_both (a16 x0 x1 x2 x3) _ (fun h3 => rfl) (fun h3 => (cond_both (a16 x0 x1 x2 x3) _ (fun h4 => (cond_t (ev_and2 h4) (cond_app (a16 x0 x1 x2 x3) _ rfl (cond_app (a16 x0 x1 x2 x3) _ rfl rfl)))) (fun h4 => rfl))))))))) (fun h0 => rfl)))
noncomputable def s16 (args : List Value) (s : St) : List (Bool × Value × St) :=
 match args, s.h with
 | [.iface f0 .nilIface, .int .i64 x0, .float .f32 x1, .float .f32 x2], [⟨true, some (.tab [.fl .f32, .fl .f32, .fl .f32, .fl .f32, .int .i64] x3)⟩] => if f0 = 0 then [((Nat.beq ((r16 x0 x1 x2 x3).1) 0), .tuple #[vf ((r16 x0 x1 x2 x3).2.1), vi ((r16 x0 x1 x2 x3).2.2)], ⟨[⟨true, (some (.tab sc0 x3))⟩], 1, []⟩)] else T59 16 args s
 | _, _ => T59 16 args s
noncomputable def T60 : CallF := addF T59 16 s16
set_option maxRecDepth 100000 in
set_option maxHeartbeats 4000000 in
theorem ok60 : CfOk Try.prog T60 := by
  refine cfOk_add ok59 fun args s r s' h1 h2 h3 => ?_
  unfold s16 at h3; split at h3
  · rename_i h; split at h3
    · rename_i hc; obtain ⟨rfl⟩ := hc; exact callOk ok59 Try.func16 h1 h2 h (lfOkF_no _ _).body (e16 _ _ _ _) rfl h3
    · exact ok59 _ _ _ _ _ h1 h2 h3
  · exact ok59 _ _ _ _ _ h1 h2 h3

/-- spec.PushAt -/
noncomputable def r17 (x0 : Int) (x1 x2 : Nat) (x3 : List (List Int)) : Nat × Nat × Int :=
 cond (Nat.beq ((r60 x1 x2 x3).1) 0) (cond ((((r60 x1 x2 x3).2) : Int) != 0) (0, 0, ((r60 x1 x2 x3).2)) (cond (!(r66 x0 0 (IntKind.i64.wrap (((x3.length : Nat) : Int) - 1)))) (0, 0, 2) (cond ((decide ((0 : Int) ≤ x0)) && (Nat.blt (Int.toNat x0) x3.length)) (cond ((((x3.getD (Int.toNat x0) []).getD 4 0) : Int) != (-1)) (0, 0, 2) (cond (Nat.beq ((r67 x0 x1 x2 x3).1) 0) (0, ((r67 x0 x1 x2 x3).2), 0) (1, 0, 0))) (1, 0, 0)))) (1, 0, 0)
noncomputable def a17 (x0 : Int) (x1 x2 : Nat) (x3 : List (List Int)) (p : Nat × Nat × Int) : Res := firstT [((Nat.beq (p.1) 0), .tuple #[vf (p.2.1), vi (p.2.2)], ⟨[⟨true, (some (.tab sc0 x3))⟩], 1, []⟩)]
noncomputable def w17 (x0 : Int) (x1 x2 : Nat) (x3 : List (List Int)) : Res :=
 (cond (Nat.beq ((r60 x1 x2 x3).1) 0)
 (cond ((((r60 x1 x2 x3).2) : Int) != 0) (a17 x0 x1 x2 x3 (0, 0, ((r60 x1 x2 x3).2))) (cond (!(r66 x0 0 (IntKind.i64.wrap (((x3.length : Nat) : Int) - 1)))) (a17 x0 x1 x2 x3 (0, 0, 2)) (cond ((decide ((0 : Int) ≤ x0)) && (Nat.blt (Int.toNat x0) x3.length)) (cond (Nat.blt (Int.toNat x0) x3.length) (cond ((((x3.getD (Int.toNat x0) []).getD 4 0) : Int) != (-1)) (a17 x0 x1 x2 x3 (0, 0, 2)) (cond (Nat.beq ((r67 x0 x1 x2 x3).1) 0) (a17 x0 x1 x2 x3 (0, ((r67 x0 x1 x2 x3).2), 0)) none)) none) none)))
 none)
set_option maxRecDepth 100000 in
set_option maxHeartbeats 4000000 in
theorem e17 (x0 : Int) (x1 x2 : Nat) (x3 : List (List Int)) : evFn Try.prog ext T60 noL 200 Try.f17 [wsl 0, vi x0, vf x1, vf x2] ⟨[⟨true, (some (.tab sc0 x3))⟩], 1, []⟩ = firstT [((Nat.beq ((r17 x0 x1 x2 x3).1) 0), .tuple #[vf ((r17 x0 x1 x2 x3).2.1), vi ((r17 x0 x1 x2 x3).2.2)], ⟨[⟨true, (some (.tab sc0 x3))⟩], 1, []⟩)] :=
 (show _ = w17 x0 x1 x2 x3 from by kernel_rfl).trans
 (show w17 x0 x1 x2 x3 = a17 x0 x1 x2 x3 (r17 x0 x1 x2 x3) from by unfold w17 r17; exact (cond_both (a17 x0 x1 x2 x3) _ (fun h0 => (cond_both (a17 x0 x1 x2 x3) _ (fun h1 => rfl) (fun h1 => (cond_both (a17 x0 x1 x2 x3) _ (fun h2 => rfl) (fun h2 => (cond_both (a17 x0 x1 x2 x3) _ (fun h3 => (cond_t (ev_and2 h3) (cond_app (a17 x0 x1 x2 x3) _ rfl (cond_app (a17 x0 x1 x2 x3) _ rfl rfl)))) (fun h3 => rfl))))))) (fun h0 => rfl)))
noncomputable def s17 (args : List Value) (s : St) : List (Bool × Value × St) :=
 match args, s.h with
 | [.iface f0 .nilIface, .int .i64 x0, .float .f32 x1, .float .f32 x2], [⟨true, some (.tab [.fl .f32, .fl .f32, .fl .f32, .fl .f32, .int .i64] x3)⟩] => if f0 = 0 then [((Nat.beq ((r17 x0 x1 x2 x3).1) 0), .tuple #[vf ((r17 x0 x1 x2 x3).2.1), vi ((r17 x0 x1 x2 x3).2.2)], ⟨[⟨true, (some (.tab sc0 x3))⟩], 1, []⟩)] else T60 17 args s
 | _, _ => T60 17 args s
noncomputable def T61 : CallF := addF T60 17 s17
set_option maxRecDepth 100000 in
set_option maxHeartbeats 4000000 in
theorem ok61 : CfOk Try.prog T61 := by
  refine cfOk_add ok60 fun args s r s' h1 h2 h3 => ?_
  unfold s17 at h3; split at h3
  · rename_i h; split at h3
    · rename_i hc; obtain ⟨rfl⟩ := hc; exact callOk ok60 Try.func17 h1 h2 h (lfOkF_no _ _).body (e17 _ _ _ _) rfl h3
    · exact ok60 _ _ _ _ _ h1 h2 h3
  · exact ok60 _ _ _ _ _ h1 h2 h3

/-- spec.l03Abs -/
noncomputable def r68 (x0 : Nat) : Nat :=
 cond (flt .f32 x0 0 || feq .f32 x0 0) ((fsub .f32 0 x0)) (x0)
noncomputable def a68 (x0 : Nat) (p : Nat) : Res := firstT [(true, vf p, st0)]
noncomputable def w68 (x0 : Nat) : Res :=
 (cond (flt .f32 x0 0 || feq .f32 x0 0)
 (a68 x0 ((fsub .f32 0 x0)))
 (a68 x0 (x0)))
set_option maxRecDepth 100000 in
set_option maxHeartbeats 4000000 in
theorem e68 (x0 : Nat) : evFn Try.prog ext T61 noL 200 Try.f68 [vf x0] st0 = firstT [(true, vf (r68 x0), st0)] :=
 (show _ = w68 x0 from by kernel_rfl).trans
 (show w68 x0 = a68 x0 (r68 x0) from by unfold w68 r68; exact (cond_app (a68 x0) _ rfl rfl))
noncomputable def s68 (args : List Value) (s : St) : List (Bool × Value × St) :=
 match args, s.h with
 | [.float .f32 x0], [] => [(true, vf (r68 x0), st0)]
 | _, _ => T61 68 args s
noncomputable def T62 : CallF := addF T61 68 s68
set_option maxRecDepth 100000 in
set_option maxHeartbeats 4000000 in
theorem ok62 : CfOk Try.prog T62 := by
  refine cfOk_add ok61 fun args s r s' h1 h2 h3 => ?_
  unfold s68 at h3; split at h3
  · rename_i h; exact callOk ok61 Try.func68 h1 h2 h (lfOkF_no _ _).body (e68 _) rfl h3
  · exact ok61 _ _ _ _ _ h1 h2 h3

/-- spec.FarOf -/
noncomputable def r18 (x0 : Nat) : Nat :=
 ((r68 x0))
noncomputable def a18 (x0 : Nat) (p : Nat) : Res := firstT [(true, vf p, st0)]
noncomputable def w18 (x0 : Nat) : Res :=
 (a18 x0 ((r68 x0)))
set_option maxRecDepth 100000 in
set_option maxHeartbeats 4000000 in
theorem e18 (x0 : Nat) : evFn Try.prog ext T62 noL 200 Try.f18 [vf x0] st0 = firstT [(true, vf (r18 x0), st0)] :=
 (show _ = w18 x0 from by kernel_rfl).trans
 (show w18 x0 = a18 x0 (r18 x0) from by unfold w18 r18; exact rfl)
noncomputable def s18 (args : List Value) (s : St) : List (Bool × Value × St) :=
 match args, s.h with
 | [.float .f32 x0], [] => [(true, vf (r18 x0), st0)]
 | _, _ => T62 18 args s
noncomputable def T63 : CallF := addF T62 18 s18
set_option maxRecDepth 100000 in
set_option maxHeartbeats 4000000 in
theorem ok63 : CfOk Try.prog T63 := by
  refine cfOk_add ok62 fun args s r s' h1 h2 h3 => ?_
  unfold s18 at h3; split at h3
  · rename_i h; exact callOk ok62 Try.func18 h1 h2 h (lfOkF_no _ _).body (e18 _) rfl h3
  · exact ok62 _ _ _ _ _ h1 h2 h3

/-- laws.f6near -/
noncomputable def r19 (x0 x1 x2 : Nat) : Bool :=
 ((flt .f32 (r18 (fsub .f32 x0 x1)) x2 || feq .f32 (r18 (fsub .f32 x0 x1)) x2))
noncomputable def a19 (x0 x1 x2 : Nat) (p : Bool) : Res := firstT [(true, .bool p, st0)]
noncomputable def w19 (x0 x1 x2 : Nat) : Res :=
 (a19 x0 x1 x2 ((flt .f32 (r18 (fsub .f32 x0 x1)) x2 || feq .f32 (r18 (fsub .f32 x0 x1)) x2)))
set_option maxRecDepth 100000 in
set_option maxHeartbeats 4000000 in
theorem e19 (x0 x1 x2 : Nat) : evFn Try.prog ext T63 noL 200 Try.f19 [vf x0, vf x1, vf x2] st0 = firstT [(true, .bool (r19 x0 x1 x2), st0)] :=
 (show _ = w19 x0 x1 x2 from by kernel_rfl).trans
 (show w19 x0 x1 x2 = a19 x0 x1 x2 (r19 x0 x1 x2) from by unfold w19 r19; exact rfl)
noncomputable def s19 (args : List Value) (s : St) : List (Bool × Value × St) :=
 match args, s.h with
 | [.float .f32 x0, .float .f32 x1, .float .f32 x2], [] => [(true, .bool (r19 x0 x1 x2), st0)]
 | _, _ => T63 19 args s
noncomputable def T64 : CallF := addF T63 19 s19
set_option maxRecDepth 100000 in
set_option maxHeartbeats 4000000 in
theorem ok64 : CfOk Try.prog T64 := by
  refine cfOk_add ok63 fun args s r s' h1 h2 h3 => ?_
  unfold s19 at h3; split at h3
  · rename_i h; exact callOk ok63 Try.func19 h1 h2 h (lfOkF_no _ _).body (e19 _ _ _) rfl h3
  · exact ok63 _ _ _ _ _ h1 h2 h3
end Go.Proofs.Ytmknfenjnladeaa
