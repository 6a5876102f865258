/- What the functions that the statements reach answer, part 7. -/
import Derived.Test.YtdpkbkmmlbmllaaCd6
namespace Go.Proofs.Ytdpkbkmmlbmllaa
open Go.Ab
set_option maxHeartbeats 4000000
set_option maxRecDepth 100000

/-- impl.smokeInto, loop 0: one round -/
noncomputable def b82l0 (ih : Nat → Int → Int → List (List Int) → List (List Int) → List (List Int) → List (List Int) → (Nat × List (List Int))) (x0 : Nat) (x1 x2 : Int) (x3 x4 x5 x6 : List (List Int)) : Nat × List (List Int) :=
 let c564 := (r82l1 (1000 + ((r100 x2 x3).2).length + x6.length + x5.length + x4.length + x3.length) x0 0 0 x1 x2 ((((r100 x2 x3).2).length : Nat) : Int) 0 x3 x4 x5 x6 (Int.toNat ((x3.getD (Int.toNat x2) []).getD 0 0)) (Int.toNat ((x3.getD (Int.toNat x2) []).getD 1 0)) (Int.toNat ((x3.getD (Int.toNat x2) []).getD 2 0)) (Int.toNat ((x3.getD (Int.toNat x2) []).getD 3 0)) ((x3.getD (Int.toNat x2) []).getD 4 0) ((r100 x2 x3).2))
 cond (decide ((x2 : Int) < x1))
  (cond ((decide ((0 : Int) ≤ x2)) && (Nat.blt (Int.toNat x2) x3.length))
   (cond (Nat.beq ((r100 x2 x3).1) 0)
    (cond ((decide ((0 : Int) ≤ x2)) && (Nat.blt (Int.toNat x2) x5.length))
     (cond (flt .f32 (Int.toNat ((x5.getD (Int.toNat x2) []).getD 0 0)) 0)
      (cond (Nat.ble ((x6.length + 1) * 5) 140737488355328)
       (cond (Nat.beq ((ih x0 x1 (IntKind.i64.wrap (x2 + 1)) x3 x4 x5 (((x6.drop 0).take x6.length) ++ ([[((x0 : Nat) : Int)]] : List (List Int)))).1) 0)
        (0, ((ih x0 x1 (IntKind.i64.wrap (x2 + 1)) x3 x4 x5 (((x6.drop 0).take x6.length) ++ ([[((x0 : Nat) : Int)]] : List (List Int)))).2))
        (cond (Nat.beq ((ih x0 x1 (IntKind.i64.wrap (x2 + 1)) x3 x4 x5 (((x6.drop 0).take x6.length) ++ ([[((x0 : Nat) : Int)]] : List (List Int)))).1) 1)
         (0, (((x6.drop 0).take x6.length) ++ ([[((x0 : Nat) : Int)]] : List (List Int))))
         (2, [])))
       (2, []))
      (cond ((((((r100 x2 x3).2).length : Nat) : Int) : Int) == 0)
       (cond ((decide ((0 : Int) ≤ x2)) && (Nat.blt (Int.toNat x2) x4.length))
        (cond (Nat.ble ((x6.length + 1) * 5) 140737488355328)
         (cond (Nat.beq ((ih x0 x1 (IntKind.i64.wrap (x2 + 1)) x3 x4 x5 (((x6.drop 0).take x6.length) ++ ([[(((Int.toNat ((x4.getD (Int.toNat x2) []).getD 0 0)) : Nat) : Int)]] : List (List Int)))).1) 0)
          (0, ((ih x0 x1 (IntKind.i64.wrap (x2 + 1)) x3 x4 x5 (((x6.drop 0).take x6.length) ++ ([[(((Int.toNat ((x4.getD (Int.toNat x2) []).getD 0 0)) : Nat) : Int)]] : List (List Int)))).2))
          (cond (Nat.beq ((ih x0 x1 (IntKind.i64.wrap (x2 + 1)) x3 x4 x5 (((x6.drop 0).take x6.length) ++ ([[(((Int.toNat ((x4.getD (Int.toNat x2) []).getD 0 0)) : Nat) : Int)]] : List (List Int)))).1) 1)
           (0, (((x6.drop 0).take x6.length) ++ ([[(((Int.toNat ((x4.getD (Int.toNat x2) []).getD 0 0)) : Nat) : Int)]] : List (List Int))))
           (2, [])))
         (2, []))
        (2, []))
       (cond (Nat.beq (c564.1) 0)
        (cond (fgt .f32 (c564.2.2) 0)
         (cond (Nat.ble ((x6.length + 1) * 5) 140737488355328)
          (cond (Nat.beq ((ih x0 x1 (IntKind.i64.wrap (x2 + 1)) x3 x4 x5 (((x6.drop 0).take x6.length) ++ ([[(((fdiv .f32 (c564.2.1) (c564.2.2)) : Nat) : Int)]] : List (List Int)))).1) 0)
           (0, ((ih x0 x1 (IntKind.i64.wrap (x2 + 1)) x3 x4 x5 (((x6.drop 0).take x6.length) ++ ([[(((fdiv .f32 (c564.2.1) (c564.2.2)) : Nat) : Int)]] : List (List Int)))).2))
           (cond (Nat.beq ((ih x0 x1 (IntKind.i64.wrap (x2 + 1)) x3 x4 x5 (((x6.drop 0).take x6.length) ++ ([[(((fdiv .f32 (c564.2.1) (c564.2.2)) : Nat) : Int)]] : List (List Int)))).1) 1)
            (0, (((x6.drop 0).take x6.length) ++ ([[(((fdiv .f32 (c564.2.1) (c564.2.2)) : Nat) : Int)]] : List (List Int))))
            (2, [])))
          (2, []))
         (cond (Nat.ble ((x6.length + 1) * 5) 140737488355328)
          (cond (Nat.beq ((ih x0 x1 (IntKind.i64.wrap (x2 + 1)) x3 x4 x5 (((x6.drop 0).take x6.length) ++ ([[(((Int.toNat ((x3.getD (Int.toNat x2) []).getD 2 0)) : Nat) : Int)]] : List (List Int)))).1) 0)
           (0, ((ih x0 x1 (IntKind.i64.wrap (x2 + 1)) x3 x4 x5 (((x6.drop 0).take x6.length) ++ ([[(((Int.toNat ((x3.getD (Int.toNat x2) []).getD 2 0)) : Nat) : Int)]] : List (List Int)))).2))
           (cond (Nat.beq ((ih x0 x1 (IntKind.i64.wrap (x2 + 1)) x3 x4 x5 (((x6.drop 0).take x6.length) ++ ([[(((Int.toNat ((x3.getD (Int.toNat x2) []).getD 2 0)) : Nat) : Int)]] : List (List Int)))).1) 1)
            (0, (((x6.drop 0).take x6.length) ++ ([[(((Int.toNat ((x3.getD (Int.toNat x2) []).getD 2 0)) : Nat) : Int)]] : List (List Int))))
            (2, [])))
          (2, [])))
        (2, []))))
     (2, []))
    (2, []))
   (2, []))
  (1, [])
noncomputable def r82l0 : Nat → Nat → Int → Int → List (List Int) → List (List Int) → List (List Int) → List (List Int) → (Nat × List (List Int))
 | 0 => fun _ _ _ _ _ _ _ => (2, [])
 | m + 1 => b82l0 (r82l0 m)
noncomputable def a82l0 (x0 : Nat) (x1 x2 : Int) (x3 x4 x5 x6 : List (List Int)) (p : Nat × List (List Int)) : Option (Fin' × List Value × St) := firstT ([((Nat.beq (p.1) 0), .exit 0, [wsl 4], ⟨[⟨true, (some (.tab sc0 x3))⟩, ⟨true, (some (.tab [.fl .f32] x4))⟩, ⟨true, (some (.tab [.fl .f32] x5))⟩, ⟨true, none⟩, ⟨true, (some (.tab [.fl .f32] (p.2)))⟩], 4, [3]⟩), ((Nat.beq (p.1) 1), .exit 0, [wsl 3], ⟨[⟨true, (some (.tab sc0 x3))⟩, ⟨true, (some (.tab [.fl .f32] x4))⟩, ⟨true, (some (.tab [.fl .f32] x5))⟩, ⟨true, (some (.tab [.fl .f32] x6))⟩], 4, [3]⟩)].map fun (b, x) => (b, (x.1, frameOf 94 [9] x.2.1, x.2.2)))
noncomputable def u82l0 (x0 : Nat) (x1 x2 : Int) (x3 x4 x5 x6 : List (List Int)) (p : Nat × List (List Int)) : Option (Fin' × List Value × St) := alts ([((Nat.beq (p.1) 0), .exit 0, [wsl 4], ⟨[⟨true, (some (.tab sc0 x3))⟩, ⟨true, (some (.tab [.fl .f32] x4))⟩, ⟨true, (some (.tab [.fl .f32] x5))⟩, ⟨true, none⟩, ⟨true, (some (.tab [.fl .f32] (p.2)))⟩], 4, [3]⟩), ((Nat.beq (p.1) 1), .exit 0, [wsl 3], ⟨[⟨true, (some (.tab sc0 x3))⟩, ⟨true, (some (.tab [.fl .f32] x4))⟩, ⟨true, (some (.tab [.fl .f32] x5))⟩, ⟨true, (some (.tab [.fl .f32] x6))⟩], 4, [3]⟩)].map fun (b, x) => (b, (x.1, frameOf 94 [9] x.2.1, x.2.2))) some
theorem v82l0 (x0 : Nat) (x1 x2 : Int) (x3 x4 x5 x6 : List (List Int)) (p : Nat × List (List Int)) : u82l0 x0 x1 x2 x3 x4 x5 x6 p = a82l0 x0 x1 x2 x3 x4 x5 x6 p := alts_first _
noncomputable def q82l0 (m : Nat) : SumK := fun vals s =>
 match vals, s.h with
 | [.iface f0 .nilIface, .iface f1 .nilIface, .iface f2 .nilIface, .float .f32 x0, .iface f3 .nilIface, .iface f4 .nilIface, .int .i64 x1, .int .i64 x2], [⟨true, some (.tab [.fl .f32, .fl .f32, .fl .f32, .fl .f32, .int .i64] x3)⟩, ⟨true, some (.tab [.fl .f32] x4)⟩, ⟨true, some (.tab [.fl .f32] x5)⟩, ⟨true, some (.tab [.fl .f32] x6)⟩] => if f0 = 0 ∧ f1 = 1 ∧ f2 = 2 ∧ f3 = 3 ∧ f4 = 0 then [((Nat.beq ((r82l0 m x0 x1 x2 x3 x4 x5 x6).1) 0), .exit 0, [wsl 4], ⟨[⟨true, (some (.tab sc0 x3))⟩, ⟨true, (some (.tab [.fl .f32] x4))⟩, ⟨true, (some (.tab [.fl .f32] x5))⟩, ⟨true, none⟩, ⟨true, (some (.tab [.fl .f32] ((r82l0 m x0 x1 x2 x3 x4 x5 x6).2)))⟩], 4, [3]⟩), ((Nat.beq ((r82l0 m x0 x1 x2 x3 x4 x5 x6).1) 1), .exit 0, [wsl 3], ⟨[⟨true, (some (.tab sc0 x3))⟩, ⟨true, (some (.tab [.fl .f32] x4))⟩, ⟨true, (some (.tab [.fl .f32] x5))⟩, ⟨true, (some (.tab [.fl .f32] x6))⟩], 4, [3]⟩)] else noQ vals s
 | _, _ => noQ vals s
noncomputable def w82l0 (ih : Nat → Int → Int → List (List Int) → List (List Int) → List (List Int) → List (List Int) → (Nat × List (List Int))) (x0 : Nat) (x1 x2 : Int) (x3 x4 x5 x6 : List (List Int)) : Option (Fin' × List Value × St) :=
 let c564 := (r82l1 (1000 + ((r100 x2 x3).2).length + x6.length + x5.length + x4.length + x3.length) x0 0 0 x1 x2 ((((r100 x2 x3).2).length : Nat) : Int) 0 x3 x4 x5 x6 (Int.toNat ((x3.getD (Int.toNat x2) []).getD 0 0)) (Int.toNat ((x3.getD (Int.toNat x2) []).getD 1 0)) (Int.toNat ((x3.getD (Int.toNat x2) []).getD 2 0)) (Int.toNat ((x3.getD (Int.toNat x2) []).getD 3 0)) ((x3.getD (Int.toNat x2) []).getD 4 0) ((r100 x2 x3).2))
 (cond (decide ((x2 : Int) < x1))
 (cond ((decide ((0 : Int) ≤ x2)) && (Nat.blt (Int.toNat x2) x3.length))
  (cond (Nat.blt (Int.toNat x2) x3.length)
   (cond (Nat.beq ((r100 x2 x3).1) 0)
    (cond ((decide ((0 : Int) ≤ x2)) && (Nat.blt (Int.toNat x2) x5.length))
     (cond (Nat.blt (Int.toNat x2) x5.length)
      (cond (flt .f32 (Int.toNat ((x5.getD (Int.toNat x2) []).getD 0 0)) 0)
       (cond (Nat.ble ((x6.length + 1) * 5) 140737488355328)
        (cond (Nat.beq ((ih x0 x1 (IntKind.i64.wrap (x2 + 1)) x3 x4 x5 (((x6.drop 0).take x6.length) ++ ([[((x0 : Nat) : Int)]] : List (List Int)))).1) 0)
         (a82l0 x0 x1 x2 x3 x4 x5 x6 (0, ((ih x0 x1 (IntKind.i64.wrap (x2 + 1)) x3 x4 x5 (((x6.drop 0).take x6.length) ++ ([[((x0 : Nat) : Int)]] : List (List Int)))).2)))
         (cond (Nat.beq ((ih x0 x1 (IntKind.i64.wrap (x2 + 1)) x3 x4 x5 (((x6.drop 0).take x6.length) ++ ([[((x0 : Nat) : Int)]] : List (List Int)))).1) 1)
          (a82l0 x0 x1 x2 x3 x4 x5 x6 (0, (((x6.drop 0).take x6.length) ++ ([[((x0 : Nat) : Int)]] : List (List Int)))))
          none))
        none)
       (cond ((((((r100 x2 x3).2).length : Nat) : Int) : Int) == 0)
        (cond ((decide ((0 : Int) ≤ x2)) && (Nat.blt (Int.toNat x2) x4.length))
         (cond (Nat.blt (Int.toNat x2) x4.length)
          (cond (Nat.ble ((x6.length + 1) * 5) 140737488355328)
           (cond (Nat.beq ((ih x0 x1 (IntKind.i64.wrap (x2 + 1)) x3 x4 x5 (((x6.drop 0).take x6.length) ++ ([[(((Int.toNat ((x4.getD (Int.toNat x2) []).getD 0 0)) : Nat) : Int)]] : List (List Int)))).1) 0)
            (a82l0 x0 x1 x2 x3 x4 x5 x6 (0, ((ih x0 x1 (IntKind.i64.wrap (x2 + 1)) x3 x4 x5 (((x6.drop 0).take x6.length) ++ ([[(((Int.toNat ((x4.getD (Int.toNat x2) []).getD 0 0)) : Nat) : Int)]] : List (List Int)))).2)))
            (cond (Nat.beq ((ih x0 x1 (IntKind.i64.wrap (x2 + 1)) x3 x4 x5 (((x6.drop 0).take x6.length) ++ ([[(((Int.toNat ((x4.getD (Int.toNat x2) []).getD 0 0)) : Nat) : Int)]] : List (List Int)))).1) 1)
             (a82l0 x0 x1 x2 x3 x4 x5 x6 (0, (((x6.drop 0).take x6.length) ++ ([[(((Int.toNat ((x4.getD (Int.toNat x2) []).getD 0 0)) : Nat) : Int)]] : List (List Int)))))
             none))
           none)
          none)
         none)
        (cond (Nat.beq (c564.1) 0)
         (cond (fgt .f32 (c564.2.2) 0)
          (cond (Nat.ble ((x6.length + 1) * 5) 140737488355328)
           (cond (Nat.beq ((ih x0 x1 (IntKind.i64.wrap (x2 + 1)) x3 x4 x5 (((x6.drop 0).take x6.length) ++ ([[(((fdiv .f32 (c564.2.1) (c564.2.2)) : Nat) : Int)]] : List (List Int)))).1) 0)
            (a82l0 x0 x1 x2 x3 x4 x5 x6 (0, ((ih x0 x1 (IntKind.i64.wrap (x2 + 1)) x3 x4 x5 (((x6.drop 0).take x6.length) ++ ([[(((fdiv .f32 (c564.2.1) (c564.2.2)) : Nat) : Int)]] : List (List Int)))).2)))
            (cond (Nat.beq ((ih x0 x1 (IntKind.i64.wrap (x2 + 1)) x3 x4 x5 (((x6.drop 0).take x6.length) ++ ([[(((fdiv .f32 (c564.2.1) (c564.2.2)) : Nat) : Int)]] : List (List Int)))).1) 1)
             (a82l0 x0 x1 x2 x3 x4 x5 x6 (0, (((x6.drop 0).take x6.length) ++ ([[(((fdiv .f32 (c564.2.1) (c564.2.2)) : Nat) : Int)]] : List (List Int)))))
             none))
           none)
          (cond (Nat.ble ((x6.length + 1) * 5) 140737488355328)
           (cond (Nat.beq ((ih x0 x1 (IntKind.i64.wrap (x2 + 1)) x3 x4 x5 (((x6.drop 0).take x6.length) ++ ([[(((Int.toNat ((x3.getD (Int.toNat x2) []).getD 2 0)) : Nat) : Int)]] : List (List Int)))).1) 0)
            (a82l0 x0 x1 x2 x3 x4 x5 x6 (0, ((ih x0 x1 (IntKind.i64.wrap (x2 + 1)) x3 x4 x5 (((x6.drop 0).take x6.length) ++ ([[(((Int.toNat ((x3.getD (Int.toNat x2) []).getD 2 0)) : Nat) : Int)]] : List (List Int)))).2)))
            (cond (Nat.beq ((ih x0 x1 (IntKind.i64.wrap (x2 + 1)) x3 x4 x5 (((x6.drop 0).take x6.length) ++ ([[(((Int.toNat ((x3.getD (Int.toNat x2) []).getD 2 0)) : Nat) : Int)]] : List (List Int)))).1) 1)
             (a82l0 x0 x1 x2 x3 x4 x5 x6 (0, (((x6.drop 0).take x6.length) ++ ([[(((Int.toNat ((x3.getD (Int.toNat x2) []).getD 2 0)) : Nat) : Int)]] : List (List Int)))))
             none))
           none))
         none)))
      none)
     none)
    none)
   none)
  none)
 (a82l0 x0 x1 x2 x3 x4 x5 x6 (1, [])))
set_option maxRecDepth 100000 in
set_option maxHeartbeats 4000000 in
theorem e82l0 (m : Nat) (x0 : Nat) (x1 x2 : Int) (x3 x4 x5 x6 : List (List Int)) : evC Try.prog ext T88 L82_1 200 (loopN Try.f82 0) (loopTail ([0, 1, 2, 3, 9, 18, 19, 20], []) [9] [3] (sumK 94 [0, 1, 2, 3, 9, 18, 19, 20] [9] (q82l0 m))) (frameOf 94 [0, 1, 2, 3, 9, 18, 19, 20] [wsl 0, wsl 1, wsl 2, .float .f32 x0, wsl 3, wsl 0, .int .i64 x1, .int .i64 x2]) ⟨[⟨true, (some (.tab sc0 x3))⟩, ⟨true, (some (.tab [.fl .f32] x4))⟩, ⟨true, (some (.tab [.fl .f32] x5))⟩, ⟨true, (some (.tab [.fl .f32] x6))⟩], 4, []⟩ = firstT ([((Nat.beq ((r82l0 (m + 1) x0 x1 x2 x3 x4 x5 x6).1) 0), .exit 0, [wsl 4], ⟨[⟨true, (some (.tab sc0 x3))⟩, ⟨true, (some (.tab [.fl .f32] x4))⟩, ⟨true, (some (.tab [.fl .f32] x5))⟩, ⟨true, none⟩, ⟨true, (some (.tab [.fl .f32] ((r82l0 (m + 1) x0 x1 x2 x3 x4 x5 x6).2)))⟩], 4, [3]⟩), ((Nat.beq ((r82l0 (m + 1) x0 x1 x2 x3 x4 x5 x6).1) 1), .exit 0, [wsl 3], ⟨[⟨true, (some (.tab sc0 x3))⟩, ⟨true, (some (.tab [.fl .f32] x4))⟩, ⟨true, (some (.tab [.fl .f32] x5))⟩, ⟨true, (some (.tab [.fl .f32] x6))⟩], 4, [3]⟩)].map fun (b, x) => (b, (x.1, frameOf 94 [9] x.2.1, x.2.2))) :=
 (show evC Try.prog ext T88 L82_1 200 (loopN Try.f82 0) (loopTail ([0, 1, 2, 3, 9, 18, 19, 20], []) [9] [3] (sumK 94 [0, 1, 2, 3, 9, 18, 19, 20] [9] (q82l0 m))) (frameOf 94 [0, 1, 2, 3, 9, 18, 19, 20] [wsl 0, wsl 1, wsl 2, .float .f32 x0, wsl 3, wsl 0, .int .i64 x1, .int .i64 x2]) ⟨[⟨true, (some (.tab sc0 x3))⟩, ⟨true, (some (.tab [.fl .f32] x4))⟩, ⟨true, (some (.tab [.fl .f32] x5))⟩, ⟨true, (some (.tab [.fl .f32] x6))⟩], 4, []⟩ = w82l0 (r82l0 m) x0 x1 x2 x3 x4 x5 x6 from by kernel_rfl).trans
 (show w82l0 (r82l0 m) x0 x1 x2 x3 x4 x5 x6 = a82l0 x0 x1 x2 x3 x4 x5 x6 (r82l0 (m + 1) x0 x1 x2 x3 x4 x5 x6) from by unfold w82l0; show _ = a82l0 x0 x1 x2 x3 x4 x5 x6 (b82l0 (r82l0 m) x0 x1 x2 x3 x4 x5 x6); unfold b82l0; exact (cond_both (a82l0 x0 x1 x2 x3 x4 x5 x6) _ (fun h0 => (cond_both (a82l0 x0 x1 x2 x3 x4 x5 x6) _ (fun h1 => (cond_t (ev_and2 h1) (cond_both (a82l0 x0 x1 x2 x3 x4 x5 x6) _ (fun h2 => (cond_both (a82l0 x0 x1 x2 x3 x4 x5 x6) _ (fun h3 => (cond_t (ev_and2 h3) (cond_both (a82l0 x0 x1 x2 x3 x4 x5 x6) _ (fun h4 => (cond_app (a82l0 x0 x1 x2 x3 x4 x5 x6) _ (cond_app (a82l0 x0 x1 x2 x3 x4 x5 x6) _ rfl (cond_app (a82l0 x0 x1 x2 x3 x4 x5 x6) _ rfl rfl)) rfl)) (fun h4 => (cond_both (a82l0 x0 x1 x2 x3 x4 x5 x6) _ (fun h5 => (cond_both (a82l0 x0 x1 x2 x3 x4 x5 x6) _ (fun h6 => (cond_t (ev_and2 h6) (cond_app (a82l0 x0 x1 x2 x3 x4 x5 x6) _ (cond_app (a82l0 x0 x1 x2 x3 x4 x5 x6) _ rfl (cond_app (a82l0 x0 x1 x2 x3 x4 x5 x6) _ rfl rfl)) rfl))) (fun h6 => rfl))) (fun h5 => (cond_app (a82l0 x0 x1 x2 x3 x4 x5 x6) _ (cond_app (a82l0 x0 x1 x2 x3 x4 x5 x6) _ (cond_app (a82l0 x0 x1 x2 x3 x4 x5 x6) _ (cond_app (a82l0 x0 x1 x2 x3 x4 x5 x6) _ rfl (cond_app (a82l0 x0 x1 x2 x3 x4 x5 x6) _ rfl rfl)) rfl) (cond_app (a82l0 x0 x1 x2 x3 x4 x5 x6) _ (cond_app (a82l0 x0 x1 x2 x3 x4 x5 x6) _ rfl (cond_app (a82l0 x0 x1 x2 x3 x4 x5 x6) _ rfl rfl)) rfl)) rfl))))))) (fun h3 => rfl))) (fun h2 => rfl)))) (fun h1 => rfl))) (fun h0 => rfl)))
set_option maxRecDepth 100000 in
set_option maxHeartbeats 4000000 in
theorem qm82l0 : ∀ m, SumKOk Try.prog (loopN Try.f82 0) 94 [0, 1, 2, 3, 9, 18, 19, 20] [9] (q82l0 m) := by
  intro m
  induction m with
  | zero =>
    intro vals s x h1 h2 h3
    unfold q82l0 at h3; split at h3
    · rename_i h; split at h3
      · rename_i hc; obtain ⟨rfl, rfl, rfl, rfl, rfl⟩ := hc; exact absurd h3 (by simp [r82l0, firstT, Nat.beq])
      · exact noQ_ok _ _ _ h1 h2 h3
    · exact noQ_ok _ _ _ h1 h2 h3
  | succ m ih =>
    intro vals s x h1 h2 h3
    unfold q82l0 at h3; split at h3
    · rename_i h; split at h3
      · rename_i hc; obtain ⟨rfl, rfl, rfl, rfl, rfl⟩ := hc; exact sum_step ok88 extOk mixed (lok82_1.inner (by kernel_rfl)) ih h1 h2 h (e82l0 m _ _ _ _ _ _ _) rfl h3
      · exact noQ_ok _ _ _ h1 h2 h3
    · exact noQ_ok _ _ _ h1 h2 h3
noncomputable def Q82l0 : SumK := fun vals s => q82l0 (fuelOf vals s.h) vals s
theorem qok82l0 : SumKOk Try.prog (loopN Try.f82 0) 94 [0, 1, 2, 3, 9, 18, 19, 20] [9] Q82l0 := fuel_ok qm82l0 fuelOf
noncomputable def L82_2 : LoopT := addL L82_1 4 ([0, 1, 2, 3, 9, 18, 19, 20], []) (sumK 94 [0, 1, 2, 3, 9, 18, 19, 20] [9] Q82l0)
theorem lok82_2 : LfOkF Try.prog L82_2 Try.f82 := lfOkF_add lok82_1 qok82l0 (by kernel_rfl) (by kernel_rfl) (by kernel_rfl)

/-- impl.smokeInto -/
noncomputable def r82 (x0 : Nat) (x1 x2 x3 : List (List Int)) : Nat × List (List Int) :=
 cond (Nat.beq ((r82l0 (1000 + 0 + x3.length + x2.length + x1.length) x0 ((x1.length : Nat) : Int) 0 x1 x2 x3 ([] : List (List Int))).1) 0)
  (0, ((r82l0 (1000 + 0 + x3.length + x2.length + x1.length) x0 ((x1.length : Nat) : Int) 0 x1 x2 x3 ([] : List (List Int))).2))
  (cond (Nat.beq ((r82l0 (1000 + 0 + x3.length + x2.length + x1.length) x0 ((x1.length : Nat) : Int) 0 x1 x2 x3 ([] : List (List Int))).1) 1)
   (0, ([] : List (List Int)))
   (1, []))
noncomputable def a82 (x0 : Nat) (x1 x2 x3 : List (List Int)) (p : Nat × List (List Int)) : Res := firstT [((Nat.beq (p.1) 0), wsl 3, ⟨[⟨true, (some (.tab sc0 x1))⟩, ⟨true, (some (.tab [.fl .f32] x2))⟩, ⟨true, (some (.tab [.fl .f32] x3))⟩, ⟨true, (some (.tab [.fl .f32] (p.2)))⟩], 3, []⟩)]
noncomputable def w82 (x0 : Nat) (x1 x2 x3 : List (List Int)) : Res :=
 (cond (Nat.beq ((r82l0 (1000 + 0 + x3.length + x2.length + x1.length) x0 ((x1.length : Nat) : Int) 0 x1 x2 x3 ([] : List (List Int))).1) 0)
 (a82 x0 x1 x2 x3 (0, ((r82l0 (1000 + 0 + x3.length + x2.length + x1.length) x0 ((x1.length : Nat) : Int) 0 x1 x2 x3 ([] : List (List Int))).2)))
 (cond (Nat.beq ((r82l0 (1000 + 0 + x3.length + x2.length + x1.length) x0 ((x1.length : Nat) : Int) 0 x1 x2 x3 ([] : List (List Int))).1) 1)
  (a82 x0 x1 x2 x3 (0, ([] : List (List Int))))
  none))
set_option maxRecDepth 100000 in
set_option maxHeartbeats 4000000 in
theorem e82 (x0 : Nat) (x1 x2 x3 : List (List Int)) : evFn Try.prog ext T88 L82_2 200 Try.f82 [wsl 0, wsl 1, wsl 2, .float .f32 x0] ⟨[⟨true, (some (.tab sc0 x1))⟩, ⟨true, (some (.tab [.fl .f32] x2))⟩, ⟨true, (some (.tab [.fl .f32] x3))⟩], 3, []⟩ = firstT [((Nat.beq ((r82 x0 x1 x2 x3).1) 0), wsl 3, ⟨[⟨true, (some (.tab sc0 x1))⟩, ⟨true, (some (.tab [.fl .f32] x2))⟩, ⟨true, (some (.tab [.fl .f32] x3))⟩, ⟨true, (some (.tab [.fl .f32] ((r82 x0 x1 x2 x3).2)))⟩], 3, []⟩)] :=
 (show evFn Try.prog ext T88 L82_2 200 Try.f82 [wsl 0, wsl 1, wsl 2, .float .f32 x0] ⟨[⟨true, (some (.tab sc0 x1))⟩, ⟨true, (some (.tab [.fl .f32] x2))⟩, ⟨true, (some (.tab [.fl .f32] x3))⟩], 3, []⟩ = w82 x0 x1 x2 x3 from by kernel_rfl).trans
 (show w82 x0 x1 x2 x3 = a82 x0 x1 x2 x3 (r82 x0 x1 x2 x3) from by unfold w82 r82; exact (cond_app (a82 x0 x1 x2 x3) _ rfl (cond_app (a82 x0 x1 x2 x3) _ rfl rfl)))
noncomputable def s82 (args : List Value) (s : St) : List (Bool × Value × St) :=
 match args, s.h with
 | [.iface f0 .nilIface, .iface f1 .nilIface, .iface f2 .nilIface, .float .f32 x0], [⟨true, some (.tab [.fl .f32, .fl .f32, .fl .f32, .fl .f32, .int .i64] x1)⟩, ⟨true, some (.tab [.fl .f32] x2)⟩, ⟨true, some (.tab [.fl .f32] x3)⟩] => if f0 = 0 ∧ f1 = 1 ∧ f2 = 2 then [((Nat.beq ((r82 x0 x1 x2 x3).1) 0), wsl 3, ⟨[⟨true, (some (.tab sc0 x1))⟩, ⟨true, (some (.tab [.fl .f32] x2))⟩, ⟨true, (some (.tab [.fl .f32] x3))⟩, ⟨true, (some (.tab [.fl .f32] ((r82 x0 x1 x2 x3).2)))⟩], 3, []⟩)] else T88 82 args s
 | _, _ => T88 82 args s
noncomputable def T89 : CallF := addF T88 82 s82
set_option maxRecDepth 100000 in
set_option maxHeartbeats 4000000 in
theorem ok89 : CfOk Try.prog T89 := by
  refine cfOk_add ok88 fun args s r s' h1 h2 h3 => ?_
  unfold s82 at h3; split at h3
  · rename_i h; split at h3
    · rename_i hc; obtain ⟨rfl, rfl, rfl⟩ := hc; exact callOk ok88 Try.func82 h1 h2 h lok82_2.body (e82 _ _ _ _) rfl h3
    · exact ok88 _ _ _ _ _ h1 h2 h3
  · exact ok88 _ _ _ _ _ h1 h2 h3

/-- impl.held -/
noncomputable def r107 (x0 x1 x2 : Nat) : Nat :=
 cond (flt .f32 x0 x1)
  (x1)
  (cond (fgt .f32 x0 x2)
   (x2)
   (x0))
noncomputable def a107 (x0 x1 x2 : Nat) (p : Nat) : Res := firstT [(true, .float .f32 p, st0)]
noncomputable def w107 (x0 x1 x2 : Nat) : Res :=
 (cond (flt .f32 x0 x1)
 (a107 x0 x1 x2 (x1))
 (cond (fgt .f32 x0 x2)
  (a107 x0 x1 x2 (x2))
  (a107 x0 x1 x2 (x0))))
set_option maxRecDepth 100000 in
set_option maxHeartbeats 4000000 in
theorem e107 (x0 x1 x2 : Nat) : evFn Try.prog ext T89 noL 200 Try.f107 [.float .f32 x0, .float .f32 x1, .float .f32 x2] st0 = firstT [(true, .float .f32 (r107 x0 x1 x2), st0)] :=
 (show evFn Try.prog ext T89 noL 200 Try.f107 [.float .f32 x0, .float .f32 x1, .float .f32 x2] st0 = w107 x0 x1 x2 from by kernel_rfl).trans
 (show w107 x0 x1 x2 = a107 x0 x1 x2 (r107 x0 x1 x2) from by unfold w107 r107; exact (cond_app (a107 x0 x1 x2) _ rfl (cond_app (a107 x0 x1 x2) _ rfl rfl)))
noncomputable def s107 (args : List Value) (s : St) : List (Bool × Value × St) :=
 match args, s.h with
 | [.float .f32 x0, .float .f32 x1, .float .f32 x2], [] => [(true, .float .f32 (r107 x0 x1 x2), st0)]
 | _, _ => T89 107 args s
noncomputable def T90 : CallF := addF T89 107 s107
set_option maxRecDepth 100000 in
set_option maxHeartbeats 4000000 in
theorem ok90 : CfOk Try.prog T90 := by
  refine cfOk_add ok89 fun args s r s' h1 h2 h3 => ?_
  unfold s107 at h3; split at h3
  · rename_i h; exact callOk ok89 Try.func107 h1 h2 h (lfOkF_no _ _).body (e107 _ _ _) rfl h3
  · exact ok89 _ _ _ _ _ h1 h2 h3

/-- impl.warmed, loop 0: one round -/
noncomputable def b80l0 (ih : Nat → Nat → Int → Int → List (List Int) → List (List Int) → List (List Int) → List (List Int) → (Nat × List (List Int))) (x0 x1 : Nat) (x2 x3 : Int) (x4 x5 x6 x7 : List (List Int)) : Nat × List (List Int) :=
 let c597 := (r107 (fadd .f32 (fadd .f32 (Int.toNat ((x4.getD (Int.toNat x3) []).getD 2 0)) (fmul .f32 (fmul .f32 (fmul .f32 1056964608 (fneg .f32 (Int.toNat ((x5.getD (Int.toNat x3) []).getD 0 0)))) (fsub .f32 (Int.toNat ((x6.getD (Int.toNat x3) []).getD 0 0)) (Int.toNat ((x4.getD (Int.toNat x3) []).getD 2 0)))) x1)) (fmul .f32 (fmul .f32 1031798784 (fsub .f32 x0 (Int.toNat ((x4.getD (Int.toNat x3) []).getD 2 0)))) x1)) 3262119936 1153138688)
 let c598 := (r107 (fadd .f32 (fadd .f32 (Int.toNat ((x4.getD (Int.toNat x3) []).getD 2 0)) (fmul .f32 (fmul .f32 (fmul .f32 1056964608 (Int.toNat ((x5.getD (Int.toNat x3) []).getD 0 0))) (fsub .f32 (Int.toNat ((x6.getD (Int.toNat x3) []).getD 0 0)) (Int.toNat ((x4.getD (Int.toNat x3) []).getD 2 0)))) x1)) (fmul .f32 (fmul .f32 1031798784 (fsub .f32 x0 (Int.toNat ((x4.getD (Int.toNat x3) []).getD 2 0)))) x1)) 3262119936 1153138688)
 cond (decide ((x3 : Int) < x2))
  (cond ((decide ((0 : Int) ≤ x3)) && (Nat.blt (Int.toNat x3) x5.length))
   (cond (flt .f32 (Int.toNat ((x5.getD (Int.toNat x3) []).getD 0 0)) 0)
    (cond ((decide ((0 : Int) ≤ x3)) && (Nat.blt (Int.toNat x3) x4.length))
     (cond ((decide ((0 : Int) ≤ x3)) && (Nat.blt (Int.toNat x3) x6.length))
      (cond ((decide ((0 : Int) ≤ x3)) && (Nat.blt (Int.toNat x3) x7.length))
       (ih x0 x1 x2 (IntKind.i64.wrap (x3 + 1)) x4 x5 x6 (x7.modify (Int.toNat x3) (fun r => spl 5 r 2 [((c597 : Nat) : Int)])))
       (1, []))
      (1, []))
     (1, []))
    (cond ((decide ((0 : Int) ≤ x3)) && (Nat.blt (Int.toNat x3) x4.length))
     (cond ((decide ((0 : Int) ≤ x3)) && (Nat.blt (Int.toNat x3) x6.length))
      (cond ((decide ((0 : Int) ≤ x3)) && (Nat.blt (Int.toNat x3) x7.length))
       (ih x0 x1 x2 (IntKind.i64.wrap (x3 + 1)) x4 x5 x6 (x7.modify (Int.toNat x3) (fun r => spl 5 r 2 [((c598 : Nat) : Int)])))
       (1, []))
      (1, []))
     (1, [])))
   (1, []))
  (0, x7)
noncomputable def r80l0 : Nat → Nat → Nat → Int → Int → List (List Int) → List (List Int) → List (List Int) → List (List Int) → (Nat × List (List Int))
 | 0 => fun _ _ _ _ _ _ _ _ => (1, [])
 | m + 1 => b80l0 (r80l0 m)
noncomputable def a80l0 (x0 x1 : Nat) (x2 x3 : Int) (x4 x5 x6 x7 : List (List Int)) (p : Nat × List (List Int)) : Option (Fin' × List Value × St) := firstT ([((Nat.beq (p.1) 0), .exit 0, [wsl 1, wsl 3], ⟨[⟨true, (some (.tab sc0 x4))⟩, ⟨true, (some (.tab [.fl .f32] x5))⟩, ⟨true, (some (.tab [.fl .f32] x6))⟩, ⟨true, (some (.tab sc0 (p.2)))⟩], 4, [3]⟩)].map fun (b, x) => (b, (x.1, frameOf 88 [13, 15] x.2.1, x.2.2)))
noncomputable def u80l0 (x0 x1 : Nat) (x2 x3 : Int) (x4 x5 x6 x7 : List (List Int)) (p : Nat × List (List Int)) : Option (Fin' × List Value × St) := alts ([((Nat.beq (p.1) 0), .exit 0, [wsl 1, wsl 3], ⟨[⟨true, (some (.tab sc0 x4))⟩, ⟨true, (some (.tab [.fl .f32] x5))⟩, ⟨true, (some (.tab [.fl .f32] x6))⟩, ⟨true, (some (.tab sc0 (p.2)))⟩], 4, [3]⟩)].map fun (b, x) => (b, (x.1, frameOf 88 [13, 15] x.2.1, x.2.2))) some
theorem v80l0 (x0 x1 : Nat) (x2 x3 : Int) (x4 x5 x6 x7 : List (List Int)) (p : Nat × List (List Int)) : u80l0 x0 x1 x2 x3 x4 x5 x6 x7 p = a80l0 x0 x1 x2 x3 x4 x5 x6 x7 p := alts_first _
noncomputable def q80l0 (m : Nat) : SumK := fun vals s =>
 match vals, s.h with
 | [.iface f0 .nilIface, .float .f32 x0, .float .f32 x1, .iface f1 .nilIface, .iface f2 .nilIface, .iface f3 .nilIface, .int .i64 x2, .int .i64 x3], [⟨true, some (.tab [.fl .f32, .fl .f32, .fl .f32, .fl .f32, .int .i64] x4)⟩, ⟨true, some (.tab [.fl .f32] x5)⟩, ⟨true, some (.tab [.fl .f32] x6)⟩, ⟨true, some (.tab [.fl .f32, .fl .f32, .fl .f32, .fl .f32, .int .i64] x7)⟩] => if f0 = 0 ∧ f1 = 1 ∧ f2 = 2 ∧ f3 = 3 then [((Nat.beq ((r80l0 m x0 x1 x2 x3 x4 x5 x6 x7).1) 0), .exit 0, [wsl 1, wsl 3], ⟨[⟨true, (some (.tab sc0 x4))⟩, ⟨true, (some (.tab [.fl .f32] x5))⟩, ⟨true, (some (.tab [.fl .f32] x6))⟩, ⟨true, (some (.tab sc0 ((r80l0 m x0 x1 x2 x3 x4 x5 x6 x7).2)))⟩], 4, [3]⟩)] else noQ vals s
 | _, _ => noQ vals s
noncomputable def w80l0 (ih : Nat → Nat → Int → Int → List (List Int) → List (List Int) → List (List Int) → List (List Int) → (Nat × List (List Int))) (x0 x1 : Nat) (x2 x3 : Int) (x4 x5 x6 x7 : List (List Int)) : Option (Fin' × List Value × St) :=
 let c597 := (r107 (fadd .f32 (fadd .f32 (Int.toNat ((x4.getD (Int.toNat x3) []).getD 2 0)) (fmul .f32 (fmul .f32 (fmul .f32 1056964608 (fneg .f32 (Int.toNat ((x5.getD (Int.toNat x3) []).getD 0 0)))) (fsub .f32 (Int.toNat ((x6.getD (Int.toNat x3) []).getD 0 0)) (Int.toNat ((x4.getD (Int.toNat x3) []).getD 2 0)))) x1)) (fmul .f32 (fmul .f32 1031798784 (fsub .f32 x0 (Int.toNat ((x4.getD (Int.toNat x3) []).getD 2 0)))) x1)) 3262119936 1153138688)
 let c598 := (r107 (fadd .f32 (fadd .f32 (Int.toNat ((x4.getD (Int.toNat x3) []).getD 2 0)) (fmul .f32 (fmul .f32 (fmul .f32 1056964608 (Int.toNat ((x5.getD (Int.toNat x3) []).getD 0 0))) (fsub .f32 (Int.toNat ((x6.getD (Int.toNat x3) []).getD 0 0)) (Int.toNat ((x4.getD (Int.toNat x3) []).getD 2 0)))) x1)) (fmul .f32 (fmul .f32 1031798784 (fsub .f32 x0 (Int.toNat ((x4.getD (Int.toNat x3) []).getD 2 0)))) x1)) 3262119936 1153138688)
 (cond (decide ((x3 : Int) < x2))
 (cond ((decide ((0 : Int) ≤ x3)) && (Nat.blt (Int.toNat x3) x5.length))
  (cond (Nat.blt (Int.toNat x3) x5.length)
   (cond (flt .f32 (Int.toNat ((x5.getD (Int.toNat x3) []).getD 0 0)) 0)
    (cond ((decide ((0 : Int) ≤ x3)) && (Nat.blt (Int.toNat x3) x4.length))
     (cond (Nat.blt (Int.toNat x3) x4.length)
      (cond ((decide ((0 : Int) ≤ x3)) && (Nat.blt (Int.toNat x3) x6.length))
       (cond (Nat.blt (Int.toNat x3) x6.length)
        (cond ((decide ((0 : Int) ≤ x3)) && (Nat.blt (Int.toNat x3) x7.length))
         (cond (Nat.blt (Int.toNat x3) x7.length)
          (u80l0 x0 x1 x2 x3 x4 x5 x6 x7 (ih x0 x1 x2 (IntKind.i64.wrap (x3 + 1)) x4 x5 x6 (x7.modify (Int.toNat x3) (fun r => spl 5 r 2 [((c597 : Nat) : Int)]))))
          none)
         none)
        none)
       none)
      none)
     none)
    (cond ((decide ((0 : Int) ≤ x3)) && (Nat.blt (Int.toNat x3) x4.length))
     (cond (Nat.blt (Int.toNat x3) x4.length)
      (cond ((decide ((0 : Int) ≤ x3)) && (Nat.blt (Int.toNat x3) x6.length))
       (cond (Nat.blt (Int.toNat x3) x6.length)
        (cond ((decide ((0 : Int) ≤ x3)) && (Nat.blt (Int.toNat x3) x7.length))
         (cond (Nat.blt (Int.toNat x3) x7.length)
          (u80l0 x0 x1 x2 x3 x4 x5 x6 x7 (ih x0 x1 x2 (IntKind.i64.wrap (x3 + 1)) x4 x5 x6 (x7.modify (Int.toNat x3) (fun r => spl 5 r 2 [((c598 : Nat) : Int)]))))
          none)
         none)
        none)
       none)
      none)
     none))
   none)
  none)
 (a80l0 x0 x1 x2 x3 x4 x5 x6 x7 (0, x7)))
set_option maxRecDepth 100000 in
set_option maxHeartbeats 4000000 in
theorem e80l0 (m : Nat) (x0 x1 : Nat) (x2 x3 : Int) (x4 x5 x6 x7 : List (List Int)) : evC Try.prog ext T90 noL 200 (loopN Try.f80 0) (loopTail ([0, 2, 4, 13, 14, 15, 39, 40], []) [13, 15] [3] (sumK 88 [0, 2, 4, 13, 14, 15, 39, 40] [13, 15] (q80l0 m))) (frameOf 88 [0, 2, 4, 13, 14, 15, 39, 40] [wsl 0, .float .f32 x0, .float .f32 x1, wsl 1, wsl 2, wsl 3, .int .i64 x2, .int .i64 x3]) ⟨[⟨true, (some (.tab sc0 x4))⟩, ⟨true, (some (.tab [.fl .f32] x5))⟩, ⟨true, (some (.tab [.fl .f32] x6))⟩, ⟨true, (some (.tab sc0 x7))⟩], 4, []⟩ = firstT ([((Nat.beq ((r80l0 (m + 1) x0 x1 x2 x3 x4 x5 x6 x7).1) 0), .exit 0, [wsl 1, wsl 3], ⟨[⟨true, (some (.tab sc0 x4))⟩, ⟨true, (some (.tab [.fl .f32] x5))⟩, ⟨true, (some (.tab [.fl .f32] x6))⟩, ⟨true, (some (.tab sc0 ((r80l0 (m + 1) x0 x1 x2 x3 x4 x5 x6 x7).2)))⟩], 4, [3]⟩)].map fun (b, x) => (b, (x.1, frameOf 88 [13, 15] x.2.1, x.2.2))) :=
 (show evC Try.prog ext T90 noL 200 (loopN Try.f80 0) (loopTail ([0, 2, 4, 13, 14, 15, 39, 40], []) [13, 15] [3] (sumK 88 [0, 2, 4, 13, 14, 15, 39, 40] [13, 15] (q80l0 m))) (frameOf 88 [0, 2, 4, 13, 14, 15, 39, 40] [wsl 0, .float .f32 x0, .float .f32 x1, wsl 1, wsl 2, wsl 3, .int .i64 x2, .int .i64 x3]) ⟨[⟨true, (some (.tab sc0 x4))⟩, ⟨true, (some (.tab [.fl .f32] x5))⟩, ⟨true, (some (.tab [.fl .f32] x6))⟩, ⟨true, (some (.tab sc0 x7))⟩], 4, []⟩ = w80l0 (r80l0 m) x0 x1 x2 x3 x4 x5 x6 x7 from by kernel_rfl).trans
 (show w80l0 (r80l0 m) x0 x1 x2 x3 x4 x5 x6 x7 = a80l0 x0 x1 x2 x3 x4 x5 x6 x7 (r80l0 (m + 1) x0 x1 x2 x3 x4 x5 x6 x7) from by unfold w80l0; show _ = a80l0 x0 x1 x2 x3 x4 x5 x6 x7 (b80l0 (r80l0 m) x0 x1 x2 x3 x4 x5 x6 x7); unfold b80l0; exact (cond_both (a80l0 x0 x1 x2 x3 x4 x5 x6 x7) _ (fun h0 => (cond_both (a80l0 x0 x1 x2 x3 x4 x5 x6 x7) _ (fun h1 => (cond_t (ev_and2 h1) (cond_both (a80l0 x0 x1 x2 x3 x4 x5 x6 x7) _ (fun h2 => (cond_both (a80l0 x0 x1 x2 x3 x4 x5 x6 x7) _ (fun h3 => (cond_t (ev_and2 h3) (cond_both (a80l0 x0 x1 x2 x3 x4 x5 x6 x7) _ (fun h4 => (cond_t (ev_and2 h4) (cond_both (a80l0 x0 x1 x2 x3 x4 x5 x6 x7) _ (fun h5 => (cond_t (ev_and2 h5) (v80l0 x0 x1 x2 x3 x4 x5 x6 x7 ((r80l0 m) x0 x1 x2 (IntKind.i64.wrap (x3 + 1)) x4 x5 x6 (x7.modify (Int.toNat x3) (fun r => spl 5 r 2 [(((r107 (fadd .f32 (fadd .f32 (Int.toNat ((x4.getD (Int.toNat x3) []).getD 2 0)) (fmul .f32 (fmul .f32 (fmul .f32 1056964608 (fneg .f32 (Int.toNat ((x5.getD (Int.toNat x3) []).getD 0 0)))) (fsub .f32 (Int.toNat ((x6.getD (Int.toNat x3) []).getD 0 0)) (Int.toNat ((x4.getD (Int.toNat x3) []).getD 2 0)))) x1)) (fmul .f32 (fmul .f32 1031798784 (fsub .f32 x0 (Int.toNat ((x4.getD (Int.toNat x3) []).getD 2 0)))) x1)) 3262119936 1153138688) : Nat) : Int)])))))) (fun h5 => rfl)))) (fun h4 => rfl)))) (fun h3 => rfl))) (fun h2 => (cond_both (a80l0 x0 x1 x2 x3 x4 x5 x6 x7) _ (fun h3 => (cond_t (ev_and2 h3) (cond_both (a80l0 x0 x1 x2 x3 x4 x5 x6 x7) _ (fun h4 => (cond_t (ev_and2 h4) (cond_both (a80l0 x0 x1 x2 x3 x4 x5 x6 x7) _ (fun h5 => (cond_t (ev_and2 h5) (v80l0 x0 x1 x2 x3 x4 x5 x6 x7 ((r80l0 m) x0 x1 x2 (IntKind.i64.wrap (x3 + 1)) x4 x5 x6 (x7.modify (Int.toNat x3) (fun r => spl 5 r 2 [(((r107 (fadd .f32 (fadd .f32 (Int.toNat ((x4.getD (Int.toNat x3) []).getD 2 0)) (fmul .f32 (fmul .f32 (fmul .f32 1056964608 (Int.toNat ((x5.getD (Int.toNat x3) []).getD 0 0))) (fsub .f32 (Int.toNat ((x6.getD (Int.toNat x3) []).getD 0 0)) (Int.toNat ((x4.getD (Int.toNat x3) []).getD 2 0)))) x1)) (fmul .f32 (fmul .f32 1031798784 (fsub .f32 x0 (Int.toNat ((x4.getD (Int.toNat x3) []).getD 2 0)))) x1)) 3262119936 1153138688) : Nat) : Int)])))))) (fun h5 => rfl)))) (fun h4 => rfl)))) (fun h3 => rfl)))))) (fun h1 => rfl))) (fun h0 => rfl)))
set_option maxRecDepth 100000 in
set_option maxHeartbeats 4000000 in
theorem qm80l0 : ∀ m, SumKOk Try.prog (loopN Try.f80 0) 88 [0, 2, 4, 13, 14, 15, 39, 40] [13, 15] (q80l0 m) := by
  intro m
  induction m with
  | zero =>
    intro vals s x h1 h2 h3
    unfold q80l0 at h3; split at h3
    · rename_i h; split at h3
      · rename_i hc; obtain ⟨rfl, rfl, rfl, rfl⟩ := hc; exact absurd h3 (by simp [r80l0, firstT, Nat.beq])
      · exact noQ_ok _ _ _ h1 h2 h3
    · exact noQ_ok _ _ _ h1 h2 h3
  | succ m ih =>
    intro vals s x h1 h2 h3
    unfold q80l0 at h3; split at h3
    · rename_i h; split at h3
      · rename_i hc; obtain ⟨rfl, rfl, rfl, rfl⟩ := hc; exact sum_step ok90 extOk mixed ((lfOkF_no _ _).inner (by kernel_rfl)) ih h1 h2 h (e80l0 m _ _ _ _ _ _ _ _) rfl h3
      · exact noQ_ok _ _ _ h1 h2 h3
    · exact noQ_ok _ _ _ h1 h2 h3
noncomputable def Q80l0 : SumK := fun vals s => q80l0 (fuelOf vals s.h) vals s
theorem qok80l0 : SumKOk Try.prog (loopN Try.f80 0) 88 [0, 2, 4, 13, 14, 15, 39, 40] [13, 15] Q80l0 := fuel_ok qm80l0 fuelOf
noncomputable def L80_1 : LoopT := addL noL 10 ([0, 2, 4, 13, 14, 15, 39, 40], []) (sumK 88 [0, 2, 4, 13, 14, 15, 39, 40] [13, 15] Q80l0)
theorem lok80_1 : LfOkF Try.prog L80_1 Try.f80 := lfOkF_add (lfOkF_no _ _) qok80l0 (by kernel_rfl) (by kernel_rfl) (by kernel_rfl)

/-- impl.warmed -/
noncomputable def r80 (x0 x1 x2 : Nat) (x3 x4 : List (List Int)) : Nat × Bool × List (List Int) × List (List Int) :=
 let c599 := (r80l0 (1000 + ((r71 x3).2).length + ((r82 x0 x3 x4 ((r55 x0 x1 x3).2)).2).length + ((r55 x0 x1 x3).2).length + x3.length) x0 x2 ((((r71 x3).2).length : Nat) : Int) 0 x3 ((r55 x0 x1 x3).2) ((r82 x0 x3 x4 ((r55 x0 x1 x3).2)).2) ((r71 x3).2))
 cond (Nat.beq ((r55 x0 x1 x3).1) 0)
  (cond (Nat.beq ((r56b ((r55 x0 x1 x3).2)).1) 0)
   (cond (!((r56b ((r55 x0 x1 x3).2)).2))
    (0, false, [], [])
    (cond (Nat.beq ((r82 x0 x3 x4 ((r55 x0 x1 x3).2)).1) 0)
     (cond (Nat.beq ((r56b ((r82 x0 x3 x4 ((r55 x0 x1 x3).2)).2)).1) 0)
      (cond (!((r56b ((r82 x0 x3 x4 ((r55 x0 x1 x3).2)).2)).2))
       (0, false, [], [])
       (cond (Nat.beq ((r71 x3).1) 0)
        (cond (Nat.beq (c599.1) 0)
         (cond (Nat.beq ((r50 (c599.2)).1) 0)
          (1, ((r50 (c599.2)).2), (c599.2), ((r55 x0 x1 x3).2))
          (2, false, [], []))
         (2, false, [], []))
        (2, false, [], [])))
      (2, false, [], []))
     (2, false, [], [])))
   (2, false, [], []))
  (2, false, [], [])
noncomputable def a80 (x0 x1 x2 : Nat) (x3 x4 : List (List Int)) (p : Nat × Bool × List (List Int) × List (List Int)) : Res := firstT [((Nat.beq (p.1) 0), .tuple #[.slice none 0 0, .slice none 0 0, .bool false], ⟨[⟨true, (some (.tab sc0 x3))⟩, ⟨true, (some (.tab [.fl .f32] x4))⟩], 2, []⟩), ((Nat.beq (p.1) 1), .tuple #[wsl 2, wsl 3, .bool (p.2.1)], ⟨[⟨true, (some (.tab sc0 x3))⟩, ⟨true, (some (.tab [.fl .f32] x4))⟩, ⟨true, (some (.tab sc0 (p.2.2.1)))⟩, ⟨true, (some (.tab [.fl .f32] (p.2.2.2)))⟩], 2, []⟩)]
noncomputable def w80 (x0 x1 x2 : Nat) (x3 x4 : List (List Int)) : Res :=
 let c599 := (r80l0 (1000 + ((r71 x3).2).length + ((r82 x0 x3 x4 ((r55 x0 x1 x3).2)).2).length + ((r55 x0 x1 x3).2).length + x3.length) x0 x2 ((((r71 x3).2).length : Nat) : Int) 0 x3 ((r55 x0 x1 x3).2) ((r82 x0 x3 x4 ((r55 x0 x1 x3).2)).2) ((r71 x3).2))
 (cond (Nat.beq ((r55 x0 x1 x3).1) 0)
 (cond (Nat.beq ((r56b ((r55 x0 x1 x3).2)).1) 0)
  (cond (!((r56b ((r55 x0 x1 x3).2)).2))
   (a80 x0 x1 x2 x3 x4 (0, false, [], []))
   (cond (Nat.beq ((r82 x0 x3 x4 ((r55 x0 x1 x3).2)).1) 0)
    (cond (Nat.beq ((r56b ((r82 x0 x3 x4 ((r55 x0 x1 x3).2)).2)).1) 0)
     (cond (!((r56b ((r82 x0 x3 x4 ((r55 x0 x1 x3).2)).2)).2))
      (a80 x0 x1 x2 x3 x4 (0, false, [], []))
      (cond (Nat.beq ((r71 x3).1) 0)
       (cond (Nat.beq (c599.1) 0)
        (cond (Nat.beq ((r50 (c599.2)).1) 0)
         (a80 x0 x1 x2 x3 x4 (1, ((r50 (c599.2)).2), (c599.2), ((r55 x0 x1 x3).2)))
         none)
        none)
       none))
     none)
    none))
  none)
 none)
set_option maxRecDepth 100000 in
set_option maxHeartbeats 4000000 in
theorem e80 (x0 x1 x2 : Nat) (x3 x4 : List (List Int)) : evFn Try.prog ext T90 L80_1 200 Try.f80 [wsl 0, wsl 1, .float .f32 x0, .float .f32 x1, .float .f32 x2] ⟨[⟨true, (some (.tab sc0 x3))⟩, ⟨true, (some (.tab [.fl .f32] x4))⟩], 2, []⟩ = firstT [((Nat.beq ((r80 x0 x1 x2 x3 x4).1) 0), .tuple #[.slice none 0 0, .slice none 0 0, .bool false], ⟨[⟨true, (some (.tab sc0 x3))⟩, ⟨true, (some (.tab [.fl .f32] x4))⟩], 2, []⟩), ((Nat.beq ((r80 x0 x1 x2 x3 x4).1) 1), .tuple #[wsl 2, wsl 3, .bool ((r80 x0 x1 x2 x3 x4).2.1)], ⟨[⟨true, (some (.tab sc0 x3))⟩, ⟨true, (some (.tab [.fl .f32] x4))⟩, ⟨true, (some (.tab sc0 ((r80 x0 x1 x2 x3 x4).2.2.1)))⟩, ⟨true, (some (.tab [.fl .f32] ((r80 x0 x1 x2 x3 x4).2.2.2)))⟩], 2, []⟩)] :=
 (show evFn Try.prog ext T90 L80_1 200 Try.f80 [wsl 0, wsl 1, .float .f32 x0, .float .f32 x1, .float .f32 x2] ⟨[⟨true, (some (.tab sc0 x3))⟩, ⟨true, (some (.tab [.fl .f32] x4))⟩], 2, []⟩ = w80 x0 x1 x2 x3 x4 from by kernel_rfl).trans
 (show w80 x0 x1 x2 x3 x4 = a80 x0 x1 x2 x3 x4 (r80 x0 x1 x2 x3 x4) from by unfold w80 r80; exact (cond_app (a80 x0 x1 x2 x3 x4) _ (cond_app (a80 x0 x1 x2 x3 x4) _ (cond_app (a80 x0 x1 x2 x3 x4) _ rfl (cond_app (a80 x0 x1 x2 x3 x4) _ (cond_app (a80 x0 x1 x2 x3 x4) _ (cond_app (a80 x0 x1 x2 x3 x4) _ rfl (cond_app (a80 x0 x1 x2 x3 x4) _ (cond_app (a80 x0 x1 x2 x3 x4) _ (cond_app (a80 x0 x1 x2 x3 x4) _ rfl rfl) rfl) rfl)) rfl) rfl)) rfl) rfl))
noncomputable def s80 (args : List Value) (s : St) : List (Bool × Value × St) :=
 match args, s.h with
 | [.iface f0 .nilIface, .iface f1 .nilIface, .float .f32 x0, .float .f32 x1, .float .f32 x2], [⟨true, some (.tab [.fl .f32, .fl .f32, .fl .f32, .fl .f32, .int .i64] x3)⟩, ⟨true, some (.tab [.fl .f32] x4)⟩] => if f0 = 0 ∧ f1 = 1 then [((Nat.beq ((r80 x0 x1 x2 x3 x4).1) 0), .tuple #[.slice none 0 0, .slice none 0 0, .bool false], ⟨[⟨true, (some (.tab sc0 x3))⟩, ⟨true, (some (.tab [.fl .f32] x4))⟩], 2, []⟩), ((Nat.beq ((r80 x0 x1 x2 x3 x4).1) 1), .tuple #[wsl 2, wsl 3, .bool ((r80 x0 x1 x2 x3 x4).2.1)], ⟨[⟨true, (some (.tab sc0 x3))⟩, ⟨true, (some (.tab [.fl .f32] x4))⟩, ⟨true, (some (.tab sc0 ((r80 x0 x1 x2 x3 x4).2.2.1)))⟩, ⟨true, (some (.tab [.fl .f32] ((r80 x0 x1 x2 x3 x4).2.2.2)))⟩], 2, []⟩)] else T90 80 args s
 | _, _ => T90 80 args s
noncomputable def T91 : CallF := addF T90 80 s80
set_option maxRecDepth 100000 in
set_option maxHeartbeats 4000000 in
theorem ok91 : CfOk Try.prog T91 := by
  refine cfOk_add ok90 fun args s r s' h1 h2 h3 => ?_
  unfold s80 at h3; split at h3
  · rename_i h; split at h3
    · rename_i hc; obtain ⟨rfl, rfl⟩ := hc; exact callOk ok90 Try.func80 h1 h2 h lok80_1.body (e80 _ _ _ _ _) rfl h3
    · exact ok90 _ _ _ _ _ h1 h2 h3
  · exact ok90 _ _ _ _ _ h1 h2 h3

/-- impl.StepsToDraw, loop 0: one round -/
noncomputable def b43l0 (ih : Nat → Nat → Nat → Int → Int → List (List Int) → List (List Int) → (Nat × Int × Int)) (x0 x1 x2 : Nat) (x3 x4 : Int) (x5 x6 : List (List Int)) : Nat × Int × Int :=
 cond (Nat.beq ((r55 x0 x1 x5).1) 0)
  (cond (Nat.beq ((r59 ((r55 x0 x1 x5).2)).1) 0)
   (cond ((((((r59 ((r55 x0 x1 x5).2)).2).length : Nat) : Int) : Int) == 0)
    (0, x4, 0)
    (cond ((x4 : Int) == x3)
     (0, 0, 7)
     (cond (Nat.beq ((r80 x0 x1 x2 x5 x6).1) 0)
      (0, 0, 4)
      (cond (Nat.beq ((r80 x0 x1 x2 x5 x6).1) 1)
       (cond (!((r80 x0 x1 x2 x5 x6).2.1))
        (0, 0, 4)
        (ih x0 x1 x2 x3 (IntKind.i64.wrap (x4 + 1)) ((r80 x0 x1 x2 x5 x6).2.2.1) x6))
       (1, 0, 0)))))
   (1, 0, 0))
  (1, 0, 0)
noncomputable def r43l0 : Nat → Nat → Nat → Nat → Int → Int → List (List Int) → List (List Int) → (Nat × Int × Int)
 | 0 => fun _ _ _ _ _ _ _ => (1, 0, 0)
 | m + 1 => b43l0 (r43l0 m)
noncomputable def a43l0 (x0 x1 x2 : Nat) (x3 x4 : Int) (x5 x6 : List (List Int)) (p : Nat × Int × Int) : Option (Fin' × List Value × St) := firstT ([((Nat.beq (p.1) 0), .ret, [.int .i64 (p.2.1), .int .i64 (p.2.2)], ⟨[⟨true, (some (.tab sc0 x5))⟩, ⟨true, (some (.tab [.fl .f32] x6))⟩], 2, []⟩)].map fun (b, x) => (b, (x.1, frameOf 60 [12, 13] x.2.1, x.2.2)))
noncomputable def u43l0 (x0 x1 x2 : Nat) (x3 x4 : Int) (x5 x6 : List (List Int)) (p : Nat × Int × Int) : Option (Fin' × List Value × St) := alts ([((Nat.beq (p.1) 0), .ret, [.int .i64 (p.2.1), .int .i64 (p.2.2)], ⟨[⟨true, (some (.tab sc0 x5))⟩, ⟨true, (some (.tab [.fl .f32] x6))⟩], 2, []⟩)].map fun (b, x) => (b, (x.1, frameOf 60 [12, 13] x.2.1, x.2.2))) some
theorem v43l0 (x0 x1 x2 : Nat) (x3 x4 : Int) (x5 x6 : List (List Int)) (p : Nat × Int × Int) : u43l0 x0 x1 x2 x3 x4 x5 x6 p = a43l0 x0 x1 x2 x3 x4 x5 x6 p := alts_first _
noncomputable def q43l0 (m : Nat) : SumK := fun vals s =>
 match vals, s.h with
 | [.iface f0 .nilIface, .iface f1 .nilIface, .float .f32 x0, .float .f32 x1, .float .f32 x2, .int .i64 x3, .int .i64 x4], [⟨true, some (.tab [.fl .f32, .fl .f32, .fl .f32, .fl .f32, .int .i64] x5)⟩, ⟨true, some (.tab [.fl .f32] x6)⟩] => if f0 = 0 ∧ f1 = 1 then [((Nat.beq ((r43l0 m x0 x1 x2 x3 x4 x5 x6).1) 0), .ret, [.int .i64 ((r43l0 m x0 x1 x2 x3 x4 x5 x6).2.1), .int .i64 ((r43l0 m x0 x1 x2 x3 x4 x5 x6).2.2)], ⟨[⟨true, (some (.tab sc0 x5))⟩, ⟨true, (some (.tab [.fl .f32] x6))⟩], 2, []⟩)] else noQ vals s
 | _, _ => noQ vals s
noncomputable def w43l0 (ih : Nat → Nat → Nat → Int → Int → List (List Int) → List (List Int) → (Nat × Int × Int)) (x0 x1 x2 : Nat) (x3 x4 : Int) (x5 x6 : List (List Int)) : Option (Fin' × List Value × St) :=
 (cond (Nat.beq ((r55 x0 x1 x5).1) 0)
 (cond (Nat.beq ((r59 ((r55 x0 x1 x5).2)).1) 0)
  (cond ((((((r59 ((r55 x0 x1 x5).2)).2).length : Nat) : Int) : Int) == 0)
   (a43l0 x0 x1 x2 x3 x4 x5 x6 (0, x4, 0))
   (cond ((x4 : Int) == x3)
    (a43l0 x0 x1 x2 x3 x4 x5 x6 (0, 0, 7))
    (cond (Nat.beq ((r80 x0 x1 x2 x5 x6).1) 0)
     (a43l0 x0 x1 x2 x3 x4 x5 x6 (0, 0, 4))
     (cond (Nat.beq ((r80 x0 x1 x2 x5 x6).1) 1)
      (cond (!((r80 x0 x1 x2 x5 x6).2.1))
       (a43l0 x0 x1 x2 x3 x4 x5 x6 (0, 0, 4))
       (u43l0 x0 x1 x2 x3 x4 x5 x6 (ih x0 x1 x2 x3 (IntKind.i64.wrap (x4 + 1)) ((r80 x0 x1 x2 x5 x6).2.2.1) x6)))
      none))))
  none)
 none)
set_option maxRecDepth 100000 in
set_option maxHeartbeats 4000000 in
theorem e43l0 (m : Nat) (x0 x1 x2 : Nat) (x3 x4 : Int) (x5 x6 : List (List Int)) : evC Try.prog ext T91 noL 200 (loopN Try.f43 0) (loopTail ([0, 1, 2, 3, 4, 5, 15], []) [12, 13] [] (sumK 60 [0, 1, 2, 3, 4, 5, 15] [12, 13] (q43l0 m))) (frameOf 60 [0, 1, 2, 3, 4, 5, 15] [wsl 0, wsl 1, .float .f32 x0, .float .f32 x1, .float .f32 x2, .int .i64 x3, .int .i64 x4]) ⟨[⟨true, (some (.tab sc0 x5))⟩, ⟨true, (some (.tab [.fl .f32] x6))⟩], 2, []⟩ = firstT ([((Nat.beq ((r43l0 (m + 1) x0 x1 x2 x3 x4 x5 x6).1) 0), .ret, [.int .i64 ((r43l0 (m + 1) x0 x1 x2 x3 x4 x5 x6).2.1), .int .i64 ((r43l0 (m + 1) x0 x1 x2 x3 x4 x5 x6).2.2)], ⟨[⟨true, (some (.tab sc0 x5))⟩, ⟨true, (some (.tab [.fl .f32] x6))⟩], 2, []⟩)].map fun (b, x) => (b, (x.1, frameOf 60 [12, 13] x.2.1, x.2.2))) :=
 (show evC Try.prog ext T91 noL 200 (loopN Try.f43 0) (loopTail ([0, 1, 2, 3, 4, 5, 15], []) [12, 13] [] (sumK 60 [0, 1, 2, 3, 4, 5, 15] [12, 13] (q43l0 m))) (frameOf 60 [0, 1, 2, 3, 4, 5, 15] [wsl 0, wsl 1, .float .f32 x0, .float .f32 x1, .float .f32 x2, .int .i64 x3, .int .i64 x4]) ⟨[⟨true, (some (.tab sc0 x5))⟩, ⟨true, (some (.tab [.fl .f32] x6))⟩], 2, []⟩ = w43l0 (r43l0 m) x0 x1 x2 x3 x4 x5 x6 from by kernel_rfl).trans
 (show w43l0 (r43l0 m) x0 x1 x2 x3 x4 x5 x6 = a43l0 x0 x1 x2 x3 x4 x5 x6 (r43l0 (m + 1) x0 x1 x2 x3 x4 x5 x6) from by unfold w43l0; show _ = a43l0 x0 x1 x2 x3 x4 x5 x6 (b43l0 (r43l0 m) x0 x1 x2 x3 x4 x5 x6); unfold b43l0; exact (cond_app (a43l0 x0 x1 x2 x3 x4 x5 x6) _ (cond_app (a43l0 x0 x1 x2 x3 x4 x5 x6) _ (cond_app (a43l0 x0 x1 x2 x3 x4 x5 x6) _ rfl (cond_app (a43l0 x0 x1 x2 x3 x4 x5 x6) _ rfl (cond_app (a43l0 x0 x1 x2 x3 x4 x5 x6) _ rfl (cond_app (a43l0 x0 x1 x2 x3 x4 x5 x6) _ (cond_app (a43l0 x0 x1 x2 x3 x4 x5 x6) _ rfl (v43l0 x0 x1 x2 x3 x4 x5 x6 ((r43l0 m) x0 x1 x2 x3 (IntKind.i64.wrap (x4 + 1)) ((r80 x0 x1 x2 x5 x6).2.2.1) x6))) rfl)))) rfl) rfl))
set_option maxRecDepth 100000 in
set_option maxHeartbeats 4000000 in
theorem qm43l0 : ∀ m, SumKOk Try.prog (loopN Try.f43 0) 60 [0, 1, 2, 3, 4, 5, 15] [12, 13] (q43l0 m) := by
  intro m
  induction m with
  | zero =>
    intro vals s x h1 h2 h3
    unfold q43l0 at h3; split at h3
    · rename_i h; split at h3
      · rename_i hc; obtain ⟨rfl, rfl⟩ := hc; exact absurd h3 (by simp [r43l0, firstT, Nat.beq])
      · exact noQ_ok _ _ _ h1 h2 h3
    · exact noQ_ok _ _ _ h1 h2 h3
  | succ m ih =>
    intro vals s x h1 h2 h3
    unfold q43l0 at h3; split at h3
    · rename_i h; split at h3
      · rename_i hc; obtain ⟨rfl, rfl⟩ := hc; exact sum_step ok91 extOk mixed ((lfOkF_no _ _).inner (by kernel_rfl)) ih h1 h2 h (e43l0 m _ _ _ _ _ _ _) rfl h3
      · exact noQ_ok _ _ _ h1 h2 h3
    · exact noQ_ok _ _ _ h1 h2 h3
noncomputable def Q43l0 : SumK := fun vals s => q43l0 (fuelOf vals s.h) vals s
theorem qok43l0 : SumKOk Try.prog (loopN Try.f43 0) 60 [0, 1, 2, 3, 4, 5, 15] [12, 13] Q43l0 := fuel_ok qm43l0 fuelOf
noncomputable def L43_1 : LoopT := addL noL 9 ([0, 1, 2, 3, 4, 5, 15], []) (sumK 60 [0, 1, 2, 3, 4, 5, 15] [12, 13] Q43l0)
theorem lok43_1 : LfOkF Try.prog L43_1 Try.f43 := lfOkF_add (lfOkF_no _ _) qok43l0 (by kernel_rfl) (by kernel_rfl) (by kernel_rfl)

/-- impl.StepsToDraw -/
noncomputable def r43 (x0 x1 x2 : Nat) (x3 : Int) (x4 x5 : List (List Int)) : Nat × Int × Int :=
 cond (Nat.beq ((r79 x0 x1 x2 x4 x5).1) 0)
  (cond ((((r79 x0 x1 x2 x4 x5).2) : Int) != 0)
   (0, 0, ((r79 x0 x1 x2 x4 x5).2))
   (cond (decide ((x3 : Int) < 0))
    (0, 0, 2)
    (cond (decide ((x3 : Int) > 200))
     (0, 0, 2)
     (cond (Nat.beq ((r43l0 (1000 + x5.length + x4.length) x0 x1 x2 x3 0 x4 x5).1) 0)
      (0, ((r43l0 (1000 + x5.length + x4.length) x0 x1 x2 x3 0 x4 x5).2.1), ((r43l0 (1000 + x5.length + x4.length) x0 x1 x2 x3 0 x4 x5).2.2))
      (1, 0, 0)))))
  (1, 0, 0)
noncomputable def a43 (x0 x1 x2 : Nat) (x3 : Int) (x4 x5 : List (List Int)) (p : Nat × Int × Int) : Res := firstT [((Nat.beq (p.1) 0), .tuple #[.int .i64 (p.2.1), .int .i64 (p.2.2)], ⟨[⟨true, (some (.tab sc0 x4))⟩, ⟨true, (some (.tab [.fl .f32] x5))⟩], 2, []⟩)]
noncomputable def w43 (x0 x1 x2 : Nat) (x3 : Int) (x4 x5 : List (List Int)) : Res :=
 (cond (Nat.beq ((r79 x0 x1 x2 x4 x5).1) 0)
 (cond ((((r79 x0 x1 x2 x4 x5).2) : Int) != 0)
  (a43 x0 x1 x2 x3 x4 x5 (0, 0, ((r79 x0 x1 x2 x4 x5).2)))
  (cond (decide ((x3 : Int) < 0))
   (a43 x0 x1 x2 x3 x4 x5 (0, 0, 2))
   (cond (decide ((x3 : Int) > 200))
    (a43 x0 x1 x2 x3 x4 x5 (0, 0, 2))
    (cond (Nat.beq ((r43l0 (1000 + x5.length + x4.length) x0 x1 x2 x3 0 x4 x5).1) 0)
     (a43 x0 x1 x2 x3 x4 x5 (0, ((r43l0 (1000 + x5.length + x4.length) x0 x1 x2 x3 0 x4 x5).2.1), ((r43l0 (1000 + x5.length + x4.length) x0 x1 x2 x3 0 x4 x5).2.2)))
     none))))
 none)
set_option maxRecDepth 100000 in
set_option maxHeartbeats 4000000 in
theorem e43 (x0 x1 x2 : Nat) (x3 : Int) (x4 x5 : List (List Int)) : evFn Try.prog ext T91 L43_1 200 Try.f43 [wsl 0, wsl 1, .float .f32 x0, .float .f32 x1, .float .f32 x2, .int .i64 x3] ⟨[⟨true, (some (.tab sc0 x4))⟩, ⟨true, (some (.tab [.fl .f32] x5))⟩], 2, []⟩ = firstT [((Nat.beq ((r43 x0 x1 x2 x3 x4 x5).1) 0), .tuple #[.int .i64 ((r43 x0 x1 x2 x3 x4 x5).2.1), .int .i64 ((r43 x0 x1 x2 x3 x4 x5).2.2)], ⟨[⟨true, (some (.tab sc0 x4))⟩, ⟨true, (some (.tab [.fl .f32] x5))⟩], 2, []⟩)] :=
 (show evFn Try.prog ext T91 L43_1 200 Try.f43 [wsl 0, wsl 1, .float .f32 x0, .float .f32 x1, .float .f32 x2, .int .i64 x3] ⟨[⟨true, (some (.tab sc0 x4))⟩, ⟨true, (some (.tab [.fl .f32] x5))⟩], 2, []⟩ = w43 x0 x1 x2 x3 x4 x5 from by kernel_rfl).trans
 (show w43 x0 x1 x2 x3 x4 x5 = a43 x0 x1 x2 x3 x4 x5 (r43 x0 x1 x2 x3 x4 x5) from by unfold w43 r43; exact (cond_app (a43 x0 x1 x2 x3 x4 x5) _ (cond_app (a43 x0 x1 x2 x3 x4 x5) _ rfl (cond_app (a43 x0 x1 x2 x3 x4 x5) _ rfl (cond_app (a43 x0 x1 x2 x3 x4 x5) _ rfl (cond_app (a43 x0 x1 x2 x3 x4 x5) _ rfl rfl)))) rfl))
noncomputable def s43 (args : List Value) (s : St) : List (Bool × Value × St) :=
 match args, s.h with
 | [.iface f0 .nilIface, .iface f1 .nilIface, .float .f32 x0, .float .f32 x1, .float .f32 x2, .int .i64 x3], [⟨true, some (.tab [.fl .f32, .fl .f32, .fl .f32, .fl .f32, .int .i64] x4)⟩, ⟨true, some (.tab [.fl .f32] x5)⟩] => if f0 = 0 ∧ f1 = 1 then [((Nat.beq ((r43 x0 x1 x2 x3 x4 x5).1) 0), .tuple #[.int .i64 ((r43 x0 x1 x2 x3 x4 x5).2.1), .int .i64 ((r43 x0 x1 x2 x3 x4 x5).2.2)], ⟨[⟨true, (some (.tab sc0 x4))⟩, ⟨true, (some (.tab [.fl .f32] x5))⟩], 2, []⟩)] else T91 43 args s
 | _, _ => T91 43 args s
noncomputable def T92 : CallF := addF T91 43 s43
set_option maxRecDepth 100000 in
set_option maxHeartbeats 4000000 in
theorem ok92 : CfOk Try.prog T92 := by
  refine cfOk_add ok91 fun args s r s' h1 h2 h3 => ?_
  unfold s43 at h3; split at h3
  · rename_i h; split at h3
    · rename_i hc; obtain ⟨rfl, rfl⟩ := hc; exact callOk ok91 Try.func43 h1 h2 h lok43_1.body (e43 _ _ _ _ _ _) rfl h3
    · exact ok91 _ _ _ _ _ h1 h2 h3
  · exact ok91 _ _ _ _ _ h1 h2 h3

/-- laws.FnExactStepsToDraw -/
noncomputable def r9 (x0 x1 x2 : Nat) (x3 : Int) (x4 x5 : List (List Int)) : Nat × Bool :=
 cond (decide ((((x5.length : Nat) : Int) : Int) > 1048576))
  (0, true)
  (cond (decide (((r24 1048576 x4) : Int) < 0))
   (0, true)
   (cond (Nat.beq ((r25 x4).1) 0)
    (cond (Nat.beq ((r42 x5).1) 0)
     (cond (Nat.beq ((r41 x0 x1 x2 x3 ((r25 x4).2) ((r42 x5).2)).1) 0)
      (cond (Nat.beq ((r43 x0 x1 x2 x3 ((r25 x4).2) ((r42 x5).2)).1) 0)
       (cond ((((r43 x0 x1 x2 x3 ((r25 x4).2) ((r42 x5).2)).2.1) : Int) != ((r41 x0 x1 x2 x3 ((r25 x4).2) ((r42 x5).2)).2.1))
        (0, false)
        (cond ((((r43 x0 x1 x2 x3 ((r25 x4).2) ((r42 x5).2)).2.2) : Int) != ((r41 x0 x1 x2 x3 ((r25 x4).2) ((r42 x5).2)).2.2))
         (0, false)
         (cond (Nat.beq ((r27 ((r25 x4).2) ((r25 x4).2)).1) 0)
          (cond (!((r27 ((r25 x4).2) ((r25 x4).2)).2))
           (0, false)
           (cond (Nat.beq ((r30b ((r42 x5).2) ((r42 x5).2)).1) 0)
            (cond (!((r30b ((r42 x5).2) ((r42 x5).2)).2))
             (0, false)
             (0, true))
            (1, false)))
          (1, false))))
       (1, false))
      (1, false))
     (1, false))
    (1, false)))
noncomputable def a9 (x0 x1 x2 : Nat) (x3 : Int) (x4 x5 : List (List Int)) (p : Nat × Bool) : Res := firstT [((Nat.beq (p.1) 0), .bool (p.2), ⟨[⟨false, (some (.tab sc0 x4))⟩, ⟨false, (some (.tab [.fl .f32] x5))⟩], 2, []⟩)]
noncomputable def w9 (x0 x1 x2 : Nat) (x3 : Int) (x4 x5 : List (List Int)) : Res :=
 (cond (decide ((((x5.length : Nat) : Int) : Int) > 1048576))
 (a9 x0 x1 x2 x3 x4 x5 (0, true))
 (cond (decide (((r24 1048576 x4) : Int) < 0))
  (a9 x0 x1 x2 x3 x4 x5 (0, true))
  (cond (Nat.beq ((r25 x4).1) 0)
   (cond (Nat.beq ((r42 x5).1) 0)
    (cond (Nat.beq ((r41 x0 x1 x2 x3 ((r25 x4).2) ((r42 x5).2)).1) 0)
     (cond (Nat.beq ((r25 x4).1) 0)
      (cond (Nat.beq ((r42 x5).1) 0)
       (cond (Nat.beq ((r43 x0 x1 x2 x3 ((r25 x4).2) ((r42 x5).2)).1) 0)
        (cond ((((r43 x0 x1 x2 x3 ((r25 x4).2) ((r42 x5).2)).2.1) : Int) != ((r41 x0 x1 x2 x3 ((r25 x4).2) ((r42 x5).2)).2.1))
         (a9 x0 x1 x2 x3 x4 x5 (0, false))
         (cond ((((r43 x0 x1 x2 x3 ((r25 x4).2) ((r42 x5).2)).2.2) : Int) != ((r41 x0 x1 x2 x3 ((r25 x4).2) ((r42 x5).2)).2.2))
          (a9 x0 x1 x2 x3 x4 x5 (0, false))
          (cond (Nat.beq ((r25 x4).1) 0)
           (cond (Nat.beq ((r27 ((r25 x4).2) ((r25 x4).2)).1) 0)
            (cond (!((r27 ((r25 x4).2) ((r25 x4).2)).2))
             (a9 x0 x1 x2 x3 x4 x5 (0, false))
             (cond (Nat.beq ((r42 x5).1) 0)
              (cond (Nat.beq ((r30b ((r42 x5).2) ((r42 x5).2)).1) 0)
               (cond (!((r30b ((r42 x5).2) ((r42 x5).2)).2))
                (a9 x0 x1 x2 x3 x4 x5 (0, false))
                (a9 x0 x1 x2 x3 x4 x5 (0, true)))
               none)
              none))
            none)
           none)))
        none)
       none)
      none)
     none)
    none)
   none)))
set_option maxRecDepth 100000 in
set_option maxHeartbeats 4000000 in
theorem e9 (x0 x1 x2 : Nat) (x3 : Int) (x4 x5 : List (List Int)) : evFn Try.prog ext T92 noL 200 Try.f9 [wsl 0, wsl 1, .float .f32 x0, .float .f32 x1, .float .f32 x2, .int .i64 x3] ⟨[⟨false, (some (.tab sc0 x4))⟩, ⟨false, (some (.tab [.fl .f32] x5))⟩], 2, []⟩ = firstT [((Nat.beq ((r9 x0 x1 x2 x3 x4 x5).1) 0), .bool ((r9 x0 x1 x2 x3 x4 x5).2), ⟨[⟨false, (some (.tab sc0 x4))⟩, ⟨false, (some (.tab [.fl .f32] x5))⟩], 2, []⟩)] :=
 (show evFn Try.prog ext T92 noL 200 Try.f9 [wsl 0, wsl 1, .float .f32 x0, .float .f32 x1, .float .f32 x2, .int .i64 x3] ⟨[⟨false, (some (.tab sc0 x4))⟩, ⟨false, (some (.tab [.fl .f32] x5))⟩], 2, []⟩ = w9 x0 x1 x2 x3 x4 x5 from by kernel_rfl).trans
 (show w9 x0 x1 x2 x3 x4 x5 = a9 x0 x1 x2 x3 x4 x5 (r9 x0 x1 x2 x3 x4 x5) from by unfold w9 r9; exact (cond_both (a9 x0 x1 x2 x3 x4 x5) _ (fun h0 => rfl) (fun h0 => (cond_both (a9 x0 x1 x2 x3 x4 x5) _ (fun h1 => rfl) (fun h1 => (cond_both (a9 x0 x1 x2 x3 x4 x5) _ (fun h2 => (cond_both (a9 x0 x1 x2 x3 x4 x5) _ (fun h3 => (cond_both (a9 x0 x1 x2 x3 x4 x5) _ (fun h4 => (cond_t h2 (cond_t h3 (cond_both (a9 x0 x1 x2 x3 x4 x5) _ (fun h5 => (cond_both (a9 x0 x1 x2 x3 x4 x5) _ (fun h6 => rfl) (fun h6 => (cond_both (a9 x0 x1 x2 x3 x4 x5) _ (fun h7 => rfl) (fun h7 => (cond_t h2 (cond_both (a9 x0 x1 x2 x3 x4 x5) _ (fun h8 => (cond_both (a9 x0 x1 x2 x3 x4 x5) _ (fun h9 => rfl) (fun h9 => (cond_t h3 (cond_app (a9 x0 x1 x2 x3 x4 x5) _ (cond_app (a9 x0 x1 x2 x3 x4 x5) _ rfl rfl) rfl))))) (fun h8 => rfl)))))))) (fun h5 => rfl))))) (fun h4 => rfl))) (fun h3 => rfl))) (fun h2 => rfl)))))))
noncomputable def s9 (args : List Value) (s : St) : List (Bool × Value × St) :=
 match args, s.h with
 | [.iface f0 .nilIface, .iface f1 .nilIface, .float .f32 x0, .float .f32 x1, .float .f32 x2, .int .i64 x3], [⟨false, some (.tab [.fl .f32, .fl .f32, .fl .f32, .fl .f32, .int .i64] x4)⟩, ⟨false, some (.tab [.fl .f32] x5)⟩] => if f0 = 0 ∧ f1 = 1 then [((Nat.beq ((r9 x0 x1 x2 x3 x4 x5).1) 0), .bool ((r9 x0 x1 x2 x3 x4 x5).2), ⟨[⟨false, (some (.tab sc0 x4))⟩, ⟨false, (some (.tab [.fl .f32] x5))⟩], 2, []⟩)] else T92 9 args s
 | _, _ => T92 9 args s
noncomputable def T93 : CallF := addF T92 9 s9
set_option maxRecDepth 100000 in
set_option maxHeartbeats 4000000 in
theorem ok93 : CfOk Try.prog T93 := by
  refine cfOk_add ok92 fun args s r s' h1 h2 h3 => ?_
  unfold s9 at h3; split at h3
  · rename_i h; split at h3
    · rename_i hc; obtain ⟨rfl, rfl⟩ := hc; exact callOk ok92 Try.func9 h1 h2 h (lfOkF_no _ _).body (e9 _ _ _ _ _ _) rfl h3
    · exact ok92 _ _ _ _ _ h1 h2 h3
  · exact ok92 _ _ _ _ _ h1 h2 h3
end Go.Proofs.Ytdpkbkmmlbmllaa
