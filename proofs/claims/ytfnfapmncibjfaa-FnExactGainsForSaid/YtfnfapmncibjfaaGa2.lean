/- What the functions that the statements reach answer, part 2. -/
import Derived.Test.YtfnfapmncibjfaaGa1
namespace Go.Proofs.Ytfnfapmncibjfaa
open Go.Ab
set_option maxHeartbeats 4000000
set_option maxRecDepth 100000

/-- spec.GainsFor, loop 2: one round -/
noncomputable def b29l2 (ih : Nat → Nat → Int → Nat → Int → List (List Int) → List (List Int) → List (List Int) → List (List Int) → List (List Int) → List (List Int) → (Nat × Nat)) (x0 x1 : Nat) (x2 : Int) (x3 : Nat) (x4 : Int) (x5 x6 x7 x8 x9 x10 : List (List Int)) : Nat × Nat :=
 cond (decide ((x4 : Int) < ((x9.length : Nat) : Int)))
  (cond ((decide ((0 : Int) ≤ x4)) && (Nat.blt (Int.toNat x4) x9.length))
   (cond ((((x9.getD (Int.toNat x4) []).getD 0 0) : Int) == x2)
    (cond ((decide ((0 : Int) ≤ x2)) && (Nat.blt (Int.toNat x2) x5.length))
     (cond (Nat.beq ((r60 ((x9.getD (Int.toNat x4) []).getD 1 0) x0 x5).1) 0)
      (cond ((((x9.getD (Int.toNat x4) []).getD 1 0) : Int) == x2)
       (cond ((decide ((0 : Int) ≤ ((x9.getD (Int.toNat x4) []).getD 0 0))) && (Nat.blt (Int.toNat ((x9.getD (Int.toNat x4) []).getD 0 0)) x5.length))
        (ih x0 x1 x2 (fadd .f32 (fadd .f32 x3 (fmul .f32 (fmul .f32 1048576000 (Int.toNat ((x9.getD (Int.toNat x4) []).getD 2 0))) (fsub .f32 (Int.toNat ((x5.getD (Int.toNat x2) []).getD 0 0)) ((r60 ((x9.getD (Int.toNat x4) []).getD 1 0) x0 x5).2)))) (fmul .f32 (fmul .f32 1048576000 (Int.toNat ((x9.getD (Int.toNat x4) []).getD 2 0))) (fsub .f32 (Int.toNat ((x5.getD (Int.toNat x2) []).getD 0 0)) (Int.toNat ((x5.getD (Int.toNat ((x9.getD (Int.toNat x4) []).getD 0 0)) []).getD 0 0))))) (IntKind.i64.wrap (x4 + 1)) x5 x6 x7 x8 x9 x10)
        (1, 0))
       (ih x0 x1 x2 (fadd .f32 x3 (fmul .f32 (fmul .f32 1048576000 (Int.toNat ((x9.getD (Int.toNat x4) []).getD 2 0))) (fsub .f32 (Int.toNat ((x5.getD (Int.toNat x2) []).getD 0 0)) ((r60 ((x9.getD (Int.toNat x4) []).getD 1 0) x0 x5).2)))) (IntKind.i64.wrap (x4 + 1)) x5 x6 x7 x8 x9 x10))
      (1, 0))
     (1, 0))
    (cond ((((x9.getD (Int.toNat x4) []).getD 1 0) : Int) == x2)
     (cond ((decide ((0 : Int) ≤ x2)) && (Nat.blt (Int.toNat x2) x5.length))
      (cond ((decide ((0 : Int) ≤ ((x9.getD (Int.toNat x4) []).getD 0 0))) && (Nat.blt (Int.toNat ((x9.getD (Int.toNat x4) []).getD 0 0)) x5.length))
       (ih x0 x1 x2 (fadd .f32 x3 (fmul .f32 (fmul .f32 1048576000 (Int.toNat ((x9.getD (Int.toNat x4) []).getD 2 0))) (fsub .f32 (Int.toNat ((x5.getD (Int.toNat x2) []).getD 0 0)) (Int.toNat ((x5.getD (Int.toNat ((x9.getD (Int.toNat x4) []).getD 0 0)) []).getD 0 0))))) (IntKind.i64.wrap (x4 + 1)) x5 x6 x7 x8 x9 x10)
       (1, 0))
      (1, 0))
     (ih x0 x1 x2 x3 (IntKind.i64.wrap (x4 + 1)) x5 x6 x7 x8 x9 x10)))
   (1, 0))
  (0, x3)
noncomputable def r29l2 : Nat → Nat → Nat → Int → Nat → Int → List (List Int) → List (List Int) → List (List Int) → List (List Int) → List (List Int) → List (List Int) → (Nat × Nat)
 | 0 => fun _ _ _ _ _ _ _ _ _ _ _ => (1, 0)
 | m + 1 => b29l2 (r29l2 m)
noncomputable def a29l2 (x0 x1 : Nat) (x2 : Int) (x3 : Nat) (x4 : Int) (x5 x6 x7 x8 x9 x10 : List (List Int)) (p : Nat × Nat) : Option (Fin' × List Value × St) := firstT ([((Nat.beq (p.1) 0), .exit 4, [.float .f32 x0, .float .f32 x1, wsl 0, .pointer (some ⟨1, 0, some 0⟩), wsl 2, .int .i64 x2, .float .f32 (p.2)], ⟨[⟨true, (some (.tab [.fl .f32] x5))⟩, ⟨true, (some (.cells [wsl 3, wsl 4, wsl 5, wsl 6]))⟩, ⟨true, (some (.tab [.fl .f32] x6))⟩, ⟨true, (some (.tab [.fl .f32] x7))⟩, ⟨true, (some (.tab [.fl .f32] x8))⟩, ⟨true, (some (.tab sc0 x9))⟩, ⟨true, (some (.tab sc1 x10))⟩], 7, []⟩)].map fun (b, x) => (b, (x.1, frameOf 191 [1, 2, 3, 4, 12, 13, 14] x.2.1, x.2.2)))
noncomputable def u29l2 (x0 x1 : Nat) (x2 : Int) (x3 : Nat) (x4 : Int) (x5 x6 x7 x8 x9 x10 : List (List Int)) (p : Nat × Nat) : Option (Fin' × List Value × St) := alts ([((Nat.beq (p.1) 0), .exit 4, [.float .f32 x0, .float .f32 x1, wsl 0, .pointer (some ⟨1, 0, some 0⟩), wsl 2, .int .i64 x2, .float .f32 (p.2)], ⟨[⟨true, (some (.tab [.fl .f32] x5))⟩, ⟨true, (some (.cells [wsl 3, wsl 4, wsl 5, wsl 6]))⟩, ⟨true, (some (.tab [.fl .f32] x6))⟩, ⟨true, (some (.tab [.fl .f32] x7))⟩, ⟨true, (some (.tab [.fl .f32] x8))⟩, ⟨true, (some (.tab sc0 x9))⟩, ⟨true, (some (.tab sc1 x10))⟩], 7, []⟩)].map fun (b, x) => (b, (x.1, frameOf 191 [1, 2, 3, 4, 12, 13, 14] x.2.1, x.2.2))) some
theorem v29l2 (x0 x1 : Nat) (x2 : Int) (x3 : Nat) (x4 : Int) (x5 x6 x7 x8 x9 x10 : List (List Int)) (p : Nat × Nat) : u29l2 x0 x1 x2 x3 x4 x5 x6 x7 x8 x9 x10 p = a29l2 x0 x1 x2 x3 x4 x5 x6 x7 x8 x9 x10 p := alts_first _
noncomputable def q29l2 (m : Nat) : SumK := fun vals s =>
 match vals, s.h with
 | [.float .f32 x0, .float .f32 x1, .iface f0 .nilIface, .pointer (some ⟨f1, f2, some f3⟩), .iface f4 .nilIface, .int .i64 x2, .float .f32 x3, .int .i64 x4], [⟨true, some (.tab [.fl .f32] x5)⟩, ⟨true, some (.cells [.iface f5 .nilIface, .iface f6 .nilIface, .iface f7 .nilIface, .iface f8 .nilIface])⟩, ⟨true, some (.tab [.fl .f32] x6)⟩, ⟨true, some (.tab [.fl .f32] x7)⟩, ⟨true, some (.tab [.fl .f32] x8)⟩, ⟨true, some (.tab [.int .i64, .int .i64, .fl .f32, .fl .f32, .fl .f32, .fl .f32, .fl .f32, .fl .f32] x9)⟩, ⟨true, some (.tab [.int .i64, .int .i64, .fl .f32, .fl .f32] x10)⟩] => if f0 = 0 ∧ f1 = 1 ∧ f2 = 0 ∧ f3 = 0 ∧ f4 = 2 ∧ f5 = 3 ∧ f6 = 4 ∧ f7 = 5 ∧ f8 = 6 then [((Nat.beq ((r29l2 m x0 x1 x2 x3 x4 x5 x6 x7 x8 x9 x10).1) 0), .exit 4, [.float .f32 x0, .float .f32 x1, wsl 0, .pointer (some ⟨1, 0, some 0⟩), wsl 2, .int .i64 x2, .float .f32 ((r29l2 m x0 x1 x2 x3 x4 x5 x6 x7 x8 x9 x10).2)], ⟨[⟨true, (some (.tab [.fl .f32] x5))⟩, ⟨true, (some (.cells [wsl 3, wsl 4, wsl 5, wsl 6]))⟩, ⟨true, (some (.tab [.fl .f32] x6))⟩, ⟨true, (some (.tab [.fl .f32] x7))⟩, ⟨true, (some (.tab [.fl .f32] x8))⟩, ⟨true, (some (.tab sc0 x9))⟩, ⟨true, (some (.tab sc1 x10))⟩], 7, []⟩)] else noQ vals s
 | _, _ => noQ vals s
noncomputable def w29l2 (ih : Nat → Nat → Int → Nat → Int → List (List Int) → List (List Int) → List (List Int) → List (List Int) → List (List Int) → List (List Int) → (Nat × Nat)) (x0 x1 : Nat) (x2 : Int) (x3 : Nat) (x4 : Int) (x5 x6 x7 x8 x9 x10 : List (List Int)) : Option (Fin' × List Value × St) :=
 (cond (decide ((x4 : Int) < ((x9.length : Nat) : Int)))
 (cond ((decide ((0 : Int) ≤ x4)) && (Nat.blt (Int.toNat x4) x9.length))
  (cond (Nat.blt (Int.toNat x4) x9.length)
   (cond (Nat.blt (Int.toNat x4) x9.length)
    (cond ((((x9.getD (Int.toNat x4) []).getD 0 0) : Int) == x2)
     (cond ((decide ((0 : Int) ≤ x2)) && (Nat.blt (Int.toNat x2) x5.length))
      (cond (Nat.blt (Int.toNat x2) x5.length)
       (cond (Nat.blt (Int.toNat x4) x9.length)
        (cond (Nat.beq ((r60 ((x9.getD (Int.toNat x4) []).getD 1 0) x0 x5).1) 0)
         (cond (Nat.blt (Int.toNat x4) x9.length)
          (cond ((((x9.getD (Int.toNat x4) []).getD 1 0) : Int) == x2)
           (cond ((decide ((0 : Int) ≤ x2)) && (Nat.blt (Int.toNat x2) x5.length))
            (cond (Nat.blt (Int.toNat x2) x5.length)
             (cond (Nat.blt (Int.toNat x4) x9.length)
              (cond ((decide ((0 : Int) ≤ ((x9.getD (Int.toNat x4) []).getD 0 0))) && (Nat.blt (Int.toNat ((x9.getD (Int.toNat x4) []).getD 0 0)) x5.length))
               (cond (Nat.blt (Int.toNat ((x9.getD (Int.toNat x4) []).getD 0 0)) x5.length)
                (u29l2 x0 x1 x2 x3 x4 x5 x6 x7 x8 x9 x10 (ih x0 x1 x2 (fadd .f32 (fadd .f32 x3 (fmul .f32 (fmul .f32 1048576000 (Int.toNat ((x9.getD (Int.toNat x4) []).getD 2 0))) (fsub .f32 (Int.toNat ((x5.getD (Int.toNat x2) []).getD 0 0)) ((r60 ((x9.getD (Int.toNat x4) []).getD 1 0) x0 x5).2)))) (fmul .f32 (fmul .f32 1048576000 (Int.toNat ((x9.getD (Int.toNat x4) []).getD 2 0))) (fsub .f32 (Int.toNat ((x5.getD (Int.toNat x2) []).getD 0 0)) (Int.toNat ((x5.getD (Int.toNat ((x9.getD (Int.toNat x4) []).getD 0 0)) []).getD 0 0))))) (IntKind.i64.wrap (x4 + 1)) x5 x6 x7 x8 x9 x10))
                none)
               none)
              none)
             none)
            none)
           (u29l2 x0 x1 x2 x3 x4 x5 x6 x7 x8 x9 x10 (ih x0 x1 x2 (fadd .f32 x3 (fmul .f32 (fmul .f32 1048576000 (Int.toNat ((x9.getD (Int.toNat x4) []).getD 2 0))) (fsub .f32 (Int.toNat ((x5.getD (Int.toNat x2) []).getD 0 0)) ((r60 ((x9.getD (Int.toNat x4) []).getD 1 0) x0 x5).2)))) (IntKind.i64.wrap (x4 + 1)) x5 x6 x7 x8 x9 x10)))
          none)
         none)
        none)
       none)
      none)
     (cond (Nat.blt (Int.toNat x4) x9.length)
      (cond ((((x9.getD (Int.toNat x4) []).getD 1 0) : Int) == x2)
       (cond ((decide ((0 : Int) ≤ x2)) && (Nat.blt (Int.toNat x2) x5.length))
        (cond (Nat.blt (Int.toNat x2) x5.length)
         (cond (Nat.blt (Int.toNat x4) x9.length)
          (cond ((decide ((0 : Int) ≤ ((x9.getD (Int.toNat x4) []).getD 0 0))) && (Nat.blt (Int.toNat ((x9.getD (Int.toNat x4) []).getD 0 0)) x5.length))
           (cond (Nat.blt (Int.toNat ((x9.getD (Int.toNat x4) []).getD 0 0)) x5.length)
            (u29l2 x0 x1 x2 x3 x4 x5 x6 x7 x8 x9 x10 (ih x0 x1 x2 (fadd .f32 x3 (fmul .f32 (fmul .f32 1048576000 (Int.toNat ((x9.getD (Int.toNat x4) []).getD 2 0))) (fsub .f32 (Int.toNat ((x5.getD (Int.toNat x2) []).getD 0 0)) (Int.toNat ((x5.getD (Int.toNat ((x9.getD (Int.toNat x4) []).getD 0 0)) []).getD 0 0))))) (IntKind.i64.wrap (x4 + 1)) x5 x6 x7 x8 x9 x10))
            none)
           none)
          none)
         none)
        none)
       (u29l2 x0 x1 x2 x3 x4 x5 x6 x7 x8 x9 x10 (ih x0 x1 x2 x3 (IntKind.i64.wrap (x4 + 1)) x5 x6 x7 x8 x9 x10)))
      none))
    none)
   none)
  none)
 (a29l2 x0 x1 x2 x3 x4 x5 x6 x7 x8 x9 x10 (0, x3)))
set_option maxRecDepth 100000 in
set_option maxHeartbeats 4000000 in
theorem e29l2 (m : Nat) (x0 x1 : Nat) (x2 : Int) (x3 : Nat) (x4 : Int) (x5 x6 x7 x8 x9 x10 : List (List Int)) : evC Try.prog ext T23 L29_1 200 (loopN Try.f29 2) (loopTail ([1, 2, 3, 4, 12, 13, 14, 15], []) [1, 2, 3, 4, 12, 13, 14] [] (sumK 191 [1, 2, 3, 4, 12, 13, 14, 15] [1, 2, 3, 4, 12, 13, 14] (q29l2 m))) (frameOf 191 [1, 2, 3, 4, 12, 13, 14, 15] [.float .f32 x0, .float .f32 x1, wsl 0, .pointer (some ⟨1, 0, some 0⟩), wsl 2, .int .i64 x2, .float .f32 x3, .int .i64 x4]) ⟨[⟨true, (some (.tab [.fl .f32] x5))⟩, ⟨true, (some (.cells [wsl 3, wsl 4, wsl 5, wsl 6]))⟩, ⟨true, (some (.tab [.fl .f32] x6))⟩, ⟨true, (some (.tab [.fl .f32] x7))⟩, ⟨true, (some (.tab [.fl .f32] x8))⟩, ⟨true, (some (.tab sc0 x9))⟩, ⟨true, (some (.tab sc1 x10))⟩], 7, []⟩ = firstT ([((Nat.beq ((r29l2 (m + 1) x0 x1 x2 x3 x4 x5 x6 x7 x8 x9 x10).1) 0), .exit 4, [.float .f32 x0, .float .f32 x1, wsl 0, .pointer (some ⟨1, 0, some 0⟩), wsl 2, .int .i64 x2, .float .f32 ((r29l2 (m + 1) x0 x1 x2 x3 x4 x5 x6 x7 x8 x9 x10).2)], ⟨[⟨true, (some (.tab [.fl .f32] x5))⟩, ⟨true, (some (.cells [wsl 3, wsl 4, wsl 5, wsl 6]))⟩, ⟨true, (some (.tab [.fl .f32] x6))⟩, ⟨true, (some (.tab [.fl .f32] x7))⟩, ⟨true, (some (.tab [.fl .f32] x8))⟩, ⟨true, (some (.tab sc0 x9))⟩, ⟨true, (some (.tab sc1 x10))⟩], 7, []⟩)].map fun (b, x) => (b, (x.1, frameOf 191 [1, 2, 3, 4, 12, 13, 14] x.2.1, x.2.2))) :=
 (show evC Try.prog ext T23 L29_1 200 (loopN Try.f29 2) (loopTail ([1, 2, 3, 4, 12, 13, 14, 15], []) [1, 2, 3, 4, 12, 13, 14] [] (sumK 191 [1, 2, 3, 4, 12, 13, 14, 15] [1, 2, 3, 4, 12, 13, 14] (q29l2 m))) (frameOf 191 [1, 2, 3, 4, 12, 13, 14, 15] [.float .f32 x0, .float .f32 x1, wsl 0, .pointer (some ⟨1, 0, some 0⟩), wsl 2, .int .i64 x2, .float .f32 x3, .int .i64 x4]) ⟨[⟨true, (some (.tab [.fl .f32] x5))⟩, ⟨true, (some (.cells [wsl 3, wsl 4, wsl 5, wsl 6]))⟩, ⟨true, (some (.tab [.fl .f32] x6))⟩, ⟨true, (some (.tab [.fl .f32] x7))⟩, ⟨true, (some (.tab [.fl .f32] x8))⟩, ⟨true, (some (.tab sc0 x9))⟩, ⟨true, (some (.tab sc1 x10))⟩], 7, []⟩ = w29l2 (r29l2 m) x0 x1 x2 x3 x4 x5 x6 x7 x8 x9 x10 from by kernel_rfl).trans
 (show w29l2 (r29l2 m) x0 x1 x2 x3 x4 x5 x6 x7 x8 x9 x10 = a29l2 x0 x1 x2 x3 x4 x5 x6 x7 x8 x9 x10 (r29l2 (m + 1) x0 x1 x2 x3 x4 x5 x6 x7 x8 x9 x10) from by unfold w29l2; show _ = a29l2 x0 x1 x2 x3 x4 x5 x6 x7 x8 x9 x10 (b29l2 (r29l2 m) x0 x1 x2 x3 x4 x5 x6 x7 x8 x9 x10); unfold b29l2; exact (cond_both (a29l2 x0 x1 x2 x3 x4 x5 x6 x7 x8 x9 x10) _ (fun h0 => (cond_both (a29l2 x0 x1 x2 x3 x4 x5 x6 x7 x8 x9 x10) _ (fun h1 => (cond_t (ev_and2 h1) (cond_t (ev_and2 h1) (cond_both (a29l2 x0 x1 x2 x3 x4 x5 x6 x7 x8 x9 x10) _ (fun h2 => (cond_both (a29l2 x0 x1 x2 x3 x4 x5 x6 x7 x8 x9 x10) _ (fun h3 => (cond_t (ev_and2 h3) (cond_t (ev_and2 h1) (cond_both (a29l2 x0 x1 x2 x3 x4 x5 x6 x7 x8 x9 x10) _ (fun h4 => (cond_t (ev_and2 h1) (cond_both (a29l2 x0 x1 x2 x3 x4 x5 x6 x7 x8 x9 x10) _ (fun h5 => (cond_t h3 (cond_t (ev_and2 h3) (cond_t (ev_and2 h1) (cond_both (a29l2 x0 x1 x2 x3 x4 x5 x6 x7 x8 x9 x10) _ (fun h6 => (cond_t (ev_and2 h6) (v29l2 x0 x1 x2 x3 x4 x5 x6 x7 x8 x9 x10 ((r29l2 m) x0 x1 x2 (fadd .f32 (fadd .f32 x3 (fmul .f32 (fmul .f32 1048576000 (Int.toNat ((x9.getD (Int.toNat x4) []).getD 2 0))) (fsub .f32 (Int.toNat ((x5.getD (Int.toNat x2) []).getD 0 0)) ((r60 ((x9.getD (Int.toNat x4) []).getD 1 0) x0 x5).2)))) (fmul .f32 (fmul .f32 1048576000 (Int.toNat ((x9.getD (Int.toNat x4) []).getD 2 0))) (fsub .f32 (Int.toNat ((x5.getD (Int.toNat x2) []).getD 0 0)) (Int.toNat ((x5.getD (Int.toNat ((x9.getD (Int.toNat x4) []).getD 0 0)) []).getD 0 0))))) (IntKind.i64.wrap (x4 + 1)) x5 x6 x7 x8 x9 x10)))) (fun h6 => rfl)))))) (fun h5 => (v29l2 x0 x1 x2 x3 x4 x5 x6 x7 x8 x9 x10 ((r29l2 m) x0 x1 x2 (fadd .f32 x3 (fmul .f32 (fmul .f32 1048576000 (Int.toNat ((x9.getD (Int.toNat x4) []).getD 2 0))) (fsub .f32 (Int.toNat ((x5.getD (Int.toNat x2) []).getD 0 0)) ((r60 ((x9.getD (Int.toNat x4) []).getD 1 0) x0 x5).2)))) (IntKind.i64.wrap (x4 + 1)) x5 x6 x7 x8 x9 x10)))))) (fun h4 => rfl))))) (fun h3 => rfl))) (fun h2 => (cond_t (ev_and2 h1) (cond_both (a29l2 x0 x1 x2 x3 x4 x5 x6 x7 x8 x9 x10) _ (fun h3 => (cond_both (a29l2 x0 x1 x2 x3 x4 x5 x6 x7 x8 x9 x10) _ (fun h4 => (cond_t (ev_and2 h4) (cond_t (ev_and2 h1) (cond_both (a29l2 x0 x1 x2 x3 x4 x5 x6 x7 x8 x9 x10) _ (fun h5 => (cond_t (ev_and2 h5) (v29l2 x0 x1 x2 x3 x4 x5 x6 x7 x8 x9 x10 ((r29l2 m) x0 x1 x2 (fadd .f32 x3 (fmul .f32 (fmul .f32 1048576000 (Int.toNat ((x9.getD (Int.toNat x4) []).getD 2 0))) (fsub .f32 (Int.toNat ((x5.getD (Int.toNat x2) []).getD 0 0)) (Int.toNat ((x5.getD (Int.toNat ((x9.getD (Int.toNat x4) []).getD 0 0)) []).getD 0 0))))) (IntKind.i64.wrap (x4 + 1)) x5 x6 x7 x8 x9 x10)))) (fun h5 => rfl))))) (fun h4 => rfl))) (fun h3 => (v29l2 x0 x1 x2 x3 x4 x5 x6 x7 x8 x9 x10 ((r29l2 m) x0 x1 x2 x3 (IntKind.i64.wrap (x4 + 1)) x5 x6 x7 x8 x9 x10)))))))))) (fun h1 => rfl))) (fun h0 => rfl)))
set_option maxRecDepth 100000 in
set_option maxHeartbeats 4000000 in
theorem qm29l2 : ∀ m, SumKOk Try.prog (loopN Try.f29 2) 191 [1, 2, 3, 4, 12, 13, 14, 15] [1, 2, 3, 4, 12, 13, 14] (q29l2 m) := by
  intro m
  induction m with
  | zero =>
    intro vals s x h1 h2 h3
    unfold q29l2 at h3; split at h3
    · rename_i h; split at h3
      · rename_i hc; obtain ⟨rfl, rfl, rfl, rfl, rfl, rfl, rfl, rfl, rfl⟩ := hc; exact absurd h3 (by simp [r29l2, firstT, Nat.beq])
      · exact noQ_ok _ _ _ h1 h2 h3
    · exact noQ_ok _ _ _ h1 h2 h3
  | succ m ih =>
    intro vals s x h1 h2 h3
    unfold q29l2 at h3; split at h3
    · rename_i h; split at h3
      · rename_i hc; obtain ⟨rfl, rfl, rfl, rfl, rfl, rfl, rfl, rfl, rfl⟩ := hc; exact sum_step ok23 extOk mixed (lok29_1.inner (by kernel_rfl)) ih h1 h2 h (e29l2 m _ _ _ _ _ _ _ _ _ _ _) rfl h3
      · exact noQ_ok _ _ _ h1 h2 h3
    · exact noQ_ok _ _ _ h1 h2 h3
noncomputable def Q29l2 : SumK := fun vals s => q29l2 (fuelOf vals s.h) vals s
theorem qok29l2 : SumKOk Try.prog (loopN Try.f29 2) 191 [1, 2, 3, 4, 12, 13, 14, 15] [1, 2, 3, 4, 12, 13, 14] Q29l2 := fuel_ok qm29l2 fuelOf
noncomputable def L29_2 : LoopT := addL L29_1 17 ([1, 2, 3, 4, 12, 13, 14, 15], []) (sumK 191 [1, 2, 3, 4, 12, 13, 14, 15] [1, 2, 3, 4, 12, 13, 14] Q29l2)
theorem lok29_2 : LfOkF Try.prog L29_2 Try.f29 := lfOkF_add lok29_1 qok29l2 (by kernel_rfl) (by kernel_rfl) (by kernel_rfl)

/-- spec.GainsFor, loop 3: one round -/
noncomputable def b29l3 (ih : Nat → Nat → Int → Nat → Int → List (List Int) → List (List Int) → List (List Int) → List (List Int) → List (List Int) → List (List Int) → (Nat × Nat)) (x0 x1 : Nat) (x2 : Int) (x3 : Nat) (x4 : Int) (x5 x6 x7 x8 x9 x10 : List (List Int)) : Nat × Nat :=
 cond (decide ((x4 : Int) < ((x10.length : Nat) : Int)))
  (cond ((decide ((0 : Int) ≤ x4)) && (Nat.blt (Int.toNat x4) x10.length))
   (cond ((((x10.getD (Int.toNat x4) []).getD 0 0) : Int) == x2)
    (cond ((decide ((0 : Int) ≤ x2)) && (Nat.blt (Int.toNat x2) x5.length))
     (cond (Nat.beq ((r60 ((x10.getD (Int.toNat x4) []).getD 1 0) x0 x5).1) 0)
      (cond ((((x10.getD (Int.toNat x4) []).getD 1 0) : Int) == x2)
       (cond ((decide ((0 : Int) ≤ ((x10.getD (Int.toNat x4) []).getD 0 0))) && (Nat.blt (Int.toNat ((x10.getD (Int.toNat x4) []).getD 0 0)) x5.length))
        (ih x0 x1 x2 (fadd .f32 (fsub .f32 (fadd .f32 x3 (fmul .f32 (Int.toNat ((x10.getD (Int.toNat x4) []).getD 2 0)) (fsub .f32 (Int.toNat ((x5.getD (Int.toNat x2) []).getD 0 0)) ((r60 ((x10.getD (Int.toNat x4) []).getD 1 0) x0 x5).2)))) (fmul .f32 (Int.toNat ((x10.getD (Int.toNat x4) []).getD 3 0)) x1)) (fmul .f32 (Int.toNat ((x10.getD (Int.toNat x4) []).getD 2 0)) (fsub .f32 (Int.toNat ((x5.getD (Int.toNat x2) []).getD 0 0)) (Int.toNat ((x5.getD (Int.toNat ((x10.getD (Int.toNat x4) []).getD 0 0)) []).getD 0 0))))) (IntKind.i64.wrap (x4 + 1)) x5 x6 x7 x8 x9 x10)
        (1, 0))
       (ih x0 x1 x2 (fsub .f32 (fadd .f32 x3 (fmul .f32 (Int.toNat ((x10.getD (Int.toNat x4) []).getD 2 0)) (fsub .f32 (Int.toNat ((x5.getD (Int.toNat x2) []).getD 0 0)) ((r60 ((x10.getD (Int.toNat x4) []).getD 1 0) x0 x5).2)))) (fmul .f32 (Int.toNat ((x10.getD (Int.toNat x4) []).getD 3 0)) x1)) (IntKind.i64.wrap (x4 + 1)) x5 x6 x7 x8 x9 x10))
      (1, 0))
     (1, 0))
    (cond ((((x10.getD (Int.toNat x4) []).getD 1 0) : Int) == x2)
     (cond ((decide ((0 : Int) ≤ x2)) && (Nat.blt (Int.toNat x2) x5.length))
      (cond ((decide ((0 : Int) ≤ ((x10.getD (Int.toNat x4) []).getD 0 0))) && (Nat.blt (Int.toNat ((x10.getD (Int.toNat x4) []).getD 0 0)) x5.length))
       (ih x0 x1 x2 (fadd .f32 x3 (fmul .f32 (Int.toNat ((x10.getD (Int.toNat x4) []).getD 2 0)) (fsub .f32 (Int.toNat ((x5.getD (Int.toNat x2) []).getD 0 0)) (Int.toNat ((x5.getD (Int.toNat ((x10.getD (Int.toNat x4) []).getD 0 0)) []).getD 0 0))))) (IntKind.i64.wrap (x4 + 1)) x5 x6 x7 x8 x9 x10)
       (1, 0))
      (1, 0))
     (ih x0 x1 x2 x3 (IntKind.i64.wrap (x4 + 1)) x5 x6 x7 x8 x9 x10)))
   (1, 0))
  (0, x3)
noncomputable def r29l3 : Nat → Nat → Nat → Int → Nat → Int → List (List Int) → List (List Int) → List (List Int) → List (List Int) → List (List Int) → List (List Int) → (Nat × Nat)
 | 0 => fun _ _ _ _ _ _ _ _ _ _ _ => (1, 0)
 | m + 1 => b29l3 (r29l3 m)
noncomputable def a29l3 (x0 x1 : Nat) (x2 : Int) (x3 : Nat) (x4 : Int) (x5 x6 x7 x8 x9 x10 : List (List Int)) (p : Nat × Nat) : Option (Fin' × List Value × St) := firstT ([((Nat.beq (p.1) 0), .exit 6, [.float .f32 x0, .float .f32 x1, wsl 0, .pointer (some ⟨1, 0, some 0⟩), wsl 2, .int .i64 x2, .float .f32 (p.2)], ⟨[⟨true, (some (.tab [.fl .f32] x5))⟩, ⟨true, (some (.cells [wsl 3, wsl 4, wsl 5, wsl 6]))⟩, ⟨true, (some (.tab [.fl .f32] x6))⟩, ⟨true, (some (.tab [.fl .f32] x7))⟩, ⟨true, (some (.tab [.fl .f32] x8))⟩, ⟨true, (some (.tab sc0 x9))⟩, ⟨true, (some (.tab sc1 x10))⟩], 7, []⟩)].map fun (b, x) => (b, (x.1, frameOf 191 [1, 2, 3, 4, 12, 13, 14] x.2.1, x.2.2)))
noncomputable def u29l3 (x0 x1 : Nat) (x2 : Int) (x3 : Nat) (x4 : Int) (x5 x6 x7 x8 x9 x10 : List (List Int)) (p : Nat × Nat) : Option (Fin' × List Value × St) := alts ([((Nat.beq (p.1) 0), .exit 6, [.float .f32 x0, .float .f32 x1, wsl 0, .pointer (some ⟨1, 0, some 0⟩), wsl 2, .int .i64 x2, .float .f32 (p.2)], ⟨[⟨true, (some (.tab [.fl .f32] x5))⟩, ⟨true, (some (.cells [wsl 3, wsl 4, wsl 5, wsl 6]))⟩, ⟨true, (some (.tab [.fl .f32] x6))⟩, ⟨true, (some (.tab [.fl .f32] x7))⟩, ⟨true, (some (.tab [.fl .f32] x8))⟩, ⟨true, (some (.tab sc0 x9))⟩, ⟨true, (some (.tab sc1 x10))⟩], 7, []⟩)].map fun (b, x) => (b, (x.1, frameOf 191 [1, 2, 3, 4, 12, 13, 14] x.2.1, x.2.2))) some
theorem v29l3 (x0 x1 : Nat) (x2 : Int) (x3 : Nat) (x4 : Int) (x5 x6 x7 x8 x9 x10 : List (List Int)) (p : Nat × Nat) : u29l3 x0 x1 x2 x3 x4 x5 x6 x7 x8 x9 x10 p = a29l3 x0 x1 x2 x3 x4 x5 x6 x7 x8 x9 x10 p := alts_first _
noncomputable def q29l3 (m : Nat) : SumK := fun vals s =>
 match vals, s.h with
 | [.float .f32 x0, .float .f32 x1, .iface f0 .nilIface, .pointer (some ⟨f1, f2, some f3⟩), .iface f4 .nilIface, .int .i64 x2, .float .f32 x3, .int .i64 x4], [⟨true, some (.tab [.fl .f32] x5)⟩, ⟨true, some (.cells [.iface f5 .nilIface, .iface f6 .nilIface, .iface f7 .nilIface, .iface f8 .nilIface])⟩, ⟨true, some (.tab [.fl .f32] x6)⟩, ⟨true, some (.tab [.fl .f32] x7)⟩, ⟨true, some (.tab [.fl .f32] x8)⟩, ⟨true, some (.tab [.int .i64, .int .i64, .fl .f32, .fl .f32, .fl .f32, .fl .f32, .fl .f32, .fl .f32] x9)⟩, ⟨true, some (.tab [.int .i64, .int .i64, .fl .f32, .fl .f32] x10)⟩] => if f0 = 0 ∧ f1 = 1 ∧ f2 = 0 ∧ f3 = 0 ∧ f4 = 2 ∧ f5 = 3 ∧ f6 = 4 ∧ f7 = 5 ∧ f8 = 6 then [((Nat.beq ((r29l3 m x0 x1 x2 x3 x4 x5 x6 x7 x8 x9 x10).1) 0), .exit 6, [.float .f32 x0, .float .f32 x1, wsl 0, .pointer (some ⟨1, 0, some 0⟩), wsl 2, .int .i64 x2, .float .f32 ((r29l3 m x0 x1 x2 x3 x4 x5 x6 x7 x8 x9 x10).2)], ⟨[⟨true, (some (.tab [.fl .f32] x5))⟩, ⟨true, (some (.cells [wsl 3, wsl 4, wsl 5, wsl 6]))⟩, ⟨true, (some (.tab [.fl .f32] x6))⟩, ⟨true, (some (.tab [.fl .f32] x7))⟩, ⟨true, (some (.tab [.fl .f32] x8))⟩, ⟨true, (some (.tab sc0 x9))⟩, ⟨true, (some (.tab sc1 x10))⟩], 7, []⟩)] else noQ vals s
 | _, _ => noQ vals s
noncomputable def w29l3 (ih : Nat → Nat → Int → Nat → Int → List (List Int) → List (List Int) → List (List Int) → List (List Int) → List (List Int) → List (List Int) → (Nat × Nat)) (x0 x1 : Nat) (x2 : Int) (x3 : Nat) (x4 : Int) (x5 x6 x7 x8 x9 x10 : List (List Int)) : Option (Fin' × List Value × St) :=
 (cond (decide ((x4 : Int) < ((x10.length : Nat) : Int)))
 (cond ((decide ((0 : Int) ≤ x4)) && (Nat.blt (Int.toNat x4) x10.length))
  (cond (Nat.blt (Int.toNat x4) x10.length)
   (cond ((((x10.getD (Int.toNat x4) []).getD 0 0) : Int) == x2)
    (cond (Nat.blt (Int.toNat x4) x10.length)
     (cond ((decide ((0 : Int) ≤ x2)) && (Nat.blt (Int.toNat x2) x5.length))
      (cond (Nat.blt (Int.toNat x2) x5.length)
       (cond (Nat.blt (Int.toNat x4) x10.length)
        (cond (Nat.beq ((r60 ((x10.getD (Int.toNat x4) []).getD 1 0) x0 x5).1) 0)
         (cond (Nat.blt (Int.toNat x4) x10.length)
          (cond (Nat.blt (Int.toNat x4) x10.length)
           (cond ((((x10.getD (Int.toNat x4) []).getD 1 0) : Int) == x2)
            (cond (Nat.blt (Int.toNat x4) x10.length)
             (cond ((decide ((0 : Int) ≤ x2)) && (Nat.blt (Int.toNat x2) x5.length))
              (cond (Nat.blt (Int.toNat x2) x5.length)
               (cond (Nat.blt (Int.toNat x4) x10.length)
                (cond ((decide ((0 : Int) ≤ ((x10.getD (Int.toNat x4) []).getD 0 0))) && (Nat.blt (Int.toNat ((x10.getD (Int.toNat x4) []).getD 0 0)) x5.length))
                 (cond (Nat.blt (Int.toNat ((x10.getD (Int.toNat x4) []).getD 0 0)) x5.length)
                  (u29l3 x0 x1 x2 x3 x4 x5 x6 x7 x8 x9 x10 (ih x0 x1 x2 (fadd .f32 (fsub .f32 (fadd .f32 x3 (fmul .f32 (Int.toNat ((x10.getD (Int.toNat x4) []).getD 2 0)) (fsub .f32 (Int.toNat ((x5.getD (Int.toNat x2) []).getD 0 0)) ((r60 ((x10.getD (Int.toNat x4) []).getD 1 0) x0 x5).2)))) (fmul .f32 (Int.toNat ((x10.getD (Int.toNat x4) []).getD 3 0)) x1)) (fmul .f32 (Int.toNat ((x10.getD (Int.toNat x4) []).getD 2 0)) (fsub .f32 (Int.toNat ((x5.getD (Int.toNat x2) []).getD 0 0)) (Int.toNat ((x5.getD (Int.toNat ((x10.getD (Int.toNat x4) []).getD 0 0)) []).getD 0 0))))) (IntKind.i64.wrap (x4 + 1)) x5 x6 x7 x8 x9 x10))
                  none)
                 none)
                none)
               none)
              none)
             none)
            (u29l3 x0 x1 x2 x3 x4 x5 x6 x7 x8 x9 x10 (ih x0 x1 x2 (fsub .f32 (fadd .f32 x3 (fmul .f32 (Int.toNat ((x10.getD (Int.toNat x4) []).getD 2 0)) (fsub .f32 (Int.toNat ((x5.getD (Int.toNat x2) []).getD 0 0)) ((r60 ((x10.getD (Int.toNat x4) []).getD 1 0) x0 x5).2)))) (fmul .f32 (Int.toNat ((x10.getD (Int.toNat x4) []).getD 3 0)) x1)) (IntKind.i64.wrap (x4 + 1)) x5 x6 x7 x8 x9 x10)))
           none)
          none)
         none)
        none)
       none)
      none)
     none)
    (cond (Nat.blt (Int.toNat x4) x10.length)
     (cond ((((x10.getD (Int.toNat x4) []).getD 1 0) : Int) == x2)
      (cond (Nat.blt (Int.toNat x4) x10.length)
       (cond ((decide ((0 : Int) ≤ x2)) && (Nat.blt (Int.toNat x2) x5.length))
        (cond (Nat.blt (Int.toNat x2) x5.length)
         (cond (Nat.blt (Int.toNat x4) x10.length)
          (cond ((decide ((0 : Int) ≤ ((x10.getD (Int.toNat x4) []).getD 0 0))) && (Nat.blt (Int.toNat ((x10.getD (Int.toNat x4) []).getD 0 0)) x5.length))
           (cond (Nat.blt (Int.toNat ((x10.getD (Int.toNat x4) []).getD 0 0)) x5.length)
            (u29l3 x0 x1 x2 x3 x4 x5 x6 x7 x8 x9 x10 (ih x0 x1 x2 (fadd .f32 x3 (fmul .f32 (Int.toNat ((x10.getD (Int.toNat x4) []).getD 2 0)) (fsub .f32 (Int.toNat ((x5.getD (Int.toNat x2) []).getD 0 0)) (Int.toNat ((x5.getD (Int.toNat ((x10.getD (Int.toNat x4) []).getD 0 0)) []).getD 0 0))))) (IntKind.i64.wrap (x4 + 1)) x5 x6 x7 x8 x9 x10))
            none)
           none)
          none)
         none)
        none)
       none)
      (u29l3 x0 x1 x2 x3 x4 x5 x6 x7 x8 x9 x10 (ih x0 x1 x2 x3 (IntKind.i64.wrap (x4 + 1)) x5 x6 x7 x8 x9 x10)))
     none))
   none)
  none)
 (a29l3 x0 x1 x2 x3 x4 x5 x6 x7 x8 x9 x10 (0, x3)))
set_option maxRecDepth 100000 in
set_option maxHeartbeats 4000000 in
theorem e29l3 (m : Nat) (x0 x1 : Nat) (x2 : Int) (x3 : Nat) (x4 : Int) (x5 x6 x7 x8 x9 x10 : List (List Int)) : evC Try.prog ext T23 L29_2 200 (loopN Try.f29 3) (loopTail ([1, 2, 3, 4, 12, 13, 14, 18], []) [1, 2, 3, 4, 12, 13, 14] [] (sumK 191 [1, 2, 3, 4, 12, 13, 14, 18] [1, 2, 3, 4, 12, 13, 14] (q29l3 m))) (frameOf 191 [1, 2, 3, 4, 12, 13, 14, 18] [.float .f32 x0, .float .f32 x1, wsl 0, .pointer (some ⟨1, 0, some 0⟩), wsl 2, .int .i64 x2, .float .f32 x3, .int .i64 x4]) ⟨[⟨true, (some (.tab [.fl .f32] x5))⟩, ⟨true, (some (.cells [wsl 3, wsl 4, wsl 5, wsl 6]))⟩, ⟨true, (some (.tab [.fl .f32] x6))⟩, ⟨true, (some (.tab [.fl .f32] x7))⟩, ⟨true, (some (.tab [.fl .f32] x8))⟩, ⟨true, (some (.tab sc0 x9))⟩, ⟨true, (some (.tab sc1 x10))⟩], 7, []⟩ = firstT ([((Nat.beq ((r29l3 (m + 1) x0 x1 x2 x3 x4 x5 x6 x7 x8 x9 x10).1) 0), .exit 6, [.float .f32 x0, .float .f32 x1, wsl 0, .pointer (some ⟨1, 0, some 0⟩), wsl 2, .int .i64 x2, .float .f32 ((r29l3 (m + 1) x0 x1 x2 x3 x4 x5 x6 x7 x8 x9 x10).2)], ⟨[⟨true, (some (.tab [.fl .f32] x5))⟩, ⟨true, (some (.cells [wsl 3, wsl 4, wsl 5, wsl 6]))⟩, ⟨true, (some (.tab [.fl .f32] x6))⟩, ⟨true, (some (.tab [.fl .f32] x7))⟩, ⟨true, (some (.tab [.fl .f32] x8))⟩, ⟨true, (some (.tab sc0 x9))⟩, ⟨true, (some (.tab sc1 x10))⟩], 7, []⟩)].map fun (b, x) => (b, (x.1, frameOf 191 [1, 2, 3, 4, 12, 13, 14] x.2.1, x.2.2))) :=
 (show evC Try.prog ext T23 L29_2 200 (loopN Try.f29 3) (loopTail ([1, 2, 3, 4, 12, 13, 14, 18], []) [1, 2, 3, 4, 12, 13, 14] [] (sumK 191 [1, 2, 3, 4, 12, 13, 14, 18] [1, 2, 3, 4, 12, 13, 14] (q29l3 m))) (frameOf 191 [1, 2, 3, 4, 12, 13, 14, 18] [.float .f32 x0, .float .f32 x1, wsl 0, .pointer (some ⟨1, 0, some 0⟩), wsl 2, .int .i64 x2, .float .f32 x3, .int .i64 x4]) ⟨[⟨true, (some (.tab [.fl .f32] x5))⟩, ⟨true, (some (.cells [wsl 3, wsl 4, wsl 5, wsl 6]))⟩, ⟨true, (some (.tab [.fl .f32] x6))⟩, ⟨true, (some (.tab [.fl .f32] x7))⟩, ⟨true, (some (.tab [.fl .f32] x8))⟩, ⟨true, (some (.tab sc0 x9))⟩, ⟨true, (some (.tab sc1 x10))⟩], 7, []⟩ = w29l3 (r29l3 m) x0 x1 x2 x3 x4 x5 x6 x7 x8 x9 x10 from by kernel_rfl).trans
 (show w29l3 (r29l3 m) x0 x1 x2 x3 x4 x5 x6 x7 x8 x9 x10 = a29l3 x0 x1 x2 x3 x4 x5 x6 x7 x8 x9 x10 (r29l3 (m + 1) x0 x1 x2 x3 x4 x5 x6 x7 x8 x9 x10) from by unfold w29l3; show _ = a29l3 x0 x1 x2 x3 x4 x5 x6 x7 x8 x9 x10 (b29l3 (r29l3 m) x0 x1 x2 x3 x4 x5 x6 x7 x8 x9 x10); unfold b29l3; exact (cond_both (a29l3 x0 x1 x2 x3 x4 x5 x6 x7 x8 x9 x10) _ (fun h0 => (cond_both (a29l3 x0 x1 x2 x3 x4 x5 x6 x7 x8 x9 x10) _ (fun h1 => (cond_t (ev_and2 h1) (cond_both (a29l3 x0 x1 x2 x3 x4 x5 x6 x7 x8 x9 x10) _ (fun h2 => (cond_t (ev_and2 h1) (cond_both (a29l3 x0 x1 x2 x3 x4 x5 x6 x7 x8 x9 x10) _ (fun h3 => (cond_t (ev_and2 h3) (cond_t (ev_and2 h1) (cond_both (a29l3 x0 x1 x2 x3 x4 x5 x6 x7 x8 x9 x10) _ (fun h4 => (cond_t (ev_and2 h1) (cond_t (ev_and2 h1) (cond_both (a29l3 x0 x1 x2 x3 x4 x5 x6 x7 x8 x9 x10) _ (fun h5 => (cond_t (ev_and2 h1) (cond_t h3 (cond_t (ev_and2 h3) (cond_t (ev_and2 h1) (cond_both (a29l3 x0 x1 x2 x3 x4 x5 x6 x7 x8 x9 x10) _ (fun h6 => (cond_t (ev_and2 h6) (v29l3 x0 x1 x2 x3 x4 x5 x6 x7 x8 x9 x10 ((r29l3 m) x0 x1 x2 (fadd .f32 (fsub .f32 (fadd .f32 x3 (fmul .f32 (Int.toNat ((x10.getD (Int.toNat x4) []).getD 2 0)) (fsub .f32 (Int.toNat ((x5.getD (Int.toNat x2) []).getD 0 0)) ((r60 ((x10.getD (Int.toNat x4) []).getD 1 0) x0 x5).2)))) (fmul .f32 (Int.toNat ((x10.getD (Int.toNat x4) []).getD 3 0)) x1)) (fmul .f32 (Int.toNat ((x10.getD (Int.toNat x4) []).getD 2 0)) (fsub .f32 (Int.toNat ((x5.getD (Int.toNat x2) []).getD 0 0)) (Int.toNat ((x5.getD (Int.toNat ((x10.getD (Int.toNat x4) []).getD 0 0)) []).getD 0 0))))) (IntKind.i64.wrap (x4 + 1)) x5 x6 x7 x8 x9 x10)))) (fun h6 => rfl))))))) (fun h5 => (v29l3 x0 x1 x2 x3 x4 x5 x6 x7 x8 x9 x10 ((r29l3 m) x0 x1 x2 (fsub .f32 (fadd .f32 x3 (fmul .f32 (Int.toNat ((x10.getD (Int.toNat x4) []).getD 2 0)) (fsub .f32 (Int.toNat ((x5.getD (Int.toNat x2) []).getD 0 0)) ((r60 ((x10.getD (Int.toNat x4) []).getD 1 0) x0 x5).2)))) (fmul .f32 (Int.toNat ((x10.getD (Int.toNat x4) []).getD 3 0)) x1)) (IntKind.i64.wrap (x4 + 1)) x5 x6 x7 x8 x9 x10))))))) (fun h4 => rfl))))) (fun h3 => rfl)))) (fun h2 => (cond_t (ev_and2 h1) (cond_both (a29l3 x0 x1 x2 x3 x4 x5 x6 x7 x8 x9 x10) _ (fun h3 => (cond_t (ev_and2 h1) (cond_both (a29l3 x0 x1 x2 x3 x4 x5 x6 x7 x8 x9 x10) _ (fun h4 => (cond_t (ev_and2 h4) (cond_t (ev_and2 h1) (cond_both (a29l3 x0 x1 x2 x3 x4 x5 x6 x7 x8 x9 x10) _ (fun h5 => (cond_t (ev_and2 h5) (v29l3 x0 x1 x2 x3 x4 x5 x6 x7 x8 x9 x10 ((r29l3 m) x0 x1 x2 (fadd .f32 x3 (fmul .f32 (Int.toNat ((x10.getD (Int.toNat x4) []).getD 2 0)) (fsub .f32 (Int.toNat ((x5.getD (Int.toNat x2) []).getD 0 0)) (Int.toNat ((x5.getD (Int.toNat ((x10.getD (Int.toNat x4) []).getD 0 0)) []).getD 0 0))))) (IntKind.i64.wrap (x4 + 1)) x5 x6 x7 x8 x9 x10)))) (fun h5 => rfl))))) (fun h4 => rfl)))) (fun h3 => (v29l3 x0 x1 x2 x3 x4 x5 x6 x7 x8 x9 x10 ((r29l3 m) x0 x1 x2 x3 (IntKind.i64.wrap (x4 + 1)) x5 x6 x7 x8 x9 x10))))))))) (fun h1 => rfl))) (fun h0 => rfl)))
set_option maxRecDepth 100000 in
set_option maxHeartbeats 4000000 in
theorem qm29l3 : ∀ m, SumKOk Try.prog (loopN Try.f29 3) 191 [1, 2, 3, 4, 12, 13, 14, 18] [1, 2, 3, 4, 12, 13, 14] (q29l3 m) := by
  intro m
  induction m with
  | zero =>
    intro vals s x h1 h2 h3
    unfold q29l3 at h3; split at h3
    · rename_i h; split at h3
      · rename_i hc; obtain ⟨rfl, rfl, rfl, rfl, rfl, rfl, rfl, rfl, rfl⟩ := hc; exact absurd h3 (by simp [r29l3, firstT, Nat.beq])
      · exact noQ_ok _ _ _ h1 h2 h3
    · exact noQ_ok _ _ _ h1 h2 h3
  | succ m ih =>
    intro vals s x h1 h2 h3
    unfold q29l3 at h3; split at h3
    · rename_i h; split at h3
      · rename_i hc; obtain ⟨rfl, rfl, rfl, rfl, rfl, rfl, rfl, rfl, rfl⟩ := hc; exact sum_step ok23 extOk mixed (lok29_2.inner (by kernel_rfl)) ih h1 h2 h (e29l3 m _ _ _ _ _ _ _ _ _ _ _) rfl h3
      · exact noQ_ok _ _ _ h1 h2 h3
    · exact noQ_ok _ _ _ h1 h2 h3
noncomputable def Q29l3 : SumK := fun vals s => q29l3 (fuelOf vals s.h) vals s
theorem qok29l3 : SumKOk Try.prog (loopN Try.f29 3) 191 [1, 2, 3, 4, 12, 13, 14, 18] [1, 2, 3, 4, 12, 13, 14] Q29l3 := fuel_ok qm29l3 fuelOf
noncomputable def L29_3 : LoopT := addL L29_2 26 ([1, 2, 3, 4, 12, 13, 14, 18], []) (sumK 191 [1, 2, 3, 4, 12, 13, 14, 18] [1, 2, 3, 4, 12, 13, 14] Q29l3)
theorem lok29_3 : LfOkF Try.prog L29_3 Try.f29 := lfOkF_add lok29_2 qok29l3 (by kernel_rfl) (by kernel_rfl) (by kernel_rfl)

/-- spec.GainsFor, loop 1: one round -/
noncomputable def b29l1 (ih : Nat → Nat → Int → List (List Int) → List (List Int) → List (List Int) → List (List Int) → List (List Int) → List (List Int) → (Nat × List (List Int))) (x0 x1 : Nat) (x2 : Int) (x3 x4 x5 x6 x7 x8 : List (List Int)) : Nat × List (List Int) :=
 let c67 := (r29l3 (1000 + x8.length + x7.length + x6.length + x5.length + x4.length + x3.length) x0 x1 x2 ((r29l2 (1000 + x8.length + x7.length + x6.length + x5.length + x4.length + x3.length) x0 x1 x2 0 0 x3 x4 x5 x6 x7 x8).2) 0 x3 x4 x5 x6 x7 x8)
 cond (decide ((x2 : Int) < ((x3.length : Nat) : Int)))
  (cond (Nat.beq ((r29l2 (1000 + x8.length + x7.length + x6.length + x5.length + x4.length + x3.length) x0 x1 x2 0 0 x3 x4 x5 x6 x7 x8).1) 0)
   (cond (Nat.beq (c67.1) 0)
    (cond (Nat.ble ((x4.length + 1) * 5) 140737488355328)
     (cond (Nat.beq ((ih x0 x1 (IntKind.i64.wrap (x2 + 1)) x3 (((x4.drop 0).take x4.length) ++ ([[(((c67.2) : Nat) : Int)]] : List (List Int))) x5 x6 x7 x8).1) 0)
      (0, ((ih x0 x1 (IntKind.i64.wrap (x2 + 1)) x3 (((x4.drop 0).take x4.length) ++ ([[(((c67.2) : Nat) : Int)]] : List (List Int))) x5 x6 x7 x8).2))
      (cond (Nat.beq ((ih x0 x1 (IntKind.i64.wrap (x2 + 1)) x3 (((x4.drop 0).take x4.length) ++ ([[(((c67.2) : Nat) : Int)]] : List (List Int))) x5 x6 x7 x8).1) 1)
       (0, (((x4.drop 0).take x4.length) ++ ([[(((c67.2) : Nat) : Int)]] : List (List Int))))
       (2, [])))
     (2, []))
    (2, []))
   (2, []))
  (1, [])
noncomputable def r29l1 : Nat → Nat → Nat → Int → List (List Int) → List (List Int) → List (List Int) → List (List Int) → List (List Int) → List (List Int) → (Nat × List (List Int))
 | 0 => fun _ _ _ _ _ _ _ _ _ => (2, [])
 | m + 1 => b29l1 (r29l1 m)
noncomputable def a29l1 (x0 x1 : Nat) (x2 : Int) (x3 x4 x5 x6 x7 x8 : List (List Int)) (p : Nat × List (List Int)) : Option (Fin' × List Value × St) := firstT ([((Nat.beq (p.1) 0), .exit 2, [wsl 7], ⟨[⟨true, (some (.tab [.fl .f32] x3))⟩, ⟨true, (some (.cells [wsl 3, wsl 4, wsl 5, wsl 6]))⟩, ⟨true, none⟩, ⟨true, (some (.tab [.fl .f32] x5))⟩, ⟨true, (some (.tab [.fl .f32] x6))⟩, ⟨true, (some (.tab sc0 x7))⟩, ⟨true, (some (.tab sc1 x8))⟩, ⟨true, (some (.tab [.fl .f32] (p.2)))⟩], 7, [2]⟩), ((Nat.beq (p.1) 1), .exit 2, [wsl 2], ⟨[⟨true, (some (.tab [.fl .f32] x3))⟩, ⟨true, (some (.cells [wsl 3, wsl 4, wsl 5, wsl 6]))⟩, ⟨true, (some (.tab [.fl .f32] x4))⟩, ⟨true, (some (.tab [.fl .f32] x5))⟩, ⟨true, (some (.tab [.fl .f32] x6))⟩, ⟨true, (some (.tab sc0 x7))⟩, ⟨true, (some (.tab sc1 x8))⟩], 7, [2]⟩)].map fun (b, x) => (b, (x.1, frameOf 191 [12] x.2.1, x.2.2)))
noncomputable def u29l1 (x0 x1 : Nat) (x2 : Int) (x3 x4 x5 x6 x7 x8 : List (List Int)) (p : Nat × List (List Int)) : Option (Fin' × List Value × St) := alts ([((Nat.beq (p.1) 0), .exit 2, [wsl 7], ⟨[⟨true, (some (.tab [.fl .f32] x3))⟩, ⟨true, (some (.cells [wsl 3, wsl 4, wsl 5, wsl 6]))⟩, ⟨true, none⟩, ⟨true, (some (.tab [.fl .f32] x5))⟩, ⟨true, (some (.tab [.fl .f32] x6))⟩, ⟨true, (some (.tab sc0 x7))⟩, ⟨true, (some (.tab sc1 x8))⟩, ⟨true, (some (.tab [.fl .f32] (p.2)))⟩], 7, [2]⟩), ((Nat.beq (p.1) 1), .exit 2, [wsl 2], ⟨[⟨true, (some (.tab [.fl .f32] x3))⟩, ⟨true, (some (.cells [wsl 3, wsl 4, wsl 5, wsl 6]))⟩, ⟨true, (some (.tab [.fl .f32] x4))⟩, ⟨true, (some (.tab [.fl .f32] x5))⟩, ⟨true, (some (.tab [.fl .f32] x6))⟩, ⟨true, (some (.tab sc0 x7))⟩, ⟨true, (some (.tab sc1 x8))⟩], 7, [2]⟩)].map fun (b, x) => (b, (x.1, frameOf 191 [12] x.2.1, x.2.2))) some
theorem v29l1 (x0 x1 : Nat) (x2 : Int) (x3 x4 x5 x6 x7 x8 : List (List Int)) (p : Nat × List (List Int)) : u29l1 x0 x1 x2 x3 x4 x5 x6 x7 x8 p = a29l1 x0 x1 x2 x3 x4 x5 x6 x7 x8 p := alts_first _
noncomputable def q29l1 (m : Nat) : SumK := fun vals s =>
 match vals, s.h with
 | [.float .f32 x0, .float .f32 x1, .iface f0 .nilIface, .pointer (some ⟨f1, f2, some f3⟩), .iface f4 .nilIface, .int .i64 x2], [⟨true, some (.tab [.fl .f32] x3)⟩, ⟨true, some (.cells [.iface f5 .nilIface, .iface f6 .nilIface, .iface f7 .nilIface, .iface f8 .nilIface])⟩, ⟨true, some (.tab [.fl .f32] x4)⟩, ⟨true, some (.tab [.fl .f32] x5)⟩, ⟨true, some (.tab [.fl .f32] x6)⟩, ⟨true, some (.tab [.int .i64, .int .i64, .fl .f32, .fl .f32, .fl .f32, .fl .f32, .fl .f32, .fl .f32] x7)⟩, ⟨true, some (.tab [.int .i64, .int .i64, .fl .f32, .fl .f32] x8)⟩] => if f0 = 0 ∧ f1 = 1 ∧ f2 = 0 ∧ f3 = 0 ∧ f4 = 2 ∧ f5 = 3 ∧ f6 = 4 ∧ f7 = 5 ∧ f8 = 6 then [((Nat.beq ((r29l1 m x0 x1 x2 x3 x4 x5 x6 x7 x8).1) 0), .exit 2, [wsl 7], ⟨[⟨true, (some (.tab [.fl .f32] x3))⟩, ⟨true, (some (.cells [wsl 3, wsl 4, wsl 5, wsl 6]))⟩, ⟨true, none⟩, ⟨true, (some (.tab [.fl .f32] x5))⟩, ⟨true, (some (.tab [.fl .f32] x6))⟩, ⟨true, (some (.tab sc0 x7))⟩, ⟨true, (some (.tab sc1 x8))⟩, ⟨true, (some (.tab [.fl .f32] ((r29l1 m x0 x1 x2 x3 x4 x5 x6 x7 x8).2)))⟩], 7, [2]⟩), ((Nat.beq ((r29l1 m x0 x1 x2 x3 x4 x5 x6 x7 x8).1) 1), .exit 2, [wsl 2], ⟨[⟨true, (some (.tab [.fl .f32] x3))⟩, ⟨true, (some (.cells [wsl 3, wsl 4, wsl 5, wsl 6]))⟩, ⟨true, (some (.tab [.fl .f32] x4))⟩, ⟨true, (some (.tab [.fl .f32] x5))⟩, ⟨true, (some (.tab [.fl .f32] x6))⟩, ⟨true, (some (.tab sc0 x7))⟩, ⟨true, (some (.tab sc1 x8))⟩], 7, [2]⟩)] else noQ vals s
 | _, _ => noQ vals s
noncomputable def w29l1 (ih : Nat → Nat → Int → List (List Int) → List (List Int) → List (List Int) → List (List Int) → List (List Int) → List (List Int) → (Nat × List (List Int))) (x0 x1 : Nat) (x2 : Int) (x3 x4 x5 x6 x7 x8 : List (List Int)) : Option (Fin' × List Value × St) :=
 let c67 := (r29l3 (1000 + x8.length + x7.length + x6.length + x5.length + x4.length + x3.length) x0 x1 x2 ((r29l2 (1000 + x8.length + x7.length + x6.length + x5.length + x4.length + x3.length) x0 x1 x2 0 0 x3 x4 x5 x6 x7 x8).2) 0 x3 x4 x5 x6 x7 x8)
 (cond (decide ((x2 : Int) < ((x3.length : Nat) : Int)))
 (cond (Nat.beq ((r29l2 (1000 + x8.length + x7.length + x6.length + x5.length + x4.length + x3.length) x0 x1 x2 0 0 x3 x4 x5 x6 x7 x8).1) 0)
  (cond (Nat.beq (c67.1) 0)
   (cond (Nat.ble ((x4.length + 1) * 5) 140737488355328)
    (cond (Nat.beq ((ih x0 x1 (IntKind.i64.wrap (x2 + 1)) x3 (((x4.drop 0).take x4.length) ++ ([[(((c67.2) : Nat) : Int)]] : List (List Int))) x5 x6 x7 x8).1) 0)
     (a29l1 x0 x1 x2 x3 x4 x5 x6 x7 x8 (0, ((ih x0 x1 (IntKind.i64.wrap (x2 + 1)) x3 (((x4.drop 0).take x4.length) ++ ([[(((c67.2) : Nat) : Int)]] : List (List Int))) x5 x6 x7 x8).2)))
     (cond (Nat.beq ((ih x0 x1 (IntKind.i64.wrap (x2 + 1)) x3 (((x4.drop 0).take x4.length) ++ ([[(((c67.2) : Nat) : Int)]] : List (List Int))) x5 x6 x7 x8).1) 1)
      (a29l1 x0 x1 x2 x3 x4 x5 x6 x7 x8 (0, (((x4.drop 0).take x4.length) ++ ([[(((c67.2) : Nat) : Int)]] : List (List Int)))))
      none))
    none)
   none)
  none)
 (a29l1 x0 x1 x2 x3 x4 x5 x6 x7 x8 (1, [])))
set_option maxRecDepth 100000 in
set_option maxHeartbeats 4000000 in
theorem e29l1 (m : Nat) (x0 x1 : Nat) (x2 : Int) (x3 x4 x5 x6 x7 x8 : List (List Int)) : evC Try.prog ext T23 L29_3 200 (loopN Try.f29 1) (loopTail ([1, 2, 3, 4, 12, 13], []) [12] [2] (sumK 191 [1, 2, 3, 4, 12, 13] [12] (q29l1 m))) (frameOf 191 [1, 2, 3, 4, 12, 13] [.float .f32 x0, .float .f32 x1, wsl 0, .pointer (some ⟨1, 0, some 0⟩), wsl 2, .int .i64 x2]) ⟨[⟨true, (some (.tab [.fl .f32] x3))⟩, ⟨true, (some (.cells [wsl 3, wsl 4, wsl 5, wsl 6]))⟩, ⟨true, (some (.tab [.fl .f32] x4))⟩, ⟨true, (some (.tab [.fl .f32] x5))⟩, ⟨true, (some (.tab [.fl .f32] x6))⟩, ⟨true, (some (.tab sc0 x7))⟩, ⟨true, (some (.tab sc1 x8))⟩], 7, []⟩ = firstT ([((Nat.beq ((r29l1 (m + 1) x0 x1 x2 x3 x4 x5 x6 x7 x8).1) 0), .exit 2, [wsl 7], ⟨[⟨true, (some (.tab [.fl .f32] x3))⟩, ⟨true, (some (.cells [wsl 3, wsl 4, wsl 5, wsl 6]))⟩, ⟨true, none⟩, ⟨true, (some (.tab [.fl .f32] x5))⟩, ⟨true, (some (.tab [.fl .f32] x6))⟩, ⟨true, (some (.tab sc0 x7))⟩, ⟨true, (some (.tab sc1 x8))⟩, ⟨true, (some (.tab [.fl .f32] ((r29l1 (m + 1) x0 x1 x2 x3 x4 x5 x6 x7 x8).2)))⟩], 7, [2]⟩), ((Nat.beq ((r29l1 (m + 1) x0 x1 x2 x3 x4 x5 x6 x7 x8).1) 1), .exit 2, [wsl 2], ⟨[⟨true, (some (.tab [.fl .f32] x3))⟩, ⟨true, (some (.cells [wsl 3, wsl 4, wsl 5, wsl 6]))⟩, ⟨true, (some (.tab [.fl .f32] x4))⟩, ⟨true, (some (.tab [.fl .f32] x5))⟩, ⟨true, (some (.tab [.fl .f32] x6))⟩, ⟨true, (some (.tab sc0 x7))⟩, ⟨true, (some (.tab sc1 x8))⟩], 7, [2]⟩)].map fun (b, x) => (b, (x.1, frameOf 191 [12] x.2.1, x.2.2))) :=
 (show evC Try.prog ext T23 L29_3 200 (loopN Try.f29 1) (loopTail ([1, 2, 3, 4, 12, 13], []) [12] [2] (sumK 191 [1, 2, 3, 4, 12, 13] [12] (q29l1 m))) (frameOf 191 [1, 2, 3, 4, 12, 13] [.float .f32 x0, .float .f32 x1, wsl 0, .pointer (some ⟨1, 0, some 0⟩), wsl 2, .int .i64 x2]) ⟨[⟨true, (some (.tab [.fl .f32] x3))⟩, ⟨true, (some (.cells [wsl 3, wsl 4, wsl 5, wsl 6]))⟩, ⟨true, (some (.tab [.fl .f32] x4))⟩, ⟨true, (some (.tab [.fl .f32] x5))⟩, ⟨true, (some (.tab [.fl .f32] x6))⟩, ⟨true, (some (.tab sc0 x7))⟩, ⟨true, (some (.tab sc1 x8))⟩], 7, []⟩ = w29l1 (r29l1 m) x0 x1 x2 x3 x4 x5 x6 x7 x8 from by kernel_rfl).trans
 (show w29l1 (r29l1 m) x0 x1 x2 x3 x4 x5 x6 x7 x8 = a29l1 x0 x1 x2 x3 x4 x5 x6 x7 x8 (r29l1 (m + 1) x0 x1 x2 x3 x4 x5 x6 x7 x8) from by unfold w29l1; show _ = a29l1 x0 x1 x2 x3 x4 x5 x6 x7 x8 (b29l1 (r29l1 m) x0 x1 x2 x3 x4 x5 x6 x7 x8); unfold b29l1; exact (cond_app (a29l1 x0 x1 x2 x3 x4 x5 x6 x7 x8) _ (cond_app (a29l1 x0 x1 x2 x3 x4 x5 x6 x7 x8) _ (cond_app (a29l1 x0 x1 x2 x3 x4 x5 x6 x7 x8) _ (cond_app (a29l1 x0 x1 x2 x3 x4 x5 x6 x7 x8) _ (cond_app (a29l1 x0 x1 x2 x3 x4 x5 x6 x7 x8) _ rfl (cond_app (a29l1 x0 x1 x2 x3 x4 x5 x6 x7 x8) _ rfl rfl)) rfl) rfl) rfl) rfl))
set_option maxRecDepth 100000 in
set_option maxHeartbeats 4000000 in
theorem qm29l1 : ∀ m, SumKOk Try.prog (loopN Try.f29 1) 191 [1, 2, 3, 4, 12, 13] [12] (q29l1 m) := by
  intro m
  induction m with
  | zero =>
    intro vals s x h1 h2 h3
    unfold q29l1 at h3; split at h3
    · rename_i h; split at h3
      · rename_i hc; obtain ⟨rfl, rfl, rfl, rfl, rfl, rfl, rfl, rfl, rfl⟩ := hc; exact absurd h3 (by simp [r29l1, firstT, Nat.beq])
      · exact noQ_ok _ _ _ h1 h2 h3
    · exact noQ_ok _ _ _ h1 h2 h3
  | succ m ih =>
    intro vals s x h1 h2 h3
    unfold q29l1 at h3; split at h3
    · rename_i h; split at h3
      · rename_i hc; obtain ⟨rfl, rfl, rfl, rfl, rfl, rfl, rfl, rfl, rfl⟩ := hc; exact sum_step ok23 extOk mixed (lok29_3.inner (by kernel_rfl)) ih h1 h2 h (e29l1 m _ _ _ _ _ _ _ _ _) rfl h3
      · exact noQ_ok _ _ _ h1 h2 h3
    · exact noQ_ok _ _ _ h1 h2 h3
noncomputable def Q29l1 : SumK := fun vals s => q29l1 (fuelOf vals s.h) vals s
theorem qok29l1 : SumKOk Try.prog (loopN Try.f29 1) 191 [1, 2, 3, 4, 12, 13] [12] Q29l1 := fuel_ok qm29l1 fuelOf
noncomputable def L29_4 : LoopT := addL L29_3 13 ([1, 2, 3, 4, 12, 13], []) (sumK 191 [1, 2, 3, 4, 12, 13] [12] Q29l1)
theorem lok29_4 : LfOkF Try.prog L29_4 Try.f29 := lfOkF_add lok29_3 qok29l1 (by kernel_rfl) (by kernel_rfl) (by kernel_rfl)

/-- spec.GainsFor -/
noncomputable def r29 (x0 x1 : Nat) (x2 x3 x4 x5 x6 : List (List Int)) : Nat × Int × List (List Int) :=
 let c37 := (r29l0 (1000 + x5.length + x4.length + x3.length + x2.length + x6.length) x0 x1 ((((x6.length : Nat) : Int) : Int) == ((x2.length : Nat) : Int)) 0 x6 x2 x3 x4 x5)
 let c68 := (r29l1 (1000 + x5.length + x4.length + x3.length + x2.length + 0 + x6.length) x0 x1 0 x6 ([] : List (List Int)) x2 x3 x4 x5)
 cond (Nat.beq ((r61 x2 x3 x4 x5).1) 0)
  (cond (!((r61 x2 x3 x4 x5).2))
   (0, 1, ([] : List (List Int)))
   (cond (r83 x0 x1)
    (cond (Nat.beq (c37.1) 0)
     (cond (!(c37.2))
      (0, 2, ([] : List (List Int)))
      (cond (Nat.beq (c68.1) 0)
       (0, 0, (c68.2))
       (cond (Nat.beq (c68.1) 1)
        (0, 0, ([] : List (List Int)))
        (1, 0, []))))
     (1, 0, []))
    (cond (Nat.beq ((r29l0 (1000 + x5.length + x4.length + x3.length + x2.length + x6.length) x0 x1 false 0 x6 x2 x3 x4 x5).1) 0)
     (cond (!((r29l0 (1000 + x5.length + x4.length + x3.length + x2.length + x6.length) x0 x1 false 0 x6 x2 x3 x4 x5).2))
      (0, 2, ([] : List (List Int)))
      (cond (Nat.beq (c68.1) 0)
       (0, 0, (c68.2))
       (cond (Nat.beq (c68.1) 1)
        (0, 0, ([] : List (List Int)))
        (1, 0, []))))
     (1, 0, []))))
  (1, 0, [])
noncomputable def a29 (x0 x1 : Nat) (x2 x3 x4 x5 x6 : List (List Int)) (p : Nat × Int × List (List Int)) : Res := firstT [((Nat.beq (p.1) 0), .tuple #[wsl 5, .int .i64 (p.2.1)], ⟨[⟨true, (some (.tab [.fl .f32] x2))⟩, ⟨true, (some (.tab [.fl .f32] x3))⟩, ⟨true, (some (.tab sc0 x4))⟩, ⟨true, (some (.tab sc1 x5))⟩, ⟨true, (some (.tab [.fl .f32] x6))⟩, ⟨true, (some (.tab [.fl .f32] (p.2.2)))⟩], 5, []⟩)]
noncomputable def w29 (x0 x1 : Nat) (x2 x3 x4 x5 x6 : List (List Int)) : Res :=
 let c37 := (r29l0 (1000 + x5.length + x4.length + x3.length + x2.length + x6.length) x0 x1 ((((x6.length : Nat) : Int) : Int) == ((x2.length : Nat) : Int)) 0 x6 x2 x3 x4 x5)
 let c68 := (r29l1 (1000 + x5.length + x4.length + x3.length + x2.length + 0 + x6.length) x0 x1 0 x6 ([] : List (List Int)) x2 x3 x4 x5)
 (cond (Nat.beq ((r61 x2 x3 x4 x5).1) 0)
 (cond (!((r61 x2 x3 x4 x5).2))
  (a29 x0 x1 x2 x3 x4 x5 x6 (0, 1, ([] : List (List Int))))
  (cond (r83 x0 x1)
   (cond (Nat.beq (c37.1) 0)
    (cond (!(c37.2))
     (a29 x0 x1 x2 x3 x4 x5 x6 (0, 2, ([] : List (List Int))))
     (cond (Nat.beq (c68.1) 0)
      (a29 x0 x1 x2 x3 x4 x5 x6 (0, 0, (c68.2)))
      (cond (Nat.beq (c68.1) 1)
       (a29 x0 x1 x2 x3 x4 x5 x6 (0, 0, ([] : List (List Int))))
       none)))
    none)
   (cond (Nat.beq ((r29l0 (1000 + x5.length + x4.length + x3.length + x2.length + x6.length) x0 x1 false 0 x6 x2 x3 x4 x5).1) 0)
    (cond (!((r29l0 (1000 + x5.length + x4.length + x3.length + x2.length + x6.length) x0 x1 false 0 x6 x2 x3 x4 x5).2))
     (a29 x0 x1 x2 x3 x4 x5 x6 (0, 2, ([] : List (List Int))))
     (cond (Nat.beq (c68.1) 0)
      (a29 x0 x1 x2 x3 x4 x5 x6 (0, 0, (c68.2)))
      (cond (Nat.beq (c68.1) 1)
       (a29 x0 x1 x2 x3 x4 x5 x6 (0, 0, ([] : List (List Int))))
       none)))
    none)))
 none)
set_option maxRecDepth 100000 in
set_option maxHeartbeats 4000000 in
theorem e29 (x0 x1 : Nat) (x2 x3 x4 x5 x6 : List (List Int)) : evFn Try.prog ext T23 L29_4 200 Try.f29 [.agg #[wsl 0, wsl 1, wsl 2, wsl 3], .float .f32 x0, .float .f32 x1, wsl 4] ⟨[⟨true, (some (.tab [.fl .f32] x2))⟩, ⟨true, (some (.tab [.fl .f32] x3))⟩, ⟨true, (some (.tab sc0 x4))⟩, ⟨true, (some (.tab sc1 x5))⟩, ⟨true, (some (.tab [.fl .f32] x6))⟩], 5, []⟩ = firstT [((Nat.beq ((r29 x0 x1 x2 x3 x4 x5 x6).1) 0), .tuple #[wsl 5, .int .i64 ((r29 x0 x1 x2 x3 x4 x5 x6).2.1)], ⟨[⟨true, (some (.tab [.fl .f32] x2))⟩, ⟨true, (some (.tab [.fl .f32] x3))⟩, ⟨true, (some (.tab sc0 x4))⟩, ⟨true, (some (.tab sc1 x5))⟩, ⟨true, (some (.tab [.fl .f32] x6))⟩, ⟨true, (some (.tab [.fl .f32] ((r29 x0 x1 x2 x3 x4 x5 x6).2.2)))⟩], 5, []⟩)] :=
 (show evFn Try.prog ext T23 L29_4 200 Try.f29 [.agg #[wsl 0, wsl 1, wsl 2, wsl 3], .float .f32 x0, .float .f32 x1, wsl 4] ⟨[⟨true, (some (.tab [.fl .f32] x2))⟩, ⟨true, (some (.tab [.fl .f32] x3))⟩, ⟨true, (some (.tab sc0 x4))⟩, ⟨true, (some (.tab sc1 x5))⟩, ⟨true, (some (.tab [.fl .f32] x6))⟩], 5, []⟩ = w29 x0 x1 x2 x3 x4 x5 x6 from by kernel_rfl).trans
 (show w29 x0 x1 x2 x3 x4 x5 x6 = a29 x0 x1 x2 x3 x4 x5 x6 (r29 x0 x1 x2 x3 x4 x5 x6) from by unfold w29 r29; exact (cond_app (a29 x0 x1 x2 x3 x4 x5 x6) _ (cond_app (a29 x0 x1 x2 x3 x4 x5 x6) _ rfl (cond_app (a29 x0 x1 x2 x3 x4 x5 x6) _ (cond_app (a29 x0 x1 x2 x3 x4 x5 x6) _ (cond_app (a29 x0 x1 x2 x3 x4 x5 x6) _ rfl (cond_app (a29 x0 x1 x2 x3 x4 x5 x6) _ rfl (cond_app (a29 x0 x1 x2 x3 x4 x5 x6) _ rfl rfl))) rfl) (cond_app (a29 x0 x1 x2 x3 x4 x5 x6) _ (cond_app (a29 x0 x1 x2 x3 x4 x5 x6) _ rfl (cond_app (a29 x0 x1 x2 x3 x4 x5 x6) _ rfl (cond_app (a29 x0 x1 x2 x3 x4 x5 x6) _ rfl rfl))) rfl))) rfl))
noncomputable def s29 (args : List Value) (s : St) : List (Bool × Value × St) :=
 match args, s.h with
 | [.agg ⟨[.iface f0 .nilIface, .iface f1 .nilIface, .iface f2 .nilIface, .iface f3 .nilIface]⟩, .float .f32 x0, .float .f32 x1, .iface f4 .nilIface], [⟨true, some (.tab [.fl .f32] x2)⟩, ⟨true, some (.tab [.fl .f32] x3)⟩, ⟨true, some (.tab [.int .i64, .int .i64, .fl .f32, .fl .f32, .fl .f32, .fl .f32, .fl .f32, .fl .f32] x4)⟩, ⟨true, some (.tab [.int .i64, .int .i64, .fl .f32, .fl .f32] x5)⟩, ⟨true, some (.tab [.fl .f32] x6)⟩] => if f0 = 0 ∧ f1 = 1 ∧ f2 = 2 ∧ f3 = 3 ∧ f4 = 4 then [((Nat.beq ((r29 x0 x1 x2 x3 x4 x5 x6).1) 0), .tuple #[wsl 5, .int .i64 ((r29 x0 x1 x2 x3 x4 x5 x6).2.1)], ⟨[⟨true, (some (.tab [.fl .f32] x2))⟩, ⟨true, (some (.tab [.fl .f32] x3))⟩, ⟨true, (some (.tab sc0 x4))⟩, ⟨true, (some (.tab sc1 x5))⟩, ⟨true, (some (.tab [.fl .f32] x6))⟩, ⟨true, (some (.tab [.fl .f32] ((r29 x0 x1 x2 x3 x4 x5 x6).2.2)))⟩], 5, []⟩)] else T23 29 args s
 | _, _ => T23 29 args s
noncomputable def T24 : CallF := addF T23 29 s29
set_option maxRecDepth 100000 in
set_option maxHeartbeats 4000000 in
theorem ok24 : CfOk Try.prog T24 := by
  refine cfOk_add ok23 fun args s r s' h1 h2 h3 => ?_
  unfold s29 at h3; split at h3
  · rename_i h; split at h3
    · rename_i hc; obtain ⟨rfl, rfl, rfl, rfl, rfl⟩ := hc; exact callOk ok23 Try.func29 h1 h2 h lok29_4.body (e29 _ _ _ _ _ _ _) rfl h3
    · exact ok23 _ _ _ _ _ h1 h2 h3
  · exact ok23 _ _ _ _ _ h1 h2 h3

/-- impl.between -/
noncomputable def r115 (x0 x1 x2 : Nat) : Bool :=
 cond (fgt .f32 x0 x1 || feq .f32 x0 x1)
  ((flt .f32 x0 x2 || feq .f32 x0 x2))
  (false)
noncomputable def a115 (x0 x1 x2 : Nat) (p : Bool) : Res := firstT [(true, .bool p, st0)]
noncomputable def w115 (x0 x1 x2 : Nat) : Res :=
 (cond (fgt .f32 x0 x1 || feq .f32 x0 x1)
 (a115 x0 x1 x2 ((flt .f32 x0 x2 || feq .f32 x0 x2)))
 (a115 x0 x1 x2 (false)))
set_option maxRecDepth 100000 in
set_option maxHeartbeats 4000000 in
theorem e115 (x0 x1 x2 : Nat) : evFn Try.prog ext T24 noL 200 Try.f115 [.float .f32 x0, .float .f32 x1, .float .f32 x2] st0 = firstT [(true, .bool (r115 x0 x1 x2), st0)] :=
 (show evFn Try.prog ext T24 noL 200 Try.f115 [.float .f32 x0, .float .f32 x1, .float .f32 x2] st0 = w115 x0 x1 x2 from by kernel_rfl).trans
 (show w115 x0 x1 x2 = a115 x0 x1 x2 (r115 x0 x1 x2) from by unfold w115 r115; exact (cond_app (a115 x0 x1 x2) _ rfl rfl))
noncomputable def s115 (args : List Value) (s : St) : List (Bool × Value × St) :=
 match args, s.h with
 | [.float .f32 x0, .float .f32 x1, .float .f32 x2], [] => [(true, .bool (r115 x0 x1 x2), st0)]
 | _, _ => T24 115 args s
noncomputable def T25 : CallF := addF T24 115 s115
set_option maxRecDepth 100000 in
set_option maxHeartbeats 4000000 in
theorem ok25 : CfOk Try.prog T25 := by
  refine cfOk_add ok24 fun args s r s' h1 h2 h3 => ?_
  unfold s115 at h3; split at h3
  · rename_i h; exact callOk ok24 Try.func115 h1 h2 h (lfOkF_no _ _).body (e115 _ _ _) rfl h3
  · exact ok24 _ _ _ _ _ h1 h2 h3

/-- impl.isHeat -/
noncomputable def r68 (x0 : Nat) : Bool :=
 ((r115 x0 3262119936 1128792064))
noncomputable def a68 (x0 : Nat) (p : Bool) : Res := firstT [(true, .bool p, st0)]
noncomputable def w68 (x0 : Nat) : Res :=
 (a68 x0 ((r115 x0 3262119936 1128792064)))
set_option maxRecDepth 100000 in
set_option maxHeartbeats 4000000 in
theorem e68 (x0 : Nat) : evFn Try.prog ext T25 noL 200 Try.f68 [.float .f32 x0] st0 = firstT [(true, .bool (r68 x0), st0)] :=
 (show evFn Try.prog ext T25 noL 200 Try.f68 [.float .f32 x0] st0 = w68 x0 from by kernel_rfl).trans
 (show w68 x0 = a68 x0 (r68 x0) from by unfold w68 r68; exact rfl)
noncomputable def s68 (args : List Value) (s : St) : List (Bool × Value × St) :=
 match args, s.h with
 | [.float .f32 x0], [] => [(true, .bool (r68 x0), st0)]
 | _, _ => T25 68 args s
noncomputable def T26 : CallF := addF T25 68 s68
set_option maxRecDepth 100000 in
set_option maxHeartbeats 4000000 in
theorem ok26 : CfOk Try.prog T26 := by
  refine cfOk_add ok25 fun args s r s' h1 h2 h3 => ?_
  unfold s68 at h3; split at h3
  · rename_i h; exact callOk ok25 Try.func68 h1 h2 h (lfOkF_no _ _).body (e68 _) rfl h3
  · exact ok25 _ _ _ _ _ h1 h2 h3

/-- math.IsNaN -/
noncomputable def r116 (x0 : Nat) : Bool :=
 ((!feq .f64 x0 x0))
noncomputable def a116 (x0 : Nat) (p : Bool) : Res := firstT [(true, .bool p, st0)]
noncomputable def w116 (x0 : Nat) : Res :=
 (a116 x0 ((!feq .f64 x0 x0)))
set_option maxRecDepth 100000 in
set_option maxHeartbeats 4000000 in
theorem e116 (x0 : Nat) : evFn Try.prog ext T26 noL 200 Try.f116 [.float .f64 x0] st0 = firstT [(true, .bool (r116 x0), st0)] :=
 (show evFn Try.prog ext T26 noL 200 Try.f116 [.float .f64 x0] st0 = w116 x0 from by kernel_rfl).trans
 (show w116 x0 = a116 x0 (r116 x0) from by unfold w116 r116; exact rfl)
noncomputable def s116 (args : List Value) (s : St) : List (Bool × Value × St) :=
 match args, s.h with
 | [.float .f64 x0], [] => [(true, .bool (r116 x0), st0)]
 | _, _ => T26 116 args s
noncomputable def T27 : CallF := addF T26 116 s116
set_option maxRecDepth 100000 in
set_option maxHeartbeats 4000000 in
theorem ok27 : CfOk Try.prog T27 := by
  refine cfOk_add ok26 fun args s r s' h1 h2 h3 => ?_
  unfold s116 at h3; split at h3
  · rename_i h; exact callOk ok26 Try.func116 h1 h2 h (lfOkF_no _ _).body (e116 _) rfl h3
  · exact ok26 _ _ _ _ _ h1 h2 h3

/-- math.Abs -/
noncomputable def r126 (x0 : Nat) : Nat :=
 cond (!isN .f64 x0)
  ((Int.toNat (bits .andNot .u64 ((x0 : Nat) : Int) 9223372036854775808)))
  (9221120237041090560)
noncomputable def a126 (x0 : Nat) (p : Nat) : Res := firstT [(true, .float .f64 p, st0)]
noncomputable def w126 (x0 : Nat) : Res :=
 (cond (!isN .f64 x0)
 (a126 x0 ((Int.toNat (bits .andNot .u64 ((x0 : Nat) : Int) 9223372036854775808))))
 (a126 x0 (9221120237041090560)))
set_option maxRecDepth 100000 in
set_option maxHeartbeats 4000000 in
theorem e126 (x0 : Nat) : evFn Try.prog ext T27 noL 200 Try.f126 [.float .f64 x0] st0 = firstT [(true, .float .f64 (r126 x0), st0)] :=
 (show evFn Try.prog ext T27 noL 200 Try.f126 [.float .f64 x0] st0 = w126 x0 from by kernel_rfl).trans
 (show w126 x0 = a126 x0 (r126 x0) from by unfold w126 r126; exact (cond_app (a126 x0) _ rfl rfl))
noncomputable def s126 (args : List Value) (s : St) : List (Bool × Value × St) :=
 match args, s.h with
 | [.float .f64 x0], [] => [(true, .float .f64 (r126 x0), st0)]
 | _, _ => T27 126 args s
noncomputable def T28 : CallF := addF T27 126 s126
set_option maxRecDepth 100000 in
set_option maxHeartbeats 4000000 in
theorem ok28 : CfOk Try.prog T28 := by
  refine cfOk_add ok27 fun args s r s' h1 h2 h3 => ?_
  unfold s126 at h3; split at h3
  · rename_i h; exact callOk ok27 Try.func126 h1 h2 h (lfOkF_no _ _).body (e126 _) rfl h3
  · exact ok27 _ _ _ _ _ h1 h2 h3

/-- math.IsInf -/
noncomputable def r117 (x0 : Nat) (x1 : Int) : Bool :=
 cond ((x1 : Int) == 0)
  ((fgt .f64 (r126 x0) 9218868437227405311))
  (cond (decide ((x1 : Int) < 0))
   ((fgt .f64 (fneg .f64 x0) 9218868437227405311))
   ((fgt .f64 x0 9218868437227405311)))
noncomputable def a117 (x0 : Nat) (x1 : Int) (p : Bool) : Res := firstT [(true, .bool p, st0)]
noncomputable def w117 (x0 : Nat) (x1 : Int) : Res :=
 (cond ((x1 : Int) == 0)
 (a117 x0 x1 ((fgt .f64 (r126 x0) 9218868437227405311)))
 (cond (decide ((x1 : Int) < 0))
  (a117 x0 x1 ((fgt .f64 (fneg .f64 x0) 9218868437227405311)))
  (a117 x0 x1 ((fgt .f64 x0 9218868437227405311)))))
set_option maxRecDepth 100000 in
set_option maxHeartbeats 4000000 in
theorem e117 (x0 : Nat) (x1 : Int) : evFn Try.prog ext T28 noL 200 Try.f117 [.float .f64 x0, .int .i64 x1] st0 = firstT [(true, .bool (r117 x0 x1), st0)] :=
 (show evFn Try.prog ext T28 noL 200 Try.f117 [.float .f64 x0, .int .i64 x1] st0 = w117 x0 x1 from by kernel_rfl).trans
 (show w117 x0 x1 = a117 x0 x1 (r117 x0 x1) from by unfold w117 r117; exact (cond_app (a117 x0 x1) _ rfl (cond_app (a117 x0 x1) _ rfl rfl)))
noncomputable def s117 (args : List Value) (s : St) : List (Bool × Value × St) :=
 match args, s.h with
 | [.float .f64 x0, .int .i64 x1], [] => [(true, .bool (r117 x0 x1), st0)]
 | _, _ => T28 117 args s
noncomputable def T29 : CallF := addF T28 117 s117
set_option maxRecDepth 100000 in
set_option maxHeartbeats 4000000 in
theorem ok29 : CfOk Try.prog T29 := by
  refine cfOk_add ok28 fun args s r s' h1 h2 h3 => ?_
  unfold s117 at h3; split at h3
  · rename_i h; exact callOk ok28 Try.func117 h1 h2 h (lfOkF_no _ _).body (e117 _ _) rfl h3
  · exact ok28 _ _ _ _ _ h1 h2 h3

/-- impl.isFinite, loop 0 -/
noncomputable def r70l0 (x0 : Nat) : Unit :=
 ()
noncomputable def a70l0 (x0 : Nat) (p : Unit) : Option (Fin' × List Value × St) := firstT ([(true, .exit 0, [anyV], ⟨[⟨true, (some (.tab [.fl .f32] ([[((x0 : Nat) : Int)]] : List (List Int))))⟩], 1, []⟩)].map fun (b, x) => (b, (x.1, frameOf 20 [2] x.2.1, x.2.2)))
noncomputable def w70l0 (x0 : Nat) : Option (Fin' × List Value × St) :=
 (a70l0 x0 ())
set_option maxRecDepth 100000 in
set_option maxHeartbeats 4000000 in
theorem e70l0 (x0 : Nat) : evC Try.prog ext T29 noL 200 (loopN Try.f70 0) (loopTail ([5, 6, 7], []) [2] [] (sumK 20 [5, 6, 7] [2] noQ)) (frameOf 20 [5, 6, 7] [.slice (some ⟨0, 0, some 0⟩) 1 1, .int .i64 1, .int .i64 1]) ⟨[⟨true, (some (.tab [.fl .f32] ([[((x0 : Nat) : Int)]] : List (List Int))))⟩], 1, []⟩ = firstT ([(true, .exit 0, [anyV], ⟨[⟨true, (some (.tab [.fl .f32] ([[((x0 : Nat) : Int)]] : List (List Int))))⟩], 1, []⟩)].map fun (b, x) => (b, (x.1, frameOf 20 [2] x.2.1, x.2.2))) :=
 (show evC Try.prog ext T29 noL 200 (loopN Try.f70 0) (loopTail ([5, 6, 7], []) [2] [] (sumK 20 [5, 6, 7] [2] noQ)) (frameOf 20 [5, 6, 7] [.slice (some ⟨0, 0, some 0⟩) 1 1, .int .i64 1, .int .i64 1]) ⟨[⟨true, (some (.tab [.fl .f32] ([[((x0 : Nat) : Int)]] : List (List Int))))⟩], 1, []⟩ = w70l0 x0 from by kernel_rfl).trans
 (show w70l0 x0 = a70l0 x0 (r70l0 x0) from by unfold w70l0 r70l0; exact rfl)
noncomputable def Q70l0 : SumK := fun vals s =>
 match vals, s.h with
 | [.slice (some ⟨f0, f1, some f2⟩) f3 f4, .int .i64 f5, .int .i64 f6], [⟨true, some (.tab [.fl .f32] [[.ofNat x0]])⟩] => if f0 = 0 ∧ f1 = 0 ∧ f2 = 0 ∧ f3 = 1 ∧ f4 = 1 ∧ f5 = 1 ∧ f6 = 1 then [(true, .exit 0, [anyV], ⟨[⟨true, (some (.tab [.fl .f32] ([[((x0 : Nat) : Int)]] : List (List Int))))⟩], 1, []⟩)] else noQ vals s
 | _, _ => noQ vals s
set_option maxRecDepth 100000 in
set_option maxHeartbeats 4000000 in
theorem qok70l0 : SumKOk Try.prog (loopN Try.f70 0) 20 [5, 6, 7] [2] Q70l0 := by
  intro vals s x h1 h2 h3
  unfold Q70l0 at h3; split at h3
  · rename_i h; split at h3
    · rename_i hc; obtain ⟨rfl, rfl, rfl, rfl, rfl, rfl, rfl⟩ := hc; exact sum_step ok29 extOk mixed ((lfOkF_no _ _).inner (by kernel_rfl)) noQ_ok h1 h2 h (e70l0 _) rfl h3
    · exact noQ_ok _ _ _ h1 h2 h3
  · exact noQ_ok _ _ _ h1 h2 h3
noncomputable def L70_1 : LoopT := addL noL 3 ([5, 6, 7], []) (sumK 20 [5, 6, 7] [2] Q70l0)
theorem lok70_1 : LfOkF Try.prog L70_1 Try.f70 := lfOkF_add (lfOkF_no _ _) qok70l0 (by kernel_rfl) (by kernel_rfl) (by kernel_rfl)

/-- impl.isFinite, loop 0 -/
noncomputable def r70l0b (x0 : Nat) : Nat :=
 cond (r116 (widen x0))
  (0)
  (cond (r117 (widen x0) 0)
   (0)
   (1))
noncomputable def a70l0b (x0 : Nat) (p : Nat) : Option (Fin' × List Value × St) := firstT ([((Nat.beq p 0), .ret, [.bool false], ⟨[⟨true, (some (.tab [.fl .f32] ([[((x0 : Nat) : Int)]] : List (List Int))))⟩], 1, []⟩), (true, .exit 0, [anyV], ⟨[⟨true, (some (.tab [.fl .f32] ([[((x0 : Nat) : Int)]] : List (List Int))))⟩], 1, []⟩)].map fun (b, x) => (b, (x.1, frameOf 20 [2] x.2.1, x.2.2)))
noncomputable def w70l0b (x0 : Nat) : Option (Fin' × List Value × St) :=
 (cond (r116 (widen x0))
 (a70l0b x0 (0))
 (cond (r117 (widen x0) 0)
  (a70l0b x0 (0))
  (a70l0b x0 (1))))
set_option maxRecDepth 100000 in
set_option maxHeartbeats 4000000 in
theorem e70l0b (x0 : Nat) : evC Try.prog ext T29 L70_1 200 (loopN Try.f70 0) (loopTail ([5, 6, 7], []) [2] [] (sumK 20 [5, 6, 7] [2] Q70l0)) (frameOf 20 [5, 6, 7] [.slice (some ⟨0, 0, some 0⟩) 1 1, .int .i64 1, .int .i64 0]) ⟨[⟨true, (some (.tab [.fl .f32] ([[((x0 : Nat) : Int)]] : List (List Int))))⟩], 1, []⟩ = firstT ([((Nat.beq (r70l0b x0) 0), .ret, [.bool false], ⟨[⟨true, (some (.tab [.fl .f32] ([[((x0 : Nat) : Int)]] : List (List Int))))⟩], 1, []⟩), (true, .exit 0, [anyV], ⟨[⟨true, (some (.tab [.fl .f32] ([[((x0 : Nat) : Int)]] : List (List Int))))⟩], 1, []⟩)].map fun (b, x) => (b, (x.1, frameOf 20 [2] x.2.1, x.2.2))) :=
 (show evC Try.prog ext T29 L70_1 200 (loopN Try.f70 0) (loopTail ([5, 6, 7], []) [2] [] (sumK 20 [5, 6, 7] [2] Q70l0)) (frameOf 20 [5, 6, 7] [.slice (some ⟨0, 0, some 0⟩) 1 1, .int .i64 1, .int .i64 0]) ⟨[⟨true, (some (.tab [.fl .f32] ([[((x0 : Nat) : Int)]] : List (List Int))))⟩], 1, []⟩ = w70l0b x0 from by kernel_rfl).trans
 (show w70l0b x0 = a70l0b x0 (r70l0b x0) from by unfold w70l0b r70l0b; exact (cond_app (a70l0b x0) _ rfl (cond_app (a70l0b x0) _ rfl rfl)))
noncomputable def Q70l0b : SumK := fun vals s =>
 match vals, s.h with
 | [.slice (some ⟨f0, f1, some f2⟩) f3 f4, .int .i64 f5, .int .i64 f6], [⟨true, some (.tab [.fl .f32] [[.ofNat x0]])⟩] => if f0 = 0 ∧ f1 = 0 ∧ f2 = 0 ∧ f3 = 1 ∧ f4 = 1 ∧ f5 = 1 ∧ f6 = 0 then [((Nat.beq (r70l0b x0) 0), .ret, [.bool false], ⟨[⟨true, (some (.tab [.fl .f32] ([[((x0 : Nat) : Int)]] : List (List Int))))⟩], 1, []⟩), (true, .exit 0, [anyV], ⟨[⟨true, (some (.tab [.fl .f32] ([[((x0 : Nat) : Int)]] : List (List Int))))⟩], 1, []⟩)] else Q70l0 vals s
 | _, _ => Q70l0 vals s
set_option maxRecDepth 100000 in
set_option maxHeartbeats 4000000 in
theorem qok70l0b : SumKOk Try.prog (loopN Try.f70 0) 20 [5, 6, 7] [2] Q70l0b := by
  intro vals s x h1 h2 h3
  unfold Q70l0b at h3; split at h3
  · rename_i h; split at h3
    · rename_i hc; obtain ⟨rfl, rfl, rfl, rfl, rfl, rfl, rfl⟩ := hc; exact sum_step ok29 extOk mixed (lok70_1.inner (by kernel_rfl)) qok70l0 h1 h2 h (e70l0b _) rfl h3
    · exact qok70l0 _ _ _ h1 h2 h3
  · exact qok70l0 _ _ _ h1 h2 h3
noncomputable def L70_2 : LoopT := addL L70_1 3 ([5, 6, 7], []) (sumK 20 [5, 6, 7] [2] Q70l0b)
theorem lok70_2 : LfOkF Try.prog L70_2 Try.f70 := lfOkF_add lok70_1 qok70l0b (by kernel_rfl) (by kernel_rfl) (by kernel_rfl)

/-- impl.isFinite -/
noncomputable def r70 (x0 : Nat) : Bool :=
 cond (Nat.beq (r70l0b x0) 0)
  (false)
  (true)
noncomputable def a70 (x0 : Nat) (p : Bool) : Res := firstT [(true, .bool p, ⟨[⟨true, (some (.tab [.fl .f32] ([[((x0 : Nat) : Int)]] : List (List Int))))⟩], 1, []⟩)]
noncomputable def w70 (x0 : Nat) : Res :=
 (cond (Nat.beq (r70l0b x0) 0)
 (a70 x0 (false))
 (a70 x0 (true)))
set_option maxRecDepth 100000 in
set_option maxHeartbeats 4000000 in
theorem e70 (x0 : Nat) : evFn Try.prog ext T29 L70_2 200 Try.f70 [.slice (some ⟨0, 0, some 0⟩) 1 1] ⟨[⟨true, (some (.tab [.fl .f32] ([[((x0 : Nat) : Int)]] : List (List Int))))⟩], 1, []⟩ = firstT [(true, .bool (r70 x0), ⟨[⟨true, (some (.tab [.fl .f32] ([[((x0 : Nat) : Int)]] : List (List Int))))⟩], 1, []⟩)] :=
 (show evFn Try.prog ext T29 L70_2 200 Try.f70 [.slice (some ⟨0, 0, some 0⟩) 1 1] ⟨[⟨true, (some (.tab [.fl .f32] ([[((x0 : Nat) : Int)]] : List (List Int))))⟩], 1, []⟩ = w70 x0 from by kernel_rfl).trans
 (show w70 x0 = a70 x0 (r70 x0) from by unfold w70 r70; exact (cond_app (a70 x0) _ rfl rfl))
noncomputable def s70 (args : List Value) (s : St) : List (Bool × Value × St) :=
 match args, s.h with
 | [.slice (some ⟨f0, f1, some f2⟩) f3 f4], [⟨true, some (.tab [.fl .f32] [[.ofNat x0]])⟩] => if f0 = 0 ∧ f1 = 0 ∧ f2 = 0 ∧ f3 = 1 ∧ f4 = 1 then [(true, .bool (r70 x0), ⟨[⟨true, (some (.tab [.fl .f32] ([[((x0 : Nat) : Int)]] : List (List Int))))⟩], 1, []⟩)] else T29 70 args s
 | _, _ => T29 70 args s
noncomputable def T30 : CallF := addF T29 70 s70
set_option maxRecDepth 100000 in
set_option maxHeartbeats 4000000 in
theorem ok30 : CfOk Try.prog T30 := by
  refine cfOk_add ok29 fun args s r s' h1 h2 h3 => ?_
  unfold s70 at h3; split at h3
  · rename_i h; split at h3
    · rename_i hc; obtain ⟨rfl, rfl, rfl, rfl, rfl⟩ := hc; exact callOk ok29 Try.func70 h1 h2 h lok70_2.body (e70 _) rfl h3
    · exact ok29 _ _ _ _ _ h1 h2 h3
  · exact ok29 _ _ _ _ _ h1 h2 h3

/-- impl.IsAmount -/
noncomputable def r111 (x0 : Nat) : Bool :=
 cond (r70 x0)
  (cond (fgt .f32 x0 0 || feq .f32 x0 0)
   ((((Int.fdiv ((x0 : Nat) : Int) (2 ^ (min (31 : Int).toNat (IntKind.bits .u32)))) : Int) == 0))
   (false))
  (false)
noncomputable def a111 (x0 : Nat) (p : Bool) : Res := firstT [(true, .bool p, st0)]
noncomputable def w111 (x0 : Nat) : Res :=
 (cond (r70 x0)
 (cond (fgt .f32 x0 0 || feq .f32 x0 0)
  (cond (!isN .f32 x0)
   (a111 x0 ((((Int.fdiv ((x0 : Nat) : Int) (2 ^ (min (31 : Int).toNat (IntKind.bits .u32)))) : Int) == 0)))
   none)
  (a111 x0 (false)))
 (a111 x0 (false)))
set_option maxRecDepth 100000 in
set_option maxHeartbeats 4000000 in
theorem e111 (x0 : Nat) : evFn Try.prog ext T30 noL 200 Try.f111 [.float .f32 x0] st0 = firstT [(true, .bool (r111 x0), st0)] :=
 (show evFn Try.prog ext T30 noL 200 Try.f111 [.float .f32 x0] st0 = w111 x0 from by kernel_rfl).trans
 (show w111 x0 = a111 x0 (r111 x0) from by unfold w111 r111; exact (cond_both (a111 x0) _ (fun h0 => (cond_both (a111 x0) _ (fun h1 => (cond_t (ev_not1 (ev_or h1 (fun hq0 => (ev_gt1 hq0)) (fun hq0 => (ev_eq1 hq0)))) rfl)) (fun h1 => rfl))) (fun h0 => rfl)))
noncomputable def s111 (args : List Value) (s : St) : List (Bool × Value × St) :=
 match args, s.h with
 | [.float .f32 x0], [] => [(true, .bool (r111 x0), st0)]
 | _, _ => T30 111 args s
noncomputable def T31 : CallF := addF T30 111 s111
set_option maxRecDepth 100000 in
set_option maxHeartbeats 4000000 in
theorem ok31 : CfOk Try.prog T31 := by
  refine cfOk_add ok30 fun args s r s' h1 h2 h3 => ?_
  unfold s111 at h3; split at h3
  · rename_i h; exact callOk ok30 Try.func111 h1 h2 h (lfOkF_no _ _).body (e111 _) rfl h3
  · exact ok30 _ _ _ _ _ h1 h2 h3

/-- impl.isStore -/
noncomputable def r113 (x0 : Nat) : Bool :=
 cond (r111 x0)
  ((r115 x0 1065353216 1176256512))
  (false)
noncomputable def a113 (x0 : Nat) (p : Bool) : Res := firstT [(true, .bool p, st0)]
noncomputable def w113 (x0 : Nat) : Res :=
 (cond (r111 x0)
 (a113 x0 ((r115 x0 1065353216 1176256512)))
 (a113 x0 (false)))
set_option maxRecDepth 100000 in
set_option maxHeartbeats 4000000 in
theorem e113 (x0 : Nat) : evFn Try.prog ext T31 noL 200 Try.f113 [.float .f32 x0] st0 = firstT [(true, .bool (r113 x0), st0)] :=
 (show evFn Try.prog ext T31 noL 200 Try.f113 [.float .f32 x0] st0 = w113 x0 from by kernel_rfl).trans
 (show w113 x0 = a113 x0 (r113 x0) from by unfold w113 r113; exact (cond_app (a113 x0) _ rfl rfl))
noncomputable def s113 (args : List Value) (s : St) : List (Bool × Value × St) :=
 match args, s.h with
 | [.float .f32 x0], [] => [(true, .bool (r113 x0), st0)]
 | _, _ => T31 113 args s
noncomputable def T32 : CallF := addF T31 113 s113
set_option maxRecDepth 100000 in
set_option maxHeartbeats 4000000 in
theorem ok32 : CfOk Try.prog T32 := by
  refine cfOk_add ok31 fun args s r s' h1 h2 h3 => ?_
  unfold s113 at h3; split at h3
  · rename_i h; exact callOk ok31 Try.func113 h1 h2 h (lfOkF_no _ _).body (e113 _) rfl h3
  · exact ok31 _ _ _ _ _ h1 h2 h3

/-- impl.ValidFlat, loop 0: one round -/
noncomputable def b65l0 (ih : Int → Int → Int → List (List Int) → List (List Int) → List (List Int) → List (List Int) → Nat) (x0 x1 x2 : Int) (x3 x4 x5 x6 : List (List Int)) : Nat :=
 cond (decide ((x2 : Int) < x1))
  (cond ((decide ((0 : Int) ≤ x2)) && (Nat.blt (Int.toNat x2) x3.length))
   (cond (!(r68 (Int.toNat ((x3.getD (Int.toNat x2) []).getD 0 0))))
    (0)
    (cond ((decide ((0 : Int) ≤ x2)) && (Nat.blt (Int.toNat x2) x4.length))
     (cond (!(r113 (Int.toNat ((x4.getD (Int.toNat x2) []).getD 0 0))))
      (0)
      (ih x0 x1 (IntKind.i64.wrap (x2 + 1)) x3 x4 x5 x6))
     (2)))
   (2))
  (1)
noncomputable def r65l0 : Nat → Int → Int → Int → List (List Int) → List (List Int) → List (List Int) → List (List Int) → Nat
 | 0 => fun _ _ _ _ _ _ _ => (2)
 | m + 1 => b65l0 (r65l0 m)
noncomputable def a65l0 (x0 x1 x2 : Int) (x3 x4 x5 x6 : List (List Int)) (p : Nat) : Option (Fin' × List Value × St) := firstT ([((Nat.beq p 0), .ret, [.pointer (some ⟨0, 0, some 0⟩), .bool false, .int .i64 x0], ⟨[⟨true, (some (.cells [wsl 1, wsl 2, wsl 3, wsl 4]))⟩, ⟨true, (some (.tab [.fl .f32] x3))⟩, ⟨true, (some (.tab [.fl .f32] x4))⟩, ⟨true, (some (.tab sc0 x5))⟩, ⟨true, (some (.tab sc1 x6))⟩], 5, []⟩), ((Nat.beq p 1), .exit 0, [.pointer (some ⟨0, 0, some 0⟩), anyV, .int .i64 x0], ⟨[⟨true, (some (.cells [wsl 1, wsl 2, wsl 3, wsl 4]))⟩, ⟨true, (some (.tab [.fl .f32] x3))⟩, ⟨true, (some (.tab [.fl .f32] x4))⟩, ⟨true, (some (.tab sc0 x5))⟩, ⟨true, (some (.tab sc1 x6))⟩], 5, []⟩)].map fun (b, x) => (b, (x.1, frameOf 129 [1, 2, 3] x.2.1, x.2.2)))
noncomputable def u65l0 (x0 x1 x2 : Int) (x3 x4 x5 x6 : List (List Int)) (p : Nat) : Option (Fin' × List Value × St) := alts ([((Nat.beq p 0), .ret, [.pointer (some ⟨0, 0, some 0⟩), .bool false, .int .i64 x0], ⟨[⟨true, (some (.cells [wsl 1, wsl 2, wsl 3, wsl 4]))⟩, ⟨true, (some (.tab [.fl .f32] x3))⟩, ⟨true, (some (.tab [.fl .f32] x4))⟩, ⟨true, (some (.tab sc0 x5))⟩, ⟨true, (some (.tab sc1 x6))⟩], 5, []⟩), ((Nat.beq p 1), .exit 0, [.pointer (some ⟨0, 0, some 0⟩), anyV, .int .i64 x0], ⟨[⟨true, (some (.cells [wsl 1, wsl 2, wsl 3, wsl 4]))⟩, ⟨true, (some (.tab [.fl .f32] x3))⟩, ⟨true, (some (.tab [.fl .f32] x4))⟩, ⟨true, (some (.tab sc0 x5))⟩, ⟨true, (some (.tab sc1 x6))⟩], 5, []⟩)].map fun (b, x) => (b, (x.1, frameOf 129 [1, 2, 3] x.2.1, x.2.2))) some
theorem v65l0 (x0 x1 x2 : Int) (x3 x4 x5 x6 : List (List Int)) (p : Nat) : u65l0 x0 x1 x2 x3 x4 x5 x6 p = a65l0 x0 x1 x2 x3 x4 x5 x6 p := alts_first _
noncomputable def q65l0 (m : Nat) : SumK := fun vals s =>
 match vals, s.h with
 | [.pointer (some ⟨f0, f1, some f2⟩), .int .i64 x0, .int .i64 x1, .int .i64 x2], [⟨true, some (.cells [.iface f3 .nilIface, .iface f4 .nilIface, .iface f5 .nilIface, .iface f6 .nilIface])⟩, ⟨true, some (.tab [.fl .f32] x3)⟩, ⟨true, some (.tab [.fl .f32] x4)⟩, ⟨true, some (.tab [.int .i64, .int .i64, .fl .f32, .fl .f32, .fl .f32, .fl .f32, .fl .f32, .fl .f32] x5)⟩, ⟨true, some (.tab [.int .i64, .int .i64, .fl .f32, .fl .f32] x6)⟩] => if f0 = 0 ∧ f1 = 0 ∧ f2 = 0 ∧ f3 = 1 ∧ f4 = 2 ∧ f5 = 3 ∧ f6 = 4 then [((Nat.beq (r65l0 m x0 x1 x2 x3 x4 x5 x6) 0), .ret, [.pointer (some ⟨0, 0, some 0⟩), .bool false, .int .i64 x0], ⟨[⟨true, (some (.cells [wsl 1, wsl 2, wsl 3, wsl 4]))⟩, ⟨true, (some (.tab [.fl .f32] x3))⟩, ⟨true, (some (.tab [.fl .f32] x4))⟩, ⟨true, (some (.tab sc0 x5))⟩, ⟨true, (some (.tab sc1 x6))⟩], 5, []⟩), ((Nat.beq (r65l0 m x0 x1 x2 x3 x4 x5 x6) 1), .exit 0, [.pointer (some ⟨0, 0, some 0⟩), anyV, .int .i64 x0], ⟨[⟨true, (some (.cells [wsl 1, wsl 2, wsl 3, wsl 4]))⟩, ⟨true, (some (.tab [.fl .f32] x3))⟩, ⟨true, (some (.tab [.fl .f32] x4))⟩, ⟨true, (some (.tab sc0 x5))⟩, ⟨true, (some (.tab sc1 x6))⟩], 5, []⟩)] else noQ vals s
 | _, _ => noQ vals s
noncomputable def w65l0 (ih : Int → Int → Int → List (List Int) → List (List Int) → List (List Int) → List (List Int) → Nat) (x0 x1 x2 : Int) (x3 x4 x5 x6 : List (List Int)) : Option (Fin' × List Value × St) :=
 (cond (decide ((x2 : Int) < x1))
 (cond ((decide ((0 : Int) ≤ x2)) && (Nat.blt (Int.toNat x2) x3.length))
  (cond (Nat.blt (Int.toNat x2) x3.length)
   (cond (!(r68 (Int.toNat ((x3.getD (Int.toNat x2) []).getD 0 0))))
    (a65l0 x0 x1 x2 x3 x4 x5 x6 (0))
    (cond ((decide ((0 : Int) ≤ x2)) && (Nat.blt (Int.toNat x2) x4.length))
     (cond (Nat.blt (Int.toNat x2) x4.length)
      (cond (!(r113 (Int.toNat ((x4.getD (Int.toNat x2) []).getD 0 0))))
       (a65l0 x0 x1 x2 x3 x4 x5 x6 (0))
       (u65l0 x0 x1 x2 x3 x4 x5 x6 (ih x0 x1 (IntKind.i64.wrap (x2 + 1)) x3 x4 x5 x6)))
      none)
     none))
   none)
  none)
 (a65l0 x0 x1 x2 x3 x4 x5 x6 (1)))
set_option maxRecDepth 100000 in
set_option maxHeartbeats 4000000 in
theorem e65l0 (m : Nat) (x0 x1 x2 : Int) (x3 x4 x5 x6 : List (List Int)) : evC Try.prog ext T32 noL 200 (loopN Try.f65 0) (loopTail ([1, 3, 39, 40], []) [1, 2, 3] [] (sumK 129 [1, 3, 39, 40] [1, 2, 3] (q65l0 m))) (frameOf 129 [1, 3, 39, 40] [.pointer (some ⟨0, 0, some 0⟩), .int .i64 x0, .int .i64 x1, .int .i64 x2]) ⟨[⟨true, (some (.cells [wsl 1, wsl 2, wsl 3, wsl 4]))⟩, ⟨true, (some (.tab [.fl .f32] x3))⟩, ⟨true, (some (.tab [.fl .f32] x4))⟩, ⟨true, (some (.tab sc0 x5))⟩, ⟨true, (some (.tab sc1 x6))⟩], 5, []⟩ = firstT ([((Nat.beq (r65l0 (m + 1) x0 x1 x2 x3 x4 x5 x6) 0), .ret, [.pointer (some ⟨0, 0, some 0⟩), .bool false, .int .i64 x0], ⟨[⟨true, (some (.cells [wsl 1, wsl 2, wsl 3, wsl 4]))⟩, ⟨true, (some (.tab [.fl .f32] x3))⟩, ⟨true, (some (.tab [.fl .f32] x4))⟩, ⟨true, (some (.tab sc0 x5))⟩, ⟨true, (some (.tab sc1 x6))⟩], 5, []⟩), ((Nat.beq (r65l0 (m + 1) x0 x1 x2 x3 x4 x5 x6) 1), .exit 0, [.pointer (some ⟨0, 0, some 0⟩), anyV, .int .i64 x0], ⟨[⟨true, (some (.cells [wsl 1, wsl 2, wsl 3, wsl 4]))⟩, ⟨true, (some (.tab [.fl .f32] x3))⟩, ⟨true, (some (.tab [.fl .f32] x4))⟩, ⟨true, (some (.tab sc0 x5))⟩, ⟨true, (some (.tab sc1 x6))⟩], 5, []⟩)].map fun (b, x) => (b, (x.1, frameOf 129 [1, 2, 3] x.2.1, x.2.2))) :=
 (show evC Try.prog ext T32 noL 200 (loopN Try.f65 0) (loopTail ([1, 3, 39, 40], []) [1, 2, 3] [] (sumK 129 [1, 3, 39, 40] [1, 2, 3] (q65l0 m))) (frameOf 129 [1, 3, 39, 40] [.pointer (some ⟨0, 0, some 0⟩), .int .i64 x0, .int .i64 x1, .int .i64 x2]) ⟨[⟨true, (some (.cells [wsl 1, wsl 2, wsl 3, wsl 4]))⟩, ⟨true, (some (.tab [.fl .f32] x3))⟩, ⟨true, (some (.tab [.fl .f32] x4))⟩, ⟨true, (some (.tab sc0 x5))⟩, ⟨true, (some (.tab sc1 x6))⟩], 5, []⟩ = w65l0 (r65l0 m) x0 x1 x2 x3 x4 x5 x6 from by kernel_rfl).trans
 (show w65l0 (r65l0 m) x0 x1 x2 x3 x4 x5 x6 = a65l0 x0 x1 x2 x3 x4 x5 x6 (r65l0 (m + 1) x0 x1 x2 x3 x4 x5 x6) from by unfold w65l0; show _ = a65l0 x0 x1 x2 x3 x4 x5 x6 (b65l0 (r65l0 m) x0 x1 x2 x3 x4 x5 x6); unfold b65l0; exact (cond_both (a65l0 x0 x1 x2 x3 x4 x5 x6) _ (fun h0 => (cond_both (a65l0 x0 x1 x2 x3 x4 x5 x6) _ (fun h1 => (cond_t (ev_and2 h1) (cond_both (a65l0 x0 x1 x2 x3 x4 x5 x6) _ (fun h2 => rfl) (fun h2 => (cond_both (a65l0 x0 x1 x2 x3 x4 x5 x6) _ (fun h3 => (cond_t (ev_and2 h3) (cond_app (a65l0 x0 x1 x2 x3 x4 x5 x6) _ rfl (v65l0 x0 x1 x2 x3 x4 x5 x6 ((r65l0 m) x0 x1 (IntKind.i64.wrap (x2 + 1)) x3 x4 x5 x6))))) (fun h3 => rfl)))))) (fun h1 => rfl))) (fun h0 => rfl)))
set_option maxRecDepth 100000 in
set_option maxHeartbeats 4000000 in
theorem qm65l0 : ∀ m, SumKOk Try.prog (loopN Try.f65 0) 129 [1, 3, 39, 40] [1, 2, 3] (q65l0 m) := by
  intro m
  induction m with
  | zero =>
    intro vals s x h1 h2 h3
    unfold q65l0 at h3; split at h3
    · rename_i h; split at h3
      · rename_i hc; obtain ⟨rfl, rfl, rfl, rfl, rfl, rfl, rfl⟩ := hc; exact absurd h3 (by simp [r65l0, firstT, Nat.beq])
      · exact noQ_ok _ _ _ h1 h2 h3
    · exact noQ_ok _ _ _ h1 h2 h3
  | succ m ih =>
    intro vals s x h1 h2 h3
    unfold q65l0 at h3; split at h3
    · rename_i h; split at h3
      · rename_i hc; obtain ⟨rfl, rfl, rfl, rfl, rfl, rfl, rfl⟩ := hc; exact sum_step ok32 extOk mixed ((lfOkF_no _ _).inner (by kernel_rfl)) ih h1 h2 h (e65l0 m _ _ _ _ _ _ _) rfl h3
      · exact noQ_ok _ _ _ h1 h2 h3
    · exact noQ_ok _ _ _ h1 h2 h3
noncomputable def Q65l0 : SumK := fun vals s => q65l0 (fuelOf vals s.h) vals s
theorem qok65l0 : SumKOk Try.prog (loopN Try.f65 0) 129 [1, 3, 39, 40] [1, 2, 3] Q65l0 := fuel_ok qm65l0 fuelOf
noncomputable def L65_1 : LoopT := addL noL 6 ([1, 3, 39, 40], []) (sumK 129 [1, 3, 39, 40] [1, 2, 3] Q65l0)
theorem lok65_1 : LfOkF Try.prog L65_1 Try.f65 := lfOkF_add (lfOkF_no _ _) qok65l0 (by kernel_rfl) (by kernel_rfl) (by kernel_rfl)

/-- impl.stands -/
noncomputable def r114 (x0 x1 x2 : Int) : Bool :=
 cond (decide ((x0 : Int) ≥ 0))
  (cond (decide ((x0 : Int) < x2))
   (cond (decide ((x1 : Int) ≥ (-1)))
    (cond (decide ((x1 : Int) < x2))
     (((x0 : Int) != x1))
     (false))
    (false))
   (false))
  (false)
noncomputable def a114 (x0 x1 x2 : Int) (p : Bool) : Res := firstT [(true, .bool p, st0)]
noncomputable def w114 (x0 x1 x2 : Int) : Res :=
 (cond (decide ((x0 : Int) ≥ 0))
 (cond (decide ((x0 : Int) < x2))
  (cond (decide ((x1 : Int) ≥ (-1)))
   (cond (decide ((x1 : Int) < x2))
    (a114 x0 x1 x2 (((x0 : Int) != x1)))
    (a114 x0 x1 x2 (false)))
   (a114 x0 x1 x2 (false)))
  (a114 x0 x1 x2 (false)))
 (a114 x0 x1 x2 (false)))
set_option maxRecDepth 100000 in
set_option maxHeartbeats 4000000 in
theorem e114 (x0 x1 x2 : Int) : evFn Try.prog ext T32 noL 200 Try.f114 [.int .i64 x0, .int .i64 x1, .int .i64 x2] st0 = firstT [(true, .bool (r114 x0 x1 x2), st0)] :=
 (show evFn Try.prog ext T32 noL 200 Try.f114 [.int .i64 x0, .int .i64 x1, .int .i64 x2] st0 = w114 x0 x1 x2 from by kernel_rfl).trans
 (show w114 x0 x1 x2 = a114 x0 x1 x2 (r114 x0 x1 x2) from by unfold w114 r114; exact (cond_app (a114 x0 x1 x2) _ (cond_app (a114 x0 x1 x2) _ (cond_app (a114 x0 x1 x2) _ (cond_app (a114 x0 x1 x2) _ rfl rfl) rfl) rfl) rfl))
noncomputable def s114 (args : List Value) (s : St) : List (Bool × Value × St) :=
 match args, s.h with
 | [.int .i64 x0, .int .i64 x1, .int .i64 x2], [] => [(true, .bool (r114 x0 x1 x2), st0)]
 | _, _ => T32 114 args s
noncomputable def T33 : CallF := addF T32 114 s114
set_option maxRecDepth 100000 in
set_option maxHeartbeats 4000000 in
theorem ok33 : CfOk Try.prog T33 := by
  refine cfOk_add ok32 fun args s r s' h1 h2 h3 => ?_
  unfold s114 at h3; split at h3
  · rename_i h; exact callOk ok32 Try.func114 h1 h2 h (lfOkF_no _ _).body (e114 _ _ _) rfl h3
  · exact ok32 _ _ _ _ _ h1 h2 h3

/-- impl.ValidFlat, loop 1: one round -/
noncomputable def b65l1 (ih : Int → Int → Int → List (List Int) → List (List Int) → List (List Int) → List (List Int) → Nat) (x0 x1 x2 : Int) (x3 x4 x5 x6 : List (List Int)) : Nat :=
 cond (decide ((x2 : Int) < x1))
  (cond ((decide ((0 : Int) ≤ x2)) && (Nat.blt (Int.toNat x2) x3.length))
   (cond (!(r114 ((x3.getD (Int.toNat x2) []).getD 0 0) ((x3.getD (Int.toNat x2) []).getD 1 0) x0))
    (0)
    (cond (!(r111 (Int.toNat ((x3.getD (Int.toNat x2) []).getD 2 0))))
     (0)
     (cond (!(r115 (Int.toNat ((x3.getD (Int.toNat x2) []).getD 2 0)) 1015021568 1120403456))
      (0)
      (cond (!(r113 (Int.toNat ((x3.getD (Int.toNat x2) []).getD 3 0))))
       (0)
       (cond (!(r68 (Int.toNat ((x3.getD (Int.toNat x2) []).getD 4 0))))
        (0)
        (cond (!(r68 (Int.toNat ((x3.getD (Int.toNat x2) []).getD 5 0))))
         (0)
         (cond (!(r68 (Int.toNat ((x3.getD (Int.toNat x2) []).getD 6 0))))
          (0)
          (cond (!(r68 (Int.toNat ((x3.getD (Int.toNat x2) []).getD 7 0))))
           (0)
           (ih x0 x1 (IntKind.i64.wrap (x2 + 1)) x3 x4 x5 x6)))))))))
   (2))
  (1)
noncomputable def r65l1 : Nat → Int → Int → Int → List (List Int) → List (List Int) → List (List Int) → List (List Int) → Nat
 | 0 => fun _ _ _ _ _ _ _ => (2)
 | m + 1 => b65l1 (r65l1 m)
noncomputable def a65l1 (x0 x1 x2 : Int) (x3 x4 x5 x6 : List (List Int)) (p : Nat) : Option (Fin' × List Value × St) := firstT ([((Nat.beq p 0), .ret, [.pointer (some ⟨0, 0, some 0⟩), .bool false, .int .i64 x0], ⟨[⟨true, (some (.cells [wsl 2, wsl 3, wsl 1, wsl 4]))⟩, ⟨true, (some (.tab sc0 x3))⟩, ⟨true, (some (.tab [.fl .f32] x4))⟩, ⟨true, (some (.tab [.fl .f32] x5))⟩, ⟨true, (some (.tab sc1 x6))⟩], 5, []⟩), ((Nat.beq p 1), .exit 2, [.pointer (some ⟨0, 0, some 0⟩), anyV, .int .i64 x0], ⟨[⟨true, (some (.cells [wsl 2, wsl 3, wsl 1, wsl 4]))⟩, ⟨true, (some (.tab sc0 x3))⟩, ⟨true, (some (.tab [.fl .f32] x4))⟩, ⟨true, (some (.tab [.fl .f32] x5))⟩, ⟨true, (some (.tab sc1 x6))⟩], 5, []⟩)].map fun (b, x) => (b, (x.1, frameOf 129 [1, 2, 3] x.2.1, x.2.2)))
noncomputable def u65l1 (x0 x1 x2 : Int) (x3 x4 x5 x6 : List (List Int)) (p : Nat) : Option (Fin' × List Value × St) := alts ([((Nat.beq p 0), .ret, [.pointer (some ⟨0, 0, some 0⟩), .bool false, .int .i64 x0], ⟨[⟨true, (some (.cells [wsl 2, wsl 3, wsl 1, wsl 4]))⟩, ⟨true, (some (.tab sc0 x3))⟩, ⟨true, (some (.tab [.fl .f32] x4))⟩, ⟨true, (some (.tab [.fl .f32] x5))⟩, ⟨true, (some (.tab sc1 x6))⟩], 5, []⟩), ((Nat.beq p 1), .exit 2, [.pointer (some ⟨0, 0, some 0⟩), anyV, .int .i64 x0], ⟨[⟨true, (some (.cells [wsl 2, wsl 3, wsl 1, wsl 4]))⟩, ⟨true, (some (.tab sc0 x3))⟩, ⟨true, (some (.tab [.fl .f32] x4))⟩, ⟨true, (some (.tab [.fl .f32] x5))⟩, ⟨true, (some (.tab sc1 x6))⟩], 5, []⟩)].map fun (b, x) => (b, (x.1, frameOf 129 [1, 2, 3] x.2.1, x.2.2))) some
theorem v65l1 (x0 x1 x2 : Int) (x3 x4 x5 x6 : List (List Int)) (p : Nat) : u65l1 x0 x1 x2 x3 x4 x5 x6 p = a65l1 x0 x1 x2 x3 x4 x5 x6 p := alts_first _
noncomputable def q65l1 (m : Nat) : SumK := fun vals s =>
 match vals, s.h with
 | [.pointer (some ⟨f0, f1, some f2⟩), .int .i64 x0, .iface f3 .nilIface, .int .i64 x1, .int .i64 x2], [⟨true, some (.cells [.iface f4 .nilIface, .iface f5 .nilIface, .iface f6 .nilIface, .iface f7 .nilIface])⟩, ⟨true, some (.tab [.int .i64, .int .i64, .fl .f32, .fl .f32, .fl .f32, .fl .f32, .fl .f32, .fl .f32] x3)⟩, ⟨true, some (.tab [.fl .f32] x4)⟩, ⟨true, some (.tab [.fl .f32] x5)⟩, ⟨true, some (.tab [.int .i64, .int .i64, .fl .f32, .fl .f32] x6)⟩] => if f0 = 0 ∧ f1 = 0 ∧ f2 = 0 ∧ f3 = 1 ∧ f4 = 2 ∧ f5 = 3 ∧ f6 = 1 ∧ f7 = 4 then [((Nat.beq (r65l1 m x0 x1 x2 x3 x4 x5 x6) 0), .ret, [.pointer (some ⟨0, 0, some 0⟩), .bool false, .int .i64 x0], ⟨[⟨true, (some (.cells [wsl 2, wsl 3, wsl 1, wsl 4]))⟩, ⟨true, (some (.tab sc0 x3))⟩, ⟨true, (some (.tab [.fl .f32] x4))⟩, ⟨true, (some (.tab [.fl .f32] x5))⟩, ⟨true, (some (.tab sc1 x6))⟩], 5, []⟩), ((Nat.beq (r65l1 m x0 x1 x2 x3 x4 x5 x6) 1), .exit 2, [.pointer (some ⟨0, 0, some 0⟩), anyV, .int .i64 x0], ⟨[⟨true, (some (.cells [wsl 2, wsl 3, wsl 1, wsl 4]))⟩, ⟨true, (some (.tab sc0 x3))⟩, ⟨true, (some (.tab [.fl .f32] x4))⟩, ⟨true, (some (.tab [.fl .f32] x5))⟩, ⟨true, (some (.tab sc1 x6))⟩], 5, []⟩)] else noQ vals s
 | _, _ => noQ vals s
noncomputable def w65l1 (ih : Int → Int → Int → List (List Int) → List (List Int) → List (List Int) → List (List Int) → Nat) (x0 x1 x2 : Int) (x3 x4 x5 x6 : List (List Int)) : Option (Fin' × List Value × St) :=
 (cond (decide ((x2 : Int) < x1))
 (cond ((decide ((0 : Int) ≤ x2)) && (Nat.blt (Int.toNat x2) x3.length))
  (cond (Nat.blt (Int.toNat x2) x3.length)
   (cond (!(r114 ((x3.getD (Int.toNat x2) []).getD 0 0) ((x3.getD (Int.toNat x2) []).getD 1 0) x0))
    (a65l1 x0 x1 x2 x3 x4 x5 x6 (0))
    (cond (!(r111 (Int.toNat ((x3.getD (Int.toNat x2) []).getD 2 0))))
     (a65l1 x0 x1 x2 x3 x4 x5 x6 (0))
     (cond (!(r115 (Int.toNat ((x3.getD (Int.toNat x2) []).getD 2 0)) 1015021568 1120403456))
      (a65l1 x0 x1 x2 x3 x4 x5 x6 (0))
      (cond (!(r113 (Int.toNat ((x3.getD (Int.toNat x2) []).getD 3 0))))
       (a65l1 x0 x1 x2 x3 x4 x5 x6 (0))
       (cond (!(r68 (Int.toNat ((x3.getD (Int.toNat x2) []).getD 4 0))))
        (a65l1 x0 x1 x2 x3 x4 x5 x6 (0))
        (cond (!(r68 (Int.toNat ((x3.getD (Int.toNat x2) []).getD 5 0))))
         (a65l1 x0 x1 x2 x3 x4 x5 x6 (0))
         (cond (!(r68 (Int.toNat ((x3.getD (Int.toNat x2) []).getD 6 0))))
          (a65l1 x0 x1 x2 x3 x4 x5 x6 (0))
          (cond (!(r68 (Int.toNat ((x3.getD (Int.toNat x2) []).getD 7 0))))
           (a65l1 x0 x1 x2 x3 x4 x5 x6 (0))
           (u65l1 x0 x1 x2 x3 x4 x5 x6 (ih x0 x1 (IntKind.i64.wrap (x2 + 1)) x3 x4 x5 x6))))))))))
   none)
  none)
 (a65l1 x0 x1 x2 x3 x4 x5 x6 (1)))
set_option maxRecDepth 100000 in
set_option maxHeartbeats 4000000 in
theorem e65l1 (m : Nat) (x0 x1 x2 : Int) (x3 x4 x5 x6 : List (List Int)) : evC Try.prog ext T33 L65_1 200 (loopN Try.f65 1) (loopTail ([1, 3, 61, 62, 63], []) [1, 2, 3] [] (sumK 129 [1, 3, 61, 62, 63] [1, 2, 3] (q65l1 m))) (frameOf 129 [1, 3, 61, 62, 63] [.pointer (some ⟨0, 0, some 0⟩), .int .i64 x0, wsl 1, .int .i64 x1, .int .i64 x2]) ⟨[⟨true, (some (.cells [wsl 2, wsl 3, wsl 1, wsl 4]))⟩, ⟨true, (some (.tab sc0 x3))⟩, ⟨true, (some (.tab [.fl .f32] x4))⟩, ⟨true, (some (.tab [.fl .f32] x5))⟩, ⟨true, (some (.tab sc1 x6))⟩], 5, []⟩ = firstT ([((Nat.beq (r65l1 (m + 1) x0 x1 x2 x3 x4 x5 x6) 0), .ret, [.pointer (some ⟨0, 0, some 0⟩), .bool false, .int .i64 x0], ⟨[⟨true, (some (.cells [wsl 2, wsl 3, wsl 1, wsl 4]))⟩, ⟨true, (some (.tab sc0 x3))⟩, ⟨true, (some (.tab [.fl .f32] x4))⟩, ⟨true, (some (.tab [.fl .f32] x5))⟩, ⟨true, (some (.tab sc1 x6))⟩], 5, []⟩), ((Nat.beq (r65l1 (m + 1) x0 x1 x2 x3 x4 x5 x6) 1), .exit 2, [.pointer (some ⟨0, 0, some 0⟩), anyV, .int .i64 x0], ⟨[⟨true, (some (.cells [wsl 2, wsl 3, wsl 1, wsl 4]))⟩, ⟨true, (some (.tab sc0 x3))⟩, ⟨true, (some (.tab [.fl .f32] x4))⟩, ⟨true, (some (.tab [.fl .f32] x5))⟩, ⟨true, (some (.tab sc1 x6))⟩], 5, []⟩)].map fun (b, x) => (b, (x.1, frameOf 129 [1, 2, 3] x.2.1, x.2.2))) :=
 (show evC Try.prog ext T33 L65_1 200 (loopN Try.f65 1) (loopTail ([1, 3, 61, 62, 63], []) [1, 2, 3] [] (sumK 129 [1, 3, 61, 62, 63] [1, 2, 3] (q65l1 m))) (frameOf 129 [1, 3, 61, 62, 63] [.pointer (some ⟨0, 0, some 0⟩), .int .i64 x0, wsl 1, .int .i64 x1, .int .i64 x2]) ⟨[⟨true, (some (.cells [wsl 2, wsl 3, wsl 1, wsl 4]))⟩, ⟨true, (some (.tab sc0 x3))⟩, ⟨true, (some (.tab [.fl .f32] x4))⟩, ⟨true, (some (.tab [.fl .f32] x5))⟩, ⟨true, (some (.tab sc1 x6))⟩], 5, []⟩ = w65l1 (r65l1 m) x0 x1 x2 x3 x4 x5 x6 from by kernel_rfl).trans
 (show w65l1 (r65l1 m) x0 x1 x2 x3 x4 x5 x6 = a65l1 x0 x1 x2 x3 x4 x5 x6 (r65l1 (m + 1) x0 x1 x2 x3 x4 x5 x6) from by unfold w65l1; show _ = a65l1 x0 x1 x2 x3 x4 x5 x6 (b65l1 (r65l1 m) x0 x1 x2 x3 x4 x5 x6); unfold b65l1; exact (cond_both (a65l1 x0 x1 x2 x3 x4 x5 x6) _ (fun h0 => (cond_both (a65l1 x0 x1 x2 x3 x4 x5 x6) _ (fun h1 => (cond_t (ev_and2 h1) (cond_app (a65l1 x0 x1 x2 x3 x4 x5 x6) _ rfl (cond_app (a65l1 x0 x1 x2 x3 x4 x5 x6) _ rfl (cond_app (a65l1 x0 x1 x2 x3 x4 x5 x6) _ rfl (cond_app (a65l1 x0 x1 x2 x3 x4 x5 x6) _ rfl (cond_app (a65l1 x0 x1 x2 x3 x4 x5 x6) _ rfl (cond_app (a65l1 x0 x1 x2 x3 x4 x5 x6) _ rfl (cond_app (a65l1 x0 x1 x2 x3 x4 x5 x6) _ rfl (cond_app (a65l1 x0 x1 x2 x3 x4 x5 x6) _ rfl (v65l1 x0 x1 x2 x3 x4 x5 x6 ((r65l1 m) x0 x1 (IntKind.i64.wrap (x2 + 1)) x3 x4 x5 x6)))))))))))) (fun h1 => rfl))) (fun h0 => rfl)))
set_option maxRecDepth 100000 in
set_option maxHeartbeats 4000000 in
theorem qm65l1 : ∀ m, SumKOk Try.prog (loopN Try.f65 1) 129 [1, 3, 61, 62, 63] [1, 2, 3] (q65l1 m) := by
  intro m
  induction m with
  | zero =>
    intro vals s x h1 h2 h3
    unfold q65l1 at h3; split at h3
    · rename_i h; split at h3
      · rename_i hc; obtain ⟨rfl, rfl, rfl, rfl, rfl, rfl, rfl, rfl⟩ := hc; exact absurd h3 (by simp [r65l1, firstT, Nat.beq])
      · exact noQ_ok _ _ _ h1 h2 h3
    · exact noQ_ok _ _ _ h1 h2 h3
  | succ m ih =>
    intro vals s x h1 h2 h3
    unfold q65l1 at h3; split at h3
    · rename_i h; split at h3
      · rename_i hc; obtain ⟨rfl, rfl, rfl, rfl, rfl, rfl, rfl, rfl⟩ := hc; exact sum_step ok33 extOk mixed (lok65_1.inner (by kernel_rfl)) ih h1 h2 h (e65l1 m _ _ _ _ _ _ _) rfl h3
      · exact noQ_ok _ _ _ h1 h2 h3
    · exact noQ_ok _ _ _ h1 h2 h3
noncomputable def Q65l1 : SumK := fun vals s => q65l1 (fuelOf vals s.h) vals s
theorem qok65l1 : SumKOk Try.prog (loopN Try.f65 1) 129 [1, 3, 61, 62, 63] [1, 2, 3] Q65l1 := fuel_ok qm65l1 fuelOf
noncomputable def L65_2 : LoopT := addL L65_1 12 ([1, 3, 61, 62, 63], []) (sumK 129 [1, 3, 61, 62, 63] [1, 2, 3] Q65l1)
theorem lok65_2 : LfOkF Try.prog L65_2 Try.f65 := lfOkF_add lok65_1 qok65l1 (by kernel_rfl) (by kernel_rfl) (by kernel_rfl)

/-- impl.isUpTo -/
noncomputable def r67 (x0 x1 : Nat) : Bool :=
 cond (r111 x0)
  ((flt .f32 x0 x1 || feq .f32 x0 x1))
  (false)
noncomputable def a67 (x0 x1 : Nat) (p : Bool) : Res := firstT [(true, .bool p, st0)]
noncomputable def w67 (x0 x1 : Nat) : Res :=
 (cond (r111 x0)
 (a67 x0 x1 ((flt .f32 x0 x1 || feq .f32 x0 x1)))
 (a67 x0 x1 (false)))
set_option maxRecDepth 100000 in
set_option maxHeartbeats 4000000 in
theorem e67 (x0 x1 : Nat) : evFn Try.prog ext T33 noL 200 Try.f67 [.float .f32 x0, .float .f32 x1] st0 = firstT [(true, .bool (r67 x0 x1), st0)] :=
 (show evFn Try.prog ext T33 noL 200 Try.f67 [.float .f32 x0, .float .f32 x1] st0 = w67 x0 x1 from by kernel_rfl).trans
 (show w67 x0 x1 = a67 x0 x1 (r67 x0 x1) from by unfold w67 r67; exact (cond_app (a67 x0 x1) _ rfl rfl))
noncomputable def s67 (args : List Value) (s : St) : List (Bool × Value × St) :=
 match args, s.h with
 | [.float .f32 x0, .float .f32 x1], [] => [(true, .bool (r67 x0 x1), st0)]
 | _, _ => T33 67 args s
noncomputable def T34 : CallF := addF T33 67 s67
set_option maxRecDepth 100000 in
set_option maxHeartbeats 4000000 in
theorem ok34 : CfOk Try.prog T34 := by
  refine cfOk_add ok33 fun args s r s' h1 h2 h3 => ?_
  unfold s67 at h3; split at h3
  · rename_i h; exact callOk ok33 Try.func67 h1 h2 h (lfOkF_no _ _).body (e67 _ _) rfl h3
  · exact ok33 _ _ _ _ _ h1 h2 h3

/-- impl.ValidFlat, loop 3: one round -/
noncomputable def b65l3 (ih : Int → Int → Int → List (List Int) → Nat) (x0 x1 x2 : Int) (x3 : List (List Int)) : Nat :=
 cond (decide ((x2 : Int) < x1))
  (cond ((decide ((0 : Int) ≤ x2)) && (Nat.blt (Int.toNat x2) x3.length))
   (cond (!(r114 ((x3.getD (Int.toNat x2) []).getD 0 0) ((x3.getD (Int.toNat x2) []).getD 1 0) x0))
    (0)
    (cond (!(r67 (Int.toNat ((x3.getD (Int.toNat x2) []).getD 2 0)) 1120403456))
     (0)
     (cond (!(r67 (Int.toNat ((x3.getD (Int.toNat x2) []).getD 3 0)) 1092616192))
      (0)
      (ih x0 x1 (IntKind.i64.wrap (x2 + 1)) x3))))
   (2))
  (1)
noncomputable def r65l3 : Nat → Int → Int → Int → List (List Int) → Nat
 | 0 => fun _ _ _ _ => (2)
 | m + 1 => b65l3 (r65l3 m)
noncomputable def a65l3 (x0 x1 x2 : Int) (x3 : List (List Int)) (p : Nat) : Option (Fin' × List Value × St) := firstT ([((Nat.beq p 0), .ret, [.bool false], ⟨[⟨true, (some (.tab sc1 x3))⟩], 1, []⟩), ((Nat.beq p 1), .exit 6, [anyV], ⟨[⟨true, (some (.tab sc1 x3))⟩], 1, []⟩)].map fun (b, x) => (b, (x.1, frameOf 129 [2] x.2.1, x.2.2)))
noncomputable def u65l3 (x0 x1 x2 : Int) (x3 : List (List Int)) (p : Nat) : Option (Fin' × List Value × St) := alts ([((Nat.beq p 0), .ret, [.bool false], ⟨[⟨true, (some (.tab sc1 x3))⟩], 1, []⟩), ((Nat.beq p 1), .exit 6, [anyV], ⟨[⟨true, (some (.tab sc1 x3))⟩], 1, []⟩)].map fun (b, x) => (b, (x.1, frameOf 129 [2] x.2.1, x.2.2))) some
theorem v65l3 (x0 x1 x2 : Int) (x3 : List (List Int)) (p : Nat) : u65l3 x0 x1 x2 x3 p = a65l3 x0 x1 x2 x3 p := alts_first _
noncomputable def q65l3 (m : Nat) : SumK := fun vals s =>
 match vals, s.h with
 | [.int .i64 x0, .iface f0 .nilIface, .int .i64 x1, .int .i64 x2], [⟨true, some (.tab [.int .i64, .int .i64, .fl .f32, .fl .f32] x3)⟩] => if f0 = 0 then [((Nat.beq (r65l3 m x0 x1 x2 x3) 0), .ret, [.bool false], ⟨[⟨true, (some (.tab sc1 x3))⟩], 1, []⟩), ((Nat.beq (r65l3 m x0 x1 x2 x3) 1), .exit 6, [anyV], ⟨[⟨true, (some (.tab sc1 x3))⟩], 1, []⟩)] else noQ vals s
 | _, _ => noQ vals s
noncomputable def w65l3 (ih : Int → Int → Int → List (List Int) → Nat) (x0 x1 x2 : Int) (x3 : List (List Int)) : Option (Fin' × List Value × St) :=
 (cond (decide ((x2 : Int) < x1))
 (cond ((decide ((0 : Int) ≤ x2)) && (Nat.blt (Int.toNat x2) x3.length))
  (cond (Nat.blt (Int.toNat x2) x3.length)
   (cond (!(r114 ((x3.getD (Int.toNat x2) []).getD 0 0) ((x3.getD (Int.toNat x2) []).getD 1 0) x0))
    (a65l3 x0 x1 x2 x3 (0))
    (cond (!(r67 (Int.toNat ((x3.getD (Int.toNat x2) []).getD 2 0)) 1120403456))
     (a65l3 x0 x1 x2 x3 (0))
     (cond (!(r67 (Int.toNat ((x3.getD (Int.toNat x2) []).getD 3 0)) 1092616192))
      (a65l3 x0 x1 x2 x3 (0))
      (u65l3 x0 x1 x2 x3 (ih x0 x1 (IntKind.i64.wrap (x2 + 1)) x3)))))
   none)
  none)
 (a65l3 x0 x1 x2 x3 (1)))
set_option maxRecDepth 100000 in
set_option maxHeartbeats 4000000 in
theorem e65l3 (m : Nat) (x0 x1 x2 : Int) (x3 : List (List Int)) : evC Try.prog ext T34 L65_2 200 (loopN Try.f65 3) (loopTail ([3, 103, 104, 105], []) [2] [] (sumK 129 [3, 103, 104, 105] [2] (q65l3 m))) (frameOf 129 [3, 103, 104, 105] [.int .i64 x0, wsl 0, .int .i64 x1, .int .i64 x2]) ⟨[⟨true, (some (.tab sc1 x3))⟩], 1, []⟩ = firstT ([((Nat.beq (r65l3 (m + 1) x0 x1 x2 x3) 0), .ret, [.bool false], ⟨[⟨true, (some (.tab sc1 x3))⟩], 1, []⟩), ((Nat.beq (r65l3 (m + 1) x0 x1 x2 x3) 1), .exit 6, [anyV], ⟨[⟨true, (some (.tab sc1 x3))⟩], 1, []⟩)].map fun (b, x) => (b, (x.1, frameOf 129 [2] x.2.1, x.2.2))) :=
 (show evC Try.prog ext T34 L65_2 200 (loopN Try.f65 3) (loopTail ([3, 103, 104, 105], []) [2] [] (sumK 129 [3, 103, 104, 105] [2] (q65l3 m))) (frameOf 129 [3, 103, 104, 105] [.int .i64 x0, wsl 0, .int .i64 x1, .int .i64 x2]) ⟨[⟨true, (some (.tab sc1 x3))⟩], 1, []⟩ = w65l3 (r65l3 m) x0 x1 x2 x3 from by kernel_rfl).trans
 (show w65l3 (r65l3 m) x0 x1 x2 x3 = a65l3 x0 x1 x2 x3 (r65l3 (m + 1) x0 x1 x2 x3) from by unfold w65l3; show _ = a65l3 x0 x1 x2 x3 (b65l3 (r65l3 m) x0 x1 x2 x3); unfold b65l3; exact (cond_both (a65l3 x0 x1 x2 x3) _ (fun h0 => (cond_both (a65l3 x0 x1 x2 x3) _ (fun h1 => (cond_t (ev_and2 h1) (cond_app (a65l3 x0 x1 x2 x3) _ rfl (cond_app (a65l3 x0 x1 x2 x3) _ rfl (cond_app (a65l3 x0 x1 x2 x3) _ rfl (v65l3 x0 x1 x2 x3 ((r65l3 m) x0 x1 (IntKind.i64.wrap (x2 + 1)) x3))))))) (fun h1 => rfl))) (fun h0 => rfl)))
set_option maxRecDepth 100000 in
set_option maxHeartbeats 4000000 in
theorem qm65l3 : ∀ m, SumKOk Try.prog (loopN Try.f65 3) 129 [3, 103, 104, 105] [2] (q65l3 m) := by
  intro m
  induction m with
  | zero =>
    intro vals s x h1 h2 h3
    unfold q65l3 at h3; split at h3
    · rename_i h; split at h3
      · rename_i hc; obtain ⟨rfl⟩ := hc; exact absurd h3 (by simp [r65l3, firstT, Nat.beq])
      · exact noQ_ok _ _ _ h1 h2 h3
    · exact noQ_ok _ _ _ h1 h2 h3
  | succ m ih =>
    intro vals s x h1 h2 h3
    unfold q65l3 at h3; split at h3
    · rename_i h; split at h3
      · rename_i hc; obtain ⟨rfl⟩ := hc; exact sum_step ok34 extOk mixed (lok65_2.inner (by kernel_rfl)) ih h1 h2 h (e65l3 m _ _ _ _) rfl h3
      · exact noQ_ok _ _ _ h1 h2 h3
    · exact noQ_ok _ _ _ h1 h2 h3
noncomputable def Q65l3 : SumK := fun vals s => q65l3 (fuelOf vals s.h) vals s
theorem qok65l3 : SumKOk Try.prog (loopN Try.f65 3) 129 [3, 103, 104, 105] [2] Q65l3 := fuel_ok qm65l3 fuelOf
noncomputable def L65_3 : LoopT := addL L65_2 24 ([3, 103, 104, 105], []) (sumK 129 [3, 103, 104, 105] [2] Q65l3)
theorem lok65_3 : LfOkF Try.prog L65_3 Try.f65 := lfOkF_add lok65_2 qok65l3 (by kernel_rfl) (by kernel_rfl) (by kernel_rfl)

/-- impl.ValidFlat -/
noncomputable def r65 (x0 x1 x2 x3 : List (List Int)) : Nat × Bool :=
 let c70 := (r65l0 (1000 + x3.length + x2.length + x1.length + x0.length) ((x0.length : Nat) : Int) ((x0.length : Nat) : Int) 0 x0 x1 x2 x3)
 let c71 := (r65l1 (1000 + x3.length + x1.length + x0.length + x2.length) ((x0.length : Nat) : Int) ((x2.length : Nat) : Int) 0 x2 x0 x1 x3)
 cond (decide ((((x0.length : Nat) : Int) : Int) < 1))
  (0, false)
  (cond (decide ((((x0.length : Nat) : Int) : Int) > 5))
   (0, false)
   (cond ((((x1.length : Nat) : Int) : Int) != ((x0.length : Nat) : Int))
    (0, false)
    (cond (decide ((((x2.length : Nat) : Int) : Int) > 10))
     (0, false)
     (cond (decide ((((x3.length : Nat) : Int) : Int) > 8))
      (0, false)
      (cond (Nat.beq c70 0)
       (0, false)
       (cond (Nat.beq c70 1)
        (cond (Nat.beq c71 0)
         (0, false)
         (cond (Nat.beq c71 1)
          (cond (Nat.beq (r65l3 (1000 + x3.length) ((x0.length : Nat) : Int) ((x3.length : Nat) : Int) 0 x3) 0)
           (0, false)
           (cond (Nat.beq (r65l3 (1000 + x3.length) ((x0.length : Nat) : Int) ((x3.length : Nat) : Int) 0 x3) 1)
            (0, true)
            (1, false)))
          (1, false)))
        (1, false)))))))
noncomputable def a65 (x0 x1 x2 x3 : List (List Int)) (p : Nat × Bool) : Res := firstT [((Nat.beq (p.1) 0), .bool (p.2), ⟨[⟨true, (some (.tab [.fl .f32] x0))⟩, ⟨true, (some (.tab [.fl .f32] x1))⟩, ⟨true, (some (.tab sc0 x2))⟩, ⟨true, (some (.tab sc1 x3))⟩], 4, []⟩)]
noncomputable def w65 (x0 x1 x2 x3 : List (List Int)) : Res :=
 let c70 := (r65l0 (1000 + x3.length + x2.length + x1.length + x0.length) ((x0.length : Nat) : Int) ((x0.length : Nat) : Int) 0 x0 x1 x2 x3)
 let c71 := (r65l1 (1000 + x3.length + x1.length + x0.length + x2.length) ((x0.length : Nat) : Int) ((x2.length : Nat) : Int) 0 x2 x0 x1 x3)
 (cond (decide ((((x0.length : Nat) : Int) : Int) < 1))
 (a65 x0 x1 x2 x3 (0, false))
 (cond (decide ((((x0.length : Nat) : Int) : Int) > 5))
  (a65 x0 x1 x2 x3 (0, false))
  (cond ((((x1.length : Nat) : Int) : Int) != ((x0.length : Nat) : Int))
   (a65 x0 x1 x2 x3 (0, false))
   (cond (decide ((((x2.length : Nat) : Int) : Int) > 10))
    (a65 x0 x1 x2 x3 (0, false))
    (cond (decide ((((x3.length : Nat) : Int) : Int) > 8))
     (a65 x0 x1 x2 x3 (0, false))
     (cond (Nat.beq c70 0)
      (a65 x0 x1 x2 x3 (0, false))
      (cond (Nat.beq c70 1)
       (cond (Nat.beq c71 0)
        (a65 x0 x1 x2 x3 (0, false))
        (cond (Nat.beq c71 1)
         (cond (Nat.beq (r65l3 (1000 + x3.length) ((x0.length : Nat) : Int) ((x3.length : Nat) : Int) 0 x3) 0)
          (a65 x0 x1 x2 x3 (0, false))
          (cond (Nat.beq (r65l3 (1000 + x3.length) ((x0.length : Nat) : Int) ((x3.length : Nat) : Int) 0 x3) 1)
           (a65 x0 x1 x2 x3 (0, true))
           none))
         none))
       none)))))))
set_option maxRecDepth 100000 in
set_option maxHeartbeats 4000000 in
theorem e65 (x0 x1 x2 x3 : List (List Int)) : evFn Try.prog ext T34 L65_3 200 Try.f65 [.agg #[wsl 0, wsl 1, wsl 2, wsl 3]] ⟨[⟨true, (some (.tab [.fl .f32] x0))⟩, ⟨true, (some (.tab [.fl .f32] x1))⟩, ⟨true, (some (.tab sc0 x2))⟩, ⟨true, (some (.tab sc1 x3))⟩], 4, []⟩ = firstT [((Nat.beq ((r65 x0 x1 x2 x3).1) 0), .bool ((r65 x0 x1 x2 x3).2), ⟨[⟨true, (some (.tab [.fl .f32] x0))⟩, ⟨true, (some (.tab [.fl .f32] x1))⟩, ⟨true, (some (.tab sc0 x2))⟩, ⟨true, (some (.tab sc1 x3))⟩], 4, []⟩)] :=
 (show evFn Try.prog ext T34 L65_3 200 Try.f65 [.agg #[wsl 0, wsl 1, wsl 2, wsl 3]] ⟨[⟨true, (some (.tab [.fl .f32] x0))⟩, ⟨true, (some (.tab [.fl .f32] x1))⟩, ⟨true, (some (.tab sc0 x2))⟩, ⟨true, (some (.tab sc1 x3))⟩], 4, []⟩ = w65 x0 x1 x2 x3 from by kernel_rfl).trans
 (show w65 x0 x1 x2 x3 = a65 x0 x1 x2 x3 (r65 x0 x1 x2 x3) from by unfold w65 r65; exact (cond_app (a65 x0 x1 x2 x3) _ rfl (cond_app (a65 x0 x1 x2 x3) _ rfl (cond_app (a65 x0 x1 x2 x3) _ rfl (cond_app (a65 x0 x1 x2 x3) _ rfl (cond_app (a65 x0 x1 x2 x3) _ rfl (cond_app (a65 x0 x1 x2 x3) _ rfl (cond_app (a65 x0 x1 x2 x3) _ (cond_app (a65 x0 x1 x2 x3) _ rfl (cond_app (a65 x0 x1 x2 x3) _ (cond_app (a65 x0 x1 x2 x3) _ rfl (cond_app (a65 x0 x1 x2 x3) _ rfl rfl)) rfl)) rfl))))))))
noncomputable def s65 (args : List Value) (s : St) : List (Bool × Value × St) :=
 match args, s.h with
 | [.agg ⟨[.iface f0 .nilIface, .iface f1 .nilIface, .iface f2 .nilIface, .iface f3 .nilIface]⟩], [⟨true, some (.tab [.fl .f32] x0)⟩, ⟨true, some (.tab [.fl .f32] x1)⟩, ⟨true, some (.tab [.int .i64, .int .i64, .fl .f32, .fl .f32, .fl .f32, .fl .f32, .fl .f32, .fl .f32] x2)⟩, ⟨true, some (.tab [.int .i64, .int .i64, .fl .f32, .fl .f32] x3)⟩] => if f0 = 0 ∧ f1 = 1 ∧ f2 = 2 ∧ f3 = 3 then [((Nat.beq ((r65 x0 x1 x2 x3).1) 0), .bool ((r65 x0 x1 x2 x3).2), ⟨[⟨true, (some (.tab [.fl .f32] x0))⟩, ⟨true, (some (.tab [.fl .f32] x1))⟩, ⟨true, (some (.tab sc0 x2))⟩, ⟨true, (some (.tab sc1 x3))⟩], 4, []⟩)] else T34 65 args s
 | _, _ => T34 65 args s
noncomputable def T35 : CallF := addF T34 65 s65
set_option maxRecDepth 100000 in
set_option maxHeartbeats 4000000 in
theorem ok35 : CfOk Try.prog T35 := by
  refine cfOk_add ok34 fun args s r s' h1 h2 h3 => ?_
  unfold s65 at h3; split at h3
  · rename_i h; split at h3
    · rename_i hc; obtain ⟨rfl, rfl, rfl, rfl⟩ := hc; exact callOk ok34 Try.func65 h1 h2 h lok65_3.body (e65 _ _ _ _) rfl h3
    · exact ok34 _ _ _ _ _ h1 h2 h3
  · exact ok34 _ _ _ _ _ h1 h2 h3

/-- impl.isOutside -/
noncomputable def r66 (x0 : Nat) : Bool :=
 ((r115 x0 3262119936 1114636288))
noncomputable def a66 (x0 : Nat) (p : Bool) : Res := firstT [(true, .bool p, st0)]
noncomputable def w66 (x0 : Nat) : Res :=
 (a66 x0 ((r115 x0 3262119936 1114636288)))
set_option maxRecDepth 100000 in
set_option maxHeartbeats 4000000 in
theorem e66 (x0 : Nat) : evFn Try.prog ext T35 noL 200 Try.f66 [.float .f32 x0] st0 = firstT [(true, .bool (r66 x0), st0)] :=
 (show evFn Try.prog ext T35 noL 200 Try.f66 [.float .f32 x0] st0 = w66 x0 from by kernel_rfl).trans
 (show w66 x0 = a66 x0 (r66 x0) from by unfold w66 r66; exact rfl)
noncomputable def s66 (args : List Value) (s : St) : List (Bool × Value × St) :=
 match args, s.h with
 | [.float .f32 x0], [] => [(true, .bool (r66 x0), st0)]
 | _, _ => T35 66 args s
noncomputable def T36 : CallF := addF T35 66 s66
set_option maxRecDepth 100000 in
set_option maxHeartbeats 4000000 in
theorem ok36 : CfOk Try.prog T36 := by
  refine cfOk_add ok35 fun args s r s' h1 h2 h3 => ?_
  unfold s66 at h3; split at h3
  · rename_i h; exact callOk ok35 Try.func66 h1 h2 h (lfOkF_no _ _).body (e66 _) rfl h3
  · exact ok35 _ _ _ _ _ h1 h2 h3

/-- impl.GainsFor, loop 0: one round -/
noncomputable def b20l0 (ih : Nat → Nat → Int → Int → List (List Int) → List (List Int) → List (List Int) → List (List Int) → List (List Int) → Nat) (x0 x1 : Nat) (x2 x3 : Int) (x4 x5 x6 x7 x8 : List (List Int)) : Nat :=
 cond (decide ((x3 : Int) < x2))
  (cond ((decide ((0 : Int) ≤ x3)) && (Nat.blt (Int.toNat x3) x4.length))
   (cond (!(r68 (Int.toNat ((x4.getD (Int.toNat x3) []).getD 0 0))))
    (0)
    (ih x0 x1 x2 (IntKind.i64.wrap (x3 + 1)) x4 x5 x6 x7 x8))
   (2))
  (1)
noncomputable def r20l0 : Nat → Nat → Nat → Int → Int → List (List Int) → List (List Int) → List (List Int) → List (List Int) → List (List Int) → Nat
 | 0 => fun _ _ _ _ _ _ _ _ _ => (2)
 | m + 1 => b20l0 (r20l0 m)
noncomputable def a20l0 (x0 x1 : Nat) (x2 x3 : Int) (x4 x5 x6 x7 x8 : List (List Int)) (p : Nat) : Option (Fin' × List Value × St) := firstT ([((Nat.beq p 0), .ret, [.float .f32 x0, .float .f32 x1, wsl 0, .pointer (some ⟨1, 0, some 0⟩), .slice none 0 0, .int .i64 2], ⟨[⟨true, (some (.tab [.fl .f32] x4))⟩, ⟨true, (some (.cells [wsl 2, wsl 3, wsl 4, wsl 5]))⟩, ⟨true, (some (.tab [.fl .f32] x5))⟩, ⟨true, (some (.tab [.fl .f32] x6))⟩, ⟨true, (some (.tab sc0 x7))⟩, ⟨true, (some (.tab sc1 x8))⟩], 6, []⟩), ((Nat.beq p 1), .exit 0, [.float .f32 x0, .float .f32 x1, wsl 0, .pointer (some ⟨1, 0, some 0⟩), anyV, anyV], ⟨[⟨true, (some (.tab [.fl .f32] x4))⟩, ⟨true, (some (.cells [wsl 2, wsl 3, wsl 4, wsl 5]))⟩, ⟨true, (some (.tab [.fl .f32] x5))⟩, ⟨true, (some (.tab [.fl .f32] x6))⟩, ⟨true, (some (.tab sc0 x7))⟩, ⟨true, (some (.tab sc1 x8))⟩], 6, []⟩)].map fun (b, x) => (b, (x.1, frameOf 149 [1, 2, 3, 4, 8, 9] x.2.1, x.2.2)))
noncomputable def u20l0 (x0 x1 : Nat) (x2 x3 : Int) (x4 x5 x6 x7 x8 : List (List Int)) (p : Nat) : Option (Fin' × List Value × St) := alts ([((Nat.beq p 0), .ret, [.float .f32 x0, .float .f32 x1, wsl 0, .pointer (some ⟨1, 0, some 0⟩), .slice none 0 0, .int .i64 2], ⟨[⟨true, (some (.tab [.fl .f32] x4))⟩, ⟨true, (some (.cells [wsl 2, wsl 3, wsl 4, wsl 5]))⟩, ⟨true, (some (.tab [.fl .f32] x5))⟩, ⟨true, (some (.tab [.fl .f32] x6))⟩, ⟨true, (some (.tab sc0 x7))⟩, ⟨true, (some (.tab sc1 x8))⟩], 6, []⟩), ((Nat.beq p 1), .exit 0, [.float .f32 x0, .float .f32 x1, wsl 0, .pointer (some ⟨1, 0, some 0⟩), anyV, anyV], ⟨[⟨true, (some (.tab [.fl .f32] x4))⟩, ⟨true, (some (.cells [wsl 2, wsl 3, wsl 4, wsl 5]))⟩, ⟨true, (some (.tab [.fl .f32] x5))⟩, ⟨true, (some (.tab [.fl .f32] x6))⟩, ⟨true, (some (.tab sc0 x7))⟩, ⟨true, (some (.tab sc1 x8))⟩], 6, []⟩)].map fun (b, x) => (b, (x.1, frameOf 149 [1, 2, 3, 4, 8, 9] x.2.1, x.2.2))) some
theorem v20l0 (x0 x1 : Nat) (x2 x3 : Int) (x4 x5 x6 x7 x8 : List (List Int)) (p : Nat) : u20l0 x0 x1 x2 x3 x4 x5 x6 x7 x8 p = a20l0 x0 x1 x2 x3 x4 x5 x6 x7 x8 p := alts_first _
noncomputable def q20l0 (m : Nat) : SumK := fun vals s =>
 match vals, s.h with
 | [.float .f32 x0, .float .f32 x1, .iface f0 .nilIface, .pointer (some ⟨f1, f2, some f3⟩), .iface f4 .nilIface, .int .i64 x2, .int .i64 x3], [⟨true, some (.tab [.fl .f32] x4)⟩, ⟨true, some (.cells [.iface f5 .nilIface, .iface f6 .nilIface, .iface f7 .nilIface, .iface f8 .nilIface])⟩, ⟨true, some (.tab [.fl .f32] x5)⟩, ⟨true, some (.tab [.fl .f32] x6)⟩, ⟨true, some (.tab [.int .i64, .int .i64, .fl .f32, .fl .f32, .fl .f32, .fl .f32, .fl .f32, .fl .f32] x7)⟩, ⟨true, some (.tab [.int .i64, .int .i64, .fl .f32, .fl .f32] x8)⟩] => if f0 = 0 ∧ f1 = 1 ∧ f2 = 0 ∧ f3 = 0 ∧ f4 = 0 ∧ f5 = 2 ∧ f6 = 3 ∧ f7 = 4 ∧ f8 = 5 then [((Nat.beq (r20l0 m x0 x1 x2 x3 x4 x5 x6 x7 x8) 0), .ret, [.float .f32 x0, .float .f32 x1, wsl 0, .pointer (some ⟨1, 0, some 0⟩), .slice none 0 0, .int .i64 2], ⟨[⟨true, (some (.tab [.fl .f32] x4))⟩, ⟨true, (some (.cells [wsl 2, wsl 3, wsl 4, wsl 5]))⟩, ⟨true, (some (.tab [.fl .f32] x5))⟩, ⟨true, (some (.tab [.fl .f32] x6))⟩, ⟨true, (some (.tab sc0 x7))⟩, ⟨true, (some (.tab sc1 x8))⟩], 6, []⟩), ((Nat.beq (r20l0 m x0 x1 x2 x3 x4 x5 x6 x7 x8) 1), .exit 0, [.float .f32 x0, .float .f32 x1, wsl 0, .pointer (some ⟨1, 0, some 0⟩), anyV, anyV], ⟨[⟨true, (some (.tab [.fl .f32] x4))⟩, ⟨true, (some (.cells [wsl 2, wsl 3, wsl 4, wsl 5]))⟩, ⟨true, (some (.tab [.fl .f32] x5))⟩, ⟨true, (some (.tab [.fl .f32] x6))⟩, ⟨true, (some (.tab sc0 x7))⟩, ⟨true, (some (.tab sc1 x8))⟩], 6, []⟩)] else noQ vals s
 | _, _ => noQ vals s
noncomputable def w20l0 (ih : Nat → Nat → Int → Int → List (List Int) → List (List Int) → List (List Int) → List (List Int) → List (List Int) → Nat) (x0 x1 : Nat) (x2 x3 : Int) (x4 x5 x6 x7 x8 : List (List Int)) : Option (Fin' × List Value × St) :=
 (cond (decide ((x3 : Int) < x2))
 (cond ((decide ((0 : Int) ≤ x3)) && (Nat.blt (Int.toNat x3) x4.length))
  (cond (Nat.blt (Int.toNat x3) x4.length)
   (cond (!(r68 (Int.toNat ((x4.getD (Int.toNat x3) []).getD 0 0))))
    (a20l0 x0 x1 x2 x3 x4 x5 x6 x7 x8 (0))
    (u20l0 x0 x1 x2 x3 x4 x5 x6 x7 x8 (ih x0 x1 x2 (IntKind.i64.wrap (x3 + 1)) x4 x5 x6 x7 x8)))
   none)
  none)
 (a20l0 x0 x1 x2 x3 x4 x5 x6 x7 x8 (1)))
set_option maxRecDepth 100000 in
set_option maxHeartbeats 4000000 in
theorem e20l0 (m : Nat) (x0 x1 : Nat) (x2 x3 : Int) (x4 x5 x6 x7 x8 : List (List Int)) : evC Try.prog ext T36 noL 200 (loopN Try.f20 0) (loopTail ([1, 2, 3, 4, 40, 41, 42], []) [1, 2, 3, 4, 8, 9] [] (sumK 149 [1, 2, 3, 4, 40, 41, 42] [1, 2, 3, 4, 8, 9] (q20l0 m))) (frameOf 149 [1, 2, 3, 4, 40, 41, 42] [.float .f32 x0, .float .f32 x1, wsl 0, .pointer (some ⟨1, 0, some 0⟩), wsl 0, .int .i64 x2, .int .i64 x3]) ⟨[⟨true, (some (.tab [.fl .f32] x4))⟩, ⟨true, (some (.cells [wsl 2, wsl 3, wsl 4, wsl 5]))⟩, ⟨true, (some (.tab [.fl .f32] x5))⟩, ⟨true, (some (.tab [.fl .f32] x6))⟩, ⟨true, (some (.tab sc0 x7))⟩, ⟨true, (some (.tab sc1 x8))⟩], 6, []⟩ = firstT ([((Nat.beq (r20l0 (m + 1) x0 x1 x2 x3 x4 x5 x6 x7 x8) 0), .ret, [.float .f32 x0, .float .f32 x1, wsl 0, .pointer (some ⟨1, 0, some 0⟩), .slice none 0 0, .int .i64 2], ⟨[⟨true, (some (.tab [.fl .f32] x4))⟩, ⟨true, (some (.cells [wsl 2, wsl 3, wsl 4, wsl 5]))⟩, ⟨true, (some (.tab [.fl .f32] x5))⟩, ⟨true, (some (.tab [.fl .f32] x6))⟩, ⟨true, (some (.tab sc0 x7))⟩, ⟨true, (some (.tab sc1 x8))⟩], 6, []⟩), ((Nat.beq (r20l0 (m + 1) x0 x1 x2 x3 x4 x5 x6 x7 x8) 1), .exit 0, [.float .f32 x0, .float .f32 x1, wsl 0, .pointer (some ⟨1, 0, some 0⟩), anyV, anyV], ⟨[⟨true, (some (.tab [.fl .f32] x4))⟩, ⟨true, (some (.cells [wsl 2, wsl 3, wsl 4, wsl 5]))⟩, ⟨true, (some (.tab [.fl .f32] x5))⟩, ⟨true, (some (.tab [.fl .f32] x6))⟩, ⟨true, (some (.tab sc0 x7))⟩, ⟨true, (some (.tab sc1 x8))⟩], 6, []⟩)].map fun (b, x) => (b, (x.1, frameOf 149 [1, 2, 3, 4, 8, 9] x.2.1, x.2.2))) :=
 (show evC Try.prog ext T36 noL 200 (loopN Try.f20 0) (loopTail ([1, 2, 3, 4, 40, 41, 42], []) [1, 2, 3, 4, 8, 9] [] (sumK 149 [1, 2, 3, 4, 40, 41, 42] [1, 2, 3, 4, 8, 9] (q20l0 m))) (frameOf 149 [1, 2, 3, 4, 40, 41, 42] [.float .f32 x0, .float .f32 x1, wsl 0, .pointer (some ⟨1, 0, some 0⟩), wsl 0, .int .i64 x2, .int .i64 x3]) ⟨[⟨true, (some (.tab [.fl .f32] x4))⟩, ⟨true, (some (.cells [wsl 2, wsl 3, wsl 4, wsl 5]))⟩, ⟨true, (some (.tab [.fl .f32] x5))⟩, ⟨true, (some (.tab [.fl .f32] x6))⟩, ⟨true, (some (.tab sc0 x7))⟩, ⟨true, (some (.tab sc1 x8))⟩], 6, []⟩ = w20l0 (r20l0 m) x0 x1 x2 x3 x4 x5 x6 x7 x8 from by kernel_rfl).trans
 (show w20l0 (r20l0 m) x0 x1 x2 x3 x4 x5 x6 x7 x8 = a20l0 x0 x1 x2 x3 x4 x5 x6 x7 x8 (r20l0 (m + 1) x0 x1 x2 x3 x4 x5 x6 x7 x8) from by unfold w20l0; show _ = a20l0 x0 x1 x2 x3 x4 x5 x6 x7 x8 (b20l0 (r20l0 m) x0 x1 x2 x3 x4 x5 x6 x7 x8); unfold b20l0; exact (cond_both (a20l0 x0 x1 x2 x3 x4 x5 x6 x7 x8) _ (fun h0 => (cond_both (a20l0 x0 x1 x2 x3 x4 x5 x6 x7 x8) _ (fun h1 => (cond_t (ev_and2 h1) (cond_app (a20l0 x0 x1 x2 x3 x4 x5 x6 x7 x8) _ rfl (v20l0 x0 x1 x2 x3 x4 x5 x6 x7 x8 ((r20l0 m) x0 x1 x2 (IntKind.i64.wrap (x3 + 1)) x4 x5 x6 x7 x8))))) (fun h1 => rfl))) (fun h0 => rfl)))
set_option maxRecDepth 100000 in
set_option maxHeartbeats 4000000 in
theorem qm20l0 : ∀ m, SumKOk Try.prog (loopN Try.f20 0) 149 [1, 2, 3, 4, 40, 41, 42] [1, 2, 3, 4, 8, 9] (q20l0 m) := by
  intro m
  induction m with
  | zero =>
    intro vals s x h1 h2 h3
    unfold q20l0 at h3; split at h3
    · rename_i h; split at h3
      · rename_i hc; obtain ⟨rfl, rfl, rfl, rfl, rfl, rfl, rfl, rfl, rfl⟩ := hc; exact absurd h3 (by simp [r20l0, firstT, Nat.beq])
      · exact noQ_ok _ _ _ h1 h2 h3
    · exact noQ_ok _ _ _ h1 h2 h3
  | succ m ih =>
    intro vals s x h1 h2 h3
    unfold q20l0 at h3; split at h3
    · rename_i h; split at h3
      · rename_i hc; obtain ⟨rfl, rfl, rfl, rfl, rfl, rfl, rfl, rfl, rfl⟩ := hc; exact sum_step ok36 extOk mixed ((lfOkF_no _ _).inner (by kernel_rfl)) ih h1 h2 h (e20l0 m _ _ _ _ _ _ _ _ _) rfl h3
      · exact noQ_ok _ _ _ h1 h2 h3
    · exact noQ_ok _ _ _ h1 h2 h3
noncomputable def Q20l0 : SumK := fun vals s => q20l0 (fuelOf vals s.h) vals s
theorem qok20l0 : SumKOk Try.prog (loopN Try.f20 0) 149 [1, 2, 3, 4, 40, 41, 42] [1, 2, 3, 4, 8, 9] Q20l0 := fuel_ok qm20l0 fuelOf
noncomputable def L20_1 : LoopT := addL noL 7 ([1, 2, 3, 4, 40, 41, 42], []) (sumK 149 [1, 2, 3, 4, 40, 41, 42] [1, 2, 3, 4, 8, 9] Q20l0)
theorem lok20_1 : LfOkF Try.prog L20_1 Try.f20 := lfOkF_add (lfOkF_no _ _) qok20l0 (by kernel_rfl) (by kernel_rfl) (by kernel_rfl)

/-- impl.heatOf -/
noncomputable def r69 (x0 : Int) (x1 : Nat) (x2 : List (List Int)) : Nat × Nat :=
 cond ((x0 : Int) == (-1))
  (0, x1)
  (cond ((decide ((0 : Int) ≤ x0)) && (Nat.blt (Int.toNat x0) x2.length))
   (0, (Int.toNat ((x2.getD (Int.toNat x0) []).getD 0 0)))
   (1, 0))
noncomputable def a69 (x0 : Int) (x1 : Nat) (x2 : List (List Int)) (p : Nat × Nat) : Res := firstT [((Nat.beq (p.1) 0), .float .f32 (p.2), ⟨[⟨true, (some (.tab [.fl .f32] x2))⟩], 1, []⟩)]
noncomputable def w69 (x0 : Int) (x1 : Nat) (x2 : List (List Int)) : Res :=
 (cond ((x0 : Int) == (-1))
 (a69 x0 x1 x2 (0, x1))
 (cond ((decide ((0 : Int) ≤ x0)) && (Nat.blt (Int.toNat x0) x2.length))
  (cond (Nat.blt (Int.toNat x0) x2.length)
   (a69 x0 x1 x2 (0, (Int.toNat ((x2.getD (Int.toNat x0) []).getD 0 0))))
   none)
  none))
set_option maxRecDepth 100000 in
set_option maxHeartbeats 4000000 in
theorem e69 (x0 : Int) (x1 : Nat) (x2 : List (List Int)) : evFn Try.prog ext T36 noL 200 Try.f69 [wsl 0, .int .i64 x0, .float .f32 x1] ⟨[⟨true, (some (.tab [.fl .f32] x2))⟩], 1, []⟩ = firstT [((Nat.beq ((r69 x0 x1 x2).1) 0), .float .f32 ((r69 x0 x1 x2).2), ⟨[⟨true, (some (.tab [.fl .f32] x2))⟩], 1, []⟩)] :=
 (show evFn Try.prog ext T36 noL 200 Try.f69 [wsl 0, .int .i64 x0, .float .f32 x1] ⟨[⟨true, (some (.tab [.fl .f32] x2))⟩], 1, []⟩ = w69 x0 x1 x2 from by kernel_rfl).trans
 (show w69 x0 x1 x2 = a69 x0 x1 x2 (r69 x0 x1 x2) from by unfold w69 r69; exact (cond_both (a69 x0 x1 x2) _ (fun h0 => rfl) (fun h0 => (cond_both (a69 x0 x1 x2) _ (fun h1 => (cond_t (ev_and2 h1) rfl)) (fun h1 => rfl)))))
noncomputable def s69 (args : List Value) (s : St) : List (Bool × Value × St) :=
 match args, s.h with
 | [.iface f0 .nilIface, .int .i64 x0, .float .f32 x1], [⟨true, some (.tab [.fl .f32] x2)⟩] => if f0 = 0 then [((Nat.beq ((r69 x0 x1 x2).1) 0), .float .f32 ((r69 x0 x1 x2).2), ⟨[⟨true, (some (.tab [.fl .f32] x2))⟩], 1, []⟩)] else T36 69 args s
 | _, _ => T36 69 args s
noncomputable def T37 : CallF := addF T36 69 s69
set_option maxRecDepth 100000 in
set_option maxHeartbeats 4000000 in
theorem ok37 : CfOk Try.prog T37 := by
  refine cfOk_add ok36 fun args s r s' h1 h2 h3 => ?_
  unfold s69 at h3; split at h3
  · rename_i h; split at h3
    · rename_i hc; obtain ⟨rfl⟩ := hc; exact callOk ok36 Try.func69 h1 h2 h (lfOkF_no _ _).body (e69 _ _ _) rfl h3
    · exact ok36 _ _ _ _ _ h1 h2 h3
  · exact ok36 _ _ _ _ _ h1 h2 h3
end Go.Proofs.Ytfnfapmncibjfaa
