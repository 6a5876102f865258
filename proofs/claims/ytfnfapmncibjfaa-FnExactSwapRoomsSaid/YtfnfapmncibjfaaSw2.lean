/- What the functions that the statements reach answer, part 2. -/
import Derived.Test.YtfnfapmncibjfaaSw1
namespace Go.Proofs.Ytfnfapmncibjfaa
open Go.Ab
set_option maxHeartbeats 4000000
set_option maxRecDepth 100000

/-- spec.SwapRooms, loop 1: one round -/
noncomputable def b38l1 (ih : Int → Int → Int → List (List Int) → List (List Int) → List (List Int) → List (List Int) → (Nat × List (List Int))) (x0 x1 x2 : Int) (x3 x4 x5 x6 : List (List Int)) : Nat × List (List Int) :=
 let c50 := (r91 (((x6.modify (Int.toNat x2) (fun r => spl 4 r 0 [(r91 ((x6.getD (Int.toNat x2) []).getD 0 0) x0 x1)])).getD (Int.toNat x2) []).getD 1 0) x0 x1)
 cond (decide ((x2 : Int) < ((x6.length : Nat) : Int)))
  (cond ((decide ((0 : Int) ≤ x2)) && (Nat.blt (Int.toNat x2) x6.length))
   (cond ((decide ((0 : Int) ≤ x2)) && (Nat.blt (Int.toNat x2) ((x6.modify (Int.toNat x2) (fun r => spl 4 r 0 [(r91 ((x6.getD (Int.toNat x2) []).getD 0 0) x0 x1)])).length)))
    (ih x0 x1 (IntKind.i64.wrap (x2 + 1)) x3 x4 x5 ((x6.modify (Int.toNat x2) (fun r => spl 4 r 0 [(r91 ((x6.getD (Int.toNat x2) []).getD 0 0) x0 x1)])).modify (Int.toNat x2) (fun r => spl 4 r 1 [c50])))
    (1, []))
   (1, []))
  (0, x6)
noncomputable def r38l1 : Nat → Int → Int → Int → List (List Int) → List (List Int) → List (List Int) → List (List Int) → (Nat × List (List Int))
 | 0 => fun _ _ _ _ _ _ _ => (1, [])
 | m + 1 => b38l1 (r38l1 m)
noncomputable def a38l1 (x0 x1 x2 : Int) (x3 x4 x5 x6 : List (List Int)) (p : Nat × List (List Int)) : Option (Fin' × List Value × St) := firstT ([((Nat.beq (p.1) 0), .exit 2, [.pointer (some ⟨0, 0, some 0⟩), .pointer (some ⟨1, 0, some 0⟩)], ⟨[⟨true, (some (.cells [.slice none 0 0, .slice none 0 0, .slice none 0 0, .slice none 0 0]))⟩, ⟨true, (some (.cells [wsl 2, wsl 3, wsl 4, wsl 5]))⟩, ⟨true, (some (.tab [.fl .f32] x3))⟩, ⟨true, (some (.tab [.fl .f32] x4))⟩, ⟨true, (some (.tab sc0 x5))⟩, ⟨true, (some (.tab sc1 (p.2)))⟩], 6, [5]⟩)].map fun (b, x) => (b, (x.1, frameOf 139 [6, 9] x.2.1, x.2.2)))
noncomputable def u38l1 (x0 x1 x2 : Int) (x3 x4 x5 x6 : List (List Int)) (p : Nat × List (List Int)) : Option (Fin' × List Value × St) := alts ([((Nat.beq (p.1) 0), .exit 2, [.pointer (some ⟨0, 0, some 0⟩), .pointer (some ⟨1, 0, some 0⟩)], ⟨[⟨true, (some (.cells [.slice none 0 0, .slice none 0 0, .slice none 0 0, .slice none 0 0]))⟩, ⟨true, (some (.cells [wsl 2, wsl 3, wsl 4, wsl 5]))⟩, ⟨true, (some (.tab [.fl .f32] x3))⟩, ⟨true, (some (.tab [.fl .f32] x4))⟩, ⟨true, (some (.tab sc0 x5))⟩, ⟨true, (some (.tab sc1 (p.2)))⟩], 6, [5]⟩)].map fun (b, x) => (b, (x.1, frameOf 139 [6, 9] x.2.1, x.2.2))) some
theorem v38l1 (x0 x1 x2 : Int) (x3 x4 x5 x6 : List (List Int)) (p : Nat × List (List Int)) : u38l1 x0 x1 x2 x3 x4 x5 x6 p = a38l1 x0 x1 x2 x3 x4 x5 x6 p := alts_first _
noncomputable def q38l1 (m : Nat) : SumK := fun vals s =>
 match vals, s.h with
 | [.int .i64 x0, .int .i64 x1, .pointer (some ⟨f0, f1, some f2⟩), .pointer (some ⟨f3, f4, some f5⟩), .int .i64 x2], [⟨true, some (.cells [.slice none f6 f7, .slice none f8 f9, .slice none f10 f11, .slice none f12 f13])⟩, ⟨true, some (.cells [.iface f14 .nilIface, .iface f15 .nilIface, .iface f16 .nilIface, .iface f17 .nilIface])⟩, ⟨true, some (.tab [.fl .f32] x3)⟩, ⟨true, some (.tab [.fl .f32] x4)⟩, ⟨true, some (.tab [.int .i64, .int .i64, .fl .f32, .fl .f32, .fl .f32, .fl .f32, .fl .f32, .fl .f32] x5)⟩, ⟨true, some (.tab [.int .i64, .int .i64, .fl .f32, .fl .f32] x6)⟩] => if f0 = 0 ∧ f1 = 0 ∧ f2 = 0 ∧ f3 = 1 ∧ f4 = 0 ∧ f5 = 0 ∧ f6 = 0 ∧ f7 = 0 ∧ f8 = 0 ∧ f9 = 0 ∧ f10 = 0 ∧ f11 = 0 ∧ f12 = 0 ∧ f13 = 0 ∧ f14 = 2 ∧ f15 = 3 ∧ f16 = 4 ∧ f17 = 5 then [((Nat.beq ((r38l1 m x0 x1 x2 x3 x4 x5 x6).1) 0), .exit 2, [.pointer (some ⟨0, 0, some 0⟩), .pointer (some ⟨1, 0, some 0⟩)], ⟨[⟨true, (some (.cells [.slice none 0 0, .slice none 0 0, .slice none 0 0, .slice none 0 0]))⟩, ⟨true, (some (.cells [wsl 2, wsl 3, wsl 4, wsl 5]))⟩, ⟨true, (some (.tab [.fl .f32] x3))⟩, ⟨true, (some (.tab [.fl .f32] x4))⟩, ⟨true, (some (.tab sc0 x5))⟩, ⟨true, (some (.tab sc1 ((r38l1 m x0 x1 x2 x3 x4 x5 x6).2)))⟩], 6, [5]⟩)] else noQ vals s
 | _, _ => noQ vals s
noncomputable def w38l1 (ih : Int → Int → Int → List (List Int) → List (List Int) → List (List Int) → List (List Int) → (Nat × List (List Int))) (x0 x1 x2 : Int) (x3 x4 x5 x6 : List (List Int)) : Option (Fin' × List Value × St) :=
 let c50 := (r91 (((x6.modify (Int.toNat x2) (fun r => spl 4 r 0 [(r91 ((x6.getD (Int.toNat x2) []).getD 0 0) x0 x1)])).getD (Int.toNat x2) []).getD 1 0) x0 x1)
 (cond (decide ((x2 : Int) < ((x6.length : Nat) : Int)))
 (cond ((decide ((0 : Int) ≤ x2)) && (Nat.blt (Int.toNat x2) x6.length))
  (cond (Nat.blt (Int.toNat x2) x6.length)
   (cond ((decide ((0 : Int) ≤ x2)) && (Nat.blt (Int.toNat x2) x6.length))
    (cond (Nat.blt (Int.toNat x2) x6.length)
     (cond ((decide ((0 : Int) ≤ x2)) && (Nat.blt (Int.toNat x2) ((x6.modify (Int.toNat x2) (fun r => spl 4 r 0 [(r91 ((x6.getD (Int.toNat x2) []).getD 0 0) x0 x1)])).length)))
      (cond (Nat.blt (Int.toNat x2) ((x6.modify (Int.toNat x2) (fun r => spl 4 r 0 [(r91 ((x6.getD (Int.toNat x2) []).getD 0 0) x0 x1)])).length))
       (cond ((decide ((0 : Int) ≤ x2)) && (Nat.blt (Int.toNat x2) ((x6.modify (Int.toNat x2) (fun r => spl 4 r 0 [(r91 ((x6.getD (Int.toNat x2) []).getD 0 0) x0 x1)])).length)))
        (cond (Nat.blt (Int.toNat x2) ((x6.modify (Int.toNat x2) (fun r => spl 4 r 0 [(r91 ((x6.getD (Int.toNat x2) []).getD 0 0) x0 x1)])).length))
         (u38l1 x0 x1 x2 x3 x4 x5 x6 (ih x0 x1 (IntKind.i64.wrap (x2 + 1)) x3 x4 x5 ((x6.modify (Int.toNat x2) (fun r => spl 4 r 0 [(r91 ((x6.getD (Int.toNat x2) []).getD 0 0) x0 x1)])).modify (Int.toNat x2) (fun r => spl 4 r 1 [c50]))))
         none)
        none)
       none)
      none)
     none)
    none)
   none)
  none)
 (a38l1 x0 x1 x2 x3 x4 x5 x6 (0, x6)))
set_option maxRecDepth 100000 in
set_option maxHeartbeats 4000000 in
theorem e38l1 (m : Nat) (x0 x1 x2 : Int) (x3 x4 x5 x6 : List (List Int)) : evC Try.prog ext T22 L38_1 200 (loopN Try.f38 1) (loopTail ([1, 2, 6, 9, 11], []) [6, 9] [5] (sumK 139 [1, 2, 6, 9, 11] [6, 9] (q38l1 m))) (frameOf 139 [1, 2, 6, 9, 11] [.int .i64 x0, .int .i64 x1, .pointer (some ⟨0, 0, some 0⟩), .pointer (some ⟨1, 0, some 0⟩), .int .i64 x2]) ⟨[⟨true, (some (.cells [.slice none 0 0, .slice none 0 0, .slice none 0 0, .slice none 0 0]))⟩, ⟨true, (some (.cells [wsl 2, wsl 3, wsl 4, wsl 5]))⟩, ⟨true, (some (.tab [.fl .f32] x3))⟩, ⟨true, (some (.tab [.fl .f32] x4))⟩, ⟨true, (some (.tab sc0 x5))⟩, ⟨true, (some (.tab sc1 x6))⟩], 6, []⟩ = firstT ([((Nat.beq ((r38l1 (m + 1) x0 x1 x2 x3 x4 x5 x6).1) 0), .exit 2, [.pointer (some ⟨0, 0, some 0⟩), .pointer (some ⟨1, 0, some 0⟩)], ⟨[⟨true, (some (.cells [.slice none 0 0, .slice none 0 0, .slice none 0 0, .slice none 0 0]))⟩, ⟨true, (some (.cells [wsl 2, wsl 3, wsl 4, wsl 5]))⟩, ⟨true, (some (.tab [.fl .f32] x3))⟩, ⟨true, (some (.tab [.fl .f32] x4))⟩, ⟨true, (some (.tab sc0 x5))⟩, ⟨true, (some (.tab sc1 ((r38l1 (m + 1) x0 x1 x2 x3 x4 x5 x6).2)))⟩], 6, [5]⟩)].map fun (b, x) => (b, (x.1, frameOf 139 [6, 9] x.2.1, x.2.2))) :=
 (show evC Try.prog ext T22 L38_1 200 (loopN Try.f38 1) (loopTail ([1, 2, 6, 9, 11], []) [6, 9] [5] (sumK 139 [1, 2, 6, 9, 11] [6, 9] (q38l1 m))) (frameOf 139 [1, 2, 6, 9, 11] [.int .i64 x0, .int .i64 x1, .pointer (some ⟨0, 0, some 0⟩), .pointer (some ⟨1, 0, some 0⟩), .int .i64 x2]) ⟨[⟨true, (some (.cells [.slice none 0 0, .slice none 0 0, .slice none 0 0, .slice none 0 0]))⟩, ⟨true, (some (.cells [wsl 2, wsl 3, wsl 4, wsl 5]))⟩, ⟨true, (some (.tab [.fl .f32] x3))⟩, ⟨true, (some (.tab [.fl .f32] x4))⟩, ⟨true, (some (.tab sc0 x5))⟩, ⟨true, (some (.tab sc1 x6))⟩], 6, []⟩ = w38l1 (r38l1 m) x0 x1 x2 x3 x4 x5 x6 from by kernel_rfl).trans
 (show w38l1 (r38l1 m) x0 x1 x2 x3 x4 x5 x6 = a38l1 x0 x1 x2 x3 x4 x5 x6 (r38l1 (m + 1) x0 x1 x2 x3 x4 x5 x6) from by unfold w38l1; show _ = a38l1 x0 x1 x2 x3 x4 x5 x6 (b38l1 (r38l1 m) x0 x1 x2 x3 x4 x5 x6); unfold b38l1; exact (cond_both (a38l1 x0 x1 x2 x3 x4 x5 x6) _ (fun h0 => (cond_both (a38l1 x0 x1 x2 x3 x4 x5 x6) _ (fun h1 => (cond_t (ev_and2 h1) (cond_t h1 (cond_t (ev_and2 h1) (cond_both (a38l1 x0 x1 x2 x3 x4 x5 x6) _ (fun h2 => (cond_t (ev_and2 h2) (cond_t h2 (cond_t (ev_and2 h2) (v38l1 x0 x1 x2 x3 x4 x5 x6 ((r38l1 m) x0 x1 (IntKind.i64.wrap (x2 + 1)) x3 x4 x5 ((x6.modify (Int.toNat x2) (fun r => spl 4 r 0 [(r91 ((x6.getD (Int.toNat x2) []).getD 0 0) x0 x1)])).modify (Int.toNat x2) (fun r => spl 4 r 1 [(r91 (((x6.modify (Int.toNat x2) (fun r => spl 4 r 0 [(r91 ((x6.getD (Int.toNat x2) []).getD 0 0) x0 x1)])).getD (Int.toNat x2) []).getD 1 0) x0 x1)])))))))) (fun h2 => rfl)))))) (fun h1 => rfl))) (fun h0 => rfl)))
set_option maxRecDepth 100000 in
set_option maxHeartbeats 4000000 in
theorem qm38l1 : ∀ m, SumKOk Try.prog (loopN Try.f38 1) 139 [1, 2, 6, 9, 11] [6, 9] (q38l1 m) := by
  intro m
  induction m with
  | zero =>
    intro vals s x h1 h2 h3
    unfold q38l1 at h3; split at h3
    · rename_i h; split at h3
      · rename_i hc; obtain ⟨rfl, rfl, rfl, rfl, rfl, rfl, rfl, rfl, rfl, rfl, rfl, rfl, rfl, rfl, rfl, rfl, rfl, rfl⟩ := hc; exact absurd h3 (by simp [r38l1, firstT, Nat.beq])
      · exact noQ_ok _ _ _ h1 h2 h3
    · exact noQ_ok _ _ _ h1 h2 h3
  | succ m ih =>
    intro vals s x h1 h2 h3
    unfold q38l1 at h3; split at h3
    · rename_i h; split at h3
      · rename_i hc; obtain ⟨rfl, rfl, rfl, rfl, rfl, rfl, rfl, rfl, rfl, rfl, rfl, rfl, rfl, rfl, rfl, rfl, rfl, rfl⟩ := hc; exact sum_step ok22 extOk mixed (lok38_1.inner (by kernel_rfl)) ih h1 h2 h (e38l1 m _ _ _ _ _ _ _) rfl h3
      · exact noQ_ok _ _ _ h1 h2 h3
    · exact noQ_ok _ _ _ h1 h2 h3
noncomputable def Q38l1 : SumK := fun vals s => q38l1 (fuelOf vals s.h) vals s
theorem qok38l1 : SumKOk Try.prog (loopN Try.f38 1) 139 [1, 2, 6, 9, 11] [6, 9] Q38l1 := fuel_ok qm38l1 fuelOf
noncomputable def L38_2 : LoopT := addL L38_1 18 ([1, 2, 6, 9, 11], []) (sumK 139 [1, 2, 6, 9, 11] [6, 9] Q38l1)
theorem lok38_2 : LfOkF Try.prog L38_2 Try.f38 := lfOkF_add lok38_1 qok38l1 (by kernel_rfl) (by kernel_rfl) (by kernel_rfl)

/-- spec.SwapRooms -/
noncomputable def r38 (x0 x1 : Int) (x2 x3 x4 x5 : List (List Int)) : Nat × Int × List (List Int) × List (List Int) × List (List Int) × List (List Int) :=
 let c43 := (r38l0 (1000 + ((r59 x2 x3 x4 x5).2.2.2.2).length + ((r59 x2 x3 x4 x5).2.2.2.1).length + ((((r59 x2 x3 x4 x5).2.2.1).set (Int.toNat x0) [(((Int.toNat ((x3.getD (Int.toNat x1) []).getD 0 0)) : Nat) : Int)]).set (Int.toNat x1) [(((Int.toNat ((x3.getD (Int.toNat x0) []).getD 0 0)) : Nat) : Int)]).length + ((((r59 x2 x3 x4 x5).2.1).set (Int.toNat x0) [(((Int.toNat ((x2.getD (Int.toNat x1) []).getD 0 0)) : Nat) : Int)]).set (Int.toNat x1) [(((Int.toNat ((x2.getD (Int.toNat x0) []).getD 0 0)) : Nat) : Int)]).length) x0 x1 0 ((((r59 x2 x3 x4 x5).2.1).set (Int.toNat x0) [(((Int.toNat ((x2.getD (Int.toNat x1) []).getD 0 0)) : Nat) : Int)]).set (Int.toNat x1) [(((Int.toNat ((x2.getD (Int.toNat x0) []).getD 0 0)) : Nat) : Int)]) ((((r59 x2 x3 x4 x5).2.2.1).set (Int.toNat x0) [(((Int.toNat ((x3.getD (Int.toNat x1) []).getD 0 0)) : Nat) : Int)]).set (Int.toNat x1) [(((Int.toNat ((x3.getD (Int.toNat x0) []).getD 0 0)) : Nat) : Int)]) ((r59 x2 x3 x4 x5).2.2.2.1) ((r59 x2 x3 x4 x5).2.2.2.2))
 let c51 := (r38l1 (1000 + ((r59 x2 x3 x4 x5).2.2.2.2).length + (c43.2).length + ((((r59 x2 x3 x4 x5).2.2.1).set (Int.toNat x0) [(((Int.toNat ((x3.getD (Int.toNat x1) []).getD 0 0)) : Nat) : Int)]).set (Int.toNat x1) [(((Int.toNat ((x3.getD (Int.toNat x0) []).getD 0 0)) : Nat) : Int)]).length + ((((r59 x2 x3 x4 x5).2.1).set (Int.toNat x0) [(((Int.toNat ((x2.getD (Int.toNat x1) []).getD 0 0)) : Nat) : Int)]).set (Int.toNat x1) [(((Int.toNat ((x2.getD (Int.toNat x0) []).getD 0 0)) : Nat) : Int)]).length) x0 x1 0 ((((r59 x2 x3 x4 x5).2.1).set (Int.toNat x0) [(((Int.toNat ((x2.getD (Int.toNat x1) []).getD 0 0)) : Nat) : Int)]).set (Int.toNat x1) [(((Int.toNat ((x2.getD (Int.toNat x0) []).getD 0 0)) : Nat) : Int)]) ((((r59 x2 x3 x4 x5).2.2.1).set (Int.toNat x0) [(((Int.toNat ((x3.getD (Int.toNat x1) []).getD 0 0)) : Nat) : Int)]).set (Int.toNat x1) [(((Int.toNat ((x3.getD (Int.toNat x0) []).getD 0 0)) : Nat) : Int)]) (c43.2) ((r59 x2 x3 x4 x5).2.2.2.2))
 cond (Nat.beq ((r61 x2 x3 x4 x5).1) 0)
  (cond (!((r61 x2 x3 x4 x5).2))
   (0, 1, [], [], [], [])
   (cond (!(r87 x0 0 (IntKind.i64.wrap (((x2.length : Nat) : Int) - 1))))
    (0, 2, [], [], [], [])
    (cond (!(r87 x1 0 (IntKind.i64.wrap (((x2.length : Nat) : Int) - 1))))
     (0, 2, [], [], [], [])
     (cond (Nat.beq ((r59 x2 x3 x4 x5).1) 0)
      (cond ((decide ((0 : Int) ≤ x1)) && (Nat.blt (Int.toNat x1) x2.length))
       (cond ((decide ((0 : Int) ≤ x0)) && (Nat.blt (Int.toNat x0) (((r59 x2 x3 x4 x5).2.1).length)))
        (cond ((decide ((0 : Int) ≤ x0)) && (Nat.blt (Int.toNat x0) x2.length))
         (cond ((decide ((0 : Int) ≤ x1)) && (Nat.blt (Int.toNat x1) ((((r59 x2 x3 x4 x5).2.1).set (Int.toNat x0) [(((Int.toNat ((x2.getD (Int.toNat x1) []).getD 0 0)) : Nat) : Int)]).length)))
          (cond ((decide ((0 : Int) ≤ x1)) && (Nat.blt (Int.toNat x1) x3.length))
           (cond ((decide ((0 : Int) ≤ x0)) && (Nat.blt (Int.toNat x0) (((r59 x2 x3 x4 x5).2.2.1).length)))
            (cond ((decide ((0 : Int) ≤ x0)) && (Nat.blt (Int.toNat x0) x3.length))
             (cond ((decide ((0 : Int) ≤ x1)) && (Nat.blt (Int.toNat x1) ((((r59 x2 x3 x4 x5).2.2.1).set (Int.toNat x0) [(((Int.toNat ((x3.getD (Int.toNat x1) []).getD 0 0)) : Nat) : Int)]).length)))
              (cond (Nat.beq (c43.1) 0)
               (cond (Nat.beq (c51.1) 0)
                (1, 0, ((((r59 x2 x3 x4 x5).2.1).set (Int.toNat x0) [(((Int.toNat ((x2.getD (Int.toNat x1) []).getD 0 0)) : Nat) : Int)]).set (Int.toNat x1) [(((Int.toNat ((x2.getD (Int.toNat x0) []).getD 0 0)) : Nat) : Int)]), ((((r59 x2 x3 x4 x5).2.2.1).set (Int.toNat x0) [(((Int.toNat ((x3.getD (Int.toNat x1) []).getD 0 0)) : Nat) : Int)]).set (Int.toNat x1) [(((Int.toNat ((x3.getD (Int.toNat x0) []).getD 0 0)) : Nat) : Int)]), (c43.2), (c51.2))
                (2, 0, [], [], [], []))
               (2, 0, [], [], [], []))
              (2, 0, [], [], [], []))
             (2, 0, [], [], [], []))
            (2, 0, [], [], [], []))
           (2, 0, [], [], [], []))
          (2, 0, [], [], [], []))
         (2, 0, [], [], [], []))
        (2, 0, [], [], [], []))
       (2, 0, [], [], [], []))
      (2, 0, [], [], [], [])))))
  (2, 0, [], [], [], [])
noncomputable def a38 (x0 x1 : Int) (x2 x3 x4 x5 : List (List Int)) (p : Nat × Int × List (List Int) × List (List Int) × List (List Int) × List (List Int)) : Res := firstT [((Nat.beq (p.1) 0), .tuple #[.agg #[.slice none 0 0, .slice none 0 0, .slice none 0 0, .slice none 0 0], .int .i64 (p.2.1)], ⟨[⟨true, (some (.tab [.fl .f32] x2))⟩, ⟨true, (some (.tab [.fl .f32] x3))⟩, ⟨true, (some (.tab sc0 x4))⟩, ⟨true, (some (.tab sc1 x5))⟩], 4, []⟩), ((Nat.beq (p.1) 1), .tuple #[.agg #[wsl 4, wsl 5, wsl 6, wsl 7], .int .i64 0], ⟨[⟨true, (some (.tab [.fl .f32] x2))⟩, ⟨true, (some (.tab [.fl .f32] x3))⟩, ⟨true, (some (.tab sc0 x4))⟩, ⟨true, (some (.tab sc1 x5))⟩, ⟨true, (some (.tab [.fl .f32] (p.2.2.1)))⟩, ⟨true, (some (.tab [.fl .f32] (p.2.2.2.1)))⟩, ⟨true, (some (.tab sc0 (p.2.2.2.2.1)))⟩, ⟨true, (some (.tab sc1 (p.2.2.2.2.2)))⟩], 4, []⟩)]
noncomputable def w38 (x0 x1 : Int) (x2 x3 x4 x5 : List (List Int)) : Res :=
 let c43 := (r38l0 (1000 + ((r59 x2 x3 x4 x5).2.2.2.2).length + ((r59 x2 x3 x4 x5).2.2.2.1).length + ((((r59 x2 x3 x4 x5).2.2.1).set (Int.toNat x0) [(((Int.toNat ((x3.getD (Int.toNat x1) []).getD 0 0)) : Nat) : Int)]).set (Int.toNat x1) [(((Int.toNat ((x3.getD (Int.toNat x0) []).getD 0 0)) : Nat) : Int)]).length + ((((r59 x2 x3 x4 x5).2.1).set (Int.toNat x0) [(((Int.toNat ((x2.getD (Int.toNat x1) []).getD 0 0)) : Nat) : Int)]).set (Int.toNat x1) [(((Int.toNat ((x2.getD (Int.toNat x0) []).getD 0 0)) : Nat) : Int)]).length) x0 x1 0 ((((r59 x2 x3 x4 x5).2.1).set (Int.toNat x0) [(((Int.toNat ((x2.getD (Int.toNat x1) []).getD 0 0)) : Nat) : Int)]).set (Int.toNat x1) [(((Int.toNat ((x2.getD (Int.toNat x0) []).getD 0 0)) : Nat) : Int)]) ((((r59 x2 x3 x4 x5).2.2.1).set (Int.toNat x0) [(((Int.toNat ((x3.getD (Int.toNat x1) []).getD 0 0)) : Nat) : Int)]).set (Int.toNat x1) [(((Int.toNat ((x3.getD (Int.toNat x0) []).getD 0 0)) : Nat) : Int)]) ((r59 x2 x3 x4 x5).2.2.2.1) ((r59 x2 x3 x4 x5).2.2.2.2))
 let c51 := (r38l1 (1000 + ((r59 x2 x3 x4 x5).2.2.2.2).length + (c43.2).length + ((((r59 x2 x3 x4 x5).2.2.1).set (Int.toNat x0) [(((Int.toNat ((x3.getD (Int.toNat x1) []).getD 0 0)) : Nat) : Int)]).set (Int.toNat x1) [(((Int.toNat ((x3.getD (Int.toNat x0) []).getD 0 0)) : Nat) : Int)]).length + ((((r59 x2 x3 x4 x5).2.1).set (Int.toNat x0) [(((Int.toNat ((x2.getD (Int.toNat x1) []).getD 0 0)) : Nat) : Int)]).set (Int.toNat x1) [(((Int.toNat ((x2.getD (Int.toNat x0) []).getD 0 0)) : Nat) : Int)]).length) x0 x1 0 ((((r59 x2 x3 x4 x5).2.1).set (Int.toNat x0) [(((Int.toNat ((x2.getD (Int.toNat x1) []).getD 0 0)) : Nat) : Int)]).set (Int.toNat x1) [(((Int.toNat ((x2.getD (Int.toNat x0) []).getD 0 0)) : Nat) : Int)]) ((((r59 x2 x3 x4 x5).2.2.1).set (Int.toNat x0) [(((Int.toNat ((x3.getD (Int.toNat x1) []).getD 0 0)) : Nat) : Int)]).set (Int.toNat x1) [(((Int.toNat ((x3.getD (Int.toNat x0) []).getD 0 0)) : Nat) : Int)]) (c43.2) ((r59 x2 x3 x4 x5).2.2.2.2))
 (cond (Nat.beq ((r61 x2 x3 x4 x5).1) 0)
 (cond (!((r61 x2 x3 x4 x5).2))
  (a38 x0 x1 x2 x3 x4 x5 (0, 1, [], [], [], []))
  (cond (!(r87 x0 0 (IntKind.i64.wrap (((x2.length : Nat) : Int) - 1))))
   (a38 x0 x1 x2 x3 x4 x5 (0, 2, [], [], [], []))
   (cond (!(r87 x1 0 (IntKind.i64.wrap (((x2.length : Nat) : Int) - 1))))
    (a38 x0 x1 x2 x3 x4 x5 (0, 2, [], [], [], []))
    (cond (Nat.beq ((r59 x2 x3 x4 x5).1) 0)
     (cond ((decide ((0 : Int) ≤ x1)) && (Nat.blt (Int.toNat x1) x2.length))
      (cond (Nat.blt (Int.toNat x1) x2.length)
       (cond ((decide ((0 : Int) ≤ x0)) && (Nat.blt (Int.toNat x0) (((r59 x2 x3 x4 x5).2.1).length)))
        (cond (Nat.blt (Int.toNat x0) (((r59 x2 x3 x4 x5).2.1).length))
         (cond ((decide ((0 : Int) ≤ x0)) && (Nat.blt (Int.toNat x0) x2.length))
          (cond (Nat.blt (Int.toNat x0) x2.length)
           (cond ((decide ((0 : Int) ≤ x1)) && (Nat.blt (Int.toNat x1) ((((r59 x2 x3 x4 x5).2.1).set (Int.toNat x0) [(((Int.toNat ((x2.getD (Int.toNat x1) []).getD 0 0)) : Nat) : Int)]).length)))
            (cond (Nat.blt (Int.toNat x1) ((((r59 x2 x3 x4 x5).2.1).set (Int.toNat x0) [(((Int.toNat ((x2.getD (Int.toNat x1) []).getD 0 0)) : Nat) : Int)]).length))
             (cond ((decide ((0 : Int) ≤ x1)) && (Nat.blt (Int.toNat x1) x3.length))
              (cond (Nat.blt (Int.toNat x1) x3.length)
               (cond ((decide ((0 : Int) ≤ x0)) && (Nat.blt (Int.toNat x0) (((r59 x2 x3 x4 x5).2.2.1).length)))
                (cond (Nat.blt (Int.toNat x0) (((r59 x2 x3 x4 x5).2.2.1).length))
                 (cond ((decide ((0 : Int) ≤ x0)) && (Nat.blt (Int.toNat x0) x3.length))
                  (cond (Nat.blt (Int.toNat x0) x3.length)
                   (cond ((decide ((0 : Int) ≤ x1)) && (Nat.blt (Int.toNat x1) ((((r59 x2 x3 x4 x5).2.2.1).set (Int.toNat x0) [(((Int.toNat ((x3.getD (Int.toNat x1) []).getD 0 0)) : Nat) : Int)]).length)))
                    (cond (Nat.blt (Int.toNat x1) ((((r59 x2 x3 x4 x5).2.2.1).set (Int.toNat x0) [(((Int.toNat ((x3.getD (Int.toNat x1) []).getD 0 0)) : Nat) : Int)]).length))
                     (cond (Nat.beq (c43.1) 0)
                      (cond (Nat.beq (c51.1) 0)
                       (a38 x0 x1 x2 x3 x4 x5 (1, 0, ((((r59 x2 x3 x4 x5).2.1).set (Int.toNat x0) [(((Int.toNat ((x2.getD (Int.toNat x1) []).getD 0 0)) : Nat) : Int)]).set (Int.toNat x1) [(((Int.toNat ((x2.getD (Int.toNat x0) []).getD 0 0)) : Nat) : Int)]), ((((r59 x2 x3 x4 x5).2.2.1).set (Int.toNat x0) [(((Int.toNat ((x3.getD (Int.toNat x1) []).getD 0 0)) : Nat) : Int)]).set (Int.toNat x1) [(((Int.toNat ((x3.getD (Int.toNat x0) []).getD 0 0)) : Nat) : Int)]), (c43.2), (c51.2)))
                       none)
                      none)
                     none)
                    none)
                   none)
                  none)
                 none)
                none)
               none)
              none)
             none)
            none)
           none)
          none)
         none)
        none)
       none)
      none)
     none))))
 none)
set_option maxRecDepth 100000 in
set_option maxHeartbeats 4000000 in
theorem e38 (x0 x1 : Int) (x2 x3 x4 x5 : List (List Int)) : evFn Try.prog ext T22 L38_2 200 Try.f38 [.agg #[wsl 0, wsl 1, wsl 2, wsl 3], .int .i64 x0, .int .i64 x1] ⟨[⟨true, (some (.tab [.fl .f32] x2))⟩, ⟨true, (some (.tab [.fl .f32] x3))⟩, ⟨true, (some (.tab sc0 x4))⟩, ⟨true, (some (.tab sc1 x5))⟩], 4, []⟩ = firstT [((Nat.beq ((r38 x0 x1 x2 x3 x4 x5).1) 0), .tuple #[.agg #[.slice none 0 0, .slice none 0 0, .slice none 0 0, .slice none 0 0], .int .i64 ((r38 x0 x1 x2 x3 x4 x5).2.1)], ⟨[⟨true, (some (.tab [.fl .f32] x2))⟩, ⟨true, (some (.tab [.fl .f32] x3))⟩, ⟨true, (some (.tab sc0 x4))⟩, ⟨true, (some (.tab sc1 x5))⟩], 4, []⟩), ((Nat.beq ((r38 x0 x1 x2 x3 x4 x5).1) 1), .tuple #[.agg #[wsl 4, wsl 5, wsl 6, wsl 7], .int .i64 0], ⟨[⟨true, (some (.tab [.fl .f32] x2))⟩, ⟨true, (some (.tab [.fl .f32] x3))⟩, ⟨true, (some (.tab sc0 x4))⟩, ⟨true, (some (.tab sc1 x5))⟩, ⟨true, (some (.tab [.fl .f32] ((r38 x0 x1 x2 x3 x4 x5).2.2.1)))⟩, ⟨true, (some (.tab [.fl .f32] ((r38 x0 x1 x2 x3 x4 x5).2.2.2.1)))⟩, ⟨true, (some (.tab sc0 ((r38 x0 x1 x2 x3 x4 x5).2.2.2.2.1)))⟩, ⟨true, (some (.tab sc1 ((r38 x0 x1 x2 x3 x4 x5).2.2.2.2.2)))⟩], 4, []⟩)] :=
 (show evFn Try.prog ext T22 L38_2 200 Try.f38 [.agg #[wsl 0, wsl 1, wsl 2, wsl 3], .int .i64 x0, .int .i64 x1] ⟨[⟨true, (some (.tab [.fl .f32] x2))⟩, ⟨true, (some (.tab [.fl .f32] x3))⟩, ⟨true, (some (.tab sc0 x4))⟩, ⟨true, (some (.tab sc1 x5))⟩], 4, []⟩ = w38 x0 x1 x2 x3 x4 x5 from by kernel_rfl).trans
 (show w38 x0 x1 x2 x3 x4 x5 = a38 x0 x1 x2 x3 x4 x5 (r38 x0 x1 x2 x3 x4 x5) from by unfold w38 r38; exact (cond_both (a38 x0 x1 x2 x3 x4 x5) _ (fun h0 => (cond_both (a38 x0 x1 x2 x3 x4 x5) _ (fun h1 => rfl) (fun h1 => (cond_both (a38 x0 x1 x2 x3 x4 x5) _ (fun h2 => rfl) (fun h2 => (cond_both (a38 x0 x1 x2 x3 x4 x5) _ (fun h3 => rfl) (fun h3 => (cond_both (a38 x0 x1 x2 x3 x4 x5) _ (fun h4 => (cond_both (a38 x0 x1 x2 x3 x4 x5) _ (fun h5 => (cond_t (ev_and2 h5) (cond_both (a38 x0 x1 x2 x3 x4 x5) _ (fun h6 => (cond_t (ev_and2 h6) (cond_both (a38 x0 x1 x2 x3 x4 x5) _ (fun h7 => (cond_t (ev_and2 h7) (cond_both (a38 x0 x1 x2 x3 x4 x5) _ (fun h8 => (cond_t (ev_and2 h8) (cond_both (a38 x0 x1 x2 x3 x4 x5) _ (fun h9 => (cond_t (ev_and2 h9) (cond_both (a38 x0 x1 x2 x3 x4 x5) _ (fun h10 => (cond_t (ev_and2 h10) (cond_both (a38 x0 x1 x2 x3 x4 x5) _ (fun h11 => (cond_t (ev_and2 h11) (cond_both (a38 x0 x1 x2 x3 x4 x5) _ (fun h12 => (cond_t (ev_and2 h12) (cond_app (a38 x0 x1 x2 x3 x4 x5) _ (cond_app (a38 x0 x1 x2 x3 x4 x5) _ rfl rfl) rfl))) (fun h12 => rfl)))) (fun h11 => rfl)))) (fun h10 => rfl)))) (fun h9 => rfl)))) (fun h8 => rfl)))) (fun h7 => rfl)))) (fun h6 => rfl)))) (fun h5 => rfl))) (fun h4 => rfl))))))))) (fun h0 => rfl)))
noncomputable def s38 (args : List Value) (s : St) : List (Bool × Value × St) :=
 match args, s.h with
 | [.agg ⟨[.iface f0 .nilIface, .iface f1 .nilIface, .iface f2 .nilIface, .iface f3 .nilIface]⟩, .int .i64 x0, .int .i64 x1], [⟨true, some (.tab [.fl .f32] x2)⟩, ⟨true, some (.tab [.fl .f32] x3)⟩, ⟨true, some (.tab [.int .i64, .int .i64, .fl .f32, .fl .f32, .fl .f32, .fl .f32, .fl .f32, .fl .f32] x4)⟩, ⟨true, some (.tab [.int .i64, .int .i64, .fl .f32, .fl .f32] x5)⟩] => if f0 = 0 ∧ f1 = 1 ∧ f2 = 2 ∧ f3 = 3 then [((Nat.beq ((r38 x0 x1 x2 x3 x4 x5).1) 0), .tuple #[.agg #[.slice none 0 0, .slice none 0 0, .slice none 0 0, .slice none 0 0], .int .i64 ((r38 x0 x1 x2 x3 x4 x5).2.1)], ⟨[⟨true, (some (.tab [.fl .f32] x2))⟩, ⟨true, (some (.tab [.fl .f32] x3))⟩, ⟨true, (some (.tab sc0 x4))⟩, ⟨true, (some (.tab sc1 x5))⟩], 4, []⟩), ((Nat.beq ((r38 x0 x1 x2 x3 x4 x5).1) 1), .tuple #[.agg #[wsl 4, wsl 5, wsl 6, wsl 7], .int .i64 0], ⟨[⟨true, (some (.tab [.fl .f32] x2))⟩, ⟨true, (some (.tab [.fl .f32] x3))⟩, ⟨true, (some (.tab sc0 x4))⟩, ⟨true, (some (.tab sc1 x5))⟩, ⟨true, (some (.tab [.fl .f32] ((r38 x0 x1 x2 x3 x4 x5).2.2.1)))⟩, ⟨true, (some (.tab [.fl .f32] ((r38 x0 x1 x2 x3 x4 x5).2.2.2.1)))⟩, ⟨true, (some (.tab sc0 ((r38 x0 x1 x2 x3 x4 x5).2.2.2.2.1)))⟩, ⟨true, (some (.tab sc1 ((r38 x0 x1 x2 x3 x4 x5).2.2.2.2.2)))⟩], 4, []⟩)] else T22 38 args s
 | _, _ => T22 38 args s
noncomputable def T23 : CallF := addF T22 38 s38
set_option maxRecDepth 100000 in
set_option maxHeartbeats 4000000 in
theorem ok23 : CfOk Try.prog T23 := by
  refine cfOk_add ok22 fun args s r s' h1 h2 h3 => ?_
  unfold s38 at h3; split at h3
  · rename_i h; split at h3
    · rename_i hc; obtain ⟨rfl, rfl, rfl, rfl⟩ := hc; exact callOk ok22 Try.func38 h1 h2 h lok38_2.body (e38 _ _ _ _ _ _) rfl h3
    · exact ok22 _ _ _ _ _ h1 h2 h3
  · exact ok22 _ _ _ _ _ h1 h2 h3

/-- impl.between -/
noncomputable def r115 (x0 x1 x2 : Nat) : Bool :=
 cond (fgt .f32 x0 x1 || feq .f32 x0 x1)
  ((flt .f32 x0 x2 || feq .f32 x0 x2))
  (false)
noncomputable def a115 (x0 x1 x2 : Nat) (p : Bool) : Res := firstT [(true, .bool p, st0)]
noncomputable def w115 (x0 x1 x2 : Nat) : Res :=
 (cond (fgt .f32 x0 x1 || feq .f32 x0 x1)
 (a115 x0 x1 x2 ((flt .f32 x0 x2 || feq .f32 x0 x2)))
 (a115 x0 x1 x2 (false)))
set_option maxRecDepth 100000 in
set_option maxHeartbeats 4000000 in
theorem e115 (x0 x1 x2 : Nat) : evFn Try.prog ext T23 noL 200 Try.f115 [.float .f32 x0, .float .f32 x1, .float .f32 x2] st0 = firstT [(true, .bool (r115 x0 x1 x2), st0)] :=
 (show evFn Try.prog ext T23 noL 200 Try.f115 [.float .f32 x0, .float .f32 x1, .float .f32 x2] st0 = w115 x0 x1 x2 from by kernel_rfl).trans
 (show w115 x0 x1 x2 = a115 x0 x1 x2 (r115 x0 x1 x2) from by unfold w115 r115; exact (cond_app (a115 x0 x1 x2) _ rfl rfl))
noncomputable def s115 (args : List Value) (s : St) : List (Bool × Value × St) :=
 match args, s.h with
 | [.float .f32 x0, .float .f32 x1, .float .f32 x2], [] => [(true, .bool (r115 x0 x1 x2), st0)]
 | _, _ => T23 115 args s
noncomputable def T24 : CallF := addF T23 115 s115
set_option maxRecDepth 100000 in
set_option maxHeartbeats 4000000 in
theorem ok24 : CfOk Try.prog T24 := by
  refine cfOk_add ok23 fun args s r s' h1 h2 h3 => ?_
  unfold s115 at h3; split at h3
  · rename_i h; exact callOk ok23 Try.func115 h1 h2 h (lfOkF_no _ _).body (e115 _ _ _) rfl h3
  · exact ok23 _ _ _ _ _ h1 h2 h3

/-- impl.isHeat -/
noncomputable def r68 (x0 : Nat) : Bool :=
 ((r115 x0 3262119936 1128792064))
noncomputable def a68 (x0 : Nat) (p : Bool) : Res := firstT [(true, .bool p, st0)]
noncomputable def w68 (x0 : Nat) : Res :=
 (a68 x0 ((r115 x0 3262119936 1128792064)))
set_option maxRecDepth 100000 in
set_option maxHeartbeats 4000000 in
theorem e68 (x0 : Nat) : evFn Try.prog ext T24 noL 200 Try.f68 [.float .f32 x0] st0 = firstT [(true, .bool (r68 x0), st0)] :=
 (show evFn Try.prog ext T24 noL 200 Try.f68 [.float .f32 x0] st0 = w68 x0 from by kernel_rfl).trans
 (show w68 x0 = a68 x0 (r68 x0) from by unfold w68 r68; exact rfl)
noncomputable def s68 (args : List Value) (s : St) : List (Bool × Value × St) :=
 match args, s.h with
 | [.float .f32 x0], [] => [(true, .bool (r68 x0), st0)]
 | _, _ => T24 68 args s
noncomputable def T25 : CallF := addF T24 68 s68
set_option maxRecDepth 100000 in
set_option maxHeartbeats 4000000 in
theorem ok25 : CfOk Try.prog T25 := by
  refine cfOk_add ok24 fun args s r s' h1 h2 h3 => ?_
  unfold s68 at h3; split at h3
  · rename_i h; exact callOk ok24 Try.func68 h1 h2 h (lfOkF_no _ _).body (e68 _) rfl h3
  · exact ok24 _ _ _ _ _ h1 h2 h3

/-- math.IsNaN -/
noncomputable def r116 (x0 : Nat) : Bool :=
 ((!feq .f64 x0 x0))
noncomputable def a116 (x0 : Nat) (p : Bool) : Res := firstT [(true, .bool p, st0)]
noncomputable def w116 (x0 : Nat) : Res :=
 (a116 x0 ((!feq .f64 x0 x0)))
set_option maxRecDepth 100000 in
set_option maxHeartbeats 4000000 in
theorem e116 (x0 : Nat) : evFn Try.prog ext T25 noL 200 Try.f116 [.float .f64 x0] st0 = firstT [(true, .bool (r116 x0), st0)] :=
 (show evFn Try.prog ext T25 noL 200 Try.f116 [.float .f64 x0] st0 = w116 x0 from by kernel_rfl).trans
 (show w116 x0 = a116 x0 (r116 x0) from by unfold w116 r116; exact rfl)
noncomputable def s116 (args : List Value) (s : St) : List (Bool × Value × St) :=
 match args, s.h with
 | [.float .f64 x0], [] => [(true, .bool (r116 x0), st0)]
 | _, _ => T25 116 args s
noncomputable def T26 : CallF := addF T25 116 s116
set_option maxRecDepth 100000 in
set_option maxHeartbeats 4000000 in
theorem ok26 : CfOk Try.prog T26 := by
  refine cfOk_add ok25 fun args s r s' h1 h2 h3 => ?_
  unfold s116 at h3; split at h3
  · rename_i h; exact callOk ok25 Try.func116 h1 h2 h (lfOkF_no _ _).body (e116 _) rfl h3
  · exact ok25 _ _ _ _ _ h1 h2 h3

/-- math.Abs -/
noncomputable def r126 (x0 : Nat) : Nat :=
 cond (!isN .f64 x0)
  ((Int.toNat (bits .andNot .u64 ((x0 : Nat) : Int) 9223372036854775808)))
  (9221120237041090560)
noncomputable def a126 (x0 : Nat) (p : Nat) : Res := firstT [(true, .float .f64 p, st0)]
noncomputable def w126 (x0 : Nat) : Res :=
 (cond (!isN .f64 x0)
 (a126 x0 ((Int.toNat (bits .andNot .u64 ((x0 : Nat) : Int) 9223372036854775808))))
 (a126 x0 (9221120237041090560)))
set_option maxRecDepth 100000 in
set_option maxHeartbeats 4000000 in
theorem e126 (x0 : Nat) : evFn Try.prog ext T26 noL 200 Try.f126 [.float .f64 x0] st0 = firstT [(true, .float .f64 (r126 x0), st0)] :=
 (show evFn Try.prog ext T26 noL 200 Try.f126 [.float .f64 x0] st0 = w126 x0 from by kernel_rfl).trans
 (show w126 x0 = a126 x0 (r126 x0) from by unfold w126 r126; exact (cond_app (a126 x0) _ rfl rfl))
noncomputable def s126 (args : List Value) (s : St) : List (Bool × Value × St) :=
 match args, s.h with
 | [.float .f64 x0], [] => [(true, .float .f64 (r126 x0), st0)]
 | _, _ => T26 126 args s
noncomputable def T27 : CallF := addF T26 126 s126
set_option maxRecDepth 100000 in
set_option maxHeartbeats 4000000 in
theorem ok27 : CfOk Try.prog T27 := by
  refine cfOk_add ok26 fun args s r s' h1 h2 h3 => ?_
  unfold s126 at h3; split at h3
  · rename_i h; exact callOk ok26 Try.func126 h1 h2 h (lfOkF_no _ _).body (e126 _) rfl h3
  · exact ok26 _ _ _ _ _ h1 h2 h3

/-- math.IsInf -/
noncomputable def r117 (x0 : Nat) (x1 : Int) : Bool :=
 cond ((x1 : Int) == 0)
  ((fgt .f64 (r126 x0) 9218868437227405311))
  (cond (decide ((x1 : Int) < 0))
   ((fgt .f64 (fneg .f64 x0) 9218868437227405311))
   ((fgt .f64 x0 9218868437227405311)))
noncomputable def a117 (x0 : Nat) (x1 : Int) (p : Bool) : Res := firstT [(true, .bool p, st0)]
noncomputable def w117 (x0 : Nat) (x1 : Int) : Res :=
 (cond ((x1 : Int) == 0)
 (a117 x0 x1 ((fgt .f64 (r126 x0) 9218868437227405311)))
 (cond (decide ((x1 : Int) < 0))
  (a117 x0 x1 ((fgt .f64 (fneg .f64 x0) 9218868437227405311)))
  (a117 x0 x1 ((fgt .f64 x0 9218868437227405311)))))
set_option maxRecDepth 100000 in
set_option maxHeartbeats 4000000 in
theorem e117 (x0 : Nat) (x1 : Int) : evFn Try.prog ext T27 noL 200 Try.f117 [.float .f64 x0, .int .i64 x1] st0 = firstT [(true, .bool (r117 x0 x1), st0)] :=
 (show evFn Try.prog ext T27 noL 200 Try.f117 [.float .f64 x0, .int .i64 x1] st0 = w117 x0 x1 from by kernel_rfl).trans
 (show w117 x0 x1 = a117 x0 x1 (r117 x0 x1) from by unfold w117 r117; exact (cond_app (a117 x0 x1) _ rfl (cond_app (a117 x0 x1) _ rfl rfl)))
noncomputable def s117 (args : List Value) (s : St) : List (Bool × Value × St) :=
 match args, s.h with
 | [.float .f64 x0, .int .i64 x1], [] => [(true, .bool (r117 x0 x1), st0)]
 | _, _ => T27 117 args s
noncomputable def T28 : CallF := addF T27 117 s117
set_option maxRecDepth 100000 in
set_option maxHeartbeats 4000000 in
theorem ok28 : CfOk Try.prog T28 := by
  refine cfOk_add ok27 fun args s r s' h1 h2 h3 => ?_
  unfold s117 at h3; split at h3
  · rename_i h; exact callOk ok27 Try.func117 h1 h2 h (lfOkF_no _ _).body (e117 _ _) rfl h3
  · exact ok27 _ _ _ _ _ h1 h2 h3

/-- impl.isFinite -/
noncomputable def r70 (x0 : Nat) : Bool :=
 cond (r116 (widen x0))
  (false)
  (cond (r117 (widen x0) 0)
   (false)
   (true))
noncomputable def a70 (x0 : Nat) (p : Bool) : Res := firstT [(true, .bool p, ⟨[⟨true, (some (.tab [.fl .f32] ([[((x0 : Nat) : Int)]] : List (List Int))))⟩], 1, []⟩)]
noncomputable def w70 (x0 : Nat) : Res :=
 (cond (r116 (widen x0))
 (a70 x0 (false))
 (cond (r117 (widen x0) 0)
  (a70 x0 (false))
  (a70 x0 (true))))
set_option maxRecDepth 100000 in
set_option maxHeartbeats 4000000 in
theorem e70 (x0 : Nat) : evFn Try.prog ext T28 noL 200 Try.f70 [.slice (some ⟨0, 0, some 0⟩) 1 1] ⟨[⟨true, (some (.tab [.fl .f32] ([[((x0 : Nat) : Int)]] : List (List Int))))⟩], 1, []⟩ = firstT [(true, .bool (r70 x0), ⟨[⟨true, (some (.tab [.fl .f32] ([[((x0 : Nat) : Int)]] : List (List Int))))⟩], 1, []⟩)] :=
 (show evFn Try.prog ext T28 noL 200 Try.f70 [.slice (some ⟨0, 0, some 0⟩) 1 1] ⟨[⟨true, (some (.tab [.fl .f32] ([[((x0 : Nat) : Int)]] : List (List Int))))⟩], 1, []⟩ = w70 x0 from by kernel_rfl).trans
 (show w70 x0 = a70 x0 (r70 x0) from by unfold w70 r70; exact (cond_app (a70 x0) _ rfl (cond_app (a70 x0) _ rfl rfl)))
noncomputable def s70 (args : List Value) (s : St) : List (Bool × Value × St) :=
 match args, s.h with
 | [.slice (some ⟨f0, f1, some f2⟩) f3 f4], [⟨true, some (.tab [.fl .f32] [[.ofNat x0]])⟩] => if f0 = 0 ∧ f1 = 0 ∧ f2 = 0 ∧ f3 = 1 ∧ f4 = 1 then [(true, .bool (r70 x0), ⟨[⟨true, (some (.tab [.fl .f32] ([[((x0 : Nat) : Int)]] : List (List Int))))⟩], 1, []⟩)] else T28 70 args s
 | _, _ => T28 70 args s
noncomputable def T29 : CallF := addF T28 70 s70
set_option maxRecDepth 100000 in
set_option maxHeartbeats 4000000 in
theorem ok29 : CfOk Try.prog T29 := by
  refine cfOk_add ok28 fun args s r s' h1 h2 h3 => ?_
  unfold s70 at h3; split at h3
  · rename_i h; split at h3
    · rename_i hc; obtain ⟨rfl, rfl, rfl, rfl, rfl⟩ := hc; exact callOk ok28 Try.func70 h1 h2 h (lfOkF_no _ _).body (e70 _) rfl h3
    · exact ok28 _ _ _ _ _ h1 h2 h3
  · exact ok28 _ _ _ _ _ h1 h2 h3

/-- impl.IsAmount -/
noncomputable def r111 (x0 : Nat) : Bool :=
 cond (r70 x0)
  (cond (fgt .f32 x0 0 || feq .f32 x0 0)
   ((((Int.fdiv ((x0 : Nat) : Int) (2 ^ (min (31 : Int).toNat (IntKind.bits .u32)))) : Int) == 0))
   (false))
  (false)
noncomputable def a111 (x0 : Nat) (p : Bool) : Res := firstT [(true, .bool p, st0)]
noncomputable def w111 (x0 : Nat) : Res :=
 (cond (r70 x0)
 (cond (fgt .f32 x0 0 || feq .f32 x0 0)
  (cond (!isN .f32 x0)
   (a111 x0 ((((Int.fdiv ((x0 : Nat) : Int) (2 ^ (min (31 : Int).toNat (IntKind.bits .u32)))) : Int) == 0)))
   none)
  (a111 x0 (false)))
 (a111 x0 (false)))
set_option maxRecDepth 100000 in
set_option maxHeartbeats 4000000 in
theorem e111 (x0 : Nat) : evFn Try.prog ext T29 noL 200 Try.f111 [.float .f32 x0] st0 = firstT [(true, .bool (r111 x0), st0)] :=
 (show evFn Try.prog ext T29 noL 200 Try.f111 [.float .f32 x0] st0 = w111 x0 from by kernel_rfl).trans
 (show w111 x0 = a111 x0 (r111 x0) from by unfold w111 r111; exact (cond_both (a111 x0) _ (fun h0 => (cond_both (a111 x0) _ (fun h1 => (cond_t (ev_not1 (ev_or h1 (fun hq0 => (ev_gt1 hq0)) (fun hq0 => (ev_eq1 hq0)))) rfl)) (fun h1 => rfl))) (fun h0 => rfl)))
noncomputable def s111 (args : List Value) (s : St) : List (Bool × Value × St) :=
 match args, s.h with
 | [.float .f32 x0], [] => [(true, .bool (r111 x0), st0)]
 | _, _ => T29 111 args s
noncomputable def T30 : CallF := addF T29 111 s111
set_option maxRecDepth 100000 in
set_option maxHeartbeats 4000000 in
theorem ok30 : CfOk Try.prog T30 := by
  refine cfOk_add ok29 fun args s r s' h1 h2 h3 => ?_
  unfold s111 at h3; split at h3
  · rename_i h; exact callOk ok29 Try.func111 h1 h2 h (lfOkF_no _ _).body (e111 _) rfl h3
  · exact ok29 _ _ _ _ _ h1 h2 h3

/-- impl.isStore -/
noncomputable def r113 (x0 : Nat) : Bool :=
 cond (r111 x0)
  ((r115 x0 1065353216 1176256512))
  (false)
noncomputable def a113 (x0 : Nat) (p : Bool) : Res := firstT [(true, .bool p, st0)]
noncomputable def w113 (x0 : Nat) : Res :=
 (cond (r111 x0)
 (a113 x0 ((r115 x0 1065353216 1176256512)))
 (a113 x0 (false)))
set_option maxRecDepth 100000 in
set_option maxHeartbeats 4000000 in
theorem e113 (x0 : Nat) : evFn Try.prog ext T30 noL 200 Try.f113 [.float .f32 x0] st0 = firstT [(true, .bool (r113 x0), st0)] :=
 (show evFn Try.prog ext T30 noL 200 Try.f113 [.float .f32 x0] st0 = w113 x0 from by kernel_rfl).trans
 (show w113 x0 = a113 x0 (r113 x0) from by unfold w113 r113; exact (cond_app (a113 x0) _ rfl rfl))
noncomputable def s113 (args : List Value) (s : St) : List (Bool × Value × St) :=
 match args, s.h with
 | [.float .f32 x0], [] => [(true, .bool (r113 x0), st0)]
 | _, _ => T30 113 args s
noncomputable def T31 : CallF := addF T30 113 s113
set_option maxRecDepth 100000 in
set_option maxHeartbeats 4000000 in
theorem ok31 : CfOk Try.prog T31 := by
  refine cfOk_add ok30 fun args s r s' h1 h2 h3 => ?_
  unfold s113 at h3; split at h3
  · rename_i h; exact callOk ok30 Try.func113 h1 h2 h (lfOkF_no _ _).body (e113 _) rfl h3
  · exact ok30 _ _ _ _ _ h1 h2 h3

/-- impl.ValidFlat, loop 0: one round -/
noncomputable def b65l0 (ih : Int → Int → Int → List (List Int) → List (List Int) → List (List Int) → List (List Int) → Nat) (x0 x1 x2 : Int) (x3 x4 x5 x6 : List (List Int)) : Nat :=
 cond (decide ((x2 : Int) < x1))
  (cond ((decide ((0 : Int) ≤ x2)) && (Nat.blt (Int.toNat x2) x3.length))
   (cond (!(r68 (Int.toNat ((x3.getD (Int.toNat x2) []).getD 0 0))))
    (0)
    (cond ((decide ((0 : Int) ≤ x2)) && (Nat.blt (Int.toNat x2) x4.length))
     (cond (!(r113 (Int.toNat ((x4.getD (Int.toNat x2) []).getD 0 0))))
      (0)
      (ih x0 x1 (IntKind.i64.wrap (x2 + 1)) x3 x4 x5 x6))
     (2)))
   (2))
  (1)
noncomputable def r65l0 : Nat → Int → Int → Int → List (List Int) → List (List Int) → List (List Int) → List (List Int) → Nat
 | 0 => fun _ _ _ _ _ _ _ => (2)
 | m + 1 => b65l0 (r65l0 m)
noncomputable def a65l0 (x0 x1 x2 : Int) (x3 x4 x5 x6 : List (List Int)) (p : Nat) : Option (Fin' × List Value × St) := firstT ([((Nat.beq p 0), .ret, [.pointer (some ⟨0, 0, some 0⟩), .bool false, .int .i64 x0], ⟨[⟨true, (some (.cells [wsl 1, wsl 2, wsl 3, wsl 4]))⟩, ⟨true, (some (.tab [.fl .f32] x3))⟩, ⟨true, (some (.tab [.fl .f32] x4))⟩, ⟨true, (some (.tab sc0 x5))⟩, ⟨true, (some (.tab sc1 x6))⟩], 5, []⟩), ((Nat.beq p 1), .exit 0, [.pointer (some ⟨0, 0, some 0⟩), anyV, .int .i64 x0], ⟨[⟨true, (some (.cells [wsl 1, wsl 2, wsl 3, wsl 4]))⟩, ⟨true, (some (.tab [.fl .f32] x3))⟩, ⟨true, (some (.tab [.fl .f32] x4))⟩, ⟨true, (some (.tab sc0 x5))⟩, ⟨true, (some (.tab sc1 x6))⟩], 5, []⟩)].map fun (b, x) => (b, (x.1, frameOf 129 [1, 2, 3] x.2.1, x.2.2)))
noncomputable def u65l0 (x0 x1 x2 : Int) (x3 x4 x5 x6 : List (List Int)) (p : Nat) : Option (Fin' × List Value × St) := alts ([((Nat.beq p 0), .ret, [.pointer (some ⟨0, 0, some 0⟩), .bool false, .int .i64 x0], ⟨[⟨true, (some (.cells [wsl 1, wsl 2, wsl 3, wsl 4]))⟩, ⟨true, (some (.tab [.fl .f32] x3))⟩, ⟨true, (some (.tab [.fl .f32] x4))⟩, ⟨true, (some (.tab sc0 x5))⟩, ⟨true, (some (.tab sc1 x6))⟩], 5, []⟩), ((Nat.beq p 1), .exit 0, [.pointer (some ⟨0, 0, some 0⟩), anyV, .int .i64 x0], ⟨[⟨true, (some (.cells [wsl 1, wsl 2, wsl 3, wsl 4]))⟩, ⟨true, (some (.tab [.fl .f32] x3))⟩, ⟨true, (some (.tab [.fl .f32] x4))⟩, ⟨true, (some (.tab sc0 x5))⟩, ⟨true, (some (.tab sc1 x6))⟩], 5, []⟩)].map fun (b, x) => (b, (x.1, frameOf 129 [1, 2, 3] x.2.1, x.2.2))) some
theorem v65l0 (x0 x1 x2 : Int) (x3 x4 x5 x6 : List (List Int)) (p : Nat) : u65l0 x0 x1 x2 x3 x4 x5 x6 p = a65l0 x0 x1 x2 x3 x4 x5 x6 p := alts_first _
noncomputable def q65l0 (m : Nat) : SumK := fun vals s =>
 match vals, s.h with
 | [.pointer (some ⟨f0, f1, some f2⟩), .int .i64 x0, .int .i64 x1, .int .i64 x2], [⟨true, some (.cells [.iface f3 .nilIface, .iface f4 .nilIface, .iface f5 .nilIface, .iface f6 .nilIface])⟩, ⟨true, some (.tab [.fl .f32] x3)⟩, ⟨true, some (.tab [.fl .f32] x4)⟩, ⟨true, some (.tab [.int .i64, .int .i64, .fl .f32, .fl .f32, .fl .f32, .fl .f32, .fl .f32, .fl .f32] x5)⟩, ⟨true, some (.tab [.int .i64, .int .i64, .fl .f32, .fl .f32] x6)⟩] => if f0 = 0 ∧ f1 = 0 ∧ f2 = 0 ∧ f3 = 1 ∧ f4 = 2 ∧ f5 = 3 ∧ f6 = 4 then [((Nat.beq (r65l0 m x0 x1 x2 x3 x4 x5 x6) 0), .ret, [.pointer (some ⟨0, 0, some 0⟩), .bool false, .int .i64 x0], ⟨[⟨true, (some (.cells [wsl 1, wsl 2, wsl 3, wsl 4]))⟩, ⟨true, (some (.tab [.fl .f32] x3))⟩, ⟨true, (some (.tab [.fl .f32] x4))⟩, ⟨true, (some (.tab sc0 x5))⟩, ⟨true, (some (.tab sc1 x6))⟩], 5, []⟩), ((Nat.beq (r65l0 m x0 x1 x2 x3 x4 x5 x6) 1), .exit 0, [.pointer (some ⟨0, 0, some 0⟩), anyV, .int .i64 x0], ⟨[⟨true, (some (.cells [wsl 1, wsl 2, wsl 3, wsl 4]))⟩, ⟨true, (some (.tab [.fl .f32] x3))⟩, ⟨true, (some (.tab [.fl .f32] x4))⟩, ⟨true, (some (.tab sc0 x5))⟩, ⟨true, (some (.tab sc1 x6))⟩], 5, []⟩)] else noQ vals s
 | _, _ => noQ vals s
noncomputable def w65l0 (ih : Int → Int → Int → List (List Int) → List (List Int) → List (List Int) → List (List Int) → Nat) (x0 x1 x2 : Int) (x3 x4 x5 x6 : List (List Int)) : Option (Fin' × List Value × St) :=
 (cond (decide ((x2 : Int) < x1))
 (cond ((decide ((0 : Int) ≤ x2)) && (Nat.blt (Int.toNat x2) x3.length))
  (cond (Nat.blt (Int.toNat x2) x3.length)
   (cond (!(r68 (Int.toNat ((x3.getD (Int.toNat x2) []).getD 0 0))))
    (a65l0 x0 x1 x2 x3 x4 x5 x6 (0))
    (cond ((decide ((0 : Int) ≤ x2)) && (Nat.blt (Int.toNat x2) x4.length))
     (cond (Nat.blt (Int.toNat x2) x4.length)
      (cond (!(r113 (Int.toNat ((x4.getD (Int.toNat x2) []).getD 0 0))))
       (a65l0 x0 x1 x2 x3 x4 x5 x6 (0))
       (u65l0 x0 x1 x2 x3 x4 x5 x6 (ih x0 x1 (IntKind.i64.wrap (x2 + 1)) x3 x4 x5 x6)))
      none)
     none))
   none)
  none)
 (a65l0 x0 x1 x2 x3 x4 x5 x6 (1)))
set_option maxRecDepth 100000 in
set_option maxHeartbeats 4000000 in
theorem e65l0 (m : Nat) (x0 x1 x2 : Int) (x3 x4 x5 x6 : List (List Int)) : evC Try.prog ext T31 noL 200 (loopN Try.f65 0) (loopTail ([1, 3, 39, 40], []) [1, 2, 3] [] (sumK 129 [1, 3, 39, 40] [1, 2, 3] (q65l0 m))) (frameOf 129 [1, 3, 39, 40] [.pointer (some ⟨0, 0, some 0⟩), .int .i64 x0, .int .i64 x1, .int .i64 x2]) ⟨[⟨true, (some (.cells [wsl 1, wsl 2, wsl 3, wsl 4]))⟩, ⟨true, (some (.tab [.fl .f32] x3))⟩, ⟨true, (some (.tab [.fl .f32] x4))⟩, ⟨true, (some (.tab sc0 x5))⟩, ⟨true, (some (.tab sc1 x6))⟩], 5, []⟩ = firstT ([((Nat.beq (r65l0 (m + 1) x0 x1 x2 x3 x4 x5 x6) 0), .ret, [.pointer (some ⟨0, 0, some 0⟩), .bool false, .int .i64 x0], ⟨[⟨true, (some (.cells [wsl 1, wsl 2, wsl 3, wsl 4]))⟩, ⟨true, (some (.tab [.fl .f32] x3))⟩, ⟨true, (some (.tab [.fl .f32] x4))⟩, ⟨true, (some (.tab sc0 x5))⟩, ⟨true, (some (.tab sc1 x6))⟩], 5, []⟩), ((Nat.beq (r65l0 (m + 1) x0 x1 x2 x3 x4 x5 x6) 1), .exit 0, [.pointer (some ⟨0, 0, some 0⟩), anyV, .int .i64 x0], ⟨[⟨true, (some (.cells [wsl 1, wsl 2, wsl 3, wsl 4]))⟩, ⟨true, (some (.tab [.fl .f32] x3))⟩, ⟨true, (some (.tab [.fl .f32] x4))⟩, ⟨true, (some (.tab sc0 x5))⟩, ⟨true, (some (.tab sc1 x6))⟩], 5, []⟩)].map fun (b, x) => (b, (x.1, frameOf 129 [1, 2, 3] x.2.1, x.2.2))) :=
 (show evC Try.prog ext T31 noL 200 (loopN Try.f65 0) (loopTail ([1, 3, 39, 40], []) [1, 2, 3] [] (sumK 129 [1, 3, 39, 40] [1, 2, 3] (q65l0 m))) (frameOf 129 [1, 3, 39, 40] [.pointer (some ⟨0, 0, some 0⟩), .int .i64 x0, .int .i64 x1, .int .i64 x2]) ⟨[⟨true, (some (.cells [wsl 1, wsl 2, wsl 3, wsl 4]))⟩, ⟨true, (some (.tab [.fl .f32] x3))⟩, ⟨true, (some (.tab [.fl .f32] x4))⟩, ⟨true, (some (.tab sc0 x5))⟩, ⟨true, (some (.tab sc1 x6))⟩], 5, []⟩ = w65l0 (r65l0 m) x0 x1 x2 x3 x4 x5 x6 from by kernel_rfl).trans
 (show w65l0 (r65l0 m) x0 x1 x2 x3 x4 x5 x6 = a65l0 x0 x1 x2 x3 x4 x5 x6 (r65l0 (m + 1) x0 x1 x2 x3 x4 x5 x6) from by unfold w65l0; show _ = a65l0 x0 x1 x2 x3 x4 x5 x6 (b65l0 (r65l0 m) x0 x1 x2 x3 x4 x5 x6); unfold b65l0; exact (cond_both (a65l0 x0 x1 x2 x3 x4 x5 x6) _ (fun h0 => (cond_both (a65l0 x0 x1 x2 x3 x4 x5 x6) _ (fun h1 => (cond_t (ev_and2 h1) (cond_both (a65l0 x0 x1 x2 x3 x4 x5 x6) _ (fun h2 => rfl) (fun h2 => (cond_both (a65l0 x0 x1 x2 x3 x4 x5 x6) _ (fun h3 => (cond_t (ev_and2 h3) (cond_app (a65l0 x0 x1 x2 x3 x4 x5 x6) _ rfl (v65l0 x0 x1 x2 x3 x4 x5 x6 ((r65l0 m) x0 x1 (IntKind.i64.wrap (x2 + 1)) x3 x4 x5 x6))))) (fun h3 => rfl)))))) (fun h1 => rfl))) (fun h0 => rfl)))
set_option maxRecDepth 100000 in
set_option maxHeartbeats 4000000 in
theorem qm65l0 : ∀ m, SumKOk Try.prog (loopN Try.f65 0) 129 [1, 3, 39, 40] [1, 2, 3] (q65l0 m) := by
  intro m
  induction m with
  | zero =>
    intro vals s x h1 h2 h3
    unfold q65l0 at h3; split at h3
    · rename_i h; split at h3
      · rename_i hc; obtain ⟨rfl, rfl, rfl, rfl, rfl, rfl, rfl⟩ := hc; exact absurd h3 (by simp [r65l0, firstT, Nat.beq])
      · exact noQ_ok _ _ _ h1 h2 h3
    · exact noQ_ok _ _ _ h1 h2 h3
  | succ m ih =>
    intro vals s x h1 h2 h3
    unfold q65l0 at h3; split at h3
    · rename_i h; split at h3
      · rename_i hc; obtain ⟨rfl, rfl, rfl, rfl, rfl, rfl, rfl⟩ := hc; exact sum_step ok31 extOk mixed ((lfOkF_no _ _).inner (by kernel_rfl)) ih h1 h2 h (e65l0 m _ _ _ _ _ _ _) rfl h3
      · exact noQ_ok _ _ _ h1 h2 h3
    · exact noQ_ok _ _ _ h1 h2 h3
noncomputable def Q65l0 : SumK := fun vals s => q65l0 (fuelOf vals s.h) vals s
theorem qok65l0 : SumKOk Try.prog (loopN Try.f65 0) 129 [1, 3, 39, 40] [1, 2, 3] Q65l0 := fuel_ok qm65l0 fuelOf
noncomputable def L65_1 : LoopT := addL noL 6 ([1, 3, 39, 40], []) (sumK 129 [1, 3, 39, 40] [1, 2, 3] Q65l0)
theorem lok65_1 : LfOkF Try.prog L65_1 Try.f65 := lfOkF_add (lfOkF_no _ _) qok65l0 (by kernel_rfl) (by kernel_rfl) (by kernel_rfl)

/-- impl.stands -/
noncomputable def r114 (x0 x1 x2 : Int) : Bool :=
 cond (decide ((x0 : Int) ≥ 0))
  (cond (decide ((x0 : Int) < x2))
   (cond (decide ((x1 : Int) ≥ (-1)))
    (cond (decide ((x1 : Int) < x2))
     (((x0 : Int) != x1))
     (false))
    (false))
   (false))
  (false)
noncomputable def a114 (x0 x1 x2 : Int) (p : Bool) : Res := firstT [(true, .bool p, st0)]
noncomputable def w114 (x0 x1 x2 : Int) : Res :=
 (cond (decide ((x0 : Int) ≥ 0))
 (cond (decide ((x0 : Int) < x2))
  (cond (decide ((x1 : Int) ≥ (-1)))
   (cond (decide ((x1 : Int) < x2))
    (a114 x0 x1 x2 (((x0 : Int) != x1)))
    (a114 x0 x1 x2 (false)))
   (a114 x0 x1 x2 (false)))
  (a114 x0 x1 x2 (false)))
 (a114 x0 x1 x2 (false)))
set_option maxRecDepth 100000 in
set_option maxHeartbeats 4000000 in
theorem e114 (x0 x1 x2 : Int) : evFn Try.prog ext T31 noL 200 Try.f114 [.int .i64 x0, .int .i64 x1, .int .i64 x2] st0 = firstT [(true, .bool (r114 x0 x1 x2), st0)] :=
 (show evFn Try.prog ext T31 noL 200 Try.f114 [.int .i64 x0, .int .i64 x1, .int .i64 x2] st0 = w114 x0 x1 x2 from by kernel_rfl).trans
 (show w114 x0 x1 x2 = a114 x0 x1 x2 (r114 x0 x1 x2) from by unfold w114 r114; exact (cond_app (a114 x0 x1 x2) _ (cond_app (a114 x0 x1 x2) _ (cond_app (a114 x0 x1 x2) _ (cond_app (a114 x0 x1 x2) _ rfl rfl) rfl) rfl) rfl))
noncomputable def s114 (args : List Value) (s : St) : List (Bool × Value × St) :=
 match args, s.h with
 | [.int .i64 x0, .int .i64 x1, .int .i64 x2], [] => [(true, .bool (r114 x0 x1 x2), st0)]
 | _, _ => T31 114 args s
noncomputable def T32 : CallF := addF T31 114 s114
set_option maxRecDepth 100000 in
set_option maxHeartbeats 4000000 in
theorem ok32 : CfOk Try.prog T32 := by
  refine cfOk_add ok31 fun args s r s' h1 h2 h3 => ?_
  unfold s114 at h3; split at h3
  · rename_i h; exact callOk ok31 Try.func114 h1 h2 h (lfOkF_no _ _).body (e114 _ _ _) rfl h3
  · exact ok31 _ _ _ _ _ h1 h2 h3

/-- impl.ValidFlat, loop 1: one round -/
noncomputable def b65l1 (ih : Int → Int → Int → List (List Int) → List (List Int) → List (List Int) → List (List Int) → Nat) (x0 x1 x2 : Int) (x3 x4 x5 x6 : List (List Int)) : Nat :=
 cond (decide ((x2 : Int) < x1))
  (cond ((decide ((0 : Int) ≤ x2)) && (Nat.blt (Int.toNat x2) x3.length))
   (cond (!(r114 ((x3.getD (Int.toNat x2) []).getD 0 0) ((x3.getD (Int.toNat x2) []).getD 1 0) x0))
    (0)
    (cond (!(r111 (Int.toNat ((x3.getD (Int.toNat x2) []).getD 2 0))))
     (0)
     (cond (!(r115 (Int.toNat ((x3.getD (Int.toNat x2) []).getD 2 0)) 1015021568 1120403456))
      (0)
      (cond (!(r113 (Int.toNat ((x3.getD (Int.toNat x2) []).getD 3 0))))
       (0)
       (cond (!(r68 (Int.toNat ((x3.getD (Int.toNat x2) []).getD 4 0))))
        (0)
        (cond (!(r68 (Int.toNat ((x3.getD (Int.toNat x2) []).getD 5 0))))
         (0)
         (cond (!(r68 (Int.toNat ((x3.getD (Int.toNat x2) []).getD 6 0))))
          (0)
          (cond (!(r68 (Int.toNat ((x3.getD (Int.toNat x2) []).getD 7 0))))
           (0)
           (ih x0 x1 (IntKind.i64.wrap (x2 + 1)) x3 x4 x5 x6)))))))))
   (2))
  (1)
noncomputable def r65l1 : Nat → Int → Int → Int → List (List Int) → List (List Int) → List (List Int) → List (List Int) → Nat
 | 0 => fun _ _ _ _ _ _ _ => (2)
 | m + 1 => b65l1 (r65l1 m)
noncomputable def a65l1 (x0 x1 x2 : Int) (x3 x4 x5 x6 : List (List Int)) (p : Nat) : Option (Fin' × List Value × St) := firstT ([((Nat.beq p 0), .ret, [.pointer (some ⟨0, 0, some 0⟩), .bool false, .int .i64 x0], ⟨[⟨true, (some (.cells [wsl 2, wsl 3, wsl 1, wsl 4]))⟩, ⟨true, (some (.tab sc0 x3))⟩, ⟨true, (some (.tab [.fl .f32] x4))⟩, ⟨true, (some (.tab [.fl .f32] x5))⟩, ⟨true, (some (.tab sc1 x6))⟩], 5, []⟩), ((Nat.beq p 1), .exit 2, [.pointer (some ⟨0, 0, some 0⟩), anyV, .int .i64 x0], ⟨[⟨true, (some (.cells [wsl 2, wsl 3, wsl 1, wsl 4]))⟩, ⟨true, (some (.tab sc0 x3))⟩, ⟨true, (some (.tab [.fl .f32] x4))⟩, ⟨true, (some (.tab [.fl .f32] x5))⟩, ⟨true, (some (.tab sc1 x6))⟩], 5, []⟩)].map fun (b, x) => (b, (x.1, frameOf 129 [1, 2, 3] x.2.1, x.2.2)))
noncomputable def u65l1 (x0 x1 x2 : Int) (x3 x4 x5 x6 : List (List Int)) (p : Nat) : Option (Fin' × List Value × St) := alts ([((Nat.beq p 0), .ret, [.pointer (some ⟨0, 0, some 0⟩), .bool false, .int .i64 x0], ⟨[⟨true, (some (.cells [wsl 2, wsl 3, wsl 1, wsl 4]))⟩, ⟨true, (some (.tab sc0 x3))⟩, ⟨true, (some (.tab [.fl .f32] x4))⟩, ⟨true, (some (.tab [.fl .f32] x5))⟩, ⟨true, (some (.tab sc1 x6))⟩], 5, []⟩), ((Nat.beq p 1), .exit 2, [.pointer (some ⟨0, 0, some 0⟩), anyV, .int .i64 x0], ⟨[⟨true, (some (.cells [wsl 2, wsl 3, wsl 1, wsl 4]))⟩, ⟨true, (some (.tab sc0 x3))⟩, ⟨true, (some (.tab [.fl .f32] x4))⟩, ⟨true, (some (.tab [.fl .f32] x5))⟩, ⟨true, (some (.tab sc1 x6))⟩], 5, []⟩)].map fun (b, x) => (b, (x.1, frameOf 129 [1, 2, 3] x.2.1, x.2.2))) some
theorem v65l1 (x0 x1 x2 : Int) (x3 x4 x5 x6 : List (List Int)) (p : Nat) : u65l1 x0 x1 x2 x3 x4 x5 x6 p = a65l1 x0 x1 x2 x3 x4 x5 x6 p := alts_first _
noncomputable def q65l1 (m : Nat) : SumK := fun vals s =>
 match vals, s.h with
 | [.pointer (some ⟨f0, f1, some f2⟩), .int .i64 x0, .iface f3 .nilIface, .int .i64 x1, .int .i64 x2], [⟨true, some (.cells [.iface f4 .nilIface, .iface f5 .nilIface, .iface f6 .nilIface, .iface f7 .nilIface])⟩, ⟨true, some (.tab [.int .i64, .int .i64, .fl .f32, .fl .f32, .fl .f32, .fl .f32, .fl .f32, .fl .f32] x3)⟩, ⟨true, some (.tab [.fl .f32] x4)⟩, ⟨true, some (.tab [.fl .f32] x5)⟩, ⟨true, some (.tab [.int .i64, .int .i64, .fl .f32, .fl .f32] x6)⟩] => if f0 = 0 ∧ f1 = 0 ∧ f2 = 0 ∧ f3 = 1 ∧ f4 = 2 ∧ f5 = 3 ∧ f6 = 1 ∧ f7 = 4 then [((Nat.beq (r65l1 m x0 x1 x2 x3 x4 x5 x6) 0), .ret, [.pointer (some ⟨0, 0, some 0⟩), .bool false, .int .i64 x0], ⟨[⟨true, (some (.cells [wsl 2, wsl 3, wsl 1, wsl 4]))⟩, ⟨true, (some (.tab sc0 x3))⟩, ⟨true, (some (.tab [.fl .f32] x4))⟩, ⟨true, (some (.tab [.fl .f32] x5))⟩, ⟨true, (some (.tab sc1 x6))⟩], 5, []⟩), ((Nat.beq (r65l1 m x0 x1 x2 x3 x4 x5 x6) 1), .exit 2, [.pointer (some ⟨0, 0, some 0⟩), anyV, .int .i64 x0], ⟨[⟨true, (some (.cells [wsl 2, wsl 3, wsl 1, wsl 4]))⟩, ⟨true, (some (.tab sc0 x3))⟩, ⟨true, (some (.tab [.fl .f32] x4))⟩, ⟨true, (some (.tab [.fl .f32] x5))⟩, ⟨true, (some (.tab sc1 x6))⟩], 5, []⟩)] else noQ vals s
 | _, _ => noQ vals s
noncomputable def w65l1 (ih : Int → Int → Int → List (List Int) → List (List Int) → List (List Int) → List (List Int) → Nat) (x0 x1 x2 : Int) (x3 x4 x5 x6 : List (List Int)) : Option (Fin' × List Value × St) :=
 (cond (decide ((x2 : Int) < x1))
 (cond ((decide ((0 : Int) ≤ x2)) && (Nat.blt (Int.toNat x2) x3.length))
  (cond (Nat.blt (Int.toNat x2) x3.length)
   (cond (!(r114 ((x3.getD (Int.toNat x2) []).getD 0 0) ((x3.getD (Int.toNat x2) []).getD 1 0) x0))
    (a65l1 x0 x1 x2 x3 x4 x5 x6 (0))
    (cond (!(r111 (Int.toNat ((x3.getD (Int.toNat x2) []).getD 2 0))))
     (a65l1 x0 x1 x2 x3 x4 x5 x6 (0))
     (cond (!(r115 (Int.toNat ((x3.getD (Int.toNat x2) []).getD 2 0)) 1015021568 1120403456))
      (a65l1 x0 x1 x2 x3 x4 x5 x6 (0))
      (cond (!(r113 (Int.toNat ((x3.getD (Int.toNat x2) []).getD 3 0))))
       (a65l1 x0 x1 x2 x3 x4 x5 x6 (0))
       (cond (!(r68 (Int.toNat ((x3.getD (Int.toNat x2) []).getD 4 0))))
        (a65l1 x0 x1 x2 x3 x4 x5 x6 (0))
        (cond (!(r68 (Int.toNat ((x3.getD (Int.toNat x2) []).getD 5 0))))
         (a65l1 x0 x1 x2 x3 x4 x5 x6 (0))
         (cond (!(r68 (Int.toNat ((x3.getD (Int.toNat x2) []).getD 6 0))))
          (a65l1 x0 x1 x2 x3 x4 x5 x6 (0))
          (cond (!(r68 (Int.toNat ((x3.getD (Int.toNat x2) []).getD 7 0))))
           (a65l1 x0 x1 x2 x3 x4 x5 x6 (0))
           (u65l1 x0 x1 x2 x3 x4 x5 x6 (ih x0 x1 (IntKind.i64.wrap (x2 + 1)) x3 x4 x5 x6))))))))))
   none)
  none)
 (a65l1 x0 x1 x2 x3 x4 x5 x6 (1)))
set_option maxRecDepth 100000 in
set_option maxHeartbeats 4000000 in
theorem e65l1 (m : Nat) (x0 x1 x2 : Int) (x3 x4 x5 x6 : List (List Int)) : evC Try.prog ext T32 L65_1 200 (loopN Try.f65 1) (loopTail ([1, 3, 61, 62, 63], []) [1, 2, 3] [] (sumK 129 [1, 3, 61, 62, 63] [1, 2, 3] (q65l1 m))) (frameOf 129 [1, 3, 61, 62, 63] [.pointer (some ⟨0, 0, some 0⟩), .int .i64 x0, wsl 1, .int .i64 x1, .int .i64 x2]) ⟨[⟨true, (some (.cells [wsl 2, wsl 3, wsl 1, wsl 4]))⟩, ⟨true, (some (.tab sc0 x3))⟩, ⟨true, (some (.tab [.fl .f32] x4))⟩, ⟨true, (some (.tab [.fl .f32] x5))⟩, ⟨true, (some (.tab sc1 x6))⟩], 5, []⟩ = firstT ([((Nat.beq (r65l1 (m + 1) x0 x1 x2 x3 x4 x5 x6) 0), .ret, [.pointer (some ⟨0, 0, some 0⟩), .bool false, .int .i64 x0], ⟨[⟨true, (some (.cells [wsl 2, wsl 3, wsl 1, wsl 4]))⟩, ⟨true, (some (.tab sc0 x3))⟩, ⟨true, (some (.tab [.fl .f32] x4))⟩, ⟨true, (some (.tab [.fl .f32] x5))⟩, ⟨true, (some (.tab sc1 x6))⟩], 5, []⟩), ((Nat.beq (r65l1 (m + 1) x0 x1 x2 x3 x4 x5 x6) 1), .exit 2, [.pointer (some ⟨0, 0, some 0⟩), anyV, .int .i64 x0], ⟨[⟨true, (some (.cells [wsl 2, wsl 3, wsl 1, wsl 4]))⟩, ⟨true, (some (.tab sc0 x3))⟩, ⟨true, (some (.tab [.fl .f32] x4))⟩, ⟨true, (some (.tab [.fl .f32] x5))⟩, ⟨true, (some (.tab sc1 x6))⟩], 5, []⟩)].map fun (b, x) => (b, (x.1, frameOf 129 [1, 2, 3] x.2.1, x.2.2))) :=
 (show evC Try.prog ext T32 L65_1 200 (loopN Try.f65 1) (loopTail ([1, 3, 61, 62, 63], []) [1, 2, 3] [] (sumK 129 [1, 3, 61, 62, 63] [1, 2, 3] (q65l1 m))) (frameOf 129 [1, 3, 61, 62, 63] [.pointer (some ⟨0, 0, some 0⟩), .int .i64 x0, wsl 1, .int .i64 x1, .int .i64 x2]) ⟨[⟨true, (some (.cells [wsl 2, wsl 3, wsl 1, wsl 4]))⟩, ⟨true, (some (.tab sc0 x3))⟩, ⟨true, (some (.tab [.fl .f32] x4))⟩, ⟨true, (some (.tab [.fl .f32] x5))⟩, ⟨true, (some (.tab sc1 x6))⟩], 5, []⟩ = w65l1 (r65l1 m) x0 x1 x2 x3 x4 x5 x6 from by kernel_rfl).trans
 (show w65l1 (r65l1 m) x0 x1 x2 x3 x4 x5 x6 = a65l1 x0 x1 x2 x3 x4 x5 x6 (r65l1 (m + 1) x0 x1 x2 x3 x4 x5 x6) from by unfold w65l1; show _ = a65l1 x0 x1 x2 x3 x4 x5 x6 (b65l1 (r65l1 m) x0 x1 x2 x3 x4 x5 x6); unfold b65l1; exact (cond_both (a65l1 x0 x1 x2 x3 x4 x5 x6) _ (fun h0 => (cond_both (a65l1 x0 x1 x2 x3 x4 x5 x6) _ (fun h1 => (cond_t (ev_and2 h1) (cond_app (a65l1 x0 x1 x2 x3 x4 x5 x6) _ rfl (cond_app (a65l1 x0 x1 x2 x3 x4 x5 x6) _ rfl (cond_app (a65l1 x0 x1 x2 x3 x4 x5 x6) _ rfl (cond_app (a65l1 x0 x1 x2 x3 x4 x5 x6) _ rfl (cond_app (a65l1 x0 x1 x2 x3 x4 x5 x6) _ rfl (cond_app (a65l1 x0 x1 x2 x3 x4 x5 x6) _ rfl (cond_app (a65l1 x0 x1 x2 x3 x4 x5 x6) _ rfl (cond_app (a65l1 x0 x1 x2 x3 x4 x5 x6) _ rfl (v65l1 x0 x1 x2 x3 x4 x5 x6 ((r65l1 m) x0 x1 (IntKind.i64.wrap (x2 + 1)) x3 x4 x5 x6)))))))))))) (fun h1 => rfl))) (fun h0 => rfl)))
set_option maxRecDepth 100000 in
set_option maxHeartbeats 4000000 in
theorem qm65l1 : ∀ m, SumKOk Try.prog (loopN Try.f65 1) 129 [1, 3, 61, 62, 63] [1, 2, 3] (q65l1 m) := by
  intro m
  induction m with
  | zero =>
    intro vals s x h1 h2 h3
    unfold q65l1 at h3; split at h3
    · rename_i h; split at h3
      · rename_i hc; obtain ⟨rfl, rfl, rfl, rfl, rfl, rfl, rfl, rfl⟩ := hc; exact absurd h3 (by simp [r65l1, firstT, Nat.beq])
      · exact noQ_ok _ _ _ h1 h2 h3
    · exact noQ_ok _ _ _ h1 h2 h3
  | succ m ih =>
    intro vals s x h1 h2 h3
    unfold q65l1 at h3; split at h3
    · rename_i h; split at h3
      · rename_i hc; obtain ⟨rfl, rfl, rfl, rfl, rfl, rfl, rfl, rfl⟩ := hc; exact sum_step ok32 extOk mixed (lok65_1.inner (by kernel_rfl)) ih h1 h2 h (e65l1 m _ _ _ _ _ _ _) rfl h3
      · exact noQ_ok _ _ _ h1 h2 h3
    · exact noQ_ok _ _ _ h1 h2 h3
noncomputable def Q65l1 : SumK := fun vals s => q65l1 (fuelOf vals s.h) vals s
theorem qok65l1 : SumKOk Try.prog (loopN Try.f65 1) 129 [1, 3, 61, 62, 63] [1, 2, 3] Q65l1 := fuel_ok qm65l1 fuelOf
noncomputable def L65_2 : LoopT := addL L65_1 12 ([1, 3, 61, 62, 63], []) (sumK 129 [1, 3, 61, 62, 63] [1, 2, 3] Q65l1)
theorem lok65_2 : LfOkF Try.prog L65_2 Try.f65 := lfOkF_add lok65_1 qok65l1 (by kernel_rfl) (by kernel_rfl) (by kernel_rfl)

/-- impl.isUpTo -/
noncomputable def r67 (x0 x1 : Nat) : Bool :=
 cond (r111 x0)
  ((flt .f32 x0 x1 || feq .f32 x0 x1))
  (false)
noncomputable def a67 (x0 x1 : Nat) (p : Bool) : Res := firstT [(true, .bool p, st0)]
noncomputable def w67 (x0 x1 : Nat) : Res :=
 (cond (r111 x0)
 (a67 x0 x1 ((flt .f32 x0 x1 || feq .f32 x0 x1)))
 (a67 x0 x1 (false)))
set_option maxRecDepth 100000 in
set_option maxHeartbeats 4000000 in
theorem e67 (x0 x1 : Nat) : evFn Try.prog ext T32 noL 200 Try.f67 [.float .f32 x0, .float .f32 x1] st0 = firstT [(true, .bool (r67 x0 x1), st0)] :=
 (show evFn Try.prog ext T32 noL 200 Try.f67 [.float .f32 x0, .float .f32 x1] st0 = w67 x0 x1 from by kernel_rfl).trans
 (show w67 x0 x1 = a67 x0 x1 (r67 x0 x1) from by unfold w67 r67; exact (cond_app (a67 x0 x1) _ rfl rfl))
noncomputable def s67 (args : List Value) (s : St) : List (Bool × Value × St) :=
 match args, s.h with
 | [.float .f32 x0, .float .f32 x1], [] => [(true, .bool (r67 x0 x1), st0)]
 | _, _ => T32 67 args s
noncomputable def T33 : CallF := addF T32 67 s67
set_option maxRecDepth 100000 in
set_option maxHeartbeats 4000000 in
theorem ok33 : CfOk Try.prog T33 := by
  refine cfOk_add ok32 fun args s r s' h1 h2 h3 => ?_
  unfold s67 at h3; split at h3
  · rename_i h; exact callOk ok32 Try.func67 h1 h2 h (lfOkF_no _ _).body (e67 _ _) rfl h3
  · exact ok32 _ _ _ _ _ h1 h2 h3

/-- impl.ValidFlat, loop 3: one round -/
noncomputable def b65l3 (ih : Int → Int → Int → List (List Int) → Nat) (x0 x1 x2 : Int) (x3 : List (List Int)) : Nat :=
 cond (decide ((x2 : Int) < x1))
  (cond ((decide ((0 : Int) ≤ x2)) && (Nat.blt (Int.toNat x2) x3.length))
   (cond (!(r114 ((x3.getD (Int.toNat x2) []).getD 0 0) ((x3.getD (Int.toNat x2) []).getD 1 0) x0))
    (0)
    (cond (!(r67 (Int.toNat ((x3.getD (Int.toNat x2) []).getD 2 0)) 1120403456))
     (0)
     (cond (!(r67 (Int.toNat ((x3.getD (Int.toNat x2) []).getD 3 0)) 1092616192))
      (0)
      (ih x0 x1 (IntKind.i64.wrap (x2 + 1)) x3))))
   (2))
  (1)
noncomputable def r65l3 : Nat → Int → Int → Int → List (List Int) → Nat
 | 0 => fun _ _ _ _ => (2)
 | m + 1 => b65l3 (r65l3 m)
noncomputable def a65l3 (x0 x1 x2 : Int) (x3 : List (List Int)) (p : Nat) : Option (Fin' × List Value × St) := firstT ([((Nat.beq p 0), .ret, [.bool false], ⟨[⟨true, (some (.tab sc1 x3))⟩], 1, []⟩), ((Nat.beq p 1), .exit 6, [anyV], ⟨[⟨true, (some (.tab sc1 x3))⟩], 1, []⟩)].map fun (b, x) => (b, (x.1, frameOf 129 [2] x.2.1, x.2.2)))
noncomputable def u65l3 (x0 x1 x2 : Int) (x3 : List (List Int)) (p : Nat) : Option (Fin' × List Value × St) := alts ([((Nat.beq p 0), .ret, [.bool false], ⟨[⟨true, (some (.tab sc1 x3))⟩], 1, []⟩), ((Nat.beq p 1), .exit 6, [anyV], ⟨[⟨true, (some (.tab sc1 x3))⟩], 1, []⟩)].map fun (b, x) => (b, (x.1, frameOf 129 [2] x.2.1, x.2.2))) some
theorem v65l3 (x0 x1 x2 : Int) (x3 : List (List Int)) (p : Nat) : u65l3 x0 x1 x2 x3 p = a65l3 x0 x1 x2 x3 p := alts_first _
noncomputable def q65l3 (m : Nat) : SumK := fun vals s =>
 match vals, s.h with
 | [.int .i64 x0, .iface f0 .nilIface, .int .i64 x1, .int .i64 x2], [⟨true, some (.tab [.int .i64, .int .i64, .fl .f32, .fl .f32] x3)⟩] => if f0 = 0 then [((Nat.beq (r65l3 m x0 x1 x2 x3) 0), .ret, [.bool false], ⟨[⟨true, (some (.tab sc1 x3))⟩], 1, []⟩), ((Nat.beq (r65l3 m x0 x1 x2 x3) 1), .exit 6, [anyV], ⟨[⟨true, (some (.tab sc1 x3))⟩], 1, []⟩)] else noQ vals s
 | _, _ => noQ vals s
noncomputable def w65l3 (ih : Int → Int → Int → List (List Int) → Nat) (x0 x1 x2 : Int) (x3 : List (List Int)) : Option (Fin' × List Value × St) :=
 (cond (decide ((x2 : Int) < x1))
 (cond ((decide ((0 : Int) ≤ x2)) && (Nat.blt (Int.toNat x2) x3.length))
  (cond (Nat.blt (Int.toNat x2) x3.length)
   (cond (!(r114 ((x3.getD (Int.toNat x2) []).getD 0 0) ((x3.getD (Int.toNat x2) []).getD 1 0) x0))
    (a65l3 x0 x1 x2 x3 (0))
    (cond (!(r67 (Int.toNat ((x3.getD (Int.toNat x2) []).getD 2 0)) 1120403456))
     (a65l3 x0 x1 x2 x3 (0))
     (cond (!(r67 (Int.toNat ((x3.getD (Int.toNat x2) []).getD 3 0)) 1092616192))
      (a65l3 x0 x1 x2 x3 (0))
      (u65l3 x0 x1 x2 x3 (ih x0 x1 (IntKind.i64.wrap (x2 + 1)) x3)))))
   none)
  none)
 (a65l3 x0 x1 x2 x3 (1)))
set_option maxRecDepth 100000 in
set_option maxHeartbeats 4000000 in
theorem e65l3 (m : Nat) (x0 x1 x2 : Int) (x3 : List (List Int)) : evC Try.prog ext T33 L65_2 200 (loopN Try.f65 3) (loopTail ([3, 103, 104, 105], []) [2] [] (sumK 129 [3, 103, 104, 105] [2] (q65l3 m))) (frameOf 129 [3, 103, 104, 105] [.int .i64 x0, wsl 0, .int .i64 x1, .int .i64 x2]) ⟨[⟨true, (some (.tab sc1 x3))⟩], 1, []⟩ = firstT ([((Nat.beq (r65l3 (m + 1) x0 x1 x2 x3) 0), .ret, [.bool false], ⟨[⟨true, (some (.tab sc1 x3))⟩], 1, []⟩), ((Nat.beq (r65l3 (m + 1) x0 x1 x2 x3) 1), .exit 6, [anyV], ⟨[⟨true, (some (.tab sc1 x3))⟩], 1, []⟩)].map fun (b, x) => (b, (x.1, frameOf 129 [2] x.2.1, x.2.2))) :=
 (show evC Try.prog ext T33 L65_2 200 (loopN Try.f65 3) (loopTail ([3, 103, 104, 105], []) [2] [] (sumK 129 [3, 103, 104, 105] [2] (q65l3 m))) (frameOf 129 [3, 103, 104, 105] [.int .i64 x0, wsl 0, .int .i64 x1, .int .i64 x2]) ⟨[⟨true, (some (.tab sc1 x3))⟩], 1, []⟩ = w65l3 (r65l3 m) x0 x1 x2 x3 from by kernel_rfl).trans
 (show w65l3 (r65l3 m) x0 x1 x2 x3 = a65l3 x0 x1 x2 x3 (r65l3 (m + 1) x0 x1 x2 x3) from by unfold w65l3; show _ = a65l3 x0 x1 x2 x3 (b65l3 (r65l3 m) x0 x1 x2 x3); unfold b65l3; exact (cond_both (a65l3 x0 x1 x2 x3) _ (fun h0 => (cond_both (a65l3 x0 x1 x2 x3) _ (fun h1 => (cond_t (ev_and2 h1) (cond_app (a65l3 x0 x1 x2 x3) _ rfl (cond_app (a65l3 x0 x1 x2 x3) _ rfl (cond_app (a65l3 x0 x1 x2 x3) _ rfl (v65l3 x0 x1 x2 x3 ((r65l3 m) x0 x1 (IntKind.i64.wrap (x2 + 1)) x3))))))) (fun h1 => rfl))) (fun h0 => rfl)))
set_option maxRecDepth 100000 in
set_option maxHeartbeats 4000000 in
theorem qm65l3 : ∀ m, SumKOk Try.prog (loopN Try.f65 3) 129 [3, 103, 104, 105] [2] (q65l3 m) := by
  intro m
  induction m with
  | zero =>
    intro vals s x h1 h2 h3
    unfold q65l3 at h3; split at h3
    · rename_i h; split at h3
      · rename_i hc; obtain ⟨rfl⟩ := hc; exact absurd h3 (by simp [r65l3, firstT, Nat.beq])
      · exact noQ_ok _ _ _ h1 h2 h3
    · exact noQ_ok _ _ _ h1 h2 h3
  | succ m ih =>
    intro vals s x h1 h2 h3
    unfold q65l3 at h3; split at h3
    · rename_i h; split at h3
      · rename_i hc; obtain ⟨rfl⟩ := hc; exact sum_step ok33 extOk mixed (lok65_2.inner (by kernel_rfl)) ih h1 h2 h (e65l3 m _ _ _ _) rfl h3
      · exact noQ_ok _ _ _ h1 h2 h3
    · exact noQ_ok _ _ _ h1 h2 h3
noncomputable def Q65l3 : SumK := fun vals s => q65l3 (fuelOf vals s.h) vals s
theorem qok65l3 : SumKOk Try.prog (loopN Try.f65 3) 129 [3, 103, 104, 105] [2] Q65l3 := fuel_ok qm65l3 fuelOf
noncomputable def L65_3 : LoopT := addL L65_2 24 ([3, 103, 104, 105], []) (sumK 129 [3, 103, 104, 105] [2] Q65l3)
theorem lok65_3 : LfOkF Try.prog L65_3 Try.f65 := lfOkF_add lok65_2 qok65l3 (by kernel_rfl) (by kernel_rfl) (by kernel_rfl)

/-- impl.ValidFlat -/
noncomputable def r65 (x0 x1 x2 x3 : List (List Int)) : Nat × Bool :=
 let c52 := (r65l0 (1000 + x3.length + x2.length + x1.length + x0.length) ((x0.length : Nat) : Int) ((x0.length : Nat) : Int) 0 x0 x1 x2 x3)
 let c53 := (r65l1 (1000 + x3.length + x1.length + x0.length + x2.length) ((x0.length : Nat) : Int) ((x2.length : Nat) : Int) 0 x2 x0 x1 x3)
 cond (decide ((((x0.length : Nat) : Int) : Int) < 1))
  (0, false)
  (cond (decide ((((x0.length : Nat) : Int) : Int) > 5))
   (0, false)
   (cond ((((x1.length : Nat) : Int) : Int) != ((x0.length : Nat) : Int))
    (0, false)
    (cond (decide ((((x2.length : Nat) : Int) : Int) > 10))
     (0, false)
     (cond (decide ((((x3.length : Nat) : Int) : Int) > 8))
      (0, false)
      (cond (Nat.beq c52 0)
       (0, false)
       (cond (Nat.beq c52 1)
        (cond (Nat.beq c53 0)
         (0, false)
         (cond (Nat.beq c53 1)
          (cond (Nat.beq (r65l3 (1000 + x3.length) ((x0.length : Nat) : Int) ((x3.length : Nat) : Int) 0 x3) 0)
           (0, false)
           (cond (Nat.beq (r65l3 (1000 + x3.length) ((x0.length : Nat) : Int) ((x3.length : Nat) : Int) 0 x3) 1)
            (0, true)
            (1, false)))
          (1, false)))
        (1, false)))))))
noncomputable def a65 (x0 x1 x2 x3 : List (List Int)) (p : Nat × Bool) : Res := firstT [((Nat.beq (p.1) 0), .bool (p.2), ⟨[⟨true, (some (.tab [.fl .f32] x0))⟩, ⟨true, (some (.tab [.fl .f32] x1))⟩, ⟨true, (some (.tab sc0 x2))⟩, ⟨true, (some (.tab sc1 x3))⟩], 4, []⟩)]
noncomputable def w65 (x0 x1 x2 x3 : List (List Int)) : Res :=
 let c52 := (r65l0 (1000 + x3.length + x2.length + x1.length + x0.length) ((x0.length : Nat) : Int) ((x0.length : Nat) : Int) 0 x0 x1 x2 x3)
 let c53 := (r65l1 (1000 + x3.length + x1.length + x0.length + x2.length) ((x0.length : Nat) : Int) ((x2.length : Nat) : Int) 0 x2 x0 x1 x3)
 (cond (decide ((((x0.length : Nat) : Int) : Int) < 1))
 (a65 x0 x1 x2 x3 (0, false))
 (cond (decide ((((x0.length : Nat) : Int) : Int) > 5))
  (a65 x0 x1 x2 x3 (0, false))
  (cond ((((x1.length : Nat) : Int) : Int) != ((x0.length : Nat) : Int))
   (a65 x0 x1 x2 x3 (0, false))
   (cond (decide ((((x2.length : Nat) : Int) : Int) > 10))
    (a65 x0 x1 x2 x3 (0, false))
    (cond (decide ((((x3.length : Nat) : Int) : Int) > 8))
     (a65 x0 x1 x2 x3 (0, false))
     (cond (Nat.beq c52 0)
      (a65 x0 x1 x2 x3 (0, false))
      (cond (Nat.beq c52 1)
       (cond (Nat.beq c53 0)
        (a65 x0 x1 x2 x3 (0, false))
        (cond (Nat.beq c53 1)
         (cond (Nat.beq (r65l3 (1000 + x3.length) ((x0.length : Nat) : Int) ((x3.length : Nat) : Int) 0 x3) 0)
          (a65 x0 x1 x2 x3 (0, false))
          (cond (Nat.beq (r65l3 (1000 + x3.length) ((x0.length : Nat) : Int) ((x3.length : Nat) : Int) 0 x3) 1)
           (a65 x0 x1 x2 x3 (0, true))
           none))
         none))
       none)))))))
set_option maxRecDepth 100000 in
set_option maxHeartbeats 4000000 in
theorem e65 (x0 x1 x2 x3 : List (List Int)) : evFn Try.prog ext T33 L65_3 200 Try.f65 [.agg #[wsl 0, wsl 1, wsl 2, wsl 3]] ⟨[⟨true, (some (.tab [.fl .f32] x0))⟩, ⟨true, (some (.tab [.fl .f32] x1))⟩, ⟨true, (some (.tab sc0 x2))⟩, ⟨true, (some (.tab sc1 x3))⟩], 4, []⟩ = firstT [((Nat.beq ((r65 x0 x1 x2 x3).1) 0), .bool ((r65 x0 x1 x2 x3).2), ⟨[⟨true, (some (.tab [.fl .f32] x0))⟩, ⟨true, (some (.tab [.fl .f32] x1))⟩, ⟨true, (some (.tab sc0 x2))⟩, ⟨true, (some (.tab sc1 x3))⟩], 4, []⟩)] :=
 (show evFn Try.prog ext T33 L65_3 200 Try.f65 [.agg #[wsl 0, wsl 1, wsl 2, wsl 3]] ⟨[⟨true, (some (.tab [.fl .f32] x0))⟩, ⟨true, (some (.tab [.fl .f32] x1))⟩, ⟨true, (some (.tab sc0 x2))⟩, ⟨true, (some (.tab sc1 x3))⟩], 4, []⟩ = w65 x0 x1 x2 x3 from by kernel_rfl).trans
 (show w65 x0 x1 x2 x3 = a65 x0 x1 x2 x3 (r65 x0 x1 x2 x3) from by unfold w65 r65; exact (cond_app (a65 x0 x1 x2 x3) _ rfl (cond_app (a65 x0 x1 x2 x3) _ rfl (cond_app (a65 x0 x1 x2 x3) _ rfl (cond_app (a65 x0 x1 x2 x3) _ rfl (cond_app (a65 x0 x1 x2 x3) _ rfl (cond_app (a65 x0 x1 x2 x3) _ rfl (cond_app (a65 x0 x1 x2 x3) _ (cond_app (a65 x0 x1 x2 x3) _ rfl (cond_app (a65 x0 x1 x2 x3) _ (cond_app (a65 x0 x1 x2 x3) _ rfl (cond_app (a65 x0 x1 x2 x3) _ rfl rfl)) rfl)) rfl))))))))
noncomputable def s65 (args : List Value) (s : St) : List (Bool × Value × St) :=
 match args, s.h with
 | [.agg ⟨[.iface f0 .nilIface, .iface f1 .nilIface, .iface f2 .nilIface, .iface f3 .nilIface]⟩], [⟨true, some (.tab [.fl .f32] x0)⟩, ⟨true, some (.tab [.fl .f32] x1)⟩, ⟨true, some (.tab [.int .i64, .int .i64, .fl .f32, .fl .f32, .fl .f32, .fl .f32, .fl .f32, .fl .f32] x2)⟩, ⟨true, some (.tab [.int .i64, .int .i64, .fl .f32, .fl .f32] x3)⟩] => if f0 = 0 ∧ f1 = 1 ∧ f2 = 2 ∧ f3 = 3 then [((Nat.beq ((r65 x0 x1 x2 x3).1) 0), .bool ((r65 x0 x1 x2 x3).2), ⟨[⟨true, (some (.tab [.fl .f32] x0))⟩, ⟨true, (some (.tab [.fl .f32] x1))⟩, ⟨true, (some (.tab sc0 x2))⟩, ⟨true, (some (.tab sc1 x3))⟩], 4, []⟩)] else T33 65 args s
 | _, _ => T33 65 args s
noncomputable def T34 : CallF := addF T33 65 s65
set_option maxRecDepth 100000 in
set_option maxHeartbeats 4000000 in
theorem ok34 : CfOk Try.prog T34 := by
  refine cfOk_add ok33 fun args s r s' h1 h2 h3 => ?_
  unfold s65 at h3; split at h3
  · rename_i h; split at h3
    · rename_i hc; obtain ⟨rfl, rfl, rfl, rfl⟩ := hc; exact callOk ok33 Try.func65 h1 h2 h lok65_3.body (e65 _ _ _ _) rfl h3
    · exact ok33 _ _ _ _ _ h1 h2 h3
  · exact ok33 _ _ _ _ _ h1 h2 h3

/-- impl.ownFlat -/
noncomputable def r73 (x0 x1 x2 x3 : List (List Int)) : Nat × List (List Int) × List (List Int) × List (List Int) × List (List Int) :=
 cond (Nat.ble ((0 + x0.length) * 5) 140737488355328)
  (cond (Nat.ble ((0 + x1.length) * 5) 140737488355328)
   (cond (Nat.ble ((0 + x2.length) * 41) 140737488355328)
    (cond (Nat.ble ((0 + x3.length) * 25) 140737488355328)
     (0, (([] : List (List Int)) ++ x0), (([] : List (List Int)) ++ x1), (([] : List (List Int)) ++ x2), (([] : List (List Int)) ++ x3))
     (1, [], [], [], []))
    (1, [], [], [], []))
   (1, [], [], [], []))
  (1, [], [], [], [])
noncomputable def a73 (x0 x1 x2 x3 : List (List Int)) (p : Nat × List (List Int) × List (List Int) × List (List Int) × List (List Int)) : Res := firstT [((Nat.beq (p.1) 0), .agg #[wsl 4, wsl 5, wsl 6, wsl 7], ⟨[⟨true, (some (.tab [.fl .f32] x0))⟩, ⟨true, (some (.tab [.fl .f32] x1))⟩, ⟨true, (some (.tab sc0 x2))⟩, ⟨true, (some (.tab sc1 x3))⟩, ⟨true, (some (.tab [.fl .f32] (p.2.1)))⟩, ⟨true, (some (.tab [.fl .f32] (p.2.2.1)))⟩, ⟨true, (some (.tab sc0 (p.2.2.2.1)))⟩, ⟨true, (some (.tab sc1 (p.2.2.2.2)))⟩], 4, []⟩)]
noncomputable def w73 (x0 x1 x2 x3 : List (List Int)) : Res :=
 (cond (Nat.ble ((0 + x0.length) * 5) 140737488355328)
 (cond (Nat.ble ((0 + x1.length) * 5) 140737488355328)
  (cond (Nat.ble ((0 + x2.length) * 41) 140737488355328)
   (cond (Nat.ble ((0 + x3.length) * 25) 140737488355328)
    (a73 x0 x1 x2 x3 (0, (([] : List (List Int)) ++ x0), (([] : List (List Int)) ++ x1), (([] : List (List Int)) ++ x2), (([] : List (List Int)) ++ x3)))
    none)
   none)
  none)
 none)
set_option maxRecDepth 100000 in
set_option maxHeartbeats 4000000 in
theorem e73 (x0 x1 x2 x3 : List (List Int)) : evFn Try.prog ext T34 noL 200 Try.f73 [.agg #[wsl 0, wsl 1, wsl 2, wsl 3]] ⟨[⟨true, (some (.tab [.fl .f32] x0))⟩, ⟨true, (some (.tab [.fl .f32] x1))⟩, ⟨true, (some (.tab sc0 x2))⟩, ⟨true, (some (.tab sc1 x3))⟩], 4, []⟩ = firstT [((Nat.beq ((r73 x0 x1 x2 x3).1) 0), .agg #[wsl 4, wsl 5, wsl 6, wsl 7], ⟨[⟨true, (some (.tab [.fl .f32] x0))⟩, ⟨true, (some (.tab [.fl .f32] x1))⟩, ⟨true, (some (.tab sc0 x2))⟩, ⟨true, (some (.tab sc1 x3))⟩, ⟨true, (some (.tab [.fl .f32] ((r73 x0 x1 x2 x3).2.1)))⟩, ⟨true, (some (.tab [.fl .f32] ((r73 x0 x1 x2 x3).2.2.1)))⟩, ⟨true, (some (.tab sc0 ((r73 x0 x1 x2 x3).2.2.2.1)))⟩, ⟨true, (some (.tab sc1 ((r73 x0 x1 x2 x3).2.2.2.2)))⟩], 4, []⟩)] :=
 (show evFn Try.prog ext T34 noL 200 Try.f73 [.agg #[wsl 0, wsl 1, wsl 2, wsl 3]] ⟨[⟨true, (some (.tab [.fl .f32] x0))⟩, ⟨true, (some (.tab [.fl .f32] x1))⟩, ⟨true, (some (.tab sc0 x2))⟩, ⟨true, (some (.tab sc1 x3))⟩], 4, []⟩ = w73 x0 x1 x2 x3 from by kernel_rfl).trans
 (show w73 x0 x1 x2 x3 = a73 x0 x1 x2 x3 (r73 x0 x1 x2 x3) from by unfold w73 r73; exact (cond_app (a73 x0 x1 x2 x3) _ (cond_app (a73 x0 x1 x2 x3) _ (cond_app (a73 x0 x1 x2 x3) _ (cond_app (a73 x0 x1 x2 x3) _ rfl rfl) rfl) rfl) rfl))
noncomputable def s73 (args : List Value) (s : St) : List (Bool × Value × St) :=
 match args, s.h with
 | [.agg ⟨[.iface f0 .nilIface, .iface f1 .nilIface, .iface f2 .nilIface, .iface f3 .nilIface]⟩], [⟨true, some (.tab [.fl .f32] x0)⟩, ⟨true, some (.tab [.fl .f32] x1)⟩, ⟨true, some (.tab [.int .i64, .int .i64, .fl .f32, .fl .f32, .fl .f32, .fl .f32, .fl .f32, .fl .f32] x2)⟩, ⟨true, some (.tab [.int .i64, .int .i64, .fl .f32, .fl .f32] x3)⟩] => if f0 = 0 ∧ f1 = 1 ∧ f2 = 2 ∧ f3 = 3 then [((Nat.beq ((r73 x0 x1 x2 x3).1) 0), .agg #[wsl 4, wsl 5, wsl 6, wsl 7], ⟨[⟨true, (some (.tab [.fl .f32] x0))⟩, ⟨true, (some (.tab [.fl .f32] x1))⟩, ⟨true, (some (.tab sc0 x2))⟩, ⟨true, (some (.tab sc1 x3))⟩, ⟨true, (some (.tab [.fl .f32] ((r73 x0 x1 x2 x3).2.1)))⟩, ⟨true, (some (.tab [.fl .f32] ((r73 x0 x1 x2 x3).2.2.1)))⟩, ⟨true, (some (.tab sc0 ((r73 x0 x1 x2 x3).2.2.2.1)))⟩, ⟨true, (some (.tab sc1 ((r73 x0 x1 x2 x3).2.2.2.2)))⟩], 4, []⟩)] else T34 73 args s
 | _, _ => T34 73 args s
noncomputable def T35 : CallF := addF T34 73 s73
set_option maxRecDepth 100000 in
set_option maxHeartbeats 4000000 in
theorem ok35 : CfOk Try.prog T35 := by
  refine cfOk_add ok34 fun args s r s' h1 h2 h3 => ?_
  unfold s73 at h3; split at h3
  · rename_i h; split at h3
    · rename_i hc; obtain ⟨rfl, rfl, rfl, rfl⟩ := hc; exact callOk ok34 Try.func73 h1 h2 h (lfOkF_no _ _).body (e73 _ _ _ _) rfl h3
    · exact ok34 _ _ _ _ _ h1 h2 h3
  · exact ok34 _ _ _ _ _ h1 h2 h3

/-- impl.SwapRooms$1 -/
noncomputable def r72 (x0 x1 x2 : Int) : Int :=
 cond ((x0 : Int) == x1)
  (x2)
  (cond ((x0 : Int) == x2)
   (x1)
   (x0))
noncomputable def a72 (x0 x1 x2 : Int) (p : Int) : Res := firstT [(true, .int .i64 p, ⟨[⟨true, (some (.cells [.int .i64 x1]))⟩, ⟨true, (some (.cells [.int .i64 x2]))⟩], 2, []⟩)]
noncomputable def w72 (x0 x1 x2 : Int) : Res :=
 (cond ((x0 : Int) == x1)
 (a72 x0 x1 x2 (x2))
 (cond ((x0 : Int) == x2)
  (a72 x0 x1 x2 (x1))
  (a72 x0 x1 x2 (x0))))
set_option maxRecDepth 100000 in
set_option maxHeartbeats 4000000 in
theorem e72 (x0 x1 x2 : Int) : evFn Try.prog ext T35 noL 200 Try.f72 [.int .i64 x0, .pointer (some ⟨0, 0, some 0⟩), .pointer (some ⟨1, 0, some 0⟩)] ⟨[⟨true, (some (.cells [.int .i64 x1]))⟩, ⟨true, (some (.cells [.int .i64 x2]))⟩], 2, []⟩ = firstT [(true, .int .i64 (r72 x0 x1 x2), ⟨[⟨true, (some (.cells [.int .i64 x1]))⟩, ⟨true, (some (.cells [.int .i64 x2]))⟩], 2, []⟩)] :=
 (show evFn Try.prog ext T35 noL 200 Try.f72 [.int .i64 x0, .pointer (some ⟨0, 0, some 0⟩), .pointer (some ⟨1, 0, some 0⟩)] ⟨[⟨true, (some (.cells [.int .i64 x1]))⟩, ⟨true, (some (.cells [.int .i64 x2]))⟩], 2, []⟩ = w72 x0 x1 x2 from by kernel_rfl).trans
 (show w72 x0 x1 x2 = a72 x0 x1 x2 (r72 x0 x1 x2) from by unfold w72 r72; exact (cond_app (a72 x0 x1 x2) _ rfl (cond_app (a72 x0 x1 x2) _ rfl rfl)))
noncomputable def s72 (args : List Value) (s : St) : List (Bool × Value × St) :=
 match args, s.h with
 | [.int .i64 x0, .pointer (some ⟨f0, f1, some f2⟩), .pointer (some ⟨f3, f4, some f5⟩)], [⟨true, some (.cells [.int .i64 x1])⟩, ⟨true, some (.cells [.int .i64 x2])⟩] => if f0 = 0 ∧ f1 = 0 ∧ f2 = 0 ∧ f3 = 1 ∧ f4 = 0 ∧ f5 = 0 then [(true, .int .i64 (r72 x0 x1 x2), ⟨[⟨true, (some (.cells [.int .i64 x1]))⟩, ⟨true, (some (.cells [.int .i64 x2]))⟩], 2, []⟩)] else T35 72 args s
 | _, _ => T35 72 args s
noncomputable def T36 : CallF := addF T35 72 s72
set_option maxRecDepth 100000 in
set_option maxHeartbeats 4000000 in
theorem ok36 : CfOk Try.prog T36 := by
  refine cfOk_add ok35 fun args s r s' h1 h2 h3 => ?_
  unfold s72 at h3; split at h3
  · rename_i h; split at h3
    · rename_i hc; obtain ⟨rfl, rfl, rfl, rfl, rfl, rfl⟩ := hc; exact callOk ok35 Try.func72 h1 h2 h (lfOkF_no _ _).body (e72 _ _ _) rfl h3
    · exact ok35 _ _ _ _ _ h1 h2 h3
  · exact ok35 _ _ _ _ _ h1 h2 h3

/-- impl.SwapRooms, loop 0: one round -/
noncomputable def b22l0 (ih : Int → Int → Int → Int → List (List Int) → List (List Int) → List (List Int) → List (List Int) → (Nat × List (List Int))) (x0 x1 x2 x3 : Int) (x4 x5 x6 x7 : List (List Int)) : Nat × List (List Int) :=
 cond (decide ((x1 : Int) < x0))
  (cond ((decide ((0 : Int) ≤ x1)) && (Nat.blt (Int.toNat x1) x4.length))
   (cond ((decide ((0 : Int) ≤ x1)) && (Nat.blt (Int.toNat x1) ((x4.modify (Int.toNat x1) (fun r => spl 8 r 0 [(r72 ((x4.getD (Int.toNat x1) []).getD 0 0) x2 x3)])).length)))
    (ih x0 (IntKind.i64.wrap (x1 + 1)) x2 x3 ((x4.modify (Int.toNat x1) (fun r => spl 8 r 0 [(r72 ((x4.getD (Int.toNat x1) []).getD 0 0) x2 x3)])).modify (Int.toNat x1) (fun r => spl 8 r 1 [(r72 ((x4.getD (Int.toNat x1) []).getD 1 0) x2 x3)])) x5 x6 x7)
    (1, []))
   (1, []))
  (0, x4)
noncomputable def r22l0 : Nat → Int → Int → Int → Int → List (List Int) → List (List Int) → List (List Int) → List (List Int) → (Nat × List (List Int))
 | 0 => fun _ _ _ _ _ _ _ _ => (1, [])
 | m + 1 => b22l0 (r22l0 m)
noncomputable def a22l0 (x0 x1 x2 x3 : Int) (x4 x5 x6 x7 : List (List Int)) (p : Nat × List (List Int)) : Option (Fin' × List Value × St) := firstT ([((Nat.beq (p.1) 0), .exit 0, [.pointer (some ⟨0, 0, some 0⟩), .pointer (some ⟨1, 0, some 0⟩), .func (.func 72) #[] #[.pointer (some ⟨2, 0, some 0⟩), .pointer (some ⟨3, 0, some 0⟩)]], ⟨[⟨true, (some (.cells [wsl 5, wsl 6, wsl 4, wsl 7]))⟩, ⟨true, (some (.cells [.slice none 0 0, .slice none 0 0, .slice none 0 0, .slice none 0 0]))⟩, ⟨true, (some (.cells [.int .i64 x2]))⟩, ⟨true, (some (.cells [.int .i64 x3]))⟩, ⟨true, (some (.tab sc0 (p.2)))⟩, ⟨true, (some (.tab [.fl .f32] x5))⟩, ⟨true, (some (.tab [.fl .f32] x6))⟩, ⟨true, (some (.tab sc1 x7))⟩], 8, [4]⟩)].map fun (b, x) => (b, (x.1, frameOf 132 [3, 6, 9] x.2.1, x.2.2)))
noncomputable def u22l0 (x0 x1 x2 x3 : Int) (x4 x5 x6 x7 : List (List Int)) (p : Nat × List (List Int)) : Option (Fin' × List Value × St) := alts ([((Nat.beq (p.1) 0), .exit 0, [.pointer (some ⟨0, 0, some 0⟩), .pointer (some ⟨1, 0, some 0⟩), .func (.func 72) #[] #[.pointer (some ⟨2, 0, some 0⟩), .pointer (some ⟨3, 0, some 0⟩)]], ⟨[⟨true, (some (.cells [wsl 5, wsl 6, wsl 4, wsl 7]))⟩, ⟨true, (some (.cells [.slice none 0 0, .slice none 0 0, .slice none 0 0, .slice none 0 0]))⟩, ⟨true, (some (.cells [.int .i64 x2]))⟩, ⟨true, (some (.cells [.int .i64 x3]))⟩, ⟨true, (some (.tab sc0 (p.2)))⟩, ⟨true, (some (.tab [.fl .f32] x5))⟩, ⟨true, (some (.tab [.fl .f32] x6))⟩, ⟨true, (some (.tab sc1 x7))⟩], 8, [4]⟩)].map fun (b, x) => (b, (x.1, frameOf 132 [3, 6, 9] x.2.1, x.2.2))) some
theorem v22l0 (x0 x1 x2 x3 : Int) (x4 x5 x6 x7 : List (List Int)) (p : Nat × List (List Int)) : u22l0 x0 x1 x2 x3 x4 x5 x6 x7 p = a22l0 x0 x1 x2 x3 x4 x5 x6 x7 p := alts_first _
noncomputable def q22l0 (m : Nat) : SumK := fun vals s =>
 match vals, s.h with
 | [.pointer (some ⟨f0, f1, some f2⟩), .pointer (some ⟨f3, f4, some f5⟩), .func (.func f6) ⟨[]⟩ ⟨[.pointer (some ⟨f7, f8, some f9⟩), .pointer (some ⟨f10, f11, some f12⟩)]⟩, .iface f13 .nilIface, .int .i64 x0, .int .i64 x1], [⟨true, some (.cells [.iface f14 .nilIface, .iface f15 .nilIface, .iface f16 .nilIface, .iface f17 .nilIface])⟩, ⟨true, some (.cells [.slice none f18 f19, .slice none f20 f21, .slice none f22 f23, .slice none f24 f25])⟩, ⟨true, some (.cells [.int .i64 x2])⟩, ⟨true, some (.cells [.int .i64 x3])⟩, ⟨true, some (.tab [.int .i64, .int .i64, .fl .f32, .fl .f32, .fl .f32, .fl .f32, .fl .f32, .fl .f32] x4)⟩, ⟨true, some (.tab [.fl .f32] x5)⟩, ⟨true, some (.tab [.fl .f32] x6)⟩, ⟨true, some (.tab [.int .i64, .int .i64, .fl .f32, .fl .f32] x7)⟩] => if f0 = 0 ∧ f1 = 0 ∧ f2 = 0 ∧ f3 = 1 ∧ f4 = 0 ∧ f5 = 0 ∧ f6 = 72 ∧ f7 = 2 ∧ f8 = 0 ∧ f9 = 0 ∧ f10 = 3 ∧ f11 = 0 ∧ f12 = 0 ∧ f13 = 4 ∧ f14 = 5 ∧ f15 = 6 ∧ f16 = 4 ∧ f17 = 7 ∧ f18 = 0 ∧ f19 = 0 ∧ f20 = 0 ∧ f21 = 0 ∧ f22 = 0 ∧ f23 = 0 ∧ f24 = 0 ∧ f25 = 0 then [((Nat.beq ((r22l0 m x0 x1 x2 x3 x4 x5 x6 x7).1) 0), .exit 0, [.pointer (some ⟨0, 0, some 0⟩), .pointer (some ⟨1, 0, some 0⟩), .func (.func 72) #[] #[.pointer (some ⟨2, 0, some 0⟩), .pointer (some ⟨3, 0, some 0⟩)]], ⟨[⟨true, (some (.cells [wsl 5, wsl 6, wsl 4, wsl 7]))⟩, ⟨true, (some (.cells [.slice none 0 0, .slice none 0 0, .slice none 0 0, .slice none 0 0]))⟩, ⟨true, (some (.cells [.int .i64 x2]))⟩, ⟨true, (some (.cells [.int .i64 x3]))⟩, ⟨true, (some (.tab sc0 ((r22l0 m x0 x1 x2 x3 x4 x5 x6 x7).2)))⟩, ⟨true, (some (.tab [.fl .f32] x5))⟩, ⟨true, (some (.tab [.fl .f32] x6))⟩, ⟨true, (some (.tab sc1 x7))⟩], 8, [4]⟩)] else noQ vals s
 | _, _ => noQ vals s
noncomputable def w22l0 (ih : Int → Int → Int → Int → List (List Int) → List (List Int) → List (List Int) → List (List Int) → (Nat × List (List Int))) (x0 x1 x2 x3 : Int) (x4 x5 x6 x7 : List (List Int)) : Option (Fin' × List Value × St) :=
 (cond (decide ((x1 : Int) < x0))
 (cond ((decide ((0 : Int) ≤ x1)) && (Nat.blt (Int.toNat x1) x4.length))
  (cond (Nat.blt (Int.toNat x1) x4.length)
   (cond ((decide ((0 : Int) ≤ x1)) && (Nat.blt (Int.toNat x1) x4.length))
    (cond (Nat.blt (Int.toNat x1) x4.length)
     (cond ((decide ((0 : Int) ≤ x1)) && (Nat.blt (Int.toNat x1) ((x4.modify (Int.toNat x1) (fun r => spl 8 r 0 [(r72 ((x4.getD (Int.toNat x1) []).getD 0 0) x2 x3)])).length)))
      (cond (Nat.blt (Int.toNat x1) ((x4.modify (Int.toNat x1) (fun r => spl 8 r 0 [(r72 ((x4.getD (Int.toNat x1) []).getD 0 0) x2 x3)])).length))
       (u22l0 x0 x1 x2 x3 x4 x5 x6 x7 (ih x0 (IntKind.i64.wrap (x1 + 1)) x2 x3 ((x4.modify (Int.toNat x1) (fun r => spl 8 r 0 [(r72 ((x4.getD (Int.toNat x1) []).getD 0 0) x2 x3)])).modify (Int.toNat x1) (fun r => spl 8 r 1 [(r72 ((x4.getD (Int.toNat x1) []).getD 1 0) x2 x3)])) x5 x6 x7))
       none)
      none)
     none)
    none)
   none)
  none)
 (a22l0 x0 x1 x2 x3 x4 x5 x6 x7 (0, x4)))
set_option maxRecDepth 100000 in
set_option maxHeartbeats 4000000 in
theorem e22l0 (m : Nat) (x0 x1 x2 x3 : Int) (x4 x5 x6 x7 : List (List Int)) : evC Try.prog ext T36 noL 200 (loopN Try.f22 0) (loopTail ([3, 6, 9, 78, 79, 80], []) [3, 6, 9] [4] (sumK 132 [3, 6, 9, 78, 79, 80] [3, 6, 9] (q22l0 m))) (frameOf 132 [3, 6, 9, 78, 79, 80] [.pointer (some ⟨0, 0, some 0⟩), .pointer (some ⟨1, 0, some 0⟩), .func (.func 72) #[] #[.pointer (some ⟨2, 0, some 0⟩), .pointer (some ⟨3, 0, some 0⟩)], wsl 4, .int .i64 x0, .int .i64 x1]) ⟨[⟨true, (some (.cells [wsl 5, wsl 6, wsl 4, wsl 7]))⟩, ⟨true, (some (.cells [.slice none 0 0, .slice none 0 0, .slice none 0 0, .slice none 0 0]))⟩, ⟨true, (some (.cells [.int .i64 x2]))⟩, ⟨true, (some (.cells [.int .i64 x3]))⟩, ⟨true, (some (.tab sc0 x4))⟩, ⟨true, (some (.tab [.fl .f32] x5))⟩, ⟨true, (some (.tab [.fl .f32] x6))⟩, ⟨true, (some (.tab sc1 x7))⟩], 8, []⟩ = firstT ([((Nat.beq ((r22l0 (m + 1) x0 x1 x2 x3 x4 x5 x6 x7).1) 0), .exit 0, [.pointer (some ⟨0, 0, some 0⟩), .pointer (some ⟨1, 0, some 0⟩), .func (.func 72) #[] #[.pointer (some ⟨2, 0, some 0⟩), .pointer (some ⟨3, 0, some 0⟩)]], ⟨[⟨true, (some (.cells [wsl 5, wsl 6, wsl 4, wsl 7]))⟩, ⟨true, (some (.cells [.slice none 0 0, .slice none 0 0, .slice none 0 0, .slice none 0 0]))⟩, ⟨true, (some (.cells [.int .i64 x2]))⟩, ⟨true, (some (.cells [.int .i64 x3]))⟩, ⟨true, (some (.tab sc0 ((r22l0 (m + 1) x0 x1 x2 x3 x4 x5 x6 x7).2)))⟩, ⟨true, (some (.tab [.fl .f32] x5))⟩, ⟨true, (some (.tab [.fl .f32] x6))⟩, ⟨true, (some (.tab sc1 x7))⟩], 8, [4]⟩)].map fun (b, x) => (b, (x.1, frameOf 132 [3, 6, 9] x.2.1, x.2.2))) :=
 (show evC Try.prog ext T36 noL 200 (loopN Try.f22 0) (loopTail ([3, 6, 9, 78, 79, 80], []) [3, 6, 9] [4] (sumK 132 [3, 6, 9, 78, 79, 80] [3, 6, 9] (q22l0 m))) (frameOf 132 [3, 6, 9, 78, 79, 80] [.pointer (some ⟨0, 0, some 0⟩), .pointer (some ⟨1, 0, some 0⟩), .func (.func 72) #[] #[.pointer (some ⟨2, 0, some 0⟩), .pointer (some ⟨3, 0, some 0⟩)], wsl 4, .int .i64 x0, .int .i64 x1]) ⟨[⟨true, (some (.cells [wsl 5, wsl 6, wsl 4, wsl 7]))⟩, ⟨true, (some (.cells [.slice none 0 0, .slice none 0 0, .slice none 0 0, .slice none 0 0]))⟩, ⟨true, (some (.cells [.int .i64 x2]))⟩, ⟨true, (some (.cells [.int .i64 x3]))⟩, ⟨true, (some (.tab sc0 x4))⟩, ⟨true, (some (.tab [.fl .f32] x5))⟩, ⟨true, (some (.tab [.fl .f32] x6))⟩, ⟨true, (some (.tab sc1 x7))⟩], 8, []⟩ = w22l0 (r22l0 m) x0 x1 x2 x3 x4 x5 x6 x7 from by kernel_rfl).trans
 (show w22l0 (r22l0 m) x0 x1 x2 x3 x4 x5 x6 x7 = a22l0 x0 x1 x2 x3 x4 x5 x6 x7 (r22l0 (m + 1) x0 x1 x2 x3 x4 x5 x6 x7) from by unfold w22l0; show _ = a22l0 x0 x1 x2 x3 x4 x5 x6 x7 (b22l0 (r22l0 m) x0 x1 x2 x3 x4 x5 x6 x7); unfold b22l0; exact (cond_both (a22l0 x0 x1 x2 x3 x4 x5 x6 x7) _ (fun h0 => (cond_both (a22l0 x0 x1 x2 x3 x4 x5 x6 x7) _ (fun h1 => (cond_t (ev_and2 h1) (cond_t h1 (cond_t (ev_and2 h1) (cond_both (a22l0 x0 x1 x2 x3 x4 x5 x6 x7) _ (fun h2 => (cond_t (ev_and2 h2) (v22l0 x0 x1 x2 x3 x4 x5 x6 x7 ((r22l0 m) x0 (IntKind.i64.wrap (x1 + 1)) x2 x3 ((x4.modify (Int.toNat x1) (fun r => spl 8 r 0 [(r72 ((x4.getD (Int.toNat x1) []).getD 0 0) x2 x3)])).modify (Int.toNat x1) (fun r => spl 8 r 1 [(r72 ((x4.getD (Int.toNat x1) []).getD 1 0) x2 x3)])) x5 x6 x7)))) (fun h2 => rfl)))))) (fun h1 => rfl))) (fun h0 => rfl)))
set_option maxRecDepth 100000 in
set_option maxHeartbeats 4000000 in
theorem qm22l0 : ∀ m, SumKOk Try.prog (loopN Try.f22 0) 132 [3, 6, 9, 78, 79, 80] [3, 6, 9] (q22l0 m) := by
  intro m
  induction m with
  | zero =>
    intro vals s x h1 h2 h3
    unfold q22l0 at h3; split at h3
    · rename_i h; split at h3
      · rename_i hc; obtain ⟨rfl, rfl, rfl, rfl, rfl, rfl, rfl, rfl, rfl, rfl, rfl, rfl, rfl, rfl, rfl, rfl, rfl, rfl, rfl, rfl, rfl, rfl, rfl, rfl, rfl, rfl⟩ := hc; exact absurd h3 (by simp [r22l0, firstT, Nat.beq])
      · exact noQ_ok _ _ _ h1 h2 h3
    · exact noQ_ok _ _ _ h1 h2 h3
  | succ m ih =>
    intro vals s x h1 h2 h3
    unfold q22l0 at h3; split at h3
    · rename_i h; split at h3
      · rename_i hc; obtain ⟨rfl, rfl, rfl, rfl, rfl, rfl, rfl, rfl, rfl, rfl, rfl, rfl, rfl, rfl, rfl, rfl, rfl, rfl, rfl, rfl, rfl, rfl, rfl, rfl, rfl, rfl⟩ := hc; exact sum_step ok36 extOk mixed ((lfOkF_no _ _).inner (by kernel_rfl)) ih h1 h2 h (e22l0 m _ _ _ _ _ _ _ _) rfl h3
      · exact noQ_ok _ _ _ h1 h2 h3
    · exact noQ_ok _ _ _ h1 h2 h3
noncomputable def Q22l0 : SumK := fun vals s => q22l0 (fuelOf vals s.h) vals s
theorem qok22l0 : SumKOk Try.prog (loopN Try.f22 0) 132 [3, 6, 9, 78, 79, 80] [3, 6, 9] Q22l0 := fuel_ok qm22l0 fuelOf
noncomputable def L22_1 : LoopT := addL noL 12 ([3, 6, 9, 78, 79, 80], []) (sumK 132 [3, 6, 9, 78, 79, 80] [3, 6, 9] Q22l0)
theorem lok22_1 : LfOkF Try.prog L22_1 Try.f22 := lfOkF_add (lfOkF_no _ _) qok22l0 (by kernel_rfl) (by kernel_rfl) (by kernel_rfl)

/-- impl.SwapRooms, loop 1: one round -/
noncomputable def b22l1 (ih : Int → Int → Int → Int → List (List Int) → List (List Int) → List (List Int) → List (List Int) → (Nat × List (List Int))) (x0 x1 x2 x3 : Int) (x4 x5 x6 x7 : List (List Int)) : Nat × List (List Int) :=
 cond (decide ((x1 : Int) < x0))
  (cond ((decide ((0 : Int) ≤ x1)) && (Nat.blt (Int.toNat x1) x4.length))
   (cond ((decide ((0 : Int) ≤ x1)) && (Nat.blt (Int.toNat x1) ((x4.modify (Int.toNat x1) (fun r => spl 4 r 0 [(r72 ((x4.getD (Int.toNat x1) []).getD 0 0) x2 x3)])).length)))
    (ih x0 (IntKind.i64.wrap (x1 + 1)) x2 x3 ((x4.modify (Int.toNat x1) (fun r => spl 4 r 0 [(r72 ((x4.getD (Int.toNat x1) []).getD 0 0) x2 x3)])).modify (Int.toNat x1) (fun r => spl 4 r 1 [(r72 ((x4.getD (Int.toNat x1) []).getD 1 0) x2 x3)])) x5 x6 x7)
    (1, []))
   (1, []))
  (0, x4)
noncomputable def r22l1 : Nat → Int → Int → Int → Int → List (List Int) → List (List Int) → List (List Int) → List (List Int) → (Nat × List (List Int))
 | 0 => fun _ _ _ _ _ _ _ _ => (1, [])
 | m + 1 => b22l1 (r22l1 m)
noncomputable def a22l1 (x0 x1 x2 x3 : Int) (x4 x5 x6 x7 : List (List Int)) (p : Nat × List (List Int)) : Option (Fin' × List Value × St) := firstT ([((Nat.beq (p.1) 0), .exit 2, [.pointer (some ⟨0, 0, some 0⟩), .pointer (some ⟨1, 0, some 0⟩)], ⟨[⟨true, (some (.cells [wsl 5, wsl 6, wsl 7, wsl 4]))⟩, ⟨true, (some (.cells [.slice none 0 0, .slice none 0 0, .slice none 0 0, .slice none 0 0]))⟩, ⟨true, (some (.cells [.int .i64 x2]))⟩, ⟨true, (some (.cells [.int .i64 x3]))⟩, ⟨true, (some (.tab sc1 (p.2)))⟩, ⟨true, (some (.tab [.fl .f32] x5))⟩, ⟨true, (some (.tab [.fl .f32] x6))⟩, ⟨true, (some (.tab sc0 x7))⟩], 8, [4]⟩)].map fun (b, x) => (b, (x.1, frameOf 132 [3, 6] x.2.1, x.2.2)))
noncomputable def u22l1 (x0 x1 x2 x3 : Int) (x4 x5 x6 x7 : List (List Int)) (p : Nat × List (List Int)) : Option (Fin' × List Value × St) := alts ([((Nat.beq (p.1) 0), .exit 2, [.pointer (some ⟨0, 0, some 0⟩), .pointer (some ⟨1, 0, some 0⟩)], ⟨[⟨true, (some (.cells [wsl 5, wsl 6, wsl 7, wsl 4]))⟩, ⟨true, (some (.cells [.slice none 0 0, .slice none 0 0, .slice none 0 0, .slice none 0 0]))⟩, ⟨true, (some (.cells [.int .i64 x2]))⟩, ⟨true, (some (.cells [.int .i64 x3]))⟩, ⟨true, (some (.tab sc1 (p.2)))⟩, ⟨true, (some (.tab [.fl .f32] x5))⟩, ⟨true, (some (.tab [.fl .f32] x6))⟩, ⟨true, (some (.tab sc0 x7))⟩], 8, [4]⟩)].map fun (b, x) => (b, (x.1, frameOf 132 [3, 6] x.2.1, x.2.2))) some
theorem v22l1 (x0 x1 x2 x3 : Int) (x4 x5 x6 x7 : List (List Int)) (p : Nat × List (List Int)) : u22l1 x0 x1 x2 x3 x4 x5 x6 x7 p = a22l1 x0 x1 x2 x3 x4 x5 x6 x7 p := alts_first _
noncomputable def q22l1 (m : Nat) : SumK := fun vals s =>
 match vals, s.h with
 | [.pointer (some ⟨f0, f1, some f2⟩), .pointer (some ⟨f3, f4, some f5⟩), .func (.func f6) ⟨[]⟩ ⟨[.pointer (some ⟨f7, f8, some f9⟩), .pointer (some ⟨f10, f11, some f12⟩)]⟩, .iface f13 .nilIface, .int .i64 x0, .int .i64 x1], [⟨true, some (.cells [.iface f14 .nilIface, .iface f15 .nilIface, .iface f16 .nilIface, .iface f17 .nilIface])⟩, ⟨true, some (.cells [.slice none f18 f19, .slice none f20 f21, .slice none f22 f23, .slice none f24 f25])⟩, ⟨true, some (.cells [.int .i64 x2])⟩, ⟨true, some (.cells [.int .i64 x3])⟩, ⟨true, some (.tab [.int .i64, .int .i64, .fl .f32, .fl .f32] x4)⟩, ⟨true, some (.tab [.fl .f32] x5)⟩, ⟨true, some (.tab [.fl .f32] x6)⟩, ⟨true, some (.tab [.int .i64, .int .i64, .fl .f32, .fl .f32, .fl .f32, .fl .f32, .fl .f32, .fl .f32] x7)⟩] => if f0 = 0 ∧ f1 = 0 ∧ f2 = 0 ∧ f3 = 1 ∧ f4 = 0 ∧ f5 = 0 ∧ f6 = 72 ∧ f7 = 2 ∧ f8 = 0 ∧ f9 = 0 ∧ f10 = 3 ∧ f11 = 0 ∧ f12 = 0 ∧ f13 = 4 ∧ f14 = 5 ∧ f15 = 6 ∧ f16 = 7 ∧ f17 = 4 ∧ f18 = 0 ∧ f19 = 0 ∧ f20 = 0 ∧ f21 = 0 ∧ f22 = 0 ∧ f23 = 0 ∧ f24 = 0 ∧ f25 = 0 then [((Nat.beq ((r22l1 m x0 x1 x2 x3 x4 x5 x6 x7).1) 0), .exit 2, [.pointer (some ⟨0, 0, some 0⟩), .pointer (some ⟨1, 0, some 0⟩)], ⟨[⟨true, (some (.cells [wsl 5, wsl 6, wsl 7, wsl 4]))⟩, ⟨true, (some (.cells [.slice none 0 0, .slice none 0 0, .slice none 0 0, .slice none 0 0]))⟩, ⟨true, (some (.cells [.int .i64 x2]))⟩, ⟨true, (some (.cells [.int .i64 x3]))⟩, ⟨true, (some (.tab sc1 ((r22l1 m x0 x1 x2 x3 x4 x5 x6 x7).2)))⟩, ⟨true, (some (.tab [.fl .f32] x5))⟩, ⟨true, (some (.tab [.fl .f32] x6))⟩, ⟨true, (some (.tab sc0 x7))⟩], 8, [4]⟩)] else noQ vals s
 | _, _ => noQ vals s
noncomputable def w22l1 (ih : Int → Int → Int → Int → List (List Int) → List (List Int) → List (List Int) → List (List Int) → (Nat × List (List Int))) (x0 x1 x2 x3 : Int) (x4 x5 x6 x7 : List (List Int)) : Option (Fin' × List Value × St) :=
 (cond (decide ((x1 : Int) < x0))
 (cond ((decide ((0 : Int) ≤ x1)) && (Nat.blt (Int.toNat x1) x4.length))
  (cond (Nat.blt (Int.toNat x1) x4.length)
   (cond ((decide ((0 : Int) ≤ x1)) && (Nat.blt (Int.toNat x1) x4.length))
    (cond (Nat.blt (Int.toNat x1) x4.length)
     (cond ((decide ((0 : Int) ≤ x1)) && (Nat.blt (Int.toNat x1) ((x4.modify (Int.toNat x1) (fun r => spl 4 r 0 [(r72 ((x4.getD (Int.toNat x1) []).getD 0 0) x2 x3)])).length)))
      (cond (Nat.blt (Int.toNat x1) ((x4.modify (Int.toNat x1) (fun r => spl 4 r 0 [(r72 ((x4.getD (Int.toNat x1) []).getD 0 0) x2 x3)])).length))
       (u22l1 x0 x1 x2 x3 x4 x5 x6 x7 (ih x0 (IntKind.i64.wrap (x1 + 1)) x2 x3 ((x4.modify (Int.toNat x1) (fun r => spl 4 r 0 [(r72 ((x4.getD (Int.toNat x1) []).getD 0 0) x2 x3)])).modify (Int.toNat x1) (fun r => spl 4 r 1 [(r72 ((x4.getD (Int.toNat x1) []).getD 1 0) x2 x3)])) x5 x6 x7))
       none)
      none)
     none)
    none)
   none)
  none)
 (a22l1 x0 x1 x2 x3 x4 x5 x6 x7 (0, x4)))
set_option maxRecDepth 100000 in
set_option maxHeartbeats 4000000 in
theorem e22l1 (m : Nat) (x0 x1 x2 x3 : Int) (x4 x5 x6 x7 : List (List Int)) : evC Try.prog ext T36 L22_1 200 (loopN Try.f22 1) (loopTail ([3, 6, 9, 105, 106, 107], []) [3, 6] [4] (sumK 132 [3, 6, 9, 105, 106, 107] [3, 6] (q22l1 m))) (frameOf 132 [3, 6, 9, 105, 106, 107] [.pointer (some ⟨0, 0, some 0⟩), .pointer (some ⟨1, 0, some 0⟩), .func (.func 72) #[] #[.pointer (some ⟨2, 0, some 0⟩), .pointer (some ⟨3, 0, some 0⟩)], wsl 4, .int .i64 x0, .int .i64 x1]) ⟨[⟨true, (some (.cells [wsl 5, wsl 6, wsl 7, wsl 4]))⟩, ⟨true, (some (.cells [.slice none 0 0, .slice none 0 0, .slice none 0 0, .slice none 0 0]))⟩, ⟨true, (some (.cells [.int .i64 x2]))⟩, ⟨true, (some (.cells [.int .i64 x3]))⟩, ⟨true, (some (.tab sc1 x4))⟩, ⟨true, (some (.tab [.fl .f32] x5))⟩, ⟨true, (some (.tab [.fl .f32] x6))⟩, ⟨true, (some (.tab sc0 x7))⟩], 8, []⟩ = firstT ([((Nat.beq ((r22l1 (m + 1) x0 x1 x2 x3 x4 x5 x6 x7).1) 0), .exit 2, [.pointer (some ⟨0, 0, some 0⟩), .pointer (some ⟨1, 0, some 0⟩)], ⟨[⟨true, (some (.cells [wsl 5, wsl 6, wsl 7, wsl 4]))⟩, ⟨true, (some (.cells [.slice none 0 0, .slice none 0 0, .slice none 0 0, .slice none 0 0]))⟩, ⟨true, (some (.cells [.int .i64 x2]))⟩, ⟨true, (some (.cells [.int .i64 x3]))⟩, ⟨true, (some (.tab sc1 ((r22l1 (m + 1) x0 x1 x2 x3 x4 x5 x6 x7).2)))⟩, ⟨true, (some (.tab [.fl .f32] x5))⟩, ⟨true, (some (.tab [.fl .f32] x6))⟩, ⟨true, (some (.tab sc0 x7))⟩], 8, [4]⟩)].map fun (b, x) => (b, (x.1, frameOf 132 [3, 6] x.2.1, x.2.2))) :=
 (show evC Try.prog ext T36 L22_1 200 (loopN Try.f22 1) (loopTail ([3, 6, 9, 105, 106, 107], []) [3, 6] [4] (sumK 132 [3, 6, 9, 105, 106, 107] [3, 6] (q22l1 m))) (frameOf 132 [3, 6, 9, 105, 106, 107] [.pointer (some ⟨0, 0, some 0⟩), .pointer (some ⟨1, 0, some 0⟩), .func (.func 72) #[] #[.pointer (some ⟨2, 0, some 0⟩), .pointer (some ⟨3, 0, some 0⟩)], wsl 4, .int .i64 x0, .int .i64 x1]) ⟨[⟨true, (some (.cells [wsl 5, wsl 6, wsl 7, wsl 4]))⟩, ⟨true, (some (.cells [.slice none 0 0, .slice none 0 0, .slice none 0 0, .slice none 0 0]))⟩, ⟨true, (some (.cells [.int .i64 x2]))⟩, ⟨true, (some (.cells [.int .i64 x3]))⟩, ⟨true, (some (.tab sc1 x4))⟩, ⟨true, (some (.tab [.fl .f32] x5))⟩, ⟨true, (some (.tab [.fl .f32] x6))⟩, ⟨true, (some (.tab sc0 x7))⟩], 8, []⟩ = w22l1 (r22l1 m) x0 x1 x2 x3 x4 x5 x6 x7 from by kernel_rfl).trans
 (show w22l1 (r22l1 m) x0 x1 x2 x3 x4 x5 x6 x7 = a22l1 x0 x1 x2 x3 x4 x5 x6 x7 (r22l1 (m + 1) x0 x1 x2 x3 x4 x5 x6 x7) from by unfold w22l1; show _ = a22l1 x0 x1 x2 x3 x4 x5 x6 x7 (b22l1 (r22l1 m) x0 x1 x2 x3 x4 x5 x6 x7); unfold b22l1; exact (cond_both (a22l1 x0 x1 x2 x3 x4 x5 x6 x7) _ (fun h0 => (cond_both (a22l1 x0 x1 x2 x3 x4 x5 x6 x7) _ (fun h1 => (cond_t (ev_and2 h1) (cond_t h1 (cond_t (ev_and2 h1) (cond_both (a22l1 x0 x1 x2 x3 x4 x5 x6 x7) _ (fun h2 => (cond_t (ev_and2 h2) (v22l1 x0 x1 x2 x3 x4 x5 x6 x7 ((r22l1 m) x0 (IntKind.i64.wrap (x1 + 1)) x2 x3 ((x4.modify (Int.toNat x1) (fun r => spl 4 r 0 [(r72 ((x4.getD (Int.toNat x1) []).getD 0 0) x2 x3)])).modify (Int.toNat x1) (fun r => spl 4 r 1 [(r72 ((x4.getD (Int.toNat x1) []).getD 1 0) x2 x3)])) x5 x6 x7)))) (fun h2 => rfl)))))) (fun h1 => rfl))) (fun h0 => rfl)))
set_option maxRecDepth 100000 in
set_option maxHeartbeats 4000000 in
theorem qm22l1 : ∀ m, SumKOk Try.prog (loopN Try.f22 1) 132 [3, 6, 9, 105, 106, 107] [3, 6] (q22l1 m) := by
  intro m
  induction m with
  | zero =>
    intro vals s x h1 h2 h3
    unfold q22l1 at h3; split at h3
    · rename_i h; split at h3
      · rename_i hc; obtain ⟨rfl, rfl, rfl, rfl, rfl, rfl, rfl, rfl, rfl, rfl, rfl, rfl, rfl, rfl, rfl, rfl, rfl, rfl, rfl, rfl, rfl, rfl, rfl, rfl, rfl, rfl⟩ := hc; exact absurd h3 (by simp [r22l1, firstT, Nat.beq])
      · exact noQ_ok _ _ _ h1 h2 h3
    · exact noQ_ok _ _ _ h1 h2 h3
  | succ m ih =>
    intro vals s x h1 h2 h3
    unfold q22l1 at h3; split at h3
    · rename_i h; split at h3
      · rename_i hc; obtain ⟨rfl, rfl, rfl, rfl, rfl, rfl, rfl, rfl, rfl, rfl, rfl, rfl, rfl, rfl, rfl, rfl, rfl, rfl, rfl, rfl, rfl, rfl, rfl, rfl, rfl, rfl⟩ := hc; exact sum_step ok36 extOk mixed (lok22_1.inner (by kernel_rfl)) ih h1 h2 h (e22l1 m _ _ _ _ _ _ _ _) rfl h3
      · exact noQ_ok _ _ _ h1 h2 h3
    · exact noQ_ok _ _ _ h1 h2 h3
noncomputable def Q22l1 : SumK := fun vals s => q22l1 (fuelOf vals s.h) vals s
theorem qok22l1 : SumKOk Try.prog (loopN Try.f22 1) 132 [3, 6, 9, 105, 106, 107] [3, 6] Q22l1 := fuel_ok qm22l1 fuelOf
noncomputable def L22_2 : LoopT := addL L22_1 18 ([3, 6, 9, 105, 106, 107], []) (sumK 132 [3, 6, 9, 105, 106, 107] [3, 6] Q22l1)
theorem lok22_2 : LfOkF Try.prog L22_2 Try.f22 := lfOkF_add lok22_1 qok22l1 (by kernel_rfl) (by kernel_rfl) (by kernel_rfl)

/-- impl.SwapRooms -/
noncomputable def r22 (x0 x1 : Int) (x2 x3 x4 x5 : List (List Int)) : Nat × Int × List (List Int) × List (List Int) × List (List Int) × List (List Int) :=
 let c54 := (r22l0 (1000 + ((r73 x2 x3 x4 x5).2.2.2.2).length + ((((r73 x2 x3 x4 x5).2.2.1).set (Int.toNat x0) [(((Int.toNat ((((r73 x2 x3 x4 x5).2.2.1).getD (Int.toNat x1) []).getD 0 0)) : Nat) : Int)]).set (Int.toNat x1) [(((Int.toNat ((((r73 x2 x3 x4 x5).2.2.1).getD (Int.toNat x0) []).getD 0 0)) : Nat) : Int)]).length + ((((r73 x2 x3 x4 x5).2.1).set (Int.toNat x0) [(((Int.toNat ((((r73 x2 x3 x4 x5).2.1).getD (Int.toNat x1) []).getD 0 0)) : Nat) : Int)]).set (Int.toNat x1) [(((Int.toNat ((((r73 x2 x3 x4 x5).2.1).getD (Int.toNat x0) []).getD 0 0)) : Nat) : Int)]).length + ((r73 x2 x3 x4 x5).2.2.2.1).length) ((((r73 x2 x3 x4 x5).2.2.2.1).length : Nat) : Int) 0 x0 x1 ((r73 x2 x3 x4 x5).2.2.2.1) ((((r73 x2 x3 x4 x5).2.1).set (Int.toNat x0) [(((Int.toNat ((((r73 x2 x3 x4 x5).2.1).getD (Int.toNat x1) []).getD 0 0)) : Nat) : Int)]).set (Int.toNat x1) [(((Int.toNat ((((r73 x2 x3 x4 x5).2.1).getD (Int.toNat x0) []).getD 0 0)) : Nat) : Int)]) ((((r73 x2 x3 x4 x5).2.2.1).set (Int.toNat x0) [(((Int.toNat ((((r73 x2 x3 x4 x5).2.2.1).getD (Int.toNat x1) []).getD 0 0)) : Nat) : Int)]).set (Int.toNat x1) [(((Int.toNat ((((r73 x2 x3 x4 x5).2.2.1).getD (Int.toNat x0) []).getD 0 0)) : Nat) : Int)]) ((r73 x2 x3 x4 x5).2.2.2.2))
 let c55 := (r22l1 (1000 + (c54.2).length + ((((r73 x2 x3 x4 x5).2.2.1).set (Int.toNat x0) [(((Int.toNat ((((r73 x2 x3 x4 x5).2.2.1).getD (Int.toNat x1) []).getD 0 0)) : Nat) : Int)]).set (Int.toNat x1) [(((Int.toNat ((((r73 x2 x3 x4 x5).2.2.1).getD (Int.toNat x0) []).getD 0 0)) : Nat) : Int)]).length + ((((r73 x2 x3 x4 x5).2.1).set (Int.toNat x0) [(((Int.toNat ((((r73 x2 x3 x4 x5).2.1).getD (Int.toNat x1) []).getD 0 0)) : Nat) : Int)]).set (Int.toNat x1) [(((Int.toNat ((((r73 x2 x3 x4 x5).2.1).getD (Int.toNat x0) []).getD 0 0)) : Nat) : Int)]).length + ((r73 x2 x3 x4 x5).2.2.2.2).length) ((((r73 x2 x3 x4 x5).2.2.2.2).length : Nat) : Int) 0 x0 x1 ((r73 x2 x3 x4 x5).2.2.2.2) ((((r73 x2 x3 x4 x5).2.1).set (Int.toNat x0) [(((Int.toNat ((((r73 x2 x3 x4 x5).2.1).getD (Int.toNat x1) []).getD 0 0)) : Nat) : Int)]).set (Int.toNat x1) [(((Int.toNat ((((r73 x2 x3 x4 x5).2.1).getD (Int.toNat x0) []).getD 0 0)) : Nat) : Int)]) ((((r73 x2 x3 x4 x5).2.2.1).set (Int.toNat x0) [(((Int.toNat ((((r73 x2 x3 x4 x5).2.2.1).getD (Int.toNat x1) []).getD 0 0)) : Nat) : Int)]).set (Int.toNat x1) [(((Int.toNat ((((r73 x2 x3 x4 x5).2.2.1).getD (Int.toNat x0) []).getD 0 0)) : Nat) : Int)]) (c54.2))
 cond (Nat.beq ((r65 x2 x3 x4 x5).1) 0)
  (cond (!((r65 x2 x3 x4 x5).2))
   (0, 1, [], [], [], [])
   (cond (decide ((x0 : Int) < 0))
    (0, 2, [], [], [], [])
    (cond (decide ((x0 : Int) ≥ ((x2.length : Nat) : Int)))
     (0, 2, [], [], [], [])
     (cond (decide ((x1 : Int) < 0))
      (0, 2, [], [], [], [])
      (cond (decide ((x1 : Int) ≥ ((x2.length : Nat) : Int)))
       (0, 2, [], [], [], [])
       (cond (Nat.beq ((r73 x2 x3 x4 x5).1) 0)
        (cond ((decide ((0 : Int) ≤ x1)) && (Nat.blt (Int.toNat x1) (((r73 x2 x3 x4 x5).2.1).length)))
         (cond ((decide ((0 : Int) ≤ x0)) && (Nat.blt (Int.toNat x0) (((r73 x2 x3 x4 x5).2.1).length)))
          (cond ((decide ((0 : Int) ≤ x1)) && (Nat.blt (Int.toNat x1) ((((r73 x2 x3 x4 x5).2.1).set (Int.toNat x0) [(((Int.toNat ((((r73 x2 x3 x4 x5).2.1).getD (Int.toNat x1) []).getD 0 0)) : Nat) : Int)]).length)))
           (cond ((decide ((0 : Int) ≤ x1)) && (Nat.blt (Int.toNat x1) (((r73 x2 x3 x4 x5).2.2.1).length)))
            (cond ((decide ((0 : Int) ≤ x0)) && (Nat.blt (Int.toNat x0) (((r73 x2 x3 x4 x5).2.2.1).length)))
             (cond ((decide ((0 : Int) ≤ x1)) && (Nat.blt (Int.toNat x1) ((((r73 x2 x3 x4 x5).2.2.1).set (Int.toNat x0) [(((Int.toNat ((((r73 x2 x3 x4 x5).2.2.1).getD (Int.toNat x1) []).getD 0 0)) : Nat) : Int)]).length)))
              (cond (Nat.beq (c54.1) 0)
               (cond (Nat.beq (c55.1) 0)
                (1, 0, ((((r73 x2 x3 x4 x5).2.1).set (Int.toNat x0) [(((Int.toNat ((((r73 x2 x3 x4 x5).2.1).getD (Int.toNat x1) []).getD 0 0)) : Nat) : Int)]).set (Int.toNat x1) [(((Int.toNat ((((r73 x2 x3 x4 x5).2.1).getD (Int.toNat x0) []).getD 0 0)) : Nat) : Int)]), ((((r73 x2 x3 x4 x5).2.2.1).set (Int.toNat x0) [(((Int.toNat ((((r73 x2 x3 x4 x5).2.2.1).getD (Int.toNat x1) []).getD 0 0)) : Nat) : Int)]).set (Int.toNat x1) [(((Int.toNat ((((r73 x2 x3 x4 x5).2.2.1).getD (Int.toNat x0) []).getD 0 0)) : Nat) : Int)]), (c54.2), (c55.2))
                (2, 0, [], [], [], []))
               (2, 0, [], [], [], []))
              (2, 0, [], [], [], []))
             (2, 0, [], [], [], []))
            (2, 0, [], [], [], []))
           (2, 0, [], [], [], []))
          (2, 0, [], [], [], []))
         (2, 0, [], [], [], []))
        (2, 0, [], [], [], [])))))))
  (2, 0, [], [], [], [])
noncomputable def a22 (x0 x1 : Int) (x2 x3 x4 x5 : List (List Int)) (p : Nat × Int × List (List Int) × List (List Int) × List (List Int) × List (List Int)) : Res := firstT [((Nat.beq (p.1) 0), .tuple #[.agg #[.slice none 0 0, .slice none 0 0, .slice none 0 0, .slice none 0 0], .int .i64 (p.2.1)], ⟨[⟨true, (some (.tab [.fl .f32] x2))⟩, ⟨true, (some (.tab [.fl .f32] x3))⟩, ⟨true, (some (.tab sc0 x4))⟩, ⟨true, (some (.tab sc1 x5))⟩], 4, []⟩), ((Nat.beq (p.1) 1), .tuple #[.agg #[wsl 4, wsl 5, wsl 6, wsl 7], .int .i64 0], ⟨[⟨true, (some (.tab [.fl .f32] x2))⟩, ⟨true, (some (.tab [.fl .f32] x3))⟩, ⟨true, (some (.tab sc0 x4))⟩, ⟨true, (some (.tab sc1 x5))⟩, ⟨true, (some (.tab [.fl .f32] (p.2.2.1)))⟩, ⟨true, (some (.tab [.fl .f32] (p.2.2.2.1)))⟩, ⟨true, (some (.tab sc0 (p.2.2.2.2.1)))⟩, ⟨true, (some (.tab sc1 (p.2.2.2.2.2)))⟩], 4, []⟩)]
noncomputable def w22 (x0 x1 : Int) (x2 x3 x4 x5 : List (List Int)) : Res :=
 let c54 := (r22l0 (1000 + ((r73 x2 x3 x4 x5).2.2.2.2).length + ((((r73 x2 x3 x4 x5).2.2.1).set (Int.toNat x0) [(((Int.toNat ((((r73 x2 x3 x4 x5).2.2.1).getD (Int.toNat x1) []).getD 0 0)) : Nat) : Int)]).set (Int.toNat x1) [(((Int.toNat ((((r73 x2 x3 x4 x5).2.2.1).getD (Int.toNat x0) []).getD 0 0)) : Nat) : Int)]).length + ((((r73 x2 x3 x4 x5).2.1).set (Int.toNat x0) [(((Int.toNat ((((r73 x2 x3 x4 x5).2.1).getD (Int.toNat x1) []).getD 0 0)) : Nat) : Int)]).set (Int.toNat x1) [(((Int.toNat ((((r73 x2 x3 x4 x5).2.1).getD (Int.toNat x0) []).getD 0 0)) : Nat) : Int)]).length + ((r73 x2 x3 x4 x5).2.2.2.1).length) ((((r73 x2 x3 x4 x5).2.2.2.1).length : Nat) : Int) 0 x0 x1 ((r73 x2 x3 x4 x5).2.2.2.1) ((((r73 x2 x3 x4 x5).2.1).set (Int.toNat x0) [(((Int.toNat ((((r73 x2 x3 x4 x5).2.1).getD (Int.toNat x1) []).getD 0 0)) : Nat) : Int)]).set (Int.toNat x1) [(((Int.toNat ((((r73 x2 x3 x4 x5).2.1).getD (Int.toNat x0) []).getD 0 0)) : Nat) : Int)]) ((((r73 x2 x3 x4 x5).2.2.1).set (Int.toNat x0) [(((Int.toNat ((((r73 x2 x3 x4 x5).2.2.1).getD (Int.toNat x1) []).getD 0 0)) : Nat) : Int)]).set (Int.toNat x1) [(((Int.toNat ((((r73 x2 x3 x4 x5).2.2.1).getD (Int.toNat x0) []).getD 0 0)) : Nat) : Int)]) ((r73 x2 x3 x4 x5).2.2.2.2))
 let c55 := (r22l1 (1000 + (c54.2).length + ((((r73 x2 x3 x4 x5).2.2.1).set (Int.toNat x0) [(((Int.toNat ((((r73 x2 x3 x4 x5).2.2.1).getD (Int.toNat x1) []).getD 0 0)) : Nat) : Int)]).set (Int.toNat x1) [(((Int.toNat ((((r73 x2 x3 x4 x5).2.2.1).getD (Int.toNat x0) []).getD 0 0)) : Nat) : Int)]).length + ((((r73 x2 x3 x4 x5).2.1).set (Int.toNat x0) [(((Int.toNat ((((r73 x2 x3 x4 x5).2.1).getD (Int.toNat x1) []).getD 0 0)) : Nat) : Int)]).set (Int.toNat x1) [(((Int.toNat ((((r73 x2 x3 x4 x5).2.1).getD (Int.toNat x0) []).getD 0 0)) : Nat) : Int)]).length + ((r73 x2 x3 x4 x5).2.2.2.2).length) ((((r73 x2 x3 x4 x5).2.2.2.2).length : Nat) : Int) 0 x0 x1 ((r73 x2 x3 x4 x5).2.2.2.2) ((((r73 x2 x3 x4 x5).2.1).set (Int.toNat x0) [(((Int.toNat ((((r73 x2 x3 x4 x5).2.1).getD (Int.toNat x1) []).getD 0 0)) : Nat) : Int)]).set (Int.toNat x1) [(((Int.toNat ((((r73 x2 x3 x4 x5).2.1).getD (Int.toNat x0) []).getD 0 0)) : Nat) : Int)]) ((((r73 x2 x3 x4 x5).2.2.1).set (Int.toNat x0) [(((Int.toNat ((((r73 x2 x3 x4 x5).2.2.1).getD (Int.toNat x1) []).getD 0 0)) : Nat) : Int)]).set (Int.toNat x1) [(((Int.toNat ((((r73 x2 x3 x4 x5).2.2.1).getD (Int.toNat x0) []).getD 0 0)) : Nat) : Int)]) (c54.2))
 (cond (Nat.beq ((r65 x2 x3 x4 x5).1) 0)
 (cond (!((r65 x2 x3 x4 x5).2))
  (a22 x0 x1 x2 x3 x4 x5 (0, 1, [], [], [], []))
  (cond (decide ((x0 : Int) < 0))
   (a22 x0 x1 x2 x3 x4 x5 (0, 2, [], [], [], []))
   (cond (decide ((x0 : Int) ≥ ((x2.length : Nat) : Int)))
    (a22 x0 x1 x2 x3 x4 x5 (0, 2, [], [], [], []))
    (cond (decide ((x1 : Int) < 0))
     (a22 x0 x1 x2 x3 x4 x5 (0, 2, [], [], [], []))
     (cond (decide ((x1 : Int) ≥ ((x2.length : Nat) : Int)))
      (a22 x0 x1 x2 x3 x4 x5 (0, 2, [], [], [], []))
      (cond (Nat.beq ((r73 x2 x3 x4 x5).1) 0)
       (cond ((decide ((0 : Int) ≤ x1)) && (Nat.blt (Int.toNat x1) (((r73 x2 x3 x4 x5).2.1).length)))
        (cond (Nat.blt (Int.toNat x1) (((r73 x2 x3 x4 x5).2.1).length))
         (cond ((decide ((0 : Int) ≤ x0)) && (Nat.blt (Int.toNat x0) (((r73 x2 x3 x4 x5).2.1).length)))
          (cond (Nat.blt (Int.toNat x0) (((r73 x2 x3 x4 x5).2.1).length))
           (cond ((decide ((0 : Int) ≤ x0)) && (Nat.blt (Int.toNat x0) (((r73 x2 x3 x4 x5).2.1).length)))
            (cond (Nat.blt (Int.toNat x0) (((r73 x2 x3 x4 x5).2.1).length))
             (cond ((decide ((0 : Int) ≤ x1)) && (Nat.blt (Int.toNat x1) ((((r73 x2 x3 x4 x5).2.1).set (Int.toNat x0) [(((Int.toNat ((((r73 x2 x3 x4 x5).2.1).getD (Int.toNat x1) []).getD 0 0)) : Nat) : Int)]).length)))
              (cond (Nat.blt (Int.toNat x1) ((((r73 x2 x3 x4 x5).2.1).set (Int.toNat x0) [(((Int.toNat ((((r73 x2 x3 x4 x5).2.1).getD (Int.toNat x1) []).getD 0 0)) : Nat) : Int)]).length))
               (cond ((decide ((0 : Int) ≤ x1)) && (Nat.blt (Int.toNat x1) (((r73 x2 x3 x4 x5).2.2.1).length)))
                (cond (Nat.blt (Int.toNat x1) (((r73 x2 x3 x4 x5).2.2.1).length))
                 (cond ((decide ((0 : Int) ≤ x0)) && (Nat.blt (Int.toNat x0) (((r73 x2 x3 x4 x5).2.2.1).length)))
                  (cond (Nat.blt (Int.toNat x0) (((r73 x2 x3 x4 x5).2.2.1).length))
                   (cond ((decide ((0 : Int) ≤ x0)) && (Nat.blt (Int.toNat x0) (((r73 x2 x3 x4 x5).2.2.1).length)))
                    (cond (Nat.blt (Int.toNat x0) (((r73 x2 x3 x4 x5).2.2.1).length))
                     (cond ((decide ((0 : Int) ≤ x1)) && (Nat.blt (Int.toNat x1) ((((r73 x2 x3 x4 x5).2.2.1).set (Int.toNat x0) [(((Int.toNat ((((r73 x2 x3 x4 x5).2.2.1).getD (Int.toNat x1) []).getD 0 0)) : Nat) : Int)]).length)))
                      (cond (Nat.blt (Int.toNat x1) ((((r73 x2 x3 x4 x5).2.2.1).set (Int.toNat x0) [(((Int.toNat ((((r73 x2 x3 x4 x5).2.2.1).getD (Int.toNat x1) []).getD 0 0)) : Nat) : Int)]).length))
                       (cond (Nat.beq (c54.1) 0)
                        (cond (Nat.beq (c55.1) 0)
                         (a22 x0 x1 x2 x3 x4 x5 (1, 0, ((((r73 x2 x3 x4 x5).2.1).set (Int.toNat x0) [(((Int.toNat ((((r73 x2 x3 x4 x5).2.1).getD (Int.toNat x1) []).getD 0 0)) : Nat) : Int)]).set (Int.toNat x1) [(((Int.toNat ((((r73 x2 x3 x4 x5).2.1).getD (Int.toNat x0) []).getD 0 0)) : Nat) : Int)]), ((((r73 x2 x3 x4 x5).2.2.1).set (Int.toNat x0) [(((Int.toNat ((((r73 x2 x3 x4 x5).2.2.1).getD (Int.toNat x1) []).getD 0 0)) : Nat) : Int)]).set (Int.toNat x1) [(((Int.toNat ((((r73 x2 x3 x4 x5).2.2.1).getD (Int.toNat x0) []).getD 0 0)) : Nat) : Int)]), (c54.2), (c55.2)))
                         none)
                        none)
                       none)
                      none)
                     none)
                    none)
                   none)
                  none)
                 none)
                none)
               none)
              none)
             none)
            none)
           none)
          none)
         none)
        none)
       none))))))
 none)
set_option maxRecDepth 100000 in
set_option maxHeartbeats 4000000 in
theorem e22 (x0 x1 : Int) (x2 x3 x4 x5 : List (List Int)) : evFn Try.prog ext T36 L22_2 200 Try.f22 [.agg #[wsl 0, wsl 1, wsl 2, wsl 3], .int .i64 x0, .int .i64 x1] ⟨[⟨true, (some (.tab [.fl .f32] x2))⟩, ⟨true, (some (.tab [.fl .f32] x3))⟩, ⟨true, (some (.tab sc0 x4))⟩, ⟨true, (some (.tab sc1 x5))⟩], 4, []⟩ = firstT [((Nat.beq ((r22 x0 x1 x2 x3 x4 x5).1) 0), .tuple #[.agg #[.slice none 0 0, .slice none 0 0, .slice none 0 0, .slice none 0 0], .int .i64 ((r22 x0 x1 x2 x3 x4 x5).2.1)], ⟨[⟨true, (some (.tab [.fl .f32] x2))⟩, ⟨true, (some (.tab [.fl .f32] x3))⟩, ⟨true, (some (.tab sc0 x4))⟩, ⟨true, (some (.tab sc1 x5))⟩], 4, []⟩), ((Nat.beq ((r22 x0 x1 x2 x3 x4 x5).1) 1), .tuple #[.agg #[wsl 4, wsl 5, wsl 6, wsl 7], .int .i64 0], ⟨[⟨true, (some (.tab [.fl .f32] x2))⟩, ⟨true, (some (.tab [.fl .f32] x3))⟩, ⟨true, (some (.tab sc0 x4))⟩, ⟨true, (some (.tab sc1 x5))⟩, ⟨true, (some (.tab [.fl .f32] ((r22 x0 x1 x2 x3 x4 x5).2.2.1)))⟩, ⟨true, (some (.tab [.fl .f32] ((r22 x0 x1 x2 x3 x4 x5).2.2.2.1)))⟩, ⟨true, (some (.tab sc0 ((r22 x0 x1 x2 x3 x4 x5).2.2.2.2.1)))⟩, ⟨true, (some (.tab sc1 ((r22 x0 x1 x2 x3 x4 x5).2.2.2.2.2)))⟩], 4, []⟩)] :=
 (show evFn Try.prog ext T36 L22_2 200 Try.f22 [.agg #[wsl 0, wsl 1, wsl 2, wsl 3], .int .i64 x0, .int .i64 x1] ⟨[⟨true, (some (.tab [.fl .f32] x2))⟩, ⟨true, (some (.tab [.fl .f32] x3))⟩, ⟨true, (some (.tab sc0 x4))⟩, ⟨true, (some (.tab sc1 x5))⟩], 4, []⟩ = w22 x0 x1 x2 x3 x4 x5 from by kernel_rfl).trans
 (show w22 x0 x1 x2 x3 x4 x5 = a22 x0 x1 x2 x3 x4 x5 (r22 x0 x1 x2 x3 x4 x5) from by unfold w22 r22; exact (cond_both (a22 x0 x1 x2 x3 x4 x5) _ (fun h0 => (cond_both (a22 x0 x1 x2 x3 x4 x5) _ (fun h1 => rfl) (fun h1 => (cond_both (a22 x0 x1 x2 x3 x4 x5) _ (fun h2 => rfl) (fun h2 => (cond_both (a22 x0 x1 x2 x3 x4 x5) _ (fun h3 => rfl) (fun h3 => (cond_both (a22 x0 x1 x2 x3 x4 x5) _ (fun h4 => rfl) (fun h4 => (cond_both (a22 x0 x1 x2 x3 x4 x5) _ (fun h5 => rfl) (fun h5 => (cond_both (a22 x0 x1 x2 x3 x4 x5) _ (fun h6 => (cond_both (a22 x0 x1 x2 x3 x4 x5) _ (fun h7 => (cond_t (ev_and2 h7) (cond_both (a22 x0 x1 x2 x3 x4 x5) _ (fun h8 => (cond_t (ev_and2 h8) (cond_t h8 (cond_t (ev_and2 h8) (cond_both (a22 x0 x1 x2 x3 x4 x5) _ (fun h9 => (cond_t (ev_and2 h9) (cond_both (a22 x0 x1 x2 x3 x4 x5) _ (fun h10 => (cond_t (ev_and2 h10) (cond_both (a22 x0 x1 x2 x3 x4 x5) _ (fun h11 => (cond_t (ev_and2 h11) (cond_t h11 (cond_t (ev_and2 h11) (cond_both (a22 x0 x1 x2 x3 x4 x5) _ (fun h12 => (cond_t (ev_and2 h12) (cond_app (a22 x0 x1 x2 x3 x4 x5) _ (cond_app (a22 x0 x1 x2 x3 x4 x5) _ rfl rfl) rfl))) (fun h12 => rfl)))))) (fun h11 => rfl)))) (fun h10 => rfl)))) (fun h9 => rfl)))))) (fun h8 => rfl)))) (fun h7 => rfl))) (fun h6 => rfl))))))))))))) (fun h0 => rfl)))
noncomputable def s22 (args : List Value) (s : St) : List (Bool × Value × St) :=
 match args, s.h with
 | [.agg ⟨[.iface f0 .nilIface, .iface f1 .nilIface, .iface f2 .nilIface, .iface f3 .nilIface]⟩, .int .i64 x0, .int .i64 x1], [⟨true, some (.tab [.fl .f32] x2)⟩, ⟨true, some (.tab [.fl .f32] x3)⟩, ⟨true, some (.tab [.int .i64, .int .i64, .fl .f32, .fl .f32, .fl .f32, .fl .f32, .fl .f32, .fl .f32] x4)⟩, ⟨true, some (.tab [.int .i64, .int .i64, .fl .f32, .fl .f32] x5)⟩] => if f0 = 0 ∧ f1 = 1 ∧ f2 = 2 ∧ f3 = 3 then [((Nat.beq ((r22 x0 x1 x2 x3 x4 x5).1) 0), .tuple #[.agg #[.slice none 0 0, .slice none 0 0, .slice none 0 0, .slice none 0 0], .int .i64 ((r22 x0 x1 x2 x3 x4 x5).2.1)], ⟨[⟨true, (some (.tab [.fl .f32] x2))⟩, ⟨true, (some (.tab [.fl .f32] x3))⟩, ⟨true, (some (.tab sc0 x4))⟩, ⟨true, (some (.tab sc1 x5))⟩], 4, []⟩), ((Nat.beq ((r22 x0 x1 x2 x3 x4 x5).1) 1), .tuple #[.agg #[wsl 4, wsl 5, wsl 6, wsl 7], .int .i64 0], ⟨[⟨true, (some (.tab [.fl .f32] x2))⟩, ⟨true, (some (.tab [.fl .f32] x3))⟩, ⟨true, (some (.tab sc0 x4))⟩, ⟨true, (some (.tab sc1 x5))⟩, ⟨true, (some (.tab [.fl .f32] ((r22 x0 x1 x2 x3 x4 x5).2.2.1)))⟩, ⟨true, (some (.tab [.fl .f32] ((r22 x0 x1 x2 x3 x4 x5).2.2.2.1)))⟩, ⟨true, (some (.tab sc0 ((r22 x0 x1 x2 x3 x4 x5).2.2.2.2.1)))⟩, ⟨true, (some (.tab sc1 ((r22 x0 x1 x2 x3 x4 x5).2.2.2.2.2)))⟩], 4, []⟩)] else T36 22 args s
 | _, _ => T36 22 args s
noncomputable def T37 : CallF := addF T36 22 s22
set_option maxRecDepth 100000 in
set_option maxHeartbeats 4000000 in
theorem ok37 : CfOk Try.prog T37 := by
  refine cfOk_add ok36 fun args s r s' h1 h2 h3 => ?_
  unfold s22 at h3; split at h3
  · rename_i h; split at h3
    · rename_i hc; obtain ⟨rfl, rfl, rfl, rfl⟩ := hc; exact callOk ok36 Try.func22 h1 h2 h lok22_2.body (e22 _ _ _ _ _ _) rfl h3
    · exact ok36 _ _ _ _ _ h1 h2 h3
  · exact ok36 _ _ _ _ _ h1 h2 h3

/-- laws.eqFloat32S, loop 0 -/
noncomputable def r31l0 : Unit :=
 ()
noncomputable def a31l0 (p : Unit) : Option (Fin' × List Value × St) := firstT ([(true, .exit 0, [anyV], st0)].map fun (b, x) => (b, (x.1, frameOf 29 [4] x.2.1, x.2.2)))
noncomputable def w31l0 : Option (Fin' × List Value × St) :=
 (a31l0 ())
set_option maxRecDepth 100000 in
set_option maxHeartbeats 4000000 in
theorem e31l0 : evC Try.prog ext T37 noL 200 (loopN Try.f31 0) (loopTail ([0, 1, 5], []) [4] [] (sumK 29 [0, 1, 5] [4] noQ)) (frameOf 29 [0, 1, 5] [.slice none 0 0, .slice none 0 0, .int .i64 0]) ⟨[], 0, []⟩ = firstT ([(true, .exit 0, [anyV], st0)].map fun (b, x) => (b, (x.1, frameOf 29 [4] x.2.1, x.2.2))) :=
 (show evC Try.prog ext T37 noL 200 (loopN Try.f31 0) (loopTail ([0, 1, 5], []) [4] [] (sumK 29 [0, 1, 5] [4] noQ)) (frameOf 29 [0, 1, 5] [.slice none 0 0, .slice none 0 0, .int .i64 0]) ⟨[], 0, []⟩ = w31l0 from by kernel_rfl).trans
 (show w31l0 = a31l0 r31l0 from by unfold w31l0 r31l0; exact rfl)
noncomputable def Q31l0 : SumK := fun vals s =>
 match vals, s.h with
 | [.slice none f0 f1, .slice none f2 f3, .int .i64 f4], [] => if f0 = 0 ∧ f1 = 0 ∧ f2 = 0 ∧ f3 = 0 ∧ f4 = 0 then [(true, .exit 0, [anyV], st0)] else noQ vals s
 | _, _ => noQ vals s
set_option maxRecDepth 100000 in
set_option maxHeartbeats 4000000 in
theorem qok31l0 : SumKOk Try.prog (loopN Try.f31 0) 29 [0, 1, 5] [4] Q31l0 := by
  intro vals s x h1 h2 h3
  unfold Q31l0 at h3; split at h3
  · rename_i h; split at h3
    · rename_i hc; obtain ⟨rfl, rfl, rfl, rfl, rfl⟩ := hc; exact sum_step ok37 extOk mixed ((lfOkF_no _ _).inner (by kernel_rfl)) noQ_ok h1 h2 h (e31l0) rfl h3
    · exact noQ_ok _ _ _ h1 h2 h3
  · exact noQ_ok _ _ _ h1 h2 h3
noncomputable def L31_1 : LoopT := addL noL 5 ([0, 1, 5], []) (sumK 29 [0, 1, 5] [4] Q31l0)
theorem lok31_1 : LfOkF Try.prog L31_1 Try.f31 := lfOkF_add (lfOkF_no _ _) qok31l0 (by kernel_rfl) (by kernel_rfl) (by kernel_rfl)

/-- laws.eqFloat32S -/
noncomputable def r31 : Unit :=
 ()
noncomputable def a31 (p : Unit) : Res := firstT [(true, .bool true, st0)]
noncomputable def w31 : Res :=
 (a31 ())
set_option maxRecDepth 100000 in
set_option maxHeartbeats 4000000 in
theorem e31 : evFn Try.prog ext T37 L31_1 200 Try.f31 [.slice none 0 0, .slice none 0 0] st0 = firstT [(true, .bool true, st0)] :=
 (show evFn Try.prog ext T37 L31_1 200 Try.f31 [.slice none 0 0, .slice none 0 0] st0 = w31 from by kernel_rfl).trans
 (show w31 = a31 r31 from by unfold w31 r31; exact rfl)
noncomputable def s31 (args : List Value) (s : St) : List (Bool × Value × St) :=
 match args, s.h with
 | [.slice none f0 f1, .slice none f2 f3], [] => if f0 = 0 ∧ f1 = 0 ∧ f2 = 0 ∧ f3 = 0 then [(true, .bool true, st0)] else T37 31 args s
 | _, _ => T37 31 args s
noncomputable def T38 : CallF := addF T37 31 s31
set_option maxRecDepth 100000 in
set_option maxHeartbeats 4000000 in
theorem ok38 : CfOk Try.prog T38 := by
  refine cfOk_add ok37 fun args s r s' h1 h2 h3 => ?_
  unfold s31 at h3; split at h3
  · rename_i h; split at h3
    · rename_i hc; obtain ⟨rfl, rfl, rfl, rfl⟩ := hc; exact callOk ok37 Try.func31 h1 h2 h lok31_1.body (e31) rfl h3
    · exact ok37 _ _ _ _ _ h1 h2 h3
  · exact ok37 _ _ _ _ _ h1 h2 h3
end Go.Proofs.Ytfnfapmncibjfaa
