/- What the functions that the statements reach answer, part 2. -/
import Derived.Test.YtffpnkkhcgjmfaaGreatDoorFl1
namespace Go.Proofs.YtffpnkkhcgjmfaaGreatDoor
open Go.Ab
set_option maxHeartbeats 4000000
set_option maxRecDepth 100000

/-- spec.l03Same, loop 0: one round -/
noncomputable def b44l0 (ih : Int → List (List Int) → List (List Int) → Nat) (x0 : Int) (x1 x2 : List (List Int)) : Nat :=
 let c286 := (r89 (Int.toNat ((x1.getD (Int.toNat x0) []).getD 0 0)) (Int.toNat ((x2.getD (Int.toNat x0) []).getD 0 0)))
 let c287 := (r89 (Int.toNat ((x1.getD (Int.toNat x0) []).getD 1 0)) (Int.toNat ((x2.getD (Int.toNat x0) []).getD 1 0)))
 let c288 := (r89 (Int.toNat ((x1.getD (Int.toNat x0) []).getD 2 0)) (Int.toNat ((x2.getD (Int.toNat x0) []).getD 2 0)))
 let c289 := (r89 (Int.toNat ((x1.getD (Int.toNat x0) []).getD 3 0)) (Int.toNat ((x2.getD (Int.toNat x0) []).getD 3 0)))
 cond (decide ((x0 : Int) < ((x1.length : Nat) : Int)))
  (cond ((decide ((0 : Int) ≤ x0)) && (Nat.blt (Int.toNat x0) x1.length))
   (cond ((decide ((0 : Int) ≤ x0)) && (Nat.blt (Int.toNat x0) x2.length))
    (cond (!c286)
     (0)
     (cond (!c287)
      (0)
      (cond (!c288)
       (0)
       (cond (!c289)
        (0)
        (cond ((((x1.getD (Int.toNat x0) []).getD 4 0) : Int) != ((x2.getD (Int.toNat x0) []).getD 4 0))
         (0)
         (ih (IntKind.i64.wrap (x0 + 1)) x1 x2))))))
    (2))
   (2))
  (1)
noncomputable def r44l0 : Nat → Int → List (List Int) → List (List Int) → Nat
 | 0 => fun _ _ _ => (2)
 | m + 1 => b44l0 (r44l0 m)
noncomputable def a44l0 (x0 : Int) (x1 x2 : List (List Int)) (p : Nat) : Option (Fin' × List Value × St) := firstT ([((Nat.beq p 0), .ret, [.bool false], ⟨[⟨true, (some (.tab sc0 x1))⟩, ⟨true, (some (.tab sc0 x2))⟩], 2, []⟩), ((Nat.beq p 1), .exit 0, [anyV], ⟨[⟨true, (some (.tab sc0 x1))⟩, ⟨true, (some (.tab sc0 x2))⟩], 2, []⟩)].map fun (b, x) => (b, (x.1, frameOf 84 [4] x.2.1, x.2.2)))
noncomputable def u44l0 (x0 : Int) (x1 x2 : List (List Int)) (p : Nat) : Option (Fin' × List Value × St) := alts ([((Nat.beq p 0), .ret, [.bool false], ⟨[⟨true, (some (.tab sc0 x1))⟩, ⟨true, (some (.tab sc0 x2))⟩], 2, []⟩), ((Nat.beq p 1), .exit 0, [anyV], ⟨[⟨true, (some (.tab sc0 x1))⟩, ⟨true, (some (.tab sc0 x2))⟩], 2, []⟩)].map fun (b, x) => (b, (x.1, frameOf 84 [4] x.2.1, x.2.2))) some
theorem v44l0 (x0 : Int) (x1 x2 : List (List Int)) (p : Nat) : u44l0 x0 x1 x2 p = a44l0 x0 x1 x2 p := alts_first _
noncomputable def q44l0 (m : Nat) : SumK := fun vals s =>
 match vals, s.h with
 | [.iface f0 .nilIface, .iface f1 .nilIface, .int .i64 x0], [⟨true, some (.tab [.fl .f32, .fl .f32, .fl .f32, .fl .f32, .int .i64] x1)⟩, ⟨true, some (.tab [.fl .f32, .fl .f32, .fl .f32, .fl .f32, .int .i64] x2)⟩] => if f0 = 0 ∧ f1 = 1 then [((Nat.beq (r44l0 m x0 x1 x2) 0), .ret, [.bool false], ⟨[⟨true, (some (.tab sc0 x1))⟩, ⟨true, (some (.tab sc0 x2))⟩], 2, []⟩), ((Nat.beq (r44l0 m x0 x1 x2) 1), .exit 0, [anyV], ⟨[⟨true, (some (.tab sc0 x1))⟩, ⟨true, (some (.tab sc0 x2))⟩], 2, []⟩)] else noQ vals s
 | _, _ => noQ vals s
noncomputable def w44l0 (ih : Int → List (List Int) → List (List Int) → Nat) (x0 : Int) (x1 x2 : List (List Int)) : Option (Fin' × List Value × St) :=
 let c286 := (r89 (Int.toNat ((x1.getD (Int.toNat x0) []).getD 0 0)) (Int.toNat ((x2.getD (Int.toNat x0) []).getD 0 0)))
 let c287 := (r89 (Int.toNat ((x1.getD (Int.toNat x0) []).getD 1 0)) (Int.toNat ((x2.getD (Int.toNat x0) []).getD 1 0)))
 let c288 := (r89 (Int.toNat ((x1.getD (Int.toNat x0) []).getD 2 0)) (Int.toNat ((x2.getD (Int.toNat x0) []).getD 2 0)))
 let c289 := (r89 (Int.toNat ((x1.getD (Int.toNat x0) []).getD 3 0)) (Int.toNat ((x2.getD (Int.toNat x0) []).getD 3 0)))
 (cond (decide ((x0 : Int) < ((x1.length : Nat) : Int)))
 (cond ((decide ((0 : Int) ≤ x0)) && (Nat.blt (Int.toNat x0) x1.length))
  (cond (Nat.blt (Int.toNat x0) x1.length)
   (cond ((decide ((0 : Int) ≤ x0)) && (Nat.blt (Int.toNat x0) x2.length))
    (cond (Nat.blt (Int.toNat x0) x2.length)
     (cond (!c286)
      (a44l0 x0 x1 x2 (0))
      (cond ((decide ((0 : Int) ≤ x0)) && (Nat.blt (Int.toNat x0) x1.length))
       (cond (Nat.blt (Int.toNat x0) x1.length)
        (cond ((decide ((0 : Int) ≤ x0)) && (Nat.blt (Int.toNat x0) x2.length))
         (cond (Nat.blt (Int.toNat x0) x2.length)
          (cond (!c287)
           (a44l0 x0 x1 x2 (0))
           (cond ((decide ((0 : Int) ≤ x0)) && (Nat.blt (Int.toNat x0) x1.length))
            (cond (Nat.blt (Int.toNat x0) x1.length)
             (cond ((decide ((0 : Int) ≤ x0)) && (Nat.blt (Int.toNat x0) x2.length))
              (cond (Nat.blt (Int.toNat x0) x2.length)
               (cond (!c288)
                (a44l0 x0 x1 x2 (0))
                (cond ((decide ((0 : Int) ≤ x0)) && (Nat.blt (Int.toNat x0) x1.length))
                 (cond (Nat.blt (Int.toNat x0) x1.length)
                  (cond ((decide ((0 : Int) ≤ x0)) && (Nat.blt (Int.toNat x0) x2.length))
                   (cond (Nat.blt (Int.toNat x0) x2.length)
                    (cond (!c289)
                     (a44l0 x0 x1 x2 (0))
                     (cond ((decide ((0 : Int) ≤ x0)) && (Nat.blt (Int.toNat x0) x1.length))
                      (cond (Nat.blt (Int.toNat x0) x1.length)
                       (cond ((decide ((0 : Int) ≤ x0)) && (Nat.blt (Int.toNat x0) x2.length))
                        (cond (Nat.blt (Int.toNat x0) x2.length)
                         (cond ((((x1.getD (Int.toNat x0) []).getD 4 0) : Int) != ((x2.getD (Int.toNat x0) []).getD 4 0))
                          (a44l0 x0 x1 x2 (0))
                          (u44l0 x0 x1 x2 (ih (IntKind.i64.wrap (x0 + 1)) x1 x2)))
                         none)
                        none)
                       none)
                      none))
                    none)
                   none)
                  none)
                 none))
               none)
              none)
             none)
            none))
          none)
         none)
        none)
       none))
     none)
    none)
   none)
  none)
 (a44l0 x0 x1 x2 (1)))
set_option maxRecDepth 100000 in
set_option maxHeartbeats 4000000 in
theorem e44l0 (m : Nat) (x0 : Int) (x1 x2 : List (List Int)) : evC Tryz.prog ext T33 noL 200 (loopN Tryz.f44 0) (loopTail ([0, 1, 5], []) [4] [] (sumK 84 [0, 1, 5] [4] (q44l0 m))) (frameOf 84 [0, 1, 5] [wsl 0, wsl 1, vi x0]) ⟨[⟨true, (some (.tab sc0 x1))⟩, ⟨true, (some (.tab sc0 x2))⟩], 2, []⟩ = firstT ([((Nat.beq (r44l0 (m + 1) x0 x1 x2) 0), .ret, [.bool false], ⟨[⟨true, (some (.tab sc0 x1))⟩, ⟨true, (some (.tab sc0 x2))⟩], 2, []⟩), ((Nat.beq (r44l0 (m + 1) x0 x1 x2) 1), .exit 0, [anyV], ⟨[⟨true, (some (.tab sc0 x1))⟩, ⟨true, (some (.tab sc0 x2))⟩], 2, []⟩)].map fun (b, x) => (b, (x.1, frameOf 84 [4] x.2.1, x.2.2))) :=
 (show evC Tryz.prog ext T33 noL 200 (loopN Tryz.f44 0) (loopTail ([0, 1, 5], []) [4] [] (sumK 84 [0, 1, 5] [4] (q44l0 m))) (frameOf 84 [0, 1, 5] [wsl 0, wsl 1, vi x0]) ⟨[⟨true, (some (.tab sc0 x1))⟩, ⟨true, (some (.tab sc0 x2))⟩], 2, []⟩ = w44l0 (r44l0 m) x0 x1 x2 from by kernel_rfl).trans
 (show w44l0 (r44l0 m) x0 x1 x2 = a44l0 x0 x1 x2 (r44l0 (m + 1) x0 x1 x2) from by unfold w44l0; show _ = a44l0 x0 x1 x2 (b44l0 (r44l0 m) x0 x1 x2); unfold b44l0; exact (cond_both (a44l0 x0 x1 x2) _ (fun h0 => (cond_both (a44l0 x0 x1 x2) _ (fun h1 => (cond_t (ev_and2 h1) (cond_both (a44l0 x0 x1 x2) _ (fun h2 => (cond_t (ev_and2 h2) (cond_both (a44l0 x0 x1 x2) _ (fun h3 => rfl) (fun h3 => (cond_t h1 (cond_t (ev_and2 h1) (cond_t h2 (cond_t (ev_and2 h2) (cond_both (a44l0 x0 x1 x2) _ (fun h4 => rfl) (fun h4 => (cond_t h1 (cond_t (ev_and2 h1) (cond_t h2 (cond_t (ev_and2 h2) (cond_both (a44l0 x0 x1 x2) _ (fun h5 => rfl) (fun h5 => (cond_t h1 (cond_t (ev_and2 h1) (cond_t h2 (cond_t (ev_and2 h2) (cond_both (a44l0 x0 x1 x2) _ (fun h6 => rfl) (fun h6 => (cond_t h1 (cond_t (ev_and2 h1) (cond_t h2 (cond_t (ev_and2 h2) (cond_app (a44l0 x0 x1 x2) _ rfl (v44l0 x0 x1 x2 ((r44l0 m) (IntKind.i64.wrap (x0 + 1)) x1 x2))))))))))))))))))))))))))))) (fun h2 => rfl)))) (fun h1 => rfl))) (fun h0 => rfl)))
set_option maxRecDepth 100000 in
set_option maxHeartbeats 4000000 in
theorem qm44l0 : ∀ m, SumKOk Tryz.prog (loopN Tryz.f44 0) 84 [0, 1, 5] [4] (q44l0 m) := by
  intro m
  induction m with
  | zero =>
    intro vals s x h1 h2 h3
    unfold q44l0 at h3; split at h3
    · rename_i h; split at h3
      · rename_i hc; obtain ⟨rfl, rfl⟩ := hc; exact absurd h3 (by simp [r44l0, firstT, Nat.beq])
      · exact noQ_ok _ _ _ h1 h2 h3
    · exact noQ_ok _ _ _ h1 h2 h3
  | succ m ih =>
    intro vals s x h1 h2 h3
    unfold q44l0 at h3; split at h3
    · rename_i h; split at h3
      · rename_i hc; obtain ⟨rfl, rfl⟩ := hc; exact sum_step ok33 extOk mixed ((lfOkF_no _ _).inner (by kernel_rfl)) ih h1 h2 h (e44l0 m _ _ _) rfl h3
      · exact noQ_ok _ _ _ h1 h2 h3
    · exact noQ_ok _ _ _ h1 h2 h3
noncomputable def Q44l0 : SumK := fun vals s => q44l0 (fuelOf vals s.h) vals s
theorem qok44l0 : SumKOk Tryz.prog (loopN Tryz.f44 0) 84 [0, 1, 5] [4] Q44l0 := fuel_ok qm44l0 fuelOf
noncomputable def L44_1 : LoopT := addL noL 5 ([0, 1, 5], []) (sumK 84 [0, 1, 5] [4] Q44l0)
theorem lok44_1 : LfOkF Tryz.prog L44_1 Tryz.f44 := lfOkF_add (lfOkF_no _ _) qok44l0 (by kernel_rfl) (by kernel_rfl) (by kernel_rfl)

/-- spec.l03Same -/
noncomputable def w44 {α : Type} (x0 x1 : List (List Int)) (k : (Nat × Bool) → α) : α :=
 let c290 := (r44l0 (1000 + x1.length + x0.length) 0 x0 x1)
 cond ((((x0.length : Nat) : Int) : Int) != ((x1.length : Nat) : Int))
  (k (0, false))
  (cond (Nat.beq c290 0)
   (k (0, false))
   (cond (Nat.beq c290 1)
    (k (0, true))
    (k (1, false))))
noncomputable def r44 (x0 x1 : List (List Int)) : Nat × Bool := w44 x0 x1 (fun p => p)
noncomputable def g44 (x0 x1 : List (List Int)) (p : Nat × Bool) : List (Bool × Value × St) := [((Nat.beq (p.1) 0), .bool (p.2), ⟨[⟨true, (some (.tab sc0 x0))⟩, ⟨true, (some (.tab sc0 x1))⟩], 2, []⟩)]
theorem p44 {α : Type} (x0 x1 : List (List Int)) (f : (Nat × Bool) → α) : w44 x0 x1 f = f (w44 x0 x1 (fun p => p)) := by unfold w44; exact (cond_app f _ rfl (cond_app f _ rfl (cond_app f _ rfl rfl)))
set_option maxRecDepth 100000 in
set_option maxHeartbeats 4000000 in
theorem e44 (x0 x1 : List (List Int)) : evFn Tryz.prog ext T33 L44_1 200 Tryz.f44 [wsl 0, wsl 1] ⟨[⟨true, (some (.tab sc0 x0))⟩, ⟨true, (some (.tab sc0 x1))⟩], 2, []⟩ = firstT (g44 x0 x1 (r44 x0 x1)) :=
 Eq.trans (by kernel_rfl) (p44 x0 x1 (fun p => firstT (g44 x0 x1 p)))
noncomputable def s44 (args : List Value) (s : St) : List (Bool × Value × St) :=
 match args, s.h with
 | [.iface f0 .nilIface, .iface f1 .nilIface], [⟨true, some (.tab [.fl .f32, .fl .f32, .fl .f32, .fl .f32, .int .i64] x0)⟩, ⟨true, some (.tab [.fl .f32, .fl .f32, .fl .f32, .fl .f32, .int .i64] x1)⟩] => if f0 = 0 ∧ f1 = 1 then (g44 x0 x1 (r44 x0 x1)) else T33 44 args s
 | _, _ => T33 44 args s
noncomputable def T34 : CallF := addF T33 44 s44
set_option maxRecDepth 100000 in
set_option maxHeartbeats 4000000 in
theorem ok34 : CfOk Tryz.prog T34 := by
  refine cfOk_add ok33 fun args s r s' h1 h2 h3 => ?_
  unfold s44 at h3; split at h3
  · rename_i h; split at h3
    · rename_i hc; obtain ⟨rfl, rfl⟩ := hc; exact callOk ok33 Tryz.func44 h1 h2 h lok44_1.body (e44 _ _) rfl h3
    · exact ok33 _ _ _ _ _ h1 h2 h3
  · exact ok33 _ _ _ _ _ h1 h2 h3

/-- spec.SameChimney -/
noncomputable def w14 {α : Type} (x0 x1 : List (List Int)) (k : (Nat × Bool) → α) : α :=
 cond (Nat.beq ((r44 x0 x1).1) 0)
  (k (0, ((r44 x0 x1).2)))
  (k (1, false))
noncomputable def r14 (x0 x1 : List (List Int)) : Nat × Bool := w14 x0 x1 (fun p => p)
noncomputable def g14 (x0 x1 : List (List Int)) (p : Nat × Bool) : List (Bool × Value × St) := [((Nat.beq (p.1) 0), .bool (p.2), ⟨[⟨true, (some (.tab sc0 x0))⟩, ⟨true, (some (.tab sc0 x1))⟩], 2, []⟩)]
theorem p14 {α : Type} (x0 x1 : List (List Int)) (f : (Nat × Bool) → α) : w14 x0 x1 f = f (w14 x0 x1 (fun p => p)) := by unfold w14; exact (cond_app f _ rfl rfl)
set_option maxRecDepth 100000 in
set_option maxHeartbeats 4000000 in
theorem e14 (x0 x1 : List (List Int)) : evFn Tryz.prog ext T34 noL 200 Tryz.f14 [wsl 0, wsl 1] ⟨[⟨true, (some (.tab sc0 x0))⟩, ⟨true, (some (.tab sc0 x1))⟩], 2, []⟩ = firstT (g14 x0 x1 (r14 x0 x1)) :=
 Eq.trans (by kernel_rfl) (p14 x0 x1 (fun p => firstT (g14 x0 x1 p)))
noncomputable def s14 (args : List Value) (s : St) : List (Bool × Value × St) :=
 match args, s.h with
 | [.iface f0 .nilIface, .iface f1 .nilIface], [⟨true, some (.tab [.fl .f32, .fl .f32, .fl .f32, .fl .f32, .int .i64] x0)⟩, ⟨true, some (.tab [.fl .f32, .fl .f32, .fl .f32, .fl .f32, .int .i64] x1)⟩] => if f0 = 0 ∧ f1 = 1 then (g14 x0 x1 (r14 x0 x1)) else T34 14 args s
 | _, _ => T34 14 args s
noncomputable def T35 : CallF := addF T34 14 s14
set_option maxRecDepth 100000 in
set_option maxHeartbeats 4000000 in
theorem ok35 : CfOk Tryz.prog T35 := by
  refine cfOk_add ok34 fun args s r s' h1 h2 h3 => ?_
  unfold s14 at h3; split at h3
  · rename_i h; split at h3
    · rename_i hc; obtain ⟨rfl, rfl⟩ := hc; exact callOk ok34 Tryz.func14 h1 h2 h (lfOkF_no _ _).body (e14 _ _) rfl h3
    · exact ok34 _ _ _ _ _ h1 h2 h3
  · exact ok34 _ _ _ _ _ h1 h2 h3

/-- impl.SameNumber -/
noncomputable def r90 (x0 x1 : Nat) : Bool :=
 cond (!feq .f32 x0 x0)
  ((!feq .f32 x1 x1))
  (cond (!feq .f32 x1 x1)
   (false)
   (((((x0 : Nat) : Int) : Int) == ((x1 : Nat) : Int))))
noncomputable def a90 (x0 x1 : Nat) (p : Bool) : Res := firstT [(true, .bool p, st0)]
noncomputable def w90 (x0 x1 : Nat) : Res :=
 (cond (!feq .f32 x0 x0)
 (cond (!feq .f32 x0 x0)
  (a90 x0 x1 ((!feq .f32 x1 x1)))
  (some (.bool false, st0)))
 (cond (!feq .f32 x1 x1)
  (cond (!feq .f32 x0 x0)
   (some (.bool (!feq .f32 x1 x1), st0))
   (a90 x0 x1 (false)))
  (cond (!isN .f32 x0)
   (cond (!isN .f32 x1)
    (a90 x0 x1 (((((x0 : Nat) : Int) : Int) == ((x1 : Nat) : Int))))
    none)
   (cond (!isN .f32 x1)
    (cond (decide ((0 : Int) ≤ ((x1 : Nat) : Int)) && (!isN .f32 x1))
     (some (.bool false, st0))
     none)
    none))))
set_option maxRecDepth 100000 in
set_option maxHeartbeats 4000000 in
theorem e90 (x0 x1 : Nat) : evFn Tryz.prog ext T35 noL 200 Tryz.f90 [vf x0, vf x1] st0 = firstT [(true, .bool (r90 x0 x1), st0)] :=
 (show evFn Tryz.prog ext T35 noL 200 Tryz.f90 [vf x0, vf x1] st0 = w90 x0 x1 from by kernel_rfl).trans
 (show w90 x0 x1 = a90 x0 x1 (r90 x0 x1) from by unfold w90 r90; exact (cond_both (a90 x0 x1) _ (fun h0 => (cond_t (ev_not1 (ev_nott h0)) rfl)) (fun h0 => (cond_both (a90 x0 x1) _ (fun h1 => (cond_f (ev_not0 (ev_notf h0)) rfl)) (fun h1 => (cond_t (ev_not1 (ev_eq1 (ev_notf h0))) (cond_t (ev_not1 (ev_eq1 (ev_notf h1))) rfl)))))))
noncomputable def s90 (args : List Value) (s : St) : List (Bool × Value × St) :=
 match args, s.h with
 | [.float .f32 x0, .float .f32 x1], [] => [(true, .bool (r90 x0 x1), st0)]
 | _, _ => T35 90 args s
noncomputable def T36 : CallF := addF T35 90 s90
set_option maxRecDepth 100000 in
set_option maxHeartbeats 4000000 in
theorem ok36 : CfOk Tryz.prog T36 := by
  refine cfOk_add ok35 fun args s r s' h1 h2 h3 => ?_
  unfold s90 at h3; split at h3
  · rename_i h; exact callOk ok35 Tryz.func90 h1 h2 h (lfOkF_no _ _).body (e90 _ _) rfl h3
  · exact ok35 _ _ _ _ _ h1 h2 h3

/-- impl.sameAll -/
noncomputable def w45 {α : Type} (x0 x1 x2 x3 x4 x5 x6 x7 : Nat) (k : Bool → α) : α :=
 cond (!(r90 x0 x4))
  (k (false))
  (cond (!(r90 x1 x5))
   (k (false))
   (cond (!(r90 x2 x6))
    (k (false))
    (cond (!(r90 x3 x7))
     (k (false))
     (k (true)))))
noncomputable def r45 (x0 x1 x2 x3 x4 x5 x6 x7 : Nat) : Bool := w45 x0 x1 x2 x3 x4 x5 x6 x7 (fun p => p)
noncomputable def g45 (x0 x1 x2 x3 x4 x5 x6 x7 : Nat) (p : Bool) : List (Bool × Value × St) := [(true, .bool p, ⟨[⟨true, (some (.tab [.fl .f32] ([[((x0 : Nat) : Int)], [((x1 : Nat) : Int)], [((x2 : Nat) : Int)], [((x3 : Nat) : Int)]] : List (List Int))))⟩, ⟨true, (some (.tab [.fl .f32] ([[((x4 : Nat) : Int)], [((x5 : Nat) : Int)], [((x6 : Nat) : Int)], [((x7 : Nat) : Int)]] : List (List Int))))⟩], 2, []⟩)]
theorem p45 {α : Type} (x0 x1 x2 x3 x4 x5 x6 x7 : Nat) (f : Bool → α) : w45 x0 x1 x2 x3 x4 x5 x6 x7 f = f (w45 x0 x1 x2 x3 x4 x5 x6 x7 (fun p => p)) := by unfold w45; exact (cond_app f _ rfl (cond_app f _ rfl (cond_app f _ rfl (cond_app f _ rfl rfl))))
set_option maxRecDepth 100000 in
set_option maxHeartbeats 4000000 in
theorem e45 (x0 x1 x2 x3 x4 x5 x6 x7 : Nat) : evFn Tryz.prog ext T36 noL 200 Tryz.f45 [.slice (some ⟨0, 0, some 0⟩) 4 4, .slice (some ⟨1, 0, some 0⟩) 4 4] ⟨[⟨true, (some (.tab [.fl .f32] ([[((x0 : Nat) : Int)], [((x1 : Nat) : Int)], [((x2 : Nat) : Int)], [((x3 : Nat) : Int)]] : List (List Int))))⟩, ⟨true, (some (.tab [.fl .f32] ([[((x4 : Nat) : Int)], [((x5 : Nat) : Int)], [((x6 : Nat) : Int)], [((x7 : Nat) : Int)]] : List (List Int))))⟩], 2, []⟩ = firstT (g45 x0 x1 x2 x3 x4 x5 x6 x7 (r45 x0 x1 x2 x3 x4 x5 x6 x7)) :=
 Eq.trans (by kernel_rfl) (p45 x0 x1 x2 x3 x4 x5 x6 x7 (fun p => firstT (g45 x0 x1 x2 x3 x4 x5 x6 x7 p)))
noncomputable def s45 (args : List Value) (s : St) : List (Bool × Value × St) :=
 match args, s.h with
 | [.slice (some ⟨f0, f1, some f2⟩) f3 f4, .slice (some ⟨f5, f6, some f7⟩) f8 f9], [⟨true, some (.tab [.fl .f32] [[.ofNat x0], [.ofNat x1], [.ofNat x2], [.ofNat x3]])⟩, ⟨true, some (.tab [.fl .f32] [[.ofNat x4], [.ofNat x5], [.ofNat x6], [.ofNat x7]])⟩] => if f0 = 0 ∧ f1 = 0 ∧ f2 = 0 ∧ f3 = 4 ∧ f4 = 4 ∧ f5 = 1 ∧ f6 = 0 ∧ f7 = 0 ∧ f8 = 4 ∧ f9 = 4 then (g45 x0 x1 x2 x3 x4 x5 x6 x7 (r45 x0 x1 x2 x3 x4 x5 x6 x7)) else T36 45 args s
 | _, _ => T36 45 args s
noncomputable def T37 : CallF := addF T36 45 s45
set_option maxRecDepth 100000 in
set_option maxHeartbeats 4000000 in
theorem ok37 : CfOk Tryz.prog T37 := by
  refine cfOk_add ok36 fun args s r s' h1 h2 h3 => ?_
  unfold s45 at h3; split at h3
  · rename_i h; split at h3
    · rename_i hc; obtain ⟨rfl, rfl, rfl, rfl, rfl, rfl, rfl, rfl, rfl, rfl⟩ := hc; exact callOk ok36 Tryz.func45 h1 h2 h (lfOkF_no _ _).body (e45 _ _ _ _ _ _ _ _) rfl h3
    · exact ok36 _ _ _ _ _ h1 h2 h3
  · exact ok36 _ _ _ _ _ h1 h2 h3

/-- impl.SameChimney, loop 0: one round -/
noncomputable def b15l0 (ih : Int → Int → List (List Int) → List (List Int) → Nat) (x0 x1 : Int) (x2 x3 : List (List Int)) : Nat :=
 let c308 := (r45 (Int.toNat ((x3.getD (Int.toNat x1) []).getD 0 0)) (Int.toNat ((x3.getD (Int.toNat x1) []).getD 1 0)) (Int.toNat ((x3.getD (Int.toNat x1) []).getD 2 0)) (Int.toNat ((x3.getD (Int.toNat x1) []).getD 3 0)) (Int.toNat ((x2.getD (Int.toNat x1) []).getD 0 0)) (Int.toNat ((x2.getD (Int.toNat x1) []).getD 1 0)) (Int.toNat ((x2.getD (Int.toNat x1) []).getD 2 0)) (Int.toNat ((x2.getD (Int.toNat x1) []).getD 3 0)))
 cond (decide ((x1 : Int) < x0))
  (cond ((decide ((0 : Int) ≤ x1)) && (Nat.blt (Int.toNat x1) x3.length))
   (cond ((decide ((0 : Int) ≤ x1)) && (Nat.blt (Int.toNat x1) x2.length))
    (cond ((((x3.getD (Int.toNat x1) []).getD 4 0) : Int) != ((x2.getD (Int.toNat x1) []).getD 4 0))
     (0)
     (cond (!c308)
      (0)
      (ih x0 (IntKind.i64.wrap (x1 + 1)) x2 x3)))
    (2))
   (2))
  (1)
noncomputable def r15l0 : Nat → Int → Int → List (List Int) → List (List Int) → Nat
 | 0 => fun _ _ _ _ => (2)
 | m + 1 => b15l0 (r15l0 m)
noncomputable def a15l0 (x0 x1 : Int) (x2 x3 : List (List Int)) (p : Nat) : Option (Fin' × List Value × St) := firstT ([((Nat.beq p 0), .ret, [.bool false], ⟨[⟨true, (some (.tab sc0 x2))⟩, ⟨true, (some (.tab sc0 x3))⟩], 2, []⟩), ((Nat.beq p 1), .exit 0, [anyV], ⟨[⟨true, (some (.tab sc0 x2))⟩, ⟨true, (some (.tab sc0 x3))⟩], 2, []⟩)].map fun (b, x) => (b, (x.1, frameOf 52 [4] x.2.1, x.2.2)))
noncomputable def u15l0 (x0 x1 : Int) (x2 x3 : List (List Int)) (p : Nat) : Option (Fin' × List Value × St) := alts ([((Nat.beq p 0), .ret, [.bool false], ⟨[⟨true, (some (.tab sc0 x2))⟩, ⟨true, (some (.tab sc0 x3))⟩], 2, []⟩), ((Nat.beq p 1), .exit 0, [anyV], ⟨[⟨true, (some (.tab sc0 x2))⟩, ⟨true, (some (.tab sc0 x3))⟩], 2, []⟩)].map fun (b, x) => (b, (x.1, frameOf 52 [4] x.2.1, x.2.2))) some
theorem v15l0 (x0 x1 : Int) (x2 x3 : List (List Int)) (p : Nat) : u15l0 x0 x1 x2 x3 p = a15l0 x0 x1 x2 x3 p := alts_first _
noncomputable def q15l0 (m : Nat) : SumK := fun vals s =>
 match vals, s.h with
 | [.iface f0 .nilIface, .iface f1 .nilIface, .int .i64 x0, .int .i64 x1], [⟨true, some (.tab [.fl .f32, .fl .f32, .fl .f32, .fl .f32, .int .i64] x2)⟩, ⟨true, some (.tab [.fl .f32, .fl .f32, .fl .f32, .fl .f32, .int .i64] x3)⟩] => if f0 = 0 ∧ f1 = 1 then [((Nat.beq (r15l0 m x0 x1 x2 x3) 0), .ret, [.bool false], ⟨[⟨true, (some (.tab sc0 x2))⟩, ⟨true, (some (.tab sc0 x3))⟩], 2, []⟩), ((Nat.beq (r15l0 m x0 x1 x2 x3) 1), .exit 0, [anyV], ⟨[⟨true, (some (.tab sc0 x2))⟩, ⟨true, (some (.tab sc0 x3))⟩], 2, []⟩)] else noQ vals s
 | _, _ => noQ vals s
noncomputable def w15l0 (ih : Int → Int → List (List Int) → List (List Int) → Nat) (x0 x1 : Int) (x2 x3 : List (List Int)) : Option (Fin' × List Value × St) :=
 let c308 := (r45 (Int.toNat ((x3.getD (Int.toNat x1) []).getD 0 0)) (Int.toNat ((x3.getD (Int.toNat x1) []).getD 1 0)) (Int.toNat ((x3.getD (Int.toNat x1) []).getD 2 0)) (Int.toNat ((x3.getD (Int.toNat x1) []).getD 3 0)) (Int.toNat ((x2.getD (Int.toNat x1) []).getD 0 0)) (Int.toNat ((x2.getD (Int.toNat x1) []).getD 1 0)) (Int.toNat ((x2.getD (Int.toNat x1) []).getD 2 0)) (Int.toNat ((x2.getD (Int.toNat x1) []).getD 3 0)))
 (cond (decide ((x1 : Int) < x0))
 (cond ((decide ((0 : Int) ≤ x1)) && (Nat.blt (Int.toNat x1) x3.length))
  (cond (Nat.blt (Int.toNat x1) x3.length)
   (cond ((decide ((0 : Int) ≤ x1)) && (Nat.blt (Int.toNat x1) x2.length))
    (cond (Nat.blt (Int.toNat x1) x2.length)
     (cond ((((x3.getD (Int.toNat x1) []).getD 4 0) : Int) != ((x2.getD (Int.toNat x1) []).getD 4 0))
      (a15l0 x0 x1 x2 x3 (0))
      (cond (!c308)
       (a15l0 x0 x1 x2 x3 (0))
       (u15l0 x0 x1 x2 x3 (ih x0 (IntKind.i64.wrap (x1 + 1)) x2 x3))))
     none)
    none)
   none)
  none)
 (a15l0 x0 x1 x2 x3 (1)))
set_option maxRecDepth 100000 in
set_option maxHeartbeats 4000000 in
theorem e15l0 (m : Nat) (x0 x1 : Int) (x2 x3 : List (List Int)) : evC Tryz.prog ext T37 noL 200 (loopN Tryz.f15 0) (loopTail ([1, 13, 14, 15], []) [4] [] (sumK 52 [1, 13, 14, 15] [4] (q15l0 m))) (frameOf 52 [1, 13, 14, 15] [wsl 0, wsl 1, vi x0, vi x1]) ⟨[⟨true, (some (.tab sc0 x2))⟩, ⟨true, (some (.tab sc0 x3))⟩], 2, []⟩ = firstT ([((Nat.beq (r15l0 (m + 1) x0 x1 x2 x3) 0), .ret, [.bool false], ⟨[⟨true, (some (.tab sc0 x2))⟩, ⟨true, (some (.tab sc0 x3))⟩], 2, []⟩), ((Nat.beq (r15l0 (m + 1) x0 x1 x2 x3) 1), .exit 0, [anyV], ⟨[⟨true, (some (.tab sc0 x2))⟩, ⟨true, (some (.tab sc0 x3))⟩], 2, []⟩)].map fun (b, x) => (b, (x.1, frameOf 52 [4] x.2.1, x.2.2))) :=
 (show evC Tryz.prog ext T37 noL 200 (loopN Tryz.f15 0) (loopTail ([1, 13, 14, 15], []) [4] [] (sumK 52 [1, 13, 14, 15] [4] (q15l0 m))) (frameOf 52 [1, 13, 14, 15] [wsl 0, wsl 1, vi x0, vi x1]) ⟨[⟨true, (some (.tab sc0 x2))⟩, ⟨true, (some (.tab sc0 x3))⟩], 2, []⟩ = w15l0 (r15l0 m) x0 x1 x2 x3 from by kernel_rfl).trans
 (show w15l0 (r15l0 m) x0 x1 x2 x3 = a15l0 x0 x1 x2 x3 (r15l0 (m + 1) x0 x1 x2 x3) from by unfold w15l0; show _ = a15l0 x0 x1 x2 x3 (b15l0 (r15l0 m) x0 x1 x2 x3); unfold b15l0; exact (cond_both (a15l0 x0 x1 x2 x3) _ (fun h0 => (cond_both (a15l0 x0 x1 x2 x3) _ (fun h1 => (cond_t (ev_and2 h1) (cond_both (a15l0 x0 x1 x2 x3) _ (fun h2 => (cond_t (ev_and2 h2) (cond_app (a15l0 x0 x1 x2 x3) _ rfl (cond_app (a15l0 x0 x1 x2 x3) _ rfl (v15l0 x0 x1 x2 x3 ((r15l0 m) x0 (IntKind.i64.wrap (x1 + 1)) x2 x3)))))) (fun h2 => rfl)))) (fun h1 => rfl))) (fun h0 => rfl)))
set_option maxRecDepth 100000 in
set_option maxHeartbeats 4000000 in
theorem qm15l0 : ∀ m, SumKOk Tryz.prog (loopN Tryz.f15 0) 52 [1, 13, 14, 15] [4] (q15l0 m) := by
  intro m
  induction m with
  | zero =>
    intro vals s x h1 h2 h3
    unfold q15l0 at h3; split at h3
    · rename_i h; split at h3
      · rename_i hc; obtain ⟨rfl, rfl⟩ := hc; exact absurd h3 (by simp [r15l0, firstT, Nat.beq])
      · exact noQ_ok _ _ _ h1 h2 h3
    · exact noQ_ok _ _ _ h1 h2 h3
  | succ m ih =>
    intro vals s x h1 h2 h3
    unfold q15l0 at h3; split at h3
    · rename_i h; split at h3
      · rename_i hc; obtain ⟨rfl, rfl⟩ := hc; exact sum_step ok37 extOk mixed ((lfOkF_no _ _).inner (by kernel_rfl)) ih h1 h2 h (e15l0 m _ _ _ _) rfl h3
      · exact noQ_ok _ _ _ h1 h2 h3
    · exact noQ_ok _ _ _ h1 h2 h3
noncomputable def Q15l0 : SumK := fun vals s => q15l0 (fuelOf vals s.h) vals s
theorem qok15l0 : SumKOk Tryz.prog (loopN Tryz.f15 0) 52 [1, 13, 14, 15] [4] Q15l0 := fuel_ok qm15l0 fuelOf
noncomputable def L15_1 : LoopT := addL noL 5 ([1, 13, 14, 15], []) (sumK 52 [1, 13, 14, 15] [4] Q15l0)
theorem lok15_1 : LfOkF Tryz.prog L15_1 Tryz.f15 := lfOkF_add (lfOkF_no _ _) qok15l0 (by kernel_rfl) (by kernel_rfl) (by kernel_rfl)

/-- impl.SameChimney -/
noncomputable def w15 {α : Type} (x0 x1 : List (List Int)) (k : (Nat × Bool) → α) : α :=
 let c309 := (r15l0 (1000 + x0.length + x1.length) ((x0.length : Nat) : Int) 0 x1 x0)
 cond ((((x0.length : Nat) : Int) : Int) != ((x1.length : Nat) : Int))
  (k (0, false))
  (cond (Nat.beq c309 0)
   (k (0, false))
   (cond (Nat.beq c309 1)
    (k (0, true))
    (k (1, false))))
noncomputable def r15 (x0 x1 : List (List Int)) : Nat × Bool := w15 x0 x1 (fun p => p)
noncomputable def g15 (x0 x1 : List (List Int)) (p : Nat × Bool) : List (Bool × Value × St) := [((Nat.beq (p.1) 0), .bool (p.2), ⟨[⟨true, (some (.tab sc0 x0))⟩, ⟨true, (some (.tab sc0 x1))⟩], 2, []⟩)]
theorem p15 {α : Type} (x0 x1 : List (List Int)) (f : (Nat × Bool) → α) : w15 x0 x1 f = f (w15 x0 x1 (fun p => p)) := by unfold w15; exact (cond_app f _ rfl (cond_app f _ rfl (cond_app f _ rfl rfl)))
set_option maxRecDepth 100000 in
set_option maxHeartbeats 4000000 in
theorem e15 (x0 x1 : List (List Int)) : evFn Tryz.prog ext T37 L15_1 200 Tryz.f15 [wsl 0, wsl 1] ⟨[⟨true, (some (.tab sc0 x0))⟩, ⟨true, (some (.tab sc0 x1))⟩], 2, []⟩ = firstT (g15 x0 x1 (r15 x0 x1)) :=
 Eq.trans (by kernel_rfl) (p15 x0 x1 (fun p => firstT (g15 x0 x1 p)))
noncomputable def s15 (args : List Value) (s : St) : List (Bool × Value × St) :=
 match args, s.h with
 | [.iface f0 .nilIface, .iface f1 .nilIface], [⟨true, some (.tab [.fl .f32, .fl .f32, .fl .f32, .fl .f32, .int .i64] x0)⟩, ⟨true, some (.tab [.fl .f32, .fl .f32, .fl .f32, .fl .f32, .int .i64] x1)⟩] => if f0 = 0 ∧ f1 = 1 then (g15 x0 x1 (r15 x0 x1)) else T37 15 args s
 | _, _ => T37 15 args s
noncomputable def T38 : CallF := addF T37 15 s15
set_option maxRecDepth 100000 in
set_option maxHeartbeats 4000000 in
theorem ok38 : CfOk Tryz.prog T38 := by
  refine cfOk_add ok37 fun args s r s' h1 h2 h3 => ?_
  unfold s15 at h3; split at h3
  · rename_i h; split at h3
    · rename_i hc; obtain ⟨rfl, rfl⟩ := hc; exact callOk ok37 Tryz.func15 h1 h2 h lok15_1.body (e15 _ _) rfl h3
    · exact ok37 _ _ _ _ _ h1 h2 h3
  · exact ok37 _ _ _ _ _ h1 h2 h3

/-- spec.P6Pick -/
noncomputable def w17 {α : Type} (x0 : Int) (x1 : List (List Int)) (k : (Nat × Int) → α) : α :=
 cond (Nat.beq ((r47 x0 ((r43 x1).1) ((r43 x1).2) x1).1) 0)
  (k (0, ((r47 x0 ((r43 x1).1) ((r43 x1).2) x1).2.1)))
  (k (1, 0))
noncomputable def r17 (x0 : Int) (x1 : List (List Int)) : Nat × Int := w17 x0 x1 (fun p => p)
noncomputable def g17 (x0 : Int) (x1 : List (List Int)) (p : Nat × Int) : List (Bool × Value × St) := [((Nat.beq (p.1) 0), vi (p.2), ⟨[⟨false, (some (.tab [.int .u8] x1))⟩], 1, []⟩)]
theorem p17 {α : Type} (x0 : Int) (x1 : List (List Int)) (f : (Nat × Int) → α) : w17 x0 x1 f = f (w17 x0 x1 (fun p => p)) := by unfold w17; exact (cond_app f _ rfl rfl)
set_option maxRecDepth 100000 in
set_option maxHeartbeats 4000000 in
theorem e17 (x0 : Int) (x1 : List (List Int)) : evFn Tryz.prog ext T38 noL 200 Tryz.f17 [wsl 0, vi x0] ⟨[⟨false, (some (.tab [.int .u8] x1))⟩], 1, []⟩ = firstT (g17 x0 x1 (r17 x0 x1)) :=
 Eq.trans (by kernel_rfl) (p17 x0 x1 (fun p => firstT (g17 x0 x1 p)))
noncomputable def s17 (args : List Value) (s : St) : List (Bool × Value × St) :=
 match args, s.h with
 | [.iface f0 .nilIface, .int .i64 x0], [⟨false, some (.tab [.int .u8] x1)⟩] => if f0 = 0 then (g17 x0 x1 (r17 x0 x1)) else T38 17 args s
 | _, _ => T38 17 args s
noncomputable def T39 : CallF := addF T38 17 s17
set_option maxRecDepth 100000 in
set_option maxHeartbeats 4000000 in
theorem ok39 : CfOk Tryz.prog T39 := by
  refine cfOk_add ok38 fun args s r s' h1 h2 h3 => ?_
  unfold s17 at h3; split at h3
  · rename_i h; split at h3
    · rename_i hc; obtain ⟨rfl⟩ := hc; exact callOk ok38 Tryz.func17 h1 h2 h (lfOkF_no _ _).body (e17 _ _) rfl h3
    · exact ok38 _ _ _ _ _ h1 h2 h3
  · exact ok38 _ _ _ _ _ h1 h2 h3

/-- impl.dense -/
noncomputable def w49 {α : Type} (x0 : Nat) (k : Nat → α) : α :=
 k ((fdiv .f32 1135640576 (fadd .f32 x0 1133019136)))
noncomputable def r49 (x0 : Nat) : Nat := w49 x0 (fun p => p)
noncomputable def g49 (x0 : Nat) (p : Nat) : List (Bool × Value × St) := [(true, vf p, st0)]
theorem p49 {α : Type} (x0 : Nat) (f : Nat → α) : w49 x0 f = f (w49 x0 (fun p => p)) := by unfold w49; exact rfl
set_option maxRecDepth 100000 in
set_option maxHeartbeats 4000000 in
theorem e49 (x0 : Nat) : evFn Tryz.prog ext T39 noL 200 Tryz.f49 [vf x0] st0 = firstT (g49 x0 (r49 x0)) :=
 Eq.trans (by kernel_rfl) (p49 x0 (fun p => firstT (g49 x0 p)))
noncomputable def s49 (args : List Value) (s : St) : List (Bool × Value × St) :=
 match args, s.h with
 | [.float .f32 x0], [] => (g49 x0 (r49 x0))
 | _, _ => T39 49 args s
noncomputable def T40 : CallF := addF T39 49 s49
set_option maxRecDepth 100000 in
set_option maxHeartbeats 4000000 in
theorem ok40 : CfOk Tryz.prog T40 := by
  refine cfOk_add ok39 fun args s r s' h1 h2 h3 => ?_
  unfold s49 at h3; split at h3
  · rename_i h; exact callOk ok39 Tryz.func49 h1 h2 h (lfOkF_no _ _).body (e49 _) rfl h3
  · exact ok39 _ _ _ _ _ h1 h2 h3

/-- impl.DenseAt -/
noncomputable def w18 {α : Type} (x0 : Nat) (k : (Nat × Int) → α) : α :=
 cond (!(r48 x0 3262119936 1153138688))
  (k (0, 2))
  (k ((r49 x0), 0))
noncomputable def r18 (x0 : Nat) : Nat × Int := w18 x0 (fun p => p)
noncomputable def g18 (x0 : Nat) (p : Nat × Int) : List (Bool × Value × St) := [(true, .tuple #[vf (p.1), vi (p.2)], st0)]
theorem p18 {α : Type} (x0 : Nat) (f : (Nat × Int) → α) : w18 x0 f = f (w18 x0 (fun p => p)) := by unfold w18; exact (cond_app f _ rfl rfl)
set_option maxRecDepth 100000 in
set_option maxHeartbeats 4000000 in
theorem e18 (x0 : Nat) : evFn Tryz.prog ext T40 noL 200 Tryz.f18 [vf x0] st0 = firstT (g18 x0 (r18 x0)) :=
 Eq.trans (by kernel_rfl) (p18 x0 (fun p => firstT (g18 x0 p)))
noncomputable def s18 (args : List Value) (s : St) : List (Bool × Value × St) :=
 match args, s.h with
 | [.float .f32 x0], [] => (g18 x0 (r18 x0))
 | _, _ => T40 18 args s
noncomputable def T41 : CallF := addF T40 18 s18
set_option maxRecDepth 100000 in
set_option maxHeartbeats 4000000 in
theorem ok41 : CfOk Tryz.prog T41 := by
  refine cfOk_add ok40 fun args s r s' h1 h2 h3 => ?_
  unfold s18 at h3; split at h3
  · rename_i h; exact callOk ok40 Tryz.func18 h1 h2 h (lfOkF_no _ _).body (e18 _) rfl h3
  · exact ok40 _ _ _ _ _ h1 h2 h3

/-- impl.isOutside -/
noncomputable def w50 {α : Type} (x0 : Nat) (k : Bool → α) : α :=
 k ((r48 x0 3262119936 1114636288))
noncomputable def r50 (x0 : Nat) : Bool := w50 x0 (fun p => p)
noncomputable def g50 (x0 : Nat) (p : Bool) : List (Bool × Value × St) := [(true, .bool p, st0)]
theorem p50 {α : Type} (x0 : Nat) (f : Bool → α) : w50 x0 f = f (w50 x0 (fun p => p)) := by unfold w50; exact rfl
set_option maxRecDepth 100000 in
set_option maxHeartbeats 4000000 in
theorem e50 (x0 : Nat) : evFn Tryz.prog ext T41 noL 200 Tryz.f50 [vf x0] st0 = firstT (g50 x0 (r50 x0)) :=
 Eq.trans (by kernel_rfl) (p50 x0 (fun p => firstT (g50 x0 p)))
noncomputable def s50 (args : List Value) (s : St) : List (Bool × Value × St) :=
 match args, s.h with
 | [.float .f32 x0], [] => (g50 x0 (r50 x0))
 | _, _ => T41 50 args s
noncomputable def T42 : CallF := addF T41 50 s50
set_option maxRecDepth 100000 in
set_option maxHeartbeats 4000000 in
theorem ok42 : CfOk Tryz.prog T42 := by
  refine cfOk_add ok41 fun args s r s' h1 h2 h3 => ?_
  unfold s50 at h3; split at h3
  · rename_i h; exact callOk ok41 Tryz.func50 h1 h2 h (lfOkF_no _ _).body (e50 _) rfl h3
  · exact ok41 _ _ _ _ _ h1 h2 h3

/-- impl.draft -/
noncomputable def w51 {α : Type} (x0 x1 x2 x3 : Nat) (x4 : Int) (x5 : Nat) (k : Nat → α) : α :=
 k ((fmul .f32 (fmul .f32 1092354048 x0) (fsub .f32 (r49 x5) (r49 x2))))
noncomputable def r51 (x0 x1 x2 x3 : Nat) (x4 : Int) (x5 : Nat) : Nat := w51 x0 x1 x2 x3 x4 x5 (fun p => p)
noncomputable def g51 (x0 x1 x2 x3 : Nat) (x4 : Int) (x5 : Nat) (p : Nat) : List (Bool × Value × St) := [(true, vf p, st0)]
theorem p51 {α : Type} (x0 x1 x2 x3 : Nat) (x4 : Int) (x5 : Nat) (f : Nat → α) : w51 x0 x1 x2 x3 x4 x5 f = f (w51 x0 x1 x2 x3 x4 x5 (fun p => p)) := by unfold w51; exact rfl
set_option maxRecDepth 100000 in
set_option maxHeartbeats 4000000 in
theorem e51 (x0 x1 x2 x3 : Nat) (x4 : Int) (x5 : Nat) : evFn Tryz.prog ext T42 noL 200 Tryz.f51 [.agg #[vf x0, vf x1, vf x2, vf x3, vi x4], vf x5] st0 = firstT (g51 x0 x1 x2 x3 x4 x5 (r51 x0 x1 x2 x3 x4 x5)) :=
 Eq.trans (by kernel_rfl) (p51 x0 x1 x2 x3 x4 x5 (fun p => firstT (g51 x0 x1 x2 x3 x4 x5 p)))
noncomputable def s51 (args : List Value) (s : St) : List (Bool × Value × St) :=
 match args, s.h with
 | [.agg ⟨[.float .f32 x0, .float .f32 x1, .float .f32 x2, .float .f32 x3, .int .i64 x4]⟩, .float .f32 x5], [] => (g51 x0 x1 x2 x3 x4 x5 (r51 x0 x1 x2 x3 x4 x5))
 | _, _ => T42 51 args s
noncomputable def T43 : CallF := addF T42 51 s51
set_option maxRecDepth 100000 in
set_option maxHeartbeats 4000000 in
theorem ok43 : CfOk Tryz.prog T43 := by
  refine cfOk_add ok42 fun args s r s' h1 h2 h3 => ?_
  unfold s51 at h3; split at h3
  · rename_i h; exact callOk ok42 Tryz.func51 h1 h2 h (lfOkF_no _ _).body (e51 _ _ _ _ _ _) rfl h3
  · exact ok42 _ _ _ _ _ h1 h2 h3

/-- impl.DraftOf -/
noncomputable def w19 {α : Type} (x0 x1 x2 x3 : Nat) (x4 : Int) (x5 : Nat) (k : (Nat × Int) → α) : α :=
 cond (!(r46 x0 x1 x2 x3 x4))
  (k (0, 1))
  (cond (!(r50 x5))
   (k (0, 2))
   (k ((r51 x0 x1 x2 x3 x4 x5), 0)))
noncomputable def r19 (x0 x1 x2 x3 : Nat) (x4 : Int) (x5 : Nat) : Nat × Int := w19 x0 x1 x2 x3 x4 x5 (fun p => p)
noncomputable def g19 (x0 x1 x2 x3 : Nat) (x4 : Int) (x5 : Nat) (p : Nat × Int) : List (Bool × Value × St) := [(true, .tuple #[vf (p.1), vi (p.2)], st0)]
theorem p19 {α : Type} (x0 x1 x2 x3 : Nat) (x4 : Int) (x5 : Nat) (f : (Nat × Int) → α) : w19 x0 x1 x2 x3 x4 x5 f = f (w19 x0 x1 x2 x3 x4 x5 (fun p => p)) := by unfold w19; exact (cond_app f _ rfl (cond_app f _ rfl rfl))
set_option maxRecDepth 100000 in
set_option maxHeartbeats 4000000 in
theorem e19 (x0 x1 x2 x3 : Nat) (x4 : Int) (x5 : Nat) : evFn Tryz.prog ext T43 noL 200 Tryz.f19 [.agg #[vf x0, vf x1, vf x2, vf x3, vi x4], vf x5] st0 = firstT (g19 x0 x1 x2 x3 x4 x5 (r19 x0 x1 x2 x3 x4 x5)) :=
 Eq.trans (by kernel_rfl) (p19 x0 x1 x2 x3 x4 x5 (fun p => firstT (g19 x0 x1 x2 x3 x4 x5 p)))
noncomputable def s19 (args : List Value) (s : St) : List (Bool × Value × St) :=
 match args, s.h with
 | [.agg ⟨[.float .f32 x0, .float .f32 x1, .float .f32 x2, .float .f32 x3, .int .i64 x4]⟩, .float .f32 x5], [] => (g19 x0 x1 x2 x3 x4 x5 (r19 x0 x1 x2 x3 x4 x5))
 | _, _ => T43 19 args s
noncomputable def T44 : CallF := addF T43 19 s19
set_option maxRecDepth 100000 in
set_option maxHeartbeats 4000000 in
theorem ok44 : CfOk Tryz.prog T44 := by
  refine cfOk_add ok43 fun args s r s' h1 h2 h3 => ?_
  unfold s19 at h3; split at h3
  · rename_i h; exact callOk ok43 Tryz.func19 h1 h2 h (lfOkF_no _ _).body (e19 _ _ _ _ _ _) rfl h3
  · exact ok43 _ _ _ _ _ h1 h2 h3

/-- spec.l01Finite -/
noncomputable def w101 {α : Type} (x0 : Nat) (k : Bool → α) : α :=
 k ((feq .f32 (fsub .f32 x0 x0) 0))
noncomputable def r101 (x0 : Nat) : Bool := w101 x0 (fun p => p)
noncomputable def g101 (x0 : Nat) (p : Bool) : List (Bool × Value × St) := [(true, .bool p, st0)]
theorem p101 {α : Type} (x0 : Nat) (f : Bool → α) : w101 x0 f = f (w101 x0 (fun p => p)) := by unfold w101; exact rfl
set_option maxRecDepth 100000 in
set_option maxHeartbeats 4000000 in
theorem e101 (x0 : Nat) : evFn Tryz.prog ext T44 noL 200 Tryz.f101 [vf x0] st0 = firstT (g101 x0 (r101 x0)) :=
 Eq.trans (by kernel_rfl) (p101 x0 (fun p => firstT (g101 x0 p)))
noncomputable def s101 (args : List Value) (s : St) : List (Bool × Value × St) :=
 match args, s.h with
 | [.float .f32 x0], [] => (g101 x0 (r101 x0))
 | _, _ => T44 101 args s
noncomputable def T45 : CallF := addF T44 101 s101
set_option maxRecDepth 100000 in
set_option maxHeartbeats 4000000 in
theorem ok45 : CfOk Tryz.prog T45 := by
  refine cfOk_add ok44 fun args s r s' h1 h2 h3 => ?_
  unfold s101 at h3; split at h3
  · rename_i h; exact callOk ok44 Tryz.func101 h1 h2 h (lfOkF_no _ _).body (e101 _) rfl h3
  · exact ok44 _ _ _ _ _ h1 h2 h3

/-- spec.l01Amount -/
noncomputable def w94 {α : Type} (x0 : Nat) (k : Bool → α) : α :=
 cond (r101 x0)
  (cond (fgt .f32 x0 0)
   (k (true))
   (cond (!isN .f32 x0)
    (k (((((x0 : Nat) : Int) : Int) == 0)))
    (k (false))))
  (k (false))
noncomputable def r94 (x0 : Nat) : Bool := w94 x0 (fun p => p)
noncomputable def g94 (x0 : Nat) (p : Bool) : List (Bool × Value × St) := [(true, .bool p, st0)]
theorem p94 {α : Type} (x0 : Nat) (f : Bool → α) : w94 x0 f = f (w94 x0 (fun p => p)) := by unfold w94; exact (cond_app f _ (cond_app f _ rfl (cond_app f _ rfl rfl)) rfl)
set_option maxRecDepth 100000 in
set_option maxHeartbeats 4000000 in
theorem e94 (x0 : Nat) : evFn Tryz.prog ext T45 noL 200 Tryz.f94 [vf x0] st0 = firstT (g94 x0 (r94 x0)) :=
 Eq.trans (by kernel_rfl) (p94 x0 (fun p => firstT (g94 x0 p)))
noncomputable def s94 (args : List Value) (s : St) : List (Bool × Value × St) :=
 match args, s.h with
 | [.float .f32 x0], [] => (g94 x0 (r94 x0))
 | _, _ => T45 94 args s
noncomputable def T46 : CallF := addF T45 94 s94
set_option maxRecDepth 100000 in
set_option maxHeartbeats 4000000 in
theorem ok46 : CfOk Tryz.prog T46 := by
  refine cfOk_add ok45 fun args s r s' h1 h2 h3 => ?_
  unfold s94 at h3; split at h3
  · rename_i h; exact callOk ok45 Tryz.func94 h1 h2 h (lfOkF_no _ _).body (e94 _) rfl h3
  · exact ok45 _ _ _ _ _ h1 h2 h3

/-- spec.l03Hot -/
noncomputable def w95 {α : Type} (x0 : Nat) (k : Bool → α) : α :=
 cond (fgt .f32 x0 3262119936 || feq .f32 x0 3262119936)
  (k ((flt .f32 x0 1153138688 || feq .f32 x0 1153138688)))
  (k (false))
noncomputable def r95 (x0 : Nat) : Bool := w95 x0 (fun p => p)
noncomputable def g95 (x0 : Nat) (p : Bool) : List (Bool × Value × St) := [(true, .bool p, st0)]
theorem p95 {α : Type} (x0 : Nat) (f : Bool → α) : w95 x0 f = f (w95 x0 (fun p => p)) := by unfold w95; exact (cond_app f _ rfl rfl)
set_option maxRecDepth 100000 in
set_option maxHeartbeats 4000000 in
theorem e95 (x0 : Nat) : evFn Tryz.prog ext T46 noL 200 Tryz.f95 [vf x0] st0 = firstT (g95 x0 (r95 x0)) :=
 Eq.trans (by kernel_rfl) (p95 x0 (fun p => firstT (g95 x0 p)))
noncomputable def s95 (args : List Value) (s : St) : List (Bool × Value × St) :=
 match args, s.h with
 | [.float .f32 x0], [] => (g95 x0 (r95 x0))
 | _, _ => T46 95 args s
noncomputable def T47 : CallF := addF T46 95 s95
set_option maxRecDepth 100000 in
set_option maxHeartbeats 4000000 in
theorem ok47 : CfOk Tryz.prog T47 := by
  refine cfOk_add ok46 fun args s r s' h1 h2 h3 => ?_
  unfold s95 at h3; split at h3
  · rename_i h; exact callOk ok46 Tryz.func95 h1 h2 h (lfOkF_no _ _).body (e95 _) rfl h3
  · exact ok46 _ _ _ _ _ h1 h2 h3

/-- spec.l01Share -/
noncomputable def w96 {α : Type} (x0 : Nat) (k : Bool → α) : α :=
 cond (r94 x0)
  (k ((flt .f32 x0 1065353216 || feq .f32 x0 1065353216)))
  (k (false))
noncomputable def r96 (x0 : Nat) : Bool := w96 x0 (fun p => p)
noncomputable def g96 (x0 : Nat) (p : Bool) : List (Bool × Value × St) := [(true, .bool p, st0)]
theorem p96 {α : Type} (x0 : Nat) (f : Bool → α) : w96 x0 f = f (w96 x0 (fun p => p)) := by unfold w96; exact (cond_app f _ rfl rfl)
set_option maxRecDepth 100000 in
set_option maxHeartbeats 4000000 in
theorem e96 (x0 : Nat) : evFn Tryz.prog ext T47 noL 200 Tryz.f96 [vf x0] st0 = firstT (g96 x0 (r96 x0)) :=
 Eq.trans (by kernel_rfl) (p96 x0 (fun p => firstT (g96 x0 p)))
noncomputable def s96 (args : List Value) (s : St) : List (Bool × Value × St) :=
 match args, s.h with
 | [.float .f32 x0], [] => (g96 x0 (r96 x0))
 | _, _ => T47 96 args s
noncomputable def T48 : CallF := addF T47 96 s96
set_option maxRecDepth 100000 in
set_option maxHeartbeats 4000000 in
theorem ok48 : CfOk Tryz.prog T48 := by
  refine cfOk_add ok47 fun args s r s' h1 h2 h3 => ?_
  unfold s96 at h3; split at h3
  · rename_i h; exact callOk ok47 Tryz.func96 h1 h2 h (lfOkF_no _ _).body (e96 _) rfl h3
  · exact ok47 _ _ _ _ _ h1 h2 h3

/-- spec.l03Flue -/
noncomputable def w52 {α : Type} (x0 x1 x2 x3 : Nat) (x4 : Int) (k : Bool → α) : α :=
 cond (r94 x0)
  (cond (fgt .f32 x0 1031798784 || feq .f32 x0 1031798784)
   (cond (flt .f32 x0 1106247680 || feq .f32 x0 1106247680)
    (cond (r94 x1)
     (cond (fgt .f32 x1 1015021568 || feq .f32 x1 1015021568)
      (cond (flt .f32 x1 1082130432 || feq .f32 x1 1082130432)
       (cond (r95 x2)
        (k ((r96 x3)))
        (k (false)))
       (k (false)))
      (k (false)))
     (k (false)))
    (k (false)))
   (k (false)))
  (k (false))
noncomputable def r52 (x0 x1 x2 x3 : Nat) (x4 : Int) : Bool := w52 x0 x1 x2 x3 x4 (fun p => p)
noncomputable def g52 (x0 x1 x2 x3 : Nat) (x4 : Int) (p : Bool) : List (Bool × Value × St) := [(true, .bool p, ⟨[⟨true, (some (.cells [vf x0, vf x1, vf x2, vf x3, vi x4]))⟩], 1, []⟩)]
theorem p52 {α : Type} (x0 x1 x2 x3 : Nat) (x4 : Int) (f : Bool → α) : w52 x0 x1 x2 x3 x4 f = f (w52 x0 x1 x2 x3 x4 (fun p => p)) := by unfold w52; repeat' (first | refine cond_app f _ ?_ ?_ | rfl)
set_option maxRecDepth 100000 in
set_option maxHeartbeats 4000000 in
theorem e52 (x0 x1 x2 x3 : Nat) (x4 : Int) : evFn Tryz.prog ext T48 noL 200 Tryz.f52 [vp 0] ⟨[⟨true, (some (.cells [vf x0, vf x1, vf x2, vf x3, vi x4]))⟩], 1, []⟩ = firstT (g52 x0 x1 x2 x3 x4 (r52 x0 x1 x2 x3 x4)) :=
 Eq.trans (by kernel_rfl) (p52 x0 x1 x2 x3 x4 (fun p => firstT (g52 x0 x1 x2 x3 x4 p)))
noncomputable def s52 (args : List Value) (s : St) : List (Bool × Value × St) :=
 match args, s.h with
 | [.pointer (some ⟨f0, f1, some f2⟩)], [⟨true, some (.cells [.float .f32 x0, .float .f32 x1, .float .f32 x2, .float .f32 x3, .int .i64 x4])⟩] => if f0 = 0 ∧ f1 = 0 ∧ f2 = 0 then (g52 x0 x1 x2 x3 x4 (r52 x0 x1 x2 x3 x4)) else T48 52 args s
 | _, _ => T48 52 args s
noncomputable def T49 : CallF := addF T48 52 s52
set_option maxRecDepth 100000 in
set_option maxHeartbeats 4000000 in
theorem ok49 : CfOk Tryz.prog T49 := by
  refine cfOk_add ok48 fun args s r s' h1 h2 h3 => ?_
  unfold s52 at h3; split at h3
  · rename_i h; split at h3
    · rename_i hc; obtain ⟨rfl, rfl, rfl⟩ := hc; exact callOk ok48 Tryz.func52 h1 h2 h (lfOkF_no _ _).body (e52 _ _ _ _ _) rfl h3
    · exact ok48 _ _ _ _ _ h1 h2 h3
  · exact ok48 _ _ _ _ _ h1 h2 h3

/-- spec.l03Outside -/
noncomputable def w53 {α : Type} (x0 : Nat) (k : Bool → α) : α :=
 cond (fgt .f32 x0 3262119936 || feq .f32 x0 3262119936)
  (k ((flt .f32 x0 1114636288 || feq .f32 x0 1114636288)))
  (k (false))
noncomputable def r53 (x0 : Nat) : Bool := w53 x0 (fun p => p)
noncomputable def g53 (x0 : Nat) (p : Bool) : List (Bool × Value × St) := [(true, .bool p, st0)]
theorem p53 {α : Type} (x0 : Nat) (f : Bool → α) : w53 x0 f = f (w53 x0 (fun p => p)) := by unfold w53; exact (cond_app f _ rfl rfl)
set_option maxRecDepth 100000 in
set_option maxHeartbeats 4000000 in
theorem e53 (x0 : Nat) : evFn Tryz.prog ext T49 noL 200 Tryz.f53 [vf x0] st0 = firstT (g53 x0 (r53 x0)) :=
 Eq.trans (by kernel_rfl) (p53 x0 (fun p => firstT (g53 x0 p)))
noncomputable def s53 (args : List Value) (s : St) : List (Bool × Value × St) :=
 match args, s.h with
 | [.float .f32 x0], [] => (g53 x0 (r53 x0))
 | _, _ => T49 53 args s
noncomputable def T50 : CallF := addF T49 53 s53
set_option maxRecDepth 100000 in
set_option maxHeartbeats 4000000 in
theorem ok50 : CfOk Tryz.prog T50 := by
  refine cfOk_add ok49 fun args s r s' h1 h2 h3 => ?_
  unfold s53 at h3; split at h3
  · rename_i h; exact callOk ok49 Tryz.func53 h1 h2 h (lfOkF_no _ _).body (e53 _) rfl h3
  · exact ok49 _ _ _ _ _ h1 h2 h3

/-- spec.l03Dense -/
noncomputable def w97 {α : Type} (x0 : Nat) (k : Nat → α) : α :=
 k ((fdiv .f32 1135640576 (fadd .f32 x0 1133019136)))
noncomputable def r97 (x0 : Nat) : Nat := w97 x0 (fun p => p)
noncomputable def g97 (x0 : Nat) (p : Nat) : List (Bool × Value × St) := [(true, vf p, st0)]
theorem p97 {α : Type} (x0 : Nat) (f : Nat → α) : w97 x0 f = f (w97 x0 (fun p => p)) := by unfold w97; exact rfl
set_option maxRecDepth 100000 in
set_option maxHeartbeats 4000000 in
theorem e97 (x0 : Nat) : evFn Tryz.prog ext T50 noL 200 Tryz.f97 [vf x0] st0 = firstT (g97 x0 (r97 x0)) :=
 Eq.trans (by kernel_rfl) (p97 x0 (fun p => firstT (g97 x0 p)))
noncomputable def s97 (args : List Value) (s : St) : List (Bool × Value × St) :=
 match args, s.h with
 | [.float .f32 x0], [] => (g97 x0 (r97 x0))
 | _, _ => T50 97 args s
noncomputable def T51 : CallF := addF T50 97 s97
set_option maxRecDepth 100000 in
set_option maxHeartbeats 4000000 in
theorem ok51 : CfOk Tryz.prog T51 := by
  refine cfOk_add ok50 fun args s r s' h1 h2 h3 => ?_
  unfold s97 at h3; split at h3
  · rename_i h; exact callOk ok50 Tryz.func97 h1 h2 h (lfOkF_no _ _).body (e97 _) rfl h3
  · exact ok50 _ _ _ _ _ h1 h2 h3

/-- spec.l03Draft -/
noncomputable def w54 {α : Type} (x0 x1 x2 x3 x4 : Nat) (x5 : Int) (k : Nat → α) : α :=
 k ((fmul .f32 (fmul .f32 1092354048 x1) (fsub .f32 (r97 x0) (r97 x3))))
noncomputable def r54 (x0 x1 x2 x3 x4 : Nat) (x5 : Int) : Nat := w54 x0 x1 x2 x3 x4 x5 (fun p => p)
noncomputable def g54 (x0 x1 x2 x3 x4 : Nat) (x5 : Int) (p : Nat) : List (Bool × Value × St) := [(true, vf p, ⟨[⟨true, (some (.cells [vf x1, vf x2, vf x3, vf x4, vi x5]))⟩], 1, []⟩)]
theorem p54 {α : Type} (x0 x1 x2 x3 x4 : Nat) (x5 : Int) (f : Nat → α) : w54 x0 x1 x2 x3 x4 x5 f = f (w54 x0 x1 x2 x3 x4 x5 (fun p => p)) := by unfold w54; exact rfl
set_option maxRecDepth 100000 in
set_option maxHeartbeats 4000000 in
theorem e54 (x0 x1 x2 x3 x4 : Nat) (x5 : Int) : evFn Tryz.prog ext T51 noL 200 Tryz.f54 [vp 0, vf x0] ⟨[⟨true, (some (.cells [vf x1, vf x2, vf x3, vf x4, vi x5]))⟩], 1, []⟩ = firstT (g54 x0 x1 x2 x3 x4 x5 (r54 x0 x1 x2 x3 x4 x5)) :=
 Eq.trans (by kernel_rfl) (p54 x0 x1 x2 x3 x4 x5 (fun p => firstT (g54 x0 x1 x2 x3 x4 x5 p)))
noncomputable def s54 (args : List Value) (s : St) : List (Bool × Value × St) :=
 match args, s.h with
 | [.pointer (some ⟨f0, f1, some f2⟩), .float .f32 x0], [⟨true, some (.cells [.float .f32 x1, .float .f32 x2, .float .f32 x3, .float .f32 x4, .int .i64 x5])⟩] => if f0 = 0 ∧ f1 = 0 ∧ f2 = 0 then (g54 x0 x1 x2 x3 x4 x5 (r54 x0 x1 x2 x3 x4 x5)) else T51 54 args s
 | _, _ => T51 54 args s
noncomputable def T52 : CallF := addF T51 54 s54
set_option maxRecDepth 100000 in
set_option maxHeartbeats 4000000 in
theorem ok52 : CfOk Tryz.prog T52 := by
  refine cfOk_add ok51 fun args s r s' h1 h2 h3 => ?_
  unfold s54 at h3; split at h3
  · rename_i h; split at h3
    · rename_i hc; obtain ⟨rfl, rfl, rfl⟩ := hc; exact callOk ok51 Tryz.func54 h1 h2 h (lfOkF_no _ _).body (e54 _ _ _ _ _ _) rfl h3
    · exact ok51 _ _ _ _ _ h1 h2 h3
  · exact ok51 _ _ _ _ _ h1 h2 h3

/-- spec.DraftOf -/
noncomputable def w20 {α : Type} (x0 x1 x2 x3 : Nat) (x4 : Int) (x5 : Nat) (k : (Nat × Int) → α) : α :=
 cond (!(r52 x0 x1 x2 x3 x4))
  (k (0, 1))
  (cond (!(r53 x5))
   (k (0, 2))
   (k ((r54 x5 x0 x1 x2 x3 x4), 0)))
noncomputable def r20 (x0 x1 x2 x3 : Nat) (x4 : Int) (x5 : Nat) : Nat × Int := w20 x0 x1 x2 x3 x4 x5 (fun p => p)
noncomputable def g20 (x0 x1 x2 x3 : Nat) (x4 : Int) (x5 : Nat) (p : Nat × Int) : List (Bool × Value × St) := [(true, .tuple #[vf (p.1), vi (p.2)], st0)]
theorem p20 {α : Type} (x0 x1 x2 x3 : Nat) (x4 : Int) (x5 : Nat) (f : (Nat × Int) → α) : w20 x0 x1 x2 x3 x4 x5 f = f (w20 x0 x1 x2 x3 x4 x5 (fun p => p)) := by unfold w20; exact (cond_app f _ rfl (cond_app f _ rfl rfl))
set_option maxRecDepth 100000 in
set_option maxHeartbeats 4000000 in
theorem e20 (x0 x1 x2 x3 : Nat) (x4 : Int) (x5 : Nat) : evFn Tryz.prog ext T52 noL 200 Tryz.f20 [.agg #[vf x0, vf x1, vf x2, vf x3, vi x4], vf x5] st0 = firstT (g20 x0 x1 x2 x3 x4 x5 (r20 x0 x1 x2 x3 x4 x5)) :=
 Eq.trans (by kernel_rfl) (p20 x0 x1 x2 x3 x4 x5 (fun p => firstT (g20 x0 x1 x2 x3 x4 x5 p)))
noncomputable def s20 (args : List Value) (s : St) : List (Bool × Value × St) :=
 match args, s.h with
 | [.agg ⟨[.float .f32 x0, .float .f32 x1, .float .f32 x2, .float .f32 x3, .int .i64 x4]⟩, .float .f32 x5], [] => (g20 x0 x1 x2 x3 x4 x5 (r20 x0 x1 x2 x3 x4 x5))
 | _, _ => T52 20 args s
noncomputable def T53 : CallF := addF T52 20 s20
set_option maxRecDepth 100000 in
set_option maxHeartbeats 4000000 in
theorem ok53 : CfOk Tryz.prog T53 := by
  refine cfOk_add ok52 fun args s r s' h1 h2 h3 => ?_
  unfold s20 at h3; split at h3
  · rename_i h; exact callOk ok52 Tryz.func20 h1 h2 h (lfOkF_no _ _).body (e20 _ _ _ _ _ _) rfl h3
  · exact ok52 _ _ _ _ _ h1 h2 h3

/-- impl.isPush -/
noncomputable def w55 {α : Type} (x0 : Nat) (k : Bool → α) : α :=
 k ((r48 x0 3296329728 1148846080))
noncomputable def r55 (x0 : Nat) : Bool := w55 x0 (fun p => p)
noncomputable def g55 (x0 : Nat) (p : Bool) : List (Bool × Value × St) := [(true, .bool p, st0)]
theorem p55 {α : Type} (x0 : Nat) (f : Bool → α) : w55 x0 f = f (w55 x0 (fun p => p)) := by unfold w55; exact rfl
set_option maxRecDepth 100000 in
set_option maxHeartbeats 4000000 in
theorem e55 (x0 : Nat) : evFn Tryz.prog ext T53 noL 200 Tryz.f55 [vf x0] st0 = firstT (g55 x0 (r55 x0)) :=
 Eq.trans (by kernel_rfl) (p55 x0 (fun p => firstT (g55 x0 p)))
noncomputable def s55 (args : List Value) (s : St) : List (Bool × Value × St) :=
 match args, s.h with
 | [.float .f32 x0], [] => (g55 x0 (r55 x0))
 | _, _ => T53 55 args s
noncomputable def T54 : CallF := addF T53 55 s55
set_option maxRecDepth 100000 in
set_option maxHeartbeats 4000000 in
theorem ok54 : CfOk Tryz.prog T54 := by
  refine cfOk_add ok53 fun args s r s' h1 h2 h3 => ?_
  unfold s55 at h3; split at h3
  · rename_i h; exact callOk ok53 Tryz.func55 h1 h2 h (lfOkF_no _ _).body (e55 _) rfl h3
  · exact ok53 _ _ _ _ _ h1 h2 h3

/-- impl.resist -/
noncomputable def w58 {α : Type} (x0 x1 x2 x3 : Nat) (x4 : Int) (k : Nat → α) : α :=
 k ((fdiv .f32 (fadd .f32 1065353216 (fmul .f32 1048576000 x0)) (fmul .f32 (fmul .f32 x1 x3) (fmul .f32 x1 x3))))
noncomputable def r58 (x0 x1 x2 x3 : Nat) (x4 : Int) : Nat := w58 x0 x1 x2 x3 x4 (fun p => p)
noncomputable def g58 (x0 x1 x2 x3 : Nat) (x4 : Int) (p : Nat) : List (Bool × Value × St) := [(true, vf p, st0)]
theorem p58 {α : Type} (x0 x1 x2 x3 : Nat) (x4 : Int) (f : Nat → α) : w58 x0 x1 x2 x3 x4 f = f (w58 x0 x1 x2 x3 x4 (fun p => p)) := by unfold w58; exact rfl
set_option maxRecDepth 100000 in
set_option maxHeartbeats 4000000 in
theorem e58 (x0 x1 x2 x3 : Nat) (x4 : Int) : evFn Tryz.prog ext T54 noL 200 Tryz.f58 [.agg #[vf x0, vf x1, vf x2, vf x3, vi x4]] st0 = firstT (g58 x0 x1 x2 x3 x4 (r58 x0 x1 x2 x3 x4)) :=
 Eq.trans (by kernel_rfl) (p58 x0 x1 x2 x3 x4 (fun p => firstT (g58 x0 x1 x2 x3 x4 p)))
noncomputable def s58 (args : List Value) (s : St) : List (Bool × Value × St) :=
 match args, s.h with
 | [.agg ⟨[.float .f32 x0, .float .f32 x1, .float .f32 x2, .float .f32 x3, .int .i64 x4]⟩], [] => (g58 x0 x1 x2 x3 x4 (r58 x0 x1 x2 x3 x4))
 | _, _ => T54 58 args s
noncomputable def T55 : CallF := addF T54 58 s58
set_option maxRecDepth 100000 in
set_option maxHeartbeats 4000000 in
theorem ok55 : CfOk Tryz.prog T55 := by
  refine cfOk_add ok54 fun args s r s' h1 h2 h3 => ?_
  unfold s58 at h3; split at h3
  · rename_i h; exact callOk ok54 Tryz.func58 h1 h2 h (lfOkF_no _ _).body (e58 _ _ _ _ _) rfl h3
  · exact ok54 _ _ _ _ _ h1 h2 h3

/-- math.Sqrt -/
noncomputable def w128 {α : Type} (x0 : Nat) (k : Nat → α) : α :=
 k ((fsqrt .f64 x0))
noncomputable def r128 (x0 : Nat) : Nat := w128 x0 (fun p => p)
noncomputable def g128 (x0 : Nat) (p : Nat) : List (Bool × Value × St) := [(true, .float .f64 p, st0)]
theorem p128 {α : Type} (x0 : Nat) (f : Nat → α) : w128 x0 f = f (w128 x0 (fun p => p)) := by unfold w128; exact rfl
set_option maxRecDepth 100000 in
set_option maxHeartbeats 4000000 in
theorem e128 (x0 : Nat) : evFn Tryz.prog ext T55 noL 200 Tryz.f128 [.float .f64 x0] st0 = firstT (g128 x0 (r128 x0)) :=
 Eq.trans (by kernel_rfl) (p128 x0 (fun p => firstT (g128 x0 p)))
noncomputable def s128 (args : List Value) (s : St) : List (Bool × Value × St) :=
 match args, s.h with
 | [.float .f64 x0], [] => (g128 x0 (r128 x0))
 | _, _ => T55 128 args s
noncomputable def T56 : CallF := addF T55 128 s128
set_option maxRecDepth 100000 in
set_option maxHeartbeats 4000000 in
theorem ok56 : CfOk Tryz.prog T56 := by
  refine cfOk_add ok55 fun args s r s' h1 h2 h3 => ?_
  unfold s128 at h3; split at h3
  · rename_i h; exact callOk ok55 Tryz.func128 h1 h2 h (lfOkF_no _ _).body (e128 _) rfl h3
  · exact ok55 _ _ _ _ _ h1 h2 h3

/-- impl.root -/
noncomputable def w98 {α : Type} (x0 : Nat) (k : (Nat × Nat) → α) : α :=
 cond (narrowOk (r128 (widen x0)))
  (k (0, (narrow (r128 (widen x0)))))
  (k (1, 0))
noncomputable def r98 (x0 : Nat) : Nat × Nat := w98 x0 (fun p => p)
noncomputable def g98 (x0 : Nat) (p : Nat × Nat) : List (Bool × Value × St) := [((Nat.beq (p.1) 0), vf (p.2), st0)]
theorem p98 {α : Type} (x0 : Nat) (f : (Nat × Nat) → α) : w98 x0 f = f (w98 x0 (fun p => p)) := by unfold w98; exact (cond_app f _ rfl rfl)
set_option maxRecDepth 100000 in
set_option maxHeartbeats 4000000 in
theorem e98 (x0 : Nat) : evFn Tryz.prog ext T56 noL 200 Tryz.f98 [vf x0] st0 = firstT (g98 x0 (r98 x0)) :=
 Eq.trans (by kernel_rfl) (p98 x0 (fun p => firstT (g98 x0 p)))
noncomputable def s98 (args : List Value) (s : St) : List (Bool × Value × St) :=
 match args, s.h with
 | [.float .f32 x0], [] => (g98 x0 (r98 x0))
 | _, _ => T56 98 args s
noncomputable def T57 : CallF := addF T56 98 s98
set_option maxRecDepth 100000 in
set_option maxHeartbeats 4000000 in
theorem ok57 : CfOk Tryz.prog T57 := by
  refine cfOk_add ok56 fun args s r s' h1 h2 h3 => ?_
  unfold s98 at h3; split at h3
  · rename_i h; exact callOk ok56 Tryz.func98 h1 h2 h (lfOkF_no _ _).body (e98 _) rfl h3
  · exact ok56 _ _ _ _ _ h1 h2 h3

/-- impl.through -/
noncomputable def w56 {α : Type} (x0 x1 x2 x3 : Nat) (x4 : Int) (x5 x6 : Nat) (k : (Nat × Nat) → α) : α :=
 let c316 := (r98 (fneg .f32 (fdiv .f32 (fadd .f32 (r51 x0 x1 x2 x3 x4 x5) x6) (r58 x0 x1 x2 x3 x4))))
 let c317 := (r98 (fdiv .f32 (fadd .f32 (r51 x0 x1 x2 x3 x4 x5) x6) (r58 x0 x1 x2 x3 x4)))
 cond (feq .f32 x3 0)
  (k (0, 0))
  (cond (flt .f32 (fdiv .f32 (fadd .f32 (r51 x0 x1 x2 x3 x4 x5) x6) (r58 x0 x1 x2 x3 x4)) 0)
   (cond (Nat.beq (c316.1) 0)
    (k (0, (fneg .f32 (c316.2))))
    (k (1, 0)))
   (cond (Nat.beq (c317.1) 0)
    (k (0, (c317.2)))
    (k (1, 0))))
noncomputable def r56 (x0 x1 x2 x3 : Nat) (x4 : Int) (x5 x6 : Nat) : Nat × Nat := w56 x0 x1 x2 x3 x4 x5 x6 (fun p => p)
noncomputable def g56 (x0 x1 x2 x3 : Nat) (x4 : Int) (x5 x6 : Nat) (p : Nat × Nat) : List (Bool × Value × St) := [((Nat.beq (p.1) 0), vf (p.2), st0)]
theorem p56 {α : Type} (x0 x1 x2 x3 : Nat) (x4 : Int) (x5 x6 : Nat) (f : (Nat × Nat) → α) : w56 x0 x1 x2 x3 x4 x5 x6 f = f (w56 x0 x1 x2 x3 x4 x5 x6 (fun p => p)) := by unfold w56; exact (cond_app f _ rfl (cond_app f _ (cond_app f _ rfl rfl) (cond_app f _ rfl rfl)))
set_option maxRecDepth 100000 in
set_option maxHeartbeats 4000000 in
theorem e56 (x0 x1 x2 x3 : Nat) (x4 : Int) (x5 x6 : Nat) : evFn Tryz.prog ext T57 noL 200 Tryz.f56 [.agg #[vf x0, vf x1, vf x2, vf x3, vi x4], vf x5, vf x6] st0 = firstT (g56 x0 x1 x2 x3 x4 x5 x6 (r56 x0 x1 x2 x3 x4 x5 x6)) :=
 Eq.trans (by kernel_rfl) (p56 x0 x1 x2 x3 x4 x5 x6 (fun p => firstT (g56 x0 x1 x2 x3 x4 x5 x6 p)))
noncomputable def s56 (args : List Value) (s : St) : List (Bool × Value × St) :=
 match args, s.h with
 | [.agg ⟨[.float .f32 x0, .float .f32 x1, .float .f32 x2, .float .f32 x3, .int .i64 x4]⟩, .float .f32 x5, .float .f32 x6], [] => (g56 x0 x1 x2 x3 x4 x5 x6 (r56 x0 x1 x2 x3 x4 x5 x6))
 | _, _ => T57 56 args s
noncomputable def T58 : CallF := addF T57 56 s56
set_option maxRecDepth 100000 in
set_option maxHeartbeats 4000000 in
theorem ok58 : CfOk Tryz.prog T58 := by
  refine cfOk_add ok57 fun args s r s' h1 h2 h3 => ?_
  unfold s56 at h3; split at h3
  · rename_i h; exact callOk ok57 Tryz.func56 h1 h2 h (lfOkF_no _ _).body (e56 _ _ _ _ _ _ _) rfl h3
  · exact ok57 _ _ _ _ _ h1 h2 h3

/-- impl.FlowThrough -/
noncomputable def w21 {α : Type} (x0 x1 x2 x3 : Nat) (x4 : Int) (x5 x6 : Nat) (k : (Nat × Nat × Int) → α) : α :=
 cond (!(r46 x0 x1 x2 x3 x4))
  (k (0, 0, 1))
  (cond (!(r50 x5))
   (k (0, 0, 2))
   (cond (!(r55 x6))
    (k (0, 0, 2))
    (cond (Nat.beq ((r56 x0 x1 x2 x3 x4 x5 x6).1) 0)
     (cond (!(r57 ((r56 x0 x1 x2 x3 x4 x5 x6).2)))
      (k (0, 0, 4))
      (k (0, ((r56 x0 x1 x2 x3 x4 x5 x6).2), 0)))
     (k (1, 0, 0)))))
noncomputable def r21 (x0 x1 x2 x3 : Nat) (x4 : Int) (x5 x6 : Nat) : Nat × Nat × Int := w21 x0 x1 x2 x3 x4 x5 x6 (fun p => p)
noncomputable def g21 (x0 x1 x2 x3 : Nat) (x4 : Int) (x5 x6 : Nat) (p : Nat × Nat × Int) : List (Bool × Value × St) := [((Nat.beq (p.1) 0), .tuple #[vf (p.2.1), vi (p.2.2)], st0)]
theorem p21 {α : Type} (x0 x1 x2 x3 : Nat) (x4 : Int) (x5 x6 : Nat) (f : (Nat × Nat × Int) → α) : w21 x0 x1 x2 x3 x4 x5 x6 f = f (w21 x0 x1 x2 x3 x4 x5 x6 (fun p => p)) := by unfold w21; repeat' (first | refine cond_app f _ ?_ ?_ | rfl)
set_option maxRecDepth 100000 in
set_option maxHeartbeats 4000000 in
theorem e21 (x0 x1 x2 x3 : Nat) (x4 : Int) (x5 x6 : Nat) : evFn Tryz.prog ext T58 noL 200 Tryz.f21 [.agg #[vf x0, vf x1, vf x2, vf x3, vi x4], vf x5, vf x6] st0 = firstT (g21 x0 x1 x2 x3 x4 x5 x6 (r21 x0 x1 x2 x3 x4 x5 x6)) :=
 Eq.trans (by kernel_rfl) (p21 x0 x1 x2 x3 x4 x5 x6 (fun p => firstT (g21 x0 x1 x2 x3 x4 x5 x6 p)))
noncomputable def s21 (args : List Value) (s : St) : List (Bool × Value × St) :=
 match args, s.h with
 | [.agg ⟨[.float .f32 x0, .float .f32 x1, .float .f32 x2, .float .f32 x3, .int .i64 x4]⟩, .float .f32 x5, .float .f32 x6], [] => (g21 x0 x1 x2 x3 x4 x5 x6 (r21 x0 x1 x2 x3 x4 x5 x6))
 | _, _ => T58 21 args s
noncomputable def T59 : CallF := addF T58 21 s21
set_option maxRecDepth 100000 in
set_option maxHeartbeats 4000000 in
theorem ok59 : CfOk Tryz.prog T59 := by
  refine cfOk_add ok58 fun args s r s' h1 h2 h3 => ?_
  unfold s21 at h3; split at h3
  · rename_i h; exact callOk ok58 Tryz.func21 h1 h2 h (lfOkF_no _ _).body (e21 _ _ _ _ _ _ _) rfl h3
  · exact ok58 _ _ _ _ _ h1 h2 h3

/-- impl.ResistOf -/
noncomputable def w22 {α : Type} (x0 x1 x2 x3 : Nat) (x4 : Int) (k : (Nat × Int) → α) : α :=
 cond (!(r46 x0 x1 x2 x3 x4))
  (k (0, 1))
  (cond (feq .f32 x3 0)
   (k (0, 4))
   (cond (!(r57 (r58 x0 x1 x2 x3 x4)))
    (k (0, 4))
    (k ((r58 x0 x1 x2 x3 x4), 0))))
noncomputable def r22 (x0 x1 x2 x3 : Nat) (x4 : Int) : Nat × Int := w22 x0 x1 x2 x3 x4 (fun p => p)
noncomputable def g22 (x0 x1 x2 x3 : Nat) (x4 : Int) (p : Nat × Int) : List (Bool × Value × St) := [(true, .tuple #[vf (p.1), vi (p.2)], st0)]
theorem p22 {α : Type} (x0 x1 x2 x3 : Nat) (x4 : Int) (f : (Nat × Int) → α) : w22 x0 x1 x2 x3 x4 f = f (w22 x0 x1 x2 x3 x4 (fun p => p)) := by unfold w22; exact (cond_app f _ rfl (cond_app f _ rfl (cond_app f _ rfl rfl)))
set_option maxRecDepth 100000 in
set_option maxHeartbeats 4000000 in
theorem e22 (x0 x1 x2 x3 : Nat) (x4 : Int) : evFn Tryz.prog ext T59 noL 200 Tryz.f22 [.agg #[vf x0, vf x1, vf x2, vf x3, vi x4]] st0 = firstT (g22 x0 x1 x2 x3 x4 (r22 x0 x1 x2 x3 x4)) :=
 Eq.trans (by kernel_rfl) (p22 x0 x1 x2 x3 x4 (fun p => firstT (g22 x0 x1 x2 x3 x4 p)))
noncomputable def s22 (args : List Value) (s : St) : List (Bool × Value × St) :=
 match args, s.h with
 | [.agg ⟨[.float .f32 x0, .float .f32 x1, .float .f32 x2, .float .f32 x3, .int .i64 x4]⟩], [] => (g22 x0 x1 x2 x3 x4 (r22 x0 x1 x2 x3 x4))
 | _, _ => T59 22 args s
noncomputable def T60 : CallF := addF T59 22 s22
set_option maxRecDepth 100000 in
set_option maxHeartbeats 4000000 in
theorem ok60 : CfOk Tryz.prog T60 := by
  refine cfOk_add ok59 fun args s r s' h1 h2 h3 => ?_
  unfold s22 at h3; split at h3
  · rename_i h; exact callOk ok59 Tryz.func22 h1 h2 h (lfOkF_no _ _).body (e22 _ _ _ _ _) rfl h3
  · exact ok59 _ _ _ _ _ h1 h2 h3

/-- spec.l03Resist -/
noncomputable def w60 {α : Type} (x0 x1 x2 x3 : Nat) (x4 : Int) (k : Nat → α) : α :=
 k ((fdiv .f32 (fadd .f32 1065353216 (fmul .f32 1048576000 x0)) (fmul .f32 (fmul .f32 x1 x3) (fmul .f32 x1 x3))))
noncomputable def r60 (x0 x1 x2 x3 : Nat) (x4 : Int) : Nat := w60 x0 x1 x2 x3 x4 (fun p => p)
noncomputable def g60 (x0 x1 x2 x3 : Nat) (x4 : Int) (p : Nat) : List (Bool × Value × St) := [(true, vf p, ⟨[⟨true, (some (.cells [vf x0, vf x1, vf x2, vf x3, vi x4]))⟩], 1, []⟩)]
theorem p60 {α : Type} (x0 x1 x2 x3 : Nat) (x4 : Int) (f : Nat → α) : w60 x0 x1 x2 x3 x4 f = f (w60 x0 x1 x2 x3 x4 (fun p => p)) := by unfold w60; exact rfl
set_option maxRecDepth 100000 in
set_option maxHeartbeats 4000000 in
theorem e60 (x0 x1 x2 x3 : Nat) (x4 : Int) : evFn Tryz.prog ext T60 noL 200 Tryz.f60 [vp 0] ⟨[⟨true, (some (.cells [vf x0, vf x1, vf x2, vf x3, vi x4]))⟩], 1, []⟩ = firstT (g60 x0 x1 x2 x3 x4 (r60 x0 x1 x2 x3 x4)) :=
 Eq.trans (by kernel_rfl) (p60 x0 x1 x2 x3 x4 (fun p => firstT (g60 x0 x1 x2 x3 x4 p)))
noncomputable def s60 (args : List Value) (s : St) : List (Bool × Value × St) :=
 match args, s.h with
 | [.pointer (some ⟨f0, f1, some f2⟩)], [⟨true, some (.cells [.float .f32 x0, .float .f32 x1, .float .f32 x2, .float .f32 x3, .int .i64 x4])⟩] => if f0 = 0 ∧ f1 = 0 ∧ f2 = 0 then (g60 x0 x1 x2 x3 x4 (r60 x0 x1 x2 x3 x4)) else T60 60 args s
 | _, _ => T60 60 args s
noncomputable def T61 : CallF := addF T60 60 s60
set_option maxRecDepth 100000 in
set_option maxHeartbeats 4000000 in
theorem ok61 : CfOk Tryz.prog T61 := by
  refine cfOk_add ok60 fun args s r s' h1 h2 h3 => ?_
  unfold s60 at h3; split at h3
  · rename_i h; split at h3
    · rename_i hc; obtain ⟨rfl, rfl, rfl⟩ := hc; exact callOk ok60 Tryz.func60 h1 h2 h (lfOkF_no _ _).body (e60 _ _ _ _ _) rfl h3
    · exact ok60 _ _ _ _ _ h1 h2 h3
  · exact ok60 _ _ _ _ _ h1 h2 h3

/-- spec.l03Number -/
noncomputable def w59 {α : Type} (x0 : Nat) (k : (Nat × Int) → α) : α :=
 cond (!(r101 x0))
  (k (0, 4))
  (k (x0, 0))
noncomputable def r59 (x0 : Nat) : Nat × Int := w59 x0 (fun p => p)
noncomputable def g59 (x0 : Nat) (p : Nat × Int) : List (Bool × Value × St) := [(true, .tuple #[vf (p.1), vi (p.2)], st0)]
theorem p59 {α : Type} (x0 : Nat) (f : (Nat × Int) → α) : w59 x0 f = f (w59 x0 (fun p => p)) := by unfold w59; exact (cond_app f _ rfl rfl)
set_option maxRecDepth 100000 in
set_option maxHeartbeats 4000000 in
theorem e59 (x0 : Nat) : evFn Tryz.prog ext T61 noL 200 Tryz.f59 [vf x0] st0 = firstT (g59 x0 (r59 x0)) :=
 Eq.trans (by kernel_rfl) (p59 x0 (fun p => firstT (g59 x0 p)))
noncomputable def s59 (args : List Value) (s : St) : List (Bool × Value × St) :=
 match args, s.h with
 | [.float .f32 x0], [] => (g59 x0 (r59 x0))
 | _, _ => T61 59 args s
noncomputable def T62 : CallF := addF T61 59 s59
set_option maxRecDepth 100000 in
set_option maxHeartbeats 4000000 in
theorem ok62 : CfOk Tryz.prog T62 := by
  refine cfOk_add ok61 fun args s r s' h1 h2 h3 => ?_
  unfold s59 at h3; split at h3
  · rename_i h; exact callOk ok61 Tryz.func59 h1 h2 h (lfOkF_no _ _).body (e59 _) rfl h3
  · exact ok61 _ _ _ _ _ h1 h2 h3

/-- spec.ResistOf -/
noncomputable def w23 {α : Type} (x0 x1 x2 x3 : Nat) (x4 : Int) (k : (Nat × Int) → α) : α :=
 cond (!(r52 x0 x1 x2 x3 x4))
  (k (0, 1))
  (cond (feq .f32 x3 0)
   (k (0, 4))
   (k (((r59 (r60 x0 x1 x2 x3 x4)).1), ((r59 (r60 x0 x1 x2 x3 x4)).2))))
noncomputable def r23 (x0 x1 x2 x3 : Nat) (x4 : Int) : Nat × Int := w23 x0 x1 x2 x3 x4 (fun p => p)
noncomputable def g23 (x0 x1 x2 x3 : Nat) (x4 : Int) (p : Nat × Int) : List (Bool × Value × St) := [(true, .tuple #[vf (p.1), vi (p.2)], st0)]
theorem p23 {α : Type} (x0 x1 x2 x3 : Nat) (x4 : Int) (f : (Nat × Int) → α) : w23 x0 x1 x2 x3 x4 f = f (w23 x0 x1 x2 x3 x4 (fun p => p)) := by unfold w23; exact (cond_app f _ rfl (cond_app f _ rfl rfl))
set_option maxRecDepth 100000 in
set_option maxHeartbeats 4000000 in
theorem e23 (x0 x1 x2 x3 : Nat) (x4 : Int) : evFn Tryz.prog ext T62 noL 200 Tryz.f23 [.agg #[vf x0, vf x1, vf x2, vf x3, vi x4]] st0 = firstT (g23 x0 x1 x2 x3 x4 (r23 x0 x1 x2 x3 x4)) :=
 Eq.trans (by kernel_rfl) (p23 x0 x1 x2 x3 x4 (fun p => firstT (g23 x0 x1 x2 x3 x4 p)))
noncomputable def s23 (args : List Value) (s : St) : List (Bool × Value × St) :=
 match args, s.h with
 | [.agg ⟨[.float .f32 x0, .float .f32 x1, .float .f32 x2, .float .f32 x3, .int .i64 x4]⟩], [] => (g23 x0 x1 x2 x3 x4 (r23 x0 x1 x2 x3 x4))
 | _, _ => T62 23 args s
noncomputable def T63 : CallF := addF T62 23 s23
set_option maxRecDepth 100000 in
set_option maxHeartbeats 4000000 in
theorem ok63 : CfOk Tryz.prog T63 := by
  refine cfOk_add ok62 fun args s r s' h1 h2 h3 => ?_
  unfold s23 at h3; split at h3
  · rename_i h; exact callOk ok62 Tryz.func23 h1 h2 h (lfOkF_no _ _).body (e23 _ _ _ _ _) rfl h3
  · exact ok62 _ _ _ _ _ h1 h2 h3

/-- spec.l03Abs -/
noncomputable def w61 {α : Type} (x0 : Nat) (k : Nat → α) : α :=
 cond (flt .f32 x0 0 || feq .f32 x0 0)
  (k ((fsub .f32 0 x0)))
  (k (x0))
noncomputable def r61 (x0 : Nat) : Nat := w61 x0 (fun p => p)
noncomputable def g61 (x0 : Nat) (p : Nat) : List (Bool × Value × St) := [(true, vf p, st0)]
theorem p61 {α : Type} (x0 : Nat) (f : Nat → α) : w61 x0 f = f (w61 x0 (fun p => p)) := by unfold w61; exact (cond_app f _ rfl rfl)
set_option maxRecDepth 100000 in
set_option maxHeartbeats 4000000 in
theorem e61 (x0 : Nat) : evFn Tryz.prog ext T63 noL 200 Tryz.f61 [vf x0] st0 = firstT (g61 x0 (r61 x0)) :=
 Eq.trans (by kernel_rfl) (p61 x0 (fun p => firstT (g61 x0 p)))
noncomputable def s61 (args : List Value) (s : St) : List (Bool × Value × St) :=
 match args, s.h with
 | [.float .f32 x0], [] => (g61 x0 (r61 x0))
 | _, _ => T63 61 args s
noncomputable def T64 : CallF := addF T63 61 s61
set_option maxRecDepth 100000 in
set_option maxHeartbeats 4000000 in
theorem ok64 : CfOk Tryz.prog T64 := by
  refine cfOk_add ok63 fun args s r s' h1 h2 h3 => ?_
  unfold s61 at h3; split at h3
  · rename_i h; exact callOk ok63 Tryz.func61 h1 h2 h (lfOkF_no _ _).body (e61 _) rfl h3
  · exact ok63 _ _ _ _ _ h1 h2 h3

/-- spec.FarOf -/
noncomputable def w25 {α : Type} (x0 : Nat) (k : Nat → α) : α :=
 k ((r61 x0))
noncomputable def r25 (x0 : Nat) : Nat := w25 x0 (fun p => p)
noncomputable def g25 (x0 : Nat) (p : Nat) : List (Bool × Value × St) := [(true, vf p, st0)]
theorem p25 {α : Type} (x0 : Nat) (f : Nat → α) : w25 x0 f = f (w25 x0 (fun p => p)) := by unfold w25; exact rfl
set_option maxRecDepth 100000 in
set_option maxHeartbeats 4000000 in
theorem e25 (x0 : Nat) : evFn Tryz.prog ext T64 noL 200 Tryz.f25 [vf x0] st0 = firstT (g25 x0 (r25 x0)) :=
 Eq.trans (by kernel_rfl) (p25 x0 (fun p => firstT (g25 x0 p)))
noncomputable def s25 (args : List Value) (s : St) : List (Bool × Value × St) :=
 match args, s.h with
 | [.float .f32 x0], [] => (g25 x0 (r25 x0))
 | _, _ => T64 25 args s
noncomputable def T65 : CallF := addF T64 25 s25
set_option maxRecDepth 100000 in
set_option maxHeartbeats 4000000 in
theorem ok65 : CfOk Tryz.prog T65 := by
  refine cfOk_add ok64 fun args s r s' h1 h2 h3 => ?_
  unfold s25 at h3; split at h3
  · rename_i h; exact callOk ok64 Tryz.func25 h1 h2 h (lfOkF_no _ _).body (e25 _) rfl h3
  · exact ok64 _ _ _ _ _ h1 h2 h3

/-- laws.f6near -/
noncomputable def w24 {α : Type} (x0 x1 x2 : Nat) (k : Bool → α) : α :=
 k ((flt .f32 (r25 (fsub .f32 x0 x1)) x2 || feq .f32 (r25 (fsub .f32 x0 x1)) x2))
noncomputable def r24 (x0 x1 x2 : Nat) : Bool := w24 x0 x1 x2 (fun p => p)
noncomputable def g24 (x0 x1 x2 : Nat) (p : Bool) : List (Bool × Value × St) := [(true, .bool p, st0)]
theorem p24 {α : Type} (x0 x1 x2 : Nat) (f : Bool → α) : w24 x0 x1 x2 f = f (w24 x0 x1 x2 (fun p => p)) := by unfold w24; exact rfl
set_option maxRecDepth 100000 in
set_option maxHeartbeats 4000000 in
theorem e24 (x0 x1 x2 : Nat) : evFn Tryz.prog ext T65 noL 200 Tryz.f24 [vf x0, vf x1, vf x2] st0 = firstT (g24 x0 x1 x2 (r24 x0 x1 x2)) :=
 Eq.trans (by kernel_rfl) (p24 x0 x1 x2 (fun p => firstT (g24 x0 x1 x2 p)))
noncomputable def s24 (args : List Value) (s : St) : List (Bool × Value × St) :=
 match args, s.h with
 | [.float .f32 x0, .float .f32 x1, .float .f32 x2], [] => (g24 x0 x1 x2 (r24 x0 x1 x2))
 | _, _ => T65 24 args s
noncomputable def T66 : CallF := addF T65 24 s24
set_option maxRecDepth 100000 in
set_option maxHeartbeats 4000000 in
theorem ok66 : CfOk Tryz.prog T66 := by
  refine cfOk_add ok65 fun args s r s' h1 h2 h3 => ?_
  unfold s24 at h3; split at h3
  · rename_i h; exact callOk ok65 Tryz.func24 h1 h2 h (lfOkF_no _ _).body (e24 _ _ _) rfl h3
  · exact ok65 _ _ _ _ _ h1 h2 h3
end Go.Proofs.YtffpnkkhcgjmfaaGreatDoor
