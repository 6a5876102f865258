/- What the functions that the statements reach answer, part 6. -/
import Derived.Test.YtdpkbkmmlbmllaaCd5
namespace Go.Proofs.Ytdpkbkmmlbmllaa
open Go.Ab
set_option maxHeartbeats 4000000
set_option maxRecDepth 100000

/-- laws.toFloat32S, loop 0: one round -/
noncomputable def b42l0 (ih : Int → List (List Int) → List (List Int) → (Nat × List (List Int))) (x0 : Int) (x1 x2 : List (List Int)) : Nat × List (List Int) :=
 cond (decide ((x0 : Int) < ((x1.length : Nat) : Int)))
  (cond ((decide ((0 : Int) ≤ x0)) && (Nat.blt (Int.toNat x0) x1.length))
   (cond ((decide ((0 : Int) ≤ x0)) && (Nat.blt (Int.toNat x0) x2.length))
    (ih (IntKind.i64.wrap (x0 + 1)) x1 (x2.set (Int.toNat x0) [(((Int.toNat ((x1.getD (Int.toNat x0) []).getD 0 0)) : Nat) : Int)]))
    (1, []))
   (1, []))
  (0, x2)
noncomputable def r42l0 : Nat → Int → List (List Int) → List (List Int) → (Nat × List (List Int))
 | 0 => fun _ _ _ => (1, [])
 | m + 1 => b42l0 (r42l0 m)
noncomputable def a42l0 (x0 : Int) (x1 x2 : List (List Int)) (p : Nat × List (List Int)) : Option (Fin' × List Value × St) := firstT ([((Nat.beq (p.1) 0), .exit 0, [wsl 1], ⟨[⟨false, (some (.tab [.fl .f32] x1))⟩, ⟨true, (some (.tab [.fl .f32] (p.2)))⟩], 2, [1]⟩)].map fun (b, x) => (b, (x.1, frameOf 22 [3] x.2.1, x.2.2)))
noncomputable def u42l0 (x0 : Int) (x1 x2 : List (List Int)) (p : Nat × List (List Int)) : Option (Fin' × List Value × St) := alts ([((Nat.beq (p.1) 0), .exit 0, [wsl 1], ⟨[⟨false, (some (.tab [.fl .f32] x1))⟩, ⟨true, (some (.tab [.fl .f32] (p.2)))⟩], 2, [1]⟩)].map fun (b, x) => (b, (x.1, frameOf 22 [3] x.2.1, x.2.2))) some
theorem v42l0 (x0 : Int) (x1 x2 : List (List Int)) (p : Nat × List (List Int)) : u42l0 x0 x1 x2 p = a42l0 x0 x1 x2 p := alts_first _
noncomputable def q42l0 (m : Nat) : SumK := fun vals s =>
 match vals, s.h with
 | [.iface f0 .nilIface, .iface f1 .nilIface, .int .i64 x0], [⟨false, some (.tab [.fl .f32] x1)⟩, ⟨true, some (.tab [.fl .f32] x2)⟩] => if f0 = 0 ∧ f1 = 1 then [((Nat.beq ((r42l0 m x0 x1 x2).1) 0), .exit 0, [wsl 1], ⟨[⟨false, (some (.tab [.fl .f32] x1))⟩, ⟨true, (some (.tab [.fl .f32] ((r42l0 m x0 x1 x2).2)))⟩], 2, [1]⟩)] else noQ vals s
 | _, _ => noQ vals s
noncomputable def w42l0 (ih : Int → List (List Int) → List (List Int) → (Nat × List (List Int))) (x0 : Int) (x1 x2 : List (List Int)) : Option (Fin' × List Value × St) :=
 (cond (decide ((x0 : Int) < ((x1.length : Nat) : Int)))
 (cond ((decide ((0 : Int) ≤ x0)) && (Nat.blt (Int.toNat x0) x1.length))
  (cond (Nat.blt (Int.toNat x0) x1.length)
   (cond ((decide ((0 : Int) ≤ x0)) && (Nat.blt (Int.toNat x0) x2.length))
    (cond (Nat.blt (Int.toNat x0) x2.length)
     (u42l0 x0 x1 x2 (ih (IntKind.i64.wrap (x0 + 1)) x1 (x2.set (Int.toNat x0) [(((Int.toNat ((x1.getD (Int.toNat x0) []).getD 0 0)) : Nat) : Int)])))
     none)
    none)
   none)
  none)
 (a42l0 x0 x1 x2 (0, x2)))
set_option maxRecDepth 100000 in
set_option maxHeartbeats 4000000 in
theorem e42l0 (m : Nat) (x0 : Int) (x1 x2 : List (List Int)) : evC Try.prog ext T76 noL 200 (loopN Try.f42 0) (loopTail ([0, 3, 4], []) [3] [1] (sumK 22 [0, 3, 4] [3] (q42l0 m))) (frameOf 22 [0, 3, 4] [wsl 0, wsl 1, .int .i64 x0]) ⟨[⟨false, (some (.tab [.fl .f32] x1))⟩, ⟨true, (some (.tab [.fl .f32] x2))⟩], 2, []⟩ = firstT ([((Nat.beq ((r42l0 (m + 1) x0 x1 x2).1) 0), .exit 0, [wsl 1], ⟨[⟨false, (some (.tab [.fl .f32] x1))⟩, ⟨true, (some (.tab [.fl .f32] ((r42l0 (m + 1) x0 x1 x2).2)))⟩], 2, [1]⟩)].map fun (b, x) => (b, (x.1, frameOf 22 [3] x.2.1, x.2.2))) :=
 (show evC Try.prog ext T76 noL 200 (loopN Try.f42 0) (loopTail ([0, 3, 4], []) [3] [1] (sumK 22 [0, 3, 4] [3] (q42l0 m))) (frameOf 22 [0, 3, 4] [wsl 0, wsl 1, .int .i64 x0]) ⟨[⟨false, (some (.tab [.fl .f32] x1))⟩, ⟨true, (some (.tab [.fl .f32] x2))⟩], 2, []⟩ = w42l0 (r42l0 m) x0 x1 x2 from by kernel_rfl).trans
 (show w42l0 (r42l0 m) x0 x1 x2 = a42l0 x0 x1 x2 (r42l0 (m + 1) x0 x1 x2) from by unfold w42l0; show _ = a42l0 x0 x1 x2 (b42l0 (r42l0 m) x0 x1 x2); unfold b42l0; exact (cond_both (a42l0 x0 x1 x2) _ (fun h0 => (cond_both (a42l0 x0 x1 x2) _ (fun h1 => (cond_t (ev_and2 h1) (cond_both (a42l0 x0 x1 x2) _ (fun h2 => (cond_t (ev_and2 h2) (v42l0 x0 x1 x2 ((r42l0 m) (IntKind.i64.wrap (x0 + 1)) x1 (x2.set (Int.toNat x0) [(((Int.toNat ((x1.getD (Int.toNat x0) []).getD 0 0)) : Nat) : Int)]))))) (fun h2 => rfl)))) (fun h1 => rfl))) (fun h0 => rfl)))
set_option maxRecDepth 100000 in
set_option maxHeartbeats 4000000 in
theorem qm42l0 : ∀ m, SumKOk Try.prog (loopN Try.f42 0) 22 [0, 3, 4] [3] (q42l0 m) := by
  intro m
  induction m with
  | zero =>
    intro vals s x h1 h2 h3
    unfold q42l0 at h3; split at h3
    · rename_i h; split at h3
      · rename_i hc; obtain ⟨rfl, rfl⟩ := hc; exact absurd h3 (by simp [r42l0, firstT, Nat.beq])
      · exact noQ_ok _ _ _ h1 h2 h3
    · exact noQ_ok _ _ _ h1 h2 h3
  | succ m ih =>
    intro vals s x h1 h2 h3
    unfold q42l0 at h3; split at h3
    · rename_i h; split at h3
      · rename_i hc; obtain ⟨rfl, rfl⟩ := hc; exact sum_step ok76 extOk mixed ((lfOkF_no _ _).inner (by kernel_rfl)) ih h1 h2 h (e42l0 m _ _ _) rfl h3
      · exact noQ_ok _ _ _ h1 h2 h3
    · exact noQ_ok _ _ _ h1 h2 h3
noncomputable def Q42l0 : SumK := fun vals s => q42l0 (fuelOf vals s.h) vals s
theorem qok42l0 : SumKOk Try.prog (loopN Try.f42 0) 22 [0, 3, 4] [3] Q42l0 := fuel_ok qm42l0 fuelOf
noncomputable def L42_1 : LoopT := addL noL 4 ([0, 3, 4], []) (sumK 22 [0, 3, 4] [3] Q42l0)
theorem lok42_1 : LfOkF Try.prog L42_1 Try.f42 := lfOkF_add (lfOkF_no _ _) qok42l0 (by kernel_rfl) (by kernel_rfl) (by kernel_rfl)

/-- laws.toFloat32S -/
noncomputable def r42 (x0 : List (List Int)) : Nat × List (List Int) :=
 let c511 := (r42l0 (1000 + (List.replicate x0.length ([0] : List Int)).length + x0.length) 0 x0 (List.replicate x0.length ([0] : List Int)))
 cond (((decide ((0 : Int) ≤ ((x0.length : Nat) : Int)) && decide ((((x0.length : Nat) : Int) : Int) ≤ ((x0.length : Nat) : Int))) && decide (((4 : Nat) : Int) * ((x0.length : Nat) : Int) ≤ 281474976710656)) && decide (((x0.length : Nat) : Int) ≤ 9223372036854775807))
  (cond (Nat.beq (c511.1) 0)
   (0, (c511.2))
   (1, []))
  (1, [])
noncomputable def a42 (x0 : List (List Int)) (p : Nat × List (List Int)) : Res := firstT [((Nat.beq (p.1) 0), wsl 1, ⟨[⟨false, (some (.tab [.fl .f32] x0))⟩, ⟨true, (some (.tab [.fl .f32] (p.2)))⟩], 1, []⟩)]
noncomputable def w42 (x0 : List (List Int)) : Res :=
 let c511 := (r42l0 (1000 + (List.replicate x0.length ([0] : List Int)).length + x0.length) 0 x0 (List.replicate x0.length ([0] : List Int)))
 (cond (((decide ((0 : Int) ≤ ((x0.length : Nat) : Int)) && decide ((((x0.length : Nat) : Int) : Int) ≤ ((x0.length : Nat) : Int))) && decide (((4 : Nat) : Int) * ((x0.length : Nat) : Int) ≤ 281474976710656)) && decide (((x0.length : Nat) : Int) ≤ 9223372036854775807))
 (cond (Nat.beq (c511.1) 0)
  (a42 x0 (0, (c511.2)))
  none)
 none)
set_option maxRecDepth 100000 in
set_option maxHeartbeats 4000000 in
theorem e42 (x0 : List (List Int)) : evFn Try.prog ext T76 L42_1 200 Try.f42 [wsl 0] ⟨[⟨false, (some (.tab [.fl .f32] x0))⟩], 1, []⟩ = firstT [((Nat.beq ((r42 x0).1) 0), wsl 1, ⟨[⟨false, (some (.tab [.fl .f32] x0))⟩, ⟨true, (some (.tab [.fl .f32] ((r42 x0).2)))⟩], 1, []⟩)] :=
 (show evFn Try.prog ext T76 L42_1 200 Try.f42 [wsl 0] ⟨[⟨false, (some (.tab [.fl .f32] x0))⟩], 1, []⟩ = w42 x0 from by kernel_rfl).trans
 (show w42 x0 = a42 x0 (r42 x0) from by unfold w42 r42; exact (cond_app (a42 x0) _ (cond_app (a42 x0) _ rfl rfl) rfl))
noncomputable def s42 (args : List Value) (s : St) : List (Bool × Value × St) :=
 match args, s.h with
 | [.iface f0 .nilIface], [⟨false, some (.tab [.fl .f32] x0)⟩] => if f0 = 0 then [((Nat.beq ((r42 x0).1) 0), wsl 1, ⟨[⟨false, (some (.tab [.fl .f32] x0))⟩, ⟨true, (some (.tab [.fl .f32] ((r42 x0).2)))⟩], 1, []⟩)] else T76 42 args s
 | _, _ => T76 42 args s
noncomputable def T77 : CallF := addF T76 42 s42
set_option maxRecDepth 100000 in
set_option maxHeartbeats 4000000 in
theorem ok77 : CfOk Try.prog T77 := by
  refine cfOk_add ok76 fun args s r s' h1 h2 h3 => ?_
  unfold s42 at h3; split at h3
  · rename_i h; split at h3
    · rename_i hc; obtain ⟨rfl⟩ := hc; exact callOk ok76 Try.func42 h1 h2 h lok42_1.body (e42 _) rfl h3
    · exact ok76 _ _ _ _ _ h1 h2 h3
  · exact ok76 _ _ _ _ _ h1 h2 h3

/-- spec.l03Smokes, loop 0: one round -/
noncomputable def b84l0 (ih : Int → List (List Int) → List (List Int) → Nat) (x0 : Int) (x1 x2 : List (List Int)) : Nat :=
 cond (decide ((x0 : Int) < ((x2.length : Nat) : Int)))
  (cond ((decide ((0 : Int) ≤ x0)) && (Nat.blt (Int.toNat x0) x2.length))
   (cond (!(r109 (Int.toNat ((x2.getD (Int.toNat x0) []).getD 0 0))))
    (0)
    (ih (IntKind.i64.wrap (x0 + 1)) x1 x2))
   (2))
  (1)
noncomputable def r84l0 : Nat → Int → List (List Int) → List (List Int) → Nat
 | 0 => fun _ _ _ => (2)
 | m + 1 => b84l0 (r84l0 m)
noncomputable def a84l0 (x0 : Int) (x1 x2 : List (List Int)) (p : Nat) : Option (Fin' × List Value × St) := firstT ([((Nat.beq p 0), .ret, [wsl 0, wsl 1, .bool false], ⟨[⟨true, (some (.tab sc0 x1))⟩, ⟨true, (some (.tab [.fl .f32] x2))⟩], 2, []⟩), ((Nat.beq p 1), .exit 0, [wsl 0, wsl 1, anyV], ⟨[⟨true, (some (.tab sc0 x1))⟩, ⟨true, (some (.tab [.fl .f32] x2))⟩], 2, []⟩)].map fun (b, x) => (b, (x.1, frameOf 23 [0, 1, 4] x.2.1, x.2.2)))
noncomputable def u84l0 (x0 : Int) (x1 x2 : List (List Int)) (p : Nat) : Option (Fin' × List Value × St) := alts ([((Nat.beq p 0), .ret, [wsl 0, wsl 1, .bool false], ⟨[⟨true, (some (.tab sc0 x1))⟩, ⟨true, (some (.tab [.fl .f32] x2))⟩], 2, []⟩), ((Nat.beq p 1), .exit 0, [wsl 0, wsl 1, anyV], ⟨[⟨true, (some (.tab sc0 x1))⟩, ⟨true, (some (.tab [.fl .f32] x2))⟩], 2, []⟩)].map fun (b, x) => (b, (x.1, frameOf 23 [0, 1, 4] x.2.1, x.2.2))) some
theorem v84l0 (x0 : Int) (x1 x2 : List (List Int)) (p : Nat) : u84l0 x0 x1 x2 p = a84l0 x0 x1 x2 p := alts_first _
noncomputable def q84l0 (m : Nat) : SumK := fun vals s =>
 match vals, s.h with
 | [.iface f0 .nilIface, .iface f1 .nilIface, .int .i64 x0], [⟨true, some (.tab [.fl .f32, .fl .f32, .fl .f32, .fl .f32, .int .i64] x1)⟩, ⟨true, some (.tab [.fl .f32] x2)⟩] => if f0 = 0 ∧ f1 = 1 then [((Nat.beq (r84l0 m x0 x1 x2) 0), .ret, [wsl 0, wsl 1, .bool false], ⟨[⟨true, (some (.tab sc0 x1))⟩, ⟨true, (some (.tab [.fl .f32] x2))⟩], 2, []⟩), ((Nat.beq (r84l0 m x0 x1 x2) 1), .exit 0, [wsl 0, wsl 1, anyV], ⟨[⟨true, (some (.tab sc0 x1))⟩, ⟨true, (some (.tab [.fl .f32] x2))⟩], 2, []⟩)] else noQ vals s
 | _, _ => noQ vals s
noncomputable def w84l0 (ih : Int → List (List Int) → List (List Int) → Nat) (x0 : Int) (x1 x2 : List (List Int)) : Option (Fin' × List Value × St) :=
 (cond (decide ((x0 : Int) < ((x2.length : Nat) : Int)))
 (cond ((decide ((0 : Int) ≤ x0)) && (Nat.blt (Int.toNat x0) x2.length))
  (cond (Nat.blt (Int.toNat x0) x2.length)
   (cond (!(r109 (Int.toNat ((x2.getD (Int.toNat x0) []).getD 0 0))))
    (a84l0 x0 x1 x2 (0))
    (u84l0 x0 x1 x2 (ih (IntKind.i64.wrap (x0 + 1)) x1 x2)))
   none)
  none)
 (a84l0 x0 x1 x2 (1)))
set_option maxRecDepth 100000 in
set_option maxHeartbeats 4000000 in
theorem e84l0 (m : Nat) (x0 : Int) (x1 x2 : List (List Int)) : evC Try.prog ext T77 noL 200 (loopN Try.f84 0) (loopTail ([0, 1, 5], []) [0, 1, 4] [] (sumK 23 [0, 1, 5] [0, 1, 4] (q84l0 m))) (frameOf 23 [0, 1, 5] [wsl 0, wsl 1, .int .i64 x0]) ⟨[⟨true, (some (.tab sc0 x1))⟩, ⟨true, (some (.tab [.fl .f32] x2))⟩], 2, []⟩ = firstT ([((Nat.beq (r84l0 (m + 1) x0 x1 x2) 0), .ret, [wsl 0, wsl 1, .bool false], ⟨[⟨true, (some (.tab sc0 x1))⟩, ⟨true, (some (.tab [.fl .f32] x2))⟩], 2, []⟩), ((Nat.beq (r84l0 (m + 1) x0 x1 x2) 1), .exit 0, [wsl 0, wsl 1, anyV], ⟨[⟨true, (some (.tab sc0 x1))⟩, ⟨true, (some (.tab [.fl .f32] x2))⟩], 2, []⟩)].map fun (b, x) => (b, (x.1, frameOf 23 [0, 1, 4] x.2.1, x.2.2))) :=
 (show evC Try.prog ext T77 noL 200 (loopN Try.f84 0) (loopTail ([0, 1, 5], []) [0, 1, 4] [] (sumK 23 [0, 1, 5] [0, 1, 4] (q84l0 m))) (frameOf 23 [0, 1, 5] [wsl 0, wsl 1, .int .i64 x0]) ⟨[⟨true, (some (.tab sc0 x1))⟩, ⟨true, (some (.tab [.fl .f32] x2))⟩], 2, []⟩ = w84l0 (r84l0 m) x0 x1 x2 from by kernel_rfl).trans
 (show w84l0 (r84l0 m) x0 x1 x2 = a84l0 x0 x1 x2 (r84l0 (m + 1) x0 x1 x2) from by unfold w84l0; show _ = a84l0 x0 x1 x2 (b84l0 (r84l0 m) x0 x1 x2); unfold b84l0; exact (cond_both (a84l0 x0 x1 x2) _ (fun h0 => (cond_both (a84l0 x0 x1 x2) _ (fun h1 => (cond_t (ev_and2 h1) (cond_app (a84l0 x0 x1 x2) _ rfl (v84l0 x0 x1 x2 ((r84l0 m) (IntKind.i64.wrap (x0 + 1)) x1 x2))))) (fun h1 => rfl))) (fun h0 => rfl)))
set_option maxRecDepth 100000 in
set_option maxHeartbeats 4000000 in
theorem qm84l0 : ∀ m, SumKOk Try.prog (loopN Try.f84 0) 23 [0, 1, 5] [0, 1, 4] (q84l0 m) := by
  intro m
  induction m with
  | zero =>
    intro vals s x h1 h2 h3
    unfold q84l0 at h3; split at h3
    · rename_i h; split at h3
      · rename_i hc; obtain ⟨rfl, rfl⟩ := hc; exact absurd h3 (by simp [r84l0, firstT, Nat.beq])
      · exact noQ_ok _ _ _ h1 h2 h3
    · exact noQ_ok _ _ _ h1 h2 h3
  | succ m ih =>
    intro vals s x h1 h2 h3
    unfold q84l0 at h3; split at h3
    · rename_i h; split at h3
      · rename_i hc; obtain ⟨rfl, rfl⟩ := hc; exact sum_step ok77 extOk mixed ((lfOkF_no _ _).inner (by kernel_rfl)) ih h1 h2 h (e84l0 m _ _ _) rfl h3
      · exact noQ_ok _ _ _ h1 h2 h3
    · exact noQ_ok _ _ _ h1 h2 h3
noncomputable def Q84l0 : SumK := fun vals s => q84l0 (fuelOf vals s.h) vals s
theorem qok84l0 : SumKOk Try.prog (loopN Try.f84 0) 23 [0, 1, 5] [0, 1, 4] Q84l0 := fuel_ok qm84l0 fuelOf
noncomputable def L84_1 : LoopT := addL noL 3 ([0, 1, 5], []) (sumK 23 [0, 1, 5] [0, 1, 4] Q84l0)
theorem lok84_1 : LfOkF Try.prog L84_1 Try.f84 := lfOkF_add (lfOkF_no _ _) qok84l0 (by kernel_rfl) (by kernel_rfl) (by kernel_rfl)

/-- spec.l03Smokes -/
noncomputable def r84 (x0 x1 : List (List Int)) : Nat × Bool :=
 cond (Nat.beq (r84l0 (1000 + x1.length + x0.length) 0 x0 x1) 0)
  (0, false)
  (cond (Nat.beq (r84l0 (1000 + x1.length + x0.length) 0 x0 x1) 1)
   (0, ((((x1.length : Nat) : Int) : Int) == ((x0.length : Nat) : Int)))
   (1, false))
noncomputable def a84 (x0 x1 : List (List Int)) (p : Nat × Bool) : Res := firstT [((Nat.beq (p.1) 0), .bool (p.2), ⟨[⟨true, (some (.tab sc0 x0))⟩, ⟨true, (some (.tab [.fl .f32] x1))⟩], 2, []⟩)]
noncomputable def w84 (x0 x1 : List (List Int)) : Res :=
 (cond (Nat.beq (r84l0 (1000 + x1.length + x0.length) 0 x0 x1) 0)
 (a84 x0 x1 (0, false))
 (cond (Nat.beq (r84l0 (1000 + x1.length + x0.length) 0 x0 x1) 1)
  (a84 x0 x1 (0, ((((x1.length : Nat) : Int) : Int) == ((x0.length : Nat) : Int))))
  none))
set_option maxRecDepth 100000 in
set_option maxHeartbeats 4000000 in
theorem e84 (x0 x1 : List (List Int)) : evFn Try.prog ext T77 L84_1 200 Try.f84 [wsl 0, wsl 1] ⟨[⟨true, (some (.tab sc0 x0))⟩, ⟨true, (some (.tab [.fl .f32] x1))⟩], 2, []⟩ = firstT [((Nat.beq ((r84 x0 x1).1) 0), .bool ((r84 x0 x1).2), ⟨[⟨true, (some (.tab sc0 x0))⟩, ⟨true, (some (.tab [.fl .f32] x1))⟩], 2, []⟩)] :=
 (show evFn Try.prog ext T77 L84_1 200 Try.f84 [wsl 0, wsl 1] ⟨[⟨true, (some (.tab sc0 x0))⟩, ⟨true, (some (.tab [.fl .f32] x1))⟩], 2, []⟩ = w84 x0 x1 from by kernel_rfl).trans
 (show w84 x0 x1 = a84 x0 x1 (r84 x0 x1) from by unfold w84 r84; exact (cond_app (a84 x0 x1) _ rfl (cond_app (a84 x0 x1) _ rfl rfl)))
noncomputable def s84 (args : List Value) (s : St) : List (Bool × Value × St) :=
 match args, s.h with
 | [.iface f0 .nilIface, .iface f1 .nilIface], [⟨true, some (.tab [.fl .f32, .fl .f32, .fl .f32, .fl .f32, .int .i64] x0)⟩, ⟨true, some (.tab [.fl .f32] x1)⟩] => if f0 = 0 ∧ f1 = 1 then [((Nat.beq ((r84 x0 x1).1) 0), .bool ((r84 x0 x1).2), ⟨[⟨true, (some (.tab sc0 x0))⟩, ⟨true, (some (.tab [.fl .f32] x1))⟩], 2, []⟩)] else T77 84 args s
 | _, _ => T77 84 args s
noncomputable def T78 : CallF := addF T77 84 s84
set_option maxRecDepth 100000 in
set_option maxHeartbeats 4000000 in
theorem ok78 : CfOk Try.prog T78 := by
  refine cfOk_add ok77 fun args s r s' h1 h2 h3 => ?_
  unfold s84 at h3; split at h3
  · rename_i h; split at h3
    · rename_i hc; obtain ⟨rfl, rfl⟩ := hc; exact callOk ok77 Try.func84 h1 h2 h lok84_1.body (e84 _ _) rfl h3
    · exact ok77 _ _ _ _ _ h1 h2 h3
  · exact ok77 _ _ _ _ _ h1 h2 h3

/-- spec.l03Time -/
noncomputable def r105 (x0 : Nat) : Bool :=
 cond (r68 x0)
  ((flt .f32 x0 1065353216 || feq .f32 x0 1065353216))
  (false)
noncomputable def a105 (x0 : Nat) (p : Bool) : Res := firstT [(true, .bool p, st0)]
noncomputable def w105 (x0 : Nat) : Res :=
 (cond (r68 x0)
 (a105 x0 ((flt .f32 x0 1065353216 || feq .f32 x0 1065353216)))
 (a105 x0 (false)))
set_option maxRecDepth 100000 in
set_option maxHeartbeats 4000000 in
theorem e105 (x0 : Nat) : evFn Try.prog ext T78 noL 200 Try.f105 [.float .f32 x0] st0 = firstT [(true, .bool (r105 x0), st0)] :=
 (show evFn Try.prog ext T78 noL 200 Try.f105 [.float .f32 x0] st0 = w105 x0 from by kernel_rfl).trans
 (show w105 x0 = a105 x0 (r105 x0) from by unfold w105 r105; exact (cond_app (a105 x0) _ rfl rfl))
noncomputable def s105 (args : List Value) (s : St) : List (Bool × Value × St) :=
 match args, s.h with
 | [.float .f32 x0], [] => [(true, .bool (r105 x0), st0)]
 | _, _ => T78 105 args s
noncomputable def T79 : CallF := addF T78 105 s105
set_option maxRecDepth 100000 in
set_option maxHeartbeats 4000000 in
theorem ok79 : CfOk Try.prog T79 := by
  refine cfOk_add ok78 fun args s r s' h1 h2 h3 => ?_
  unfold s105 at h3; split at h3
  · rename_i h; exact callOk ok78 Try.func105 h1 h2 h (lfOkF_no _ _).body (e105 _) rfl h3
  · exact ok78 _ _ _ _ _ h1 h2 h3

/-- spec.l03Warms -/
noncomputable def r77 (x0 x1 x2 : Nat) (x3 x4 : List (List Int)) : Nat × Int :=
 cond (Nat.beq ((r57 x0 x1 x3).1) 0)
  (cond ((((r57 x0 x1 x3).2) : Int) != 0)
   (0, ((r57 x0 x1 x3).2))
   (cond (Nat.beq ((r84 x3 x4).1) 0)
    (cond (!((r84 x3 x4).2))
     (0, 2)
     (cond (!(r105 x2))
      (0, 2)
      (0, 0)))
    (1, 0)))
  (1, 0)
noncomputable def a77 (x0 x1 x2 : Nat) (x3 x4 : List (List Int)) (p : Nat × Int) : Res := firstT [((Nat.beq (p.1) 0), .int .i64 (p.2), ⟨[⟨true, (some (.tab sc0 x3))⟩, ⟨true, (some (.tab [.fl .f32] x4))⟩], 2, []⟩)]
noncomputable def w77 (x0 x1 x2 : Nat) (x3 x4 : List (List Int)) : Res :=
 (cond (Nat.beq ((r57 x0 x1 x3).1) 0)
 (cond ((((r57 x0 x1 x3).2) : Int) != 0)
  (a77 x0 x1 x2 x3 x4 (0, ((r57 x0 x1 x3).2)))
  (cond (Nat.beq ((r84 x3 x4).1) 0)
   (cond (!((r84 x3 x4).2))
    (a77 x0 x1 x2 x3 x4 (0, 2))
    (cond (!(r105 x2))
     (a77 x0 x1 x2 x3 x4 (0, 2))
     (a77 x0 x1 x2 x3 x4 (0, 0))))
   none))
 none)
set_option maxRecDepth 100000 in
set_option maxHeartbeats 4000000 in
theorem e77 (x0 x1 x2 : Nat) (x3 x4 : List (List Int)) : evFn Try.prog ext T79 noL 200 Try.f77 [wsl 0, wsl 1, .float .f32 x0, .float .f32 x1, .float .f32 x2] ⟨[⟨true, (some (.tab sc0 x3))⟩, ⟨true, (some (.tab [.fl .f32] x4))⟩], 2, []⟩ = firstT [((Nat.beq ((r77 x0 x1 x2 x3 x4).1) 0), .int .i64 ((r77 x0 x1 x2 x3 x4).2), ⟨[⟨true, (some (.tab sc0 x3))⟩, ⟨true, (some (.tab [.fl .f32] x4))⟩], 2, []⟩)] :=
 (show evFn Try.prog ext T79 noL 200 Try.f77 [wsl 0, wsl 1, .float .f32 x0, .float .f32 x1, .float .f32 x2] ⟨[⟨true, (some (.tab sc0 x3))⟩, ⟨true, (some (.tab [.fl .f32] x4))⟩], 2, []⟩ = w77 x0 x1 x2 x3 x4 from by kernel_rfl).trans
 (show w77 x0 x1 x2 x3 x4 = a77 x0 x1 x2 x3 x4 (r77 x0 x1 x2 x3 x4) from by unfold w77 r77; exact (cond_app (a77 x0 x1 x2 x3 x4) _ (cond_app (a77 x0 x1 x2 x3 x4) _ rfl (cond_app (a77 x0 x1 x2 x3 x4) _ (cond_app (a77 x0 x1 x2 x3 x4) _ rfl (cond_app (a77 x0 x1 x2 x3 x4) _ rfl rfl)) rfl)) rfl))
noncomputable def s77 (args : List Value) (s : St) : List (Bool × Value × St) :=
 match args, s.h with
 | [.iface f0 .nilIface, .iface f1 .nilIface, .float .f32 x0, .float .f32 x1, .float .f32 x2], [⟨true, some (.tab [.fl .f32, .fl .f32, .fl .f32, .fl .f32, .int .i64] x3)⟩, ⟨true, some (.tab [.fl .f32] x4)⟩] => if f0 = 0 ∧ f1 = 1 then [((Nat.beq ((r77 x0 x1 x2 x3 x4).1) 0), .int .i64 ((r77 x0 x1 x2 x3 x4).2), ⟨[⟨true, (some (.tab sc0 x3))⟩, ⟨true, (some (.tab [.fl .f32] x4))⟩], 2, []⟩)] else T79 77 args s
 | _, _ => T79 77 args s
noncomputable def T80 : CallF := addF T79 77 s77
set_option maxRecDepth 100000 in
set_option maxHeartbeats 4000000 in
theorem ok80 : CfOk Try.prog T80 := by
  refine cfOk_add ok79 fun args s r s' h1 h2 h3 => ?_
  unfold s77 at h3; split at h3
  · rename_i h; split at h3
    · rename_i hc; obtain ⟨rfl, rfl⟩ := hc; exact callOk ok79 Try.func77 h1 h2 h (lfOkF_no _ _).body (e77 _ _ _ _ _) rfl h3
    · exact ok79 _ _ _ _ _ h1 h2 h3
  · exact ok79 _ _ _ _ _ h1 h2 h3

/-- spec.l03Into, loop 1: one round -/
noncomputable def b86l1 (ih : Nat → Int → Nat → Nat → Int → List (List Int) → List (List Int) → List (List Int) → List (List Int) → List (List Int) → (Nat × Nat × Nat)) (x0 : Nat) (x1 : Int) (x2 x3 : Nat) (x4 : Int) (x5 x6 x7 x8 x9 : List (List Int)) : Nat × Nat × Nat :=
 cond (decide ((x4 : Int) < ((x9.length : Nat) : Int)))
  (cond ((decide ((0 : Int) ≤ x4)) && (Nat.blt (Int.toNat x4) x9.length))
   (cond ((decide ((0 : Int) ≤ ((x9.getD (Int.toNat x4) []).getD 0 0))) && (Nat.blt (Int.toNat ((x9.getD (Int.toNat x4) []).getD 0 0)) x7.length))
    (cond (fgt .f32 (Int.toNat ((x7.getD (Int.toNat ((x9.getD (Int.toNat x4) []).getD 0 0)) []).getD 0 0)) 0)
     (cond ((decide ((0 : Int) ≤ ((x9.getD (Int.toNat x4) []).getD 0 0))) && (Nat.blt (Int.toNat ((x9.getD (Int.toNat x4) []).getD 0 0)) x5.length))
      (ih x0 x1 (fadd .f32 x2 (fmul .f32 (Int.toNat ((x7.getD (Int.toNat ((x9.getD (Int.toNat x4) []).getD 0 0)) []).getD 0 0)) (Int.toNat ((x5.getD (Int.toNat ((x9.getD (Int.toNat x4) []).getD 0 0)) []).getD 2 0)))) (fadd .f32 x3 (Int.toNat ((x7.getD (Int.toNat ((x9.getD (Int.toNat x4) []).getD 0 0)) []).getD 0 0))) (IntKind.i64.wrap (x4 + 1)) x5 x6 x7 x8 x9)
      (1, 0, 0))
     (ih x0 x1 x2 x3 (IntKind.i64.wrap (x4 + 1)) x5 x6 x7 x8 x9))
    (1, 0, 0))
   (1, 0, 0))
  (0, x2, x3)
noncomputable def r86l1 : Nat → Nat → Int → Nat → Nat → Int → List (List Int) → List (List Int) → List (List Int) → List (List Int) → List (List Int) → (Nat × Nat × Nat)
 | 0 => fun _ _ _ _ _ _ _ _ _ _ => (1, 0, 0)
 | m + 1 => b86l1 (r86l1 m)
noncomputable def a86l1 (x0 : Nat) (x1 : Int) (x2 x3 : Nat) (x4 : Int) (x5 x6 x7 x8 x9 : List (List Int)) (p : Nat × Nat × Nat) : Option (Fin' × List Value × St) := firstT ([((Nat.beq (p.1) 0), .exit 3, [wsl 0, wsl 1, wsl 2, .float .f32 x0, wsl 3, .int .i64 x1, .float .f32 (p.2.1), .float .f32 (p.2.2)], ⟨[⟨true, (some (.tab sc0 x5))⟩, ⟨true, (some (.tab [.fl .f32] x6))⟩, ⟨true, (some (.tab [.fl .f32] x7))⟩, ⟨true, (some (.tab [.fl .f32] x8))⟩, ⟨true, (some (.tab [.int .i64] x9))⟩], 5, []⟩)].map fun (b, x) => (b, (x.1, frameOf 101 [0, 1, 2, 3, 9, 10, 12, 13] x.2.1, x.2.2)))
noncomputable def u86l1 (x0 : Nat) (x1 : Int) (x2 x3 : Nat) (x4 : Int) (x5 x6 x7 x8 x9 : List (List Int)) (p : Nat × Nat × Nat) : Option (Fin' × List Value × St) := alts ([((Nat.beq (p.1) 0), .exit 3, [wsl 0, wsl 1, wsl 2, .float .f32 x0, wsl 3, .int .i64 x1, .float .f32 (p.2.1), .float .f32 (p.2.2)], ⟨[⟨true, (some (.tab sc0 x5))⟩, ⟨true, (some (.tab [.fl .f32] x6))⟩, ⟨true, (some (.tab [.fl .f32] x7))⟩, ⟨true, (some (.tab [.fl .f32] x8))⟩, ⟨true, (some (.tab [.int .i64] x9))⟩], 5, []⟩)].map fun (b, x) => (b, (x.1, frameOf 101 [0, 1, 2, 3, 9, 10, 12, 13] x.2.1, x.2.2))) some
theorem v86l1 (x0 : Nat) (x1 : Int) (x2 x3 : Nat) (x4 : Int) (x5 x6 x7 x8 x9 : List (List Int)) (p : Nat × Nat × Nat) : u86l1 x0 x1 x2 x3 x4 x5 x6 x7 x8 x9 p = a86l1 x0 x1 x2 x3 x4 x5 x6 x7 x8 x9 p := alts_first _
noncomputable def q86l1 (m : Nat) : SumK := fun vals s =>
 match vals, s.h with
 | [.iface f0 .nilIface, .iface f1 .nilIface, .iface f2 .nilIface, .float .f32 x0, .iface f3 .nilIface, .int .i64 x1, .iface f4 .nilIface, .float .f32 x2, .float .f32 x3, .int .i64 x4], [⟨true, some (.tab [.fl .f32, .fl .f32, .fl .f32, .fl .f32, .int .i64] x5)⟩, ⟨true, some (.tab [.fl .f32] x6)⟩, ⟨true, some (.tab [.fl .f32] x7)⟩, ⟨true, some (.tab [.fl .f32] x8)⟩, ⟨true, some (.tab [.int .i64] x9)⟩] => if f0 = 0 ∧ f1 = 1 ∧ f2 = 2 ∧ f3 = 3 ∧ f4 = 4 then [((Nat.beq ((r86l1 m x0 x1 x2 x3 x4 x5 x6 x7 x8 x9).1) 0), .exit 3, [wsl 0, wsl 1, wsl 2, .float .f32 x0, wsl 3, .int .i64 x1, .float .f32 ((r86l1 m x0 x1 x2 x3 x4 x5 x6 x7 x8 x9).2.1), .float .f32 ((r86l1 m x0 x1 x2 x3 x4 x5 x6 x7 x8 x9).2.2)], ⟨[⟨true, (some (.tab sc0 x5))⟩, ⟨true, (some (.tab [.fl .f32] x6))⟩, ⟨true, (some (.tab [.fl .f32] x7))⟩, ⟨true, (some (.tab [.fl .f32] x8))⟩, ⟨true, (some (.tab [.int .i64] x9))⟩], 5, []⟩)] else noQ vals s
 | _, _ => noQ vals s
noncomputable def w86l1 (ih : Nat → Int → Nat → Nat → Int → List (List Int) → List (List Int) → List (List Int) → List (List Int) → List (List Int) → (Nat × Nat × Nat)) (x0 : Nat) (x1 : Int) (x2 x3 : Nat) (x4 : Int) (x5 x6 x7 x8 x9 : List (List Int)) : Option (Fin' × List Value × St) :=
 (cond (decide ((x4 : Int) < ((x9.length : Nat) : Int)))
 (cond ((decide ((0 : Int) ≤ x4)) && (Nat.blt (Int.toNat x4) x9.length))
  (cond (Nat.blt (Int.toNat x4) x9.length)
   (cond ((decide ((0 : Int) ≤ ((x9.getD (Int.toNat x4) []).getD 0 0))) && (Nat.blt (Int.toNat ((x9.getD (Int.toNat x4) []).getD 0 0)) x7.length))
    (cond (Nat.blt (Int.toNat ((x9.getD (Int.toNat x4) []).getD 0 0)) x7.length)
     (cond (fgt .f32 (Int.toNat ((x7.getD (Int.toNat ((x9.getD (Int.toNat x4) []).getD 0 0)) []).getD 0 0)) 0)
      (cond ((decide ((0 : Int) ≤ x4)) && (Nat.blt (Int.toNat x4) x9.length))
       (cond (Nat.blt (Int.toNat x4) x9.length)
        (cond ((decide ((0 : Int) ≤ ((x9.getD (Int.toNat x4) []).getD 0 0))) && (Nat.blt (Int.toNat ((x9.getD (Int.toNat x4) []).getD 0 0)) x5.length))
         (cond (Nat.blt (Int.toNat ((x9.getD (Int.toNat x4) []).getD 0 0)) x5.length)
          (u86l1 x0 x1 x2 x3 x4 x5 x6 x7 x8 x9 (ih x0 x1 (fadd .f32 x2 (fmul .f32 (Int.toNat ((x7.getD (Int.toNat ((x9.getD (Int.toNat x4) []).getD 0 0)) []).getD 0 0)) (Int.toNat ((x5.getD (Int.toNat ((x9.getD (Int.toNat x4) []).getD 0 0)) []).getD 2 0)))) (fadd .f32 x3 (Int.toNat ((x7.getD (Int.toNat ((x9.getD (Int.toNat x4) []).getD 0 0)) []).getD 0 0))) (IntKind.i64.wrap (x4 + 1)) x5 x6 x7 x8 x9))
          none)
         none)
        none)
       none)
      (u86l1 x0 x1 x2 x3 x4 x5 x6 x7 x8 x9 (ih x0 x1 x2 x3 (IntKind.i64.wrap (x4 + 1)) x5 x6 x7 x8 x9)))
     none)
    none)
   none)
  none)
 (a86l1 x0 x1 x2 x3 x4 x5 x6 x7 x8 x9 (0, x2, x3)))
set_option maxRecDepth 100000 in
set_option maxHeartbeats 4000000 in
theorem e86l1 (m : Nat) (x0 : Nat) (x1 : Int) (x2 x3 : Nat) (x4 : Int) (x5 x6 x7 x8 x9 : List (List Int)) : evC Try.prog ext T80 noL 200 (loopN Try.f86 1) (loopTail ([0, 1, 2, 3, 9, 10, 11, 12, 13, 14], []) [0, 1, 2, 3, 9, 10, 12, 13] [] (sumK 101 [0, 1, 2, 3, 9, 10, 11, 12, 13, 14] [0, 1, 2, 3, 9, 10, 12, 13] (q86l1 m))) (frameOf 101 [0, 1, 2, 3, 9, 10, 11, 12, 13, 14] [wsl 0, wsl 1, wsl 2, .float .f32 x0, wsl 3, .int .i64 x1, wsl 4, .float .f32 x2, .float .f32 x3, .int .i64 x4]) ⟨[⟨true, (some (.tab sc0 x5))⟩, ⟨true, (some (.tab [.fl .f32] x6))⟩, ⟨true, (some (.tab [.fl .f32] x7))⟩, ⟨true, (some (.tab [.fl .f32] x8))⟩, ⟨true, (some (.tab [.int .i64] x9))⟩], 5, []⟩ = firstT ([((Nat.beq ((r86l1 (m + 1) x0 x1 x2 x3 x4 x5 x6 x7 x8 x9).1) 0), .exit 3, [wsl 0, wsl 1, wsl 2, .float .f32 x0, wsl 3, .int .i64 x1, .float .f32 ((r86l1 (m + 1) x0 x1 x2 x3 x4 x5 x6 x7 x8 x9).2.1), .float .f32 ((r86l1 (m + 1) x0 x1 x2 x3 x4 x5 x6 x7 x8 x9).2.2)], ⟨[⟨true, (some (.tab sc0 x5))⟩, ⟨true, (some (.tab [.fl .f32] x6))⟩, ⟨true, (some (.tab [.fl .f32] x7))⟩, ⟨true, (some (.tab [.fl .f32] x8))⟩, ⟨true, (some (.tab [.int .i64] x9))⟩], 5, []⟩)].map fun (b, x) => (b, (x.1, frameOf 101 [0, 1, 2, 3, 9, 10, 12, 13] x.2.1, x.2.2))) :=
 (show evC Try.prog ext T80 noL 200 (loopN Try.f86 1) (loopTail ([0, 1, 2, 3, 9, 10, 11, 12, 13, 14], []) [0, 1, 2, 3, 9, 10, 12, 13] [] (sumK 101 [0, 1, 2, 3, 9, 10, 11, 12, 13, 14] [0, 1, 2, 3, 9, 10, 12, 13] (q86l1 m))) (frameOf 101 [0, 1, 2, 3, 9, 10, 11, 12, 13, 14] [wsl 0, wsl 1, wsl 2, .float .f32 x0, wsl 3, .int .i64 x1, wsl 4, .float .f32 x2, .float .f32 x3, .int .i64 x4]) ⟨[⟨true, (some (.tab sc0 x5))⟩, ⟨true, (some (.tab [.fl .f32] x6))⟩, ⟨true, (some (.tab [.fl .f32] x7))⟩, ⟨true, (some (.tab [.fl .f32] x8))⟩, ⟨true, (some (.tab [.int .i64] x9))⟩], 5, []⟩ = w86l1 (r86l1 m) x0 x1 x2 x3 x4 x5 x6 x7 x8 x9 from by kernel_rfl).trans
 (show w86l1 (r86l1 m) x0 x1 x2 x3 x4 x5 x6 x7 x8 x9 = a86l1 x0 x1 x2 x3 x4 x5 x6 x7 x8 x9 (r86l1 (m + 1) x0 x1 x2 x3 x4 x5 x6 x7 x8 x9) from by unfold w86l1; show _ = a86l1 x0 x1 x2 x3 x4 x5 x6 x7 x8 x9 (b86l1 (r86l1 m) x0 x1 x2 x3 x4 x5 x6 x7 x8 x9); unfold b86l1; exact (cond_both (a86l1 x0 x1 x2 x3 x4 x5 x6 x7 x8 x9) _ (fun h0 => (cond_both (a86l1 x0 x1 x2 x3 x4 x5 x6 x7 x8 x9) _ (fun h1 => (cond_t (ev_and2 h1) (cond_both (a86l1 x0 x1 x2 x3 x4 x5 x6 x7 x8 x9) _ (fun h2 => (cond_t (ev_and2 h2) (cond_both (a86l1 x0 x1 x2 x3 x4 x5 x6 x7 x8 x9) _ (fun h3 => (cond_t h1 (cond_t (ev_and2 h1) (cond_both (a86l1 x0 x1 x2 x3 x4 x5 x6 x7 x8 x9) _ (fun h4 => (cond_t (ev_and2 h4) (v86l1 x0 x1 x2 x3 x4 x5 x6 x7 x8 x9 ((r86l1 m) x0 x1 (fadd .f32 x2 (fmul .f32 (Int.toNat ((x7.getD (Int.toNat ((x9.getD (Int.toNat x4) []).getD 0 0)) []).getD 0 0)) (Int.toNat ((x5.getD (Int.toNat ((x9.getD (Int.toNat x4) []).getD 0 0)) []).getD 2 0)))) (fadd .f32 x3 (Int.toNat ((x7.getD (Int.toNat ((x9.getD (Int.toNat x4) []).getD 0 0)) []).getD 0 0))) (IntKind.i64.wrap (x4 + 1)) x5 x6 x7 x8 x9)))) (fun h4 => rfl))))) (fun h3 => (v86l1 x0 x1 x2 x3 x4 x5 x6 x7 x8 x9 ((r86l1 m) x0 x1 x2 x3 (IntKind.i64.wrap (x4 + 1)) x5 x6 x7 x8 x9)))))) (fun h2 => rfl)))) (fun h1 => rfl))) (fun h0 => rfl)))
set_option maxRecDepth 100000 in
set_option maxHeartbeats 4000000 in
theorem qm86l1 : ∀ m, SumKOk Try.prog (loopN Try.f86 1) 101 [0, 1, 2, 3, 9, 10, 11, 12, 13, 14] [0, 1, 2, 3, 9, 10, 12, 13] (q86l1 m) := by
  intro m
  induction m with
  | zero =>
    intro vals s x h1 h2 h3
    unfold q86l1 at h3; split at h3
    · rename_i h; split at h3
      · rename_i hc; obtain ⟨rfl, rfl, rfl, rfl, rfl⟩ := hc; exact absurd h3 (by simp [r86l1, firstT, Nat.beq])
      · exact noQ_ok _ _ _ h1 h2 h3
    · exact noQ_ok _ _ _ h1 h2 h3
  | succ m ih =>
    intro vals s x h1 h2 h3
    unfold q86l1 at h3; split at h3
    · rename_i h; split at h3
      · rename_i hc; obtain ⟨rfl, rfl, rfl, rfl, rfl⟩ := hc; exact sum_step ok80 extOk mixed ((lfOkF_no _ _).inner (by kernel_rfl)) ih h1 h2 h (e86l1 m _ _ _ _ _ _ _ _ _ _) rfl h3
      · exact noQ_ok _ _ _ h1 h2 h3
    · exact noQ_ok _ _ _ h1 h2 h3
noncomputable def Q86l1 : SumK := fun vals s => q86l1 (fuelOf vals s.h) vals s
theorem qok86l1 : SumKOk Try.prog (loopN Try.f86 1) 101 [0, 1, 2, 3, 9, 10, 11, 12, 13, 14] [0, 1, 2, 3, 9, 10, 12, 13] Q86l1 := fuel_ok qm86l1 fuelOf
noncomputable def L86_1 : LoopT := addL noL 12 ([0, 1, 2, 3, 9, 10, 11, 12, 13, 14], []) (sumK 101 [0, 1, 2, 3, 9, 10, 11, 12, 13, 14] [0, 1, 2, 3, 9, 10, 12, 13] Q86l1)
theorem lok86_1 : LfOkF Try.prog L86_1 Try.f86 := lfOkF_add (lfOkF_no _ _) qok86l1 (by kernel_rfl) (by kernel_rfl) (by kernel_rfl)

/-- spec.l03Into, loop 0: one round -/
noncomputable def b86l0 (ih : Nat → Int → List (List Int) → List (List Int) → List (List Int) → List (List Int) → (Nat × List (List Int))) (x0 : Nat) (x1 : Int) (x2 x3 x4 x5 : List (List Int)) : Nat × List (List Int) :=
 let c525 := (r86l1 (1000 + ((r102 x1 x2).2).length + x5.length + x4.length + x3.length + x2.length) x0 x1 0 0 0 x2 x3 x4 x5 ((r102 x1 x2).2))
 cond (decide ((x1 : Int) < ((x2.length : Nat) : Int)))
  (cond ((decide ((0 : Int) ≤ x1)) && (Nat.blt (Int.toNat x1) x2.length))
   (cond ((((x2.getD (Int.toNat x1) []).getD 4 0) : Int) == (-1))
    (cond (Nat.beq ((r102 x1 x2).1) 0)
     (cond ((decide ((0 : Int) ≤ x1)) && (Nat.blt (Int.toNat x1) x4.length))
      (cond (flt .f32 (Int.toNat ((x4.getD (Int.toNat x1) []).getD 0 0)) 0)
       (cond (Nat.ble ((x5.length + 1) * 5) 140737488355328)
        (cond (Nat.beq ((ih x0 (IntKind.i64.wrap (x1 + 1)) x2 x3 x4 (((x5.drop 0).take x5.length) ++ ([[((x0 : Nat) : Int)]] : List (List Int)))).1) 0)
         (0, ((ih x0 (IntKind.i64.wrap (x1 + 1)) x2 x3 x4 (((x5.drop 0).take x5.length) ++ ([[((x0 : Nat) : Int)]] : List (List Int)))).2))
         (cond (Nat.beq ((ih x0 (IntKind.i64.wrap (x1 + 1)) x2 x3 x4 (((x5.drop 0).take x5.length) ++ ([[((x0 : Nat) : Int)]] : List (List Int)))).1) 1)
          (0, (((x5.drop 0).take x5.length) ++ ([[((x0 : Nat) : Int)]] : List (List Int))))
          (2, [])))
        (2, []))
       (cond ((((((r102 x1 x2).2).length : Nat) : Int) : Int) == 0)
        (cond ((decide ((0 : Int) ≤ x1)) && (Nat.blt (Int.toNat x1) x3.length))
         (cond (Nat.ble ((x5.length + 1) * 5) 140737488355328)
          (cond (Nat.beq ((ih x0 (IntKind.i64.wrap (x1 + 1)) x2 x3 x4 (((x5.drop 0).take x5.length) ++ ([[(((Int.toNat ((x3.getD (Int.toNat x1) []).getD 0 0)) : Nat) : Int)]] : List (List Int)))).1) 0)
           (0, ((ih x0 (IntKind.i64.wrap (x1 + 1)) x2 x3 x4 (((x5.drop 0).take x5.length) ++ ([[(((Int.toNat ((x3.getD (Int.toNat x1) []).getD 0 0)) : Nat) : Int)]] : List (List Int)))).2))
           (cond (Nat.beq ((ih x0 (IntKind.i64.wrap (x1 + 1)) x2 x3 x4 (((x5.drop 0).take x5.length) ++ ([[(((Int.toNat ((x3.getD (Int.toNat x1) []).getD 0 0)) : Nat) : Int)]] : List (List Int)))).1) 1)
            (0, (((x5.drop 0).take x5.length) ++ ([[(((Int.toNat ((x3.getD (Int.toNat x1) []).getD 0 0)) : Nat) : Int)]] : List (List Int))))
            (2, [])))
          (2, []))
         (2, []))
        (cond (Nat.beq (c525.1) 0)
         (cond (fgt .f32 (c525.2.2) 0)
          (cond (Nat.ble ((x5.length + 1) * 5) 140737488355328)
           (cond (Nat.beq ((ih x0 (IntKind.i64.wrap (x1 + 1)) x2 x3 x4 (((x5.drop 0).take x5.length) ++ ([[(((fdiv .f32 (c525.2.1) (c525.2.2)) : Nat) : Int)]] : List (List Int)))).1) 0)
            (0, ((ih x0 (IntKind.i64.wrap (x1 + 1)) x2 x3 x4 (((x5.drop 0).take x5.length) ++ ([[(((fdiv .f32 (c525.2.1) (c525.2.2)) : Nat) : Int)]] : List (List Int)))).2))
            (cond (Nat.beq ((ih x0 (IntKind.i64.wrap (x1 + 1)) x2 x3 x4 (((x5.drop 0).take x5.length) ++ ([[(((fdiv .f32 (c525.2.1) (c525.2.2)) : Nat) : Int)]] : List (List Int)))).1) 1)
             (0, (((x5.drop 0).take x5.length) ++ ([[(((fdiv .f32 (c525.2.1) (c525.2.2)) : Nat) : Int)]] : List (List Int))))
             (2, [])))
           (2, []))
          (cond (Nat.ble ((x5.length + 1) * 5) 140737488355328)
           (cond (Nat.beq ((ih x0 (IntKind.i64.wrap (x1 + 1)) x2 x3 x4 (((x5.drop 0).take x5.length) ++ ([[(((Int.toNat ((x2.getD (Int.toNat x1) []).getD 2 0)) : Nat) : Int)]] : List (List Int)))).1) 0)
            (0, ((ih x0 (IntKind.i64.wrap (x1 + 1)) x2 x3 x4 (((x5.drop 0).take x5.length) ++ ([[(((Int.toNat ((x2.getD (Int.toNat x1) []).getD 2 0)) : Nat) : Int)]] : List (List Int)))).2))
            (cond (Nat.beq ((ih x0 (IntKind.i64.wrap (x1 + 1)) x2 x3 x4 (((x5.drop 0).take x5.length) ++ ([[(((Int.toNat ((x2.getD (Int.toNat x1) []).getD 2 0)) : Nat) : Int)]] : List (List Int)))).1) 1)
             (0, (((x5.drop 0).take x5.length) ++ ([[(((Int.toNat ((x2.getD (Int.toNat x1) []).getD 2 0)) : Nat) : Int)]] : List (List Int))))
             (2, [])))
           (2, [])))
         (2, []))))
      (2, []))
     (2, []))
    (cond ((decide ((0 : Int) ≤ x1)) && (Nat.blt (Int.toNat x1) x4.length))
     (cond (flt .f32 (Int.toNat ((x4.getD (Int.toNat x1) []).getD 0 0)) 0)
      (cond (Nat.ble ((x5.length + 1) * 5) 140737488355328)
       (cond (Nat.beq ((ih x0 (IntKind.i64.wrap (x1 + 1)) x2 x3 x4 (((x5.drop 0).take x5.length) ++ ([[((x0 : Nat) : Int)]] : List (List Int)))).1) 0)
        (0, ((ih x0 (IntKind.i64.wrap (x1 + 1)) x2 x3 x4 (((x5.drop 0).take x5.length) ++ ([[((x0 : Nat) : Int)]] : List (List Int)))).2))
        (cond (Nat.beq ((ih x0 (IntKind.i64.wrap (x1 + 1)) x2 x3 x4 (((x5.drop 0).take x5.length) ++ ([[((x0 : Nat) : Int)]] : List (List Int)))).1) 1)
         (0, (((x5.drop 0).take x5.length) ++ ([[((x0 : Nat) : Int)]] : List (List Int))))
         (2, [])))
       (2, []))
      (cond ((decide ((0 : Int) ≤ x1)) && (Nat.blt (Int.toNat x1) x3.length))
       (cond (Nat.ble ((x5.length + 1) * 5) 140737488355328)
        (cond (Nat.beq ((ih x0 (IntKind.i64.wrap (x1 + 1)) x2 x3 x4 (((x5.drop 0).take x5.length) ++ ([[(((Int.toNat ((x3.getD (Int.toNat x1) []).getD 0 0)) : Nat) : Int)]] : List (List Int)))).1) 0)
         (0, ((ih x0 (IntKind.i64.wrap (x1 + 1)) x2 x3 x4 (((x5.drop 0).take x5.length) ++ ([[(((Int.toNat ((x3.getD (Int.toNat x1) []).getD 0 0)) : Nat) : Int)]] : List (List Int)))).2))
         (cond (Nat.beq ((ih x0 (IntKind.i64.wrap (x1 + 1)) x2 x3 x4 (((x5.drop 0).take x5.length) ++ ([[(((Int.toNat ((x3.getD (Int.toNat x1) []).getD 0 0)) : Nat) : Int)]] : List (List Int)))).1) 1)
          (0, (((x5.drop 0).take x5.length) ++ ([[(((Int.toNat ((x3.getD (Int.toNat x1) []).getD 0 0)) : Nat) : Int)]] : List (List Int))))
          (2, [])))
        (2, []))
       (2, [])))
     (2, [])))
   (2, []))
  (1, [])
noncomputable def r86l0 : Nat → Nat → Int → List (List Int) → List (List Int) → List (List Int) → List (List Int) → (Nat × List (List Int))
 | 0 => fun _ _ _ _ _ _ => (2, [])
 | m + 1 => b86l0 (r86l0 m)
noncomputable def a86l0 (x0 : Nat) (x1 : Int) (x2 x3 x4 x5 : List (List Int)) (p : Nat × List (List Int)) : Option (Fin' × List Value × St) := firstT ([((Nat.beq (p.1) 0), .exit 0, [wsl 4], ⟨[⟨true, (some (.tab sc0 x2))⟩, ⟨true, (some (.tab [.fl .f32] x3))⟩, ⟨true, (some (.tab [.fl .f32] x4))⟩, ⟨true, none⟩, ⟨true, (some (.tab [.fl .f32] (p.2)))⟩], 4, [3]⟩), ((Nat.beq (p.1) 1), .exit 0, [wsl 3], ⟨[⟨true, (some (.tab sc0 x2))⟩, ⟨true, (some (.tab [.fl .f32] x3))⟩, ⟨true, (some (.tab [.fl .f32] x4))⟩, ⟨true, (some (.tab [.fl .f32] x5))⟩], 4, [3]⟩)].map fun (b, x) => (b, (x.1, frameOf 101 [9] x.2.1, x.2.2)))
noncomputable def u86l0 (x0 : Nat) (x1 : Int) (x2 x3 x4 x5 : List (List Int)) (p : Nat × List (List Int)) : Option (Fin' × List Value × St) := alts ([((Nat.beq (p.1) 0), .exit 0, [wsl 4], ⟨[⟨true, (some (.tab sc0 x2))⟩, ⟨true, (some (.tab [.fl .f32] x3))⟩, ⟨true, (some (.tab [.fl .f32] x4))⟩, ⟨true, none⟩, ⟨true, (some (.tab [.fl .f32] (p.2)))⟩], 4, [3]⟩), ((Nat.beq (p.1) 1), .exit 0, [wsl 3], ⟨[⟨true, (some (.tab sc0 x2))⟩, ⟨true, (some (.tab [.fl .f32] x3))⟩, ⟨true, (some (.tab [.fl .f32] x4))⟩, ⟨true, (some (.tab [.fl .f32] x5))⟩], 4, [3]⟩)].map fun (b, x) => (b, (x.1, frameOf 101 [9] x.2.1, x.2.2))) some
theorem v86l0 (x0 : Nat) (x1 : Int) (x2 x3 x4 x5 : List (List Int)) (p : Nat × List (List Int)) : u86l0 x0 x1 x2 x3 x4 x5 p = a86l0 x0 x1 x2 x3 x4 x5 p := alts_first _
noncomputable def q86l0 (m : Nat) : SumK := fun vals s =>
 match vals, s.h with
 | [.iface f0 .nilIface, .iface f1 .nilIface, .iface f2 .nilIface, .float .f32 x0, .iface f3 .nilIface, .int .i64 x1], [⟨true, some (.tab [.fl .f32, .fl .f32, .fl .f32, .fl .f32, .int .i64] x2)⟩, ⟨true, some (.tab [.fl .f32] x3)⟩, ⟨true, some (.tab [.fl .f32] x4)⟩, ⟨true, some (.tab [.fl .f32] x5)⟩] => if f0 = 0 ∧ f1 = 1 ∧ f2 = 2 ∧ f3 = 3 then [((Nat.beq ((r86l0 m x0 x1 x2 x3 x4 x5).1) 0), .exit 0, [wsl 4], ⟨[⟨true, (some (.tab sc0 x2))⟩, ⟨true, (some (.tab [.fl .f32] x3))⟩, ⟨true, (some (.tab [.fl .f32] x4))⟩, ⟨true, none⟩, ⟨true, (some (.tab [.fl .f32] ((r86l0 m x0 x1 x2 x3 x4 x5).2)))⟩], 4, [3]⟩), ((Nat.beq ((r86l0 m x0 x1 x2 x3 x4 x5).1) 1), .exit 0, [wsl 3], ⟨[⟨true, (some (.tab sc0 x2))⟩, ⟨true, (some (.tab [.fl .f32] x3))⟩, ⟨true, (some (.tab [.fl .f32] x4))⟩, ⟨true, (some (.tab [.fl .f32] x5))⟩], 4, [3]⟩)] else noQ vals s
 | _, _ => noQ vals s
noncomputable def w86l0 (ih : Nat → Int → List (List Int) → List (List Int) → List (List Int) → List (List Int) → (Nat × List (List Int))) (x0 : Nat) (x1 : Int) (x2 x3 x4 x5 : List (List Int)) : Option (Fin' × List Value × St) :=
 let c525 := (r86l1 (1000 + ((r102 x1 x2).2).length + x5.length + x4.length + x3.length + x2.length) x0 x1 0 0 0 x2 x3 x4 x5 ((r102 x1 x2).2))
 (cond (decide ((x1 : Int) < ((x2.length : Nat) : Int)))
 (cond ((decide ((0 : Int) ≤ x1)) && (Nat.blt (Int.toNat x1) x2.length))
  (cond (Nat.blt (Int.toNat x1) x2.length)
   (cond ((((x2.getD (Int.toNat x1) []).getD 4 0) : Int) == (-1))
    (cond (Nat.beq ((r102 x1 x2).1) 0)
     (cond ((decide ((0 : Int) ≤ x1)) && (Nat.blt (Int.toNat x1) x4.length))
      (cond (Nat.blt (Int.toNat x1) x4.length)
       (cond (flt .f32 (Int.toNat ((x4.getD (Int.toNat x1) []).getD 0 0)) 0)
        (cond (Nat.ble ((x5.length + 1) * 5) 140737488355328)
         (cond (Nat.beq ((ih x0 (IntKind.i64.wrap (x1 + 1)) x2 x3 x4 (((x5.drop 0).take x5.length) ++ ([[((x0 : Nat) : Int)]] : List (List Int)))).1) 0)
          (a86l0 x0 x1 x2 x3 x4 x5 (0, ((ih x0 (IntKind.i64.wrap (x1 + 1)) x2 x3 x4 (((x5.drop 0).take x5.length) ++ ([[((x0 : Nat) : Int)]] : List (List Int)))).2)))
          (cond (Nat.beq ((ih x0 (IntKind.i64.wrap (x1 + 1)) x2 x3 x4 (((x5.drop 0).take x5.length) ++ ([[((x0 : Nat) : Int)]] : List (List Int)))).1) 1)
           (a86l0 x0 x1 x2 x3 x4 x5 (0, (((x5.drop 0).take x5.length) ++ ([[((x0 : Nat) : Int)]] : List (List Int)))))
           none))
         none)
        (cond ((((((r102 x1 x2).2).length : Nat) : Int) : Int) == 0)
         (cond ((decide ((0 : Int) ≤ x1)) && (Nat.blt (Int.toNat x1) x3.length))
          (cond (Nat.blt (Int.toNat x1) x3.length)
           (cond (Nat.ble ((x5.length + 1) * 5) 140737488355328)
            (cond (Nat.beq ((ih x0 (IntKind.i64.wrap (x1 + 1)) x2 x3 x4 (((x5.drop 0).take x5.length) ++ ([[(((Int.toNat ((x3.getD (Int.toNat x1) []).getD 0 0)) : Nat) : Int)]] : List (List Int)))).1) 0)
             (a86l0 x0 x1 x2 x3 x4 x5 (0, ((ih x0 (IntKind.i64.wrap (x1 + 1)) x2 x3 x4 (((x5.drop 0).take x5.length) ++ ([[(((Int.toNat ((x3.getD (Int.toNat x1) []).getD 0 0)) : Nat) : Int)]] : List (List Int)))).2)))
             (cond (Nat.beq ((ih x0 (IntKind.i64.wrap (x1 + 1)) x2 x3 x4 (((x5.drop 0).take x5.length) ++ ([[(((Int.toNat ((x3.getD (Int.toNat x1) []).getD 0 0)) : Nat) : Int)]] : List (List Int)))).1) 1)
              (a86l0 x0 x1 x2 x3 x4 x5 (0, (((x5.drop 0).take x5.length) ++ ([[(((Int.toNat ((x3.getD (Int.toNat x1) []).getD 0 0)) : Nat) : Int)]] : List (List Int)))))
              none))
            none)
           none)
          none)
         (cond (Nat.beq (c525.1) 0)
          (cond (fgt .f32 (c525.2.2) 0)
           (cond (Nat.ble ((x5.length + 1) * 5) 140737488355328)
            (cond (Nat.beq ((ih x0 (IntKind.i64.wrap (x1 + 1)) x2 x3 x4 (((x5.drop 0).take x5.length) ++ ([[(((fdiv .f32 (c525.2.1) (c525.2.2)) : Nat) : Int)]] : List (List Int)))).1) 0)
             (a86l0 x0 x1 x2 x3 x4 x5 (0, ((ih x0 (IntKind.i64.wrap (x1 + 1)) x2 x3 x4 (((x5.drop 0).take x5.length) ++ ([[(((fdiv .f32 (c525.2.1) (c525.2.2)) : Nat) : Int)]] : List (List Int)))).2)))
             (cond (Nat.beq ((ih x0 (IntKind.i64.wrap (x1 + 1)) x2 x3 x4 (((x5.drop 0).take x5.length) ++ ([[(((fdiv .f32 (c525.2.1) (c525.2.2)) : Nat) : Int)]] : List (List Int)))).1) 1)
              (a86l0 x0 x1 x2 x3 x4 x5 (0, (((x5.drop 0).take x5.length) ++ ([[(((fdiv .f32 (c525.2.1) (c525.2.2)) : Nat) : Int)]] : List (List Int)))))
              none))
            none)
           (cond ((decide ((0 : Int) ≤ x1)) && (Nat.blt (Int.toNat x1) x2.length))
            (cond (Nat.blt (Int.toNat x1) x2.length)
             (cond (Nat.ble ((x5.length + 1) * 5) 140737488355328)
              (cond (Nat.beq ((ih x0 (IntKind.i64.wrap (x1 + 1)) x2 x3 x4 (((x5.drop 0).take x5.length) ++ ([[(((Int.toNat ((x2.getD (Int.toNat x1) []).getD 2 0)) : Nat) : Int)]] : List (List Int)))).1) 0)
               (a86l0 x0 x1 x2 x3 x4 x5 (0, ((ih x0 (IntKind.i64.wrap (x1 + 1)) x2 x3 x4 (((x5.drop 0).take x5.length) ++ ([[(((Int.toNat ((x2.getD (Int.toNat x1) []).getD 2 0)) : Nat) : Int)]] : List (List Int)))).2)))
               (cond (Nat.beq ((ih x0 (IntKind.i64.wrap (x1 + 1)) x2 x3 x4 (((x5.drop 0).take x5.length) ++ ([[(((Int.toNat ((x2.getD (Int.toNat x1) []).getD 2 0)) : Nat) : Int)]] : List (List Int)))).1) 1)
                (a86l0 x0 x1 x2 x3 x4 x5 (0, (((x5.drop 0).take x5.length) ++ ([[(((Int.toNat ((x2.getD (Int.toNat x1) []).getD 2 0)) : Nat) : Int)]] : List (List Int)))))
                none))
              none)
             none)
            none))
          none)))
       none)
      none)
     none)
    (cond ((decide ((0 : Int) ≤ x1)) && (Nat.blt (Int.toNat x1) x4.length))
     (cond (Nat.blt (Int.toNat x1) x4.length)
      (cond (flt .f32 (Int.toNat ((x4.getD (Int.toNat x1) []).getD 0 0)) 0)
       (cond (Nat.ble ((x5.length + 1) * 5) 140737488355328)
        (cond (Nat.beq ((ih x0 (IntKind.i64.wrap (x1 + 1)) x2 x3 x4 (((x5.drop 0).take x5.length) ++ ([[((x0 : Nat) : Int)]] : List (List Int)))).1) 0)
         (a86l0 x0 x1 x2 x3 x4 x5 (0, ((ih x0 (IntKind.i64.wrap (x1 + 1)) x2 x3 x4 (((x5.drop 0).take x5.length) ++ ([[((x0 : Nat) : Int)]] : List (List Int)))).2)))
         (cond (Nat.beq ((ih x0 (IntKind.i64.wrap (x1 + 1)) x2 x3 x4 (((x5.drop 0).take x5.length) ++ ([[((x0 : Nat) : Int)]] : List (List Int)))).1) 1)
          (a86l0 x0 x1 x2 x3 x4 x5 (0, (((x5.drop 0).take x5.length) ++ ([[((x0 : Nat) : Int)]] : List (List Int)))))
          none))
        none)
       (cond ((decide ((0 : Int) ≤ x1)) && (Nat.blt (Int.toNat x1) x3.length))
        (cond (Nat.blt (Int.toNat x1) x3.length)
         (cond (Nat.ble ((x5.length + 1) * 5) 140737488355328)
          (cond (Nat.beq ((ih x0 (IntKind.i64.wrap (x1 + 1)) x2 x3 x4 (((x5.drop 0).take x5.length) ++ ([[(((Int.toNat ((x3.getD (Int.toNat x1) []).getD 0 0)) : Nat) : Int)]] : List (List Int)))).1) 0)
           (a86l0 x0 x1 x2 x3 x4 x5 (0, ((ih x0 (IntKind.i64.wrap (x1 + 1)) x2 x3 x4 (((x5.drop 0).take x5.length) ++ ([[(((Int.toNat ((x3.getD (Int.toNat x1) []).getD 0 0)) : Nat) : Int)]] : List (List Int)))).2)))
           (cond (Nat.beq ((ih x0 (IntKind.i64.wrap (x1 + 1)) x2 x3 x4 (((x5.drop 0).take x5.length) ++ ([[(((Int.toNat ((x3.getD (Int.toNat x1) []).getD 0 0)) : Nat) : Int)]] : List (List Int)))).1) 1)
            (a86l0 x0 x1 x2 x3 x4 x5 (0, (((x5.drop 0).take x5.length) ++ ([[(((Int.toNat ((x3.getD (Int.toNat x1) []).getD 0 0)) : Nat) : Int)]] : List (List Int)))))
            none))
          none)
         none)
        none))
      none)
     none))
   none)
  none)
 (a86l0 x0 x1 x2 x3 x4 x5 (1, [])))
set_option maxRecDepth 100000 in
set_option maxHeartbeats 4000000 in
theorem e86l0 (m : Nat) (x0 : Nat) (x1 : Int) (x2 x3 x4 x5 : List (List Int)) : evC Try.prog ext T80 L86_1 200 (loopN Try.f86 0) (loopTail ([0, 1, 2, 3, 9, 10], []) [9] [3] (sumK 101 [0, 1, 2, 3, 9, 10] [9] (q86l0 m))) (frameOf 101 [0, 1, 2, 3, 9, 10] [wsl 0, wsl 1, wsl 2, .float .f32 x0, wsl 3, .int .i64 x1]) ⟨[⟨true, (some (.tab sc0 x2))⟩, ⟨true, (some (.tab [.fl .f32] x3))⟩, ⟨true, (some (.tab [.fl .f32] x4))⟩, ⟨true, (some (.tab [.fl .f32] x5))⟩], 4, []⟩ = firstT ([((Nat.beq ((r86l0 (m + 1) x0 x1 x2 x3 x4 x5).1) 0), .exit 0, [wsl 4], ⟨[⟨true, (some (.tab sc0 x2))⟩, ⟨true, (some (.tab [.fl .f32] x3))⟩, ⟨true, (some (.tab [.fl .f32] x4))⟩, ⟨true, none⟩, ⟨true, (some (.tab [.fl .f32] ((r86l0 (m + 1) x0 x1 x2 x3 x4 x5).2)))⟩], 4, [3]⟩), ((Nat.beq ((r86l0 (m + 1) x0 x1 x2 x3 x4 x5).1) 1), .exit 0, [wsl 3], ⟨[⟨true, (some (.tab sc0 x2))⟩, ⟨true, (some (.tab [.fl .f32] x3))⟩, ⟨true, (some (.tab [.fl .f32] x4))⟩, ⟨true, (some (.tab [.fl .f32] x5))⟩], 4, [3]⟩)].map fun (b, x) => (b, (x.1, frameOf 101 [9] x.2.1, x.2.2))) :=
 (show evC Try.prog ext T80 L86_1 200 (loopN Try.f86 0) (loopTail ([0, 1, 2, 3, 9, 10], []) [9] [3] (sumK 101 [0, 1, 2, 3, 9, 10] [9] (q86l0 m))) (frameOf 101 [0, 1, 2, 3, 9, 10] [wsl 0, wsl 1, wsl 2, .float .f32 x0, wsl 3, .int .i64 x1]) ⟨[⟨true, (some (.tab sc0 x2))⟩, ⟨true, (some (.tab [.fl .f32] x3))⟩, ⟨true, (some (.tab [.fl .f32] x4))⟩, ⟨true, (some (.tab [.fl .f32] x5))⟩], 4, []⟩ = w86l0 (r86l0 m) x0 x1 x2 x3 x4 x5 from by kernel_rfl).trans
 (show w86l0 (r86l0 m) x0 x1 x2 x3 x4 x5 = a86l0 x0 x1 x2 x3 x4 x5 (r86l0 (m + 1) x0 x1 x2 x3 x4 x5) from by unfold w86l0; show _ = a86l0 x0 x1 x2 x3 x4 x5 (b86l0 (r86l0 m) x0 x1 x2 x3 x4 x5); unfold b86l0; exact (cond_both (a86l0 x0 x1 x2 x3 x4 x5) _ (fun h0 => (cond_both (a86l0 x0 x1 x2 x3 x4 x5) _ (fun h1 => (cond_t (ev_and2 h1) (cond_both (a86l0 x0 x1 x2 x3 x4 x5) _ (fun h2 => (cond_both (a86l0 x0 x1 x2 x3 x4 x5) _ (fun h3 => (cond_both (a86l0 x0 x1 x2 x3 x4 x5) _ (fun h4 => (cond_t (ev_and2 h4) (cond_both (a86l0 x0 x1 x2 x3 x4 x5) _ (fun h5 => (cond_app (a86l0 x0 x1 x2 x3 x4 x5) _ (cond_app (a86l0 x0 x1 x2 x3 x4 x5) _ rfl (cond_app (a86l0 x0 x1 x2 x3 x4 x5) _ rfl rfl)) rfl)) (fun h5 => (cond_both (a86l0 x0 x1 x2 x3 x4 x5) _ (fun h6 => (cond_both (a86l0 x0 x1 x2 x3 x4 x5) _ (fun h7 => (cond_t (ev_and2 h7) (cond_app (a86l0 x0 x1 x2 x3 x4 x5) _ (cond_app (a86l0 x0 x1 x2 x3 x4 x5) _ rfl (cond_app (a86l0 x0 x1 x2 x3 x4 x5) _ rfl rfl)) rfl))) (fun h7 => rfl))) (fun h6 => (cond_both (a86l0 x0 x1 x2 x3 x4 x5) _ (fun h7 => (cond_both (a86l0 x0 x1 x2 x3 x4 x5) _ (fun h8 => (cond_app (a86l0 x0 x1 x2 x3 x4 x5) _ (cond_app (a86l0 x0 x1 x2 x3 x4 x5) _ rfl (cond_app (a86l0 x0 x1 x2 x3 x4 x5) _ rfl rfl)) rfl)) (fun h8 => (cond_t h1 (cond_t (ev_and2 h1) (cond_app (a86l0 x0 x1 x2 x3 x4 x5) _ (cond_app (a86l0 x0 x1 x2 x3 x4 x5) _ rfl (cond_app (a86l0 x0 x1 x2 x3 x4 x5) _ rfl rfl)) rfl)))))) (fun h7 => rfl)))))))) (fun h4 => rfl))) (fun h3 => rfl))) (fun h2 => (cond_both (a86l0 x0 x1 x2 x3 x4 x5) _ (fun h3 => (cond_t (ev_and2 h3) (cond_both (a86l0 x0 x1 x2 x3 x4 x5) _ (fun h4 => (cond_app (a86l0 x0 x1 x2 x3 x4 x5) _ (cond_app (a86l0 x0 x1 x2 x3 x4 x5) _ rfl (cond_app (a86l0 x0 x1 x2 x3 x4 x5) _ rfl rfl)) rfl)) (fun h4 => (cond_both (a86l0 x0 x1 x2 x3 x4 x5) _ (fun h5 => (cond_t (ev_and2 h5) (cond_app (a86l0 x0 x1 x2 x3 x4 x5) _ (cond_app (a86l0 x0 x1 x2 x3 x4 x5) _ rfl (cond_app (a86l0 x0 x1 x2 x3 x4 x5) _ rfl rfl)) rfl))) (fun h5 => rfl)))))) (fun h3 => rfl)))))) (fun h1 => rfl))) (fun h0 => rfl)))
set_option maxRecDepth 100000 in
set_option maxHeartbeats 4000000 in
theorem qm86l0 : ∀ m, SumKOk Try.prog (loopN Try.f86 0) 101 [0, 1, 2, 3, 9, 10] [9] (q86l0 m) := by
  intro m
  induction m with
  | zero =>
    intro vals s x h1 h2 h3
    unfold q86l0 at h3; split at h3
    · rename_i h; split at h3
      · rename_i hc; obtain ⟨rfl, rfl, rfl, rfl⟩ := hc; exact absurd h3 (by simp [r86l0, firstT, Nat.beq])
      · exact noQ_ok _ _ _ h1 h2 h3
    · exact noQ_ok _ _ _ h1 h2 h3
  | succ m ih =>
    intro vals s x h1 h2 h3
    unfold q86l0 at h3; split at h3
    · rename_i h; split at h3
      · rename_i hc; obtain ⟨rfl, rfl, rfl, rfl⟩ := hc; exact sum_step ok80 extOk mixed (lok86_1.inner (by kernel_rfl)) ih h1 h2 h (e86l0 m _ _ _ _ _ _) rfl h3
      · exact noQ_ok _ _ _ h1 h2 h3
    · exact noQ_ok _ _ _ h1 h2 h3
noncomputable def Q86l0 : SumK := fun vals s => q86l0 (fuelOf vals s.h) vals s
theorem qok86l0 : SumKOk Try.prog (loopN Try.f86 0) 101 [0, 1, 2, 3, 9, 10] [9] Q86l0 := fuel_ok qm86l0 fuelOf
noncomputable def L86_2 : LoopT := addL L86_1 4 ([0, 1, 2, 3, 9, 10], []) (sumK 101 [0, 1, 2, 3, 9, 10] [9] Q86l0)
theorem lok86_2 : LfOkF Try.prog L86_2 Try.f86 := lfOkF_add lok86_1 qok86l0 (by kernel_rfl) (by kernel_rfl) (by kernel_rfl)

/-- spec.l03Into -/
noncomputable def r86 (x0 : Nat) (x1 x2 x3 : List (List Int)) : Nat × List (List Int) :=
 cond (Nat.beq ((r86l0 (1000 + 0 + x3.length + x2.length + x1.length) x0 0 x1 x2 x3 ([] : List (List Int))).1) 0)
  (0, ((r86l0 (1000 + 0 + x3.length + x2.length + x1.length) x0 0 x1 x2 x3 ([] : List (List Int))).2))
  (cond (Nat.beq ((r86l0 (1000 + 0 + x3.length + x2.length + x1.length) x0 0 x1 x2 x3 ([] : List (List Int))).1) 1)
   (0, ([] : List (List Int)))
   (1, []))
noncomputable def a86 (x0 : Nat) (x1 x2 x3 : List (List Int)) (p : Nat × List (List Int)) : Res := firstT [((Nat.beq (p.1) 0), wsl 3, ⟨[⟨true, (some (.tab sc0 x1))⟩, ⟨true, (some (.tab [.fl .f32] x2))⟩, ⟨true, (some (.tab [.fl .f32] x3))⟩, ⟨true, (some (.tab [.fl .f32] (p.2)))⟩], 3, []⟩)]
noncomputable def w86 (x0 : Nat) (x1 x2 x3 : List (List Int)) : Res :=
 (cond (Nat.beq ((r86l0 (1000 + 0 + x3.length + x2.length + x1.length) x0 0 x1 x2 x3 ([] : List (List Int))).1) 0)
 (a86 x0 x1 x2 x3 (0, ((r86l0 (1000 + 0 + x3.length + x2.length + x1.length) x0 0 x1 x2 x3 ([] : List (List Int))).2)))
 (cond (Nat.beq ((r86l0 (1000 + 0 + x3.length + x2.length + x1.length) x0 0 x1 x2 x3 ([] : List (List Int))).1) 1)
  (a86 x0 x1 x2 x3 (0, ([] : List (List Int))))
  none))
set_option maxRecDepth 100000 in
set_option maxHeartbeats 4000000 in
theorem e86 (x0 : Nat) (x1 x2 x3 : List (List Int)) : evFn Try.prog ext T80 L86_2 200 Try.f86 [wsl 0, wsl 1, wsl 2, .float .f32 x0] ⟨[⟨true, (some (.tab sc0 x1))⟩, ⟨true, (some (.tab [.fl .f32] x2))⟩, ⟨true, (some (.tab [.fl .f32] x3))⟩], 3, []⟩ = firstT [((Nat.beq ((r86 x0 x1 x2 x3).1) 0), wsl 3, ⟨[⟨true, (some (.tab sc0 x1))⟩, ⟨true, (some (.tab [.fl .f32] x2))⟩, ⟨true, (some (.tab [.fl .f32] x3))⟩, ⟨true, (some (.tab [.fl .f32] ((r86 x0 x1 x2 x3).2)))⟩], 3, []⟩)] :=
 (show evFn Try.prog ext T80 L86_2 200 Try.f86 [wsl 0, wsl 1, wsl 2, .float .f32 x0] ⟨[⟨true, (some (.tab sc0 x1))⟩, ⟨true, (some (.tab [.fl .f32] x2))⟩, ⟨true, (some (.tab [.fl .f32] x3))⟩], 3, []⟩ = w86 x0 x1 x2 x3 from by kernel_rfl).trans
 (show w86 x0 x1 x2 x3 = a86 x0 x1 x2 x3 (r86 x0 x1 x2 x3) from by unfold w86 r86; exact (cond_app (a86 x0 x1 x2 x3) _ rfl (cond_app (a86 x0 x1 x2 x3) _ rfl rfl)))
noncomputable def s86 (args : List Value) (s : St) : List (Bool × Value × St) :=
 match args, s.h with
 | [.iface f0 .nilIface, .iface f1 .nilIface, .iface f2 .nilIface, .float .f32 x0], [⟨true, some (.tab [.fl .f32, .fl .f32, .fl .f32, .fl .f32, .int .i64] x1)⟩, ⟨true, some (.tab [.fl .f32] x2)⟩, ⟨true, some (.tab [.fl .f32] x3)⟩] => if f0 = 0 ∧ f1 = 1 ∧ f2 = 2 then [((Nat.beq ((r86 x0 x1 x2 x3).1) 0), wsl 3, ⟨[⟨true, (some (.tab sc0 x1))⟩, ⟨true, (some (.tab [.fl .f32] x2))⟩, ⟨true, (some (.tab [.fl .f32] x3))⟩, ⟨true, (some (.tab [.fl .f32] ((r86 x0 x1 x2 x3).2)))⟩], 3, []⟩)] else T80 86 args s
 | _, _ => T80 86 args s
noncomputable def T81 : CallF := addF T80 86 s86
set_option maxRecDepth 100000 in
set_option maxHeartbeats 4000000 in
theorem ok81 : CfOk Try.prog T81 := by
  refine cfOk_add ok80 fun args s r s' h1 h2 h3 => ?_
  unfold s86 at h3; split at h3
  · rename_i h; split at h3
    · rename_i hc; obtain ⟨rfl, rfl, rfl⟩ := hc; exact callOk ok80 Try.func86 h1 h2 h lok86_2.body (e86 _ _ _ _) rfl h3
    · exact ok80 _ _ _ _ _ h1 h2 h3
  · exact ok80 _ _ _ _ _ h1 h2 h3

/-- spec.l03Finites, loop 0: one round -/
noncomputable def b85l0 (ih : Int → List (List Int) → Nat) (x0 : Int) (x1 : List (List Int)) : Nat :=
 cond (decide ((x0 : Int) < ((x1.length : Nat) : Int)))
  (cond ((decide ((0 : Int) ≤ x0)) && (Nat.blt (Int.toNat x0) x1.length))
   (cond (!(r103 (Int.toNat ((x1.getD (Int.toNat x0) []).getD 0 0))))
    (0)
    (ih (IntKind.i64.wrap (x0 + 1)) x1))
   (2))
  (1)
noncomputable def r85l0 : Nat → Int → List (List Int) → Nat
 | 0 => fun _ _ => (2)
 | m + 1 => b85l0 (r85l0 m)
noncomputable def a85l0 (x0 : Int) (x1 : List (List Int)) (p : Nat) : Option (Fin' × List Value × St) := firstT ([((Nat.beq p 0), .ret, [.bool false], ⟨[⟨true, (some (.tab [.fl .f32] x1))⟩], 1, []⟩), ((Nat.beq p 1), .exit 0, [anyV], ⟨[⟨true, (some (.tab [.fl .f32] x1))⟩], 1, []⟩)].map fun (b, x) => (b, (x.1, frameOf 16 [2] x.2.1, x.2.2)))
noncomputable def u85l0 (x0 : Int) (x1 : List (List Int)) (p : Nat) : Option (Fin' × List Value × St) := alts ([((Nat.beq p 0), .ret, [.bool false], ⟨[⟨true, (some (.tab [.fl .f32] x1))⟩], 1, []⟩), ((Nat.beq p 1), .exit 0, [anyV], ⟨[⟨true, (some (.tab [.fl .f32] x1))⟩], 1, []⟩)].map fun (b, x) => (b, (x.1, frameOf 16 [2] x.2.1, x.2.2))) some
theorem v85l0 (x0 : Int) (x1 : List (List Int)) (p : Nat) : u85l0 x0 x1 p = a85l0 x0 x1 p := alts_first _
noncomputable def q85l0 (m : Nat) : SumK := fun vals s =>
 match vals, s.h with
 | [.iface f0 .nilIface, .int .i64 x0], [⟨true, some (.tab [.fl .f32] x1)⟩] => if f0 = 0 then [((Nat.beq (r85l0 m x0 x1) 0), .ret, [.bool false], ⟨[⟨true, (some (.tab [.fl .f32] x1))⟩], 1, []⟩), ((Nat.beq (r85l0 m x0 x1) 1), .exit 0, [anyV], ⟨[⟨true, (some (.tab [.fl .f32] x1))⟩], 1, []⟩)] else noQ vals s
 | _, _ => noQ vals s
noncomputable def w85l0 (ih : Int → List (List Int) → Nat) (x0 : Int) (x1 : List (List Int)) : Option (Fin' × List Value × St) :=
 (cond (decide ((x0 : Int) < ((x1.length : Nat) : Int)))
 (cond ((decide ((0 : Int) ≤ x0)) && (Nat.blt (Int.toNat x0) x1.length))
  (cond (Nat.blt (Int.toNat x0) x1.length)
   (cond (!(r103 (Int.toNat ((x1.getD (Int.toNat x0) []).getD 0 0))))
    (a85l0 x0 x1 (0))
    (u85l0 x0 x1 (ih (IntKind.i64.wrap (x0 + 1)) x1)))
   none)
  none)
 (a85l0 x0 x1 (1)))
set_option maxRecDepth 100000 in
set_option maxHeartbeats 4000000 in
theorem e85l0 (m : Nat) (x0 : Int) (x1 : List (List Int)) : evC Try.prog ext T81 noL 200 (loopN Try.f85 0) (loopTail ([0, 3], []) [2] [] (sumK 16 [0, 3] [2] (q85l0 m))) (frameOf 16 [0, 3] [wsl 0, .int .i64 x0]) ⟨[⟨true, (some (.tab [.fl .f32] x1))⟩], 1, []⟩ = firstT ([((Nat.beq (r85l0 (m + 1) x0 x1) 0), .ret, [.bool false], ⟨[⟨true, (some (.tab [.fl .f32] x1))⟩], 1, []⟩), ((Nat.beq (r85l0 (m + 1) x0 x1) 1), .exit 0, [anyV], ⟨[⟨true, (some (.tab [.fl .f32] x1))⟩], 1, []⟩)].map fun (b, x) => (b, (x.1, frameOf 16 [2] x.2.1, x.2.2))) :=
 (show evC Try.prog ext T81 noL 200 (loopN Try.f85 0) (loopTail ([0, 3], []) [2] [] (sumK 16 [0, 3] [2] (q85l0 m))) (frameOf 16 [0, 3] [wsl 0, .int .i64 x0]) ⟨[⟨true, (some (.tab [.fl .f32] x1))⟩], 1, []⟩ = w85l0 (r85l0 m) x0 x1 from by kernel_rfl).trans
 (show w85l0 (r85l0 m) x0 x1 = a85l0 x0 x1 (r85l0 (m + 1) x0 x1) from by unfold w85l0; show _ = a85l0 x0 x1 (b85l0 (r85l0 m) x0 x1); unfold b85l0; exact (cond_both (a85l0 x0 x1) _ (fun h0 => (cond_both (a85l0 x0 x1) _ (fun h1 => (cond_t (ev_and2 h1) (cond_app (a85l0 x0 x1) _ rfl (v85l0 x0 x1 ((r85l0 m) (IntKind.i64.wrap (x0 + 1)) x1))))) (fun h1 => rfl))) (fun h0 => rfl)))
set_option maxRecDepth 100000 in
set_option maxHeartbeats 4000000 in
theorem qm85l0 : ∀ m, SumKOk Try.prog (loopN Try.f85 0) 16 [0, 3] [2] (q85l0 m) := by
  intro m
  induction m with
  | zero =>
    intro vals s x h1 h2 h3
    unfold q85l0 at h3; split at h3
    · rename_i h; split at h3
      · rename_i hc; obtain ⟨rfl⟩ := hc; exact absurd h3 (by simp [r85l0, firstT, Nat.beq])
      · exact noQ_ok _ _ _ h1 h2 h3
    · exact noQ_ok _ _ _ h1 h2 h3
  | succ m ih =>
    intro vals s x h1 h2 h3
    unfold q85l0 at h3; split at h3
    · rename_i h; split at h3
      · rename_i hc; obtain ⟨rfl⟩ := hc; exact sum_step ok81 extOk mixed ((lfOkF_no _ _).inner (by kernel_rfl)) ih h1 h2 h (e85l0 m _ _) rfl h3
      · exact noQ_ok _ _ _ h1 h2 h3
    · exact noQ_ok _ _ _ h1 h2 h3
noncomputable def Q85l0 : SumK := fun vals s => q85l0 (fuelOf vals s.h) vals s
theorem qok85l0 : SumKOk Try.prog (loopN Try.f85 0) 16 [0, 3] [2] Q85l0 := fuel_ok qm85l0 fuelOf
noncomputable def L85_1 : LoopT := addL noL 3 ([0, 3], []) (sumK 16 [0, 3] [2] Q85l0)
theorem lok85_1 : LfOkF Try.prog L85_1 Try.f85 := lfOkF_add (lfOkF_no _ _) qok85l0 (by kernel_rfl) (by kernel_rfl) (by kernel_rfl)

/-- spec.l03Finites -/
noncomputable def r85 (x0 : List (List Int)) : Nat × Bool :=
 cond (Nat.beq (r85l0 (1000 + x0.length) 0 x0) 0)
  (0, false)
  (cond (Nat.beq (r85l0 (1000 + x0.length) 0 x0) 1)
   (0, true)
   (1, false))
noncomputable def a85 (x0 : List (List Int)) (p : Nat × Bool) : Res := firstT [((Nat.beq (p.1) 0), .bool (p.2), ⟨[⟨true, (some (.tab [.fl .f32] x0))⟩], 1, []⟩)]
noncomputable def w85 (x0 : List (List Int)) : Res :=
 (cond (Nat.beq (r85l0 (1000 + x0.length) 0 x0) 0)
 (a85 x0 (0, false))
 (cond (Nat.beq (r85l0 (1000 + x0.length) 0 x0) 1)
  (a85 x0 (0, true))
  none))
set_option maxRecDepth 100000 in
set_option maxHeartbeats 4000000 in
theorem e85 (x0 : List (List Int)) : evFn Try.prog ext T81 L85_1 200 Try.f85 [wsl 0] ⟨[⟨true, (some (.tab [.fl .f32] x0))⟩], 1, []⟩ = firstT [((Nat.beq ((r85 x0).1) 0), .bool ((r85 x0).2), ⟨[⟨true, (some (.tab [.fl .f32] x0))⟩], 1, []⟩)] :=
 (show evFn Try.prog ext T81 L85_1 200 Try.f85 [wsl 0] ⟨[⟨true, (some (.tab [.fl .f32] x0))⟩], 1, []⟩ = w85 x0 from by kernel_rfl).trans
 (show w85 x0 = a85 x0 (r85 x0) from by unfold w85 r85; exact (cond_app (a85 x0) _ rfl (cond_app (a85 x0) _ rfl rfl)))
noncomputable def s85 (args : List Value) (s : St) : List (Bool × Value × St) :=
 match args, s.h with
 | [.iface f0 .nilIface], [⟨true, some (.tab [.fl .f32] x0)⟩] => if f0 = 0 then [((Nat.beq ((r85 x0).1) 0), .bool ((r85 x0).2), ⟨[⟨true, (some (.tab [.fl .f32] x0))⟩], 1, []⟩)] else T81 85 args s
 | _, _ => T81 85 args s
noncomputable def T82 : CallF := addF T81 85 s85
set_option maxRecDepth 100000 in
set_option maxHeartbeats 4000000 in
theorem ok82 : CfOk Try.prog T82 := by
  refine cfOk_add ok81 fun args s r s' h1 h2 h3 => ?_
  unfold s85 at h3; split at h3
  · rename_i h; split at h3
    · rename_i hc; obtain ⟨rfl⟩ := hc; exact callOk ok81 Try.func85 h1 h2 h lok85_1.body (e85 _) rfl h3
    · exact ok81 _ _ _ _ _ h1 h2 h3
  · exact ok81 _ _ _ _ _ h1 h2 h3

/-- spec.l03Abs -/
noncomputable def r65 (x0 : Nat) : Nat :=
 cond (flt .f32 x0 0 || feq .f32 x0 0)
  ((fsub .f32 0 x0))
  (x0)
noncomputable def a65 (x0 : Nat) (p : Nat) : Res := firstT [(true, .float .f32 p, st0)]
noncomputable def w65 (x0 : Nat) : Res :=
 (cond (flt .f32 x0 0 || feq .f32 x0 0)
 (a65 x0 ((fsub .f32 0 x0)))
 (a65 x0 (x0)))
set_option maxRecDepth 100000 in
set_option maxHeartbeats 4000000 in
theorem e65 (x0 : Nat) : evFn Try.prog ext T82 noL 200 Try.f65 [.float .f32 x0] st0 = firstT [(true, .float .f32 (r65 x0), st0)] :=
 (show evFn Try.prog ext T82 noL 200 Try.f65 [.float .f32 x0] st0 = w65 x0 from by kernel_rfl).trans
 (show w65 x0 = a65 x0 (r65 x0) from by unfold w65 r65; exact (cond_app (a65 x0) _ rfl rfl))
noncomputable def s65 (args : List Value) (s : St) : List (Bool × Value × St) :=
 match args, s.h with
 | [.float .f32 x0], [] => [(true, .float .f32 (r65 x0), st0)]
 | _, _ => T82 65 args s
noncomputable def T83 : CallF := addF T82 65 s65
set_option maxRecDepth 100000 in
set_option maxHeartbeats 4000000 in
theorem ok83 : CfOk Try.prog T83 := by
  refine cfOk_add ok82 fun args s r s' h1 h2 h3 => ?_
  unfold s65 at h3; split at h3
  · rename_i h; exact callOk ok82 Try.func65 h1 h2 h (lfOkF_no _ _).body (e65 _) rfl h3
  · exact ok82 _ _ _ _ _ h1 h2 h3

/-- spec.l03Held -/
noncomputable def r106 (x0 x1 x2 : Nat) : Nat :=
 cond (flt .f32 x0 x1)
  (x1)
  (cond (fgt .f32 x0 x2)
   (x2)
   (x0))
noncomputable def a106 (x0 x1 x2 : Nat) (p : Nat) : Res := firstT [(true, .float .f32 p, st0)]
noncomputable def w106 (x0 x1 x2 : Nat) : Res :=
 (cond (flt .f32 x0 x1)
 (a106 x0 x1 x2 (x1))
 (cond (fgt .f32 x0 x2)
  (a106 x0 x1 x2 (x2))
  (a106 x0 x1 x2 (x0))))
set_option maxRecDepth 100000 in
set_option maxHeartbeats 4000000 in
theorem e106 (x0 x1 x2 : Nat) : evFn Try.prog ext T83 noL 200 Try.f106 [.float .f32 x0, .float .f32 x1, .float .f32 x2] st0 = firstT [(true, .float .f32 (r106 x0 x1 x2), st0)] :=
 (show evFn Try.prog ext T83 noL 200 Try.f106 [.float .f32 x0, .float .f32 x1, .float .f32 x2] st0 = w106 x0 x1 x2 from by kernel_rfl).trans
 (show w106 x0 x1 x2 = a106 x0 x1 x2 (r106 x0 x1 x2) from by unfold w106 r106; exact (cond_app (a106 x0 x1 x2) _ rfl (cond_app (a106 x0 x1 x2) _ rfl rfl)))
noncomputable def s106 (args : List Value) (s : St) : List (Bool × Value × St) :=
 match args, s.h with
 | [.float .f32 x0, .float .f32 x1, .float .f32 x2], [] => [(true, .float .f32 (r106 x0 x1 x2), st0)]
 | _, _ => T83 106 args s
noncomputable def T84 : CallF := addF T83 106 s106
set_option maxRecDepth 100000 in
set_option maxHeartbeats 4000000 in
theorem ok84 : CfOk Try.prog T84 := by
  refine cfOk_add ok83 fun args s r s' h1 h2 h3 => ?_
  unfold s106 at h3; split at h3
  · rename_i h; exact callOk ok83 Try.func106 h1 h2 h (lfOkF_no _ _).body (e106 _ _ _) rfl h3
  · exact ok83 _ _ _ _ _ h1 h2 h3

/-- spec.l03Warm, loop 0: one round -/
noncomputable def b78l0 (ih : Nat → Nat → Int → List (List Int) → List (List Int) → List (List Int) → List (List Int) → (Nat × List (List Int) × List (List Int))) (x0 x1 : Nat) (x2 : Int) (x3 x4 x5 x6 : List (List Int)) : Nat × List (List Int) × List (List Int) :=
 let c542 := (r106 (fadd .f32 (fadd .f32 (Int.toNat ((x3.getD (Int.toNat x2) []).getD 2 0)) (fmul .f32 (fmul .f32 (fmul .f32 1056964608 (r65 (Int.toNat ((x4.getD (Int.toNat x2) []).getD 0 0)))) (fsub .f32 (Int.toNat ((x5.getD (Int.toNat x2) []).getD 0 0)) (Int.toNat ((x3.getD (Int.toNat x2) []).getD 2 0)))) x1)) (fmul .f32 (fmul .f32 1031798784 (fsub .f32 x0 (Int.toNat ((x3.getD (Int.toNat x2) []).getD 2 0)))) x1)) 3262119936 1153138688)
 cond (decide ((x2 : Int) < ((x6.length : Nat) : Int)))
  (cond ((decide ((0 : Int) ≤ x2)) && (Nat.blt (Int.toNat x2) x3.length))
   (cond ((decide ((0 : Int) ≤ x2)) && (Nat.blt (Int.toNat x2) x4.length))
    (cond ((decide ((0 : Int) ≤ x2)) && (Nat.blt (Int.toNat x2) x5.length))
     (cond ((decide ((0 : Int) ≤ x2)) && (Nat.blt (Int.toNat x2) x6.length))
      (cond ((decide ((0 : Int) ≤ x2)) && (Nat.blt (Int.toNat x2) ((x6.modify (Int.toNat x2) (fun r => spl 5 r 2 [((c542 : Nat) : Int)])).length)))
       (cond (!feq .f32 (Int.toNat (((x6.modify (Int.toNat x2) (fun r => spl 5 r 2 [((c542 : Nat) : Int)])).getD (Int.toNat x2) []).getD 2 0)) (Int.toNat (((x6.modify (Int.toNat x2) (fun r => spl 5 r 2 [((c542 : Nat) : Int)])).getD (Int.toNat x2) []).getD 2 0)))
        (0, (x6.modify (Int.toNat x2) (fun r => spl 5 r 2 [((c542 : Nat) : Int)])), [])
        (ih x0 x1 (IntKind.i64.wrap (x2 + 1)) x3 x4 x5 (x6.modify (Int.toNat x2) (fun r => spl 5 r 2 [((c542 : Nat) : Int)]))))
       (2, [], []))
      (2, [], []))
     (2, [], []))
    (2, [], []))
   (2, [], []))
  (1, [], x6)
noncomputable def r78l0 : Nat → Nat → Nat → Int → List (List Int) → List (List Int) → List (List Int) → List (List Int) → (Nat × List (List Int) × List (List Int))
 | 0 => fun _ _ _ _ _ _ _ => (2, [], [])
 | m + 1 => b78l0 (r78l0 m)
noncomputable def a78l0 (x0 x1 : Nat) (x2 : Int) (x3 x4 x5 x6 : List (List Int)) (p : Nat × List (List Int) × List (List Int)) : Option (Fin' × List Value × St) := firstT ([((Nat.beq (p.1) 0), .ret, [wsl 4, wsl 5, .int .i64 4, wsl 1, wsl 3], ⟨[⟨true, (some (.tab sc0 x3))⟩, ⟨true, (some (.tab [.fl .f32] x4))⟩, ⟨true, (some (.tab [.fl .f32] x5))⟩, ⟨true, (some (.tab sc0 (p.2.1)))⟩, ⟨true, (some (.tab sc0 ([] : List (List Int))))⟩, ⟨true, (some (.tab [.fl .f32] ([] : List (List Int))))⟩], 4, [3]⟩), ((Nat.beq (p.1) 1), .exit 0, [anyV, anyV, anyV, wsl 1, wsl 3], ⟨[⟨true, (some (.tab sc0 x3))⟩, ⟨true, (some (.tab [.fl .f32] x4))⟩, ⟨true, (some (.tab [.fl .f32] x5))⟩, ⟨true, (some (.tab sc0 (p.2.2)))⟩], 4, [3]⟩)].map fun (b, x) => (b, (x.1, frameOf 103 [10, 11, 12, 13, 16] x.2.1, x.2.2)))
noncomputable def u78l0 (x0 x1 : Nat) (x2 : Int) (x3 x4 x5 x6 : List (List Int)) (p : Nat × List (List Int) × List (List Int)) : Option (Fin' × List Value × St) := alts ([((Nat.beq (p.1) 0), .ret, [wsl 4, wsl 5, .int .i64 4, wsl 1, wsl 3], ⟨[⟨true, (some (.tab sc0 x3))⟩, ⟨true, (some (.tab [.fl .f32] x4))⟩, ⟨true, (some (.tab [.fl .f32] x5))⟩, ⟨true, (some (.tab sc0 (p.2.1)))⟩, ⟨true, (some (.tab sc0 ([] : List (List Int))))⟩, ⟨true, (some (.tab [.fl .f32] ([] : List (List Int))))⟩], 4, [3]⟩), ((Nat.beq (p.1) 1), .exit 0, [anyV, anyV, anyV, wsl 1, wsl 3], ⟨[⟨true, (some (.tab sc0 x3))⟩, ⟨true, (some (.tab [.fl .f32] x4))⟩, ⟨true, (some (.tab [.fl .f32] x5))⟩, ⟨true, (some (.tab sc0 (p.2.2)))⟩], 4, [3]⟩)].map fun (b, x) => (b, (x.1, frameOf 103 [10, 11, 12, 13, 16] x.2.1, x.2.2))) some
theorem v78l0 (x0 x1 : Nat) (x2 : Int) (x3 x4 x5 x6 : List (List Int)) (p : Nat × List (List Int) × List (List Int)) : u78l0 x0 x1 x2 x3 x4 x5 x6 p = a78l0 x0 x1 x2 x3 x4 x5 x6 p := alts_first _
noncomputable def q78l0 (m : Nat) : SumK := fun vals s =>
 match vals, s.h with
 | [.iface f0 .nilIface, .float .f32 x0, .float .f32 x1, .iface f1 .nilIface, .iface f2 .nilIface, .iface f3 .nilIface, .int .i64 x2], [⟨true, some (.tab [.fl .f32, .fl .f32, .fl .f32, .fl .f32, .int .i64] x3)⟩, ⟨true, some (.tab [.fl .f32] x4)⟩, ⟨true, some (.tab [.fl .f32] x5)⟩, ⟨true, some (.tab [.fl .f32, .fl .f32, .fl .f32, .fl .f32, .int .i64] x6)⟩] => if f0 = 0 ∧ f1 = 1 ∧ f2 = 2 ∧ f3 = 3 then [((Nat.beq ((r78l0 m x0 x1 x2 x3 x4 x5 x6).1) 0), .ret, [wsl 4, wsl 5, .int .i64 4, wsl 1, wsl 3], ⟨[⟨true, (some (.tab sc0 x3))⟩, ⟨true, (some (.tab [.fl .f32] x4))⟩, ⟨true, (some (.tab [.fl .f32] x5))⟩, ⟨true, (some (.tab sc0 ((r78l0 m x0 x1 x2 x3 x4 x5 x6).2.1)))⟩, ⟨true, (some (.tab sc0 ([] : List (List Int))))⟩, ⟨true, (some (.tab [.fl .f32] ([] : List (List Int))))⟩], 4, [3]⟩), ((Nat.beq ((r78l0 m x0 x1 x2 x3 x4 x5 x6).1) 1), .exit 0, [anyV, anyV, anyV, wsl 1, wsl 3], ⟨[⟨true, (some (.tab sc0 x3))⟩, ⟨true, (some (.tab [.fl .f32] x4))⟩, ⟨true, (some (.tab [.fl .f32] x5))⟩, ⟨true, (some (.tab sc0 ((r78l0 m x0 x1 x2 x3 x4 x5 x6).2.2)))⟩], 4, [3]⟩)] else noQ vals s
 | _, _ => noQ vals s
noncomputable def w78l0 (ih : Nat → Nat → Int → List (List Int) → List (List Int) → List (List Int) → List (List Int) → (Nat × List (List Int) × List (List Int))) (x0 x1 : Nat) (x2 : Int) (x3 x4 x5 x6 : List (List Int)) : Option (Fin' × List Value × St) :=
 let c542 := (r106 (fadd .f32 (fadd .f32 (Int.toNat ((x3.getD (Int.toNat x2) []).getD 2 0)) (fmul .f32 (fmul .f32 (fmul .f32 1056964608 (r65 (Int.toNat ((x4.getD (Int.toNat x2) []).getD 0 0)))) (fsub .f32 (Int.toNat ((x5.getD (Int.toNat x2) []).getD 0 0)) (Int.toNat ((x3.getD (Int.toNat x2) []).getD 2 0)))) x1)) (fmul .f32 (fmul .f32 1031798784 (fsub .f32 x0 (Int.toNat ((x3.getD (Int.toNat x2) []).getD 2 0)))) x1)) 3262119936 1153138688)
 (cond (decide ((x2 : Int) < ((x6.length : Nat) : Int)))
 (cond ((decide ((0 : Int) ≤ x2)) && (Nat.blt (Int.toNat x2) x3.length))
  (cond (Nat.blt (Int.toNat x2) x3.length)
   (cond ((decide ((0 : Int) ≤ x2)) && (Nat.blt (Int.toNat x2) x4.length))
    (cond (Nat.blt (Int.toNat x2) x4.length)
     (cond ((decide ((0 : Int) ≤ x2)) && (Nat.blt (Int.toNat x2) x5.length))
      (cond (Nat.blt (Int.toNat x2) x5.length)
       (cond ((decide ((0 : Int) ≤ x2)) && (Nat.blt (Int.toNat x2) x6.length))
        (cond (Nat.blt (Int.toNat x2) x6.length)
         (cond ((decide ((0 : Int) ≤ x2)) && (Nat.blt (Int.toNat x2) ((x6.modify (Int.toNat x2) (fun r => spl 5 r 2 [((c542 : Nat) : Int)])).length)))
          (cond (Nat.blt (Int.toNat x2) ((x6.modify (Int.toNat x2) (fun r => spl 5 r 2 [((c542 : Nat) : Int)])).length))
           (cond ((decide ((0 : Int) ≤ x2)) && (Nat.blt (Int.toNat x2) ((x6.modify (Int.toNat x2) (fun r => spl 5 r 2 [((c542 : Nat) : Int)])).length)))
            (cond (Nat.blt (Int.toNat x2) ((x6.modify (Int.toNat x2) (fun r => spl 5 r 2 [((c542 : Nat) : Int)])).length))
             (cond (!feq .f32 (Int.toNat (((x6.modify (Int.toNat x2) (fun r => spl 5 r 2 [((c542 : Nat) : Int)])).getD (Int.toNat x2) []).getD 2 0)) (Int.toNat (((x6.modify (Int.toNat x2) (fun r => spl 5 r 2 [((c542 : Nat) : Int)])).getD (Int.toNat x2) []).getD 2 0)))
              (a78l0 x0 x1 x2 x3 x4 x5 x6 (0, (x6.modify (Int.toNat x2) (fun r => spl 5 r 2 [((c542 : Nat) : Int)])), []))
              (u78l0 x0 x1 x2 x3 x4 x5 x6 (ih x0 x1 (IntKind.i64.wrap (x2 + 1)) x3 x4 x5 (x6.modify (Int.toNat x2) (fun r => spl 5 r 2 [((c542 : Nat) : Int)])))))
             none)
            none)
           none)
          none)
         none)
        none)
       none)
      none)
     none)
    none)
   none)
  none)
 (a78l0 x0 x1 x2 x3 x4 x5 x6 (1, [], x6)))
set_option maxRecDepth 100000 in
set_option maxHeartbeats 4000000 in
theorem e78l0 (m : Nat) (x0 x1 : Nat) (x2 : Int) (x3 x4 x5 x6 : List (List Int)) : evC Try.prog ext T84 noL 200 (loopN Try.f78 0) (loopTail ([0, 2, 4, 13, 15, 16, 17], []) [10, 11, 12, 13, 16] [3] (sumK 103 [0, 2, 4, 13, 15, 16, 17] [10, 11, 12, 13, 16] (q78l0 m))) (frameOf 103 [0, 2, 4, 13, 15, 16, 17] [wsl 0, .float .f32 x0, .float .f32 x1, wsl 1, wsl 2, wsl 3, .int .i64 x2]) ⟨[⟨true, (some (.tab sc0 x3))⟩, ⟨true, (some (.tab [.fl .f32] x4))⟩, ⟨true, (some (.tab [.fl .f32] x5))⟩, ⟨true, (some (.tab sc0 x6))⟩], 4, []⟩ = firstT ([((Nat.beq ((r78l0 (m + 1) x0 x1 x2 x3 x4 x5 x6).1) 0), .ret, [wsl 4, wsl 5, .int .i64 4, wsl 1, wsl 3], ⟨[⟨true, (some (.tab sc0 x3))⟩, ⟨true, (some (.tab [.fl .f32] x4))⟩, ⟨true, (some (.tab [.fl .f32] x5))⟩, ⟨true, (some (.tab sc0 ((r78l0 (m + 1) x0 x1 x2 x3 x4 x5 x6).2.1)))⟩, ⟨true, (some (.tab sc0 ([] : List (List Int))))⟩, ⟨true, (some (.tab [.fl .f32] ([] : List (List Int))))⟩], 4, [3]⟩), ((Nat.beq ((r78l0 (m + 1) x0 x1 x2 x3 x4 x5 x6).1) 1), .exit 0, [anyV, anyV, anyV, wsl 1, wsl 3], ⟨[⟨true, (some (.tab sc0 x3))⟩, ⟨true, (some (.tab [.fl .f32] x4))⟩, ⟨true, (some (.tab [.fl .f32] x5))⟩, ⟨true, (some (.tab sc0 ((r78l0 (m + 1) x0 x1 x2 x3 x4 x5 x6).2.2)))⟩], 4, [3]⟩)].map fun (b, x) => (b, (x.1, frameOf 103 [10, 11, 12, 13, 16] x.2.1, x.2.2))) :=
 (show evC Try.prog ext T84 noL 200 (loopN Try.f78 0) (loopTail ([0, 2, 4, 13, 15, 16, 17], []) [10, 11, 12, 13, 16] [3] (sumK 103 [0, 2, 4, 13, 15, 16, 17] [10, 11, 12, 13, 16] (q78l0 m))) (frameOf 103 [0, 2, 4, 13, 15, 16, 17] [wsl 0, .float .f32 x0, .float .f32 x1, wsl 1, wsl 2, wsl 3, .int .i64 x2]) ⟨[⟨true, (some (.tab sc0 x3))⟩, ⟨true, (some (.tab [.fl .f32] x4))⟩, ⟨true, (some (.tab [.fl .f32] x5))⟩, ⟨true, (some (.tab sc0 x6))⟩], 4, []⟩ = w78l0 (r78l0 m) x0 x1 x2 x3 x4 x5 x6 from by kernel_rfl).trans
 (show w78l0 (r78l0 m) x0 x1 x2 x3 x4 x5 x6 = a78l0 x0 x1 x2 x3 x4 x5 x6 (r78l0 (m + 1) x0 x1 x2 x3 x4 x5 x6) from by unfold w78l0; show _ = a78l0 x0 x1 x2 x3 x4 x5 x6 (b78l0 (r78l0 m) x0 x1 x2 x3 x4 x5 x6); unfold b78l0; exact (cond_both (a78l0 x0 x1 x2 x3 x4 x5 x6) _ (fun h0 => (cond_both (a78l0 x0 x1 x2 x3 x4 x5 x6) _ (fun h1 => (cond_t (ev_and2 h1) (cond_both (a78l0 x0 x1 x2 x3 x4 x5 x6) _ (fun h2 => (cond_t (ev_and2 h2) (cond_both (a78l0 x0 x1 x2 x3 x4 x5 x6) _ (fun h3 => (cond_t (ev_and2 h3) (cond_both (a78l0 x0 x1 x2 x3 x4 x5 x6) _ (fun h4 => (cond_t (ev_and2 h4) (cond_both (a78l0 x0 x1 x2 x3 x4 x5 x6) _ (fun h5 => (cond_t (ev_and2 h5) (cond_t h5 (cond_t (ev_and2 h5) (cond_app (a78l0 x0 x1 x2 x3 x4 x5 x6) _ rfl (v78l0 x0 x1 x2 x3 x4 x5 x6 ((r78l0 m) x0 x1 (IntKind.i64.wrap (x2 + 1)) x3 x4 x5 (x6.modify (Int.toNat x2) (fun r => spl 5 r 2 [(((r106 (fadd .f32 (fadd .f32 (Int.toNat ((x3.getD (Int.toNat x2) []).getD 2 0)) (fmul .f32 (fmul .f32 (fmul .f32 1056964608 (r65 (Int.toNat ((x4.getD (Int.toNat x2) []).getD 0 0)))) (fsub .f32 (Int.toNat ((x5.getD (Int.toNat x2) []).getD 0 0)) (Int.toNat ((x3.getD (Int.toNat x2) []).getD 2 0)))) x1)) (fmul .f32 (fmul .f32 1031798784 (fsub .f32 x0 (Int.toNat ((x3.getD (Int.toNat x2) []).getD 2 0)))) x1)) 3262119936 1153138688) : Nat) : Int)]))))))))) (fun h5 => rfl)))) (fun h4 => rfl)))) (fun h3 => rfl)))) (fun h2 => rfl)))) (fun h1 => rfl))) (fun h0 => rfl)))
set_option maxRecDepth 100000 in
set_option maxHeartbeats 4000000 in
theorem qm78l0 : ∀ m, SumKOk Try.prog (loopN Try.f78 0) 103 [0, 2, 4, 13, 15, 16, 17] [10, 11, 12, 13, 16] (q78l0 m) := by
  intro m
  induction m with
  | zero =>
    intro vals s x h1 h2 h3
    unfold q78l0 at h3; split at h3
    · rename_i h; split at h3
      · rename_i hc; obtain ⟨rfl, rfl, rfl, rfl⟩ := hc; exact absurd h3 (by simp [r78l0, firstT, Nat.beq])
      · exact noQ_ok _ _ _ h1 h2 h3
    · exact noQ_ok _ _ _ h1 h2 h3
  | succ m ih =>
    intro vals s x h1 h2 h3
    unfold q78l0 at h3; split at h3
    · rename_i h; split at h3
      · rename_i hc; obtain ⟨rfl, rfl, rfl, rfl⟩ := hc; exact sum_step ok84 extOk mixed ((lfOkF_no _ _).inner (by kernel_rfl)) ih h1 h2 h (e78l0 m _ _ _ _ _ _ _) rfl h3
      · exact noQ_ok _ _ _ h1 h2 h3
    · exact noQ_ok _ _ _ h1 h2 h3
noncomputable def Q78l0 : SumK := fun vals s => q78l0 (fuelOf vals s.h) vals s
theorem qok78l0 : SumKOk Try.prog (loopN Try.f78 0) 103 [0, 2, 4, 13, 15, 16, 17] [10, 11, 12, 13, 16] Q78l0 := fuel_ok qm78l0 fuelOf
noncomputable def L78_1 : LoopT := addL noL 10 ([0, 2, 4, 13, 15, 16, 17], []) (sumK 103 [0, 2, 4, 13, 15, 16, 17] [10, 11, 12, 13, 16] Q78l0)
theorem lok78_1 : LfOkF Try.prog L78_1 Try.f78 := lfOkF_add (lfOkF_no _ _) qok78l0 (by kernel_rfl) (by kernel_rfl) (by kernel_rfl)

/-- spec.l03Warm -/
noncomputable def r78 (x0 x1 x2 : Nat) (x3 x4 : List (List Int)) : Nat × Int × List (List Int) × List (List Int) :=
 let c543 := (r78l0 (1000 + (([] : List (List Int)) ++ x3).length + ((r86 x0 x3 x4 ((r58 x0 x1 x3).2.2)).2).length + ((r58 x0 x1 x3).2.2).length + x3.length) x0 x2 0 x3 ((r58 x0 x1 x3).2.2) ((r86 x0 x3 x4 ((r58 x0 x1 x3).2.2)).2) (([] : List (List Int)) ++ x3))
 cond (Nat.beq ((r58 x0 x1 x3).1) 0)
  (cond ((((r58 x0 x1 x3).2.1) : Int) != 0)
   (0, ((r58 x0 x1 x3).2.1), ([] : List (List Int)), ([] : List (List Int)))
   (cond (Nat.beq ((r86 x0 x3 x4 ((r58 x0 x1 x3).2.2)).1) 0)
    (cond (Nat.beq ((r85 ((r86 x0 x3 x4 ((r58 x0 x1 x3).2.2)).2)).1) 0)
     (cond (!((r85 ((r86 x0 x3 x4 ((r58 x0 x1 x3).2.2)).2)).2))
      (0, 4, ([] : List (List Int)), ([] : List (List Int)))
      (cond (Nat.ble ((0 + x3.length) * 25) 140737488355328)
       (cond (Nat.beq (c543.1) 0)
        (0, 4, ([] : List (List Int)), ([] : List (List Int)))
        (cond (Nat.beq (c543.1) 1)
         (0, 0, (c543.2.2), ((r58 x0 x1 x3).2.2))
         (1, 0, [], [])))
       (1, 0, [], [])))
     (1, 0, [], []))
    (1, 0, [], [])))
  (1, 0, [], [])
noncomputable def a78 (x0 x1 x2 : Nat) (x3 x4 : List (List Int)) (p : Nat × Int × List (List Int) × List (List Int)) : Res := firstT [((Nat.beq (p.1) 0), .tuple #[wsl 2, wsl 3, .int .i64 (p.2.1)], ⟨[⟨true, (some (.tab sc0 x3))⟩, ⟨true, (some (.tab [.fl .f32] x4))⟩, ⟨true, (some (.tab sc0 (p.2.2.1)))⟩, ⟨true, (some (.tab [.fl .f32] (p.2.2.2)))⟩], 2, []⟩)]
noncomputable def w78 (x0 x1 x2 : Nat) (x3 x4 : List (List Int)) : Res :=
 let c543 := (r78l0 (1000 + (([] : List (List Int)) ++ x3).length + ((r86 x0 x3 x4 ((r58 x0 x1 x3).2.2)).2).length + ((r58 x0 x1 x3).2.2).length + x3.length) x0 x2 0 x3 ((r58 x0 x1 x3).2.2) ((r86 x0 x3 x4 ((r58 x0 x1 x3).2.2)).2) (([] : List (List Int)) ++ x3))
 (cond (Nat.beq ((r58 x0 x1 x3).1) 0)
 (cond ((((r58 x0 x1 x3).2.1) : Int) != 0)
  (a78 x0 x1 x2 x3 x4 (0, ((r58 x0 x1 x3).2.1), ([] : List (List Int)), ([] : List (List Int))))
  (cond (Nat.beq ((r86 x0 x3 x4 ((r58 x0 x1 x3).2.2)).1) 0)
   (cond (Nat.beq ((r85 ((r86 x0 x3 x4 ((r58 x0 x1 x3).2.2)).2)).1) 0)
    (cond (!((r85 ((r86 x0 x3 x4 ((r58 x0 x1 x3).2.2)).2)).2))
     (a78 x0 x1 x2 x3 x4 (0, 4, ([] : List (List Int)), ([] : List (List Int))))
     (cond (Nat.ble ((0 + x3.length) * 25) 140737488355328)
      (cond (Nat.beq (c543.1) 0)
       (a78 x0 x1 x2 x3 x4 (0, 4, ([] : List (List Int)), ([] : List (List Int))))
       (cond (Nat.beq (c543.1) 1)
        (a78 x0 x1 x2 x3 x4 (0, 0, (c543.2.2), ((r58 x0 x1 x3).2.2)))
        none))
      none))
    none)
   none))
 none)
set_option maxRecDepth 100000 in
set_option maxHeartbeats 4000000 in
theorem e78 (x0 x1 x2 : Nat) (x3 x4 : List (List Int)) : evFn Try.prog ext T84 L78_1 200 Try.f78 [wsl 0, wsl 1, .float .f32 x0, .float .f32 x1, .float .f32 x2] ⟨[⟨true, (some (.tab sc0 x3))⟩, ⟨true, (some (.tab [.fl .f32] x4))⟩], 2, []⟩ = firstT [((Nat.beq ((r78 x0 x1 x2 x3 x4).1) 0), .tuple #[wsl 2, wsl 3, .int .i64 ((r78 x0 x1 x2 x3 x4).2.1)], ⟨[⟨true, (some (.tab sc0 x3))⟩, ⟨true, (some (.tab [.fl .f32] x4))⟩, ⟨true, (some (.tab sc0 ((r78 x0 x1 x2 x3 x4).2.2.1)))⟩, ⟨true, (some (.tab [.fl .f32] ((r78 x0 x1 x2 x3 x4).2.2.2)))⟩], 2, []⟩)] :=
 (show evFn Try.prog ext T84 L78_1 200 Try.f78 [wsl 0, wsl 1, .float .f32 x0, .float .f32 x1, .float .f32 x2] ⟨[⟨true, (some (.tab sc0 x3))⟩, ⟨true, (some (.tab [.fl .f32] x4))⟩], 2, []⟩ = w78 x0 x1 x2 x3 x4 from by kernel_rfl).trans
 (show w78 x0 x1 x2 x3 x4 = a78 x0 x1 x2 x3 x4 (r78 x0 x1 x2 x3 x4) from by unfold w78 r78; exact (cond_app (a78 x0 x1 x2 x3 x4) _ (cond_app (a78 x0 x1 x2 x3 x4) _ rfl (cond_app (a78 x0 x1 x2 x3 x4) _ (cond_app (a78 x0 x1 x2 x3 x4) _ (cond_app (a78 x0 x1 x2 x3 x4) _ rfl (cond_app (a78 x0 x1 x2 x3 x4) _ (cond_app (a78 x0 x1 x2 x3 x4) _ rfl (cond_app (a78 x0 x1 x2 x3 x4) _ rfl rfl)) rfl)) rfl) rfl)) rfl))
noncomputable def s78 (args : List Value) (s : St) : List (Bool × Value × St) :=
 match args, s.h with
 | [.iface f0 .nilIface, .iface f1 .nilIface, .float .f32 x0, .float .f32 x1, .float .f32 x2], [⟨true, some (.tab [.fl .f32, .fl .f32, .fl .f32, .fl .f32, .int .i64] x3)⟩, ⟨true, some (.tab [.fl .f32] x4)⟩] => if f0 = 0 ∧ f1 = 1 then [((Nat.beq ((r78 x0 x1 x2 x3 x4).1) 0), .tuple #[wsl 2, wsl 3, .int .i64 ((r78 x0 x1 x2 x3 x4).2.1)], ⟨[⟨true, (some (.tab sc0 x3))⟩, ⟨true, (some (.tab [.fl .f32] x4))⟩, ⟨true, (some (.tab sc0 ((r78 x0 x1 x2 x3 x4).2.2.1)))⟩, ⟨true, (some (.tab [.fl .f32] ((r78 x0 x1 x2 x3 x4).2.2.2)))⟩], 2, []⟩)] else T84 78 args s
 | _, _ => T84 78 args s
noncomputable def T85 : CallF := addF T84 78 s78
set_option maxRecDepth 100000 in
set_option maxHeartbeats 4000000 in
theorem ok85 : CfOk Try.prog T85 := by
  refine cfOk_add ok84 fun args s r s' h1 h2 h3 => ?_
  unfold s78 at h3; split at h3
  · rename_i h; split at h3
    · rename_i hc; obtain ⟨rfl, rfl⟩ := hc; exact callOk ok84 Try.func78 h1 h2 h lok78_1.body (e78 _ _ _ _ _) rfl h3
    · exact ok84 _ _ _ _ _ h1 h2 h3
  · exact ok84 _ _ _ _ _ h1 h2 h3

/-- spec.StepsToDraw, loop 0: one round -/
noncomputable def b41l0 (ih : Nat → Nat → Nat → Int → Int → List (List Int) → List (List Int) → (Nat × Int × Int)) (x0 x1 x2 : Nat) (x3 x4 : Int) (x5 x6 : List (List Int)) : Nat × Int × Int :=
 cond (Nat.beq ((r58 x0 x1 x5).1) 0)
  (cond ((((r58 x0 x1 x5).2.1) : Int) != 0)
   (0, 0, ((r58 x0 x1 x5).2.1))
   (cond (Nat.beq ((r76 ((r58 x0 x1 x5).2.2)).1) 0)
    (cond ((((((r76 ((r58 x0 x1 x5).2.2)).2).length : Nat) : Int) : Int) == 0)
     (0, x4, 0)
     (cond ((x4 : Int) == x3)
      (0, 0, 7)
      (cond (Nat.beq ((r78 x0 x1 x2 x5 x6).1) 0)
       (cond ((((r78 x0 x1 x2 x5 x6).2.1) : Int) != 0)
        (0, 0, ((r78 x0 x1 x2 x5 x6).2.1))
        (ih x0 x1 x2 x3 (IntKind.i64.wrap (x4 + 1)) ((r78 x0 x1 x2 x5 x6).2.2.1) x6))
       (1, 0, 0))))
    (1, 0, 0)))
  (1, 0, 0)
noncomputable def r41l0 : Nat → Nat → Nat → Nat → Int → Int → List (List Int) → List (List Int) → (Nat × Int × Int)
 | 0 => fun _ _ _ _ _ _ _ => (1, 0, 0)
 | m + 1 => b41l0 (r41l0 m)
noncomputable def a41l0 (x0 x1 x2 : Nat) (x3 x4 : Int) (x5 x6 : List (List Int)) (p : Nat × Int × Int) : Option (Fin' × List Value × St) := firstT ([((Nat.beq (p.1) 0), .ret, [.int .i64 (p.2.1), .int .i64 (p.2.2)], ⟨[⟨true, (some (.tab sc0 x5))⟩, ⟨true, (some (.tab [.fl .f32] x6))⟩], 2, []⟩)].map fun (b, x) => (b, (x.1, frameOf 67 [12, 13] x.2.1, x.2.2)))
noncomputable def u41l0 (x0 x1 x2 : Nat) (x3 x4 : Int) (x5 x6 : List (List Int)) (p : Nat × Int × Int) : Option (Fin' × List Value × St) := alts ([((Nat.beq (p.1) 0), .ret, [.int .i64 (p.2.1), .int .i64 (p.2.2)], ⟨[⟨true, (some (.tab sc0 x5))⟩, ⟨true, (some (.tab [.fl .f32] x6))⟩], 2, []⟩)].map fun (b, x) => (b, (x.1, frameOf 67 [12, 13] x.2.1, x.2.2))) some
theorem v41l0 (x0 x1 x2 : Nat) (x3 x4 : Int) (x5 x6 : List (List Int)) (p : Nat × Int × Int) : u41l0 x0 x1 x2 x3 x4 x5 x6 p = a41l0 x0 x1 x2 x3 x4 x5 x6 p := alts_first _
noncomputable def q41l0 (m : Nat) : SumK := fun vals s =>
 match vals, s.h with
 | [.iface f0 .nilIface, .iface f1 .nilIface, .float .f32 x0, .float .f32 x1, .float .f32 x2, .int .i64 x3, .int .i64 x4], [⟨true, some (.tab [.fl .f32, .fl .f32, .fl .f32, .fl .f32, .int .i64] x5)⟩, ⟨true, some (.tab [.fl .f32] x6)⟩] => if f0 = 0 ∧ f1 = 1 then [((Nat.beq ((r41l0 m x0 x1 x2 x3 x4 x5 x6).1) 0), .ret, [.int .i64 ((r41l0 m x0 x1 x2 x3 x4 x5 x6).2.1), .int .i64 ((r41l0 m x0 x1 x2 x3 x4 x5 x6).2.2)], ⟨[⟨true, (some (.tab sc0 x5))⟩, ⟨true, (some (.tab [.fl .f32] x6))⟩], 2, []⟩)] else noQ vals s
 | _, _ => noQ vals s
noncomputable def w41l0 (ih : Nat → Nat → Nat → Int → Int → List (List Int) → List (List Int) → (Nat × Int × Int)) (x0 x1 x2 : Nat) (x3 x4 : Int) (x5 x6 : List (List Int)) : Option (Fin' × List Value × St) :=
 (cond (Nat.beq ((r58 x0 x1 x5).1) 0)
 (cond ((((r58 x0 x1 x5).2.1) : Int) != 0)
  (a41l0 x0 x1 x2 x3 x4 x5 x6 (0, 0, ((r58 x0 x1 x5).2.1)))
  (cond (Nat.beq ((r76 ((r58 x0 x1 x5).2.2)).1) 0)
   (cond ((((((r76 ((r58 x0 x1 x5).2.2)).2).length : Nat) : Int) : Int) == 0)
    (a41l0 x0 x1 x2 x3 x4 x5 x6 (0, x4, 0))
    (cond ((x4 : Int) == x3)
     (a41l0 x0 x1 x2 x3 x4 x5 x6 (0, 0, 7))
     (cond (Nat.beq ((r78 x0 x1 x2 x5 x6).1) 0)
      (cond ((((r78 x0 x1 x2 x5 x6).2.1) : Int) != 0)
       (a41l0 x0 x1 x2 x3 x4 x5 x6 (0, 0, ((r78 x0 x1 x2 x5 x6).2.1)))
       (u41l0 x0 x1 x2 x3 x4 x5 x6 (ih x0 x1 x2 x3 (IntKind.i64.wrap (x4 + 1)) ((r78 x0 x1 x2 x5 x6).2.2.1) x6)))
      none)))
   none))
 none)
set_option maxRecDepth 100000 in
set_option maxHeartbeats 4000000 in
theorem e41l0 (m : Nat) (x0 x1 x2 : Nat) (x3 x4 : Int) (x5 x6 : List (List Int)) : evC Try.prog ext T85 noL 200 (loopN Try.f41 0) (loopTail ([0, 1, 2, 3, 4, 5, 15], []) [12, 13] [] (sumK 67 [0, 1, 2, 3, 4, 5, 15] [12, 13] (q41l0 m))) (frameOf 67 [0, 1, 2, 3, 4, 5, 15] [wsl 0, wsl 1, .float .f32 x0, .float .f32 x1, .float .f32 x2, .int .i64 x3, .int .i64 x4]) ⟨[⟨true, (some (.tab sc0 x5))⟩, ⟨true, (some (.tab [.fl .f32] x6))⟩], 2, []⟩ = firstT ([((Nat.beq ((r41l0 (m + 1) x0 x1 x2 x3 x4 x5 x6).1) 0), .ret, [.int .i64 ((r41l0 (m + 1) x0 x1 x2 x3 x4 x5 x6).2.1), .int .i64 ((r41l0 (m + 1) x0 x1 x2 x3 x4 x5 x6).2.2)], ⟨[⟨true, (some (.tab sc0 x5))⟩, ⟨true, (some (.tab [.fl .f32] x6))⟩], 2, []⟩)].map fun (b, x) => (b, (x.1, frameOf 67 [12, 13] x.2.1, x.2.2))) :=
 (show evC Try.prog ext T85 noL 200 (loopN Try.f41 0) (loopTail ([0, 1, 2, 3, 4, 5, 15], []) [12, 13] [] (sumK 67 [0, 1, 2, 3, 4, 5, 15] [12, 13] (q41l0 m))) (frameOf 67 [0, 1, 2, 3, 4, 5, 15] [wsl 0, wsl 1, .float .f32 x0, .float .f32 x1, .float .f32 x2, .int .i64 x3, .int .i64 x4]) ⟨[⟨true, (some (.tab sc0 x5))⟩, ⟨true, (some (.tab [.fl .f32] x6))⟩], 2, []⟩ = w41l0 (r41l0 m) x0 x1 x2 x3 x4 x5 x6 from by kernel_rfl).trans
 (show w41l0 (r41l0 m) x0 x1 x2 x3 x4 x5 x6 = a41l0 x0 x1 x2 x3 x4 x5 x6 (r41l0 (m + 1) x0 x1 x2 x3 x4 x5 x6) from by unfold w41l0; show _ = a41l0 x0 x1 x2 x3 x4 x5 x6 (b41l0 (r41l0 m) x0 x1 x2 x3 x4 x5 x6); unfold b41l0; exact (cond_app (a41l0 x0 x1 x2 x3 x4 x5 x6) _ (cond_app (a41l0 x0 x1 x2 x3 x4 x5 x6) _ rfl (cond_app (a41l0 x0 x1 x2 x3 x4 x5 x6) _ (cond_app (a41l0 x0 x1 x2 x3 x4 x5 x6) _ rfl (cond_app (a41l0 x0 x1 x2 x3 x4 x5 x6) _ rfl (cond_app (a41l0 x0 x1 x2 x3 x4 x5 x6) _ (cond_app (a41l0 x0 x1 x2 x3 x4 x5 x6) _ rfl (v41l0 x0 x1 x2 x3 x4 x5 x6 ((r41l0 m) x0 x1 x2 x3 (IntKind.i64.wrap (x4 + 1)) ((r78 x0 x1 x2 x5 x6).2.2.1) x6))) rfl))) rfl)) rfl))
set_option maxRecDepth 100000 in
set_option maxHeartbeats 4000000 in
theorem qm41l0 : ∀ m, SumKOk Try.prog (loopN Try.f41 0) 67 [0, 1, 2, 3, 4, 5, 15] [12, 13] (q41l0 m) := by
  intro m
  induction m with
  | zero =>
    intro vals s x h1 h2 h3
    unfold q41l0 at h3; split at h3
    · rename_i h; split at h3
      · rename_i hc; obtain ⟨rfl, rfl⟩ := hc; exact absurd h3 (by simp [r41l0, firstT, Nat.beq])
      · exact noQ_ok _ _ _ h1 h2 h3
    · exact noQ_ok _ _ _ h1 h2 h3
  | succ m ih =>
    intro vals s x h1 h2 h3
    unfold q41l0 at h3; split at h3
    · rename_i h; split at h3
      · rename_i hc; obtain ⟨rfl, rfl⟩ := hc; exact sum_step ok85 extOk mixed ((lfOkF_no _ _).inner (by kernel_rfl)) ih h1 h2 h (e41l0 m _ _ _ _ _ _ _) rfl h3
      · exact noQ_ok _ _ _ h1 h2 h3
    · exact noQ_ok _ _ _ h1 h2 h3
noncomputable def Q41l0 : SumK := fun vals s => q41l0 (fuelOf vals s.h) vals s
theorem qok41l0 : SumKOk Try.prog (loopN Try.f41 0) 67 [0, 1, 2, 3, 4, 5, 15] [12, 13] Q41l0 := fuel_ok qm41l0 fuelOf
noncomputable def L41_1 : LoopT := addL noL 9 ([0, 1, 2, 3, 4, 5, 15], []) (sumK 67 [0, 1, 2, 3, 4, 5, 15] [12, 13] Q41l0)
theorem lok41_1 : LfOkF Try.prog L41_1 Try.f41 := lfOkF_add (lfOkF_no _ _) qok41l0 (by kernel_rfl) (by kernel_rfl) (by kernel_rfl)

/-- spec.StepsToDraw -/
noncomputable def r41 (x0 x1 x2 : Nat) (x3 : Int) (x4 x5 : List (List Int)) : Nat × Int × Int :=
 cond (Nat.beq ((r77 x0 x1 x2 x4 x5).1) 0)
  (cond ((((r77 x0 x1 x2 x4 x5).2) : Int) != 0)
   (0, 0, ((r77 x0 x1 x2 x4 x5).2))
   (cond (!(r63 x3 0 200))
    (0, 0, 2)
    (cond (Nat.beq ((r41l0 (1000 + x5.length + x4.length) x0 x1 x2 x3 0 x4 x5).1) 0)
     (0, ((r41l0 (1000 + x5.length + x4.length) x0 x1 x2 x3 0 x4 x5).2.1), ((r41l0 (1000 + x5.length + x4.length) x0 x1 x2 x3 0 x4 x5).2.2))
     (1, 0, 0))))
  (1, 0, 0)
noncomputable def a41 (x0 x1 x2 : Nat) (x3 : Int) (x4 x5 : List (List Int)) (p : Nat × Int × Int) : Res := firstT [((Nat.beq (p.1) 0), .tuple #[.int .i64 (p.2.1), .int .i64 (p.2.2)], ⟨[⟨true, (some (.tab sc0 x4))⟩, ⟨true, (some (.tab [.fl .f32] x5))⟩], 2, []⟩)]
noncomputable def w41 (x0 x1 x2 : Nat) (x3 : Int) (x4 x5 : List (List Int)) : Res :=
 (cond (Nat.beq ((r77 x0 x1 x2 x4 x5).1) 0)
 (cond ((((r77 x0 x1 x2 x4 x5).2) : Int) != 0)
  (a41 x0 x1 x2 x3 x4 x5 (0, 0, ((r77 x0 x1 x2 x4 x5).2)))
  (cond (!(r63 x3 0 200))
   (a41 x0 x1 x2 x3 x4 x5 (0, 0, 2))
   (cond (Nat.beq ((r41l0 (1000 + x5.length + x4.length) x0 x1 x2 x3 0 x4 x5).1) 0)
    (a41 x0 x1 x2 x3 x4 x5 (0, ((r41l0 (1000 + x5.length + x4.length) x0 x1 x2 x3 0 x4 x5).2.1), ((r41l0 (1000 + x5.length + x4.length) x0 x1 x2 x3 0 x4 x5).2.2)))
    none)))
 none)
set_option maxRecDepth 100000 in
set_option maxHeartbeats 4000000 in
theorem e41 (x0 x1 x2 : Nat) (x3 : Int) (x4 x5 : List (List Int)) : evFn Try.prog ext T85 L41_1 200 Try.f41 [wsl 0, wsl 1, .float .f32 x0, .float .f32 x1, .float .f32 x2, .int .i64 x3] ⟨[⟨true, (some (.tab sc0 x4))⟩, ⟨true, (some (.tab [.fl .f32] x5))⟩], 2, []⟩ = firstT [((Nat.beq ((r41 x0 x1 x2 x3 x4 x5).1) 0), .tuple #[.int .i64 ((r41 x0 x1 x2 x3 x4 x5).2.1), .int .i64 ((r41 x0 x1 x2 x3 x4 x5).2.2)], ⟨[⟨true, (some (.tab sc0 x4))⟩, ⟨true, (some (.tab [.fl .f32] x5))⟩], 2, []⟩)] :=
 (show evFn Try.prog ext T85 L41_1 200 Try.f41 [wsl 0, wsl 1, .float .f32 x0, .float .f32 x1, .float .f32 x2, .int .i64 x3] ⟨[⟨true, (some (.tab sc0 x4))⟩, ⟨true, (some (.tab [.fl .f32] x5))⟩], 2, []⟩ = w41 x0 x1 x2 x3 x4 x5 from by kernel_rfl).trans
 (show w41 x0 x1 x2 x3 x4 x5 = a41 x0 x1 x2 x3 x4 x5 (r41 x0 x1 x2 x3 x4 x5) from by unfold w41 r41; exact (cond_app (a41 x0 x1 x2 x3 x4 x5) _ (cond_app (a41 x0 x1 x2 x3 x4 x5) _ rfl (cond_app (a41 x0 x1 x2 x3 x4 x5) _ rfl (cond_app (a41 x0 x1 x2 x3 x4 x5) _ rfl rfl))) rfl))
noncomputable def s41 (args : List Value) (s : St) : List (Bool × Value × St) :=
 match args, s.h with
 | [.iface f0 .nilIface, .iface f1 .nilIface, .float .f32 x0, .float .f32 x1, .float .f32 x2, .int .i64 x3], [⟨true, some (.tab [.fl .f32, .fl .f32, .fl .f32, .fl .f32, .int .i64] x4)⟩, ⟨true, some (.tab [.fl .f32] x5)⟩] => if f0 = 0 ∧ f1 = 1 then [((Nat.beq ((r41 x0 x1 x2 x3 x4 x5).1) 0), .tuple #[.int .i64 ((r41 x0 x1 x2 x3 x4 x5).2.1), .int .i64 ((r41 x0 x1 x2 x3 x4 x5).2.2)], ⟨[⟨true, (some (.tab sc0 x4))⟩, ⟨true, (some (.tab [.fl .f32] x5))⟩], 2, []⟩)] else T85 41 args s
 | _, _ => T85 41 args s
noncomputable def T86 : CallF := addF T85 41 s41
set_option maxRecDepth 100000 in
set_option maxHeartbeats 4000000 in
theorem ok86 : CfOk Try.prog T86 := by
  refine cfOk_add ok85 fun args s r s' h1 h2 h3 => ?_
  unfold s41 at h3; split at h3
  · rename_i h; split at h3
    · rename_i hc; obtain ⟨rfl, rfl⟩ := hc; exact callOk ok85 Try.func41 h1 h2 h lok41_1.body (e41 _ _ _ _ _ _) rfl h3
    · exact ok85 _ _ _ _ _ h1 h2 h3
  · exact ok85 _ _ _ _ _ h1 h2 h3

/-- impl.isSmoke, loop 0: one round -/
noncomputable def b81l0 (ih : Int → Int → List (List Int) → Nat) (x0 x1 : Int) (x2 : List (List Int)) : Nat :=
 cond (decide ((x1 : Int) < x0))
  (cond ((decide ((0 : Int) ≤ x1)) && (Nat.blt (Int.toNat x1) x2.length))
   (cond (!(r108 (Int.toNat ((x2.getD (Int.toNat x1) []).getD 0 0)) 3262119936 1153138688))
    (0)
    (ih x0 (IntKind.i64.wrap (x1 + 1)) x2))
   (2))
  (1)
noncomputable def r81l0 : Nat → Int → Int → List (List Int) → Nat
 | 0 => fun _ _ _ => (2)
 | m + 1 => b81l0 (r81l0 m)
noncomputable def a81l0 (x0 x1 : Int) (x2 : List (List Int)) (p : Nat) : Option (Fin' × List Value × St) := firstT ([((Nat.beq p 0), .ret, [.bool false], ⟨[⟨true, (some (.tab [.fl .f32] x2))⟩], 1, []⟩), ((Nat.beq p 1), .exit 0, [anyV], ⟨[⟨true, (some (.tab [.fl .f32] x2))⟩], 1, []⟩)].map fun (b, x) => (b, (x.1, frameOf 22 [4] x.2.1, x.2.2)))
noncomputable def u81l0 (x0 x1 : Int) (x2 : List (List Int)) (p : Nat) : Option (Fin' × List Value × St) := alts ([((Nat.beq p 0), .ret, [.bool false], ⟨[⟨true, (some (.tab [.fl .f32] x2))⟩], 1, []⟩), ((Nat.beq p 1), .exit 0, [anyV], ⟨[⟨true, (some (.tab [.fl .f32] x2))⟩], 1, []⟩)].map fun (b, x) => (b, (x.1, frameOf 22 [4] x.2.1, x.2.2))) some
theorem v81l0 (x0 x1 : Int) (x2 : List (List Int)) (p : Nat) : u81l0 x0 x1 x2 p = a81l0 x0 x1 x2 p := alts_first _
noncomputable def q81l0 (m : Nat) : SumK := fun vals s =>
 match vals, s.h with
 | [.iface f0 .nilIface, .int .i64 x0, .int .i64 x1], [⟨true, some (.tab [.fl .f32] x2)⟩] => if f0 = 0 then [((Nat.beq (r81l0 m x0 x1 x2) 0), .ret, [.bool false], ⟨[⟨true, (some (.tab [.fl .f32] x2))⟩], 1, []⟩), ((Nat.beq (r81l0 m x0 x1 x2) 1), .exit 0, [anyV], ⟨[⟨true, (some (.tab [.fl .f32] x2))⟩], 1, []⟩)] else noQ vals s
 | _, _ => noQ vals s
noncomputable def w81l0 (ih : Int → Int → List (List Int) → Nat) (x0 x1 : Int) (x2 : List (List Int)) : Option (Fin' × List Value × St) :=
 (cond (decide ((x1 : Int) < x0))
 (cond ((decide ((0 : Int) ≤ x1)) && (Nat.blt (Int.toNat x1) x2.length))
  (cond (Nat.blt (Int.toNat x1) x2.length)
   (cond (!(r108 (Int.toNat ((x2.getD (Int.toNat x1) []).getD 0 0)) 3262119936 1153138688))
    (a81l0 x0 x1 x2 (0))
    (u81l0 x0 x1 x2 (ih x0 (IntKind.i64.wrap (x1 + 1)) x2)))
   none)
  none)
 (a81l0 x0 x1 x2 (1)))
set_option maxRecDepth 100000 in
set_option maxHeartbeats 4000000 in
theorem e81l0 (m : Nat) (x0 x1 : Int) (x2 : List (List Int)) : evC Try.prog ext T86 noL 200 (loopN Try.f81 0) (loopTail ([12, 13, 14], []) [4] [] (sumK 22 [12, 13, 14] [4] (q81l0 m))) (frameOf 22 [12, 13, 14] [wsl 0, .int .i64 x0, .int .i64 x1]) ⟨[⟨true, (some (.tab [.fl .f32] x2))⟩], 1, []⟩ = firstT ([((Nat.beq (r81l0 (m + 1) x0 x1 x2) 0), .ret, [.bool false], ⟨[⟨true, (some (.tab [.fl .f32] x2))⟩], 1, []⟩), ((Nat.beq (r81l0 (m + 1) x0 x1 x2) 1), .exit 0, [anyV], ⟨[⟨true, (some (.tab [.fl .f32] x2))⟩], 1, []⟩)].map fun (b, x) => (b, (x.1, frameOf 22 [4] x.2.1, x.2.2))) :=
 (show evC Try.prog ext T86 noL 200 (loopN Try.f81 0) (loopTail ([12, 13, 14], []) [4] [] (sumK 22 [12, 13, 14] [4] (q81l0 m))) (frameOf 22 [12, 13, 14] [wsl 0, .int .i64 x0, .int .i64 x1]) ⟨[⟨true, (some (.tab [.fl .f32] x2))⟩], 1, []⟩ = w81l0 (r81l0 m) x0 x1 x2 from by kernel_rfl).trans
 (show w81l0 (r81l0 m) x0 x1 x2 = a81l0 x0 x1 x2 (r81l0 (m + 1) x0 x1 x2) from by unfold w81l0; show _ = a81l0 x0 x1 x2 (b81l0 (r81l0 m) x0 x1 x2); unfold b81l0; exact (cond_both (a81l0 x0 x1 x2) _ (fun h0 => (cond_both (a81l0 x0 x1 x2) _ (fun h1 => (cond_t (ev_and2 h1) (cond_app (a81l0 x0 x1 x2) _ rfl (v81l0 x0 x1 x2 ((r81l0 m) x0 (IntKind.i64.wrap (x1 + 1)) x2))))) (fun h1 => rfl))) (fun h0 => rfl)))
set_option maxRecDepth 100000 in
set_option maxHeartbeats 4000000 in
theorem qm81l0 : ∀ m, SumKOk Try.prog (loopN Try.f81 0) 22 [12, 13, 14] [4] (q81l0 m) := by
  intro m
  induction m with
  | zero =>
    intro vals s x h1 h2 h3
    unfold q81l0 at h3; split at h3
    · rename_i h; split at h3
      · rename_i hc; obtain ⟨rfl⟩ := hc; exact absurd h3 (by simp [r81l0, firstT, Nat.beq])
      · exact noQ_ok _ _ _ h1 h2 h3
    · exact noQ_ok _ _ _ h1 h2 h3
  | succ m ih =>
    intro vals s x h1 h2 h3
    unfold q81l0 at h3; split at h3
    · rename_i h; split at h3
      · rename_i hc; obtain ⟨rfl⟩ := hc; exact sum_step ok86 extOk mixed ((lfOkF_no _ _).inner (by kernel_rfl)) ih h1 h2 h (e81l0 m _ _ _) rfl h3
      · exact noQ_ok _ _ _ h1 h2 h3
    · exact noQ_ok _ _ _ h1 h2 h3
noncomputable def Q81l0 : SumK := fun vals s => q81l0 (fuelOf vals s.h) vals s
theorem qok81l0 : SumKOk Try.prog (loopN Try.f81 0) 22 [12, 13, 14] [4] Q81l0 := fuel_ok qm81l0 fuelOf
noncomputable def L81_1 : LoopT := addL noL 5 ([12, 13, 14], []) (sumK 22 [12, 13, 14] [4] Q81l0)
theorem lok81_1 : LfOkF Try.prog L81_1 Try.f81 := lfOkF_add (lfOkF_no _ _) qok81l0 (by kernel_rfl) (by kernel_rfl) (by kernel_rfl)

/-- impl.isSmoke -/
noncomputable def r81 (x0 x1 : List (List Int)) : Nat × Bool :=
 cond ((((x1.length : Nat) : Int) : Int) != ((x0.length : Nat) : Int))
  (0, false)
  (cond (Nat.beq (r81l0 (1000 + x1.length) ((x1.length : Nat) : Int) 0 x1) 0)
   (0, false)
   (cond (Nat.beq (r81l0 (1000 + x1.length) ((x1.length : Nat) : Int) 0 x1) 1)
    (0, true)
    (1, false)))
noncomputable def a81 (x0 x1 : List (List Int)) (p : Nat × Bool) : Res := firstT [((Nat.beq (p.1) 0), .bool (p.2), ⟨[⟨true, (some (.tab sc0 x0))⟩, ⟨true, (some (.tab [.fl .f32] x1))⟩], 2, []⟩)]
noncomputable def w81 (x0 x1 : List (List Int)) : Res :=
 (cond ((((x1.length : Nat) : Int) : Int) != ((x0.length : Nat) : Int))
 (a81 x0 x1 (0, false))
 (cond (Nat.beq (r81l0 (1000 + x1.length) ((x1.length : Nat) : Int) 0 x1) 0)
  (a81 x0 x1 (0, false))
  (cond (Nat.beq (r81l0 (1000 + x1.length) ((x1.length : Nat) : Int) 0 x1) 1)
   (a81 x0 x1 (0, true))
   none)))
set_option maxRecDepth 100000 in
set_option maxHeartbeats 4000000 in
theorem e81 (x0 x1 : List (List Int)) : evFn Try.prog ext T86 L81_1 200 Try.f81 [wsl 0, wsl 1] ⟨[⟨true, (some (.tab sc0 x0))⟩, ⟨true, (some (.tab [.fl .f32] x1))⟩], 2, []⟩ = firstT [((Nat.beq ((r81 x0 x1).1) 0), .bool ((r81 x0 x1).2), ⟨[⟨true, (some (.tab sc0 x0))⟩, ⟨true, (some (.tab [.fl .f32] x1))⟩], 2, []⟩)] :=
 (show evFn Try.prog ext T86 L81_1 200 Try.f81 [wsl 0, wsl 1] ⟨[⟨true, (some (.tab sc0 x0))⟩, ⟨true, (some (.tab [.fl .f32] x1))⟩], 2, []⟩ = w81 x0 x1 from by kernel_rfl).trans
 (show w81 x0 x1 = a81 x0 x1 (r81 x0 x1) from by unfold w81 r81; exact (cond_app (a81 x0 x1) _ rfl (cond_app (a81 x0 x1) _ rfl (cond_app (a81 x0 x1) _ rfl rfl))))
noncomputable def s81 (args : List Value) (s : St) : List (Bool × Value × St) :=
 match args, s.h with
 | [.iface f0 .nilIface, .iface f1 .nilIface], [⟨true, some (.tab [.fl .f32, .fl .f32, .fl .f32, .fl .f32, .int .i64] x0)⟩, ⟨true, some (.tab [.fl .f32] x1)⟩] => if f0 = 0 ∧ f1 = 1 then [((Nat.beq ((r81 x0 x1).1) 0), .bool ((r81 x0 x1).2), ⟨[⟨true, (some (.tab sc0 x0))⟩, ⟨true, (some (.tab [.fl .f32] x1))⟩], 2, []⟩)] else T86 81 args s
 | _, _ => T86 81 args s
noncomputable def T87 : CallF := addF T86 81 s81
set_option maxRecDepth 100000 in
set_option maxHeartbeats 4000000 in
theorem ok87 : CfOk Try.prog T87 := by
  refine cfOk_add ok86 fun args s r s' h1 h2 h3 => ?_
  unfold s81 at h3; split at h3
  · rename_i h; split at h3
    · rename_i hc; obtain ⟨rfl, rfl⟩ := hc; exact callOk ok86 Try.func81 h1 h2 h lok81_1.body (e81 _ _) rfl h3
    · exact ok86 _ _ _ _ _ h1 h2 h3
  · exact ok86 _ _ _ _ _ h1 h2 h3

/-- impl.warmCode -/
noncomputable def r79 (x0 x1 x2 : Nat) (x3 x4 : List (List Int)) : Nat × Int :=
 cond (Nat.beq ((r54 x0 x1 x3).1) 0)
  (cond ((((r54 x0 x1 x3).2) : Int) != 0)
   (0, ((r54 x0 x1 x3).2))
   (cond (Nat.beq ((r81 x3 x4).1) 0)
    (cond (!((r81 x3 x4).2))
     (0, 2)
     (cond (!(r72 x2))
      (0, 2)
      (0, 0)))
    (1, 0)))
  (1, 0)
noncomputable def a79 (x0 x1 x2 : Nat) (x3 x4 : List (List Int)) (p : Nat × Int) : Res := firstT [((Nat.beq (p.1) 0), .int .i64 (p.2), ⟨[⟨true, (some (.tab sc0 x3))⟩, ⟨true, (some (.tab [.fl .f32] x4))⟩], 2, []⟩)]
noncomputable def w79 (x0 x1 x2 : Nat) (x3 x4 : List (List Int)) : Res :=
 (cond (Nat.beq ((r54 x0 x1 x3).1) 0)
 (cond ((((r54 x0 x1 x3).2) : Int) != 0)
  (a79 x0 x1 x2 x3 x4 (0, ((r54 x0 x1 x3).2)))
  (cond (Nat.beq ((r81 x3 x4).1) 0)
   (cond (!((r81 x3 x4).2))
    (a79 x0 x1 x2 x3 x4 (0, 2))
    (cond (!(r72 x2))
     (a79 x0 x1 x2 x3 x4 (0, 2))
     (a79 x0 x1 x2 x3 x4 (0, 0))))
   none))
 none)
set_option maxRecDepth 100000 in
set_option maxHeartbeats 4000000 in
theorem e79 (x0 x1 x2 : Nat) (x3 x4 : List (List Int)) : evFn Try.prog ext T87 noL 200 Try.f79 [wsl 0, wsl 1, .float .f32 x0, .float .f32 x1, .float .f32 x2] ⟨[⟨true, (some (.tab sc0 x3))⟩, ⟨true, (some (.tab [.fl .f32] x4))⟩], 2, []⟩ = firstT [((Nat.beq ((r79 x0 x1 x2 x3 x4).1) 0), .int .i64 ((r79 x0 x1 x2 x3 x4).2), ⟨[⟨true, (some (.tab sc0 x3))⟩, ⟨true, (some (.tab [.fl .f32] x4))⟩], 2, []⟩)] :=
 (show evFn Try.prog ext T87 noL 200 Try.f79 [wsl 0, wsl 1, .float .f32 x0, .float .f32 x1, .float .f32 x2] ⟨[⟨true, (some (.tab sc0 x3))⟩, ⟨true, (some (.tab [.fl .f32] x4))⟩], 2, []⟩ = w79 x0 x1 x2 x3 x4 from by kernel_rfl).trans
 (show w79 x0 x1 x2 x3 x4 = a79 x0 x1 x2 x3 x4 (r79 x0 x1 x2 x3 x4) from by unfold w79 r79; exact (cond_app (a79 x0 x1 x2 x3 x4) _ (cond_app (a79 x0 x1 x2 x3 x4) _ rfl (cond_app (a79 x0 x1 x2 x3 x4) _ (cond_app (a79 x0 x1 x2 x3 x4) _ rfl (cond_app (a79 x0 x1 x2 x3 x4) _ rfl rfl)) rfl)) rfl))
noncomputable def s79 (args : List Value) (s : St) : List (Bool × Value × St) :=
 match args, s.h with
 | [.iface f0 .nilIface, .iface f1 .nilIface, .float .f32 x0, .float .f32 x1, .float .f32 x2], [⟨true, some (.tab [.fl .f32, .fl .f32, .fl .f32, .fl .f32, .int .i64] x3)⟩, ⟨true, some (.tab [.fl .f32] x4)⟩] => if f0 = 0 ∧ f1 = 1 then [((Nat.beq ((r79 x0 x1 x2 x3 x4).1) 0), .int .i64 ((r79 x0 x1 x2 x3 x4).2), ⟨[⟨true, (some (.tab sc0 x3))⟩, ⟨true, (some (.tab [.fl .f32] x4))⟩], 2, []⟩)] else T87 79 args s
 | _, _ => T87 79 args s
noncomputable def T88 : CallF := addF T87 79 s79
set_option maxRecDepth 100000 in
set_option maxHeartbeats 4000000 in
theorem ok88 : CfOk Try.prog T88 := by
  refine cfOk_add ok87 fun args s r s' h1 h2 h3 => ?_
  unfold s79 at h3; split at h3
  · rename_i h; split at h3
    · rename_i hc; obtain ⟨rfl, rfl⟩ := hc; exact callOk ok87 Try.func79 h1 h2 h (lfOkF_no _ _).body (e79 _ _ _ _ _) rfl h3
    · exact ok87 _ _ _ _ _ h1 h2 h3
  · exact ok87 _ _ _ _ _ h1 h2 h3

/-- impl.smokeInto, loop 1: one round -/
noncomputable def b82l1 (ih : Nat → Nat → Nat → Int → Int → Int → Int → List (List Int) → List (List Int) → List (List Int) → List (List Int) → Nat → Nat → Nat → Nat → Int → List (List Int) → (Nat × Nat × Nat)) (x0 x1 x2 : Nat) (x3 x4 x5 x6 : Int) (x7 x8 x9 x10 : List (List Int)) (x11 x12 x13 x14 : Nat) (x15 : Int) (x16 : List (List Int)) : Nat × Nat × Nat :=
 cond (decide ((x6 : Int) < x5))
  (cond ((decide ((0 : Int) ≤ x6)) && (Nat.blt (Int.toNat x6) x16.length))
   (cond ((decide ((0 : Int) ≤ ((x16.getD (Int.toNat x6) []).getD 0 0))) && (Nat.blt (Int.toNat ((x16.getD (Int.toNat x6) []).getD 0 0)) x9.length))
    (cond (fgt .f32 (Int.toNat ((x9.getD (Int.toNat ((x16.getD (Int.toNat x6) []).getD 0 0)) []).getD 0 0)) 0)
     (cond ((decide ((0 : Int) ≤ ((x16.getD (Int.toNat x6) []).getD 0 0))) && (Nat.blt (Int.toNat ((x16.getD (Int.toNat x6) []).getD 0 0)) x7.length))
      (ih x0 (fadd .f32 x1 (fmul .f32 (Int.toNat ((x9.getD (Int.toNat ((x16.getD (Int.toNat x6) []).getD 0 0)) []).getD 0 0)) (Int.toNat ((x7.getD (Int.toNat ((x16.getD (Int.toNat x6) []).getD 0 0)) []).getD 2 0)))) (fadd .f32 x2 (Int.toNat ((x9.getD (Int.toNat ((x16.getD (Int.toNat x6) []).getD 0 0)) []).getD 0 0))) x3 x4 x5 (IntKind.i64.wrap (x6 + 1)) x7 x8 x9 x10 x11 x12 x13 x14 x15 x16)
      (1, 0, 0))
     (ih x0 x1 x2 x3 x4 x5 (IntKind.i64.wrap (x6 + 1)) x7 x8 x9 x10 x11 x12 x13 x14 x15 x16))
    (1, 0, 0))
   (1, 0, 0))
  (0, x1, x2)
noncomputable def r82l1 : Nat → Nat → Nat → Nat → Int → Int → Int → Int → List (List Int) → List (List Int) → List (List Int) → List (List Int) → Nat → Nat → Nat → Nat → Int → List (List Int) → (Nat × Nat × Nat)
 | 0 => fun _ _ _ _ _ _ _ _ _ _ _ _ _ _ _ _ _ => (1, 0, 0)
 | m + 1 => b82l1 (r82l1 m)
noncomputable def a82l1 (x0 x1 x2 : Nat) (x3 x4 x5 x6 : Int) (x7 x8 x9 x10 : List (List Int)) (x11 x12 x13 x14 : Nat) (x15 : Int) (x16 : List (List Int)) (p : Nat × Nat × Nat) : Option (Fin' × List Value × St) := firstT ([((Nat.beq (p.1) 0), .exit 3, [wsl 0, wsl 1, wsl 2, .float .f32 x0, wsl 3, .pointer (some ⟨4, 0, some 0⟩), .float .f32 (p.2.1), .float .f32 (p.2.2), wsl 0, .int .i64 x3, .int .i64 x4], ⟨[⟨true, (some (.tab sc0 x7))⟩, ⟨true, (some (.tab [.fl .f32] x8))⟩, ⟨true, (some (.tab [.fl .f32] x9))⟩, ⟨true, (some (.tab [.fl .f32] x10))⟩, ⟨true, (some (.cells [.float .f32 x11, .float .f32 x12, .float .f32 x13, .float .f32 x14, .int .i64 x15]))⟩, ⟨true, (some (.tab [.int .i64] x16))⟩], 6, []⟩)].map fun (b, x) => (b, (x.1, frameOf 94 [0, 1, 2, 3, 9, 11, 13, 14, 18, 19, 20] x.2.1, x.2.2)))
noncomputable def u82l1 (x0 x1 x2 : Nat) (x3 x4 x5 x6 : Int) (x7 x8 x9 x10 : List (List Int)) (x11 x12 x13 x14 : Nat) (x15 : Int) (x16 : List (List Int)) (p : Nat × Nat × Nat) : Option (Fin' × List Value × St) := alts ([((Nat.beq (p.1) 0), .exit 3, [wsl 0, wsl 1, wsl 2, .float .f32 x0, wsl 3, .pointer (some ⟨4, 0, some 0⟩), .float .f32 (p.2.1), .float .f32 (p.2.2), wsl 0, .int .i64 x3, .int .i64 x4], ⟨[⟨true, (some (.tab sc0 x7))⟩, ⟨true, (some (.tab [.fl .f32] x8))⟩, ⟨true, (some (.tab [.fl .f32] x9))⟩, ⟨true, (some (.tab [.fl .f32] x10))⟩, ⟨true, (some (.cells [.float .f32 x11, .float .f32 x12, .float .f32 x13, .float .f32 x14, .int .i64 x15]))⟩, ⟨true, (some (.tab [.int .i64] x16))⟩], 6, []⟩)].map fun (b, x) => (b, (x.1, frameOf 94 [0, 1, 2, 3, 9, 11, 13, 14, 18, 19, 20] x.2.1, x.2.2))) some
theorem v82l1 (x0 x1 x2 : Nat) (x3 x4 x5 x6 : Int) (x7 x8 x9 x10 : List (List Int)) (x11 x12 x13 x14 : Nat) (x15 : Int) (x16 : List (List Int)) (p : Nat × Nat × Nat) : u82l1 x0 x1 x2 x3 x4 x5 x6 x7 x8 x9 x10 x11 x12 x13 x14 x15 x16 p = a82l1 x0 x1 x2 x3 x4 x5 x6 x7 x8 x9 x10 x11 x12 x13 x14 x15 x16 p := alts_first _
noncomputable def q82l1 (m : Nat) : SumK := fun vals s =>
 match vals, s.h with
 | [.iface f0 .nilIface, .iface f1 .nilIface, .iface f2 .nilIface, .float .f32 x0, .iface f3 .nilIface, .pointer (some ⟨f4, f5, some f6⟩), .float .f32 x1, .float .f32 x2, .iface f7 .nilIface, .int .i64 x3, .int .i64 x4, .iface f8 .nilIface, .int .i64 x5, .int .i64 x6], [⟨true, some (.tab [.fl .f32, .fl .f32, .fl .f32, .fl .f32, .int .i64] x7)⟩, ⟨true, some (.tab [.fl .f32] x8)⟩, ⟨true, some (.tab [.fl .f32] x9)⟩, ⟨true, some (.tab [.fl .f32] x10)⟩, ⟨true, some (.cells [.float .f32 x11, .float .f32 x12, .float .f32 x13, .float .f32 x14, .int .i64 x15])⟩, ⟨true, some (.tab [.int .i64] x16)⟩] => if f0 = 0 ∧ f1 = 1 ∧ f2 = 2 ∧ f3 = 3 ∧ f4 = 4 ∧ f5 = 0 ∧ f6 = 0 ∧ f7 = 0 ∧ f8 = 5 then [((Nat.beq ((r82l1 m x0 x1 x2 x3 x4 x5 x6 x7 x8 x9 x10 x11 x12 x13 x14 x15 x16).1) 0), .exit 3, [wsl 0, wsl 1, wsl 2, .float .f32 x0, wsl 3, .pointer (some ⟨4, 0, some 0⟩), .float .f32 ((r82l1 m x0 x1 x2 x3 x4 x5 x6 x7 x8 x9 x10 x11 x12 x13 x14 x15 x16).2.1), .float .f32 ((r82l1 m x0 x1 x2 x3 x4 x5 x6 x7 x8 x9 x10 x11 x12 x13 x14 x15 x16).2.2), wsl 0, .int .i64 x3, .int .i64 x4], ⟨[⟨true, (some (.tab sc0 x7))⟩, ⟨true, (some (.tab [.fl .f32] x8))⟩, ⟨true, (some (.tab [.fl .f32] x9))⟩, ⟨true, (some (.tab [.fl .f32] x10))⟩, ⟨true, (some (.cells [.float .f32 x11, .float .f32 x12, .float .f32 x13, .float .f32 x14, .int .i64 x15]))⟩, ⟨true, (some (.tab [.int .i64] x16))⟩], 6, []⟩)] else noQ vals s
 | _, _ => noQ vals s
noncomputable def w82l1 (ih : Nat → Nat → Nat → Int → Int → Int → Int → List (List Int) → List (List Int) → List (List Int) → List (List Int) → Nat → Nat → Nat → Nat → Int → List (List Int) → (Nat × Nat × Nat)) (x0 x1 x2 : Nat) (x3 x4 x5 x6 : Int) (x7 x8 x9 x10 : List (List Int)) (x11 x12 x13 x14 : Nat) (x15 : Int) (x16 : List (List Int)) : Option (Fin' × List Value × St) :=
 (cond (decide ((x6 : Int) < x5))
 (cond ((decide ((0 : Int) ≤ x6)) && (Nat.blt (Int.toNat x6) x16.length))
  (cond (Nat.blt (Int.toNat x6) x16.length)
   (cond ((decide ((0 : Int) ≤ ((x16.getD (Int.toNat x6) []).getD 0 0))) && (Nat.blt (Int.toNat ((x16.getD (Int.toNat x6) []).getD 0 0)) x9.length))
    (cond (Nat.blt (Int.toNat ((x16.getD (Int.toNat x6) []).getD 0 0)) x9.length)
     (cond (fgt .f32 (Int.toNat ((x9.getD (Int.toNat ((x16.getD (Int.toNat x6) []).getD 0 0)) []).getD 0 0)) 0)
      (cond ((decide ((0 : Int) ≤ ((x16.getD (Int.toNat x6) []).getD 0 0))) && (Nat.blt (Int.toNat ((x16.getD (Int.toNat x6) []).getD 0 0)) x9.length))
       (cond (Nat.blt (Int.toNat ((x16.getD (Int.toNat x6) []).getD 0 0)) x9.length)
        (cond ((decide ((0 : Int) ≤ ((x16.getD (Int.toNat x6) []).getD 0 0))) && (Nat.blt (Int.toNat ((x16.getD (Int.toNat x6) []).getD 0 0)) x7.length))
         (cond (Nat.blt (Int.toNat ((x16.getD (Int.toNat x6) []).getD 0 0)) x7.length)
          (cond ((decide ((0 : Int) ≤ ((x16.getD (Int.toNat x6) []).getD 0 0))) && (Nat.blt (Int.toNat ((x16.getD (Int.toNat x6) []).getD 0 0)) x9.length))
           (cond (Nat.blt (Int.toNat ((x16.getD (Int.toNat x6) []).getD 0 0)) x9.length)
            (u82l1 x0 x1 x2 x3 x4 x5 x6 x7 x8 x9 x10 x11 x12 x13 x14 x15 x16 (ih x0 (fadd .f32 x1 (fmul .f32 (Int.toNat ((x9.getD (Int.toNat ((x16.getD (Int.toNat x6) []).getD 0 0)) []).getD 0 0)) (Int.toNat ((x7.getD (Int.toNat ((x16.getD (Int.toNat x6) []).getD 0 0)) []).getD 2 0)))) (fadd .f32 x2 (Int.toNat ((x9.getD (Int.toNat ((x16.getD (Int.toNat x6) []).getD 0 0)) []).getD 0 0))) x3 x4 x5 (IntKind.i64.wrap (x6 + 1)) x7 x8 x9 x10 x11 x12 x13 x14 x15 x16))
            none)
           none)
          none)
         none)
        none)
       none)
      (u82l1 x0 x1 x2 x3 x4 x5 x6 x7 x8 x9 x10 x11 x12 x13 x14 x15 x16 (ih x0 x1 x2 x3 x4 x5 (IntKind.i64.wrap (x6 + 1)) x7 x8 x9 x10 x11 x12 x13 x14 x15 x16)))
     none)
    none)
   none)
  none)
 (a82l1 x0 x1 x2 x3 x4 x5 x6 x7 x8 x9 x10 x11 x12 x13 x14 x15 x16 (0, x1, x2)))
set_option maxRecDepth 100000 in
set_option maxHeartbeats 4000000 in
theorem e82l1 (m : Nat) (x0 x1 x2 : Nat) (x3 x4 x5 x6 : Int) (x7 x8 x9 x10 : List (List Int)) (x11 x12 x13 x14 : Nat) (x15 : Int) (x16 : List (List Int)) : evC Try.prog ext T88 noL 200 (loopN Try.f82 1) (loopTail ([0, 1, 2, 3, 9, 11, 13, 14, 18, 19, 20, 28, 29, 30], []) [0, 1, 2, 3, 9, 11, 13, 14, 18, 19, 20] [] (sumK 94 [0, 1, 2, 3, 9, 11, 13, 14, 18, 19, 20, 28, 29, 30] [0, 1, 2, 3, 9, 11, 13, 14, 18, 19, 20] (q82l1 m))) (frameOf 94 [0, 1, 2, 3, 9, 11, 13, 14, 18, 19, 20, 28, 29, 30] [wsl 0, wsl 1, wsl 2, .float .f32 x0, wsl 3, .pointer (some ⟨4, 0, some 0⟩), .float .f32 x1, .float .f32 x2, wsl 0, .int .i64 x3, .int .i64 x4, wsl 5, .int .i64 x5, .int .i64 x6]) ⟨[⟨true, (some (.tab sc0 x7))⟩, ⟨true, (some (.tab [.fl .f32] x8))⟩, ⟨true, (some (.tab [.fl .f32] x9))⟩, ⟨true, (some (.tab [.fl .f32] x10))⟩, ⟨true, (some (.cells [.float .f32 x11, .float .f32 x12, .float .f32 x13, .float .f32 x14, .int .i64 x15]))⟩, ⟨true, (some (.tab [.int .i64] x16))⟩], 6, []⟩ = firstT ([((Nat.beq ((r82l1 (m + 1) x0 x1 x2 x3 x4 x5 x6 x7 x8 x9 x10 x11 x12 x13 x14 x15 x16).1) 0), .exit 3, [wsl 0, wsl 1, wsl 2, .float .f32 x0, wsl 3, .pointer (some ⟨4, 0, some 0⟩), .float .f32 ((r82l1 (m + 1) x0 x1 x2 x3 x4 x5 x6 x7 x8 x9 x10 x11 x12 x13 x14 x15 x16).2.1), .float .f32 ((r82l1 (m + 1) x0 x1 x2 x3 x4 x5 x6 x7 x8 x9 x10 x11 x12 x13 x14 x15 x16).2.2), wsl 0, .int .i64 x3, .int .i64 x4], ⟨[⟨true, (some (.tab sc0 x7))⟩, ⟨true, (some (.tab [.fl .f32] x8))⟩, ⟨true, (some (.tab [.fl .f32] x9))⟩, ⟨true, (some (.tab [.fl .f32] x10))⟩, ⟨true, (some (.cells [.float .f32 x11, .float .f32 x12, .float .f32 x13, .float .f32 x14, .int .i64 x15]))⟩, ⟨true, (some (.tab [.int .i64] x16))⟩], 6, []⟩)].map fun (b, x) => (b, (x.1, frameOf 94 [0, 1, 2, 3, 9, 11, 13, 14, 18, 19, 20] x.2.1, x.2.2))) :=
 (show evC Try.prog ext T88 noL 200 (loopN Try.f82 1) (loopTail ([0, 1, 2, 3, 9, 11, 13, 14, 18, 19, 20, 28, 29, 30], []) [0, 1, 2, 3, 9, 11, 13, 14, 18, 19, 20] [] (sumK 94 [0, 1, 2, 3, 9, 11, 13, 14, 18, 19, 20, 28, 29, 30] [0, 1, 2, 3, 9, 11, 13, 14, 18, 19, 20] (q82l1 m))) (frameOf 94 [0, 1, 2, 3, 9, 11, 13, 14, 18, 19, 20, 28, 29, 30] [wsl 0, wsl 1, wsl 2, .float .f32 x0, wsl 3, .pointer (some ⟨4, 0, some 0⟩), .float .f32 x1, .float .f32 x2, wsl 0, .int .i64 x3, .int .i64 x4, wsl 5, .int .i64 x5, .int .i64 x6]) ⟨[⟨true, (some (.tab sc0 x7))⟩, ⟨true, (some (.tab [.fl .f32] x8))⟩, ⟨true, (some (.tab [.fl .f32] x9))⟩, ⟨true, (some (.tab [.fl .f32] x10))⟩, ⟨true, (some (.cells [.float .f32 x11, .float .f32 x12, .float .f32 x13, .float .f32 x14, .int .i64 x15]))⟩, ⟨true, (some (.tab [.int .i64] x16))⟩], 6, []⟩ = w82l1 (r82l1 m) x0 x1 x2 x3 x4 x5 x6 x7 x8 x9 x10 x11 x12 x13 x14 x15 x16 from by kernel_rfl).trans
 (show w82l1 (r82l1 m) x0 x1 x2 x3 x4 x5 x6 x7 x8 x9 x10 x11 x12 x13 x14 x15 x16 = a82l1 x0 x1 x2 x3 x4 x5 x6 x7 x8 x9 x10 x11 x12 x13 x14 x15 x16 (r82l1 (m + 1) x0 x1 x2 x3 x4 x5 x6 x7 x8 x9 x10 x11 x12 x13 x14 x15 x16) from by unfold w82l1; show _ = a82l1 x0 x1 x2 x3 x4 x5 x6 x7 x8 x9 x10 x11 x12 x13 x14 x15 x16 (b82l1 (r82l1 m) x0 x1 x2 x3 x4 x5 x6 x7 x8 x9 x10 x11 x12 x13 x14 x15 x16); unfold b82l1; exact (cond_both (a82l1 x0 x1 x2 x3 x4 x5 x6 x7 x8 x9 x10 x11 x12 x13 x14 x15 x16) _ (fun h0 => (cond_both (a82l1 x0 x1 x2 x3 x4 x5 x6 x7 x8 x9 x10 x11 x12 x13 x14 x15 x16) _ (fun h1 => (cond_t (ev_and2 h1) (cond_both (a82l1 x0 x1 x2 x3 x4 x5 x6 x7 x8 x9 x10 x11 x12 x13 x14 x15 x16) _ (fun h2 => (cond_t (ev_and2 h2) (cond_both (a82l1 x0 x1 x2 x3 x4 x5 x6 x7 x8 x9 x10 x11 x12 x13 x14 x15 x16) _ (fun h3 => (cond_t h2 (cond_t (ev_and2 h2) (cond_both (a82l1 x0 x1 x2 x3 x4 x5 x6 x7 x8 x9 x10 x11 x12 x13 x14 x15 x16) _ (fun h4 => (cond_t (ev_and2 h4) (cond_t h2 (cond_t (ev_and2 h2) (v82l1 x0 x1 x2 x3 x4 x5 x6 x7 x8 x9 x10 x11 x12 x13 x14 x15 x16 ((r82l1 m) x0 (fadd .f32 x1 (fmul .f32 (Int.toNat ((x9.getD (Int.toNat ((x16.getD (Int.toNat x6) []).getD 0 0)) []).getD 0 0)) (Int.toNat ((x7.getD (Int.toNat ((x16.getD (Int.toNat x6) []).getD 0 0)) []).getD 2 0)))) (fadd .f32 x2 (Int.toNat ((x9.getD (Int.toNat ((x16.getD (Int.toNat x6) []).getD 0 0)) []).getD 0 0))) x3 x4 x5 (IntKind.i64.wrap (x6 + 1)) x7 x8 x9 x10 x11 x12 x13 x14 x15 x16)))))) (fun h4 => rfl))))) (fun h3 => (v82l1 x0 x1 x2 x3 x4 x5 x6 x7 x8 x9 x10 x11 x12 x13 x14 x15 x16 ((r82l1 m) x0 x1 x2 x3 x4 x5 (IntKind.i64.wrap (x6 + 1)) x7 x8 x9 x10 x11 x12 x13 x14 x15 x16)))))) (fun h2 => rfl)))) (fun h1 => rfl))) (fun h0 => rfl)))
set_option maxRecDepth 100000 in
set_option maxHeartbeats 4000000 in
theorem qm82l1 : ∀ m, SumKOk Try.prog (loopN Try.f82 1) 94 [0, 1, 2, 3, 9, 11, 13, 14, 18, 19, 20, 28, 29, 30] [0, 1, 2, 3, 9, 11, 13, 14, 18, 19, 20] (q82l1 m) := by
  intro m
  induction m with
  | zero =>
    intro vals s x h1 h2 h3
    unfold q82l1 at h3; split at h3
    · rename_i h; split at h3
      · rename_i hc; obtain ⟨rfl, rfl, rfl, rfl, rfl, rfl, rfl, rfl, rfl⟩ := hc; exact absurd h3 (by simp [r82l1, firstT, Nat.beq])
      · exact noQ_ok _ _ _ h1 h2 h3
    · exact noQ_ok _ _ _ h1 h2 h3
  | succ m ih =>
    intro vals s x h1 h2 h3
    unfold q82l1 at h3; split at h3
    · rename_i h; split at h3
      · rename_i hc; obtain ⟨rfl, rfl, rfl, rfl, rfl, rfl, rfl, rfl, rfl⟩ := hc; exact sum_step ok88 extOk mixed ((lfOkF_no _ _).inner (by kernel_rfl)) ih h1 h2 h (e82l1 m _ _ _ _ _ _ _ _ _ _ _ _ _ _ _ _ _) rfl h3
      · exact noQ_ok _ _ _ h1 h2 h3
    · exact noQ_ok _ _ _ h1 h2 h3
noncomputable def Q82l1 : SumK := fun vals s => q82l1 (fuelOf vals s.h) vals s
theorem qok82l1 : SumKOk Try.prog (loopN Try.f82 1) 94 [0, 1, 2, 3, 9, 11, 13, 14, 18, 19, 20, 28, 29, 30] [0, 1, 2, 3, 9, 11, 13, 14, 18, 19, 20] Q82l1 := fuel_ok qm82l1 fuelOf
noncomputable def L82_1 : LoopT := addL noL 9 ([0, 1, 2, 3, 9, 11, 13, 14, 18, 19, 20, 28, 29, 30], []) (sumK 94 [0, 1, 2, 3, 9, 11, 13, 14, 18, 19, 20, 28, 29, 30] [0, 1, 2, 3, 9, 11, 13, 14, 18, 19, 20] Q82l1)
theorem lok82_1 : LfOkF Try.prog L82_1 Try.f82 := lfOkF_add (lfOkF_no _ _) qok82l1 (by kernel_rfl) (by kernel_rfl) (by kernel_rfl)
end Go.Proofs.Ytdpkbkmmlbmllaa
