/- What the functions that the statements reach answer, part 5. -/
import Derived.Test.YtdpkbkmmlbmllaaCd4
namespace Go.Proofs.Ytdpkbkmmlbmllaa
open Go.Ab
set_option maxHeartbeats 4000000
set_option maxRecDepth 100000

/-- spec.l03With -/
noncomputable def r69 (x0 : Int) (x1 : Nat) (x2 : List (List Int)) : Nat × List (List Int) :=
 cond (Nat.ble ((0 + x2.length) * 25) 140737488355328)
  (cond ((decide ((0 : Int) ≤ x0)) && (Nat.blt (Int.toNat x0) ((([] : List (List Int)) ++ x2).length)))
   (0, ((([] : List (List Int)) ++ x2).modify (Int.toNat x0) (fun r => spl 5 r 3 [((x1 : Nat) : Int)])))
   (1, []))
  (1, [])
noncomputable def a69 (x0 : Int) (x1 : Nat) (x2 : List (List Int)) (p : Nat × List (List Int)) : Res := firstT [((Nat.beq (p.1) 0), wsl 1, ⟨[⟨true, (some (.tab sc0 x2))⟩, ⟨true, (some (.tab sc0 (p.2)))⟩], 1, []⟩)]
noncomputable def w69 (x0 : Int) (x1 : Nat) (x2 : List (List Int)) : Res :=
 (cond (Nat.ble ((0 + x2.length) * 25) 140737488355328)
 (cond ((decide ((0 : Int) ≤ x0)) && (Nat.blt (Int.toNat x0) ((([] : List (List Int)) ++ x2).length)))
  (cond (Nat.blt (Int.toNat x0) ((([] : List (List Int)) ++ x2).length))
   (a69 x0 x1 x2 (0, ((([] : List (List Int)) ++ x2).modify (Int.toNat x0) (fun r => spl 5 r 3 [((x1 : Nat) : Int)]))))
   none)
  none)
 none)
set_option maxRecDepth 100000 in
set_option maxHeartbeats 4000000 in
theorem e69 (x0 : Int) (x1 : Nat) (x2 : List (List Int)) : evFn Try.prog ext T71 noL 200 Try.f69 [wsl 0, .int .i64 x0, .float .f32 x1] ⟨[⟨true, (some (.tab sc0 x2))⟩], 1, []⟩ = firstT [((Nat.beq ((r69 x0 x1 x2).1) 0), wsl 1, ⟨[⟨true, (some (.tab sc0 x2))⟩, ⟨true, (some (.tab sc0 ((r69 x0 x1 x2).2)))⟩], 1, []⟩)] :=
 (show evFn Try.prog ext T71 noL 200 Try.f69 [wsl 0, .int .i64 x0, .float .f32 x1] ⟨[⟨true, (some (.tab sc0 x2))⟩], 1, []⟩ = w69 x0 x1 x2 from by kernel_rfl).trans
 (show w69 x0 x1 x2 = a69 x0 x1 x2 (r69 x0 x1 x2) from by unfold w69 r69; exact (cond_both (a69 x0 x1 x2) _ (fun h0 => (cond_both (a69 x0 x1 x2) _ (fun h1 => (cond_t (ev_and2 h1) rfl)) (fun h1 => rfl))) (fun h0 => rfl)))
noncomputable def s69 (args : List Value) (s : St) : List (Bool × Value × St) :=
 match args, s.h with
 | [.iface f0 .nilIface, .int .i64 x0, .float .f32 x1], [⟨true, some (.tab [.fl .f32, .fl .f32, .fl .f32, .fl .f32, .int .i64] x2)⟩] => if f0 = 0 then [((Nat.beq ((r69 x0 x1 x2).1) 0), wsl 1, ⟨[⟨true, (some (.tab sc0 x2))⟩, ⟨true, (some (.tab sc0 ((r69 x0 x1 x2).2)))⟩], 1, []⟩)] else T71 69 args s
 | _, _ => T71 69 args s
noncomputable def T72 : CallF := addF T71 69 s69
set_option maxRecDepth 100000 in
set_option maxHeartbeats 4000000 in
theorem ok72 : CfOk Try.prog T72 := by
  refine cfOk_add ok71 fun args s r s' h1 h2 h3 => ?_
  unfold s69 at h3; split at h3
  · rename_i h; split at h3
    · rename_i hc; obtain ⟨rfl⟩ := hc; exact callOk ok71 Try.func69 h1 h2 h (lfOkF_no _ _).body (e69 _ _ _) rfl h3
    · exact ok71 _ _ _ _ _ h1 h2 h3
  · exact ok71 _ _ _ _ _ h1 h2 h3

/-- spec.DamperFor, loop 0: one round -/
noncomputable def b28l0 (ih : Int → Nat → Nat → Nat → Int → List (List Int) → (Nat × Nat)) (x0 : Int) (x1 x2 x3 : Nat) (x4 : Int) (x5 : List (List Int)) : Nat × Nat :=
 cond (decide ((x4 : Int) ≤ 64))
  (cond (Nat.beq ((r69 x0 (fdiv .f32 (ofInt .f32 x4) 1115684864) x5).1) 0)
   (cond (Nat.beq ((r58 x2 x3 ((r69 x0 (fdiv .f32 (ofInt .f32 x4) 1115684864) x5).2)).1) 0)
    (cond ((((r58 x2 x3 ((r69 x0 (fdiv .f32 (ofInt .f32 x4) 1115684864) x5).2)).2.1) : Int) == 0)
     (cond ((decide ((0 : Int) ≤ x0)) && (Nat.blt (Int.toNat x0) (((r58 x2 x3 ((r69 x0 (fdiv .f32 (ofInt .f32 x4) 1115684864) x5).2)).2.2).length)))
      (cond (fgt .f32 (Int.toNat ((((r58 x2 x3 ((r69 x0 (fdiv .f32 (ofInt .f32 x4) 1115684864) x5).2)).2.2).getD (Int.toNat x0) []).getD 0 0)) x1 || feq .f32 (Int.toNat ((((r58 x2 x3 ((r69 x0 (fdiv .f32 (ofInt .f32 x4) 1115684864) x5).2)).2.2).getD (Int.toNat x0) []).getD 0 0)) x1)
       (0, (fdiv .f32 (ofInt .f32 x4) 1115684864))
       (ih x0 x1 x2 x3 (IntKind.i64.wrap (x4 + 1)) x5))
      (2, 0))
     (ih x0 x1 x2 x3 (IntKind.i64.wrap (x4 + 1)) x5))
    (2, 0))
   (2, 0))
  (1, 0)
noncomputable def r28l0 : Nat → Int → Nat → Nat → Nat → Int → List (List Int) → (Nat × Nat)
 | 0 => fun _ _ _ _ _ _ => (2, 0)
 | m + 1 => b28l0 (r28l0 m)
noncomputable def a28l0 (x0 : Int) (x1 x2 x3 : Nat) (x4 : Int) (x5 : List (List Int)) (p : Nat × Nat) : Option (Fin' × List Value × St) := firstT ([((Nat.beq (p.1) 0), .ret, [.float .f32 (p.2), .int .i64 0], ⟨[⟨true, (some (.tab sc0 x5))⟩], 1, []⟩), ((Nat.beq (p.1) 1), .exit 0, [anyV, anyV], ⟨[⟨true, (some (.tab sc0 x5))⟩], 1, []⟩)].map fun (b, x) => (b, (x.1, frameOf 63 [10, 11] x.2.1, x.2.2)))
noncomputable def u28l0 (x0 : Int) (x1 x2 x3 : Nat) (x4 : Int) (x5 : List (List Int)) (p : Nat × Nat) : Option (Fin' × List Value × St) := alts ([((Nat.beq (p.1) 0), .ret, [.float .f32 (p.2), .int .i64 0], ⟨[⟨true, (some (.tab sc0 x5))⟩], 1, []⟩), ((Nat.beq (p.1) 1), .exit 0, [anyV, anyV], ⟨[⟨true, (some (.tab sc0 x5))⟩], 1, []⟩)].map fun (b, x) => (b, (x.1, frameOf 63 [10, 11] x.2.1, x.2.2))) some
theorem v28l0 (x0 : Int) (x1 x2 x3 : Nat) (x4 : Int) (x5 : List (List Int)) (p : Nat × Nat) : u28l0 x0 x1 x2 x3 x4 x5 p = a28l0 x0 x1 x2 x3 x4 x5 p := alts_first _
noncomputable def q28l0 (m : Nat) : SumK := fun vals s =>
 match vals, s.h with
 | [.iface f0 .nilIface, .int .i64 x0, .float .f32 x1, .float .f32 x2, .float .f32 x3, .int .i64 x4], [⟨true, some (.tab [.fl .f32, .fl .f32, .fl .f32, .fl .f32, .int .i64] x5)⟩] => if f0 = 0 then [((Nat.beq ((r28l0 m x0 x1 x2 x3 x4 x5).1) 0), .ret, [.float .f32 ((r28l0 m x0 x1 x2 x3 x4 x5).2), .int .i64 0], ⟨[⟨true, (some (.tab sc0 x5))⟩], 1, []⟩), ((Nat.beq ((r28l0 m x0 x1 x2 x3 x4 x5).1) 1), .exit 0, [anyV, anyV], ⟨[⟨true, (some (.tab sc0 x5))⟩], 1, []⟩)] else noQ vals s
 | _, _ => noQ vals s
noncomputable def w28l0 (ih : Int → Nat → Nat → Nat → Int → List (List Int) → (Nat × Nat)) (x0 : Int) (x1 x2 x3 : Nat) (x4 : Int) (x5 : List (List Int)) : Option (Fin' × List Value × St) :=
 (cond (decide ((x4 : Int) ≤ 64))
 (cond (Nat.beq ((r69 x0 (fdiv .f32 (ofInt .f32 x4) 1115684864) x5).1) 0)
  (cond (Nat.beq ((r58 x2 x3 ((r69 x0 (fdiv .f32 (ofInt .f32 x4) 1115684864) x5).2)).1) 0)
   (cond ((((r58 x2 x3 ((r69 x0 (fdiv .f32 (ofInt .f32 x4) 1115684864) x5).2)).2.1) : Int) == 0)
    (cond ((decide ((0 : Int) ≤ x0)) && (Nat.blt (Int.toNat x0) (((r58 x2 x3 ((r69 x0 (fdiv .f32 (ofInt .f32 x4) 1115684864) x5).2)).2.2).length)))
     (cond (Nat.blt (Int.toNat x0) (((r58 x2 x3 ((r69 x0 (fdiv .f32 (ofInt .f32 x4) 1115684864) x5).2)).2.2).length))
      (cond (fgt .f32 (Int.toNat ((((r58 x2 x3 ((r69 x0 (fdiv .f32 (ofInt .f32 x4) 1115684864) x5).2)).2.2).getD (Int.toNat x0) []).getD 0 0)) x1 || feq .f32 (Int.toNat ((((r58 x2 x3 ((r69 x0 (fdiv .f32 (ofInt .f32 x4) 1115684864) x5).2)).2.2).getD (Int.toNat x0) []).getD 0 0)) x1)
       (a28l0 x0 x1 x2 x3 x4 x5 (0, (fdiv .f32 (ofInt .f32 x4) 1115684864)))
       (u28l0 x0 x1 x2 x3 x4 x5 (ih x0 x1 x2 x3 (IntKind.i64.wrap (x4 + 1)) x5)))
      none)
     none)
    (u28l0 x0 x1 x2 x3 x4 x5 (ih x0 x1 x2 x3 (IntKind.i64.wrap (x4 + 1)) x5)))
   none)
  none)
 (a28l0 x0 x1 x2 x3 x4 x5 (1, 0)))
set_option maxRecDepth 100000 in
set_option maxHeartbeats 4000000 in
theorem e28l0 (m : Nat) (x0 : Int) (x1 x2 x3 : Nat) (x4 : Int) (x5 : List (List Int)) : evC Try.prog ext T72 noL 200 (loopN Try.f28 0) (loopTail ([0, 1, 2, 3, 4, 13], []) [10, 11] [] (sumK 63 [0, 1, 2, 3, 4, 13] [10, 11] (q28l0 m))) (frameOf 63 [0, 1, 2, 3, 4, 13] [wsl 0, .int .i64 x0, .float .f32 x1, .float .f32 x2, .float .f32 x3, .int .i64 x4]) ⟨[⟨true, (some (.tab sc0 x5))⟩], 1, []⟩ = firstT ([((Nat.beq ((r28l0 (m + 1) x0 x1 x2 x3 x4 x5).1) 0), .ret, [.float .f32 ((r28l0 (m + 1) x0 x1 x2 x3 x4 x5).2), .int .i64 0], ⟨[⟨true, (some (.tab sc0 x5))⟩], 1, []⟩), ((Nat.beq ((r28l0 (m + 1) x0 x1 x2 x3 x4 x5).1) 1), .exit 0, [anyV, anyV], ⟨[⟨true, (some (.tab sc0 x5))⟩], 1, []⟩)].map fun (b, x) => (b, (x.1, frameOf 63 [10, 11] x.2.1, x.2.2))) :=
 (show evC Try.prog ext T72 noL 200 (loopN Try.f28 0) (loopTail ([0, 1, 2, 3, 4, 13], []) [10, 11] [] (sumK 63 [0, 1, 2, 3, 4, 13] [10, 11] (q28l0 m))) (frameOf 63 [0, 1, 2, 3, 4, 13] [wsl 0, .int .i64 x0, .float .f32 x1, .float .f32 x2, .float .f32 x3, .int .i64 x4]) ⟨[⟨true, (some (.tab sc0 x5))⟩], 1, []⟩ = w28l0 (r28l0 m) x0 x1 x2 x3 x4 x5 from by kernel_rfl).trans
 (show w28l0 (r28l0 m) x0 x1 x2 x3 x4 x5 = a28l0 x0 x1 x2 x3 x4 x5 (r28l0 (m + 1) x0 x1 x2 x3 x4 x5) from by unfold w28l0; show _ = a28l0 x0 x1 x2 x3 x4 x5 (b28l0 (r28l0 m) x0 x1 x2 x3 x4 x5); unfold b28l0; exact (cond_both (a28l0 x0 x1 x2 x3 x4 x5) _ (fun h0 => (cond_both (a28l0 x0 x1 x2 x3 x4 x5) _ (fun h1 => (cond_both (a28l0 x0 x1 x2 x3 x4 x5) _ (fun h2 => (cond_both (a28l0 x0 x1 x2 x3 x4 x5) _ (fun h3 => (cond_both (a28l0 x0 x1 x2 x3 x4 x5) _ (fun h4 => (cond_t (ev_and2 h4) (cond_app (a28l0 x0 x1 x2 x3 x4 x5) _ rfl (v28l0 x0 x1 x2 x3 x4 x5 ((r28l0 m) x0 x1 x2 x3 (IntKind.i64.wrap (x4 + 1)) x5))))) (fun h4 => rfl))) (fun h3 => (v28l0 x0 x1 x2 x3 x4 x5 ((r28l0 m) x0 x1 x2 x3 (IntKind.i64.wrap (x4 + 1)) x5))))) (fun h2 => rfl))) (fun h1 => rfl))) (fun h0 => rfl)))
set_option maxRecDepth 100000 in
set_option maxHeartbeats 4000000 in
theorem qm28l0 : ∀ m, SumKOk Try.prog (loopN Try.f28 0) 63 [0, 1, 2, 3, 4, 13] [10, 11] (q28l0 m) := by
  intro m
  induction m with
  | zero =>
    intro vals s x h1 h2 h3
    unfold q28l0 at h3; split at h3
    · rename_i h; split at h3
      · rename_i hc; obtain ⟨rfl⟩ := hc; exact absurd h3 (by simp [r28l0, firstT, Nat.beq])
      · exact noQ_ok _ _ _ h1 h2 h3
    · exact noQ_ok _ _ _ h1 h2 h3
  | succ m ih =>
    intro vals s x h1 h2 h3
    unfold q28l0 at h3; split at h3
    · rename_i h; split at h3
      · rename_i hc; obtain ⟨rfl⟩ := hc; exact sum_step ok72 extOk mixed ((lfOkF_no _ _).inner (by kernel_rfl)) ih h1 h2 h (e28l0 m _ _ _ _ _ _) rfl h3
      · exact noQ_ok _ _ _ h1 h2 h3
    · exact noQ_ok _ _ _ h1 h2 h3
noncomputable def Q28l0 : SumK := fun vals s => q28l0 (fuelOf vals s.h) vals s
theorem qok28l0 : SumKOk Try.prog (loopN Try.f28 0) 63 [0, 1, 2, 3, 4, 13] [10, 11] Q28l0 := fuel_ok qm28l0 fuelOf
noncomputable def L28_1 : LoopT := addL noL 8 ([0, 1, 2, 3, 4, 13], []) (sumK 63 [0, 1, 2, 3, 4, 13] [10, 11] Q28l0)
theorem lok28_1 : LfOkF Try.prog L28_1 Try.f28 := lfOkF_add (lfOkF_no _ _) qok28l0 (by kernel_rfl) (by kernel_rfl) (by kernel_rfl)

/-- spec.DamperFor -/
noncomputable def r28 (x0 : Int) (x1 x2 x3 : Nat) (x4 : List (List Int)) : Nat × Nat × Int :=
 cond (Nat.beq ((r57 x2 x3 x4).1) 0)
  (cond ((((r57 x2 x3 x4).2) : Int) != 0)
   (0, 0, ((r57 x2 x3 x4).2))
   (cond (!(r63 x0 0 (IntKind.i64.wrap (((x4.length : Nat) : Int) - 1))))
    (0, 0, 2)
    (cond (!(r68 x1))
     (0, 0, 2)
     (cond (Nat.beq ((r28l0 (1000 + x4.length) x0 x1 x2 x3 0 x4).1) 0)
      (0, ((r28l0 (1000 + x4.length) x0 x1 x2 x3 0 x4).2), 0)
      (cond (Nat.beq ((r28l0 (1000 + x4.length) x0 x1 x2 x3 0 x4).1) 1)
       (0, 0, 6)
       (1, 0, 0))))))
  (1, 0, 0)
noncomputable def a28 (x0 : Int) (x1 x2 x3 : Nat) (x4 : List (List Int)) (p : Nat × Nat × Int) : Res := firstT [((Nat.beq (p.1) 0), .tuple #[.float .f32 (p.2.1), .int .i64 (p.2.2)], ⟨[⟨true, (some (.tab sc0 x4))⟩], 1, []⟩)]
noncomputable def w28 (x0 : Int) (x1 x2 x3 : Nat) (x4 : List (List Int)) : Res :=
 (cond (Nat.beq ((r57 x2 x3 x4).1) 0)
 (cond ((((r57 x2 x3 x4).2) : Int) != 0)
  (a28 x0 x1 x2 x3 x4 (0, 0, ((r57 x2 x3 x4).2)))
  (cond (!(r63 x0 0 (IntKind.i64.wrap (((x4.length : Nat) : Int) - 1))))
   (a28 x0 x1 x2 x3 x4 (0, 0, 2))
   (cond (!(r68 x1))
    (a28 x0 x1 x2 x3 x4 (0, 0, 2))
    (cond (Nat.beq ((r28l0 (1000 + x4.length) x0 x1 x2 x3 0 x4).1) 0)
     (a28 x0 x1 x2 x3 x4 (0, ((r28l0 (1000 + x4.length) x0 x1 x2 x3 0 x4).2), 0))
     (cond (Nat.beq ((r28l0 (1000 + x4.length) x0 x1 x2 x3 0 x4).1) 1)
      (a28 x0 x1 x2 x3 x4 (0, 0, 6))
      none)))))
 none)
set_option maxRecDepth 100000 in
set_option maxHeartbeats 4000000 in
theorem e28 (x0 : Int) (x1 x2 x3 : Nat) (x4 : List (List Int)) : evFn Try.prog ext T72 L28_1 200 Try.f28 [wsl 0, .int .i64 x0, .float .f32 x1, .float .f32 x2, .float .f32 x3] ⟨[⟨true, (some (.tab sc0 x4))⟩], 1, []⟩ = firstT [((Nat.beq ((r28 x0 x1 x2 x3 x4).1) 0), .tuple #[.float .f32 ((r28 x0 x1 x2 x3 x4).2.1), .int .i64 ((r28 x0 x1 x2 x3 x4).2.2)], ⟨[⟨true, (some (.tab sc0 x4))⟩], 1, []⟩)] :=
 (show evFn Try.prog ext T72 L28_1 200 Try.f28 [wsl 0, .int .i64 x0, .float .f32 x1, .float .f32 x2, .float .f32 x3] ⟨[⟨true, (some (.tab sc0 x4))⟩], 1, []⟩ = w28 x0 x1 x2 x3 x4 from by kernel_rfl).trans
 (show w28 x0 x1 x2 x3 x4 = a28 x0 x1 x2 x3 x4 (r28 x0 x1 x2 x3 x4) from by unfold w28 r28; exact (cond_app (a28 x0 x1 x2 x3 x4) _ (cond_app (a28 x0 x1 x2 x3 x4) _ rfl (cond_app (a28 x0 x1 x2 x3 x4) _ rfl (cond_app (a28 x0 x1 x2 x3 x4) _ rfl (cond_app (a28 x0 x1 x2 x3 x4) _ rfl (cond_app (a28 x0 x1 x2 x3 x4) _ rfl rfl))))) rfl))
noncomputable def s28 (args : List Value) (s : St) : List (Bool × Value × St) :=
 match args, s.h with
 | [.iface f0 .nilIface, .int .i64 x0, .float .f32 x1, .float .f32 x2, .float .f32 x3], [⟨true, some (.tab [.fl .f32, .fl .f32, .fl .f32, .fl .f32, .int .i64] x4)⟩] => if f0 = 0 then [((Nat.beq ((r28 x0 x1 x2 x3 x4).1) 0), .tuple #[.float .f32 ((r28 x0 x1 x2 x3 x4).2.1), .int .i64 ((r28 x0 x1 x2 x3 x4).2.2)], ⟨[⟨true, (some (.tab sc0 x4))⟩], 1, []⟩)] else T72 28 args s
 | _, _ => T72 28 args s
noncomputable def T73 : CallF := addF T72 28 s28
set_option maxRecDepth 100000 in
set_option maxHeartbeats 4000000 in
theorem ok73 : CfOk Try.prog T73 := by
  refine cfOk_add ok72 fun args s r s' h1 h2 h3 => ?_
  unfold s28 at h3; split at h3
  · rename_i h; split at h3
    · rename_i hc; obtain ⟨rfl⟩ := hc; exact callOk ok72 Try.func28 h1 h2 h lok28_1.body (e28 _ _ _ _ _) rfl h3
    · exact ok72 _ _ _ _ _ h1 h2 h3
  · exact ok72 _ _ _ _ _ h1 h2 h3

/-- impl.ownChimney -/
noncomputable def r71 (x0 : List (List Int)) : Nat × List (List Int) :=
 cond (Nat.ble ((0 + x0.length) * 25) 140737488355328)
  (0, (([] : List (List Int)) ++ x0))
  (1, [])
noncomputable def a71 (x0 : List (List Int)) (p : Nat × List (List Int)) : Res := firstT [((Nat.beq (p.1) 0), wsl 1, ⟨[⟨true, (some (.tab sc0 x0))⟩, ⟨true, (some (.tab sc0 (p.2)))⟩], 1, []⟩)]
noncomputable def w71 (x0 : List (List Int)) : Res :=
 (cond (Nat.ble ((0 + x0.length) * 25) 140737488355328)
 (a71 x0 (0, (([] : List (List Int)) ++ x0)))
 none)
set_option maxRecDepth 100000 in
set_option maxHeartbeats 4000000 in
theorem e71 (x0 : List (List Int)) : evFn Try.prog ext T73 noL 200 Try.f71 [wsl 0] ⟨[⟨true, (some (.tab sc0 x0))⟩], 1, []⟩ = firstT [((Nat.beq ((r71 x0).1) 0), wsl 1, ⟨[⟨true, (some (.tab sc0 x0))⟩, ⟨true, (some (.tab sc0 ((r71 x0).2)))⟩], 1, []⟩)] :=
 (show evFn Try.prog ext T73 noL 200 Try.f71 [wsl 0] ⟨[⟨true, (some (.tab sc0 x0))⟩], 1, []⟩ = w71 x0 from by kernel_rfl).trans
 (show w71 x0 = a71 x0 (r71 x0) from by unfold w71 r71; exact (cond_app (a71 x0) _ rfl rfl))
noncomputable def s71 (args : List Value) (s : St) : List (Bool × Value × St) :=
 match args, s.h with
 | [.iface f0 .nilIface], [⟨true, some (.tab [.fl .f32, .fl .f32, .fl .f32, .fl .f32, .int .i64] x0)⟩] => if f0 = 0 then [((Nat.beq ((r71 x0).1) 0), wsl 1, ⟨[⟨true, (some (.tab sc0 x0))⟩, ⟨true, (some (.tab sc0 ((r71 x0).2)))⟩], 1, []⟩)] else T73 71 args s
 | _, _ => T73 71 args s
noncomputable def T74 : CallF := addF T73 71 s71
set_option maxRecDepth 100000 in
set_option maxHeartbeats 4000000 in
theorem ok74 : CfOk Try.prog T74 := by
  refine cfOk_add ok73 fun args s r s' h1 h2 h3 => ?_
  unfold s71 at h3; split at h3
  · rename_i h; split at h3
    · rename_i hc; obtain ⟨rfl⟩ := hc; exact callOk ok73 Try.func71 h1 h2 h (lfOkF_no _ _).body (e71 _) rfl h3
    · exact ok73 _ _ _ _ _ h1 h2 h3
  · exact ok73 _ _ _ _ _ h1 h2 h3

/-- impl.DamperFor, loop 0: one round -/
noncomputable def b29l0 (ih : Int → Nat → Nat → Nat → Int → List (List Int) → (Nat × Nat × List (List Int) × List (List Int))) (x0 : Int) (x1 x2 x3 : Nat) (x4 : Int) (x5 : List (List Int)) : Nat × Nat × List (List Int) × List (List Int) :=
 cond (decide ((x4 : Int) < 65))
  (cond ((decide ((0 : Int) ≤ x0)) && (Nat.blt (Int.toNat x0) x5.length))
   (cond (Nat.beq ((r55 x2 x3 (x5.modify (Int.toNat x0) (fun r => spl 5 r 3 [(((fdiv .f32 (ofInt .f32 x4) 1115684864) : Nat) : Int)]))).1) 0)
    (cond ((decide ((0 : Int) ≤ x0)) && (Nat.blt (Int.toNat x0) (((r55 x2 x3 (x5.modify (Int.toNat x0) (fun r => spl 5 r 3 [(((fdiv .f32 (ofInt .f32 x4) 1115684864) : Nat) : Int)]))).2).length)))
     (cond (fgt .f32 (Int.toNat ((((r55 x2 x3 (x5.modify (Int.toNat x0) (fun r => spl 5 r 3 [(((fdiv .f32 (ofInt .f32 x4) 1115684864) : Nat) : Int)]))).2).getD (Int.toNat x0) []).getD 0 0)) x1 || feq .f32 (Int.toNat ((((r55 x2 x3 (x5.modify (Int.toNat x0) (fun r => spl 5 r 3 [(((fdiv .f32 (ofInt .f32 x4) 1115684864) : Nat) : Int)]))).2).getD (Int.toNat x0) []).getD 0 0)) x1)
      (cond ((decide ((0 : Int) ≤ x0)) && (Nat.blt (Int.toNat x0) ((x5.modify (Int.toNat x0) (fun r => spl 5 r 3 [(((fdiv .f32 (ofInt .f32 x4) 1115684864) : Nat) : Int)])).length)))
       (0, (Int.toNat (((x5.modify (Int.toNat x0) (fun r => spl 5 r 3 [(((fdiv .f32 (ofInt .f32 x4) 1115684864) : Nat) : Int)])).getD (Int.toNat x0) []).getD 3 0)), (x5.modify (Int.toNat x0) (fun r => spl 5 r 3 [(((fdiv .f32 (ofInt .f32 x4) 1115684864) : Nat) : Int)])), [])
       (2, 0, [], []))
      (ih x0 x1 x2 x3 (IntKind.i64.wrap (x4 + 1)) (x5.modify (Int.toNat x0) (fun r => spl 5 r 3 [(((fdiv .f32 (ofInt .f32 x4) 1115684864) : Nat) : Int)]))))
     (2, 0, [], []))
    (2, 0, [], []))
   (2, 0, [], []))
  (1, 0, [], x5)
noncomputable def r29l0 : Nat → Int → Nat → Nat → Nat → Int → List (List Int) → (Nat × Nat × List (List Int) × List (List Int))
 | 0 => fun _ _ _ _ _ _ => (2, 0, [], [])
 | m + 1 => b29l0 (r29l0 m)
noncomputable def a29l0 (x0 : Int) (x1 x2 x3 : Nat) (x4 : Int) (x5 : List (List Int)) (p : Nat × Nat × List (List Int) × List (List Int)) : Option (Fin' × List Value × St) := firstT ([((Nat.beq (p.1) 0), .ret, [.float .f32 (p.2.1), .int .i64 0], ⟨[⟨true, (some (.tab sc0 (p.2.2.1)))⟩], 1, [0]⟩), ((Nat.beq (p.1) 1), .exit 0, [anyV, anyV], ⟨[⟨true, (some (.tab sc0 (p.2.2.2)))⟩], 1, [0]⟩)].map fun (b, x) => (b, (x.1, frameOf 61 [10, 11] x.2.1, x.2.2)))
noncomputable def u29l0 (x0 : Int) (x1 x2 x3 : Nat) (x4 : Int) (x5 : List (List Int)) (p : Nat × Nat × List (List Int) × List (List Int)) : Option (Fin' × List Value × St) := alts ([((Nat.beq (p.1) 0), .ret, [.float .f32 (p.2.1), .int .i64 0], ⟨[⟨true, (some (.tab sc0 (p.2.2.1)))⟩], 1, [0]⟩), ((Nat.beq (p.1) 1), .exit 0, [anyV, anyV], ⟨[⟨true, (some (.tab sc0 (p.2.2.2)))⟩], 1, [0]⟩)].map fun (b, x) => (b, (x.1, frameOf 61 [10, 11] x.2.1, x.2.2))) some
theorem v29l0 (x0 : Int) (x1 x2 x3 : Nat) (x4 : Int) (x5 : List (List Int)) (p : Nat × Nat × List (List Int) × List (List Int)) : u29l0 x0 x1 x2 x3 x4 x5 p = a29l0 x0 x1 x2 x3 x4 x5 p := alts_first _
noncomputable def q29l0 (m : Nat) : SumK := fun vals s =>
 match vals, s.h with
 | [.iface f0 .nilIface, .int .i64 x0, .float .f32 x1, .float .f32 x2, .float .f32 x3, .int .i64 x4], [⟨true, some (.tab [.fl .f32, .fl .f32, .fl .f32, .fl .f32, .int .i64] x5)⟩] => if f0 = 0 then [((Nat.beq ((r29l0 m x0 x1 x2 x3 x4 x5).1) 0), .ret, [.float .f32 ((r29l0 m x0 x1 x2 x3 x4 x5).2.1), .int .i64 0], ⟨[⟨true, (some (.tab sc0 ((r29l0 m x0 x1 x2 x3 x4 x5).2.2.1)))⟩], 1, [0]⟩), ((Nat.beq ((r29l0 m x0 x1 x2 x3 x4 x5).1) 1), .exit 0, [anyV, anyV], ⟨[⟨true, (some (.tab sc0 ((r29l0 m x0 x1 x2 x3 x4 x5).2.2.2)))⟩], 1, [0]⟩)] else noQ vals s
 | _, _ => noQ vals s
noncomputable def w29l0 (ih : Int → Nat → Nat → Nat → Int → List (List Int) → (Nat × Nat × List (List Int) × List (List Int))) (x0 : Int) (x1 x2 x3 : Nat) (x4 : Int) (x5 : List (List Int)) : Option (Fin' × List Value × St) :=
 (cond (decide ((x4 : Int) < 65))
 (cond ((decide ((0 : Int) ≤ x0)) && (Nat.blt (Int.toNat x0) x5.length))
  (cond (Nat.blt (Int.toNat x0) x5.length)
   (cond (Nat.beq ((r55 x2 x3 (x5.modify (Int.toNat x0) (fun r => spl 5 r 3 [(((fdiv .f32 (ofInt .f32 x4) 1115684864) : Nat) : Int)]))).1) 0)
    (cond ((decide ((0 : Int) ≤ x0)) && (Nat.blt (Int.toNat x0) (((r55 x2 x3 (x5.modify (Int.toNat x0) (fun r => spl 5 r 3 [(((fdiv .f32 (ofInt .f32 x4) 1115684864) : Nat) : Int)]))).2).length)))
     (cond (Nat.blt (Int.toNat x0) (((r55 x2 x3 (x5.modify (Int.toNat x0) (fun r => spl 5 r 3 [(((fdiv .f32 (ofInt .f32 x4) 1115684864) : Nat) : Int)]))).2).length))
      (cond (fgt .f32 (Int.toNat ((((r55 x2 x3 (x5.modify (Int.toNat x0) (fun r => spl 5 r 3 [(((fdiv .f32 (ofInt .f32 x4) 1115684864) : Nat) : Int)]))).2).getD (Int.toNat x0) []).getD 0 0)) x1 || feq .f32 (Int.toNat ((((r55 x2 x3 (x5.modify (Int.toNat x0) (fun r => spl 5 r 3 [(((fdiv .f32 (ofInt .f32 x4) 1115684864) : Nat) : Int)]))).2).getD (Int.toNat x0) []).getD 0 0)) x1)
       (cond ((decide ((0 : Int) ≤ x0)) && (Nat.blt (Int.toNat x0) ((x5.modify (Int.toNat x0) (fun r => spl 5 r 3 [(((fdiv .f32 (ofInt .f32 x4) 1115684864) : Nat) : Int)])).length)))
        (cond (Nat.blt (Int.toNat x0) ((x5.modify (Int.toNat x0) (fun r => spl 5 r 3 [(((fdiv .f32 (ofInt .f32 x4) 1115684864) : Nat) : Int)])).length))
         (a29l0 x0 x1 x2 x3 x4 x5 (0, (Int.toNat (((x5.modify (Int.toNat x0) (fun r => spl 5 r 3 [(((fdiv .f32 (ofInt .f32 x4) 1115684864) : Nat) : Int)])).getD (Int.toNat x0) []).getD 3 0)), (x5.modify (Int.toNat x0) (fun r => spl 5 r 3 [(((fdiv .f32 (ofInt .f32 x4) 1115684864) : Nat) : Int)])), []))
         none)
        none)
       (u29l0 x0 x1 x2 x3 x4 x5 (ih x0 x1 x2 x3 (IntKind.i64.wrap (x4 + 1)) (x5.modify (Int.toNat x0) (fun r => spl 5 r 3 [(((fdiv .f32 (ofInt .f32 x4) 1115684864) : Nat) : Int)])))))
      none)
     none)
    none)
   none)
  none)
 (a29l0 x0 x1 x2 x3 x4 x5 (1, 0, [], x5)))
set_option maxRecDepth 100000 in
set_option maxHeartbeats 4000000 in
theorem e29l0 (m : Nat) (x0 : Int) (x1 x2 x3 : Nat) (x4 : Int) (x5 : List (List Int)) : evC Try.prog ext T74 noL 200 (loopN Try.f29 0) (loopTail ([0, 1, 2, 3, 4, 36], []) [10, 11] [0] (sumK 61 [0, 1, 2, 3, 4, 36] [10, 11] (q29l0 m))) (frameOf 61 [0, 1, 2, 3, 4, 36] [wsl 0, .int .i64 x0, .float .f32 x1, .float .f32 x2, .float .f32 x3, .int .i64 x4]) ⟨[⟨true, (some (.tab sc0 x5))⟩], 1, []⟩ = firstT ([((Nat.beq ((r29l0 (m + 1) x0 x1 x2 x3 x4 x5).1) 0), .ret, [.float .f32 ((r29l0 (m + 1) x0 x1 x2 x3 x4 x5).2.1), .int .i64 0], ⟨[⟨true, (some (.tab sc0 ((r29l0 (m + 1) x0 x1 x2 x3 x4 x5).2.2.1)))⟩], 1, [0]⟩), ((Nat.beq ((r29l0 (m + 1) x0 x1 x2 x3 x4 x5).1) 1), .exit 0, [anyV, anyV], ⟨[⟨true, (some (.tab sc0 ((r29l0 (m + 1) x0 x1 x2 x3 x4 x5).2.2.2)))⟩], 1, [0]⟩)].map fun (b, x) => (b, (x.1, frameOf 61 [10, 11] x.2.1, x.2.2))) :=
 (show evC Try.prog ext T74 noL 200 (loopN Try.f29 0) (loopTail ([0, 1, 2, 3, 4, 36], []) [10, 11] [0] (sumK 61 [0, 1, 2, 3, 4, 36] [10, 11] (q29l0 m))) (frameOf 61 [0, 1, 2, 3, 4, 36] [wsl 0, .int .i64 x0, .float .f32 x1, .float .f32 x2, .float .f32 x3, .int .i64 x4]) ⟨[⟨true, (some (.tab sc0 x5))⟩], 1, []⟩ = w29l0 (r29l0 m) x0 x1 x2 x3 x4 x5 from by kernel_rfl).trans
 (show w29l0 (r29l0 m) x0 x1 x2 x3 x4 x5 = a29l0 x0 x1 x2 x3 x4 x5 (r29l0 (m + 1) x0 x1 x2 x3 x4 x5) from by unfold w29l0; show _ = a29l0 x0 x1 x2 x3 x4 x5 (b29l0 (r29l0 m) x0 x1 x2 x3 x4 x5); unfold b29l0; exact (cond_both (a29l0 x0 x1 x2 x3 x4 x5) _ (fun h0 => (cond_both (a29l0 x0 x1 x2 x3 x4 x5) _ (fun h1 => (cond_t (ev_and2 h1) (cond_both (a29l0 x0 x1 x2 x3 x4 x5) _ (fun h2 => (cond_both (a29l0 x0 x1 x2 x3 x4 x5) _ (fun h3 => (cond_t (ev_and2 h3) (cond_both (a29l0 x0 x1 x2 x3 x4 x5) _ (fun h4 => (cond_both (a29l0 x0 x1 x2 x3 x4 x5) _ (fun h5 => (cond_t (ev_and2 h5) rfl)) (fun h5 => rfl))) (fun h4 => (v29l0 x0 x1 x2 x3 x4 x5 ((r29l0 m) x0 x1 x2 x3 (IntKind.i64.wrap (x4 + 1)) (x5.modify (Int.toNat x0) (fun r => spl 5 r 3 [(((fdiv .f32 (ofInt .f32 x4) 1115684864) : Nat) : Int)])))))))) (fun h3 => rfl))) (fun h2 => rfl)))) (fun h1 => rfl))) (fun h0 => rfl)))
set_option maxRecDepth 100000 in
set_option maxHeartbeats 4000000 in
theorem qm29l0 : ∀ m, SumKOk Try.prog (loopN Try.f29 0) 61 [0, 1, 2, 3, 4, 36] [10, 11] (q29l0 m) := by
  intro m
  induction m with
  | zero =>
    intro vals s x h1 h2 h3
    unfold q29l0 at h3; split at h3
    · rename_i h; split at h3
      · rename_i hc; obtain ⟨rfl⟩ := hc; exact absurd h3 (by simp [r29l0, firstT, Nat.beq])
      · exact noQ_ok _ _ _ h1 h2 h3
    · exact noQ_ok _ _ _ h1 h2 h3
  | succ m ih =>
    intro vals s x h1 h2 h3
    unfold q29l0 at h3; split at h3
    · rename_i h; split at h3
      · rename_i hc; obtain ⟨rfl⟩ := hc; exact sum_step ok74 extOk mixed ((lfOkF_no _ _).inner (by kernel_rfl)) ih h1 h2 h (e29l0 m _ _ _ _ _ _) rfl h3
      · exact noQ_ok _ _ _ h1 h2 h3
    · exact noQ_ok _ _ _ h1 h2 h3
noncomputable def Q29l0 : SumK := fun vals s => q29l0 (fuelOf vals s.h) vals s
theorem qok29l0 : SumKOk Try.prog (loopN Try.f29 0) 61 [0, 1, 2, 3, 4, 36] [10, 11] Q29l0 := fuel_ok qm29l0 fuelOf
noncomputable def L29_1 : LoopT := addL noL 9 ([0, 1, 2, 3, 4, 36], []) (sumK 61 [0, 1, 2, 3, 4, 36] [10, 11] Q29l0)
theorem lok29_1 : LfOkF Try.prog L29_1 Try.f29 := lfOkF_add (lfOkF_no _ _) qok29l0 (by kernel_rfl) (by kernel_rfl) (by kernel_rfl)

/-- impl.DamperFor -/
noncomputable def r29 (x0 : Int) (x1 x2 x3 : Nat) (x4 : List (List Int)) : Nat × Nat × Int :=
 cond (Nat.beq ((r54 x2 x3 x4).1) 0)
  (cond ((((r54 x2 x3 x4).2) : Int) != 0)
   (0, 0, ((r54 x2 x3 x4).2))
   (cond (decide ((x0 : Int) < 0))
    (0, 0, 2)
    (cond (decide ((x0 : Int) ≥ ((x4.length : Nat) : Int)))
     (0, 0, 2)
     (cond (!(r70 x1))
      (0, 0, 2)
      (cond (Nat.beq ((r71 x4).1) 0)
       (cond (Nat.beq ((r29l0 (1000 + ((r71 x4).2).length) x0 x1 x2 x3 0 ((r71 x4).2)).1) 0)
        (0, ((r29l0 (1000 + ((r71 x4).2).length) x0 x1 x2 x3 0 ((r71 x4).2)).2.1), 0)
        (cond (Nat.beq ((r29l0 (1000 + ((r71 x4).2).length) x0 x1 x2 x3 0 ((r71 x4).2)).1) 1)
         (0, 0, 6)
         (1, 0, 0)))
       (1, 0, 0))))))
  (1, 0, 0)
noncomputable def a29 (x0 : Int) (x1 x2 x3 : Nat) (x4 : List (List Int)) (p : Nat × Nat × Int) : Res := firstT [((Nat.beq (p.1) 0), .tuple #[.float .f32 (p.2.1), .int .i64 (p.2.2)], ⟨[⟨true, (some (.tab sc0 x4))⟩], 1, []⟩)]
noncomputable def w29 (x0 : Int) (x1 x2 x3 : Nat) (x4 : List (List Int)) : Res :=
 (cond (Nat.beq ((r54 x2 x3 x4).1) 0)
 (cond ((((r54 x2 x3 x4).2) : Int) != 0)
  (a29 x0 x1 x2 x3 x4 (0, 0, ((r54 x2 x3 x4).2)))
  (cond (decide ((x0 : Int) < 0))
   (a29 x0 x1 x2 x3 x4 (0, 0, 2))
   (cond (decide ((x0 : Int) ≥ ((x4.length : Nat) : Int)))
    (a29 x0 x1 x2 x3 x4 (0, 0, 2))
    (cond (!(r70 x1))
     (a29 x0 x1 x2 x3 x4 (0, 0, 2))
     (cond (Nat.beq ((r71 x4).1) 0)
      (cond (Nat.beq ((r29l0 (1000 + ((r71 x4).2).length) x0 x1 x2 x3 0 ((r71 x4).2)).1) 0)
       (a29 x0 x1 x2 x3 x4 (0, ((r29l0 (1000 + ((r71 x4).2).length) x0 x1 x2 x3 0 ((r71 x4).2)).2.1), 0))
       (cond (Nat.beq ((r29l0 (1000 + ((r71 x4).2).length) x0 x1 x2 x3 0 ((r71 x4).2)).1) 1)
        (a29 x0 x1 x2 x3 x4 (0, 0, 6))
        none))
      none)))))
 none)
set_option maxRecDepth 100000 in
set_option maxHeartbeats 4000000 in
theorem e29 (x0 : Int) (x1 x2 x3 : Nat) (x4 : List (List Int)) : evFn Try.prog ext T74 L29_1 200 Try.f29 [wsl 0, .int .i64 x0, .float .f32 x1, .float .f32 x2, .float .f32 x3] ⟨[⟨true, (some (.tab sc0 x4))⟩], 1, []⟩ = firstT [((Nat.beq ((r29 x0 x1 x2 x3 x4).1) 0), .tuple #[.float .f32 ((r29 x0 x1 x2 x3 x4).2.1), .int .i64 ((r29 x0 x1 x2 x3 x4).2.2)], ⟨[⟨true, (some (.tab sc0 x4))⟩], 1, []⟩)] :=
 (show evFn Try.prog ext T74 L29_1 200 Try.f29 [wsl 0, .int .i64 x0, .float .f32 x1, .float .f32 x2, .float .f32 x3] ⟨[⟨true, (some (.tab sc0 x4))⟩], 1, []⟩ = w29 x0 x1 x2 x3 x4 from by kernel_rfl).trans
 (show w29 x0 x1 x2 x3 x4 = a29 x0 x1 x2 x3 x4 (r29 x0 x1 x2 x3 x4) from by unfold w29 r29; exact (cond_app (a29 x0 x1 x2 x3 x4) _ (cond_app (a29 x0 x1 x2 x3 x4) _ rfl (cond_app (a29 x0 x1 x2 x3 x4) _ rfl (cond_app (a29 x0 x1 x2 x3 x4) _ rfl (cond_app (a29 x0 x1 x2 x3 x4) _ rfl (cond_app (a29 x0 x1 x2 x3 x4) _ (cond_app (a29 x0 x1 x2 x3 x4) _ rfl (cond_app (a29 x0 x1 x2 x3 x4) _ rfl rfl)) rfl))))) rfl))
noncomputable def s29 (args : List Value) (s : St) : List (Bool × Value × St) :=
 match args, s.h with
 | [.iface f0 .nilIface, .int .i64 x0, .float .f32 x1, .float .f32 x2, .float .f32 x3], [⟨true, some (.tab [.fl .f32, .fl .f32, .fl .f32, .fl .f32, .int .i64] x4)⟩] => if f0 = 0 then [((Nat.beq ((r29 x0 x1 x2 x3 x4).1) 0), .tuple #[.float .f32 ((r29 x0 x1 x2 x3 x4).2.1), .int .i64 ((r29 x0 x1 x2 x3 x4).2.2)], ⟨[⟨true, (some (.tab sc0 x4))⟩], 1, []⟩)] else T74 29 args s
 | _, _ => T74 29 args s
noncomputable def T75 : CallF := addF T74 29 s29
set_option maxRecDepth 100000 in
set_option maxHeartbeats 4000000 in
theorem ok75 : CfOk Try.prog T75 := by
  refine cfOk_add ok74 fun args s r s' h1 h2 h3 => ?_
  unfold s29 at h3; split at h3
  · rename_i h; split at h3
    · rename_i hc; obtain ⟨rfl⟩ := hc; exact callOk ok74 Try.func29 h1 h2 h lok29_1.body (e29 _ _ _ _ _) rfl h3
    · exact ok74 _ _ _ _ _ h1 h2 h3
  · exact ok74 _ _ _ _ _ h1 h2 h3

/-- laws.FnExactDamperFor -/
noncomputable def r5 (x0 : Int) (x1 x2 x3 : Nat) (x4 : List (List Int)) : Nat × Bool :=
 cond (decide (((r24 1048576 x4) : Int) < 0))
  (0, true)
  (cond (Nat.beq ((r25 x4).1) 0)
   (cond (Nat.beq ((r28 x0 x1 x2 x3 ((r25 x4).2)).1) 0)
    (cond (Nat.beq ((r29 x0 x1 x2 x3 ((r25 x4).2)).1) 0)
     (cond (!(r26 (widen ((r29 x0 x1 x2 x3 ((r25 x4).2)).2.1)) (widen ((r28 x0 x1 x2 x3 ((r25 x4).2)).2.1))))
      (0, false)
      (cond ((((r29 x0 x1 x2 x3 ((r25 x4).2)).2.2) : Int) != ((r28 x0 x1 x2 x3 ((r25 x4).2)).2.2))
       (0, false)
       (cond (Nat.beq ((r27 ((r25 x4).2) ((r25 x4).2)).1) 0)
        (cond (!((r27 ((r25 x4).2) ((r25 x4).2)).2))
         (0, false)
         (0, true))
        (1, false))))
     (1, false))
    (1, false))
   (1, false))
noncomputable def a5 (x0 : Int) (x1 x2 x3 : Nat) (x4 : List (List Int)) (p : Nat × Bool) : Res := firstT [((Nat.beq (p.1) 0), .bool (p.2), ⟨[⟨false, (some (.tab sc0 x4))⟩], 1, []⟩)]
noncomputable def w5 (x0 : Int) (x1 x2 x3 : Nat) (x4 : List (List Int)) : Res :=
 (cond (decide (((r24 1048576 x4) : Int) < 0))
 (a5 x0 x1 x2 x3 x4 (0, true))
 (cond (Nat.beq ((r25 x4).1) 0)
  (cond (Nat.beq ((r28 x0 x1 x2 x3 ((r25 x4).2)).1) 0)
   (cond (Nat.beq ((r25 x4).1) 0)
    (cond (Nat.beq ((r29 x0 x1 x2 x3 ((r25 x4).2)).1) 0)
     (cond (!(r26 (widen ((r29 x0 x1 x2 x3 ((r25 x4).2)).2.1)) (widen ((r28 x0 x1 x2 x3 ((r25 x4).2)).2.1))))
      (a5 x0 x1 x2 x3 x4 (0, false))
      (cond ((((r29 x0 x1 x2 x3 ((r25 x4).2)).2.2) : Int) != ((r28 x0 x1 x2 x3 ((r25 x4).2)).2.2))
       (a5 x0 x1 x2 x3 x4 (0, false))
       (cond (Nat.beq ((r25 x4).1) 0)
        (cond (Nat.beq ((r27 ((r25 x4).2) ((r25 x4).2)).1) 0)
         (cond (!((r27 ((r25 x4).2) ((r25 x4).2)).2))
          (a5 x0 x1 x2 x3 x4 (0, false))
          (a5 x0 x1 x2 x3 x4 (0, true)))
         none)
        none)))
     none)
    none)
   none)
  none))
set_option maxRecDepth 100000 in
set_option maxHeartbeats 4000000 in
theorem e5 (x0 : Int) (x1 x2 x3 : Nat) (x4 : List (List Int)) : evFn Try.prog ext T75 noL 200 Try.f5 [wsl 0, .int .i64 x0, .float .f32 x1, .float .f32 x2, .float .f32 x3] ⟨[⟨false, (some (.tab sc0 x4))⟩], 1, []⟩ = firstT [((Nat.beq ((r5 x0 x1 x2 x3 x4).1) 0), .bool ((r5 x0 x1 x2 x3 x4).2), ⟨[⟨false, (some (.tab sc0 x4))⟩], 1, []⟩)] :=
 (show evFn Try.prog ext T75 noL 200 Try.f5 [wsl 0, .int .i64 x0, .float .f32 x1, .float .f32 x2, .float .f32 x3] ⟨[⟨false, (some (.tab sc0 x4))⟩], 1, []⟩ = w5 x0 x1 x2 x3 x4 from by kernel_rfl).trans
 (show w5 x0 x1 x2 x3 x4 = a5 x0 x1 x2 x3 x4 (r5 x0 x1 x2 x3 x4) from by unfold w5 r5; exact (cond_both (a5 x0 x1 x2 x3 x4) _ (fun h0 => rfl) (fun h0 => (cond_both (a5 x0 x1 x2 x3 x4) _ (fun h1 => (cond_both (a5 x0 x1 x2 x3 x4) _ (fun h2 => (cond_t h1 (cond_both (a5 x0 x1 x2 x3 x4) _ (fun h3 => (cond_both (a5 x0 x1 x2 x3 x4) _ (fun h4 => rfl) (fun h4 => (cond_both (a5 x0 x1 x2 x3 x4) _ (fun h5 => rfl) (fun h5 => (cond_t h1 (cond_app (a5 x0 x1 x2 x3 x4) _ (cond_app (a5 x0 x1 x2 x3 x4) _ rfl rfl) rfl))))))) (fun h3 => rfl)))) (fun h2 => rfl))) (fun h1 => rfl)))))
noncomputable def s5 (args : List Value) (s : St) : List (Bool × Value × St) :=
 match args, s.h with
 | [.iface f0 .nilIface, .int .i64 x0, .float .f32 x1, .float .f32 x2, .float .f32 x3], [⟨false, some (.tab [.fl .f32, .fl .f32, .fl .f32, .fl .f32, .int .i64] x4)⟩] => if f0 = 0 then [((Nat.beq ((r5 x0 x1 x2 x3 x4).1) 0), .bool ((r5 x0 x1 x2 x3 x4).2), ⟨[⟨false, (some (.tab sc0 x4))⟩], 1, []⟩)] else T75 5 args s
 | _, _ => T75 5 args s
noncomputable def T76 : CallF := addF T75 5 s5
set_option maxRecDepth 100000 in
set_option maxHeartbeats 4000000 in
theorem ok76 : CfOk Try.prog T76 := by
  refine cfOk_add ok75 fun args s r s' h1 h2 h3 => ?_
  unfold s5 at h3; split at h3
  · rename_i h; split at h3
    · rename_i hc; obtain ⟨rfl⟩ := hc; exact callOk ok75 Try.func5 h1 h2 h (lfOkF_no _ _).body (e5 _ _ _ _ _) rfl h3
    · exact ok75 _ _ _ _ _ h1 h2 h3
  · exact ok75 _ _ _ _ _ h1 h2 h3
end Go.Proofs.Ytdpkbkmmlbmllaa
