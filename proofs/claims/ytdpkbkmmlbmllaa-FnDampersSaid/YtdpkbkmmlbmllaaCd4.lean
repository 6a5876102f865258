/- What the functions that the statements reach answer, part 4. -/
import Derived.Test.YtdpkbkmmlbmllaaCd3
namespace Go.Proofs.Ytdpkbkmmlbmllaa
open Go.Ab
set_option maxHeartbeats 4000000
set_option maxRecDepth 100000

/-- spec.l03Back, loop 0: one round -/
noncomputable def b76l0 (ih : Int → List (List Int) → List (List Int) → (Nat × List (List Int))) (x0 : Int) (x1 x2 : List (List Int)) : Nat × List (List Int) :=
 cond (decide ((x0 : Int) < ((x1.length : Nat) : Int)))
  (cond ((decide ((0 : Int) ≤ x0)) && (Nat.blt (Int.toNat x0) x1.length))
   (cond (flt .f32 (Int.toNat ((x1.getD (Int.toNat x0) []).getD 0 0)) 0)
    (cond (Nat.ble ((x2.length + 1) * 9) 140737488355328)
     (cond (Nat.beq ((ih (IntKind.i64.wrap (x0 + 1)) x1 (((x2.drop 0).take x2.length) ++ ([[x0]] : List (List Int)))).1) 0)
      (0, ((ih (IntKind.i64.wrap (x0 + 1)) x1 (((x2.drop 0).take x2.length) ++ ([[x0]] : List (List Int)))).2))
      (cond (Nat.beq ((ih (IntKind.i64.wrap (x0 + 1)) x1 (((x2.drop 0).take x2.length) ++ ([[x0]] : List (List Int)))).1) 1)
       (0, (((x2.drop 0).take x2.length) ++ ([[x0]] : List (List Int))))
       (2, [])))
     (2, []))
    (ih (IntKind.i64.wrap (x0 + 1)) x1 x2))
   (2, []))
  (1, [])
noncomputable def r76l0 : Nat → Int → List (List Int) → List (List Int) → (Nat × List (List Int))
 | 0 => fun _ _ _ => (2, [])
 | m + 1 => b76l0 (r76l0 m)
noncomputable def a76l0 (x0 : Int) (x1 x2 : List (List Int)) (p : Nat × List (List Int)) : Option (Fin' × List Value × St) := firstT ([((Nat.beq (p.1) 0), .exit 0, [wsl 2], ⟨[⟨true, (some (.tab [.fl .f32] x1))⟩, ⟨true, none⟩, ⟨true, (some (.tab [.int .i64] (p.2)))⟩], 2, [1]⟩), ((Nat.beq (p.1) 1), .exit 0, [wsl 1], ⟨[⟨true, (some (.tab [.fl .f32] x1))⟩, ⟨true, (some (.tab [.int .i64] x2))⟩], 2, [1]⟩)].map fun (b, x) => (b, (x.1, frameOf 22 [3] x.2.1, x.2.2)))
noncomputable def u76l0 (x0 : Int) (x1 x2 : List (List Int)) (p : Nat × List (List Int)) : Option (Fin' × List Value × St) := alts ([((Nat.beq (p.1) 0), .exit 0, [wsl 2], ⟨[⟨true, (some (.tab [.fl .f32] x1))⟩, ⟨true, none⟩, ⟨true, (some (.tab [.int .i64] (p.2)))⟩], 2, [1]⟩), ((Nat.beq (p.1) 1), .exit 0, [wsl 1], ⟨[⟨true, (some (.tab [.fl .f32] x1))⟩, ⟨true, (some (.tab [.int .i64] x2))⟩], 2, [1]⟩)].map fun (b, x) => (b, (x.1, frameOf 22 [3] x.2.1, x.2.2))) some
theorem v76l0 (x0 : Int) (x1 x2 : List (List Int)) (p : Nat × List (List Int)) : u76l0 x0 x1 x2 p = a76l0 x0 x1 x2 p := alts_first _
noncomputable def q76l0 (m : Nat) : SumK := fun vals s =>
 match vals, s.h with
 | [.iface f0 .nilIface, .iface f1 .nilIface, .int .i64 x0], [⟨true, some (.tab [.fl .f32] x1)⟩, ⟨true, some (.tab [.int .i64] x2)⟩] => if f0 = 0 ∧ f1 = 1 then [((Nat.beq ((r76l0 m x0 x1 x2).1) 0), .exit 0, [wsl 2], ⟨[⟨true, (some (.tab [.fl .f32] x1))⟩, ⟨true, none⟩, ⟨true, (some (.tab [.int .i64] ((r76l0 m x0 x1 x2).2)))⟩], 2, [1]⟩), ((Nat.beq ((r76l0 m x0 x1 x2).1) 1), .exit 0, [wsl 1], ⟨[⟨true, (some (.tab [.fl .f32] x1))⟩, ⟨true, (some (.tab [.int .i64] x2))⟩], 2, [1]⟩)] else noQ vals s
 | _, _ => noQ vals s
noncomputable def w76l0 (ih : Int → List (List Int) → List (List Int) → (Nat × List (List Int))) (x0 : Int) (x1 x2 : List (List Int)) : Option (Fin' × List Value × St) :=
 (cond (decide ((x0 : Int) < ((x1.length : Nat) : Int)))
 (cond ((decide ((0 : Int) ≤ x0)) && (Nat.blt (Int.toNat x0) x1.length))
  (cond (Nat.blt (Int.toNat x0) x1.length)
   (cond (flt .f32 (Int.toNat ((x1.getD (Int.toNat x0) []).getD 0 0)) 0)
    (cond (Nat.ble ((x2.length + 1) * 9) 140737488355328)
     (cond (Nat.beq ((ih (IntKind.i64.wrap (x0 + 1)) x1 (((x2.drop 0).take x2.length) ++ ([[x0]] : List (List Int)))).1) 0)
      (a76l0 x0 x1 x2 (0, ((ih (IntKind.i64.wrap (x0 + 1)) x1 (((x2.drop 0).take x2.length) ++ ([[x0]] : List (List Int)))).2)))
      (cond (Nat.beq ((ih (IntKind.i64.wrap (x0 + 1)) x1 (((x2.drop 0).take x2.length) ++ ([[x0]] : List (List Int)))).1) 1)
       (a76l0 x0 x1 x2 (0, (((x2.drop 0).take x2.length) ++ ([[x0]] : List (List Int)))))
       none))
     none)
    (u76l0 x0 x1 x2 (ih (IntKind.i64.wrap (x0 + 1)) x1 x2)))
   none)
  none)
 (a76l0 x0 x1 x2 (1, [])))
set_option maxRecDepth 100000 in
set_option maxHeartbeats 4000000 in
theorem e76l0 (m : Nat) (x0 : Int) (x1 x2 : List (List Int)) : evC Try.prog ext T60 noL 200 (loopN Try.f76 0) (loopTail ([0, 3, 4], []) [3] [1] (sumK 22 [0, 3, 4] [3] (q76l0 m))) (frameOf 22 [0, 3, 4] [wsl 0, wsl 1, .int .i64 x0]) ⟨[⟨true, (some (.tab [.fl .f32] x1))⟩, ⟨true, (some (.tab [.int .i64] x2))⟩], 2, []⟩ = firstT ([((Nat.beq ((r76l0 (m + 1) x0 x1 x2).1) 0), .exit 0, [wsl 2], ⟨[⟨true, (some (.tab [.fl .f32] x1))⟩, ⟨true, none⟩, ⟨true, (some (.tab [.int .i64] ((r76l0 (m + 1) x0 x1 x2).2)))⟩], 2, [1]⟩), ((Nat.beq ((r76l0 (m + 1) x0 x1 x2).1) 1), .exit 0, [wsl 1], ⟨[⟨true, (some (.tab [.fl .f32] x1))⟩, ⟨true, (some (.tab [.int .i64] x2))⟩], 2, [1]⟩)].map fun (b, x) => (b, (x.1, frameOf 22 [3] x.2.1, x.2.2))) :=
 (show evC Try.prog ext T60 noL 200 (loopN Try.f76 0) (loopTail ([0, 3, 4], []) [3] [1] (sumK 22 [0, 3, 4] [3] (q76l0 m))) (frameOf 22 [0, 3, 4] [wsl 0, wsl 1, .int .i64 x0]) ⟨[⟨true, (some (.tab [.fl .f32] x1))⟩, ⟨true, (some (.tab [.int .i64] x2))⟩], 2, []⟩ = w76l0 (r76l0 m) x0 x1 x2 from by kernel_rfl).trans
 (show w76l0 (r76l0 m) x0 x1 x2 = a76l0 x0 x1 x2 (r76l0 (m + 1) x0 x1 x2) from by unfold w76l0; show _ = a76l0 x0 x1 x2 (b76l0 (r76l0 m) x0 x1 x2); unfold b76l0; exact (cond_both (a76l0 x0 x1 x2) _ (fun h0 => (cond_both (a76l0 x0 x1 x2) _ (fun h1 => (cond_t (ev_and2 h1) (cond_app (a76l0 x0 x1 x2) _ (cond_app (a76l0 x0 x1 x2) _ (cond_app (a76l0 x0 x1 x2) _ rfl (cond_app (a76l0 x0 x1 x2) _ rfl rfl)) rfl) (v76l0 x0 x1 x2 ((r76l0 m) (IntKind.i64.wrap (x0 + 1)) x1 x2))))) (fun h1 => rfl))) (fun h0 => rfl)))
set_option maxRecDepth 100000 in
set_option maxHeartbeats 4000000 in
theorem qm76l0 : ∀ m, SumKOk Try.prog (loopN Try.f76 0) 22 [0, 3, 4] [3] (q76l0 m) := by
  intro m
  induction m with
  | zero =>
    intro vals s x h1 h2 h3
    unfold q76l0 at h3; split at h3
    · rename_i h; split at h3
      · rename_i hc; obtain ⟨rfl, rfl⟩ := hc; exact absurd h3 (by simp [r76l0, firstT, Nat.beq])
      · exact noQ_ok _ _ _ h1 h2 h3
    · exact noQ_ok _ _ _ h1 h2 h3
  | succ m ih =>
    intro vals s x h1 h2 h3
    unfold q76l0 at h3; split at h3
    · rename_i h; split at h3
      · rename_i hc; obtain ⟨rfl, rfl⟩ := hc; exact sum_step ok60 extOk mixed ((lfOkF_no _ _).inner (by kernel_rfl)) ih h1 h2 h (e76l0 m _ _ _) rfl h3
      · exact noQ_ok _ _ _ h1 h2 h3
    · exact noQ_ok _ _ _ h1 h2 h3
noncomputable def Q76l0 : SumK := fun vals s => q76l0 (fuelOf vals s.h) vals s
theorem qok76l0 : SumKOk Try.prog (loopN Try.f76 0) 22 [0, 3, 4] [3] Q76l0 := fuel_ok qm76l0 fuelOf
noncomputable def L76_1 : LoopT := addL noL 4 ([0, 3, 4], []) (sumK 22 [0, 3, 4] [3] Q76l0)
theorem lok76_1 : LfOkF Try.prog L76_1 Try.f76 := lfOkF_add (lfOkF_no _ _) qok76l0 (by kernel_rfl) (by kernel_rfl) (by kernel_rfl)

/-- spec.l03Back -/
noncomputable def r76 (x0 : List (List Int)) : Nat × List (List Int) :=
 cond (Nat.beq ((r76l0 (1000 + 0 + x0.length) 0 x0 ([] : List (List Int))).1) 0)
  (0, ((r76l0 (1000 + 0 + x0.length) 0 x0 ([] : List (List Int))).2))
  (cond (Nat.beq ((r76l0 (1000 + 0 + x0.length) 0 x0 ([] : List (List Int))).1) 1)
   (0, ([] : List (List Int)))
   (1, []))
noncomputable def a76 (x0 : List (List Int)) (p : Nat × List (List Int)) : Res := firstT [((Nat.beq (p.1) 0), wsl 1, ⟨[⟨true, (some (.tab [.fl .f32] x0))⟩, ⟨true, (some (.tab [.int .i64] (p.2)))⟩], 1, []⟩)]
noncomputable def w76 (x0 : List (List Int)) : Res :=
 (cond (Nat.beq ((r76l0 (1000 + 0 + x0.length) 0 x0 ([] : List (List Int))).1) 0)
 (a76 x0 (0, ((r76l0 (1000 + 0 + x0.length) 0 x0 ([] : List (List Int))).2)))
 (cond (Nat.beq ((r76l0 (1000 + 0 + x0.length) 0 x0 ([] : List (List Int))).1) 1)
  (a76 x0 (0, ([] : List (List Int))))
  none))
set_option maxRecDepth 100000 in
set_option maxHeartbeats 4000000 in
theorem e76 (x0 : List (List Int)) : evFn Try.prog ext T60 L76_1 200 Try.f76 [wsl 0] ⟨[⟨true, (some (.tab [.fl .f32] x0))⟩], 1, []⟩ = firstT [((Nat.beq ((r76 x0).1) 0), wsl 1, ⟨[⟨true, (some (.tab [.fl .f32] x0))⟩, ⟨true, (some (.tab [.int .i64] ((r76 x0).2)))⟩], 1, []⟩)] :=
 (show evFn Try.prog ext T60 L76_1 200 Try.f76 [wsl 0] ⟨[⟨true, (some (.tab [.fl .f32] x0))⟩], 1, []⟩ = w76 x0 from by kernel_rfl).trans
 (show w76 x0 = a76 x0 (r76 x0) from by unfold w76 r76; exact (cond_app (a76 x0) _ rfl (cond_app (a76 x0) _ rfl rfl)))
noncomputable def s76 (args : List Value) (s : St) : List (Bool × Value × St) :=
 match args, s.h with
 | [.iface f0 .nilIface], [⟨true, some (.tab [.fl .f32] x0)⟩] => if f0 = 0 then [((Nat.beq ((r76 x0).1) 0), wsl 1, ⟨[⟨true, (some (.tab [.fl .f32] x0))⟩, ⟨true, (some (.tab [.int .i64] ((r76 x0).2)))⟩], 1, []⟩)] else T60 76 args s
 | _, _ => T60 76 args s
noncomputable def T61 : CallF := addF T60 76 s76
set_option maxRecDepth 100000 in
set_option maxHeartbeats 4000000 in
theorem ok61 : CfOk Try.prog T61 := by
  refine cfOk_add ok60 fun args s r s' h1 h2 h3 => ?_
  unfold s76 at h3; split at h3
  · rename_i h; split at h3
    · rename_i hc; obtain ⟨rfl⟩ := hc; exact callOk ok60 Try.func76 h1 h2 h lok76_1.body (e76 _) rfl h3
    · exact ok60 _ _ _ _ _ h1 h2 h3
  · exact ok60 _ _ _ _ _ h1 h2 h3

/-- spec.BlownBack -/
noncomputable def r37 (x0 x1 : Nat) (x2 : List (List Int)) : Nat × Int × List (List Int) :=
 cond (Nat.beq ((r16 x0 x1 x2).1) 0)
  (cond ((((r16 x0 x1 x2).2.1) : Int) != 0)
   (0, ((r16 x0 x1 x2).2.1), ([] : List (List Int)))
   (cond (Nat.beq ((r76 ((r16 x0 x1 x2).2.2)).1) 0)
    (0, 0, ((r76 ((r16 x0 x1 x2).2.2)).2))
    (1, 0, [])))
  (1, 0, [])
noncomputable def a37 (x0 x1 : Nat) (x2 : List (List Int)) (p : Nat × Int × List (List Int)) : Res := firstT [((Nat.beq (p.1) 0), .tuple #[wsl 1, .int .i64 (p.2.1)], ⟨[⟨true, (some (.tab sc0 x2))⟩, ⟨true, (some (.tab [.int .i64] (p.2.2)))⟩], 1, []⟩)]
noncomputable def w37 (x0 x1 : Nat) (x2 : List (List Int)) : Res :=
 (cond (Nat.beq ((r16 x0 x1 x2).1) 0)
 (cond ((((r16 x0 x1 x2).2.1) : Int) != 0)
  (a37 x0 x1 x2 (0, ((r16 x0 x1 x2).2.1), ([] : List (List Int))))
  (cond (Nat.beq ((r76 ((r16 x0 x1 x2).2.2)).1) 0)
   (a37 x0 x1 x2 (0, 0, ((r76 ((r16 x0 x1 x2).2.2)).2)))
   none))
 none)
set_option maxRecDepth 100000 in
set_option maxHeartbeats 4000000 in
theorem e37 (x0 x1 : Nat) (x2 : List (List Int)) : evFn Try.prog ext T61 noL 200 Try.f37 [wsl 0, .float .f32 x0, .float .f32 x1] ⟨[⟨true, (some (.tab sc0 x2))⟩], 1, []⟩ = firstT [((Nat.beq ((r37 x0 x1 x2).1) 0), .tuple #[wsl 1, .int .i64 ((r37 x0 x1 x2).2.1)], ⟨[⟨true, (some (.tab sc0 x2))⟩, ⟨true, (some (.tab [.int .i64] ((r37 x0 x1 x2).2.2)))⟩], 1, []⟩)] :=
 (show evFn Try.prog ext T61 noL 200 Try.f37 [wsl 0, .float .f32 x0, .float .f32 x1] ⟨[⟨true, (some (.tab sc0 x2))⟩], 1, []⟩ = w37 x0 x1 x2 from by kernel_rfl).trans
 (show w37 x0 x1 x2 = a37 x0 x1 x2 (r37 x0 x1 x2) from by unfold w37 r37; exact (cond_app (a37 x0 x1 x2) _ (cond_app (a37 x0 x1 x2) _ rfl (cond_app (a37 x0 x1 x2) _ rfl rfl)) rfl))
noncomputable def s37 (args : List Value) (s : St) : List (Bool × Value × St) :=
 match args, s.h with
 | [.iface f0 .nilIface, .float .f32 x0, .float .f32 x1], [⟨true, some (.tab [.fl .f32, .fl .f32, .fl .f32, .fl .f32, .int .i64] x2)⟩] => if f0 = 0 then [((Nat.beq ((r37 x0 x1 x2).1) 0), .tuple #[wsl 1, .int .i64 ((r37 x0 x1 x2).2.1)], ⟨[⟨true, (some (.tab sc0 x2))⟩, ⟨true, (some (.tab [.int .i64] ((r37 x0 x1 x2).2.2)))⟩], 1, []⟩)] else T61 37 args s
 | _, _ => T61 37 args s
noncomputable def T62 : CallF := addF T61 37 s37
set_option maxRecDepth 100000 in
set_option maxHeartbeats 4000000 in
theorem ok62 : CfOk Try.prog T62 := by
  refine cfOk_add ok61 fun args s r s' h1 h2 h3 => ?_
  unfold s37 at h3; split at h3
  · rename_i h; split at h3
    · rename_i hc; obtain ⟨rfl⟩ := hc; exact callOk ok61 Try.func37 h1 h2 h (lfOkF_no _ _).body (e37 _ _ _) rfl h3
    · exact ok61 _ _ _ _ _ h1 h2 h3
  · exact ok61 _ _ _ _ _ h1 h2 h3

/-- impl.blown, loop 0: one round -/
noncomputable def b59l0 (ih : Int → Int → List (List Int) → List (List Int) → (Nat × List (List Int))) (x0 x1 : Int) (x2 x3 : List (List Int)) : Nat × List (List Int) :=
 cond (decide ((x1 : Int) < x0))
  (cond ((decide ((0 : Int) ≤ x1)) && (Nat.blt (Int.toNat x1) x3.length))
   (cond (flt .f32 (Int.toNat ((x3.getD (Int.toNat x1) []).getD 0 0)) 0)
    (cond (Nat.ble ((x2.length + 1) * 9) 140737488355328)
     (cond (Nat.beq ((ih x0 (IntKind.i64.wrap (x1 + 1)) (((x2.drop 0).take x2.length) ++ ([[x1]] : List (List Int))) x3).1) 0)
      (0, ((ih x0 (IntKind.i64.wrap (x1 + 1)) (((x2.drop 0).take x2.length) ++ ([[x1]] : List (List Int))) x3).2))
      (cond (Nat.beq ((ih x0 (IntKind.i64.wrap (x1 + 1)) (((x2.drop 0).take x2.length) ++ ([[x1]] : List (List Int))) x3).1) 1)
       (0, (((x2.drop 0).take x2.length) ++ ([[x1]] : List (List Int))))
       (2, [])))
     (2, []))
    (ih x0 (IntKind.i64.wrap (x1 + 1)) x2 x3))
   (2, []))
  (1, [])
noncomputable def r59l0 : Nat → Int → Int → List (List Int) → List (List Int) → (Nat × List (List Int))
 | 0 => fun _ _ _ _ => (2, [])
 | m + 1 => b59l0 (r59l0 m)
noncomputable def a59l0 (x0 x1 : Int) (x2 x3 : List (List Int)) (p : Nat × List (List Int)) : Option (Fin' × List Value × St) := firstT ([((Nat.beq (p.1) 0), .exit 0, [wsl 2], ⟨[⟨true, none⟩, ⟨true, (some (.tab [.fl .f32] x3))⟩, ⟨true, (some (.tab [.int .i64] (p.2)))⟩], 2, [0]⟩), ((Nat.beq (p.1) 1), .exit 0, [wsl 0], ⟨[⟨true, (some (.tab [.int .i64] x2))⟩, ⟨true, (some (.tab [.fl .f32] x3))⟩], 2, [0]⟩)].map fun (b, x) => (b, (x.1, frameOf 22 [3] x.2.1, x.2.2)))
noncomputable def u59l0 (x0 x1 : Int) (x2 x3 : List (List Int)) (p : Nat × List (List Int)) : Option (Fin' × List Value × St) := alts ([((Nat.beq (p.1) 0), .exit 0, [wsl 2], ⟨[⟨true, none⟩, ⟨true, (some (.tab [.fl .f32] x3))⟩, ⟨true, (some (.tab [.int .i64] (p.2)))⟩], 2, [0]⟩), ((Nat.beq (p.1) 1), .exit 0, [wsl 0], ⟨[⟨true, (some (.tab [.int .i64] x2))⟩, ⟨true, (some (.tab [.fl .f32] x3))⟩], 2, [0]⟩)].map fun (b, x) => (b, (x.1, frameOf 22 [3] x.2.1, x.2.2))) some
theorem v59l0 (x0 x1 : Int) (x2 x3 : List (List Int)) (p : Nat × List (List Int)) : u59l0 x0 x1 x2 x3 p = a59l0 x0 x1 x2 x3 p := alts_first _
noncomputable def q59l0 (m : Nat) : SumK := fun vals s =>
 match vals, s.h with
 | [.iface f0 .nilIface, .iface f1 .nilIface, .int .i64 x0, .int .i64 x1], [⟨true, some (.tab [.int .i64] x2)⟩, ⟨true, some (.tab [.fl .f32] x3)⟩] => if f0 = 0 ∧ f1 = 1 then [((Nat.beq ((r59l0 m x0 x1 x2 x3).1) 0), .exit 0, [wsl 2], ⟨[⟨true, none⟩, ⟨true, (some (.tab [.fl .f32] x3))⟩, ⟨true, (some (.tab [.int .i64] ((r59l0 m x0 x1 x2 x3).2)))⟩], 2, [0]⟩), ((Nat.beq ((r59l0 m x0 x1 x2 x3).1) 1), .exit 0, [wsl 0], ⟨[⟨true, (some (.tab [.int .i64] x2))⟩, ⟨true, (some (.tab [.fl .f32] x3))⟩], 2, [0]⟩)] else noQ vals s
 | _, _ => noQ vals s
noncomputable def w59l0 (ih : Int → Int → List (List Int) → List (List Int) → (Nat × List (List Int))) (x0 x1 : Int) (x2 x3 : List (List Int)) : Option (Fin' × List Value × St) :=
 (cond (decide ((x1 : Int) < x0))
 (cond ((decide ((0 : Int) ≤ x1)) && (Nat.blt (Int.toNat x1) x3.length))
  (cond (Nat.blt (Int.toNat x1) x3.length)
   (cond (flt .f32 (Int.toNat ((x3.getD (Int.toNat x1) []).getD 0 0)) 0)
    (cond (Nat.ble ((x2.length + 1) * 9) 140737488355328)
     (cond (Nat.beq ((ih x0 (IntKind.i64.wrap (x1 + 1)) (((x2.drop 0).take x2.length) ++ ([[x1]] : List (List Int))) x3).1) 0)
      (a59l0 x0 x1 x2 x3 (0, ((ih x0 (IntKind.i64.wrap (x1 + 1)) (((x2.drop 0).take x2.length) ++ ([[x1]] : List (List Int))) x3).2)))
      (cond (Nat.beq ((ih x0 (IntKind.i64.wrap (x1 + 1)) (((x2.drop 0).take x2.length) ++ ([[x1]] : List (List Int))) x3).1) 1)
       (a59l0 x0 x1 x2 x3 (0, (((x2.drop 0).take x2.length) ++ ([[x1]] : List (List Int)))))
       none))
     none)
    (u59l0 x0 x1 x2 x3 (ih x0 (IntKind.i64.wrap (x1 + 1)) x2 x3)))
   none)
  none)
 (a59l0 x0 x1 x2 x3 (1, [])))
set_option maxRecDepth 100000 in
set_option maxHeartbeats 4000000 in
theorem e59l0 (m : Nat) (x0 x1 : Int) (x2 x3 : List (List Int)) : evC Try.prog ext T62 noL 200 (loopN Try.f59 0) (loopTail ([3, 7, 8, 9], []) [3] [0] (sumK 22 [3, 7, 8, 9] [3] (q59l0 m))) (frameOf 22 [3, 7, 8, 9] [wsl 0, wsl 1, .int .i64 x0, .int .i64 x1]) ⟨[⟨true, (some (.tab [.int .i64] x2))⟩, ⟨true, (some (.tab [.fl .f32] x3))⟩], 2, []⟩ = firstT ([((Nat.beq ((r59l0 (m + 1) x0 x1 x2 x3).1) 0), .exit 0, [wsl 2], ⟨[⟨true, none⟩, ⟨true, (some (.tab [.fl .f32] x3))⟩, ⟨true, (some (.tab [.int .i64] ((r59l0 (m + 1) x0 x1 x2 x3).2)))⟩], 2, [0]⟩), ((Nat.beq ((r59l0 (m + 1) x0 x1 x2 x3).1) 1), .exit 0, [wsl 0], ⟨[⟨true, (some (.tab [.int .i64] x2))⟩, ⟨true, (some (.tab [.fl .f32] x3))⟩], 2, [0]⟩)].map fun (b, x) => (b, (x.1, frameOf 22 [3] x.2.1, x.2.2))) :=
 (show evC Try.prog ext T62 noL 200 (loopN Try.f59 0) (loopTail ([3, 7, 8, 9], []) [3] [0] (sumK 22 [3, 7, 8, 9] [3] (q59l0 m))) (frameOf 22 [3, 7, 8, 9] [wsl 0, wsl 1, .int .i64 x0, .int .i64 x1]) ⟨[⟨true, (some (.tab [.int .i64] x2))⟩, ⟨true, (some (.tab [.fl .f32] x3))⟩], 2, []⟩ = w59l0 (r59l0 m) x0 x1 x2 x3 from by kernel_rfl).trans
 (show w59l0 (r59l0 m) x0 x1 x2 x3 = a59l0 x0 x1 x2 x3 (r59l0 (m + 1) x0 x1 x2 x3) from by unfold w59l0; show _ = a59l0 x0 x1 x2 x3 (b59l0 (r59l0 m) x0 x1 x2 x3); unfold b59l0; exact (cond_both (a59l0 x0 x1 x2 x3) _ (fun h0 => (cond_both (a59l0 x0 x1 x2 x3) _ (fun h1 => (cond_t (ev_and2 h1) (cond_app (a59l0 x0 x1 x2 x3) _ (cond_app (a59l0 x0 x1 x2 x3) _ (cond_app (a59l0 x0 x1 x2 x3) _ rfl (cond_app (a59l0 x0 x1 x2 x3) _ rfl rfl)) rfl) (v59l0 x0 x1 x2 x3 ((r59l0 m) x0 (IntKind.i64.wrap (x1 + 1)) x2 x3))))) (fun h1 => rfl))) (fun h0 => rfl)))
set_option maxRecDepth 100000 in
set_option maxHeartbeats 4000000 in
theorem qm59l0 : ∀ m, SumKOk Try.prog (loopN Try.f59 0) 22 [3, 7, 8, 9] [3] (q59l0 m) := by
  intro m
  induction m with
  | zero =>
    intro vals s x h1 h2 h3
    unfold q59l0 at h3; split at h3
    · rename_i h; split at h3
      · rename_i hc; obtain ⟨rfl, rfl⟩ := hc; exact absurd h3 (by simp [r59l0, firstT, Nat.beq])
      · exact noQ_ok _ _ _ h1 h2 h3
    · exact noQ_ok _ _ _ h1 h2 h3
  | succ m ih =>
    intro vals s x h1 h2 h3
    unfold q59l0 at h3; split at h3
    · rename_i h; split at h3
      · rename_i hc; obtain ⟨rfl, rfl⟩ := hc; exact sum_step ok62 extOk mixed ((lfOkF_no _ _).inner (by kernel_rfl)) ih h1 h2 h (e59l0 m _ _ _ _) rfl h3
      · exact noQ_ok _ _ _ h1 h2 h3
    · exact noQ_ok _ _ _ h1 h2 h3
noncomputable def Q59l0 : SumK := fun vals s => q59l0 (fuelOf vals s.h) vals s
theorem qok59l0 : SumKOk Try.prog (loopN Try.f59 0) 22 [3, 7, 8, 9] [3] Q59l0 := fuel_ok qm59l0 fuelOf
noncomputable def L59_1 : LoopT := addL noL 4 ([3, 7, 8, 9], []) (sumK 22 [3, 7, 8, 9] [3] Q59l0)
theorem lok59_1 : LfOkF Try.prog L59_1 Try.f59 := lfOkF_add (lfOkF_no _ _) qok59l0 (by kernel_rfl) (by kernel_rfl) (by kernel_rfl)

/-- impl.blown -/
noncomputable def r59 (x0 : List (List Int)) : Nat × List (List Int) :=
 cond (Nat.beq ((r59l0 (1000 + x0.length + 0) ((x0.length : Nat) : Int) 0 ([] : List (List Int)) x0).1) 0)
  (0, ((r59l0 (1000 + x0.length + 0) ((x0.length : Nat) : Int) 0 ([] : List (List Int)) x0).2))
  (cond (Nat.beq ((r59l0 (1000 + x0.length + 0) ((x0.length : Nat) : Int) 0 ([] : List (List Int)) x0).1) 1)
   (0, ([] : List (List Int)))
   (1, []))
noncomputable def a59 (x0 : List (List Int)) (p : Nat × List (List Int)) : Res := firstT [((Nat.beq (p.1) 0), wsl 1, ⟨[⟨true, (some (.tab [.fl .f32] x0))⟩, ⟨true, (some (.tab [.int .i64] (p.2)))⟩], 1, []⟩)]
noncomputable def w59 (x0 : List (List Int)) : Res :=
 (cond (Nat.beq ((r59l0 (1000 + x0.length + 0) ((x0.length : Nat) : Int) 0 ([] : List (List Int)) x0).1) 0)
 (a59 x0 (0, ((r59l0 (1000 + x0.length + 0) ((x0.length : Nat) : Int) 0 ([] : List (List Int)) x0).2)))
 (cond (Nat.beq ((r59l0 (1000 + x0.length + 0) ((x0.length : Nat) : Int) 0 ([] : List (List Int)) x0).1) 1)
  (a59 x0 (0, ([] : List (List Int))))
  none))
set_option maxRecDepth 100000 in
set_option maxHeartbeats 4000000 in
theorem e59 (x0 : List (List Int)) : evFn Try.prog ext T62 L59_1 200 Try.f59 [wsl 0] ⟨[⟨true, (some (.tab [.fl .f32] x0))⟩], 1, []⟩ = firstT [((Nat.beq ((r59 x0).1) 0), wsl 1, ⟨[⟨true, (some (.tab [.fl .f32] x0))⟩, ⟨true, (some (.tab [.int .i64] ((r59 x0).2)))⟩], 1, []⟩)] :=
 (show evFn Try.prog ext T62 L59_1 200 Try.f59 [wsl 0] ⟨[⟨true, (some (.tab [.fl .f32] x0))⟩], 1, []⟩ = w59 x0 from by kernel_rfl).trans
 (show w59 x0 = a59 x0 (r59 x0) from by unfold w59 r59; exact (cond_app (a59 x0) _ rfl (cond_app (a59 x0) _ rfl rfl)))
noncomputable def s59 (args : List Value) (s : St) : List (Bool × Value × St) :=
 match args, s.h with
 | [.iface f0 .nilIface], [⟨true, some (.tab [.fl .f32] x0)⟩] => if f0 = 0 then [((Nat.beq ((r59 x0).1) 0), wsl 1, ⟨[⟨true, (some (.tab [.fl .f32] x0))⟩, ⟨true, (some (.tab [.int .i64] ((r59 x0).2)))⟩], 1, []⟩)] else T62 59 args s
 | _, _ => T62 59 args s
noncomputable def T63 : CallF := addF T62 59 s59
set_option maxRecDepth 100000 in
set_option maxHeartbeats 4000000 in
theorem ok63 : CfOk Try.prog T63 := by
  refine cfOk_add ok62 fun args s r s' h1 h2 h3 => ?_
  unfold s59 at h3; split at h3
  · rename_i h; split at h3
    · rename_i hc; obtain ⟨rfl⟩ := hc; exact callOk ok62 Try.func59 h1 h2 h lok59_1.body (e59 _) rfl h3
    · exact ok62 _ _ _ _ _ h1 h2 h3
  · exact ok62 _ _ _ _ _ h1 h2 h3

/-- impl.BlownBack -/
noncomputable def r17 (x0 x1 : Nat) (x2 : List (List Int)) : Nat × Int × List (List Int) :=
 cond (Nat.beq ((r54 x0 x1 x2).1) 0)
  (cond ((((r54 x0 x1 x2).2) : Int) != 0)
   (0, ((r54 x0 x1 x2).2), [])
   (cond (Nat.beq ((r55 x0 x1 x2).1) 0)
    (cond (Nat.beq ((r59 ((r55 x0 x1 x2).2)).1) 0)
     (1, 0, ((r59 ((r55 x0 x1 x2).2)).2))
     (2, 0, []))
    (2, 0, [])))
  (2, 0, [])
noncomputable def a17 (x0 x1 : Nat) (x2 : List (List Int)) (p : Nat × Int × List (List Int)) : Res := firstT [((Nat.beq (p.1) 0), .tuple #[.slice none 0 0, .int .i64 (p.2.1)], ⟨[⟨true, (some (.tab sc0 x2))⟩], 1, []⟩), ((Nat.beq (p.1) 1), .tuple #[wsl 1, .int .i64 0], ⟨[⟨true, (some (.tab sc0 x2))⟩, ⟨true, (some (.tab [.int .i64] (p.2.2)))⟩], 1, []⟩)]
noncomputable def w17 (x0 x1 : Nat) (x2 : List (List Int)) : Res :=
 (cond (Nat.beq ((r54 x0 x1 x2).1) 0)
 (cond ((((r54 x0 x1 x2).2) : Int) != 0)
  (a17 x0 x1 x2 (0, ((r54 x0 x1 x2).2), []))
  (cond (Nat.beq ((r55 x0 x1 x2).1) 0)
   (cond (Nat.beq ((r59 ((r55 x0 x1 x2).2)).1) 0)
    (a17 x0 x1 x2 (1, 0, ((r59 ((r55 x0 x1 x2).2)).2)))
    none)
   none))
 none)
set_option maxRecDepth 100000 in
set_option maxHeartbeats 4000000 in
theorem e17 (x0 x1 : Nat) (x2 : List (List Int)) : evFn Try.prog ext T63 noL 200 Try.f17 [wsl 0, .float .f32 x0, .float .f32 x1] ⟨[⟨true, (some (.tab sc0 x2))⟩], 1, []⟩ = firstT [((Nat.beq ((r17 x0 x1 x2).1) 0), .tuple #[.slice none 0 0, .int .i64 ((r17 x0 x1 x2).2.1)], ⟨[⟨true, (some (.tab sc0 x2))⟩], 1, []⟩), ((Nat.beq ((r17 x0 x1 x2).1) 1), .tuple #[wsl 1, .int .i64 0], ⟨[⟨true, (some (.tab sc0 x2))⟩, ⟨true, (some (.tab [.int .i64] ((r17 x0 x1 x2).2.2)))⟩], 1, []⟩)] :=
 (show evFn Try.prog ext T63 noL 200 Try.f17 [wsl 0, .float .f32 x0, .float .f32 x1] ⟨[⟨true, (some (.tab sc0 x2))⟩], 1, []⟩ = w17 x0 x1 x2 from by kernel_rfl).trans
 (show w17 x0 x1 x2 = a17 x0 x1 x2 (r17 x0 x1 x2) from by unfold w17 r17; exact (cond_app (a17 x0 x1 x2) _ (cond_app (a17 x0 x1 x2) _ rfl (cond_app (a17 x0 x1 x2) _ (cond_app (a17 x0 x1 x2) _ rfl rfl) rfl)) rfl))
noncomputable def s17 (args : List Value) (s : St) : List (Bool × Value × St) :=
 match args, s.h with
 | [.iface f0 .nilIface, .float .f32 x0, .float .f32 x1], [⟨true, some (.tab [.fl .f32, .fl .f32, .fl .f32, .fl .f32, .int .i64] x2)⟩] => if f0 = 0 then [((Nat.beq ((r17 x0 x1 x2).1) 0), .tuple #[.slice none 0 0, .int .i64 ((r17 x0 x1 x2).2.1)], ⟨[⟨true, (some (.tab sc0 x2))⟩], 1, []⟩), ((Nat.beq ((r17 x0 x1 x2).1) 1), .tuple #[wsl 1, .int .i64 0], ⟨[⟨true, (some (.tab sc0 x2))⟩, ⟨true, (some (.tab [.int .i64] ((r17 x0 x1 x2).2.2)))⟩], 1, []⟩)] else T63 17 args s
 | _, _ => T63 17 args s
noncomputable def T64 : CallF := addF T63 17 s17
set_option maxRecDepth 100000 in
set_option maxHeartbeats 4000000 in
theorem ok64 : CfOk Try.prog T64 := by
  refine cfOk_add ok63 fun args s r s' h1 h2 h3 => ?_
  unfold s17 at h3; split at h3
  · rename_i h; split at h3
    · rename_i hc; obtain ⟨rfl⟩ := hc; exact callOk ok63 Try.func17 h1 h2 h (lfOkF_no _ _).body (e17 _ _ _) rfl h3
    · exact ok63 _ _ _ _ _ h1 h2 h3
  · exact ok63 _ _ _ _ _ h1 h2 h3

/-- laws.eqInt64S, loop 0 -/
noncomputable def r38l0 (x0 : List (List Int)) : Unit :=
 ()
noncomputable def a38l0 (x0 : List (List Int)) (p : Unit) : Option (Fin' × List Value × St) := firstT ([(true, .exit 0, [anyV], ⟨[⟨true, (some (.tab [.int .i64] x0))⟩], 1, []⟩)].map fun (b, x) => (b, (x.1, frameOf 26 [4] x.2.1, x.2.2)))
noncomputable def w38l0 (x0 : List (List Int)) : Option (Fin' × List Value × St) :=
 (a38l0 x0 ())
set_option maxRecDepth 100000 in
set_option maxHeartbeats 4000000 in
theorem e38l0 (x0 : List (List Int)) : evC Try.prog ext T64 noL 200 (loopN Try.f38 0) (loopTail ([0, 1, 5], []) [4] [] (sumK 26 [0, 1, 5] [4] noQ)) (frameOf 26 [0, 1, 5] [.slice none 0 0, wsl 0, .int .i64 0]) ⟨[⟨true, (some (.tab [.int .i64] x0))⟩], 1, []⟩ = firstT ([(true, .exit 0, [anyV], ⟨[⟨true, (some (.tab [.int .i64] x0))⟩], 1, []⟩)].map fun (b, x) => (b, (x.1, frameOf 26 [4] x.2.1, x.2.2))) :=
 (show evC Try.prog ext T64 noL 200 (loopN Try.f38 0) (loopTail ([0, 1, 5], []) [4] [] (sumK 26 [0, 1, 5] [4] noQ)) (frameOf 26 [0, 1, 5] [.slice none 0 0, wsl 0, .int .i64 0]) ⟨[⟨true, (some (.tab [.int .i64] x0))⟩], 1, []⟩ = w38l0 x0 from by kernel_rfl).trans
 (show w38l0 x0 = a38l0 x0 (r38l0 x0) from by unfold w38l0 r38l0; exact rfl)
noncomputable def Q38l0 : SumK := fun vals s =>
 match vals, s.h with
 | [.slice none f0 f1, .iface f2 .nilIface, .int .i64 f3], [⟨true, some (.tab [.int .i64] x0)⟩] => if f0 = 0 ∧ f1 = 0 ∧ f2 = 0 ∧ f3 = 0 then [(true, .exit 0, [anyV], ⟨[⟨true, (some (.tab [.int .i64] x0))⟩], 1, []⟩)] else noQ vals s
 | _, _ => noQ vals s
set_option maxRecDepth 100000 in
set_option maxHeartbeats 4000000 in
theorem qok38l0 : SumKOk Try.prog (loopN Try.f38 0) 26 [0, 1, 5] [4] Q38l0 := by
  intro vals s x h1 h2 h3
  unfold Q38l0 at h3; split at h3
  · rename_i h; split at h3
    · rename_i hc; obtain ⟨rfl, rfl, rfl, rfl⟩ := hc; exact sum_step ok64 extOk mixed ((lfOkF_no _ _).inner (by kernel_rfl)) noQ_ok h1 h2 h (e38l0 _) rfl h3
    · exact noQ_ok _ _ _ h1 h2 h3
  · exact noQ_ok _ _ _ h1 h2 h3
noncomputable def L38_1 : LoopT := addL noL 5 ([0, 1, 5], []) (sumK 26 [0, 1, 5] [4] Q38l0)
theorem lok38_1 : LfOkF Try.prog L38_1 Try.f38 := lfOkF_add (lfOkF_no _ _) qok38l0 (by kernel_rfl) (by kernel_rfl) (by kernel_rfl)

/-- laws.eqInt64S -/
noncomputable def r38 (x0 : List (List Int)) : Bool :=
 cond ((0 : Int) != ((x0.length : Nat) : Int))
  (false)
  (true)
noncomputable def a38 (x0 : List (List Int)) (p : Bool) : Res := firstT [(true, .bool p, ⟨[⟨true, (some (.tab [.int .i64] x0))⟩], 1, []⟩)]
noncomputable def w38 (x0 : List (List Int)) : Res :=
 (cond ((0 : Int) != ((x0.length : Nat) : Int))
 (a38 x0 (false))
 (a38 x0 (true)))
set_option maxRecDepth 100000 in
set_option maxHeartbeats 4000000 in
theorem e38 (x0 : List (List Int)) : evFn Try.prog ext T64 L38_1 200 Try.f38 [.slice none 0 0, wsl 0] ⟨[⟨true, (some (.tab [.int .i64] x0))⟩], 1, []⟩ = firstT [(true, .bool (r38 x0), ⟨[⟨true, (some (.tab [.int .i64] x0))⟩], 1, []⟩)] :=
 (show evFn Try.prog ext T64 L38_1 200 Try.f38 [.slice none 0 0, wsl 0] ⟨[⟨true, (some (.tab [.int .i64] x0))⟩], 1, []⟩ = w38 x0 from by kernel_rfl).trans
 (show w38 x0 = a38 x0 (r38 x0) from by unfold w38 r38; exact (cond_app (a38 x0) _ rfl rfl))
noncomputable def s38 (args : List Value) (s : St) : List (Bool × Value × St) :=
 match args, s.h with
 | [.slice none f0 f1, .iface f2 .nilIface], [⟨true, some (.tab [.int .i64] x0)⟩] => if f0 = 0 ∧ f1 = 0 ∧ f2 = 0 then [(true, .bool (r38 x0), ⟨[⟨true, (some (.tab [.int .i64] x0))⟩], 1, []⟩)] else T64 38 args s
 | _, _ => T64 38 args s
noncomputable def T65 : CallF := addF T64 38 s38
set_option maxRecDepth 100000 in
set_option maxHeartbeats 4000000 in
theorem ok65 : CfOk Try.prog T65 := by
  refine cfOk_add ok64 fun args s r s' h1 h2 h3 => ?_
  unfold s38 at h3; split at h3
  · rename_i h; split at h3
    · rename_i hc; obtain ⟨rfl, rfl, rfl⟩ := hc; exact callOk ok64 Try.func38 h1 h2 h lok38_1.body (e38 _) rfl h3
    · exact ok64 _ _ _ _ _ h1 h2 h3
  · exact ok64 _ _ _ _ _ h1 h2 h3

/-- laws.markInt64S, loop 0 -/
noncomputable def r39l0 (x0 : Int) : Unit :=
 ()
noncomputable def a39l0 (x0 : Int) (p : Unit) : Option (Fin' × List Value × St) := firstT ([(true, .exit 0, [.int .i64 x0], st0)].map fun (b, x) => (b, (x.1, frameOf 19 [1] x.2.1, x.2.2)))
noncomputable def w39l0 (x0 : Int) : Option (Fin' × List Value × St) :=
 (a39l0 x0 ())
set_option maxRecDepth 100000 in
set_option maxHeartbeats 4000000 in
theorem e39l0 (x0 : Int) : evC Try.prog ext T65 noL 200 (loopN Try.f39 0) (loopTail ([0, 1, 5], []) [1] [] (sumK 19 [0, 1, 5] [1] noQ)) (frameOf 19 [0, 1, 5] [.slice none 0 0, .int .i64 x0, .int .i64 0]) ⟨[], 0, []⟩ = firstT ([(true, .exit 0, [.int .i64 x0], st0)].map fun (b, x) => (b, (x.1, frameOf 19 [1] x.2.1, x.2.2))) :=
 (show evC Try.prog ext T65 noL 200 (loopN Try.f39 0) (loopTail ([0, 1, 5], []) [1] [] (sumK 19 [0, 1, 5] [1] noQ)) (frameOf 19 [0, 1, 5] [.slice none 0 0, .int .i64 x0, .int .i64 0]) ⟨[], 0, []⟩ = w39l0 x0 from by kernel_rfl).trans
 (show w39l0 x0 = a39l0 x0 (r39l0 x0) from by unfold w39l0 r39l0; exact rfl)
noncomputable def Q39l0 : SumK := fun vals s =>
 match vals, s.h with
 | [.slice none f0 f1, .int .i64 x0, .int .i64 f2], [] => if f0 = 0 ∧ f1 = 0 ∧ f2 = 0 then [(true, .exit 0, [.int .i64 x0], st0)] else noQ vals s
 | _, _ => noQ vals s
set_option maxRecDepth 100000 in
set_option maxHeartbeats 4000000 in
theorem qok39l0 : SumKOk Try.prog (loopN Try.f39 0) 19 [0, 1, 5] [1] Q39l0 := by
  intro vals s x h1 h2 h3
  unfold Q39l0 at h3; split at h3
  · rename_i h; split at h3
    · rename_i hc; obtain ⟨rfl, rfl, rfl⟩ := hc; exact sum_step ok65 extOk mixed ((lfOkF_no _ _).inner (by kernel_rfl)) noQ_ok h1 h2 h (e39l0 _) rfl h3
    · exact noQ_ok _ _ _ h1 h2 h3
  · exact noQ_ok _ _ _ h1 h2 h3
noncomputable def L39_1 : LoopT := addL noL 3 ([0, 1, 5], []) (sumK 19 [0, 1, 5] [1] Q39l0)
theorem lok39_1 : LfOkF Try.prog L39_1 Try.f39 := lfOkF_add (lfOkF_no _ _) qok39l0 (by kernel_rfl) (by kernel_rfl) (by kernel_rfl)

/-- laws.markInt64S -/
noncomputable def r39 (x0 : Int) : Unit :=
 ()
noncomputable def a39 (x0 : Int) (p : Unit) : Res := firstT [(true, .int .i64 x0, st0)]
noncomputable def w39 (x0 : Int) : Res :=
 (a39 x0 ())
set_option maxRecDepth 100000 in
set_option maxHeartbeats 4000000 in
theorem e39 (x0 : Int) : evFn Try.prog ext T65 L39_1 200 Try.f39 [.slice none 0 0, .int .i64 x0] st0 = firstT [(true, .int .i64 x0, st0)] :=
 (show evFn Try.prog ext T65 L39_1 200 Try.f39 [.slice none 0 0, .int .i64 x0] st0 = w39 x0 from by kernel_rfl).trans
 (show w39 x0 = a39 x0 (r39 x0) from by unfold w39 r39; exact rfl)
noncomputable def s39 (args : List Value) (s : St) : List (Bool × Value × St) :=
 match args, s.h with
 | [.slice none f0 f1, .int .i64 x0], [] => if f0 = 0 ∧ f1 = 0 then [(true, .int .i64 x0, st0)] else T65 39 args s
 | _, _ => T65 39 args s
noncomputable def T66 : CallF := addF T65 39 s39
set_option maxRecDepth 100000 in
set_option maxHeartbeats 4000000 in
theorem ok66 : CfOk Try.prog T66 := by
  refine cfOk_add ok65 fun args s r s' h1 h2 h3 => ?_
  unfold s39 at h3; split at h3
  · rename_i h; split at h3
    · rename_i hc; obtain ⟨rfl, rfl⟩ := hc; exact callOk ok65 Try.func39 h1 h2 h lok39_1.body (e39 _) rfl h3
    · exact ok65 _ _ _ _ _ h1 h2 h3
  · exact ok65 _ _ _ _ _ h1 h2 h3

/-- laws.heldInt64S, loop 0 -/
noncomputable def r40l0 (x0 : Int) : Unit :=
 ()
noncomputable def a40l0 (x0 : Int) (p : Unit) : Option (Fin' × List Value × St) := firstT ([(true, .exit 0, [.int .i64 x0, anyV], st0)].map fun (b, x) => (b, (x.1, frameOf 21 [1, 4] x.2.1, x.2.2)))
noncomputable def w40l0 (x0 : Int) : Option (Fin' × List Value × St) :=
 (a40l0 x0 ())
set_option maxRecDepth 100000 in
set_option maxHeartbeats 4000000 in
theorem e40l0 (x0 : Int) : evC Try.prog ext T66 noL 200 (loopN Try.f40 0) (loopTail ([0, 1, 5], []) [1, 4] [] (sumK 21 [0, 1, 5] [1, 4] noQ)) (frameOf 21 [0, 1, 5] [.slice none 0 0, .int .i64 x0, .int .i64 0]) ⟨[], 0, []⟩ = firstT ([(true, .exit 0, [.int .i64 x0, anyV], st0)].map fun (b, x) => (b, (x.1, frameOf 21 [1, 4] x.2.1, x.2.2))) :=
 (show evC Try.prog ext T66 noL 200 (loopN Try.f40 0) (loopTail ([0, 1, 5], []) [1, 4] [] (sumK 21 [0, 1, 5] [1, 4] noQ)) (frameOf 21 [0, 1, 5] [.slice none 0 0, .int .i64 x0, .int .i64 0]) ⟨[], 0, []⟩ = w40l0 x0 from by kernel_rfl).trans
 (show w40l0 x0 = a40l0 x0 (r40l0 x0) from by unfold w40l0 r40l0; exact rfl)
noncomputable def Q40l0 : SumK := fun vals s =>
 match vals, s.h with
 | [.slice none f0 f1, .int .i64 x0, .int .i64 f2], [] => if f0 = 0 ∧ f1 = 0 ∧ f2 = 0 then [(true, .exit 0, [.int .i64 x0, anyV], st0)] else noQ vals s
 | _, _ => noQ vals s
set_option maxRecDepth 100000 in
set_option maxHeartbeats 4000000 in
theorem qok40l0 : SumKOk Try.prog (loopN Try.f40 0) 21 [0, 1, 5] [1, 4] Q40l0 := by
  intro vals s x h1 h2 h3
  unfold Q40l0 at h3; split at h3
  · rename_i h; split at h3
    · rename_i hc; obtain ⟨rfl, rfl, rfl⟩ := hc; exact sum_step ok66 extOk mixed ((lfOkF_no _ _).inner (by kernel_rfl)) noQ_ok h1 h2 h (e40l0 _) rfl h3
    · exact noQ_ok _ _ _ h1 h2 h3
  · exact noQ_ok _ _ _ h1 h2 h3
noncomputable def L40_1 : LoopT := addL noL 3 ([0, 1, 5], []) (sumK 21 [0, 1, 5] [1, 4] Q40l0)
theorem lok40_1 : LfOkF Try.prog L40_1 Try.f40 := lfOkF_add (lfOkF_no _ _) qok40l0 (by kernel_rfl) (by kernel_rfl) (by kernel_rfl)

/-- laws.heldInt64S -/
noncomputable def r40 (x0 : Int) : Unit :=
 ()
noncomputable def a40 (x0 : Int) (p : Unit) : Res := firstT [(true, .int .i64 x0, st0)]
noncomputable def w40 (x0 : Int) : Res :=
 (a40 x0 ())
set_option maxRecDepth 100000 in
set_option maxHeartbeats 4000000 in
theorem e40 (x0 : Int) : evFn Try.prog ext T66 L40_1 200 Try.f40 [.slice none 0 0, .int .i64 x0] st0 = firstT [(true, .int .i64 x0, st0)] :=
 (show evFn Try.prog ext T66 L40_1 200 Try.f40 [.slice none 0 0, .int .i64 x0] st0 = w40 x0 from by kernel_rfl).trans
 (show w40 x0 = a40 x0 (r40 x0) from by unfold w40 r40; exact rfl)
noncomputable def s40 (args : List Value) (s : St) : List (Bool × Value × St) :=
 match args, s.h with
 | [.slice none f0 f1, .int .i64 x0], [] => if f0 = 0 ∧ f1 = 0 then [(true, .int .i64 x0, st0)] else T66 40 args s
 | _, _ => T66 40 args s
noncomputable def T67 : CallF := addF T66 40 s40
set_option maxRecDepth 100000 in
set_option maxHeartbeats 4000000 in
theorem ok67 : CfOk Try.prog T67 := by
  refine cfOk_add ok66 fun args s r s' h1 h2 h3 => ?_
  unfold s40 at h3; split at h3
  · rename_i h; split at h3
    · rename_i hc; obtain ⟨rfl, rfl⟩ := hc; exact callOk ok66 Try.func40 h1 h2 h lok40_1.body (e40 _) rfl h3
    · exact ok66 _ _ _ _ _ h1 h2 h3
  · exact ok66 _ _ _ _ _ h1 h2 h3

/-- laws.eqInt64S, loop 0: one round -/
noncomputable def b38l0b (ih : Int → List (List Int) → List (List Int) → Nat) (x0 : Int) (x1 x2 : List (List Int)) : Nat :=
 cond (decide ((x0 : Int) < ((x1.length : Nat) : Int)))
  (cond ((decide ((0 : Int) ≤ x0)) && (Nat.blt (Int.toNat x0) x1.length))
   (cond ((decide ((0 : Int) ≤ x0)) && (Nat.blt (Int.toNat x0) x2.length))
    (cond ((((x1.getD (Int.toNat x0) []).getD 0 0) : Int) != ((x2.getD (Int.toNat x0) []).getD 0 0))
     (0)
     (ih (IntKind.i64.wrap (x0 + 1)) x1 x2))
    (2))
   (2))
  (1)
noncomputable def r38l0b : Nat → Int → List (List Int) → List (List Int) → Nat
 | 0 => fun _ _ _ => (2)
 | m + 1 => b38l0b (r38l0b m)
noncomputable def a38l0b (x0 : Int) (x1 x2 : List (List Int)) (p : Nat) : Option (Fin' × List Value × St) := firstT ([((Nat.beq p 0), .ret, [.bool false], ⟨[⟨true, (some (.tab [.int .i64] x1))⟩, ⟨true, (some (.tab [.int .i64] x2))⟩], 2, []⟩), ((Nat.beq p 1), .exit 0, [anyV], ⟨[⟨true, (some (.tab [.int .i64] x1))⟩, ⟨true, (some (.tab [.int .i64] x2))⟩], 2, []⟩)].map fun (b, x) => (b, (x.1, frameOf 26 [4] x.2.1, x.2.2)))
noncomputable def u38l0b (x0 : Int) (x1 x2 : List (List Int)) (p : Nat) : Option (Fin' × List Value × St) := alts ([((Nat.beq p 0), .ret, [.bool false], ⟨[⟨true, (some (.tab [.int .i64] x1))⟩, ⟨true, (some (.tab [.int .i64] x2))⟩], 2, []⟩), ((Nat.beq p 1), .exit 0, [anyV], ⟨[⟨true, (some (.tab [.int .i64] x1))⟩, ⟨true, (some (.tab [.int .i64] x2))⟩], 2, []⟩)].map fun (b, x) => (b, (x.1, frameOf 26 [4] x.2.1, x.2.2))) some
theorem v38l0b (x0 : Int) (x1 x2 : List (List Int)) (p : Nat) : u38l0b x0 x1 x2 p = a38l0b x0 x1 x2 p := alts_first _
noncomputable def q38l0b (m : Nat) : SumK := fun vals s =>
 match vals, s.h with
 | [.iface f0 .nilIface, .iface f1 .nilIface, .int .i64 x0], [⟨true, some (.tab [.int .i64] x1)⟩, ⟨true, some (.tab [.int .i64] x2)⟩] => if f0 = 0 ∧ f1 = 1 then [((Nat.beq (r38l0b m x0 x1 x2) 0), .ret, [.bool false], ⟨[⟨true, (some (.tab [.int .i64] x1))⟩, ⟨true, (some (.tab [.int .i64] x2))⟩], 2, []⟩), ((Nat.beq (r38l0b m x0 x1 x2) 1), .exit 0, [anyV], ⟨[⟨true, (some (.tab [.int .i64] x1))⟩, ⟨true, (some (.tab [.int .i64] x2))⟩], 2, []⟩)] else Q38l0 vals s
 | _, _ => Q38l0 vals s
noncomputable def w38l0b (ih : Int → List (List Int) → List (List Int) → Nat) (x0 : Int) (x1 x2 : List (List Int)) : Option (Fin' × List Value × St) :=
 (cond (decide ((x0 : Int) < ((x1.length : Nat) : Int)))
 (cond ((decide ((0 : Int) ≤ x0)) && (Nat.blt (Int.toNat x0) x1.length))
  (cond (Nat.blt (Int.toNat x0) x1.length)
   (cond ((decide ((0 : Int) ≤ x0)) && (Nat.blt (Int.toNat x0) x2.length))
    (cond (Nat.blt (Int.toNat x0) x2.length)
     (cond ((((x1.getD (Int.toNat x0) []).getD 0 0) : Int) != ((x2.getD (Int.toNat x0) []).getD 0 0))
      (a38l0b x0 x1 x2 (0))
      (u38l0b x0 x1 x2 (ih (IntKind.i64.wrap (x0 + 1)) x1 x2)))
     none)
    none)
   none)
  none)
 (a38l0b x0 x1 x2 (1)))
set_option maxRecDepth 100000 in
set_option maxHeartbeats 4000000 in
theorem e38l0b (m : Nat) (x0 : Int) (x1 x2 : List (List Int)) : evC Try.prog ext T67 L38_1 200 (loopN Try.f38 0) (loopTail ([0, 1, 5], []) [4] [] (sumK 26 [0, 1, 5] [4] (q38l0b m))) (frameOf 26 [0, 1, 5] [wsl 0, wsl 1, .int .i64 x0]) ⟨[⟨true, (some (.tab [.int .i64] x1))⟩, ⟨true, (some (.tab [.int .i64] x2))⟩], 2, []⟩ = firstT ([((Nat.beq (r38l0b (m + 1) x0 x1 x2) 0), .ret, [.bool false], ⟨[⟨true, (some (.tab [.int .i64] x1))⟩, ⟨true, (some (.tab [.int .i64] x2))⟩], 2, []⟩), ((Nat.beq (r38l0b (m + 1) x0 x1 x2) 1), .exit 0, [anyV], ⟨[⟨true, (some (.tab [.int .i64] x1))⟩, ⟨true, (some (.tab [.int .i64] x2))⟩], 2, []⟩)].map fun (b, x) => (b, (x.1, frameOf 26 [4] x.2.1, x.2.2))) :=
 (show evC Try.prog ext T67 L38_1 200 (loopN Try.f38 0) (loopTail ([0, 1, 5], []) [4] [] (sumK 26 [0, 1, 5] [4] (q38l0b m))) (frameOf 26 [0, 1, 5] [wsl 0, wsl 1, .int .i64 x0]) ⟨[⟨true, (some (.tab [.int .i64] x1))⟩, ⟨true, (some (.tab [.int .i64] x2))⟩], 2, []⟩ = w38l0b (r38l0b m) x0 x1 x2 from by kernel_rfl).trans
 (show w38l0b (r38l0b m) x0 x1 x2 = a38l0b x0 x1 x2 (r38l0b (m + 1) x0 x1 x2) from by unfold w38l0b; show _ = a38l0b x0 x1 x2 (b38l0b (r38l0b m) x0 x1 x2); unfold b38l0b; exact (cond_both (a38l0b x0 x1 x2) _ (fun h0 => (cond_both (a38l0b x0 x1 x2) _ (fun h1 => (cond_t (ev_and2 h1) (cond_both (a38l0b x0 x1 x2) _ (fun h2 => (cond_t (ev_and2 h2) (cond_app (a38l0b x0 x1 x2) _ rfl (v38l0b x0 x1 x2 ((r38l0b m) (IntKind.i64.wrap (x0 + 1)) x1 x2))))) (fun h2 => rfl)))) (fun h1 => rfl))) (fun h0 => rfl)))
set_option maxRecDepth 100000 in
set_option maxHeartbeats 4000000 in
theorem qm38l0b : ∀ m, SumKOk Try.prog (loopN Try.f38 0) 26 [0, 1, 5] [4] (q38l0b m) := by
  intro m
  induction m with
  | zero =>
    intro vals s x h1 h2 h3
    unfold q38l0b at h3; split at h3
    · rename_i h; split at h3
      · rename_i hc; obtain ⟨rfl, rfl⟩ := hc; exact absurd h3 (by simp [r38l0b, firstT, Nat.beq])
      · exact qok38l0 _ _ _ h1 h2 h3
    · exact qok38l0 _ _ _ h1 h2 h3
  | succ m ih =>
    intro vals s x h1 h2 h3
    unfold q38l0b at h3; split at h3
    · rename_i h; split at h3
      · rename_i hc; obtain ⟨rfl, rfl⟩ := hc; exact sum_step ok67 extOk mixed (lok38_1.inner (by kernel_rfl)) ih h1 h2 h (e38l0b m _ _ _) rfl h3
      · exact qok38l0 _ _ _ h1 h2 h3
    · exact qok38l0 _ _ _ h1 h2 h3
noncomputable def Q38l0b : SumK := fun vals s => q38l0b (fuelOf vals s.h) vals s
theorem qok38l0b : SumKOk Try.prog (loopN Try.f38 0) 26 [0, 1, 5] [4] Q38l0b := fuel_ok qm38l0b fuelOf
noncomputable def L38_2 : LoopT := addL L38_1 5 ([0, 1, 5], []) (sumK 26 [0, 1, 5] [4] Q38l0b)
theorem lok38_2 : LfOkF Try.prog L38_2 Try.f38 := lfOkF_add lok38_1 qok38l0b (by kernel_rfl) (by kernel_rfl) (by kernel_rfl)

/-- laws.eqInt64S -/
noncomputable def r38b (x0 x1 : List (List Int)) : Nat × Bool :=
 cond ((((x0.length : Nat) : Int) : Int) != ((x1.length : Nat) : Int))
  (0, false)
  (cond (Nat.beq (r38l0b (1000 + x1.length + x0.length) 0 x0 x1) 0)
   (0, false)
   (cond (Nat.beq (r38l0b (1000 + x1.length + x0.length) 0 x0 x1) 1)
    (0, true)
    (1, false)))
noncomputable def a38b (x0 x1 : List (List Int)) (p : Nat × Bool) : Res := firstT [((Nat.beq (p.1) 0), .bool (p.2), ⟨[⟨true, (some (.tab [.int .i64] x0))⟩, ⟨true, (some (.tab [.int .i64] x1))⟩], 2, []⟩)]
noncomputable def w38b (x0 x1 : List (List Int)) : Res :=
 (cond ((((x0.length : Nat) : Int) : Int) != ((x1.length : Nat) : Int))
 (a38b x0 x1 (0, false))
 (cond (Nat.beq (r38l0b (1000 + x1.length + x0.length) 0 x0 x1) 0)
  (a38b x0 x1 (0, false))
  (cond (Nat.beq (r38l0b (1000 + x1.length + x0.length) 0 x0 x1) 1)
   (a38b x0 x1 (0, true))
   none)))
set_option maxRecDepth 100000 in
set_option maxHeartbeats 4000000 in
theorem e38b (x0 x1 : List (List Int)) : evFn Try.prog ext T67 L38_2 200 Try.f38 [wsl 0, wsl 1] ⟨[⟨true, (some (.tab [.int .i64] x0))⟩, ⟨true, (some (.tab [.int .i64] x1))⟩], 2, []⟩ = firstT [((Nat.beq ((r38b x0 x1).1) 0), .bool ((r38b x0 x1).2), ⟨[⟨true, (some (.tab [.int .i64] x0))⟩, ⟨true, (some (.tab [.int .i64] x1))⟩], 2, []⟩)] :=
 (show evFn Try.prog ext T67 L38_2 200 Try.f38 [wsl 0, wsl 1] ⟨[⟨true, (some (.tab [.int .i64] x0))⟩, ⟨true, (some (.tab [.int .i64] x1))⟩], 2, []⟩ = w38b x0 x1 from by kernel_rfl).trans
 (show w38b x0 x1 = a38b x0 x1 (r38b x0 x1) from by unfold w38b r38b; exact (cond_app (a38b x0 x1) _ rfl (cond_app (a38b x0 x1) _ rfl (cond_app (a38b x0 x1) _ rfl rfl))))
noncomputable def s38b (args : List Value) (s : St) : List (Bool × Value × St) :=
 match args, s.h with
 | [.iface f0 .nilIface, .iface f1 .nilIface], [⟨true, some (.tab [.int .i64] x0)⟩, ⟨true, some (.tab [.int .i64] x1)⟩] => if f0 = 0 ∧ f1 = 1 then [((Nat.beq ((r38b x0 x1).1) 0), .bool ((r38b x0 x1).2), ⟨[⟨true, (some (.tab [.int .i64] x0))⟩, ⟨true, (some (.tab [.int .i64] x1))⟩], 2, []⟩)] else T67 38 args s
 | _, _ => T67 38 args s
noncomputable def T68 : CallF := addF T67 38 s38b
set_option maxRecDepth 100000 in
set_option maxHeartbeats 4000000 in
theorem ok68 : CfOk Try.prog T68 := by
  refine cfOk_add ok67 fun args s r s' h1 h2 h3 => ?_
  unfold s38b at h3; split at h3
  · rename_i h; split at h3
    · rename_i hc; obtain ⟨rfl, rfl⟩ := hc; exact callOk ok67 Try.func38 h1 h2 h lok38_2.body (e38b _ _) rfl h3
    · exact ok67 _ _ _ _ _ h1 h2 h3
  · exact ok67 _ _ _ _ _ h1 h2 h3

/-- laws.markInt64S, loop 0: one round -/
noncomputable def b39l0b (ih : Int → Int → List (List Int) → (Nat × Int × List (List Int))) (x0 x1 : Int) (x2 : List (List Int)) : Nat × Int × List (List Int) :=
 cond (decide ((x1 : Int) < ((x2.length : Nat) : Int)))
  (cond ((decide ((0 : Int) ≤ x1)) && (Nat.blt (Int.toNat x1) x2.length))
   (ih (IntKind.i64.wrap (x0 + 1)) (IntKind.i64.wrap (x1 + 1)) (x2.set (Int.toNat x1) [x0]))
   (1, 0, []))
  (0, x0, x2)
noncomputable def r39l0b : Nat → Int → Int → List (List Int) → (Nat × Int × List (List Int))
 | 0 => fun _ _ _ => (1, 0, [])
 | m + 1 => b39l0b (r39l0b m)
noncomputable def a39l0b (x0 x1 : Int) (x2 : List (List Int)) (p : Nat × Int × List (List Int)) : Option (Fin' × List Value × St) := firstT ([((Nat.beq (p.1) 0), .exit 0, [.int .i64 (p.2.1)], ⟨[⟨true, (some (.tab [.int .i64] (p.2.2)))⟩], 1, [0]⟩)].map fun (b, x) => (b, (x.1, frameOf 19 [1] x.2.1, x.2.2)))
noncomputable def u39l0b (x0 x1 : Int) (x2 : List (List Int)) (p : Nat × Int × List (List Int)) : Option (Fin' × List Value × St) := alts ([((Nat.beq (p.1) 0), .exit 0, [.int .i64 (p.2.1)], ⟨[⟨true, (some (.tab [.int .i64] (p.2.2)))⟩], 1, [0]⟩)].map fun (b, x) => (b, (x.1, frameOf 19 [1] x.2.1, x.2.2))) some
theorem v39l0b (x0 x1 : Int) (x2 : List (List Int)) (p : Nat × Int × List (List Int)) : u39l0b x0 x1 x2 p = a39l0b x0 x1 x2 p := alts_first _
noncomputable def q39l0b (m : Nat) : SumK := fun vals s =>
 match vals, s.h with
 | [.iface f0 .nilIface, .int .i64 x0, .int .i64 x1], [⟨true, some (.tab [.int .i64] x2)⟩] => if f0 = 0 then [((Nat.beq ((r39l0b m x0 x1 x2).1) 0), .exit 0, [.int .i64 ((r39l0b m x0 x1 x2).2.1)], ⟨[⟨true, (some (.tab [.int .i64] ((r39l0b m x0 x1 x2).2.2)))⟩], 1, [0]⟩)] else Q39l0 vals s
 | _, _ => Q39l0 vals s
noncomputable def w39l0b (ih : Int → Int → List (List Int) → (Nat × Int × List (List Int))) (x0 x1 : Int) (x2 : List (List Int)) : Option (Fin' × List Value × St) :=
 (cond (decide ((x1 : Int) < ((x2.length : Nat) : Int)))
 (cond ((decide ((0 : Int) ≤ x1)) && (Nat.blt (Int.toNat x1) x2.length))
  (cond (Nat.blt (Int.toNat x1) x2.length)
   (u39l0b x0 x1 x2 (ih (IntKind.i64.wrap (x0 + 1)) (IntKind.i64.wrap (x1 + 1)) (x2.set (Int.toNat x1) [x0])))
   none)
  none)
 (a39l0b x0 x1 x2 (0, x0, x2)))
set_option maxRecDepth 100000 in
set_option maxHeartbeats 4000000 in
theorem e39l0b (m : Nat) (x0 x1 : Int) (x2 : List (List Int)) : evC Try.prog ext T68 L39_1 200 (loopN Try.f39 0) (loopTail ([0, 1, 5], []) [1] [0] (sumK 19 [0, 1, 5] [1] (q39l0b m))) (frameOf 19 [0, 1, 5] [wsl 0, .int .i64 x0, .int .i64 x1]) ⟨[⟨true, (some (.tab [.int .i64] x2))⟩], 1, []⟩ = firstT ([((Nat.beq ((r39l0b (m + 1) x0 x1 x2).1) 0), .exit 0, [.int .i64 ((r39l0b (m + 1) x0 x1 x2).2.1)], ⟨[⟨true, (some (.tab [.int .i64] ((r39l0b (m + 1) x0 x1 x2).2.2)))⟩], 1, [0]⟩)].map fun (b, x) => (b, (x.1, frameOf 19 [1] x.2.1, x.2.2))) :=
 (show evC Try.prog ext T68 L39_1 200 (loopN Try.f39 0) (loopTail ([0, 1, 5], []) [1] [0] (sumK 19 [0, 1, 5] [1] (q39l0b m))) (frameOf 19 [0, 1, 5] [wsl 0, .int .i64 x0, .int .i64 x1]) ⟨[⟨true, (some (.tab [.int .i64] x2))⟩], 1, []⟩ = w39l0b (r39l0b m) x0 x1 x2 from by kernel_rfl).trans
 (show w39l0b (r39l0b m) x0 x1 x2 = a39l0b x0 x1 x2 (r39l0b (m + 1) x0 x1 x2) from by unfold w39l0b; show _ = a39l0b x0 x1 x2 (b39l0b (r39l0b m) x0 x1 x2); unfold b39l0b; exact (cond_both (a39l0b x0 x1 x2) _ (fun h0 => (cond_both (a39l0b x0 x1 x2) _ (fun h1 => (cond_t (ev_and2 h1) (v39l0b x0 x1 x2 ((r39l0b m) (IntKind.i64.wrap (x0 + 1)) (IntKind.i64.wrap (x1 + 1)) (x2.set (Int.toNat x1) [x0]))))) (fun h1 => rfl))) (fun h0 => rfl)))
set_option maxRecDepth 100000 in
set_option maxHeartbeats 4000000 in
theorem qm39l0b : ∀ m, SumKOk Try.prog (loopN Try.f39 0) 19 [0, 1, 5] [1] (q39l0b m) := by
  intro m
  induction m with
  | zero =>
    intro vals s x h1 h2 h3
    unfold q39l0b at h3; split at h3
    · rename_i h; split at h3
      · rename_i hc; obtain ⟨rfl⟩ := hc; exact absurd h3 (by simp [r39l0b, firstT, Nat.beq])
      · exact qok39l0 _ _ _ h1 h2 h3
    · exact qok39l0 _ _ _ h1 h2 h3
  | succ m ih =>
    intro vals s x h1 h2 h3
    unfold q39l0b at h3; split at h3
    · rename_i h; split at h3
      · rename_i hc; obtain ⟨rfl⟩ := hc; exact sum_step ok68 extOk mixed (lok39_1.inner (by kernel_rfl)) ih h1 h2 h (e39l0b m _ _ _) rfl h3
      · exact qok39l0 _ _ _ h1 h2 h3
    · exact qok39l0 _ _ _ h1 h2 h3
noncomputable def Q39l0b : SumK := fun vals s => q39l0b (fuelOf vals s.h) vals s
theorem qok39l0b : SumKOk Try.prog (loopN Try.f39 0) 19 [0, 1, 5] [1] Q39l0b := fuel_ok qm39l0b fuelOf
noncomputable def L39_2 : LoopT := addL L39_1 3 ([0, 1, 5], []) (sumK 19 [0, 1, 5] [1] Q39l0b)
theorem lok39_2 : LfOkF Try.prog L39_2 Try.f39 := lfOkF_add lok39_1 qok39l0b (by kernel_rfl) (by kernel_rfl) (by kernel_rfl)

/-- laws.markInt64S -/
noncomputable def r39b (x0 : Int) (x1 : List (List Int)) : Nat × Int × List (List Int) :=
 cond (Nat.beq ((r39l0b (1000 + x1.length) x0 0 x1).1) 0)
  (0, ((r39l0b (1000 + x1.length) x0 0 x1).2.1), ((r39l0b (1000 + x1.length) x0 0 x1).2.2))
  (1, 0, [])
noncomputable def a39b (x0 : Int) (x1 : List (List Int)) (p : Nat × Int × List (List Int)) : Res := firstT [((Nat.beq (p.1) 0), .int .i64 (p.2.1), ⟨[⟨true, (some (.tab [.int .i64] (p.2.2)))⟩], 1, [0]⟩)]
noncomputable def w39b (x0 : Int) (x1 : List (List Int)) : Res :=
 (cond (Nat.beq ((r39l0b (1000 + x1.length) x0 0 x1).1) 0)
 (a39b x0 x1 (0, ((r39l0b (1000 + x1.length) x0 0 x1).2.1), ((r39l0b (1000 + x1.length) x0 0 x1).2.2)))
 none)
set_option maxRecDepth 100000 in
set_option maxHeartbeats 4000000 in
theorem e39b (x0 : Int) (x1 : List (List Int)) : evFn Try.prog ext T68 L39_2 200 Try.f39 [wsl 0, .int .i64 x0] ⟨[⟨true, (some (.tab [.int .i64] x1))⟩], 1, []⟩ = firstT [((Nat.beq ((r39b x0 x1).1) 0), .int .i64 ((r39b x0 x1).2.1), ⟨[⟨true, (some (.tab [.int .i64] ((r39b x0 x1).2.2)))⟩], 1, [0]⟩)] :=
 (show evFn Try.prog ext T68 L39_2 200 Try.f39 [wsl 0, .int .i64 x0] ⟨[⟨true, (some (.tab [.int .i64] x1))⟩], 1, []⟩ = w39b x0 x1 from by kernel_rfl).trans
 (show w39b x0 x1 = a39b x0 x1 (r39b x0 x1) from by unfold w39b r39b; exact (cond_app (a39b x0 x1) _ rfl rfl))
noncomputable def s39b (args : List Value) (s : St) : List (Bool × Value × St) :=
 match args, s.h with
 | [.iface f0 .nilIface, .int .i64 x0], [⟨true, some (.tab [.int .i64] x1)⟩] => if f0 = 0 then [((Nat.beq ((r39b x0 x1).1) 0), .int .i64 ((r39b x0 x1).2.1), ⟨[⟨true, (some (.tab [.int .i64] ((r39b x0 x1).2.2)))⟩], 1, [0]⟩)] else T68 39 args s
 | _, _ => T68 39 args s
noncomputable def T69 : CallF := addF T68 39 s39b
set_option maxRecDepth 100000 in
set_option maxHeartbeats 4000000 in
theorem ok69 : CfOk Try.prog T69 := by
  refine cfOk_add ok68 fun args s r s' h1 h2 h3 => ?_
  unfold s39b at h3; split at h3
  · rename_i h; split at h3
    · rename_i hc; obtain ⟨rfl⟩ := hc; exact callOk ok68 Try.func39 h1 h2 h lok39_2.body (e39b _ _) rfl h3
    · exact ok68 _ _ _ _ _ h1 h2 h3
  · exact ok68 _ _ _ _ _ h1 h2 h3

/-- laws.heldInt64S, loop 0: one round -/
noncomputable def b40l0b (ih : Int → Int → List (List Int) → (Nat × Int × Int)) (x0 x1 : Int) (x2 : List (List Int)) : Nat × Int × Int :=
 cond (decide ((x1 : Int) < ((x2.length : Nat) : Int)))
  (cond ((decide ((0 : Int) ≤ x1)) && (Nat.blt (Int.toNat x1) x2.length))
   (cond ((((x2.getD (Int.toNat x1) []).getD 0 0) : Int) != x0)
    (0, x0, 0)
    (ih (IntKind.i64.wrap (x0 + 1)) (IntKind.i64.wrap (x1 + 1)) x2))
   (2, 0, 0))
  (1, 0, x0)
noncomputable def r40l0b : Nat → Int → Int → List (List Int) → (Nat × Int × Int)
 | 0 => fun _ _ _ => (2, 0, 0)
 | m + 1 => b40l0b (r40l0b m)
noncomputable def a40l0b (x0 x1 : Int) (x2 : List (List Int)) (p : Nat × Int × Int) : Option (Fin' × List Value × St) := firstT ([((Nat.beq (p.1) 0), .ret, [.int .i64 (p.2.1), .int .i64 (-1)], ⟨[⟨true, (some (.tab [.int .i64] x2))⟩], 1, []⟩), ((Nat.beq (p.1) 1), .exit 0, [.int .i64 (p.2.2), anyV], ⟨[⟨true, (some (.tab [.int .i64] x2))⟩], 1, []⟩)].map fun (b, x) => (b, (x.1, frameOf 21 [1, 4] x.2.1, x.2.2)))
noncomputable def u40l0b (x0 x1 : Int) (x2 : List (List Int)) (p : Nat × Int × Int) : Option (Fin' × List Value × St) := alts ([((Nat.beq (p.1) 0), .ret, [.int .i64 (p.2.1), .int .i64 (-1)], ⟨[⟨true, (some (.tab [.int .i64] x2))⟩], 1, []⟩), ((Nat.beq (p.1) 1), .exit 0, [.int .i64 (p.2.2), anyV], ⟨[⟨true, (some (.tab [.int .i64] x2))⟩], 1, []⟩)].map fun (b, x) => (b, (x.1, frameOf 21 [1, 4] x.2.1, x.2.2))) some
theorem v40l0b (x0 x1 : Int) (x2 : List (List Int)) (p : Nat × Int × Int) : u40l0b x0 x1 x2 p = a40l0b x0 x1 x2 p := alts_first _
noncomputable def q40l0b (m : Nat) : SumK := fun vals s =>
 match vals, s.h with
 | [.iface f0 .nilIface, .int .i64 x0, .int .i64 x1], [⟨true, some (.tab [.int .i64] x2)⟩] => if f0 = 0 then [((Nat.beq ((r40l0b m x0 x1 x2).1) 0), .ret, [.int .i64 ((r40l0b m x0 x1 x2).2.1), .int .i64 (-1)], ⟨[⟨true, (some (.tab [.int .i64] x2))⟩], 1, []⟩), ((Nat.beq ((r40l0b m x0 x1 x2).1) 1), .exit 0, [.int .i64 ((r40l0b m x0 x1 x2).2.2), anyV], ⟨[⟨true, (some (.tab [.int .i64] x2))⟩], 1, []⟩)] else Q40l0 vals s
 | _, _ => Q40l0 vals s
noncomputable def w40l0b (ih : Int → Int → List (List Int) → (Nat × Int × Int)) (x0 x1 : Int) (x2 : List (List Int)) : Option (Fin' × List Value × St) :=
 (cond (decide ((x1 : Int) < ((x2.length : Nat) : Int)))
 (cond ((decide ((0 : Int) ≤ x1)) && (Nat.blt (Int.toNat x1) x2.length))
  (cond (Nat.blt (Int.toNat x1) x2.length)
   (cond ((((x2.getD (Int.toNat x1) []).getD 0 0) : Int) != x0)
    (a40l0b x0 x1 x2 (0, x0, 0))
    (u40l0b x0 x1 x2 (ih (IntKind.i64.wrap (x0 + 1)) (IntKind.i64.wrap (x1 + 1)) x2)))
   none)
  none)
 (a40l0b x0 x1 x2 (1, 0, x0)))
set_option maxRecDepth 100000 in
set_option maxHeartbeats 4000000 in
theorem e40l0b (m : Nat) (x0 x1 : Int) (x2 : List (List Int)) : evC Try.prog ext T69 L40_1 200 (loopN Try.f40 0) (loopTail ([0, 1, 5], []) [1, 4] [] (sumK 21 [0, 1, 5] [1, 4] (q40l0b m))) (frameOf 21 [0, 1, 5] [wsl 0, .int .i64 x0, .int .i64 x1]) ⟨[⟨true, (some (.tab [.int .i64] x2))⟩], 1, []⟩ = firstT ([((Nat.beq ((r40l0b (m + 1) x0 x1 x2).1) 0), .ret, [.int .i64 ((r40l0b (m + 1) x0 x1 x2).2.1), .int .i64 (-1)], ⟨[⟨true, (some (.tab [.int .i64] x2))⟩], 1, []⟩), ((Nat.beq ((r40l0b (m + 1) x0 x1 x2).1) 1), .exit 0, [.int .i64 ((r40l0b (m + 1) x0 x1 x2).2.2), anyV], ⟨[⟨true, (some (.tab [.int .i64] x2))⟩], 1, []⟩)].map fun (b, x) => (b, (x.1, frameOf 21 [1, 4] x.2.1, x.2.2))) :=
 (show evC Try.prog ext T69 L40_1 200 (loopN Try.f40 0) (loopTail ([0, 1, 5], []) [1, 4] [] (sumK 21 [0, 1, 5] [1, 4] (q40l0b m))) (frameOf 21 [0, 1, 5] [wsl 0, .int .i64 x0, .int .i64 x1]) ⟨[⟨true, (some (.tab [.int .i64] x2))⟩], 1, []⟩ = w40l0b (r40l0b m) x0 x1 x2 from by kernel_rfl).trans
 (show w40l0b (r40l0b m) x0 x1 x2 = a40l0b x0 x1 x2 (r40l0b (m + 1) x0 x1 x2) from by unfold w40l0b; show _ = a40l0b x0 x1 x2 (b40l0b (r40l0b m) x0 x1 x2); unfold b40l0b; exact (cond_both (a40l0b x0 x1 x2) _ (fun h0 => (cond_both (a40l0b x0 x1 x2) _ (fun h1 => (cond_t (ev_and2 h1) (cond_app (a40l0b x0 x1 x2) _ rfl (v40l0b x0 x1 x2 ((r40l0b m) (IntKind.i64.wrap (x0 + 1)) (IntKind.i64.wrap (x1 + 1)) x2))))) (fun h1 => rfl))) (fun h0 => rfl)))
set_option maxRecDepth 100000 in
set_option maxHeartbeats 4000000 in
theorem qm40l0b : ∀ m, SumKOk Try.prog (loopN Try.f40 0) 21 [0, 1, 5] [1, 4] (q40l0b m) := by
  intro m
  induction m with
  | zero =>
    intro vals s x h1 h2 h3
    unfold q40l0b at h3; split at h3
    · rename_i h; split at h3
      · rename_i hc; obtain ⟨rfl⟩ := hc; exact absurd h3 (by simp [r40l0b, firstT, Nat.beq])
      · exact qok40l0 _ _ _ h1 h2 h3
    · exact qok40l0 _ _ _ h1 h2 h3
  | succ m ih =>
    intro vals s x h1 h2 h3
    unfold q40l0b at h3; split at h3
    · rename_i h; split at h3
      · rename_i hc; obtain ⟨rfl⟩ := hc; exact sum_step ok69 extOk mixed (lok40_1.inner (by kernel_rfl)) ih h1 h2 h (e40l0b m _ _ _) rfl h3
      · exact qok40l0 _ _ _ h1 h2 h3
    · exact qok40l0 _ _ _ h1 h2 h3
noncomputable def Q40l0b : SumK := fun vals s => q40l0b (fuelOf vals s.h) vals s
theorem qok40l0b : SumKOk Try.prog (loopN Try.f40 0) 21 [0, 1, 5] [1, 4] Q40l0b := fuel_ok qm40l0b fuelOf
noncomputable def L40_2 : LoopT := addL L40_1 3 ([0, 1, 5], []) (sumK 21 [0, 1, 5] [1, 4] Q40l0b)
theorem lok40_2 : LfOkF Try.prog L40_2 Try.f40 := lfOkF_add lok40_1 qok40l0b (by kernel_rfl) (by kernel_rfl) (by kernel_rfl)

/-- laws.heldInt64S -/
noncomputable def r40b (x0 : Int) (x1 : List (List Int)) : Nat × Int :=
 cond (Nat.beq ((r40l0b (1000 + x1.length) x0 0 x1).1) 0)
  (0, (-1))
  (cond (Nat.beq ((r40l0b (1000 + x1.length) x0 0 x1).1) 1)
   (0, ((r40l0b (1000 + x1.length) x0 0 x1).2.2))
   (1, 0))
noncomputable def a40b (x0 : Int) (x1 : List (List Int)) (p : Nat × Int) : Res := firstT [((Nat.beq (p.1) 0), .int .i64 (p.2), ⟨[⟨true, (some (.tab [.int .i64] x1))⟩], 1, []⟩)]
noncomputable def w40b (x0 : Int) (x1 : List (List Int)) : Res :=
 (cond (Nat.beq ((r40l0b (1000 + x1.length) x0 0 x1).1) 0)
 (a40b x0 x1 (0, (-1)))
 (cond (Nat.beq ((r40l0b (1000 + x1.length) x0 0 x1).1) 1)
  (a40b x0 x1 (0, ((r40l0b (1000 + x1.length) x0 0 x1).2.2)))
  none))
set_option maxRecDepth 100000 in
set_option maxHeartbeats 4000000 in
theorem e40b (x0 : Int) (x1 : List (List Int)) : evFn Try.prog ext T69 L40_2 200 Try.f40 [wsl 0, .int .i64 x0] ⟨[⟨true, (some (.tab [.int .i64] x1))⟩], 1, []⟩ = firstT [((Nat.beq ((r40b x0 x1).1) 0), .int .i64 ((r40b x0 x1).2), ⟨[⟨true, (some (.tab [.int .i64] x1))⟩], 1, []⟩)] :=
 (show evFn Try.prog ext T69 L40_2 200 Try.f40 [wsl 0, .int .i64 x0] ⟨[⟨true, (some (.tab [.int .i64] x1))⟩], 1, []⟩ = w40b x0 x1 from by kernel_rfl).trans
 (show w40b x0 x1 = a40b x0 x1 (r40b x0 x1) from by unfold w40b r40b; exact (cond_app (a40b x0 x1) _ rfl (cond_app (a40b x0 x1) _ rfl rfl)))
noncomputable def s40b (args : List Value) (s : St) : List (Bool × Value × St) :=
 match args, s.h with
 | [.iface f0 .nilIface, .int .i64 x0], [⟨true, some (.tab [.int .i64] x1)⟩] => if f0 = 0 then [((Nat.beq ((r40b x0 x1).1) 0), .int .i64 ((r40b x0 x1).2), ⟨[⟨true, (some (.tab [.int .i64] x1))⟩], 1, []⟩)] else T69 40 args s
 | _, _ => T69 40 args s
noncomputable def T70 : CallF := addF T69 40 s40b
set_option maxRecDepth 100000 in
set_option maxHeartbeats 4000000 in
theorem ok70 : CfOk Try.prog T70 := by
  refine cfOk_add ok69 fun args s r s' h1 h2 h3 => ?_
  unfold s40b at h3; split at h3
  · rename_i h; split at h3
    · rename_i hc; obtain ⟨rfl⟩ := hc; exact callOk ok69 Try.func40 h1 h2 h lok40_2.body (e40b _ _) rfl h3
    · exact ok69 _ _ _ _ _ h1 h2 h3
  · exact ok69 _ _ _ _ _ h1 h2 h3

/-- laws.FnExactBlownBack -/
noncomputable def r8 (x0 x1 : Nat) (x2 : List (List Int)) : Nat × Bool :=
 cond (decide (((r24 1048576 x2) : Int) < 0))
  (0, true)
  (cond (Nat.beq ((r25 x2).1) 0)
   (cond (Nat.beq ((r37 x0 x1 ((r25 x2).2)).1) 0)
    (cond (Nat.beq ((r17 x0 x1 ((r25 x2).2)).1) 0)
     (cond (!(r38 ((r37 x0 x1 ((r25 x2).2)).2.2)))
      (0, false)
      (cond ((((r17 x0 x1 ((r25 x2).2)).2.1) : Int) != ((r37 x0 x1 ((r25 x2).2)).2.1))
       (0, false)
       (cond (Nat.beq ((r27 ((r25 x2).2) ((r25 x2).2)).1) 0)
        (cond (!((r27 ((r25 x2).2) ((r25 x2).2)).2))
         (0, false)
         (cond (Nat.beq ((r31 1 ((r25 x2).2)).1) 0)
          (cond (decide ((((r31 1 ((r25 x2).2)).2.1) : Int) < 0))
           (0, false)
           (0, true))
          (1, false)))
        (1, false))))
     (cond (Nat.beq ((r17 x0 x1 ((r25 x2).2)).1) 1)
      (cond (Nat.beq ((r38b ((r17 x0 x1 ((r25 x2).2)).2.2) ((r37 x0 x1 ((r25 x2).2)).2.2)).1) 0)
       (cond (!((r38b ((r17 x0 x1 ((r25 x2).2)).2.2) ((r37 x0 x1 ((r25 x2).2)).2.2)).2))
        (0, false)
        (cond ((0 : Int) != ((r37 x0 x1 ((r25 x2).2)).2.1))
         (0, false)
         (cond (Nat.beq ((r27 ((r25 x2).2) ((r25 x2).2)).1) 0)
          (cond (!((r27 ((r25 x2).2) ((r25 x2).2)).2))
           (0, false)
           (cond (Nat.beq ((r31 1 ((r25 x2).2)).1) 0)
            (cond (decide ((((r31 1 ((r25 x2).2)).2.1) : Int) < 0))
             (0, false)
             (cond (Nat.beq ((r39b 1 ((r17 x0 x1 ((r25 x2).2)).2.2)).1) 0)
              (cond (Nat.beq ((r40b 1 ((r39b 1 ((r17 x0 x1 ((r25 x2).2)).2.2)).2.2)).1) 0)
               (cond (decide ((((r40b 1 ((r39b 1 ((r17 x0 x1 ((r25 x2).2)).2.2)).2.2)).2) : Int) < 0))
                (0, false)
                (cond ((((r40b 1 ((r39b 1 ((r17 x0 x1 ((r25 x2).2)).2.2)).2.2)).2) : Int) != ((r39b 1 ((r17 x0 x1 ((r25 x2).2)).2.2)).2.1))
                 (0, false)
                 (0, true)))
               (1, false))
              (1, false)))
            (1, false)))
          (1, false))))
       (1, false))
      (1, false)))
    (1, false))
   (1, false))
noncomputable def a8 (x0 x1 : Nat) (x2 : List (List Int)) (p : Nat × Bool) : Res := firstT [((Nat.beq (p.1) 0), .bool (p.2), ⟨[⟨false, (some (.tab sc0 x2))⟩], 1, []⟩)]
noncomputable def w8 (x0 x1 : Nat) (x2 : List (List Int)) : Res :=
 (cond (decide (((r24 1048576 x2) : Int) < 0))
 (a8 x0 x1 x2 (0, true))
 (cond (Nat.beq ((r25 x2).1) 0)
  (cond (Nat.beq ((r37 x0 x1 ((r25 x2).2)).1) 0)
   (cond (Nat.beq ((r25 x2).1) 0)
    (cond (Nat.beq ((r17 x0 x1 ((r25 x2).2)).1) 0)
     (cond (!(r38 ((r37 x0 x1 ((r25 x2).2)).2.2)))
      (a8 x0 x1 x2 (0, false))
      (cond ((((r17 x0 x1 ((r25 x2).2)).2.1) : Int) != ((r37 x0 x1 ((r25 x2).2)).2.1))
       (a8 x0 x1 x2 (0, false))
       (cond (Nat.beq ((r25 x2).1) 0)
        (cond (Nat.beq ((r27 ((r25 x2).2) ((r25 x2).2)).1) 0)
         (cond (!((r27 ((r25 x2).2) ((r25 x2).2)).2))
          (a8 x0 x1 x2 (0, false))
          (cond (Nat.beq ((r31 1 ((r25 x2).2)).1) 0)
           (cond (decide ((((r31 1 ((r25 x2).2)).2.1) : Int) < 0))
            (a8 x0 x1 x2 (0, false))
            (cond (!(r38 ((r37 x0 x1 ((r25 x2).2)).2.2)))
             (some (.bool false, ⟨[⟨false, (some (.tab sc0 x2))⟩], 1, []⟩))
             (cond ((((r17 x0 x1 ((r25 x2).2)).2.1) : Int) != ((r37 x0 x1 ((r25 x2).2)).2.1))
              (some (.bool false, ⟨[⟨false, (some (.tab sc0 x2))⟩], 1, []⟩))
              (cond (Nat.beq ((r25 x2).1) 0)
               (cond (Nat.beq ((r17 x0 x1 ((r25 x2).2)).1) 0)
                (cond (!(r38 ((r37 x0 x1 ((r25 x2).2)).2.2)))
                 (some (.bool false, ⟨[⟨false, (some (.tab sc0 x2))⟩], 1, []⟩))
                 (cond ((((r17 x0 x1 ((r25 x2).2)).2.1) : Int) != ((r37 x0 x1 ((r25 x2).2)).2.1))
                  (some (.bool false, ⟨[⟨false, (some (.tab sc0 x2))⟩], 1, []⟩))
                  (a8 x0 x1 x2 (0, true))))
                (cond (Nat.beq ((r17 x0 x1 ((r25 x2).2)).1) 1)
                 (cond (Nat.beq ((r38b ((r17 x0 x1 ((r25 x2).2)).2.2) ((r37 x0 x1 ((r25 x2).2)).2.2)).1) 0)
                  (cond (!((r38b ((r17 x0 x1 ((r25 x2).2)).2.2) ((r37 x0 x1 ((r25 x2).2)).2.2)).2))
                   (some (.bool false, ⟨[⟨false, (some (.tab sc0 x2))⟩], 1, []⟩))
                   (cond ((0 : Int) != ((r37 x0 x1 ((r25 x2).2)).2.1))
                    (some (.bool false, ⟨[⟨false, (some (.tab sc0 x2))⟩], 1, []⟩))
                    (some (.bool true, ⟨[⟨false, (some (.tab sc0 x2))⟩], 1, []⟩))))
                  none)
                 none))
               none))))
           none))
         none)
        none)))
     (cond (Nat.beq ((r17 x0 x1 ((r25 x2).2)).1) 1)
      (cond (Nat.beq ((r38b ((r17 x0 x1 ((r25 x2).2)).2.2) ((r37 x0 x1 ((r25 x2).2)).2.2)).1) 0)
       (cond (!((r38b ((r17 x0 x1 ((r25 x2).2)).2.2) ((r37 x0 x1 ((r25 x2).2)).2.2)).2))
        (a8 x0 x1 x2 (0, false))
        (cond ((0 : Int) != ((r37 x0 x1 ((r25 x2).2)).2.1))
         (a8 x0 x1 x2 (0, false))
         (cond (Nat.beq ((r25 x2).1) 0)
          (cond (Nat.beq ((r27 ((r25 x2).2) ((r25 x2).2)).1) 0)
           (cond (!((r27 ((r25 x2).2) ((r25 x2).2)).2))
            (a8 x0 x1 x2 (0, false))
            (cond (Nat.beq ((r31 1 ((r25 x2).2)).1) 0)
             (cond (decide ((((r31 1 ((r25 x2).2)).2.1) : Int) < 0))
              (a8 x0 x1 x2 (0, false))
              (cond (Nat.beq ((r38b ((r17 x0 x1 ((r25 x2).2)).2.2) ((r37 x0 x1 ((r25 x2).2)).2.2)).1) 0)
               (cond (!((r38b ((r17 x0 x1 ((r25 x2).2)).2.2) ((r37 x0 x1 ((r25 x2).2)).2.2)).2))
                (some (.bool false, ⟨[⟨false, (some (.tab sc0 x2))⟩], 1, []⟩))
                (cond ((0 : Int) != ((r37 x0 x1 ((r25 x2).2)).2.1))
                 (some (.bool false, ⟨[⟨false, (some (.tab sc0 x2))⟩], 1, []⟩))
                 (cond (Nat.beq ((r39b 1 ((r17 x0 x1 ((r25 x2).2)).2.2)).1) 0)
                  (cond (Nat.beq ((r40b 1 ((r39b 1 ((r17 x0 x1 ((r25 x2).2)).2.2)).2.2)).1) 0)
                   (cond (decide ((((r40b 1 ((r39b 1 ((r17 x0 x1 ((r25 x2).2)).2.2)).2.2)).2) : Int) < 0))
                    (a8 x0 x1 x2 (0, false))
                    (cond ((((r40b 1 ((r39b 1 ((r17 x0 x1 ((r25 x2).2)).2.2)).2.2)).2) : Int) != ((r39b 1 ((r17 x0 x1 ((r25 x2).2)).2.2)).2.1))
                     (a8 x0 x1 x2 (0, false))
                     (cond (Nat.beq ((r25 x2).1) 0)
                      (cond (Nat.beq ((r17 x0 x1 ((r25 x2).2)).1) 0)
                       (cond (!(r38 ((r37 x0 x1 ((r25 x2).2)).2.2)))
                        (some (.bool false, ⟨[⟨false, (some (.tab sc0 x2))⟩], 1, []⟩))
                        (cond ((((r17 x0 x1 ((r25 x2).2)).2.1) : Int) != ((r37 x0 x1 ((r25 x2).2)).2.1))
                         (some (.bool false, ⟨[⟨false, (some (.tab sc0 x2))⟩], 1, []⟩))
                         (cond (Nat.beq ((r40b 1 ((r39b 1 ((r17 x0 x1 ((r25 x2).2)).2.2)).2.2)).1) 0)
                          (cond (decide ((((r40b 1 ((r39b 1 ((r17 x0 x1 ((r25 x2).2)).2.2)).2.2)).2) : Int) < 0))
                           (some (.bool false, ⟨[⟨false, (some (.tab sc0 x2))⟩], 1, []⟩))
                           (cond ((((r40b 1 ((r39b 1 ((r17 x0 x1 ((r25 x2).2)).2.2)).2.2)).2) : Int) != ((r39b 1 ((r17 x0 x1 ((r25 x2).2)).2.2)).2.1))
                            (some (.bool false, ⟨[⟨false, (some (.tab sc0 x2))⟩], 1, []⟩))
                            (some (.bool true, ⟨[⟨false, (some (.tab sc0 x2))⟩], 1, []⟩))))
                          none)))
                       (cond (Nat.beq ((r17 x0 x1 ((r25 x2).2)).1) 1)
                        (cond (Nat.beq ((r38b ((r17 x0 x1 ((r25 x2).2)).2.2) ((r37 x0 x1 ((r25 x2).2)).2.2)).1) 0)
                         (cond (!((r38b ((r17 x0 x1 ((r25 x2).2)).2.2) ((r37 x0 x1 ((r25 x2).2)).2.2)).2))
                          (some (.bool false, ⟨[⟨false, (some (.tab sc0 x2))⟩], 1, []⟩))
                          (cond ((0 : Int) != ((r37 x0 x1 ((r25 x2).2)).2.1))
                           (some (.bool false, ⟨[⟨false, (some (.tab sc0 x2))⟩], 1, []⟩))
                           (cond (Nat.beq ((r40b 1 ((r39b 1 ((r17 x0 x1 ((r25 x2).2)).2.2)).2.2)).1) 0)
                            (cond (decide ((((r40b 1 ((r39b 1 ((r17 x0 x1 ((r25 x2).2)).2.2)).2.2)).2) : Int) < 0))
                             (some (.bool false, ⟨[⟨false, (some (.tab sc0 x2))⟩], 1, []⟩))
                             (cond ((((r40b 1 ((r39b 1 ((r17 x0 x1 ((r25 x2).2)).2.2)).2.2)).2) : Int) != ((r39b 1 ((r17 x0 x1 ((r25 x2).2)).2.2)).2.1))
                              (some (.bool false, ⟨[⟨false, (some (.tab sc0 x2))⟩], 1, []⟩))
                              (a8 x0 x1 x2 (0, true))))
                            none)))
                         none)
                        none))
                      none)))
                   none)
                  none)))
               none))
             none))
           none)
          none)))
       none)
      none))
    none)
   none)
  none))
set_option maxRecDepth 100000 in
set_option maxHeartbeats 4000000 in
theorem e8 (x0 x1 : Nat) (x2 : List (List Int)) : evFn Try.prog ext T70 noL 200 Try.f8 [wsl 0, .float .f32 x0, .float .f32 x1] ⟨[⟨false, (some (.tab sc0 x2))⟩], 1, []⟩ = firstT [((Nat.beq ((r8 x0 x1 x2).1) 0), .bool ((r8 x0 x1 x2).2), ⟨[⟨false, (some (.tab sc0 x2))⟩], 1, []⟩)] :=
 (show evFn Try.prog ext T70 noL 200 Try.f8 [wsl 0, .float .f32 x0, .float .f32 x1] ⟨[⟨false, (some (.tab sc0 x2))⟩], 1, []⟩ = w8 x0 x1 x2 from by kernel_rfl).trans
 (show w8 x0 x1 x2 = a8 x0 x1 x2 (r8 x0 x1 x2) from by unfold w8 r8; exact (cond_both (a8 x0 x1 x2) _ (fun h0 => rfl) (fun h0 => (cond_both (a8 x0 x1 x2) _ (fun h1 => (cond_both (a8 x0 x1 x2) _ (fun h2 => (cond_t h1 (cond_both (a8 x0 x1 x2) _ (fun h3 => (cond_both (a8 x0 x1 x2) _ (fun h4 => rfl) (fun h4 => (cond_both (a8 x0 x1 x2) _ (fun h5 => rfl) (fun h5 => (cond_t h1 (cond_both (a8 x0 x1 x2) _ (fun h6 => (cond_both (a8 x0 x1 x2) _ (fun h7 => rfl) (fun h7 => (cond_both (a8 x0 x1 x2) _ (fun h8 => (cond_both (a8 x0 x1 x2) _ (fun h9 => rfl) (fun h9 => (cond_f (ev_not0 (ev_notf h4)) (cond_f h5 (cond_t h1 (cond_t h3 (cond_f (ev_not0 (ev_notf h4)) (cond_f h5 rfl))))))))) (fun h8 => rfl))))) (fun h6 => rfl)))))))) (fun h3 => (cond_both (a8 x0 x1 x2) _ (fun h4 => (cond_both (a8 x0 x1 x2) _ (fun h5 => (cond_both (a8 x0 x1 x2) _ (fun h6 => rfl) (fun h6 => (cond_both (a8 x0 x1 x2) _ (fun h7 => rfl) (fun h7 => (cond_t h1 (cond_both (a8 x0 x1 x2) _ (fun h8 => (cond_both (a8 x0 x1 x2) _ (fun h9 => rfl) (fun h9 => (cond_both (a8 x0 x1 x2) _ (fun h10 => (cond_both (a8 x0 x1 x2) _ (fun h11 => rfl) (fun h11 => (cond_t h5 (cond_f (ev_not0 (ev_notf h6)) (cond_f h7 (cond_both (a8 x0 x1 x2) _ (fun h12 => (cond_both (a8 x0 x1 x2) _ (fun h13 => (cond_both (a8 x0 x1 x2) _ (fun h14 => rfl) (fun h14 => (cond_both (a8 x0 x1 x2) _ (fun h15 => rfl) (fun h15 => (cond_t h1 (cond_f h3 (cond_t h4 (cond_t h5 (cond_f (ev_not0 (ev_notf h6)) (cond_f h7 (cond_t h13 (cond_f h14 (cond_f h15 rfl)))))))))))))) (fun h13 => rfl))) (fun h12 => rfl)))))))) (fun h10 => rfl))))) (fun h8 => rfl)))))))) (fun h5 => rfl))) (fun h4 => rfl)))))) (fun h2 => rfl))) (fun h1 => rfl)))))
noncomputable def s8 (args : List Value) (s : St) : List (Bool × Value × St) :=
 match args, s.h with
 | [.iface f0 .nilIface, .float .f32 x0, .float .f32 x1], [⟨false, some (.tab [.fl .f32, .fl .f32, .fl .f32, .fl .f32, .int .i64] x2)⟩] => if f0 = 0 then [((Nat.beq ((r8 x0 x1 x2).1) 0), .bool ((r8 x0 x1 x2).2), ⟨[⟨false, (some (.tab sc0 x2))⟩], 1, []⟩)] else T70 8 args s
 | _, _ => T70 8 args s
noncomputable def T71 : CallF := addF T70 8 s8
set_option maxRecDepth 100000 in
set_option maxHeartbeats 4000000 in
theorem ok71 : CfOk Try.prog T71 := by
  refine cfOk_add ok70 fun args s r s' h1 h2 h3 => ?_
  unfold s8 at h3; split at h3
  · rename_i h; split at h3
    · rename_i hc; obtain ⟨rfl⟩ := hc; exact callOk ok70 Try.func8 h1 h2 h (lfOkF_no _ _).body (e8 _ _ _) rfl h3
    · exact ok70 _ _ _ _ _ h1 h2 h3
  · exact ok70 _ _ _ _ _ h1 h2 h3
end Go.Proofs.Ytdpkbkmmlbmllaa
