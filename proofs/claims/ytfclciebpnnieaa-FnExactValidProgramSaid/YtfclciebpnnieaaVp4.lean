/- What the functions that the statements reach answer, part 4. -/
import Derived.Test.YtfclciebpnnieaaVp3
namespace Go.Proofs.Ytfclciebpnnieaa
open Go.Ab
set_option maxHeartbeats 4000000

/-- impl.ValidProgram -/
noncomputable def r16 (x0 : List ByteArray) (x1 : List (List Int)) : Nat × Bool :=
 cond (decide ((((x0.length : Nat) : Int) : Int) > 12))
  (0, false)
  (cond (decide ((((x1.length : Nat) : Int) : Int) > 300))
   (0, false)
   (cond (Nat.beq (r16l0 (1000 + x1.length + x0.length) ((x0.length : Nat) : Int) 0 x0 x1) 0)
    (0, false)
    (cond (Nat.beq (r16l0 (1000 + x1.length + x0.length) ((x0.length : Nat) : Int) 0 x0 x1) 1)
     (cond (Nat.beq ((r16l1 (1000 + x0.length + x1.length) 0 0 ((x1.length : Nat) : Int) 0 x1 x0).1) 0)
      (0, false)
      (cond (Nat.beq ((r16l1 (1000 + x0.length + x1.length) 0 0 ((x1.length : Nat) : Int) 0 x1 x0).1) 1)
       (cond ((((r16l1 (1000 + x0.length + x1.length) 0 0 ((x1.length : Nat) : Int) 0 x1 x0).2.2.2.1) : Int) == 0)
        (0, ((((r16l1 (1000 + x0.length + x1.length) 0 0 ((x1.length : Nat) : Int) 0 x1 x0).2.2.2.2) : Int) == ((x0.length : Nat) : Int)))
        (0, false))
       (1, false)))
     (1, false))))
noncomputable def a16 (x0 : List ByteArray) (x1 : List (List Int)) (p : Nat × Bool) : Res := firstT [((Nat.beq (p.1) 0), .bool (p.2), ⟨[⟨true, (some (.strs x0))⟩, ⟨true, (some (.tab [.int .i8, .int .i16, .fl .f32] x1))⟩], 2, []⟩)]
noncomputable def t16 (x0 : List ByteArray) (x1 : List (List Int)) : Res :=
 (cond (decide ((((x0.length : Nat) : Int) : Int) > 12))
 (some (.bool false, ⟨[⟨true, (some (.strs x0))⟩, ⟨true, (some (.tab [.int .i8, .int .i16, .fl .f32] x1))⟩], 2, []⟩))
 (cond (decide ((((x1.length : Nat) : Int) : Int) > 300))
  (some (.bool false, ⟨[⟨true, (some (.strs x0))⟩, ⟨true, (some (.tab [.int .i8, .int .i16, .fl .f32] x1))⟩], 2, []⟩))
  (cond (Nat.beq (r16l0 (1000 + x1.length + x0.length) ((x0.length : Nat) : Int) 0 x0 x1) 0)
   (some (.bool false, ⟨[⟨true, (some (.strs x0))⟩, ⟨true, (some (.tab [.int .i8, .int .i16, .fl .f32] x1))⟩], 2, []⟩))
   (cond (Nat.beq (r16l0 (1000 + x1.length + x0.length) ((x0.length : Nat) : Int) 0 x0 x1) 1)
    (cond (Nat.beq ((r16l1 (1000 + x0.length + x1.length) 0 0 ((x1.length : Nat) : Int) 0 x1 x0).1) 0)
     (some (.bool false, ⟨[⟨true, (some (.strs x0))⟩, ⟨true, (some (.tab [.int .i8, .int .i16, .fl .f32] x1))⟩], 2, []⟩))
     (cond (Nat.beq ((r16l1 (1000 + x0.length + x1.length) 0 0 ((x1.length : Nat) : Int) 0 x1 x0).1) 1)
      (cond ((((r16l1 (1000 + x0.length + x1.length) 0 0 ((x1.length : Nat) : Int) 0 x1 x0).2.2.2.1) : Int) == 0)
       (some (.bool ((((r16l1 (1000 + x0.length + x1.length) 0 0 ((x1.length : Nat) : Int) 0 x1 x0).2.2.2.2) : Int) == ((x0.length : Nat) : Int)), ⟨[⟨true, (some (.strs x0))⟩, ⟨true, (some (.tab [.int .i8, .int .i16, .fl .f32] x1))⟩], 2, []⟩))
       (some (.bool false, ⟨[⟨true, (some (.strs x0))⟩, ⟨true, (some (.tab [.int .i8, .int .i16, .fl .f32] x1))⟩], 2, []⟩)))
      none))
    none))))
set_option maxRecDepth 100000 in
set_option maxHeartbeats 4000000 in
theorem e16 (x0 : List ByteArray) (x1 : List (List Int)) : evFn Try.prog ext T26 L16_2 200 Try.f16 [.agg #[wsl 0, wsl 1]] ⟨[⟨true, (some (.strs x0))⟩, ⟨true, (some (.tab [.int .i8, .int .i16, .fl .f32] x1))⟩], 2, []⟩ = firstT [((Nat.beq ((r16 x0 x1).1) 0), .bool ((r16 x0 x1).2), ⟨[⟨true, (some (.strs x0))⟩, ⟨true, (some (.tab [.int .i8, .int .i16, .fl .f32] x1))⟩], 2, []⟩)] :=
 (show evFn Try.prog ext T26 L16_2 200 Try.f16 [.agg #[wsl 0, wsl 1]] ⟨[⟨true, (some (.strs x0))⟩, ⟨true, (some (.tab [.int .i8, .int .i16, .fl .f32] x1))⟩], 2, []⟩ = t16 x0 x1 from by kernel_rfl).trans
 (show t16 x0 x1 = a16 x0 x1 (r16 x0 x1) from (cond_app (a16 x0 x1) _ rfl (cond_app (a16 x0 x1) _ rfl (cond_app (a16 x0 x1) _ rfl (cond_app (a16 x0 x1) _ (cond_app (a16 x0 x1) _ rfl (cond_app (a16 x0 x1) _ (cond_app (a16 x0 x1) _ rfl rfl) rfl)) rfl)))))
noncomputable def s16 (args : List Value) (s : St) : List (Bool × Value × St) :=
 match args, s.h with
 | [.agg ⟨[.iface f0 .nilIface, .iface f1 .nilIface]⟩], [⟨true, some (.strs x0)⟩, ⟨true, some (.tab [.int .i8, .int .i16, .fl .f32] x1)⟩] => if f0 = 0 ∧ f1 = 1 then [((Nat.beq ((r16 x0 x1).1) 0), .bool ((r16 x0 x1).2), ⟨[⟨true, (some (.strs x0))⟩, ⟨true, (some (.tab [.int .i8, .int .i16, .fl .f32] x1))⟩], 2, []⟩)] else T26 16 args s
 | _, _ => T26 16 args s
noncomputable def T27 : CallF := addF T26 16 s16
set_option maxRecDepth 100000 in
set_option maxHeartbeats 4000000 in
theorem ok27 : CfOk Try.prog T27 := by
  refine cfOk_add ok26 fun args s r s' h1 h2 h3 => ?_
  unfold s16 at h3; split at h3
  · rename_i h; split at h3
    · rename_i hc; obtain ⟨rfl, rfl⟩ := hc; exact callOk ok26 Try.func16 h1 h2 h lok16_2.body (e16 _ _) rfl h3
    · exact ok26 _ _ _ _ _ h1 h2 h3
  · exact ok26 _ _ _ _ _ h1 h2 h3

/-- laws.eqStringS, loop 0: one round -/
noncomputable def b46l0 (ih : Int → List ByteArray → List ByteArray → Nat) (x0 : Int) (x1 x2 : List ByteArray) : Nat :=
 cond (decide ((x0 : Int) < ((x1.length : Nat) : Int)))
  (cond ((decide ((0 : Int) ≤ x0)) && (Nat.blt (Int.toNat x0) x1.length))
   (cond ((decide ((0 : Int) ≤ x0)) && (Nat.blt (Int.toNat x0) x2.length))
    (cond (!((x1.getD (Int.toNat x0) .empty).toList == (x2.getD (Int.toNat x0) .empty).toList))
     (0)
     (ih (IntKind.i64.wrap (x0 + 1)) x1 x2))
    (2))
   (2))
  (1)
noncomputable def r46l0 : Nat → Int → List ByteArray → List ByteArray → Nat
 | 0, _, _, _ => (2)
 | m + 1, x0, x1, x2 => b46l0 (r46l0 m) x0 x1 x2
noncomputable def a46l0 (x0 : Int) (x1 x2 : List ByteArray) (p : Nat) : Option (Fin' × List Value × St) := firstT ([((Nat.beq p 0), .ret, [.bool false], ⟨[⟨true, (some (.strs x1))⟩, ⟨true, (some (.strs x2))⟩], 2, []⟩), ((Nat.beq p 1), .exit 0, [anyV], ⟨[⟨true, (some (.strs x1))⟩, ⟨true, (some (.strs x2))⟩], 2, []⟩)].map fun (b, x) => (b, (x.1, frameOf 26 [4] x.2.1, x.2.2)))
theorem v46l0 (x0 : Int) (x1 x2 : List ByteArray) (p : Nat) : alts ([((Nat.beq p 0), .ret, [.bool false], ⟨[⟨true, (some (.strs x1))⟩, ⟨true, (some (.strs x2))⟩], 2, []⟩), ((Nat.beq p 1), .exit 0, [anyV], ⟨[⟨true, (some (.strs x1))⟩, ⟨true, (some (.strs x2))⟩], 2, []⟩)].map fun (b, x) => (b, (x.1, frameOf 26 [4] x.2.1, x.2.2))) some = a46l0 x0 x1 x2 p := alts_first _
noncomputable def q46l0 (m : Nat) : SumK := fun vals s =>
 match vals, s.h with
 | [.iface f0 .nilIface, .iface f1 .nilIface, .int .i64 x0], [⟨true, some (.strs x1)⟩, ⟨true, some (.strs x2)⟩] => if f0 = 0 ∧ f1 = 1 then [((Nat.beq (r46l0 m x0 x1 x2) 0), .ret, [.bool false], ⟨[⟨true, (some (.strs x1))⟩, ⟨true, (some (.strs x2))⟩], 2, []⟩), ((Nat.beq (r46l0 m x0 x1 x2) 1), .exit 0, [anyV], ⟨[⟨true, (some (.strs x1))⟩, ⟨true, (some (.strs x2))⟩], 2, []⟩)] else noQ vals s
 | _, _ => noQ vals s
noncomputable def t46l0 (ih : Int → List ByteArray → List ByteArray → Nat) (x0 : Int) (x1 x2 : List ByteArray) : Option (Fin' × List Value × St) :=
 (cond (decide ((x0 : Int) < ((x1.length : Nat) : Int)))
 (cond ((decide ((0 : Int) ≤ x0)) && (Nat.blt (Int.toNat x0) x1.length))
  (cond ((decide ((0 : Int) ≤ x0)) && (Nat.blt (Int.toNat x0) x2.length))
   (cond (!((x1.getD (Int.toNat x0) .empty).toList == (x2.getD (Int.toNat x0) .empty).toList))
    (some (.ret, frameOf 26 [4] [.bool false], ⟨[⟨true, (some (.strs x1))⟩, ⟨true, (some (.strs x2))⟩], 2, []⟩))
    (cond (Nat.beq (ih (IntKind.i64.wrap (x0 + 1)) x1 x2) 0)
     (some (.ret, frameOf 26 [4] [.bool false], ⟨[⟨true, (some (.strs x1))⟩, ⟨true, (some (.strs x2))⟩], 2, []⟩))
     (cond (Nat.beq (ih (IntKind.i64.wrap (x0 + 1)) x1 x2) 1)
      (some (.exit 0, frameOf 26 [4] [anyV], ⟨[⟨true, (some (.strs x1))⟩, ⟨true, (some (.strs x2))⟩], 2, []⟩))
      none)))
   none)
  none)
 (some (.exit 0, frameOf 26 [4] [anyV], ⟨[⟨true, (some (.strs x1))⟩, ⟨true, (some (.strs x2))⟩], 2, []⟩)))
noncomputable def w46l0 (ih : Int → List ByteArray → List ByteArray → Nat) (x0 : Int) (x1 x2 : List ByteArray) : Option (Fin' × List Value × St) :=
 (cond (decide ((x0 : Int) < ((x1.length : Nat) : Int)))
 (cond ((decide ((0 : Int) ≤ x0)) && (Nat.blt (Int.toNat x0) x1.length))
  (cond (Nat.blt (Int.toNat x0) x1.length)
   (cond ((decide ((0 : Int) ≤ x0)) && (Nat.blt (Int.toNat x0) x2.length))
    (cond (Nat.blt (Int.toNat x0) x2.length)
     (cond (!((x1.getD (Int.toNat x0) .empty).toList == (x2.getD (Int.toNat x0) .empty).toList))
      (some (.ret, frameOf 26 [4] [.bool false], ⟨[⟨true, (some (.strs x1))⟩, ⟨true, (some (.strs x2))⟩], 2, []⟩))
      (cond (Nat.beq (ih (IntKind.i64.wrap (x0 + 1)) x1 x2) 0)
       (some (.ret, frameOf 26 [4] [.bool false], ⟨[⟨true, (some (.strs x1))⟩, ⟨true, (some (.strs x2))⟩], 2, []⟩))
       (cond (Nat.beq (ih (IntKind.i64.wrap (x0 + 1)) x1 x2) 1)
        (some (.exit 0, frameOf 26 [4] [anyV], ⟨[⟨true, (some (.strs x1))⟩, ⟨true, (some (.strs x2))⟩], 2, []⟩))
        none)))
     none)
    none)
   none)
  none)
 (some (.exit 0, frameOf 26 [4] [anyV], ⟨[⟨true, (some (.strs x1))⟩, ⟨true, (some (.strs x2))⟩], 2, []⟩)))
set_option maxRecDepth 100000 in
set_option maxHeartbeats 4000000 in
theorem e46l0 (m : Nat) (x0 : Int) (x1 x2 : List ByteArray) : evC Try.prog ext T27 noL 200 (loopN Try.f46 0) (loopTail [0, 1, 5] [4] [] (sumK 26 [0, 1, 5] [4] (q46l0 m))) (frameOf 26 [0, 1, 5] [wsl 0, wsl 1, .int .i64 x0]) ⟨[⟨true, (some (.strs x1))⟩, ⟨true, (some (.strs x2))⟩], 2, []⟩ = firstT ([((Nat.beq (r46l0 (m + 1) x0 x1 x2) 0), .ret, [.bool false], ⟨[⟨true, (some (.strs x1))⟩, ⟨true, (some (.strs x2))⟩], 2, []⟩), ((Nat.beq (r46l0 (m + 1) x0 x1 x2) 1), .exit 0, [anyV], ⟨[⟨true, (some (.strs x1))⟩, ⟨true, (some (.strs x2))⟩], 2, []⟩)].map fun (b, x) => (b, (x.1, frameOf 26 [4] x.2.1, x.2.2))) :=
 (show evC Try.prog ext T27 noL 200 (loopN Try.f46 0) (loopTail [0, 1, 5] [4] [] (sumK 26 [0, 1, 5] [4] (q46l0 m))) (frameOf 26 [0, 1, 5] [wsl 0, wsl 1, .int .i64 x0]) ⟨[⟨true, (some (.strs x1))⟩, ⟨true, (some (.strs x2))⟩], 2, []⟩ = w46l0 (r46l0 m) x0 x1 x2 from by kernel_rfl).trans
 ((show w46l0 (r46l0 m) x0 x1 x2 = t46l0 (r46l0 m) x0 x1 x2 from (cond_cong _ (fun h0 => (cond_cong _ (fun h1 => (cond_t (ev_and2 h1) (cond_cong _ (fun h2 => (cond_t (ev_and2 h2) rfl)) (fun h2 => rfl)))) (fun h1 => rfl))) (fun h0 => rfl))).trans
 (show t46l0 (r46l0 m) x0 x1 x2 = a46l0 x0 x1 x2 (r46l0 (m + 1) x0 x1 x2) from (cond_app (a46l0 x0 x1 x2) _ (cond_app (a46l0 x0 x1 x2) _ (cond_app (a46l0 x0 x1 x2) _ (cond_app (a46l0 x0 x1 x2) _ rfl (v46l0 x0 x1 x2 ((r46l0 m) (IntKind.i64.wrap (x0 + 1)) x1 x2))) rfl) rfl) rfl)))
set_option maxRecDepth 100000 in
set_option maxHeartbeats 4000000 in
theorem qm46l0 : ∀ m, SumKOk Try.prog (loopN Try.f46 0) 26 [0, 1, 5] [4] (q46l0 m) := by
  intro m
  induction m with
  | zero =>
    intro vals s x h1 h2 h3
    unfold q46l0 at h3; split at h3
    · rename_i h; split at h3
      · rename_i hc; obtain ⟨rfl, rfl⟩ := hc; exact absurd h3 (by simp [r46l0, firstT, Nat.beq])
      · exact noQ_ok _ _ _ h1 h2 h3
    · exact noQ_ok _ _ _ h1 h2 h3
  | succ m ih =>
    intro vals s x h1 h2 h3
    unfold q46l0 at h3; split at h3
    · rename_i h; split at h3
      · rename_i hc; obtain ⟨rfl, rfl⟩ := hc; exact sum_step ok27 extOk mixed ((lfOkF_no _ _).inner (by kernel_rfl)) ih h1 h2 h (e46l0 m _ _ _) rfl h3
      · exact noQ_ok _ _ _ h1 h2 h3
    · exact noQ_ok _ _ _ h1 h2 h3
noncomputable def Q46l0 : SumK := fun vals s => q46l0 (fuelOf vals s.h) vals s
theorem qok46l0 : SumKOk Try.prog (loopN Try.f46 0) 26 [0, 1, 5] [4] Q46l0 := fuel_ok qm46l0 fuelOf
noncomputable def L46_1 : LoopT := addL noL 5 [0, 1, 5] (sumK 26 [0, 1, 5] [4] Q46l0)
theorem lok46_1 : LfOkF Try.prog L46_1 Try.f46 := lfOkF_add (lfOkF_no _ _) qok46l0 (by kernel_rfl) (by kernel_rfl) (by kernel_rfl)

/-- laws.eqStringS -/
noncomputable def r46 (x0 x1 : List ByteArray) : Nat × Bool :=
 cond ((((x0.length : Nat) : Int) : Int) != ((x1.length : Nat) : Int))
  (0, false)
  (cond (Nat.beq (r46l0 (1000 + x1.length + x0.length) 0 x0 x1) 0)
   (0, false)
   (cond (Nat.beq (r46l0 (1000 + x1.length + x0.length) 0 x0 x1) 1)
    (0, true)
    (1, false)))
noncomputable def a46 (x0 x1 : List ByteArray) (p : Nat × Bool) : Res := firstT [((Nat.beq (p.1) 0), .bool (p.2), ⟨[⟨true, (some (.strs x0))⟩, ⟨true, (some (.strs x1))⟩], 2, []⟩)]
noncomputable def t46 (x0 x1 : List ByteArray) : Res :=
 (cond ((((x0.length : Nat) : Int) : Int) != ((x1.length : Nat) : Int))
 (some (.bool false, ⟨[⟨true, (some (.strs x0))⟩, ⟨true, (some (.strs x1))⟩], 2, []⟩))
 (cond (Nat.beq (r46l0 (1000 + x1.length + x0.length) 0 x0 x1) 0)
  (some (.bool false, ⟨[⟨true, (some (.strs x0))⟩, ⟨true, (some (.strs x1))⟩], 2, []⟩))
  (cond (Nat.beq (r46l0 (1000 + x1.length + x0.length) 0 x0 x1) 1)
   (some (.bool true, ⟨[⟨true, (some (.strs x0))⟩, ⟨true, (some (.strs x1))⟩], 2, []⟩))
   none)))
set_option maxRecDepth 100000 in
set_option maxHeartbeats 4000000 in
theorem e46 (x0 x1 : List ByteArray) : evFn Try.prog ext T27 L46_1 200 Try.f46 [wsl 0, wsl 1] ⟨[⟨true, (some (.strs x0))⟩, ⟨true, (some (.strs x1))⟩], 2, []⟩ = firstT [((Nat.beq ((r46 x0 x1).1) 0), .bool ((r46 x0 x1).2), ⟨[⟨true, (some (.strs x0))⟩, ⟨true, (some (.strs x1))⟩], 2, []⟩)] :=
 (show evFn Try.prog ext T27 L46_1 200 Try.f46 [wsl 0, wsl 1] ⟨[⟨true, (some (.strs x0))⟩, ⟨true, (some (.strs x1))⟩], 2, []⟩ = t46 x0 x1 from by kernel_rfl).trans
 (show t46 x0 x1 = a46 x0 x1 (r46 x0 x1) from (cond_app (a46 x0 x1) _ rfl (cond_app (a46 x0 x1) _ rfl (cond_app (a46 x0 x1) _ rfl rfl))))
noncomputable def s46 (args : List Value) (s : St) : List (Bool × Value × St) :=
 match args, s.h with
 | [.iface f0 .nilIface, .iface f1 .nilIface], [⟨true, some (.strs x0)⟩, ⟨true, some (.strs x1)⟩] => if f0 = 0 ∧ f1 = 1 then [((Nat.beq ((r46 x0 x1).1) 0), .bool ((r46 x0 x1).2), ⟨[⟨true, (some (.strs x0))⟩, ⟨true, (some (.strs x1))⟩], 2, []⟩)] else T27 46 args s
 | _, _ => T27 46 args s
noncomputable def T28 : CallF := addF T27 46 s46
set_option maxRecDepth 100000 in
set_option maxHeartbeats 4000000 in
theorem ok28 : CfOk Try.prog T28 := by
  refine cfOk_add ok27 fun args s r s' h1 h2 h3 => ?_
  unfold s46 at h3; split at h3
  · rename_i h; split at h3
    · rename_i hc; obtain ⟨rfl, rfl⟩ := hc; exact callOk ok27 Try.func46 h1 h2 h lok46_1.body (e46 _ _) rfl h3
    · exact ok27 _ _ _ _ _ h1 h2 h3
  · exact ok27 _ _ _ _ _ h1 h2 h3

/-- laws.sameFloat -/
noncomputable def r20 (x0 x1 : Nat) : Bool :=
 cond (!feq .f64 x0 x0)
  ((!feq .f64 x1 x1))
  (cond (!feq .f64 x1 x1)
   (false)
   (cond (feq .f64 x0 0)
    (cond (feq .f64 x1 0)
     (((fgt .f64 (fdiv .f64 4607182418800017408 x0) 0) == (fgt .f64 (fdiv .f64 4607182418800017408 x1) 0)))
     ((feq .f64 x0 x1)))
    ((feq .f64 x0 x1))))
noncomputable def a20 (x0 x1 : Nat) (p : Bool) : Res := firstT [(true, .bool p, st0)]
noncomputable def t20 (x0 x1 : Nat) : Res :=
 (cond (!feq .f64 x0 x0)
 (some (.bool (!feq .f64 x1 x1), st0))
 (cond (!feq .f64 x1 x1)
  (some (.bool false, st0))
  (cond (feq .f64 x0 0)
   (cond (feq .f64 x1 0)
    (some (.bool ((fgt .f64 (fdiv .f64 4607182418800017408 x0) 0) == (fgt .f64 (fdiv .f64 4607182418800017408 x1) 0)), st0))
    (some (.bool (feq .f64 x0 x1), st0)))
   (some (.bool (feq .f64 x0 x1), st0)))))
noncomputable def w20 (x0 x1 : Nat) : Res :=
 (cond (!feq .f64 x0 x0)
 (cond (!feq .f64 x0 x0)
  (some (.bool (!feq .f64 x1 x1), st0))
  (some (.bool false, st0)))
 (cond (!feq .f64 x1 x1)
  (cond (!feq .f64 x0 x0)
   (some (.bool (!feq .f64 x1 x1), st0))
   (some (.bool false, st0)))
  (cond (feq .f64 x0 0)
   (cond (feq .f64 x1 0)
    (some (.bool ((fgt .f64 (fdiv .f64 4607182418800017408 x0) 0) == (fgt .f64 (fdiv .f64 4607182418800017408 x1) 0)), st0))
    (some (.bool (feq .f64 x0 x1), st0)))
   (some (.bool (feq .f64 x0 x1), st0)))))
set_option maxRecDepth 100000 in
set_option maxHeartbeats 4000000 in
theorem e20 (x0 x1 : Nat) : evFn Try.prog ext T28 noL 200 Try.f20 [.float .f64 x0, .float .f64 x1] st0 = firstT [(true, .bool (r20 x0 x1), st0)] :=
 (show evFn Try.prog ext T28 noL 200 Try.f20 [.float .f64 x0, .float .f64 x1] st0 = w20 x0 x1 from by kernel_rfl).trans
 ((show w20 x0 x1 = t20 x0 x1 from (cond_cong _ (fun h0 => (cond_t (ev_not1 (ev_nott h0)) rfl)) (fun h0 => (cond_cong _ (fun h1 => (cond_f (ev_not0 (ev_notf h0)) rfl)) (fun h1 => rfl))))).trans
 (show t20 x0 x1 = a20 x0 x1 (r20 x0 x1) from (cond_app (a20 x0 x1) _ rfl (cond_app (a20 x0 x1) _ rfl (cond_app (a20 x0 x1) _ (cond_app (a20 x0 x1) _ rfl rfl) rfl)))))
noncomputable def s20 (args : List Value) (s : St) : List (Bool × Value × St) :=
 match args, s.h with
 | [.float .f64 x0, .float .f64 x1], [] => [(true, .bool (r20 x0 x1), st0)]
 | _, _ => T28 20 args s
noncomputable def T29 : CallF := addF T28 20 s20
set_option maxRecDepth 100000 in
set_option maxHeartbeats 4000000 in
theorem ok29 : CfOk Try.prog T29 := by
  refine cfOk_add ok28 fun args s r s' h1 h2 h3 => ?_
  unfold s20 at h3; split at h3
  · rename_i h; exact callOk ok28 Try.func20 h1 h2 h (lfOkF_no _ _).body (e20 _ _) rfl h3
  · exact ok28 _ _ _ _ _ h1 h2 h3

/-- laws.eqOp -/
noncomputable def r74 (x0 x1 : Int) (x2 : Nat) (x3 x4 : Int) (x5 : Nat) : Bool :=
 cond ((x0 : Int) != x3)
  (false)
  (cond ((x1 : Int) != x4)
   (false)
   (cond (!(r20 (widen x2) (widen x5)))
    (false)
    (true)))
noncomputable def a74 (x0 x1 : Int) (x2 : Nat) (x3 x4 : Int) (x5 : Nat) (p : Bool) : Res := firstT [(true, .bool p, st0)]
noncomputable def t74 (x0 x1 : Int) (x2 : Nat) (x3 x4 : Int) (x5 : Nat) : Res :=
 (cond ((x0 : Int) != x3)
 (some (.bool false, st0))
 (cond ((x1 : Int) != x4)
  (some (.bool false, st0))
  (cond (!(r20 (widen x2) (widen x5)))
   (some (.bool false, st0))
   (some (.bool true, st0)))))
set_option maxRecDepth 100000 in
set_option maxHeartbeats 4000000 in
theorem e74 (x0 x1 : Int) (x2 : Nat) (x3 x4 : Int) (x5 : Nat) : evFn Try.prog ext T29 noL 200 Try.f74 [.agg #[.int .i8 x0, .int .i16 x1, .float .f32 x2], .agg #[.int .i8 x3, .int .i16 x4, .float .f32 x5]] st0 = firstT [(true, .bool (r74 x0 x1 x2 x3 x4 x5), st0)] :=
 (show evFn Try.prog ext T29 noL 200 Try.f74 [.agg #[.int .i8 x0, .int .i16 x1, .float .f32 x2], .agg #[.int .i8 x3, .int .i16 x4, .float .f32 x5]] st0 = t74 x0 x1 x2 x3 x4 x5 from by kernel_rfl).trans
 (show t74 x0 x1 x2 x3 x4 x5 = a74 x0 x1 x2 x3 x4 x5 (r74 x0 x1 x2 x3 x4 x5) from (cond_app (a74 x0 x1 x2 x3 x4 x5) _ rfl (cond_app (a74 x0 x1 x2 x3 x4 x5) _ rfl (cond_app (a74 x0 x1 x2 x3 x4 x5) _ rfl rfl))))
noncomputable def s74 (args : List Value) (s : St) : List (Bool × Value × St) :=
 match args, s.h with
 | [.agg ⟨[.int .i8 x0, .int .i16 x1, .float .f32 x2]⟩, .agg ⟨[.int .i8 x3, .int .i16 x4, .float .f32 x5]⟩], [] => [(true, .bool (r74 x0 x1 x2 x3 x4 x5), st0)]
 | _, _ => T29 74 args s
noncomputable def T30 : CallF := addF T29 74 s74
set_option maxRecDepth 100000 in
set_option maxHeartbeats 4000000 in
theorem ok30 : CfOk Try.prog T30 := by
  refine cfOk_add ok29 fun args s r s' h1 h2 h3 => ?_
  unfold s74 at h3; split at h3
  · rename_i h; exact callOk ok29 Try.func74 h1 h2 h (lfOkF_no _ _).body (e74 _ _ _ _ _ _) rfl h3
  · exact ok29 _ _ _ _ _ h1 h2 h3

/-- laws.eqOpS, loop 0: one round -/
noncomputable def b47l0 (ih : Int → List (List Int) → List (List Int) → Nat) (x0 : Int) (x1 x2 : List (List Int)) : Nat :=
 let c20 := (r74 ((x1.getD (Int.toNat x0) []).getD 0 0) ((x1.getD (Int.toNat x0) []).getD 1 0) (Int.toNat ((x1.getD (Int.toNat x0) []).getD 2 0)) ((x2.getD (Int.toNat x0) []).getD 0 0) ((x2.getD (Int.toNat x0) []).getD 1 0) (Int.toNat ((x2.getD (Int.toNat x0) []).getD 2 0)))
 cond (decide ((x0 : Int) < ((x1.length : Nat) : Int)))
  (cond ((decide ((0 : Int) ≤ x0)) && (Nat.blt (Int.toNat x0) x1.length))
   (cond ((decide ((0 : Int) ≤ x0)) && (Nat.blt (Int.toNat x0) x2.length))
    (cond (!c20)
     (0)
     (ih (IntKind.i64.wrap (x0 + 1)) x1 x2))
    (2))
   (2))
  (1)
noncomputable def r47l0 : Nat → Int → List (List Int) → List (List Int) → Nat
 | 0, _, _, _ => (2)
 | m + 1, x0, x1, x2 => b47l0 (r47l0 m) x0 x1 x2
noncomputable def a47l0 (x0 : Int) (x1 x2 : List (List Int)) (p : Nat) : Option (Fin' × List Value × St) := firstT ([((Nat.beq p 0), .ret, [.bool false], ⟨[⟨true, (some (.tab [.int .i8, .int .i16, .fl .f32] x1))⟩, ⟨true, (some (.tab [.int .i8, .int .i16, .fl .f32] x2))⟩], 2, []⟩), ((Nat.beq p 1), .exit 0, [anyV], ⟨[⟨true, (some (.tab [.int .i8, .int .i16, .fl .f32] x1))⟩, ⟨true, (some (.tab [.int .i8, .int .i16, .fl .f32] x2))⟩], 2, []⟩)].map fun (b, x) => (b, (x.1, frameOf 27 [4] x.2.1, x.2.2)))
theorem v47l0 (x0 : Int) (x1 x2 : List (List Int)) (p : Nat) : alts ([((Nat.beq p 0), .ret, [.bool false], ⟨[⟨true, (some (.tab [.int .i8, .int .i16, .fl .f32] x1))⟩, ⟨true, (some (.tab [.int .i8, .int .i16, .fl .f32] x2))⟩], 2, []⟩), ((Nat.beq p 1), .exit 0, [anyV], ⟨[⟨true, (some (.tab [.int .i8, .int .i16, .fl .f32] x1))⟩, ⟨true, (some (.tab [.int .i8, .int .i16, .fl .f32] x2))⟩], 2, []⟩)].map fun (b, x) => (b, (x.1, frameOf 27 [4] x.2.1, x.2.2))) some = a47l0 x0 x1 x2 p := alts_first _
noncomputable def q47l0 (m : Nat) : SumK := fun vals s =>
 match vals, s.h with
 | [.iface f0 .nilIface, .iface f1 .nilIface, .int .i64 x0], [⟨true, some (.tab [.int .i8, .int .i16, .fl .f32] x1)⟩, ⟨true, some (.tab [.int .i8, .int .i16, .fl .f32] x2)⟩] => if f0 = 0 ∧ f1 = 1 then [((Nat.beq (r47l0 m x0 x1 x2) 0), .ret, [.bool false], ⟨[⟨true, (some (.tab [.int .i8, .int .i16, .fl .f32] x1))⟩, ⟨true, (some (.tab [.int .i8, .int .i16, .fl .f32] x2))⟩], 2, []⟩), ((Nat.beq (r47l0 m x0 x1 x2) 1), .exit 0, [anyV], ⟨[⟨true, (some (.tab [.int .i8, .int .i16, .fl .f32] x1))⟩, ⟨true, (some (.tab [.int .i8, .int .i16, .fl .f32] x2))⟩], 2, []⟩)] else noQ vals s
 | _, _ => noQ vals s
noncomputable def t47l0 (ih : Int → List (List Int) → List (List Int) → Nat) (x0 : Int) (x1 x2 : List (List Int)) : Option (Fin' × List Value × St) :=
 let c20 := (r74 ((x1.getD (Int.toNat x0) []).getD 0 0) ((x1.getD (Int.toNat x0) []).getD 1 0) (Int.toNat ((x1.getD (Int.toNat x0) []).getD 2 0)) ((x2.getD (Int.toNat x0) []).getD 0 0) ((x2.getD (Int.toNat x0) []).getD 1 0) (Int.toNat ((x2.getD (Int.toNat x0) []).getD 2 0)))
 (cond (decide ((x0 : Int) < ((x1.length : Nat) : Int)))
 (cond ((decide ((0 : Int) ≤ x0)) && (Nat.blt (Int.toNat x0) x1.length))
  (cond ((decide ((0 : Int) ≤ x0)) && (Nat.blt (Int.toNat x0) x2.length))
   (cond (!c20)
    (some (.ret, frameOf 27 [4] [.bool false], ⟨[⟨true, (some (.tab [.int .i8, .int .i16, .fl .f32] x1))⟩, ⟨true, (some (.tab [.int .i8, .int .i16, .fl .f32] x2))⟩], 2, []⟩))
    (cond (Nat.beq (ih (IntKind.i64.wrap (x0 + 1)) x1 x2) 0)
     (some (.ret, frameOf 27 [4] [.bool false], ⟨[⟨true, (some (.tab [.int .i8, .int .i16, .fl .f32] x1))⟩, ⟨true, (some (.tab [.int .i8, .int .i16, .fl .f32] x2))⟩], 2, []⟩))
     (cond (Nat.beq (ih (IntKind.i64.wrap (x0 + 1)) x1 x2) 1)
      (some (.exit 0, frameOf 27 [4] [anyV], ⟨[⟨true, (some (.tab [.int .i8, .int .i16, .fl .f32] x1))⟩, ⟨true, (some (.tab [.int .i8, .int .i16, .fl .f32] x2))⟩], 2, []⟩))
      none)))
   none)
  none)
 (some (.exit 0, frameOf 27 [4] [anyV], ⟨[⟨true, (some (.tab [.int .i8, .int .i16, .fl .f32] x1))⟩, ⟨true, (some (.tab [.int .i8, .int .i16, .fl .f32] x2))⟩], 2, []⟩)))
noncomputable def w47l0 (ih : Int → List (List Int) → List (List Int) → Nat) (x0 : Int) (x1 x2 : List (List Int)) : Option (Fin' × List Value × St) :=
 let c20 := (r74 ((x1.getD (Int.toNat x0) []).getD 0 0) ((x1.getD (Int.toNat x0) []).getD 1 0) (Int.toNat ((x1.getD (Int.toNat x0) []).getD 2 0)) ((x2.getD (Int.toNat x0) []).getD 0 0) ((x2.getD (Int.toNat x0) []).getD 1 0) (Int.toNat ((x2.getD (Int.toNat x0) []).getD 2 0)))
 (cond (decide ((x0 : Int) < ((x1.length : Nat) : Int)))
 (cond ((decide ((0 : Int) ≤ x0)) && (Nat.blt (Int.toNat x0) x1.length))
  (cond (Nat.blt (Int.toNat x0) x1.length)
   (cond ((decide ((0 : Int) ≤ x0)) && (Nat.blt (Int.toNat x0) x2.length))
    (cond (Nat.blt (Int.toNat x0) x2.length)
     (cond (!c20)
      (some (.ret, frameOf 27 [4] [.bool false], ⟨[⟨true, (some (.tab [.int .i8, .int .i16, .fl .f32] x1))⟩, ⟨true, (some (.tab [.int .i8, .int .i16, .fl .f32] x2))⟩], 2, []⟩))
      (cond (Nat.beq (ih (IntKind.i64.wrap (x0 + 1)) x1 x2) 0)
       (some (.ret, frameOf 27 [4] [.bool false], ⟨[⟨true, (some (.tab [.int .i8, .int .i16, .fl .f32] x1))⟩, ⟨true, (some (.tab [.int .i8, .int .i16, .fl .f32] x2))⟩], 2, []⟩))
       (cond (Nat.beq (ih (IntKind.i64.wrap (x0 + 1)) x1 x2) 1)
        (some (.exit 0, frameOf 27 [4] [anyV], ⟨[⟨true, (some (.tab [.int .i8, .int .i16, .fl .f32] x1))⟩, ⟨true, (some (.tab [.int .i8, .int .i16, .fl .f32] x2))⟩], 2, []⟩))
        none)))
     none)
    none)
   none)
  none)
 (some (.exit 0, frameOf 27 [4] [anyV], ⟨[⟨true, (some (.tab [.int .i8, .int .i16, .fl .f32] x1))⟩, ⟨true, (some (.tab [.int .i8, .int .i16, .fl .f32] x2))⟩], 2, []⟩)))
set_option maxRecDepth 100000 in
set_option maxHeartbeats 4000000 in
theorem e47l0 (m : Nat) (x0 : Int) (x1 x2 : List (List Int)) : evC Try.prog ext T30 noL 200 (loopN Try.f47 0) (loopTail [0, 1, 5] [4] [] (sumK 27 [0, 1, 5] [4] (q47l0 m))) (frameOf 27 [0, 1, 5] [wsl 0, wsl 1, .int .i64 x0]) ⟨[⟨true, (some (.tab [.int .i8, .int .i16, .fl .f32] x1))⟩, ⟨true, (some (.tab [.int .i8, .int .i16, .fl .f32] x2))⟩], 2, []⟩ = firstT ([((Nat.beq (r47l0 (m + 1) x0 x1 x2) 0), .ret, [.bool false], ⟨[⟨true, (some (.tab [.int .i8, .int .i16, .fl .f32] x1))⟩, ⟨true, (some (.tab [.int .i8, .int .i16, .fl .f32] x2))⟩], 2, []⟩), ((Nat.beq (r47l0 (m + 1) x0 x1 x2) 1), .exit 0, [anyV], ⟨[⟨true, (some (.tab [.int .i8, .int .i16, .fl .f32] x1))⟩, ⟨true, (some (.tab [.int .i8, .int .i16, .fl .f32] x2))⟩], 2, []⟩)].map fun (b, x) => (b, (x.1, frameOf 27 [4] x.2.1, x.2.2))) :=
 (show evC Try.prog ext T30 noL 200 (loopN Try.f47 0) (loopTail [0, 1, 5] [4] [] (sumK 27 [0, 1, 5] [4] (q47l0 m))) (frameOf 27 [0, 1, 5] [wsl 0, wsl 1, .int .i64 x0]) ⟨[⟨true, (some (.tab [.int .i8, .int .i16, .fl .f32] x1))⟩, ⟨true, (some (.tab [.int .i8, .int .i16, .fl .f32] x2))⟩], 2, []⟩ = w47l0 (r47l0 m) x0 x1 x2 from by kernel_rfl).trans
 ((show w47l0 (r47l0 m) x0 x1 x2 = t47l0 (r47l0 m) x0 x1 x2 from (cond_cong _ (fun h0 => (cond_cong _ (fun h1 => (cond_t (ev_and2 h1) (cond_cong _ (fun h2 => (cond_t (ev_and2 h2) rfl)) (fun h2 => rfl)))) (fun h1 => rfl))) (fun h0 => rfl))).trans
 (show t47l0 (r47l0 m) x0 x1 x2 = a47l0 x0 x1 x2 (r47l0 (m + 1) x0 x1 x2) from (cond_app (a47l0 x0 x1 x2) _ (cond_app (a47l0 x0 x1 x2) _ (cond_app (a47l0 x0 x1 x2) _ (cond_app (a47l0 x0 x1 x2) _ rfl (v47l0 x0 x1 x2 ((r47l0 m) (IntKind.i64.wrap (x0 + 1)) x1 x2))) rfl) rfl) rfl)))
set_option maxRecDepth 100000 in
set_option maxHeartbeats 4000000 in
theorem qm47l0 : ∀ m, SumKOk Try.prog (loopN Try.f47 0) 27 [0, 1, 5] [4] (q47l0 m) := by
  intro m
  induction m with
  | zero =>
    intro vals s x h1 h2 h3
    unfold q47l0 at h3; split at h3
    · rename_i h; split at h3
      · rename_i hc; obtain ⟨rfl, rfl⟩ := hc; exact absurd h3 (by simp [r47l0, firstT, Nat.beq])
      · exact noQ_ok _ _ _ h1 h2 h3
    · exact noQ_ok _ _ _ h1 h2 h3
  | succ m ih =>
    intro vals s x h1 h2 h3
    unfold q47l0 at h3; split at h3
    · rename_i h; split at h3
      · rename_i hc; obtain ⟨rfl, rfl⟩ := hc; exact sum_step ok30 extOk mixed ((lfOkF_no _ _).inner (by kernel_rfl)) ih h1 h2 h (e47l0 m _ _ _) rfl h3
      · exact noQ_ok _ _ _ h1 h2 h3
    · exact noQ_ok _ _ _ h1 h2 h3
noncomputable def Q47l0 : SumK := fun vals s => q47l0 (fuelOf vals s.h) vals s
theorem qok47l0 : SumKOk Try.prog (loopN Try.f47 0) 27 [0, 1, 5] [4] Q47l0 := fuel_ok qm47l0 fuelOf
noncomputable def L47_1 : LoopT := addL noL 5 [0, 1, 5] (sumK 27 [0, 1, 5] [4] Q47l0)
theorem lok47_1 : LfOkF Try.prog L47_1 Try.f47 := lfOkF_add (lfOkF_no _ _) qok47l0 (by kernel_rfl) (by kernel_rfl) (by kernel_rfl)

/-- laws.eqOpS -/
noncomputable def r47 (x0 x1 : List (List Int)) : Nat × Bool :=
 cond ((((x0.length : Nat) : Int) : Int) != ((x1.length : Nat) : Int))
  (0, false)
  (cond (Nat.beq (r47l0 (1000 + x1.length + x0.length) 0 x0 x1) 0)
   (0, false)
   (cond (Nat.beq (r47l0 (1000 + x1.length + x0.length) 0 x0 x1) 1)
    (0, true)
    (1, false)))
noncomputable def a47 (x0 x1 : List (List Int)) (p : Nat × Bool) : Res := firstT [((Nat.beq (p.1) 0), .bool (p.2), ⟨[⟨true, (some (.tab [.int .i8, .int .i16, .fl .f32] x0))⟩, ⟨true, (some (.tab [.int .i8, .int .i16, .fl .f32] x1))⟩], 2, []⟩)]
noncomputable def t47 (x0 x1 : List (List Int)) : Res :=
 (cond ((((x0.length : Nat) : Int) : Int) != ((x1.length : Nat) : Int))
 (some (.bool false, ⟨[⟨true, (some (.tab [.int .i8, .int .i16, .fl .f32] x0))⟩, ⟨true, (some (.tab [.int .i8, .int .i16, .fl .f32] x1))⟩], 2, []⟩))
 (cond (Nat.beq (r47l0 (1000 + x1.length + x0.length) 0 x0 x1) 0)
  (some (.bool false, ⟨[⟨true, (some (.tab [.int .i8, .int .i16, .fl .f32] x0))⟩, ⟨true, (some (.tab [.int .i8, .int .i16, .fl .f32] x1))⟩], 2, []⟩))
  (cond (Nat.beq (r47l0 (1000 + x1.length + x0.length) 0 x0 x1) 1)
   (some (.bool true, ⟨[⟨true, (some (.tab [.int .i8, .int .i16, .fl .f32] x0))⟩, ⟨true, (some (.tab [.int .i8, .int .i16, .fl .f32] x1))⟩], 2, []⟩))
   none)))
set_option maxRecDepth 100000 in
set_option maxHeartbeats 4000000 in
theorem e47 (x0 x1 : List (List Int)) : evFn Try.prog ext T30 L47_1 200 Try.f47 [wsl 0, wsl 1] ⟨[⟨true, (some (.tab [.int .i8, .int .i16, .fl .f32] x0))⟩, ⟨true, (some (.tab [.int .i8, .int .i16, .fl .f32] x1))⟩], 2, []⟩ = firstT [((Nat.beq ((r47 x0 x1).1) 0), .bool ((r47 x0 x1).2), ⟨[⟨true, (some (.tab [.int .i8, .int .i16, .fl .f32] x0))⟩, ⟨true, (some (.tab [.int .i8, .int .i16, .fl .f32] x1))⟩], 2, []⟩)] :=
 (show evFn Try.prog ext T30 L47_1 200 Try.f47 [wsl 0, wsl 1] ⟨[⟨true, (some (.tab [.int .i8, .int .i16, .fl .f32] x0))⟩, ⟨true, (some (.tab [.int .i8, .int .i16, .fl .f32] x1))⟩], 2, []⟩ = t47 x0 x1 from by kernel_rfl).trans
 (show t47 x0 x1 = a47 x0 x1 (r47 x0 x1) from (cond_app (a47 x0 x1) _ rfl (cond_app (a47 x0 x1) _ rfl (cond_app (a47 x0 x1) _ rfl rfl))))
noncomputable def s47 (args : List Value) (s : St) : List (Bool × Value × St) :=
 match args, s.h with
 | [.iface f0 .nilIface, .iface f1 .nilIface], [⟨true, some (.tab [.int .i8, .int .i16, .fl .f32] x0)⟩, ⟨true, some (.tab [.int .i8, .int .i16, .fl .f32] x1)⟩] => if f0 = 0 ∧ f1 = 1 then [((Nat.beq ((r47 x0 x1).1) 0), .bool ((r47 x0 x1).2), ⟨[⟨true, (some (.tab [.int .i8, .int .i16, .fl .f32] x0))⟩, ⟨true, (some (.tab [.int .i8, .int .i16, .fl .f32] x1))⟩], 2, []⟩)] else T30 47 args s
 | _, _ => T30 47 args s
noncomputable def T31 : CallF := addF T30 47 s47
set_option maxRecDepth 100000 in
set_option maxHeartbeats 4000000 in
theorem ok31 : CfOk Try.prog T31 := by
  refine cfOk_add ok30 fun args s r s' h1 h2 h3 => ?_
  unfold s47 at h3; split at h3
  · rename_i h; split at h3
    · rename_i hc; obtain ⟨rfl, rfl⟩ := hc; exact callOk ok30 Try.func47 h1 h2 h lok47_1.body (e47 _ _) rfl h3
    · exact ok30 _ _ _ _ _ h1 h2 h3
  · exact ok30 _ _ _ _ _ h1 h2 h3

/-- laws.eqProgram -/
noncomputable def r14 (x0 : List ByteArray) (x1 : List (List Int)) (x2 : List ByteArray) (x3 : List (List Int)) : Nat × Bool :=
 cond (Nat.beq ((r46 x0 x2).1) 0)
  (cond (!((r46 x0 x2).2))
   (0, false)
   (cond (Nat.beq ((r47 x1 x3).1) 0)
    (cond (!((r47 x1 x3).2))
     (0, false)
     (0, true))
    (1, false)))
  (1, false)
noncomputable def a14 (x0 : List ByteArray) (x1 : List (List Int)) (x2 : List ByteArray) (x3 : List (List Int)) (p : Nat × Bool) : Res := firstT [((Nat.beq (p.1) 0), .bool (p.2), ⟨[⟨true, (some (.strs x0))⟩, ⟨true, (some (.tab [.int .i8, .int .i16, .fl .f32] x1))⟩, ⟨true, (some (.strs x2))⟩, ⟨true, (some (.tab [.int .i8, .int .i16, .fl .f32] x3))⟩], 4, []⟩)]
noncomputable def t14 (x0 : List ByteArray) (x1 : List (List Int)) (x2 : List ByteArray) (x3 : List (List Int)) : Res :=
 (cond (Nat.beq ((r46 x0 x2).1) 0)
 (cond (!((r46 x0 x2).2))
  (some (.bool false, ⟨[⟨true, (some (.strs x0))⟩, ⟨true, (some (.tab [.int .i8, .int .i16, .fl .f32] x1))⟩, ⟨true, (some (.strs x2))⟩, ⟨true, (some (.tab [.int .i8, .int .i16, .fl .f32] x3))⟩], 4, []⟩))
  (cond (Nat.beq ((r47 x1 x3).1) 0)
   (cond (!((r47 x1 x3).2))
    (some (.bool false, ⟨[⟨true, (some (.strs x0))⟩, ⟨true, (some (.tab [.int .i8, .int .i16, .fl .f32] x1))⟩, ⟨true, (some (.strs x2))⟩, ⟨true, (some (.tab [.int .i8, .int .i16, .fl .f32] x3))⟩], 4, []⟩))
    (some (.bool true, ⟨[⟨true, (some (.strs x0))⟩, ⟨true, (some (.tab [.int .i8, .int .i16, .fl .f32] x1))⟩, ⟨true, (some (.strs x2))⟩, ⟨true, (some (.tab [.int .i8, .int .i16, .fl .f32] x3))⟩], 4, []⟩)))
   none))
 none)
set_option maxRecDepth 100000 in
set_option maxHeartbeats 4000000 in
theorem e14 (x0 : List ByteArray) (x1 : List (List Int)) (x2 : List ByteArray) (x3 : List (List Int)) : evFn Try.prog ext T31 noL 200 Try.f14 [.agg #[wsl 0, wsl 1], .agg #[wsl 2, wsl 3]] ⟨[⟨true, (some (.strs x0))⟩, ⟨true, (some (.tab [.int .i8, .int .i16, .fl .f32] x1))⟩, ⟨true, (some (.strs x2))⟩, ⟨true, (some (.tab [.int .i8, .int .i16, .fl .f32] x3))⟩], 4, []⟩ = firstT [((Nat.beq ((r14 x0 x1 x2 x3).1) 0), .bool ((r14 x0 x1 x2 x3).2), ⟨[⟨true, (some (.strs x0))⟩, ⟨true, (some (.tab [.int .i8, .int .i16, .fl .f32] x1))⟩, ⟨true, (some (.strs x2))⟩, ⟨true, (some (.tab [.int .i8, .int .i16, .fl .f32] x3))⟩], 4, []⟩)] :=
 (show evFn Try.prog ext T31 noL 200 Try.f14 [.agg #[wsl 0, wsl 1], .agg #[wsl 2, wsl 3]] ⟨[⟨true, (some (.strs x0))⟩, ⟨true, (some (.tab [.int .i8, .int .i16, .fl .f32] x1))⟩, ⟨true, (some (.strs x2))⟩, ⟨true, (some (.tab [.int .i8, .int .i16, .fl .f32] x3))⟩], 4, []⟩ = t14 x0 x1 x2 x3 from by kernel_rfl).trans
 (show t14 x0 x1 x2 x3 = a14 x0 x1 x2 x3 (r14 x0 x1 x2 x3) from (cond_app (a14 x0 x1 x2 x3) _ (cond_app (a14 x0 x1 x2 x3) _ rfl (cond_app (a14 x0 x1 x2 x3) _ (cond_app (a14 x0 x1 x2 x3) _ rfl rfl) rfl)) rfl))
noncomputable def s14 (args : List Value) (s : St) : List (Bool × Value × St) :=
 match args, s.h with
 | [.agg ⟨[.iface f0 .nilIface, .iface f1 .nilIface]⟩, .agg ⟨[.iface f2 .nilIface, .iface f3 .nilIface]⟩], [⟨true, some (.strs x0)⟩, ⟨true, some (.tab [.int .i8, .int .i16, .fl .f32] x1)⟩, ⟨true, some (.strs x2)⟩, ⟨true, some (.tab [.int .i8, .int .i16, .fl .f32] x3)⟩] => if f0 = 0 ∧ f1 = 1 ∧ f2 = 2 ∧ f3 = 3 then [((Nat.beq ((r14 x0 x1 x2 x3).1) 0), .bool ((r14 x0 x1 x2 x3).2), ⟨[⟨true, (some (.strs x0))⟩, ⟨true, (some (.tab [.int .i8, .int .i16, .fl .f32] x1))⟩, ⟨true, (some (.strs x2))⟩, ⟨true, (some (.tab [.int .i8, .int .i16, .fl .f32] x3))⟩], 4, []⟩)] else T31 14 args s
 | _, _ => T31 14 args s
noncomputable def T32 : CallF := addF T31 14 s14
set_option maxRecDepth 100000 in
set_option maxHeartbeats 4000000 in
theorem ok32 : CfOk Try.prog T32 := by
  refine cfOk_add ok31 fun args s r s' h1 h2 h3 => ?_
  unfold s14 at h3; split at h3
  · rename_i h; split at h3
    · rename_i hc; obtain ⟨rfl, rfl, rfl, rfl⟩ := hc; exact callOk ok31 Try.func14 h1 h2 h (lfOkF_no _ _).body (e14 _ _ _ _) rfl h3
    · exact ok31 _ _ _ _ _ h1 h2 h3
  · exact ok31 _ _ _ _ _ h1 h2 h3

/-- laws.FnExactValidProgram -/
noncomputable def r4 (x0 : List ByteArray) (x1 : List (List Int)) : Nat × Bool :=
 cond (Nat.beq ((r10 1048576 x0 x1).1) 0)
  (cond (decide ((((r10 1048576 x0 x1).2) : Int) < 0))
   (0, true)
   (cond (Nat.beq ((r12 x0 x1).1) 0)
    (cond (Nat.beq ((r15 ((r12 x0 x1).2.1) ((r12 x0 x1).2.2)).1) 0)
     (cond (Nat.beq ((r16 ((r12 x0 x1).2.1) ((r12 x0 x1).2.2)).1) 0)
      (cond (!(((r16 ((r12 x0 x1).2.1) ((r12 x0 x1).2.2)).2) == ((r15 ((r12 x0 x1).2.1) ((r12 x0 x1).2.2)).2)))
       (0, false)
       (cond (Nat.beq ((r14 ((r12 x0 x1).2.1) ((r12 x0 x1).2.2) ((r12 x0 x1).2.1) ((r12 x0 x1).2.2)).1) 0)
        (cond (!((r14 ((r12 x0 x1).2.1) ((r12 x0 x1).2.2) ((r12 x0 x1).2.1) ((r12 x0 x1).2.2)).2))
         (0, false)
         (0, true))
        (1, false)))
      (1, false))
     (1, false))
    (1, false)))
  (1, false)
noncomputable def a4 (x0 : List ByteArray) (x1 : List (List Int)) (p : Nat × Bool) : Res := firstT [((Nat.beq (p.1) 0), .bool (p.2), ⟨[⟨false, (some (.strs x0))⟩, ⟨false, (some (.tab [.int .i8, .int .i16, .fl .f32] x1))⟩], 2, []⟩)]
noncomputable def t4 (x0 : List ByteArray) (x1 : List (List Int)) : Res :=
 (cond (Nat.beq ((r10 1048576 x0 x1).1) 0)
 (cond (decide ((((r10 1048576 x0 x1).2) : Int) < 0))
  (some (.bool true, ⟨[⟨false, (some (.strs x0))⟩, ⟨false, (some (.tab [.int .i8, .int .i16, .fl .f32] x1))⟩], 2, []⟩))
  (cond (Nat.beq ((r12 x0 x1).1) 0)
   (cond (Nat.beq ((r15 ((r12 x0 x1).2.1) ((r12 x0 x1).2.2)).1) 0)
    (cond (Nat.beq ((r16 ((r12 x0 x1).2.1) ((r12 x0 x1).2.2)).1) 0)
     (cond (!(((r16 ((r12 x0 x1).2.1) ((r12 x0 x1).2.2)).2) == ((r15 ((r12 x0 x1).2.1) ((r12 x0 x1).2.2)).2)))
      (some (.bool false, ⟨[⟨false, (some (.strs x0))⟩, ⟨false, (some (.tab [.int .i8, .int .i16, .fl .f32] x1))⟩], 2, []⟩))
      (cond (Nat.beq ((r14 ((r12 x0 x1).2.1) ((r12 x0 x1).2.2) ((r12 x0 x1).2.1) ((r12 x0 x1).2.2)).1) 0)
       (cond (!((r14 ((r12 x0 x1).2.1) ((r12 x0 x1).2.2) ((r12 x0 x1).2.1) ((r12 x0 x1).2.2)).2))
        (some (.bool false, ⟨[⟨false, (some (.strs x0))⟩, ⟨false, (some (.tab [.int .i8, .int .i16, .fl .f32] x1))⟩], 2, []⟩))
        (some (.bool true, ⟨[⟨false, (some (.strs x0))⟩, ⟨false, (some (.tab [.int .i8, .int .i16, .fl .f32] x1))⟩], 2, []⟩)))
       none))
     none)
    none)
   none))
 none)
noncomputable def w4 (x0 : List ByteArray) (x1 : List (List Int)) : Res :=
 (cond (Nat.beq ((r10 1048576 x0 x1).1) 0)
 (cond (decide ((((r10 1048576 x0 x1).2) : Int) < 0))
  (some (.bool true, ⟨[⟨false, (some (.strs x0))⟩, ⟨false, (some (.tab [.int .i8, .int .i16, .fl .f32] x1))⟩], 2, []⟩))
  (cond (Nat.beq ((r12 x0 x1).1) 0)
   (cond (Nat.beq ((r15 ((r12 x0 x1).2.1) ((r12 x0 x1).2.2)).1) 0)
    (cond (Nat.beq ((r12 x0 x1).1) 0)
     (cond (Nat.beq ((r16 ((r12 x0 x1).2.1) ((r12 x0 x1).2.2)).1) 0)
      (cond (!(((r16 ((r12 x0 x1).2.1) ((r12 x0 x1).2.2)).2) == ((r15 ((r12 x0 x1).2.1) ((r12 x0 x1).2.2)).2)))
       (some (.bool false, ⟨[⟨false, (some (.strs x0))⟩, ⟨false, (some (.tab [.int .i8, .int .i16, .fl .f32] x1))⟩], 2, []⟩))
       (cond (Nat.beq ((r12 x0 x1).1) 0)
        (cond (Nat.beq ((r14 ((r12 x0 x1).2.1) ((r12 x0 x1).2.2) ((r12 x0 x1).2.1) ((r12 x0 x1).2.2)).1) 0)
         (cond (!((r14 ((r12 x0 x1).2.1) ((r12 x0 x1).2.2) ((r12 x0 x1).2.1) ((r12 x0 x1).2.2)).2))
          (some (.bool false, ⟨[⟨false, (some (.strs x0))⟩, ⟨false, (some (.tab [.int .i8, .int .i16, .fl .f32] x1))⟩], 2, []⟩))
          (some (.bool true, ⟨[⟨false, (some (.strs x0))⟩, ⟨false, (some (.tab [.int .i8, .int .i16, .fl .f32] x1))⟩], 2, []⟩)))
         none)
        none))
      none)
     none)
    none)
   none))
 none)
set_option maxRecDepth 100000 in
set_option maxHeartbeats 4000000 in
theorem e4 (x0 : List ByteArray) (x1 : List (List Int)) : evFn Try.prog ext T32 noL 200 Try.f4 [.agg #[wsl 0, wsl 1]] ⟨[⟨false, (some (.strs x0))⟩, ⟨false, (some (.tab [.int .i8, .int .i16, .fl .f32] x1))⟩], 2, []⟩ = firstT [((Nat.beq ((r4 x0 x1).1) 0), .bool ((r4 x0 x1).2), ⟨[⟨false, (some (.strs x0))⟩, ⟨false, (some (.tab [.int .i8, .int .i16, .fl .f32] x1))⟩], 2, []⟩)] :=
 (show evFn Try.prog ext T32 noL 200 Try.f4 [.agg #[wsl 0, wsl 1]] ⟨[⟨false, (some (.strs x0))⟩, ⟨false, (some (.tab [.int .i8, .int .i16, .fl .f32] x1))⟩], 2, []⟩ = w4 x0 x1 from by kernel_rfl).trans
 ((show w4 x0 x1 = t4 x0 x1 from (cond_cong _ (fun h0 => (cond_cong _ (fun h1 => rfl) (fun h1 => (cond_cong _ (fun h2 => (cond_cong _ (fun h3 => (cond_t h2 (cond_cong _ (fun h4 => (cond_cong _ (fun h5 => rfl) (fun h5 => (cond_t h2 rfl)))) (fun h4 => rfl)))) (fun h3 => rfl))) (fun h2 => rfl))))) (fun h0 => rfl))).trans
 (show t4 x0 x1 = a4 x0 x1 (r4 x0 x1) from (cond_app (a4 x0 x1) _ (cond_app (a4 x0 x1) _ rfl (cond_app (a4 x0 x1) _ (cond_app (a4 x0 x1) _ (cond_app (a4 x0 x1) _ (cond_app (a4 x0 x1) _ rfl (cond_app (a4 x0 x1) _ (cond_app (a4 x0 x1) _ rfl rfl) rfl)) rfl) rfl) rfl)) rfl)))
noncomputable def s4 (args : List Value) (s : St) : List (Bool × Value × St) :=
 match args, s.h with
 | [.agg ⟨[.iface f0 .nilIface, .iface f1 .nilIface]⟩], [⟨false, some (.strs x0)⟩, ⟨false, some (.tab [.int .i8, .int .i16, .fl .f32] x1)⟩] => if f0 = 0 ∧ f1 = 1 then [((Nat.beq ((r4 x0 x1).1) 0), .bool ((r4 x0 x1).2), ⟨[⟨false, (some (.strs x0))⟩, ⟨false, (some (.tab [.int .i8, .int .i16, .fl .f32] x1))⟩], 2, []⟩)] else T32 4 args s
 | _, _ => T32 4 args s
noncomputable def T33 : CallF := addF T32 4 s4
set_option maxRecDepth 100000 in
set_option maxHeartbeats 4000000 in
theorem ok33 : CfOk Try.prog T33 := by
  refine cfOk_add ok32 fun args s r s' h1 h2 h3 => ?_
  unfold s4 at h3; split at h3
  · rename_i h; split at h3
    · rename_i hc; obtain ⟨rfl, rfl⟩ := hc; exact callOk ok32 Try.func4 h1 h2 h (lfOkF_no _ _).body (e4 _ _) rfl h3
    · exact ok32 _ _ _ _ _ h1 h2 h3
  · exact ok32 _ _ _ _ _ h1 h2 h3
end Go.Proofs.Ytfclciebpnnieaa
