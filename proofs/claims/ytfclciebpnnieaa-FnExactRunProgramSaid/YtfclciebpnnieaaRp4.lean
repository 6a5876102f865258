/- What the functions that the statements reach answer, part 4. -/
import Derived.Test.YtfclciebpnnieaaRp3
namespace Go.Proofs.Ytfclciebpnnieaa
open Go.Ab
set_option maxHeartbeats 4000000
set_option maxRecDepth 100000

/-- impl.RunProgram -/
noncomputable def r22 (x0 x1 x2 x3 : Nat) (x4 : List ByteArray) (x5 : List (List Int)) : Nat × List (List Int) :=
 cond (Nat.beq ((r16 x4 x5).1) 0)
  (cond (!((r16 x4 x5).2))
   (0, [])
   (cond (Nat.beq ((r57 x0 x1 x2 x3 x4 x5).1) 0)
    (1, ((r57 x0 x1 x2 x3 x4 x5).2))
    (2, [])))
  (2, [])
noncomputable def a22 (x0 x1 x2 x3 : Nat) (x4 : List ByteArray) (x5 : List (List Int)) (p : Nat × List (List Int)) : Res := firstT [((Nat.beq (p.1) 0), .tuple #[.slice none 0 0, .int .i64 1], ⟨[⟨true, (some (.strs x4))⟩, ⟨true, (some (.tab [.int .i8, .int .i16, .fl .f32] x5))⟩], 2, []⟩), ((Nat.beq (p.1) 1), .tuple #[wsl 2, .int .i64 0], ⟨[⟨true, (some (.strs x4))⟩, ⟨true, (some (.tab [.int .i8, .int .i16, .fl .f32] x5))⟩, ⟨true, (some (.tab [.fl .f32] (p.2)))⟩], 2, []⟩)]
noncomputable def w22 (x0 x1 x2 x3 : Nat) (x4 : List ByteArray) (x5 : List (List Int)) : Res :=
 (cond (Nat.beq ((r16 x4 x5).1) 0)
 (cond (!((r16 x4 x5).2))
  (a22 x0 x1 x2 x3 x4 x5 (0, []))
  (cond (Nat.beq ((r57 x0 x1 x2 x3 x4 x5).1) 0)
   (a22 x0 x1 x2 x3 x4 x5 (1, ((r57 x0 x1 x2 x3 x4 x5).2)))
   none))
 none)
set_option maxRecDepth 100000 in
set_option maxHeartbeats 4000000 in
theorem e22 (x0 x1 x2 x3 : Nat) (x4 : List ByteArray) (x5 : List (List Int)) : evFn Try.prog ext T38 noL 200 Try.f22 [.agg #[wsl 0, wsl 1], .agg #[.float .f32 x0, .float .f32 x1, .float .f32 x2, .float .f32 x3]] ⟨[⟨true, (some (.strs x4))⟩, ⟨true, (some (.tab [.int .i8, .int .i16, .fl .f32] x5))⟩], 2, []⟩ = firstT [((Nat.beq ((r22 x0 x1 x2 x3 x4 x5).1) 0), .tuple #[.slice none 0 0, .int .i64 1], ⟨[⟨true, (some (.strs x4))⟩, ⟨true, (some (.tab [.int .i8, .int .i16, .fl .f32] x5))⟩], 2, []⟩), ((Nat.beq ((r22 x0 x1 x2 x3 x4 x5).1) 1), .tuple #[wsl 2, .int .i64 0], ⟨[⟨true, (some (.strs x4))⟩, ⟨true, (some (.tab [.int .i8, .int .i16, .fl .f32] x5))⟩, ⟨true, (some (.tab [.fl .f32] ((r22 x0 x1 x2 x3 x4 x5).2)))⟩], 2, []⟩)] :=
 (show evFn Try.prog ext T38 noL 200 Try.f22 [.agg #[wsl 0, wsl 1], .agg #[.float .f32 x0, .float .f32 x1, .float .f32 x2, .float .f32 x3]] ⟨[⟨true, (some (.strs x4))⟩, ⟨true, (some (.tab [.int .i8, .int .i16, .fl .f32] x5))⟩], 2, []⟩ = w22 x0 x1 x2 x3 x4 x5 from by kernel_rfl).trans
 (show w22 x0 x1 x2 x3 x4 x5 = a22 x0 x1 x2 x3 x4 x5 (r22 x0 x1 x2 x3 x4 x5) from by unfold w22 r22; exact (cond_app (a22 x0 x1 x2 x3 x4 x5) _ (cond_app (a22 x0 x1 x2 x3 x4 x5) _ rfl (cond_app (a22 x0 x1 x2 x3 x4 x5) _ rfl rfl)) rfl))
noncomputable def s22 (args : List Value) (s : St) : List (Bool × Value × St) :=
 match args, s.h with
 | [.agg ⟨[.iface f0 .nilIface, .iface f1 .nilIface]⟩, .agg ⟨[.float .f32 x0, .float .f32 x1, .float .f32 x2, .float .f32 x3]⟩], [⟨true, some (.strs x4)⟩, ⟨true, some (.tab [.int .i8, .int .i16, .fl .f32] x5)⟩] => if f0 = 0 ∧ f1 = 1 then [((Nat.beq ((r22 x0 x1 x2 x3 x4 x5).1) 0), .tuple #[.slice none 0 0, .int .i64 1], ⟨[⟨true, (some (.strs x4))⟩, ⟨true, (some (.tab [.int .i8, .int .i16, .fl .f32] x5))⟩], 2, []⟩), ((Nat.beq ((r22 x0 x1 x2 x3 x4 x5).1) 1), .tuple #[wsl 2, .int .i64 0], ⟨[⟨true, (some (.strs x4))⟩, ⟨true, (some (.tab [.int .i8, .int .i16, .fl .f32] x5))⟩, ⟨true, (some (.tab [.fl .f32] ((r22 x0 x1 x2 x3 x4 x5).2)))⟩], 2, []⟩)] else T38 22 args s
 | _, _ => T38 22 args s
noncomputable def T39 : CallF := addF T38 22 s22
set_option maxRecDepth 100000 in
set_option maxHeartbeats 4000000 in
theorem ok39 : CfOk Try.prog T39 := by
  refine cfOk_add ok38 fun args s r s' h1 h2 h3 => ?_
  unfold s22 at h3; split at h3
  · rename_i h; split at h3
    · rename_i hc; obtain ⟨rfl, rfl⟩ := hc; exact callOk ok38 Try.func22 h1 h2 h (lfOkF_no _ _).body (e22 _ _ _ _ _ _) rfl h3
    · exact ok38 _ _ _ _ _ h1 h2 h3
  · exact ok38 _ _ _ _ _ h1 h2 h3

/-- laws.eqFloat32S, loop 0 -/
noncomputable def r23l0 (x0 : List (List Int)) : Unit :=
 ()
noncomputable def a23l0 (x0 : List (List Int)) (p : Unit) : Option (Fin' × List Value × St) := firstT ([(true, .exit 0, [anyV], ⟨[⟨true, (some (.tab [.fl .f32] x0))⟩], 1, []⟩)].map fun (b, x) => (b, (x.1, frameOf 29 [4] x.2.1, x.2.2)))
noncomputable def w23l0 (x0 : List (List Int)) : Option (Fin' × List Value × St) :=
 (a23l0 x0 ())
set_option maxRecDepth 100000 in
set_option maxHeartbeats 4000000 in
theorem e23l0 (x0 : List (List Int)) : evC Try.prog ext T39 noL 200 (loopN Try.f23 0) (loopTail ([0, 1, 5], []) [4] [] (sumK 29 [0, 1, 5] [4] noQ)) (frameOf 29 [0, 1, 5] [.slice none 0 0, wsl 0, .int .i64 0]) ⟨[⟨true, (some (.tab [.fl .f32] x0))⟩], 1, []⟩ = firstT ([(true, .exit 0, [anyV], ⟨[⟨true, (some (.tab [.fl .f32] x0))⟩], 1, []⟩)].map fun (b, x) => (b, (x.1, frameOf 29 [4] x.2.1, x.2.2))) :=
 (show evC Try.prog ext T39 noL 200 (loopN Try.f23 0) (loopTail ([0, 1, 5], []) [4] [] (sumK 29 [0, 1, 5] [4] noQ)) (frameOf 29 [0, 1, 5] [.slice none 0 0, wsl 0, .int .i64 0]) ⟨[⟨true, (some (.tab [.fl .f32] x0))⟩], 1, []⟩ = w23l0 x0 from by kernel_rfl).trans
 (show w23l0 x0 = a23l0 x0 (r23l0 x0) from by unfold w23l0 r23l0; exact rfl)
noncomputable def Q23l0 : SumK := fun vals s =>
 match vals, s.h with
 | [.slice none f0 f1, .iface f2 .nilIface, .int .i64 f3], [⟨true, some (.tab [.fl .f32] x0)⟩] => if f0 = 0 ∧ f1 = 0 ∧ f2 = 0 ∧ f3 = 0 then [(true, .exit 0, [anyV], ⟨[⟨true, (some (.tab [.fl .f32] x0))⟩], 1, []⟩)] else noQ vals s
 | _, _ => noQ vals s
set_option maxRecDepth 100000 in
set_option maxHeartbeats 4000000 in
theorem qok23l0 : SumKOk Try.prog (loopN Try.f23 0) 29 [0, 1, 5] [4] Q23l0 := by
  intro vals s x h1 h2 h3
  unfold Q23l0 at h3; split at h3
  · rename_i h; split at h3
    · rename_i hc; obtain ⟨rfl, rfl, rfl, rfl⟩ := hc; exact sum_step ok39 extOk mixed ((lfOkF_no _ _).inner (by kernel_rfl)) noQ_ok h1 h2 h (e23l0 _) rfl h3
    · exact noQ_ok _ _ _ h1 h2 h3
  · exact noQ_ok _ _ _ h1 h2 h3
noncomputable def L23_1 : LoopT := addL noL 5 ([0, 1, 5], []) (sumK 29 [0, 1, 5] [4] Q23l0)
theorem lok23_1 : LfOkF Try.prog L23_1 Try.f23 := lfOkF_add (lfOkF_no _ _) qok23l0 (by kernel_rfl) (by kernel_rfl) (by kernel_rfl)

/-- laws.eqFloat32S -/
noncomputable def r23 (x0 : List (List Int)) : Bool :=
 cond ((0 : Int) != ((x0.length : Nat) : Int))
  (false)
  (true)
noncomputable def a23 (x0 : List (List Int)) (p : Bool) : Res := firstT [(true, .bool p, ⟨[⟨true, (some (.tab [.fl .f32] x0))⟩], 1, []⟩)]
noncomputable def w23 (x0 : List (List Int)) : Res :=
 (cond ((0 : Int) != ((x0.length : Nat) : Int))
 (a23 x0 (false))
 (a23 x0 (true)))
set_option maxRecDepth 100000 in
set_option maxHeartbeats 4000000 in
theorem e23 (x0 : List (List Int)) : evFn Try.prog ext T39 L23_1 200 Try.f23 [.slice none 0 0, wsl 0] ⟨[⟨true, (some (.tab [.fl .f32] x0))⟩], 1, []⟩ = firstT [(true, .bool (r23 x0), ⟨[⟨true, (some (.tab [.fl .f32] x0))⟩], 1, []⟩)] :=
 (show evFn Try.prog ext T39 L23_1 200 Try.f23 [.slice none 0 0, wsl 0] ⟨[⟨true, (some (.tab [.fl .f32] x0))⟩], 1, []⟩ = w23 x0 from by kernel_rfl).trans
 (show w23 x0 = a23 x0 (r23 x0) from by unfold w23 r23; exact (cond_app (a23 x0) _ rfl rfl))
noncomputable def s23 (args : List Value) (s : St) : List (Bool × Value × St) :=
 match args, s.h with
 | [.slice none f0 f1, .iface f2 .nilIface], [⟨true, some (.tab [.fl .f32] x0)⟩] => if f0 = 0 ∧ f1 = 0 ∧ f2 = 0 then [(true, .bool (r23 x0), ⟨[⟨true, (some (.tab [.fl .f32] x0))⟩], 1, []⟩)] else T39 23 args s
 | _, _ => T39 23 args s
noncomputable def T40 : CallF := addF T39 23 s23
set_option maxRecDepth 100000 in
set_option maxHeartbeats 4000000 in
theorem ok40 : CfOk Try.prog T40 := by
  refine cfOk_add ok39 fun args s r s' h1 h2 h3 => ?_
  unfold s23 at h3; split at h3
  · rename_i h; split at h3
    · rename_i hc; obtain ⟨rfl, rfl, rfl⟩ := hc; exact callOk ok39 Try.func23 h1 h2 h lok23_1.body (e23 _) rfl h3
    · exact ok39 _ _ _ _ _ h1 h2 h3
  · exact ok39 _ _ _ _ _ h1 h2 h3

/-- laws.eqStringS, loop 0: one round -/
noncomputable def b46l0 (ih : Int → List ByteArray → List ByteArray → Nat) (x0 : Int) (x1 x2 : List ByteArray) : Nat :=
 cond (decide ((x0 : Int) < ((x1.length : Nat) : Int)))
  (cond ((decide ((0 : Int) ≤ x0)) && (Nat.blt (Int.toNat x0) x1.length))
   (cond ((decide ((0 : Int) ≤ x0)) && (Nat.blt (Int.toNat x0) x2.length))
    (cond (!((x1.getD (Int.toNat x0) .empty).toList == (x2.getD (Int.toNat x0) .empty).toList))
     (0)
     (ih (IntKind.i64.wrap (x0 + 1)) x1 x2))
    (2))
   (2))
  (1)
noncomputable def r46l0 : Nat → Int → List ByteArray → List ByteArray → Nat
 | 0 => fun _ _ _ => (2)
 | m + 1 => b46l0 (r46l0 m)
noncomputable def a46l0 (x0 : Int) (x1 x2 : List ByteArray) (p : Nat) : Option (Fin' × List Value × St) := firstT ([((Nat.beq p 0), .ret, [.bool false], ⟨[⟨true, (some (.strs x1))⟩, ⟨true, (some (.strs x2))⟩], 2, []⟩), ((Nat.beq p 1), .exit 0, [anyV], ⟨[⟨true, (some (.strs x1))⟩, ⟨true, (some (.strs x2))⟩], 2, []⟩)].map fun (b, x) => (b, (x.1, frameOf 26 [4] x.2.1, x.2.2)))
noncomputable def u46l0 (x0 : Int) (x1 x2 : List ByteArray) (p : Nat) : Option (Fin' × List Value × St) := alts ([((Nat.beq p 0), .ret, [.bool false], ⟨[⟨true, (some (.strs x1))⟩, ⟨true, (some (.strs x2))⟩], 2, []⟩), ((Nat.beq p 1), .exit 0, [anyV], ⟨[⟨true, (some (.strs x1))⟩, ⟨true, (some (.strs x2))⟩], 2, []⟩)].map fun (b, x) => (b, (x.1, frameOf 26 [4] x.2.1, x.2.2))) some
theorem v46l0 (x0 : Int) (x1 x2 : List ByteArray) (p : Nat) : u46l0 x0 x1 x2 p = a46l0 x0 x1 x2 p := alts_first _
noncomputable def q46l0 (m : Nat) : SumK := fun vals s =>
 match vals, s.h with
 | [.iface f0 .nilIface, .iface f1 .nilIface, .int .i64 x0], [⟨true, some (.strs x1)⟩, ⟨true, some (.strs x2)⟩] => if f0 = 0 ∧ f1 = 1 then [((Nat.beq (r46l0 m x0 x1 x2) 0), .ret, [.bool false], ⟨[⟨true, (some (.strs x1))⟩, ⟨true, (some (.strs x2))⟩], 2, []⟩), ((Nat.beq (r46l0 m x0 x1 x2) 1), .exit 0, [anyV], ⟨[⟨true, (some (.strs x1))⟩, ⟨true, (some (.strs x2))⟩], 2, []⟩)] else noQ vals s
 | _, _ => noQ vals s
noncomputable def w46l0 (ih : Int → List ByteArray → List ByteArray → Nat) (x0 : Int) (x1 x2 : List ByteArray) : Option (Fin' × List Value × St) :=
 (cond (decide ((x0 : Int) < ((x1.length : Nat) : Int)))
 (cond ((decide ((0 : Int) ≤ x0)) && (Nat.blt (Int.toNat x0) x1.length))
  (cond (Nat.blt (Int.toNat x0) x1.length)
   (cond ((decide ((0 : Int) ≤ x0)) && (Nat.blt (Int.toNat x0) x2.length))
    (cond (Nat.blt (Int.toNat x0) x2.length)
     (cond (!((x1.getD (Int.toNat x0) .empty).toList == (x2.getD (Int.toNat x0) .empty).toList))
      (a46l0 x0 x1 x2 (0))
      (u46l0 x0 x1 x2 (ih (IntKind.i64.wrap (x0 + 1)) x1 x2)))
     none)
    none)
   none)
  none)
 (a46l0 x0 x1 x2 (1)))
set_option maxRecDepth 100000 in
set_option maxHeartbeats 4000000 in
theorem e46l0 (m : Nat) (x0 : Int) (x1 x2 : List ByteArray) : evC Try.prog ext T40 noL 200 (loopN Try.f46 0) (loopTail ([0, 1, 5], []) [4] [] (sumK 26 [0, 1, 5] [4] (q46l0 m))) (frameOf 26 [0, 1, 5] [wsl 0, wsl 1, .int .i64 x0]) ⟨[⟨true, (some (.strs x1))⟩, ⟨true, (some (.strs x2))⟩], 2, []⟩ = firstT ([((Nat.beq (r46l0 (m + 1) x0 x1 x2) 0), .ret, [.bool false], ⟨[⟨true, (some (.strs x1))⟩, ⟨true, (some (.strs x2))⟩], 2, []⟩), ((Nat.beq (r46l0 (m + 1) x0 x1 x2) 1), .exit 0, [anyV], ⟨[⟨true, (some (.strs x1))⟩, ⟨true, (some (.strs x2))⟩], 2, []⟩)].map fun (b, x) => (b, (x.1, frameOf 26 [4] x.2.1, x.2.2))) :=
 (show evC Try.prog ext T40 noL 200 (loopN Try.f46 0) (loopTail ([0, 1, 5], []) [4] [] (sumK 26 [0, 1, 5] [4] (q46l0 m))) (frameOf 26 [0, 1, 5] [wsl 0, wsl 1, .int .i64 x0]) ⟨[⟨true, (some (.strs x1))⟩, ⟨true, (some (.strs x2))⟩], 2, []⟩ = w46l0 (r46l0 m) x0 x1 x2 from by kernel_rfl).trans
 (show w46l0 (r46l0 m) x0 x1 x2 = a46l0 x0 x1 x2 (r46l0 (m + 1) x0 x1 x2) from by unfold w46l0; show _ = a46l0 x0 x1 x2 (b46l0 (r46l0 m) x0 x1 x2); unfold b46l0; exact (cond_both (a46l0 x0 x1 x2) _ (fun h0 => (cond_both (a46l0 x0 x1 x2) _ (fun h1 => (cond_t (ev_and2 h1) (cond_both (a46l0 x0 x1 x2) _ (fun h2 => (cond_t (ev_and2 h2) (cond_app (a46l0 x0 x1 x2) _ rfl (v46l0 x0 x1 x2 ((r46l0 m) (IntKind.i64.wrap (x0 + 1)) x1 x2))))) (fun h2 => rfl)))) (fun h1 => rfl))) (fun h0 => rfl)))
set_option maxRecDepth 100000 in
set_option maxHeartbeats 4000000 in
theorem qm46l0 : ∀ m, SumKOk Try.prog (loopN Try.f46 0) 26 [0, 1, 5] [4] (q46l0 m) := by
  intro m
  induction m with
  | zero =>
    intro vals s x h1 h2 h3
    unfold q46l0 at h3; split at h3
    · rename_i h; split at h3
      · rename_i hc; obtain ⟨rfl, rfl⟩ := hc; exact absurd h3 (by simp [r46l0, firstT, Nat.beq])
      · exact noQ_ok _ _ _ h1 h2 h3
    · exact noQ_ok _ _ _ h1 h2 h3
  | succ m ih =>
    intro vals s x h1 h2 h3
    unfold q46l0 at h3; split at h3
    · rename_i h; split at h3
      · rename_i hc; obtain ⟨rfl, rfl⟩ := hc; exact sum_step ok40 extOk mixed ((lfOkF_no _ _).inner (by kernel_rfl)) ih h1 h2 h (e46l0 m _ _ _) rfl h3
      · exact noQ_ok _ _ _ h1 h2 h3
    · exact noQ_ok _ _ _ h1 h2 h3
noncomputable def Q46l0 : SumK := fun vals s => q46l0 (fuelOf vals s.h) vals s
theorem qok46l0 : SumKOk Try.prog (loopN Try.f46 0) 26 [0, 1, 5] [4] Q46l0 := fuel_ok qm46l0 fuelOf
noncomputable def L46_1 : LoopT := addL noL 5 ([0, 1, 5], []) (sumK 26 [0, 1, 5] [4] Q46l0)
theorem lok46_1 : LfOkF Try.prog L46_1 Try.f46 := lfOkF_add (lfOkF_no _ _) qok46l0 (by kernel_rfl) (by kernel_rfl) (by kernel_rfl)

/-- laws.eqStringS -/
noncomputable def r46 (x0 x1 : List ByteArray) : Nat × Bool :=
 cond ((((x0.length : Nat) : Int) : Int) != ((x1.length : Nat) : Int))
  (0, false)
  (cond (Nat.beq (r46l0 (1000 + x1.length + x0.length) 0 x0 x1) 0)
   (0, false)
   (cond (Nat.beq (r46l0 (1000 + x1.length + x0.length) 0 x0 x1) 1)
    (0, true)
    (1, false)))
noncomputable def a46 (x0 x1 : List ByteArray) (p : Nat × Bool) : Res := firstT [((Nat.beq (p.1) 0), .bool (p.2), ⟨[⟨true, (some (.strs x0))⟩, ⟨true, (some (.strs x1))⟩], 2, []⟩)]
noncomputable def w46 (x0 x1 : List ByteArray) : Res :=
 (cond ((((x0.length : Nat) : Int) : Int) != ((x1.length : Nat) : Int))
 (a46 x0 x1 (0, false))
 (cond (Nat.beq (r46l0 (1000 + x1.length + x0.length) 0 x0 x1) 0)
  (a46 x0 x1 (0, false))
  (cond (Nat.beq (r46l0 (1000 + x1.length + x0.length) 0 x0 x1) 1)
   (a46 x0 x1 (0, true))
   none)))
set_option maxRecDepth 100000 in
set_option maxHeartbeats 4000000 in
theorem e46 (x0 x1 : List ByteArray) : evFn Try.prog ext T40 L46_1 200 Try.f46 [wsl 0, wsl 1] ⟨[⟨true, (some (.strs x0))⟩, ⟨true, (some (.strs x1))⟩], 2, []⟩ = firstT [((Nat.beq ((r46 x0 x1).1) 0), .bool ((r46 x0 x1).2), ⟨[⟨true, (some (.strs x0))⟩, ⟨true, (some (.strs x1))⟩], 2, []⟩)] :=
 (show evFn Try.prog ext T40 L46_1 200 Try.f46 [wsl 0, wsl 1] ⟨[⟨true, (some (.strs x0))⟩, ⟨true, (some (.strs x1))⟩], 2, []⟩ = w46 x0 x1 from by kernel_rfl).trans
 (show w46 x0 x1 = a46 x0 x1 (r46 x0 x1) from by unfold w46 r46; exact (cond_app (a46 x0 x1) _ rfl (cond_app (a46 x0 x1) _ rfl (cond_app (a46 x0 x1) _ rfl rfl))))
noncomputable def s46 (args : List Value) (s : St) : List (Bool × Value × St) :=
 match args, s.h with
 | [.iface f0 .nilIface, .iface f1 .nilIface], [⟨true, some (.strs x0)⟩, ⟨true, some (.strs x1)⟩] => if f0 = 0 ∧ f1 = 1 then [((Nat.beq ((r46 x0 x1).1) 0), .bool ((r46 x0 x1).2), ⟨[⟨true, (some (.strs x0))⟩, ⟨true, (some (.strs x1))⟩], 2, []⟩)] else T40 46 args s
 | _, _ => T40 46 args s
noncomputable def T41 : CallF := addF T40 46 s46
set_option maxRecDepth 100000 in
set_option maxHeartbeats 4000000 in
theorem ok41 : CfOk Try.prog T41 := by
  refine cfOk_add ok40 fun args s r s' h1 h2 h3 => ?_
  unfold s46 at h3; split at h3
  · rename_i h; split at h3
    · rename_i hc; obtain ⟨rfl, rfl⟩ := hc; exact callOk ok40 Try.func46 h1 h2 h lok46_1.body (e46 _ _) rfl h3
    · exact ok40 _ _ _ _ _ h1 h2 h3
  · exact ok40 _ _ _ _ _ h1 h2 h3

/-- laws.sameFloat -/
noncomputable def r20 (x0 x1 : Nat) : Bool :=
 cond (!feq .f64 x0 x0)
  ((!feq .f64 x1 x1))
  (cond (!feq .f64 x1 x1)
   (false)
   (cond (feq .f64 x0 0)
    (cond (feq .f64 x1 0)
     (((fgt .f64 (fdiv .f64 4607182418800017408 x0) 0) == (fgt .f64 (fdiv .f64 4607182418800017408 x1) 0)))
     ((feq .f64 x0 x1)))
    ((feq .f64 x0 x1))))
noncomputable def a20 (x0 x1 : Nat) (p : Bool) : Res := firstT [(true, .bool p, st0)]
noncomputable def w20 (x0 x1 : Nat) : Res :=
 (cond (!feq .f64 x0 x0)
 (cond (!feq .f64 x0 x0)
  (a20 x0 x1 ((!feq .f64 x1 x1)))
  (some (.bool false, st0)))
 (cond (!feq .f64 x1 x1)
  (cond (!feq .f64 x0 x0)
   (some (.bool (!feq .f64 x1 x1), st0))
   (a20 x0 x1 (false)))
  (cond (feq .f64 x0 0)
   (cond (feq .f64 x1 0)
    (a20 x0 x1 (((fgt .f64 (fdiv .f64 4607182418800017408 x0) 0) == (fgt .f64 (fdiv .f64 4607182418800017408 x1) 0))))
    (a20 x0 x1 ((feq .f64 x0 x1))))
   (a20 x0 x1 ((feq .f64 x0 x1))))))
set_option maxRecDepth 100000 in
set_option maxHeartbeats 4000000 in
theorem e20 (x0 x1 : Nat) : evFn Try.prog ext T41 noL 200 Try.f20 [.float .f64 x0, .float .f64 x1] st0 = firstT [(true, .bool (r20 x0 x1), st0)] :=
 (show evFn Try.prog ext T41 noL 200 Try.f20 [.float .f64 x0, .float .f64 x1] st0 = w20 x0 x1 from by kernel_rfl).trans
 (show w20 x0 x1 = a20 x0 x1 (r20 x0 x1) from by unfold w20 r20; exact (cond_both (a20 x0 x1) _ (fun h0 => (cond_t (ev_not1 (ev_nott h0)) rfl)) (fun h0 => (cond_both (a20 x0 x1) _ (fun h1 => (cond_f (ev_not0 (ev_notf h0)) rfl)) (fun h1 => (cond_app (a20 x0 x1) _ (cond_app (a20 x0 x1) _ rfl rfl) rfl))))))
noncomputable def s20 (args : List Value) (s : St) : List (Bool × Value × St) :=
 match args, s.h with
 | [.float .f64 x0, .float .f64 x1], [] => [(true, .bool (r20 x0 x1), st0)]
 | _, _ => T41 20 args s
noncomputable def T42 : CallF := addF T41 20 s20
set_option maxRecDepth 100000 in
set_option maxHeartbeats 4000000 in
theorem ok42 : CfOk Try.prog T42 := by
  refine cfOk_add ok41 fun args s r s' h1 h2 h3 => ?_
  unfold s20 at h3; split at h3
  · rename_i h; exact callOk ok41 Try.func20 h1 h2 h (lfOkF_no _ _).body (e20 _ _) rfl h3
  · exact ok41 _ _ _ _ _ h1 h2 h3

/-- laws.eqOp -/
noncomputable def r74 (x0 x1 : Int) (x2 : Nat) (x3 x4 : Int) (x5 : Nat) : Bool :=
 cond ((x0 : Int) != x3)
  (false)
  (cond ((x1 : Int) != x4)
   (false)
   (cond (!(r20 (widen x2) (widen x5)))
    (false)
    (true)))
noncomputable def a74 (x0 x1 : Int) (x2 : Nat) (x3 x4 : Int) (x5 : Nat) (p : Bool) : Res := firstT [(true, .bool p, st0)]
noncomputable def w74 (x0 x1 : Int) (x2 : Nat) (x3 x4 : Int) (x5 : Nat) : Res :=
 (cond ((x0 : Int) != x3)
 (a74 x0 x1 x2 x3 x4 x5 (false))
 (cond ((x1 : Int) != x4)
  (a74 x0 x1 x2 x3 x4 x5 (false))
  (cond (!(r20 (widen x2) (widen x5)))
   (a74 x0 x1 x2 x3 x4 x5 (false))
   (a74 x0 x1 x2 x3 x4 x5 (true)))))
set_option maxRecDepth 100000 in
set_option maxHeartbeats 4000000 in
theorem e74 (x0 x1 : Int) (x2 : Nat) (x3 x4 : Int) (x5 : Nat) : evFn Try.prog ext T42 noL 200 Try.f74 [.agg #[.int .i8 x0, .int .i16 x1, .float .f32 x2], .agg #[.int .i8 x3, .int .i16 x4, .float .f32 x5]] st0 = firstT [(true, .bool (r74 x0 x1 x2 x3 x4 x5), st0)] :=
 (show evFn Try.prog ext T42 noL 200 Try.f74 [.agg #[.int .i8 x0, .int .i16 x1, .float .f32 x2], .agg #[.int .i8 x3, .int .i16 x4, .float .f32 x5]] st0 = w74 x0 x1 x2 x3 x4 x5 from by kernel_rfl).trans
 (show w74 x0 x1 x2 x3 x4 x5 = a74 x0 x1 x2 x3 x4 x5 (r74 x0 x1 x2 x3 x4 x5) from by unfold w74 r74; exact (cond_app (a74 x0 x1 x2 x3 x4 x5) _ rfl (cond_app (a74 x0 x1 x2 x3 x4 x5) _ rfl (cond_app (a74 x0 x1 x2 x3 x4 x5) _ rfl rfl))))
noncomputable def s74 (args : List Value) (s : St) : List (Bool × Value × St) :=
 match args, s.h with
 | [.agg ⟨[.int .i8 x0, .int .i16 x1, .float .f32 x2]⟩, .agg ⟨[.int .i8 x3, .int .i16 x4, .float .f32 x5]⟩], [] => [(true, .bool (r74 x0 x1 x2 x3 x4 x5), st0)]
 | _, _ => T42 74 args s
noncomputable def T43 : CallF := addF T42 74 s74
set_option maxRecDepth 100000 in
set_option maxHeartbeats 4000000 in
theorem ok43 : CfOk Try.prog T43 := by
  refine cfOk_add ok42 fun args s r s' h1 h2 h3 => ?_
  unfold s74 at h3; split at h3
  · rename_i h; exact callOk ok42 Try.func74 h1 h2 h (lfOkF_no _ _).body (e74 _ _ _ _ _ _) rfl h3
  · exact ok42 _ _ _ _ _ h1 h2 h3

/-- laws.eqOpS, loop 0: one round -/
noncomputable def b47l0 (ih : Int → List (List Int) → List (List Int) → Nat) (x0 : Int) (x1 x2 : List (List Int)) : Nat :=
 let c68 := (r74 ((x1.getD (Int.toNat x0) []).getD 0 0) ((x1.getD (Int.toNat x0) []).getD 1 0) (Int.toNat ((x1.getD (Int.toNat x0) []).getD 2 0)) ((x2.getD (Int.toNat x0) []).getD 0 0) ((x2.getD (Int.toNat x0) []).getD 1 0) (Int.toNat ((x2.getD (Int.toNat x0) []).getD 2 0)))
 cond (decide ((x0 : Int) < ((x1.length : Nat) : Int)))
  (cond ((decide ((0 : Int) ≤ x0)) && (Nat.blt (Int.toNat x0) x1.length))
   (cond ((decide ((0 : Int) ≤ x0)) && (Nat.blt (Int.toNat x0) x2.length))
    (cond (!c68)
     (0)
     (ih (IntKind.i64.wrap (x0 + 1)) x1 x2))
    (2))
   (2))
  (1)
noncomputable def r47l0 : Nat → Int → List (List Int) → List (List Int) → Nat
 | 0 => fun _ _ _ => (2)
 | m + 1 => b47l0 (r47l0 m)
noncomputable def a47l0 (x0 : Int) (x1 x2 : List (List Int)) (p : Nat) : Option (Fin' × List Value × St) := firstT ([((Nat.beq p 0), .ret, [.bool false], ⟨[⟨true, (some (.tab [.int .i8, .int .i16, .fl .f32] x1))⟩, ⟨true, (some (.tab [.int .i8, .int .i16, .fl .f32] x2))⟩], 2, []⟩), ((Nat.beq p 1), .exit 0, [anyV], ⟨[⟨true, (some (.tab [.int .i8, .int .i16, .fl .f32] x1))⟩, ⟨true, (some (.tab [.int .i8, .int .i16, .fl .f32] x2))⟩], 2, []⟩)].map fun (b, x) => (b, (x.1, frameOf 27 [4] x.2.1, x.2.2)))
noncomputable def u47l0 (x0 : Int) (x1 x2 : List (List Int)) (p : Nat) : Option (Fin' × List Value × St) := alts ([((Nat.beq p 0), .ret, [.bool false], ⟨[⟨true, (some (.tab [.int .i8, .int .i16, .fl .f32] x1))⟩, ⟨true, (some (.tab [.int .i8, .int .i16, .fl .f32] x2))⟩], 2, []⟩), ((Nat.beq p 1), .exit 0, [anyV], ⟨[⟨true, (some (.tab [.int .i8, .int .i16, .fl .f32] x1))⟩, ⟨true, (some (.tab [.int .i8, .int .i16, .fl .f32] x2))⟩], 2, []⟩)].map fun (b, x) => (b, (x.1, frameOf 27 [4] x.2.1, x.2.2))) some
theorem v47l0 (x0 : Int) (x1 x2 : List (List Int)) (p : Nat) : u47l0 x0 x1 x2 p = a47l0 x0 x1 x2 p := alts_first _
noncomputable def q47l0 (m : Nat) : SumK := fun vals s =>
 match vals, s.h with
 | [.iface f0 .nilIface, .iface f1 .nilIface, .int .i64 x0], [⟨true, some (.tab [.int .i8, .int .i16, .fl .f32] x1)⟩, ⟨true, some (.tab [.int .i8, .int .i16, .fl .f32] x2)⟩] => if f0 = 0 ∧ f1 = 1 then [((Nat.beq (r47l0 m x0 x1 x2) 0), .ret, [.bool false], ⟨[⟨true, (some (.tab [.int .i8, .int .i16, .fl .f32] x1))⟩, ⟨true, (some (.tab [.int .i8, .int .i16, .fl .f32] x2))⟩], 2, []⟩), ((Nat.beq (r47l0 m x0 x1 x2) 1), .exit 0, [anyV], ⟨[⟨true, (some (.tab [.int .i8, .int .i16, .fl .f32] x1))⟩, ⟨true, (some (.tab [.int .i8, .int .i16, .fl .f32] x2))⟩], 2, []⟩)] else noQ vals s
 | _, _ => noQ vals s
noncomputable def w47l0 (ih : Int → List (List Int) → List (List Int) → Nat) (x0 : Int) (x1 x2 : List (List Int)) : Option (Fin' × List Value × St) :=
 let c68 := (r74 ((x1.getD (Int.toNat x0) []).getD 0 0) ((x1.getD (Int.toNat x0) []).getD 1 0) (Int.toNat ((x1.getD (Int.toNat x0) []).getD 2 0)) ((x2.getD (Int.toNat x0) []).getD 0 0) ((x2.getD (Int.toNat x0) []).getD 1 0) (Int.toNat ((x2.getD (Int.toNat x0) []).getD 2 0)))
 (cond (decide ((x0 : Int) < ((x1.length : Nat) : Int)))
 (cond ((decide ((0 : Int) ≤ x0)) && (Nat.blt (Int.toNat x0) x1.length))
  (cond (Nat.blt (Int.toNat x0) x1.length)
   (cond ((decide ((0 : Int) ≤ x0)) && (Nat.blt (Int.toNat x0) x2.length))
    (cond (Nat.blt (Int.toNat x0) x2.length)
     (cond (!c68)
      (a47l0 x0 x1 x2 (0))
      (u47l0 x0 x1 x2 (ih (IntKind.i64.wrap (x0 + 1)) x1 x2)))
     none)
    none)
   none)
  none)
 (a47l0 x0 x1 x2 (1)))
set_option maxRecDepth 100000 in
set_option maxHeartbeats 4000000 in
theorem e47l0 (m : Nat) (x0 : Int) (x1 x2 : List (List Int)) : evC Try.prog ext T43 noL 200 (loopN Try.f47 0) (loopTail ([0, 1, 5], []) [4] [] (sumK 27 [0, 1, 5] [4] (q47l0 m))) (frameOf 27 [0, 1, 5] [wsl 0, wsl 1, .int .i64 x0]) ⟨[⟨true, (some (.tab [.int .i8, .int .i16, .fl .f32] x1))⟩, ⟨true, (some (.tab [.int .i8, .int .i16, .fl .f32] x2))⟩], 2, []⟩ = firstT ([((Nat.beq (r47l0 (m + 1) x0 x1 x2) 0), .ret, [.bool false], ⟨[⟨true, (some (.tab [.int .i8, .int .i16, .fl .f32] x1))⟩, ⟨true, (some (.tab [.int .i8, .int .i16, .fl .f32] x2))⟩], 2, []⟩), ((Nat.beq (r47l0 (m + 1) x0 x1 x2) 1), .exit 0, [anyV], ⟨[⟨true, (some (.tab [.int .i8, .int .i16, .fl .f32] x1))⟩, ⟨true, (some (.tab [.int .i8, .int .i16, .fl .f32] x2))⟩], 2, []⟩)].map fun (b, x) => (b, (x.1, frameOf 27 [4] x.2.1, x.2.2))) :=
 (show evC Try.prog ext T43 noL 200 (loopN Try.f47 0) (loopTail ([0, 1, 5], []) [4] [] (sumK 27 [0, 1, 5] [4] (q47l0 m))) (frameOf 27 [0, 1, 5] [wsl 0, wsl 1, .int .i64 x0]) ⟨[⟨true, (some (.tab [.int .i8, .int .i16, .fl .f32] x1))⟩, ⟨true, (some (.tab [.int .i8, .int .i16, .fl .f32] x2))⟩], 2, []⟩ = w47l0 (r47l0 m) x0 x1 x2 from by kernel_rfl).trans
 (show w47l0 (r47l0 m) x0 x1 x2 = a47l0 x0 x1 x2 (r47l0 (m + 1) x0 x1 x2) from by unfold w47l0; show _ = a47l0 x0 x1 x2 (b47l0 (r47l0 m) x0 x1 x2); unfold b47l0; exact (cond_both (a47l0 x0 x1 x2) _ (fun h0 => (cond_both (a47l0 x0 x1 x2) _ (fun h1 => (cond_t (ev_and2 h1) (cond_both (a47l0 x0 x1 x2) _ (fun h2 => (cond_t (ev_and2 h2) (cond_app (a47l0 x0 x1 x2) _ rfl (v47l0 x0 x1 x2 ((r47l0 m) (IntKind.i64.wrap (x0 + 1)) x1 x2))))) (fun h2 => rfl)))) (fun h1 => rfl))) (fun h0 => rfl)))
set_option maxRecDepth 100000 in
set_option maxHeartbeats 4000000 in
theorem qm47l0 : ∀ m, SumKOk Try.prog (loopN Try.f47 0) 27 [0, 1, 5] [4] (q47l0 m) := by
  intro m
  induction m with
  | zero =>
    intro vals s x h1 h2 h3
    unfold q47l0 at h3; split at h3
    · rename_i h; split at h3
      · rename_i hc; obtain ⟨rfl, rfl⟩ := hc; exact absurd h3 (by simp [r47l0, firstT, Nat.beq])
      · exact noQ_ok _ _ _ h1 h2 h3
    · exact noQ_ok _ _ _ h1 h2 h3
  | succ m ih =>
    intro vals s x h1 h2 h3
    unfold q47l0 at h3; split at h3
    · rename_i h; split at h3
      · rename_i hc; obtain ⟨rfl, rfl⟩ := hc; exact sum_step ok43 extOk mixed ((lfOkF_no _ _).inner (by kernel_rfl)) ih h1 h2 h (e47l0 m _ _ _) rfl h3
      · exact noQ_ok _ _ _ h1 h2 h3
    · exact noQ_ok _ _ _ h1 h2 h3
noncomputable def Q47l0 : SumK := fun vals s => q47l0 (fuelOf vals s.h) vals s
theorem qok47l0 : SumKOk Try.prog (loopN Try.f47 0) 27 [0, 1, 5] [4] Q47l0 := fuel_ok qm47l0 fuelOf
noncomputable def L47_1 : LoopT := addL noL 5 ([0, 1, 5], []) (sumK 27 [0, 1, 5] [4] Q47l0)
theorem lok47_1 : LfOkF Try.prog L47_1 Try.f47 := lfOkF_add (lfOkF_no _ _) qok47l0 (by kernel_rfl) (by kernel_rfl) (by kernel_rfl)

/-- laws.eqOpS -/
noncomputable def r47 (x0 x1 : List (List Int)) : Nat × Bool :=
 cond ((((x0.length : Nat) : Int) : Int) != ((x1.length : Nat) : Int))
  (0, false)
  (cond (Nat.beq (r47l0 (1000 + x1.length + x0.length) 0 x0 x1) 0)
   (0, false)
   (cond (Nat.beq (r47l0 (1000 + x1.length + x0.length) 0 x0 x1) 1)
    (0, true)
    (1, false)))
noncomputable def a47 (x0 x1 : List (List Int)) (p : Nat × Bool) : Res := firstT [((Nat.beq (p.1) 0), .bool (p.2), ⟨[⟨true, (some (.tab [.int .i8, .int .i16, .fl .f32] x0))⟩, ⟨true, (some (.tab [.int .i8, .int .i16, .fl .f32] x1))⟩], 2, []⟩)]
noncomputable def w47 (x0 x1 : List (List Int)) : Res :=
 (cond ((((x0.length : Nat) : Int) : Int) != ((x1.length : Nat) : Int))
 (a47 x0 x1 (0, false))
 (cond (Nat.beq (r47l0 (1000 + x1.length + x0.length) 0 x0 x1) 0)
  (a47 x0 x1 (0, false))
  (cond (Nat.beq (r47l0 (1000 + x1.length + x0.length) 0 x0 x1) 1)
   (a47 x0 x1 (0, true))
   none)))
set_option maxRecDepth 100000 in
set_option maxHeartbeats 4000000 in
theorem e47 (x0 x1 : List (List Int)) : evFn Try.prog ext T43 L47_1 200 Try.f47 [wsl 0, wsl 1] ⟨[⟨true, (some (.tab [.int .i8, .int .i16, .fl .f32] x0))⟩, ⟨true, (some (.tab [.int .i8, .int .i16, .fl .f32] x1))⟩], 2, []⟩ = firstT [((Nat.beq ((r47 x0 x1).1) 0), .bool ((r47 x0 x1).2), ⟨[⟨true, (some (.tab [.int .i8, .int .i16, .fl .f32] x0))⟩, ⟨true, (some (.tab [.int .i8, .int .i16, .fl .f32] x1))⟩], 2, []⟩)] :=
 (show evFn Try.prog ext T43 L47_1 200 Try.f47 [wsl 0, wsl 1] ⟨[⟨true, (some (.tab [.int .i8, .int .i16, .fl .f32] x0))⟩, ⟨true, (some (.tab [.int .i8, .int .i16, .fl .f32] x1))⟩], 2, []⟩ = w47 x0 x1 from by kernel_rfl).trans
 (show w47 x0 x1 = a47 x0 x1 (r47 x0 x1) from by unfold w47 r47; exact (cond_app (a47 x0 x1) _ rfl (cond_app (a47 x0 x1) _ rfl (cond_app (a47 x0 x1) _ rfl rfl))))
noncomputable def s47 (args : List Value) (s : St) : List (Bool × Value × St) :=
 match args, s.h with
 | [.iface f0 .nilIface, .iface f1 .nilIface], [⟨true, some (.tab [.int .i8, .int .i16, .fl .f32] x0)⟩, ⟨true, some (.tab [.int .i8, .int .i16, .fl .f32] x1)⟩] => if f0 = 0 ∧ f1 = 1 then [((Nat.beq ((r47 x0 x1).1) 0), .bool ((r47 x0 x1).2), ⟨[⟨true, (some (.tab [.int .i8, .int .i16, .fl .f32] x0))⟩, ⟨true, (some (.tab [.int .i8, .int .i16, .fl .f32] x1))⟩], 2, []⟩)] else T43 47 args s
 | _, _ => T43 47 args s
noncomputable def T44 : CallF := addF T43 47 s47
set_option maxRecDepth 100000 in
set_option maxHeartbeats 4000000 in
theorem ok44 : CfOk Try.prog T44 := by
  refine cfOk_add ok43 fun args s r s' h1 h2 h3 => ?_
  unfold s47 at h3; split at h3
  · rename_i h; split at h3
    · rename_i hc; obtain ⟨rfl, rfl⟩ := hc; exact callOk ok43 Try.func47 h1 h2 h lok47_1.body (e47 _ _) rfl h3
    · exact ok43 _ _ _ _ _ h1 h2 h3
  · exact ok43 _ _ _ _ _ h1 h2 h3

/-- laws.eqProgram -/
noncomputable def r14 (x0 : List ByteArray) (x1 : List (List Int)) (x2 : List ByteArray) (x3 : List (List Int)) : Nat × Bool :=
 cond (Nat.beq ((r46 x0 x2).1) 0)
  (cond (!((r46 x0 x2).2))
   (0, false)
   (cond (Nat.beq ((r47 x1 x3).1) 0)
    (cond (!((r47 x1 x3).2))
     (0, false)
     (0, true))
    (1, false)))
  (1, false)
noncomputable def a14 (x0 : List ByteArray) (x1 : List (List Int)) (x2 : List ByteArray) (x3 : List (List Int)) (p : Nat × Bool) : Res := firstT [((Nat.beq (p.1) 0), .bool (p.2), ⟨[⟨true, (some (.strs x0))⟩, ⟨true, (some (.tab [.int .i8, .int .i16, .fl .f32] x1))⟩, ⟨true, (some (.strs x2))⟩, ⟨true, (some (.tab [.int .i8, .int .i16, .fl .f32] x3))⟩], 4, []⟩)]
noncomputable def w14 (x0 : List ByteArray) (x1 : List (List Int)) (x2 : List ByteArray) (x3 : List (List Int)) : Res :=
 (cond (Nat.beq ((r46 x0 x2).1) 0)
 (cond (!((r46 x0 x2).2))
  (a14 x0 x1 x2 x3 (0, false))
  (cond (Nat.beq ((r47 x1 x3).1) 0)
   (cond (!((r47 x1 x3).2))
    (a14 x0 x1 x2 x3 (0, false))
    (a14 x0 x1 x2 x3 (0, true)))
   none))
 none)
set_option maxRecDepth 100000 in
set_option maxHeartbeats 4000000 in
theorem e14 (x0 : List ByteArray) (x1 : List (List Int)) (x2 : List ByteArray) (x3 : List (List Int)) : evFn Try.prog ext T44 noL 200 Try.f14 [.agg #[wsl 0, wsl 1], .agg #[wsl 2, wsl 3]] ⟨[⟨true, (some (.strs x0))⟩, ⟨true, (some (.tab [.int .i8, .int .i16, .fl .f32] x1))⟩, ⟨true, (some (.strs x2))⟩, ⟨true, (some (.tab [.int .i8, .int .i16, .fl .f32] x3))⟩], 4, []⟩ = firstT [((Nat.beq ((r14 x0 x1 x2 x3).1) 0), .bool ((r14 x0 x1 x2 x3).2), ⟨[⟨true, (some (.strs x0))⟩, ⟨true, (some (.tab [.int .i8, .int .i16, .fl .f32] x1))⟩, ⟨true, (some (.strs x2))⟩, ⟨true, (some (.tab [.int .i8, .int .i16, .fl .f32] x3))⟩], 4, []⟩)] :=
 (show evFn Try.prog ext T44 noL 200 Try.f14 [.agg #[wsl 0, wsl 1], .agg #[wsl 2, wsl 3]] ⟨[⟨true, (some (.strs x0))⟩, ⟨true, (some (.tab [.int .i8, .int .i16, .fl .f32] x1))⟩, ⟨true, (some (.strs x2))⟩, ⟨true, (some (.tab [.int .i8, .int .i16, .fl .f32] x3))⟩], 4, []⟩ = w14 x0 x1 x2 x3 from by kernel_rfl).trans
 (show w14 x0 x1 x2 x3 = a14 x0 x1 x2 x3 (r14 x0 x1 x2 x3) from by unfold w14 r14; exact (cond_app (a14 x0 x1 x2 x3) _ (cond_app (a14 x0 x1 x2 x3) _ rfl (cond_app (a14 x0 x1 x2 x3) _ (cond_app (a14 x0 x1 x2 x3) _ rfl rfl) rfl)) rfl))
noncomputable def s14 (args : List Value) (s : St) : List (Bool × Value × St) :=
 match args, s.h with
 | [.agg ⟨[.iface f0 .nilIface, .iface f1 .nilIface]⟩, .agg ⟨[.iface f2 .nilIface, .iface f3 .nilIface]⟩], [⟨true, some (.strs x0)⟩, ⟨true, some (.tab [.int .i8, .int .i16, .fl .f32] x1)⟩, ⟨true, some (.strs x2)⟩, ⟨true, some (.tab [.int .i8, .int .i16, .fl .f32] x3)⟩] => if f0 = 0 ∧ f1 = 1 ∧ f2 = 2 ∧ f3 = 3 then [((Nat.beq ((r14 x0 x1 x2 x3).1) 0), .bool ((r14 x0 x1 x2 x3).2), ⟨[⟨true, (some (.strs x0))⟩, ⟨true, (some (.tab [.int .i8, .int .i16, .fl .f32] x1))⟩, ⟨true, (some (.strs x2))⟩, ⟨true, (some (.tab [.int .i8, .int .i16, .fl .f32] x3))⟩], 4, []⟩)] else T44 14 args s
 | _, _ => T44 14 args s
noncomputable def T45 : CallF := addF T44 14 s14
set_option maxRecDepth 100000 in
set_option maxHeartbeats 4000000 in
theorem ok45 : CfOk Try.prog T45 := by
  refine cfOk_add ok44 fun args s r s' h1 h2 h3 => ?_
  unfold s14 at h3; split at h3
  · rename_i h; split at h3
    · rename_i hc; obtain ⟨rfl, rfl, rfl, rfl⟩ := hc; exact callOk ok44 Try.func14 h1 h2 h (lfOkF_no _ _).body (e14 _ _ _ _) rfl h3
    · exact ok44 _ _ _ _ _ h1 h2 h3
  · exact ok44 _ _ _ _ _ h1 h2 h3

/-- laws.markText, loop 0: one round -/
noncomputable def b85l0 (ih : Int → ByteArray → (Nat × ByteArray)) (x0 : Int) (x1 : ByteArray) : Nat × ByteArray :=
 cond (decide ((x0 : Int) > 0))
  (cond (decide ((bytesOf ([[(IntKind.u8.wrap (IntKind.i64.wrap (48 + (Int.tmod x0 10))))]] : List (List Int))).size + x1.size ≤ strMax))
   (ih (IntKind.i64.wrap (Int.tdiv x0 10)) ((bytesOf ([[(IntKind.u8.wrap (IntKind.i64.wrap (48 + (Int.tmod x0 10))))]] : List (List Int))) ++ x1))
   (1, ByteArray.empty))
  (0, x1)
noncomputable def r85l0 : Nat → Int → ByteArray → (Nat × ByteArray)
 | 0 => fun _ _ => (1, ByteArray.empty)
 | m + 1 => b85l0 (r85l0 m)
noncomputable def a85l0 (x0 : Int) (x1 : ByteArray) (p : Nat × ByteArray) : Option (Fin' × List Value × St) := firstT ([((Nat.beq (p.1) 0), .exit 0, [.string (p.2)], st0)].map fun (b, x) => (b, (x.1, frameOf 20 [3] x.2.1, x.2.2)))
noncomputable def u85l0 (x0 : Int) (x1 : ByteArray) (p : Nat × ByteArray) : Option (Fin' × List Value × St) := alts ([((Nat.beq (p.1) 0), .exit 0, [.string (p.2)], st0)].map fun (b, x) => (b, (x.1, frameOf 20 [3] x.2.1, x.2.2))) some
theorem v85l0 (x0 : Int) (x1 : ByteArray) (p : Nat × ByteArray) : u85l0 x0 x1 p = a85l0 x0 x1 p := alts_first _
noncomputable def q85l0 (m : Nat) : SumK := fun vals s =>
 match vals, s.h with
 | [.int .i64 x0, .string x1], [] => [((Nat.beq ((r85l0 m x0 x1).1) 0), .exit 0, [.string ((r85l0 m x0 x1).2)], st0)]
 | _, _ => noQ vals s
noncomputable def w85l0 (ih : Int → ByteArray → (Nat × ByteArray)) (x0 : Int) (x1 : ByteArray) : Option (Fin' × List Value × St) :=
 (cond (decide ((x0 : Int) > 0))
 (cond (decide ((bytesOf ([[(IntKind.u8.wrap (IntKind.i64.wrap (48 + (Int.tmod x0 10))))]] : List (List Int))).size + x1.size ≤ strMax))
  (u85l0 x0 x1 (ih (IntKind.i64.wrap (Int.tdiv x0 10)) ((bytesOf ([[(IntKind.u8.wrap (IntKind.i64.wrap (48 + (Int.tmod x0 10))))]] : List (List Int))) ++ x1)))
  none)
 (a85l0 x0 x1 (0, x1)))
set_option maxRecDepth 100000 in
set_option maxHeartbeats 4000000 in
theorem e85l0 (m : Nat) (x0 : Int) (x1 : ByteArray) : evC Try.prog ext T45 noL 200 (loopN Try.f85 0) (loopTail ([0, 3], []) [3] [] (sumK 20 [0, 3] [3] (q85l0 m))) (frameOf 20 [0, 3] [.int .i64 x0, .string x1]) ⟨[], 0, []⟩ = firstT ([((Nat.beq ((r85l0 (m + 1) x0 x1).1) 0), .exit 0, [.string ((r85l0 (m + 1) x0 x1).2)], st0)].map fun (b, x) => (b, (x.1, frameOf 20 [3] x.2.1, x.2.2))) :=
 (show evC Try.prog ext T45 noL 200 (loopN Try.f85 0) (loopTail ([0, 3], []) [3] [] (sumK 20 [0, 3] [3] (q85l0 m))) (frameOf 20 [0, 3] [.int .i64 x0, .string x1]) ⟨[], 0, []⟩ = w85l0 (r85l0 m) x0 x1 from by kernel_rfl).trans
 (show w85l0 (r85l0 m) x0 x1 = a85l0 x0 x1 (r85l0 (m + 1) x0 x1) from by unfold w85l0; show _ = a85l0 x0 x1 (b85l0 (r85l0 m) x0 x1); unfold b85l0; exact (cond_app (a85l0 x0 x1) _ (cond_app (a85l0 x0 x1) _ (v85l0 x0 x1 ((r85l0 m) (IntKind.i64.wrap (Int.tdiv x0 10)) ((bytesOf ([[(IntKind.u8.wrap (IntKind.i64.wrap (48 + (Int.tmod x0 10))))]] : List (List Int))) ++ x1))) rfl) rfl))
set_option maxRecDepth 100000 in
set_option maxHeartbeats 4000000 in
theorem qm85l0 : ∀ m, SumKOk Try.prog (loopN Try.f85 0) 20 [0, 3] [3] (q85l0 m) := by
  intro m
  induction m with
  | zero =>
    intro vals s x h1 h2 h3
    unfold q85l0 at h3; split at h3
    · rename_i h; exact absurd h3 (by simp [r85l0, firstT, Nat.beq])
    · exact noQ_ok _ _ _ h1 h2 h3
  | succ m ih =>
    intro vals s x h1 h2 h3
    unfold q85l0 at h3; split at h3
    · rename_i h; exact sum_step ok45 extOk mixed ((lfOkF_no _ _).inner (by kernel_rfl)) ih h1 h2 h (e85l0 m _ _) rfl h3
    · exact noQ_ok _ _ _ h1 h2 h3
noncomputable def Q85l0 : SumK := fun vals s => q85l0 (fuelOf vals s.h) vals s
theorem qok85l0 : SumKOk Try.prog (loopN Try.f85 0) 20 [0, 3] [3] Q85l0 := fuel_ok qm85l0 fuelOf
noncomputable def L85_1 : LoopT := addL noL 5 ([0, 3], []) (sumK 20 [0, 3] [3] Q85l0)
theorem lok85_1 : LfOkF Try.prog L85_1 Try.f85 := lfOkF_add (lfOkF_no _ _) qok85l0 (by kernel_rfl) (by kernel_rfl) (by kernel_rfl)

/-- laws.markText -/
noncomputable def r85 (x0 : Int) : Nat × ByteArray :=
 cond (decide ((x0 : Int) ≤ 0))
  (0, (ByteArray.mk #[109, 48]))
  (cond (Nat.beq ((r85l0 (1000 + 0) x0 (ByteArray.mk #[])).1) 0)
   (cond (decide (1 + ((r85l0 (1000 + 0) x0 (ByteArray.mk #[])).2).size ≤ strMax))
    (0, ((ByteArray.mk #[109]) ++ ((r85l0 (1000 + 0) x0 (ByteArray.mk #[])).2)))
    (1, ByteArray.empty))
   (1, ByteArray.empty))
noncomputable def a85 (x0 : Int) (p : Nat × ByteArray) : Res := firstT [((Nat.beq (p.1) 0), .string (p.2), st0)]
noncomputable def w85 (x0 : Int) : Res :=
 (cond (decide ((x0 : Int) ≤ 0))
 (a85 x0 (0, (ByteArray.mk #[109, 48])))
 (cond (Nat.beq ((r85l0 (1000 + 0) x0 (ByteArray.mk #[])).1) 0)
  (cond (decide (1 + ((r85l0 (1000 + 0) x0 (ByteArray.mk #[])).2).size ≤ strMax))
   (a85 x0 (0, ((ByteArray.mk #[109]) ++ ((r85l0 (1000 + 0) x0 (ByteArray.mk #[])).2))))
   none)
  none))
set_option maxRecDepth 100000 in
set_option maxHeartbeats 4000000 in
theorem e85 (x0 : Int) : evFn Try.prog ext T45 L85_1 200 Try.f85 [.int .i64 x0] st0 = firstT [((Nat.beq ((r85 x0).1) 0), .string ((r85 x0).2), st0)] :=
 (show evFn Try.prog ext T45 L85_1 200 Try.f85 [.int .i64 x0] st0 = w85 x0 from by kernel_rfl).trans
 (show w85 x0 = a85 x0 (r85 x0) from by unfold w85 r85; exact (cond_app (a85 x0) _ rfl (cond_app (a85 x0) _ (cond_app (a85 x0) _ rfl rfl) rfl)))
noncomputable def s85 (args : List Value) (s : St) : List (Bool × Value × St) :=
 match args, s.h with
 | [.int .i64 x0], [] => [((Nat.beq ((r85 x0).1) 0), .string ((r85 x0).2), st0)]
 | _, _ => T45 85 args s
noncomputable def T46 : CallF := addF T45 85 s85
set_option maxRecDepth 100000 in
set_option maxHeartbeats 4000000 in
theorem ok46 : CfOk Try.prog T46 := by
  refine cfOk_add ok45 fun args s r s' h1 h2 h3 => ?_
  unfold s85 at h3; split at h3
  · rename_i h; exact callOk ok45 Try.func85 h1 h2 h lok85_1.body (e85 _) rfl h3
  · exact ok45 _ _ _ _ _ h1 h2 h3

/-- laws.markStringS, loop 0: one round -/
noncomputable def b58l0 (ih : Int → Int → List ByteArray → (Nat × Int × List ByteArray)) (x0 x1 : Int) (x2 : List ByteArray) : Nat × Int × List ByteArray :=
 cond (decide ((x1 : Int) < ((x2.length : Nat) : Int)))
  (cond (Nat.beq ((r85 x0).1) 0)
   (cond ((decide ((0 : Int) ≤ x1)) && (Nat.blt (Int.toNat x1) x2.length))
    (ih (IntKind.i64.wrap (x0 + 1)) (IntKind.i64.wrap (x1 + 1)) (x2.set (Int.toNat x1) ((r85 x0).2)))
    (1, 0, []))
   (1, 0, []))
  (0, x0, x2)
noncomputable def r58l0 : Nat → Int → Int → List ByteArray → (Nat × Int × List ByteArray)
 | 0 => fun _ _ _ => (1, 0, [])
 | m + 1 => b58l0 (r58l0 m)
noncomputable def a58l0 (x0 x1 : Int) (x2 : List ByteArray) (p : Nat × Int × List ByteArray) : Option (Fin' × List Value × St) := firstT ([((Nat.beq (p.1) 0), .exit 0, [.int .i64 (p.2.1)], ⟨[⟨true, (some (.strs (p.2.2)))⟩], 1, [0]⟩)].map fun (b, x) => (b, (x.1, frameOf 20 [1] x.2.1, x.2.2)))
noncomputable def u58l0 (x0 x1 : Int) (x2 : List ByteArray) (p : Nat × Int × List ByteArray) : Option (Fin' × List Value × St) := alts ([((Nat.beq (p.1) 0), .exit 0, [.int .i64 (p.2.1)], ⟨[⟨true, (some (.strs (p.2.2)))⟩], 1, [0]⟩)].map fun (b, x) => (b, (x.1, frameOf 20 [1] x.2.1, x.2.2))) some
theorem v58l0 (x0 x1 : Int) (x2 : List ByteArray) (p : Nat × Int × List ByteArray) : u58l0 x0 x1 x2 p = a58l0 x0 x1 x2 p := alts_first _
noncomputable def q58l0 (m : Nat) : SumK := fun vals s =>
 match vals, s.h with
 | [.iface f0 .nilIface, .int .i64 x0, .int .i64 x1], [⟨true, some (.strs x2)⟩] => if f0 = 0 then [((Nat.beq ((r58l0 m x0 x1 x2).1) 0), .exit 0, [.int .i64 ((r58l0 m x0 x1 x2).2.1)], ⟨[⟨true, (some (.strs ((r58l0 m x0 x1 x2).2.2)))⟩], 1, [0]⟩)] else noQ vals s
 | _, _ => noQ vals s
noncomputable def w58l0 (ih : Int → Int → List ByteArray → (Nat × Int × List ByteArray)) (x0 x1 : Int) (x2 : List ByteArray) : Option (Fin' × List Value × St) :=
 (cond (decide ((x1 : Int) < ((x2.length : Nat) : Int)))
 (cond (Nat.beq ((r85 x0).1) 0)
  (cond ((decide ((0 : Int) ≤ x1)) && (Nat.blt (Int.toNat x1) x2.length))
   (cond (Nat.blt (Int.toNat x1) x2.length)
    (u58l0 x0 x1 x2 (ih (IntKind.i64.wrap (x0 + 1)) (IntKind.i64.wrap (x1 + 1)) (x2.set (Int.toNat x1) ((r85 x0).2))))
    none)
   none)
  none)
 (a58l0 x0 x1 x2 (0, x0, x2)))
set_option maxRecDepth 100000 in
set_option maxHeartbeats 4000000 in
theorem e58l0 (m : Nat) (x0 x1 : Int) (x2 : List ByteArray) : evC Try.prog ext T46 noL 200 (loopN Try.f58 0) (loopTail ([0, 1, 5], []) [1] [0] (sumK 20 [0, 1, 5] [1] (q58l0 m))) (frameOf 20 [0, 1, 5] [wsl 0, .int .i64 x0, .int .i64 x1]) ⟨[⟨true, (some (.strs x2))⟩], 1, []⟩ = firstT ([((Nat.beq ((r58l0 (m + 1) x0 x1 x2).1) 0), .exit 0, [.int .i64 ((r58l0 (m + 1) x0 x1 x2).2.1)], ⟨[⟨true, (some (.strs ((r58l0 (m + 1) x0 x1 x2).2.2)))⟩], 1, [0]⟩)].map fun (b, x) => (b, (x.1, frameOf 20 [1] x.2.1, x.2.2))) :=
 (show evC Try.prog ext T46 noL 200 (loopN Try.f58 0) (loopTail ([0, 1, 5], []) [1] [0] (sumK 20 [0, 1, 5] [1] (q58l0 m))) (frameOf 20 [0, 1, 5] [wsl 0, .int .i64 x0, .int .i64 x1]) ⟨[⟨true, (some (.strs x2))⟩], 1, []⟩ = w58l0 (r58l0 m) x0 x1 x2 from by kernel_rfl).trans
 (show w58l0 (r58l0 m) x0 x1 x2 = a58l0 x0 x1 x2 (r58l0 (m + 1) x0 x1 x2) from by unfold w58l0; show _ = a58l0 x0 x1 x2 (b58l0 (r58l0 m) x0 x1 x2); unfold b58l0; exact (cond_both (a58l0 x0 x1 x2) _ (fun h0 => (cond_both (a58l0 x0 x1 x2) _ (fun h1 => (cond_both (a58l0 x0 x1 x2) _ (fun h2 => (cond_t (ev_and2 h2) (v58l0 x0 x1 x2 ((r58l0 m) (IntKind.i64.wrap (x0 + 1)) (IntKind.i64.wrap (x1 + 1)) (x2.set (Int.toNat x1) ((r85 x0).2)))))) (fun h2 => rfl))) (fun h1 => rfl))) (fun h0 => rfl)))
set_option maxRecDepth 100000 in
set_option maxHeartbeats 4000000 in
theorem qm58l0 : ∀ m, SumKOk Try.prog (loopN Try.f58 0) 20 [0, 1, 5] [1] (q58l0 m) := by
  intro m
  induction m with
  | zero =>
    intro vals s x h1 h2 h3
    unfold q58l0 at h3; split at h3
    · rename_i h; split at h3
      · rename_i hc; obtain ⟨rfl⟩ := hc; exact absurd h3 (by simp [r58l0, firstT, Nat.beq])
      · exact noQ_ok _ _ _ h1 h2 h3
    · exact noQ_ok _ _ _ h1 h2 h3
  | succ m ih =>
    intro vals s x h1 h2 h3
    unfold q58l0 at h3; split at h3
    · rename_i h; split at h3
      · rename_i hc; obtain ⟨rfl⟩ := hc; exact sum_step ok46 extOk mixed ((lfOkF_no _ _).inner (by kernel_rfl)) ih h1 h2 h (e58l0 m _ _ _) rfl h3
      · exact noQ_ok _ _ _ h1 h2 h3
    · exact noQ_ok _ _ _ h1 h2 h3
noncomputable def Q58l0 : SumK := fun vals s => q58l0 (fuelOf vals s.h) vals s
theorem qok58l0 : SumKOk Try.prog (loopN Try.f58 0) 20 [0, 1, 5] [1] Q58l0 := fuel_ok qm58l0 fuelOf
noncomputable def L58_1 : LoopT := addL noL 3 ([0, 1, 5], []) (sumK 20 [0, 1, 5] [1] Q58l0)
theorem lok58_1 : LfOkF Try.prog L58_1 Try.f58 := lfOkF_add (lfOkF_no _ _) qok58l0 (by kernel_rfl) (by kernel_rfl) (by kernel_rfl)

/-- laws.markStringS -/
noncomputable def r58 (x0 : Int) (x1 : List ByteArray) : Nat × Int × List ByteArray :=
 cond (Nat.beq ((r58l0 (1000 + x1.length) x0 0 x1).1) 0)
  (0, ((r58l0 (1000 + x1.length) x0 0 x1).2.1), ((r58l0 (1000 + x1.length) x0 0 x1).2.2))
  (1, 0, [])
noncomputable def a58 (x0 : Int) (x1 : List ByteArray) (p : Nat × Int × List ByteArray) : Res := firstT [((Nat.beq (p.1) 0), .int .i64 (p.2.1), ⟨[⟨true, (some (.strs (p.2.2)))⟩], 1, [0]⟩)]
noncomputable def w58 (x0 : Int) (x1 : List ByteArray) : Res :=
 (cond (Nat.beq ((r58l0 (1000 + x1.length) x0 0 x1).1) 0)
 (a58 x0 x1 (0, ((r58l0 (1000 + x1.length) x0 0 x1).2.1), ((r58l0 (1000 + x1.length) x0 0 x1).2.2)))
 none)
set_option maxRecDepth 100000 in
set_option maxHeartbeats 4000000 in
theorem e58 (x0 : Int) (x1 : List ByteArray) : evFn Try.prog ext T46 L58_1 200 Try.f58 [wsl 0, .int .i64 x0] ⟨[⟨true, (some (.strs x1))⟩], 1, []⟩ = firstT [((Nat.beq ((r58 x0 x1).1) 0), .int .i64 ((r58 x0 x1).2.1), ⟨[⟨true, (some (.strs ((r58 x0 x1).2.2)))⟩], 1, [0]⟩)] :=
 (show evFn Try.prog ext T46 L58_1 200 Try.f58 [wsl 0, .int .i64 x0] ⟨[⟨true, (some (.strs x1))⟩], 1, []⟩ = w58 x0 x1 from by kernel_rfl).trans
 (show w58 x0 x1 = a58 x0 x1 (r58 x0 x1) from by unfold w58 r58; exact (cond_app (a58 x0 x1) _ rfl rfl))
noncomputable def s58 (args : List Value) (s : St) : List (Bool × Value × St) :=
 match args, s.h with
 | [.iface f0 .nilIface, .int .i64 x0], [⟨true, some (.strs x1)⟩] => if f0 = 0 then [((Nat.beq ((r58 x0 x1).1) 0), .int .i64 ((r58 x0 x1).2.1), ⟨[⟨true, (some (.strs ((r58 x0 x1).2.2)))⟩], 1, [0]⟩)] else T46 58 args s
 | _, _ => T46 58 args s
noncomputable def T47 : CallF := addF T46 58 s58
set_option maxRecDepth 100000 in
set_option maxHeartbeats 4000000 in
theorem ok47 : CfOk Try.prog T47 := by
  refine cfOk_add ok46 fun args s r s' h1 h2 h3 => ?_
  unfold s58 at h3; split at h3
  · rename_i h; split at h3
    · rename_i hc; obtain ⟨rfl⟩ := hc; exact callOk ok46 Try.func58 h1 h2 h lok58_1.body (e58 _ _) rfl h3
    · exact ok46 _ _ _ _ _ h1 h2 h3
  · exact ok46 _ _ _ _ _ h1 h2 h3

/-- laws.markOpS, loop 0: one round -/
noncomputable def b59l0 (ih : Int → Int → List (List Int) → (Nat × Int × List (List Int))) (x0 x1 : Int) (x2 : List (List Int)) : Nat × Int × List (List Int) :=
 cond (decide ((x1 : Int) < ((x2.length : Nat) : Int)))
  (cond ((decide ((0 : Int) ≤ x1)) && (Nat.blt (Int.toNat x1) x2.length))
   (cond ((decide ((0 : Int) ≤ x1)) && (Nat.blt (Int.toNat x1) ((x2.modify (Int.toNat x1) (fun r => spl 3 r 0 [(IntKind.i8.wrap x0)])).length)))
    (cond ((decide ((0 : Int) ≤ x1)) && (Nat.blt (Int.toNat x1) (((x2.modify (Int.toNat x1) (fun r => spl 3 r 0 [(IntKind.i8.wrap x0)])).modify (Int.toNat x1) (fun r => spl 3 r 1 [(IntKind.i16.wrap (IntKind.i64.wrap (x0 + 1)))])).length)))
     (ih (IntKind.i64.wrap ((IntKind.i64.wrap ((IntKind.i64.wrap (x0 + 1)) + 1)) + 1)) (IntKind.i64.wrap (x1 + 1)) (((x2.modify (Int.toNat x1) (fun r => spl 3 r 0 [(IntKind.i8.wrap x0)])).modify (Int.toNat x1) (fun r => spl 3 r 1 [(IntKind.i16.wrap (IntKind.i64.wrap (x0 + 1)))])).modify (Int.toNat x1) (fun r => spl 3 r 2 [(((ofInt .f32 (IntKind.i64.wrap ((IntKind.i64.wrap (x0 + 1)) + 1))) : Nat) : Int)])))
     (1, 0, []))
    (1, 0, []))
   (1, 0, []))
  (0, x0, x2)
noncomputable def r59l0 : Nat → Int → Int → List (List Int) → (Nat × Int × List (List Int))
 | 0 => fun _ _ _ => (1, 0, [])
 | m + 1 => b59l0 (r59l0 m)
noncomputable def a59l0 (x0 x1 : Int) (x2 : List (List Int)) (p : Nat × Int × List (List Int)) : Option (Fin' × List Value × St) := firstT ([((Nat.beq (p.1) 0), .exit 0, [.int .i64 (p.2.1)], ⟨[⟨true, (some (.tab [.int .i8, .int .i16, .fl .f32] (p.2.2)))⟩], 1, [0]⟩)].map fun (b, x) => (b, (x.1, frameOf 37 [1] x.2.1, x.2.2)))
noncomputable def u59l0 (x0 x1 : Int) (x2 : List (List Int)) (p : Nat × Int × List (List Int)) : Option (Fin' × List Value × St) := alts ([((Nat.beq (p.1) 0), .exit 0, [.int .i64 (p.2.1)], ⟨[⟨true, (some (.tab [.int .i8, .int .i16, .fl .f32] (p.2.2)))⟩], 1, [0]⟩)].map fun (b, x) => (b, (x.1, frameOf 37 [1] x.2.1, x.2.2))) some
theorem v59l0 (x0 x1 : Int) (x2 : List (List Int)) (p : Nat × Int × List (List Int)) : u59l0 x0 x1 x2 p = a59l0 x0 x1 x2 p := alts_first _
noncomputable def q59l0 (m : Nat) : SumK := fun vals s =>
 match vals, s.h with
 | [.iface f0 .nilIface, .int .i64 x0, .int .i64 x1], [⟨true, some (.tab [.int .i8, .int .i16, .fl .f32] x2)⟩] => if f0 = 0 then [((Nat.beq ((r59l0 m x0 x1 x2).1) 0), .exit 0, [.int .i64 ((r59l0 m x0 x1 x2).2.1)], ⟨[⟨true, (some (.tab [.int .i8, .int .i16, .fl .f32] ((r59l0 m x0 x1 x2).2.2)))⟩], 1, [0]⟩)] else noQ vals s
 | _, _ => noQ vals s
noncomputable def w59l0 (ih : Int → Int → List (List Int) → (Nat × Int × List (List Int))) (x0 x1 : Int) (x2 : List (List Int)) : Option (Fin' × List Value × St) :=
 (cond (decide ((x1 : Int) < ((x2.length : Nat) : Int)))
 (cond ((decide ((0 : Int) ≤ x1)) && (Nat.blt (Int.toNat x1) x2.length))
  (cond (Nat.blt (Int.toNat x1) x2.length)
   (cond ((decide ((0 : Int) ≤ x1)) && (Nat.blt (Int.toNat x1) ((x2.modify (Int.toNat x1) (fun r => spl 3 r 0 [(IntKind.i8.wrap x0)])).length)))
    (cond (Nat.blt (Int.toNat x1) ((x2.modify (Int.toNat x1) (fun r => spl 3 r 0 [(IntKind.i8.wrap x0)])).length))
     (cond ((decide ((0 : Int) ≤ x1)) && (Nat.blt (Int.toNat x1) (((x2.modify (Int.toNat x1) (fun r => spl 3 r 0 [(IntKind.i8.wrap x0)])).modify (Int.toNat x1) (fun r => spl 3 r 1 [(IntKind.i16.wrap (IntKind.i64.wrap (x0 + 1)))])).length)))
      (cond (Nat.blt (Int.toNat x1) (((x2.modify (Int.toNat x1) (fun r => spl 3 r 0 [(IntKind.i8.wrap x0)])).modify (Int.toNat x1) (fun r => spl 3 r 1 [(IntKind.i16.wrap (IntKind.i64.wrap (x0 + 1)))])).length))
       (u59l0 x0 x1 x2 (ih (IntKind.i64.wrap ((IntKind.i64.wrap ((IntKind.i64.wrap (x0 + 1)) + 1)) + 1)) (IntKind.i64.wrap (x1 + 1)) (((x2.modify (Int.toNat x1) (fun r => spl 3 r 0 [(IntKind.i8.wrap x0)])).modify (Int.toNat x1) (fun r => spl 3 r 1 [(IntKind.i16.wrap (IntKind.i64.wrap (x0 + 1)))])).modify (Int.toNat x1) (fun r => spl 3 r 2 [(((ofInt .f32 (IntKind.i64.wrap ((IntKind.i64.wrap (x0 + 1)) + 1))) : Nat) : Int)]))))
       none)
      none)
     none)
    none)
   none)
  none)
 (a59l0 x0 x1 x2 (0, x0, x2)))
set_option maxRecDepth 100000 in
set_option maxHeartbeats 4000000 in
theorem e59l0 (m : Nat) (x0 x1 : Int) (x2 : List (List Int)) : evC Try.prog ext T47 noL 200 (loopN Try.f59 0) (loopTail ([0, 1, 5], []) [1] [0] (sumK 37 [0, 1, 5] [1] (q59l0 m))) (frameOf 37 [0, 1, 5] [wsl 0, .int .i64 x0, .int .i64 x1]) ⟨[⟨true, (some (.tab [.int .i8, .int .i16, .fl .f32] x2))⟩], 1, []⟩ = firstT ([((Nat.beq ((r59l0 (m + 1) x0 x1 x2).1) 0), .exit 0, [.int .i64 ((r59l0 (m + 1) x0 x1 x2).2.1)], ⟨[⟨true, (some (.tab [.int .i8, .int .i16, .fl .f32] ((r59l0 (m + 1) x0 x1 x2).2.2)))⟩], 1, [0]⟩)].map fun (b, x) => (b, (x.1, frameOf 37 [1] x.2.1, x.2.2))) :=
 (show evC Try.prog ext T47 noL 200 (loopN Try.f59 0) (loopTail ([0, 1, 5], []) [1] [0] (sumK 37 [0, 1, 5] [1] (q59l0 m))) (frameOf 37 [0, 1, 5] [wsl 0, .int .i64 x0, .int .i64 x1]) ⟨[⟨true, (some (.tab [.int .i8, .int .i16, .fl .f32] x2))⟩], 1, []⟩ = w59l0 (r59l0 m) x0 x1 x2 from by kernel_rfl).trans
 (show w59l0 (r59l0 m) x0 x1 x2 = a59l0 x0 x1 x2 (r59l0 (m + 1) x0 x1 x2) from by unfold w59l0; show _ = a59l0 x0 x1 x2 (b59l0 (r59l0 m) x0 x1 x2); unfold b59l0; exact (cond_both (a59l0 x0 x1 x2) _ (fun h0 => (cond_both (a59l0 x0 x1 x2) _ (fun h1 => (cond_t (ev_and2 h1) (cond_both (a59l0 x0 x1 x2) _ (fun h2 => (cond_t (ev_and2 h2) (cond_both (a59l0 x0 x1 x2) _ (fun h3 => (cond_t (ev_and2 h3) (v59l0 x0 x1 x2 ((r59l0 m) (IntKind.i64.wrap ((IntKind.i64.wrap ((IntKind.i64.wrap (x0 + 1)) + 1)) + 1)) (IntKind.i64.wrap (x1 + 1)) (((x2.modify (Int.toNat x1) (fun r => spl 3 r 0 [(IntKind.i8.wrap x0)])).modify (Int.toNat x1) (fun r => spl 3 r 1 [(IntKind.i16.wrap (IntKind.i64.wrap (x0 + 1)))])).modify (Int.toNat x1) (fun r => spl 3 r 2 [(((ofInt .f32 (IntKind.i64.wrap ((IntKind.i64.wrap (x0 + 1)) + 1))) : Nat) : Int)])))))) (fun h3 => rfl)))) (fun h2 => rfl)))) (fun h1 => rfl))) (fun h0 => rfl)))
set_option maxRecDepth 100000 in
set_option maxHeartbeats 4000000 in
theorem qm59l0 : ∀ m, SumKOk Try.prog (loopN Try.f59 0) 37 [0, 1, 5] [1] (q59l0 m) := by
  intro m
  induction m with
  | zero =>
    intro vals s x h1 h2 h3
    unfold q59l0 at h3; split at h3
    · rename_i h; split at h3
      · rename_i hc; obtain ⟨rfl⟩ := hc; exact absurd h3 (by simp [r59l0, firstT, Nat.beq])
      · exact noQ_ok _ _ _ h1 h2 h3
    · exact noQ_ok _ _ _ h1 h2 h3
  | succ m ih =>
    intro vals s x h1 h2 h3
    unfold q59l0 at h3; split at h3
    · rename_i h; split at h3
      · rename_i hc; obtain ⟨rfl⟩ := hc; exact sum_step ok47 extOk mixed ((lfOkF_no _ _).inner (by kernel_rfl)) ih h1 h2 h (e59l0 m _ _ _) rfl h3
      · exact noQ_ok _ _ _ h1 h2 h3
    · exact noQ_ok _ _ _ h1 h2 h3
noncomputable def Q59l0 : SumK := fun vals s => q59l0 (fuelOf vals s.h) vals s
theorem qok59l0 : SumKOk Try.prog (loopN Try.f59 0) 37 [0, 1, 5] [1] Q59l0 := fuel_ok qm59l0 fuelOf
noncomputable def L59_1 : LoopT := addL noL 3 ([0, 1, 5], []) (sumK 37 [0, 1, 5] [1] Q59l0)
theorem lok59_1 : LfOkF Try.prog L59_1 Try.f59 := lfOkF_add (lfOkF_no _ _) qok59l0 (by kernel_rfl) (by kernel_rfl) (by kernel_rfl)

/-- laws.markOpS -/
noncomputable def r59 (x0 : Int) (x1 : List (List Int)) : Nat × Int × List (List Int) :=
 cond (Nat.beq ((r59l0 (1000 + x1.length) x0 0 x1).1) 0)
  (0, ((r59l0 (1000 + x1.length) x0 0 x1).2.1), ((r59l0 (1000 + x1.length) x0 0 x1).2.2))
  (1, 0, [])
noncomputable def a59 (x0 : Int) (x1 : List (List Int)) (p : Nat × Int × List (List Int)) : Res := firstT [((Nat.beq (p.1) 0), .int .i64 (p.2.1), ⟨[⟨true, (some (.tab [.int .i8, .int .i16, .fl .f32] (p.2.2)))⟩], 1, [0]⟩)]
noncomputable def w59 (x0 : Int) (x1 : List (List Int)) : Res :=
 (cond (Nat.beq ((r59l0 (1000 + x1.length) x0 0 x1).1) 0)
 (a59 x0 x1 (0, ((r59l0 (1000 + x1.length) x0 0 x1).2.1), ((r59l0 (1000 + x1.length) x0 0 x1).2.2)))
 none)
set_option maxRecDepth 100000 in
set_option maxHeartbeats 4000000 in
theorem e59 (x0 : Int) (x1 : List (List Int)) : evFn Try.prog ext T47 L59_1 200 Try.f59 [wsl 0, .int .i64 x0] ⟨[⟨true, (some (.tab [.int .i8, .int .i16, .fl .f32] x1))⟩], 1, []⟩ = firstT [((Nat.beq ((r59 x0 x1).1) 0), .int .i64 ((r59 x0 x1).2.1), ⟨[⟨true, (some (.tab [.int .i8, .int .i16, .fl .f32] ((r59 x0 x1).2.2)))⟩], 1, [0]⟩)] :=
 (show evFn Try.prog ext T47 L59_1 200 Try.f59 [wsl 0, .int .i64 x0] ⟨[⟨true, (some (.tab [.int .i8, .int .i16, .fl .f32] x1))⟩], 1, []⟩ = w59 x0 x1 from by kernel_rfl).trans
 (show w59 x0 x1 = a59 x0 x1 (r59 x0 x1) from by unfold w59 r59; exact (cond_app (a59 x0 x1) _ rfl rfl))
noncomputable def s59 (args : List Value) (s : St) : List (Bool × Value × St) :=
 match args, s.h with
 | [.iface f0 .nilIface, .int .i64 x0], [⟨true, some (.tab [.int .i8, .int .i16, .fl .f32] x1)⟩] => if f0 = 0 then [((Nat.beq ((r59 x0 x1).1) 0), .int .i64 ((r59 x0 x1).2.1), ⟨[⟨true, (some (.tab [.int .i8, .int .i16, .fl .f32] ((r59 x0 x1).2.2)))⟩], 1, [0]⟩)] else T47 59 args s
 | _, _ => T47 59 args s
noncomputable def T48 : CallF := addF T47 59 s59
set_option maxRecDepth 100000 in
set_option maxHeartbeats 4000000 in
theorem ok48 : CfOk Try.prog T48 := by
  refine cfOk_add ok47 fun args s r s' h1 h2 h3 => ?_
  unfold s59 at h3; split at h3
  · rename_i h; split at h3
    · rename_i hc; obtain ⟨rfl⟩ := hc; exact callOk ok47 Try.func59 h1 h2 h lok59_1.body (e59 _ _) rfl h3
    · exact ok47 _ _ _ _ _ h1 h2 h3
  · exact ok47 _ _ _ _ _ h1 h2 h3

/-- laws.markProgram -/
noncomputable def r24 (x0 : Int) (x1 : List ByteArray) (x2 : List (List Int)) : Nat × Int × List ByteArray × List (List Int) :=
 cond (Nat.beq ((r58 x0 x1).1) 0)
  (cond (Nat.beq ((r59 ((r58 x0 x1).2.1) x2).1) 0)
   (0, ((r59 ((r58 x0 x1).2.1) x2).2.1), ((r58 x0 x1).2.2), ((r59 ((r58 x0 x1).2.1) x2).2.2))
   (1, 0, [], []))
  (1, 0, [], [])
noncomputable def a24 (x0 : Int) (x1 : List ByteArray) (x2 : List (List Int)) (p : Nat × Int × List ByteArray × List (List Int)) : Res := firstT [((Nat.beq (p.1) 0), .int .i64 (p.2.1), ⟨[⟨true, (some (.strs (p.2.2.1)))⟩, ⟨true, (some (.tab [.int .i8, .int .i16, .fl .f32] (p.2.2.2)))⟩], 2, [0, 1]⟩)]
noncomputable def w24 (x0 : Int) (x1 : List ByteArray) (x2 : List (List Int)) : Res :=
 (cond (Nat.beq ((r58 x0 x1).1) 0)
 (cond (Nat.beq ((r59 ((r58 x0 x1).2.1) x2).1) 0)
  (a24 x0 x1 x2 (0, ((r59 ((r58 x0 x1).2.1) x2).2.1), ((r58 x0 x1).2.2), ((r59 ((r58 x0 x1).2.1) x2).2.2)))
  none)
 none)
set_option maxRecDepth 100000 in
set_option maxHeartbeats 4000000 in
theorem e24 (x0 : Int) (x1 : List ByteArray) (x2 : List (List Int)) : evFn Try.prog ext T48 noL 200 Try.f24 [.agg #[wsl 0, wsl 1], .int .i64 x0] ⟨[⟨true, (some (.strs x1))⟩, ⟨true, (some (.tab [.int .i8, .int .i16, .fl .f32] x2))⟩], 2, []⟩ = firstT [((Nat.beq ((r24 x0 x1 x2).1) 0), .int .i64 ((r24 x0 x1 x2).2.1), ⟨[⟨true, (some (.strs ((r24 x0 x1 x2).2.2.1)))⟩, ⟨true, (some (.tab [.int .i8, .int .i16, .fl .f32] ((r24 x0 x1 x2).2.2.2)))⟩], 2, [0, 1]⟩)] :=
 (show evFn Try.prog ext T48 noL 200 Try.f24 [.agg #[wsl 0, wsl 1], .int .i64 x0] ⟨[⟨true, (some (.strs x1))⟩, ⟨true, (some (.tab [.int .i8, .int .i16, .fl .f32] x2))⟩], 2, []⟩ = w24 x0 x1 x2 from by kernel_rfl).trans
 (show w24 x0 x1 x2 = a24 x0 x1 x2 (r24 x0 x1 x2) from by unfold w24 r24; exact (cond_app (a24 x0 x1 x2) _ (cond_app (a24 x0 x1 x2) _ rfl rfl) rfl))
noncomputable def s24 (args : List Value) (s : St) : List (Bool × Value × St) :=
 match args, s.h with
 | [.agg ⟨[.iface f0 .nilIface, .iface f1 .nilIface]⟩, .int .i64 x0], [⟨true, some (.strs x1)⟩, ⟨true, some (.tab [.int .i8, .int .i16, .fl .f32] x2)⟩] => if f0 = 0 ∧ f1 = 1 then [((Nat.beq ((r24 x0 x1 x2).1) 0), .int .i64 ((r24 x0 x1 x2).2.1), ⟨[⟨true, (some (.strs ((r24 x0 x1 x2).2.2.1)))⟩, ⟨true, (some (.tab [.int .i8, .int .i16, .fl .f32] ((r24 x0 x1 x2).2.2.2)))⟩], 2, [0, 1]⟩)] else T48 24 args s
 | _, _ => T48 24 args s
noncomputable def T49 : CallF := addF T48 24 s24
set_option maxRecDepth 100000 in
set_option maxHeartbeats 4000000 in
theorem ok49 : CfOk Try.prog T49 := by
  refine cfOk_add ok48 fun args s r s' h1 h2 h3 => ?_
  unfold s24 at h3; split at h3
  · rename_i h; split at h3
    · rename_i hc; obtain ⟨rfl, rfl⟩ := hc; exact callOk ok48 Try.func24 h1 h2 h (lfOkF_no _ _).body (e24 _ _ _) rfl h3
    · exact ok48 _ _ _ _ _ h1 h2 h3
  · exact ok48 _ _ _ _ _ h1 h2 h3

/-- laws.markFloat32S, loop 0 -/
noncomputable def r25l0 (x0 : Int) : Unit :=
 ()
noncomputable def a25l0 (x0 : Int) (p : Unit) : Option (Fin' × List Value × St) := firstT ([(true, .exit 0, [.int .i64 x0], st0)].map fun (b, x) => (b, (x.1, frameOf 20 [1] x.2.1, x.2.2)))
noncomputable def w25l0 (x0 : Int) : Option (Fin' × List Value × St) :=
 (a25l0 x0 ())
set_option maxRecDepth 100000 in
set_option maxHeartbeats 4000000 in
theorem e25l0 (x0 : Int) : evC Try.prog ext T49 noL 200 (loopN Try.f25 0) (loopTail ([0, 1, 5], []) [1] [] (sumK 20 [0, 1, 5] [1] noQ)) (frameOf 20 [0, 1, 5] [.slice none 0 0, .int .i64 x0, .int .i64 0]) ⟨[], 0, []⟩ = firstT ([(true, .exit 0, [.int .i64 x0], st0)].map fun (b, x) => (b, (x.1, frameOf 20 [1] x.2.1, x.2.2))) :=
 (show evC Try.prog ext T49 noL 200 (loopN Try.f25 0) (loopTail ([0, 1, 5], []) [1] [] (sumK 20 [0, 1, 5] [1] noQ)) (frameOf 20 [0, 1, 5] [.slice none 0 0, .int .i64 x0, .int .i64 0]) ⟨[], 0, []⟩ = w25l0 x0 from by kernel_rfl).trans
 (show w25l0 x0 = a25l0 x0 (r25l0 x0) from by unfold w25l0 r25l0; exact rfl)
noncomputable def Q25l0 : SumK := fun vals s =>
 match vals, s.h with
 | [.slice none f0 f1, .int .i64 x0, .int .i64 f2], [] => if f0 = 0 ∧ f1 = 0 ∧ f2 = 0 then [(true, .exit 0, [.int .i64 x0], st0)] else noQ vals s
 | _, _ => noQ vals s
set_option maxRecDepth 100000 in
set_option maxHeartbeats 4000000 in
theorem qok25l0 : SumKOk Try.prog (loopN Try.f25 0) 20 [0, 1, 5] [1] Q25l0 := by
  intro vals s x h1 h2 h3
  unfold Q25l0 at h3; split at h3
  · rename_i h; split at h3
    · rename_i hc; obtain ⟨rfl, rfl, rfl⟩ := hc; exact sum_step ok49 extOk mixed ((lfOkF_no _ _).inner (by kernel_rfl)) noQ_ok h1 h2 h (e25l0 _) rfl h3
    · exact noQ_ok _ _ _ h1 h2 h3
  · exact noQ_ok _ _ _ h1 h2 h3
noncomputable def L25_1 : LoopT := addL noL 3 ([0, 1, 5], []) (sumK 20 [0, 1, 5] [1] Q25l0)
theorem lok25_1 : LfOkF Try.prog L25_1 Try.f25 := lfOkF_add (lfOkF_no _ _) qok25l0 (by kernel_rfl) (by kernel_rfl) (by kernel_rfl)

/-- laws.markFloat32S -/
noncomputable def r25 (x0 : Int) : Unit :=
 ()
noncomputable def a25 (x0 : Int) (p : Unit) : Res := firstT [(true, .int .i64 x0, st0)]
noncomputable def w25 (x0 : Int) : Res :=
 (a25 x0 ())
set_option maxRecDepth 100000 in
set_option maxHeartbeats 4000000 in
theorem e25 (x0 : Int) : evFn Try.prog ext T49 L25_1 200 Try.f25 [.slice none 0 0, .int .i64 x0] st0 = firstT [(true, .int .i64 x0, st0)] :=
 (show evFn Try.prog ext T49 L25_1 200 Try.f25 [.slice none 0 0, .int .i64 x0] st0 = w25 x0 from by kernel_rfl).trans
 (show w25 x0 = a25 x0 (r25 x0) from by unfold w25 r25; exact rfl)
noncomputable def s25 (args : List Value) (s : St) : List (Bool × Value × St) :=
 match args, s.h with
 | [.slice none f0 f1, .int .i64 x0], [] => if f0 = 0 ∧ f1 = 0 then [(true, .int .i64 x0, st0)] else T49 25 args s
 | _, _ => T49 25 args s
noncomputable def T50 : CallF := addF T49 25 s25
set_option maxRecDepth 100000 in
set_option maxHeartbeats 4000000 in
theorem ok50 : CfOk Try.prog T50 := by
  refine cfOk_add ok49 fun args s r s' h1 h2 h3 => ?_
  unfold s25 at h3; split at h3
  · rename_i h; split at h3
    · rename_i hc; obtain ⟨rfl, rfl⟩ := hc; exact callOk ok49 Try.func25 h1 h2 h lok25_1.body (e25 _) rfl h3
    · exact ok49 _ _ _ _ _ h1 h2 h3
  · exact ok49 _ _ _ _ _ h1 h2 h3

/-- laws.heldFloat32S, loop 0 -/
noncomputable def r26l0 (x0 : Int) : Unit :=
 ()
noncomputable def a26l0 (x0 : Int) (p : Unit) : Option (Fin' × List Value × St) := firstT ([(true, .exit 0, [.int .i64 x0, anyV], st0)].map fun (b, x) => (b, (x.1, frameOf 22 [1, 4] x.2.1, x.2.2)))
noncomputable def w26l0 (x0 : Int) : Option (Fin' × List Value × St) :=
 (a26l0 x0 ())
set_option maxRecDepth 100000 in
set_option maxHeartbeats 4000000 in
theorem e26l0 (x0 : Int) : evC Try.prog ext T50 noL 200 (loopN Try.f26 0) (loopTail ([0, 1, 5], []) [1, 4] [] (sumK 22 [0, 1, 5] [1, 4] noQ)) (frameOf 22 [0, 1, 5] [.slice none 0 0, .int .i64 x0, .int .i64 0]) ⟨[], 0, []⟩ = firstT ([(true, .exit 0, [.int .i64 x0, anyV], st0)].map fun (b, x) => (b, (x.1, frameOf 22 [1, 4] x.2.1, x.2.2))) :=
 (show evC Try.prog ext T50 noL 200 (loopN Try.f26 0) (loopTail ([0, 1, 5], []) [1, 4] [] (sumK 22 [0, 1, 5] [1, 4] noQ)) (frameOf 22 [0, 1, 5] [.slice none 0 0, .int .i64 x0, .int .i64 0]) ⟨[], 0, []⟩ = w26l0 x0 from by kernel_rfl).trans
 (show w26l0 x0 = a26l0 x0 (r26l0 x0) from by unfold w26l0 r26l0; exact rfl)
noncomputable def Q26l0 : SumK := fun vals s =>
 match vals, s.h with
 | [.slice none f0 f1, .int .i64 x0, .int .i64 f2], [] => if f0 = 0 ∧ f1 = 0 ∧ f2 = 0 then [(true, .exit 0, [.int .i64 x0, anyV], st0)] else noQ vals s
 | _, _ => noQ vals s
set_option maxRecDepth 100000 in
set_option maxHeartbeats 4000000 in
theorem qok26l0 : SumKOk Try.prog (loopN Try.f26 0) 22 [0, 1, 5] [1, 4] Q26l0 := by
  intro vals s x h1 h2 h3
  unfold Q26l0 at h3; split at h3
  · rename_i h; split at h3
    · rename_i hc; obtain ⟨rfl, rfl, rfl⟩ := hc; exact sum_step ok50 extOk mixed ((lfOkF_no _ _).inner (by kernel_rfl)) noQ_ok h1 h2 h (e26l0 _) rfl h3
    · exact noQ_ok _ _ _ h1 h2 h3
  · exact noQ_ok _ _ _ h1 h2 h3
noncomputable def L26_1 : LoopT := addL noL 3 ([0, 1, 5], []) (sumK 22 [0, 1, 5] [1, 4] Q26l0)
theorem lok26_1 : LfOkF Try.prog L26_1 Try.f26 := lfOkF_add (lfOkF_no _ _) qok26l0 (by kernel_rfl) (by kernel_rfl) (by kernel_rfl)

/-- laws.heldFloat32S -/
noncomputable def r26 (x0 : Int) : Unit :=
 ()
noncomputable def a26 (x0 : Int) (p : Unit) : Res := firstT [(true, .int .i64 x0, st0)]
noncomputable def w26 (x0 : Int) : Res :=
 (a26 x0 ())
set_option maxRecDepth 100000 in
set_option maxHeartbeats 4000000 in
theorem e26 (x0 : Int) : evFn Try.prog ext T50 L26_1 200 Try.f26 [.slice none 0 0, .int .i64 x0] st0 = firstT [(true, .int .i64 x0, st0)] :=
 (show evFn Try.prog ext T50 L26_1 200 Try.f26 [.slice none 0 0, .int .i64 x0] st0 = w26 x0 from by kernel_rfl).trans
 (show w26 x0 = a26 x0 (r26 x0) from by unfold w26 r26; exact rfl)
noncomputable def s26 (args : List Value) (s : St) : List (Bool × Value × St) :=
 match args, s.h with
 | [.slice none f0 f1, .int .i64 x0], [] => if f0 = 0 ∧ f1 = 0 then [(true, .int .i64 x0, st0)] else T50 26 args s
 | _, _ => T50 26 args s
noncomputable def T51 : CallF := addF T50 26 s26
set_option maxRecDepth 100000 in
set_option maxHeartbeats 4000000 in
theorem ok51 : CfOk Try.prog T51 := by
  refine cfOk_add ok50 fun args s r s' h1 h2 h3 => ?_
  unfold s26 at h3; split at h3
  · rename_i h; split at h3
    · rename_i hc; obtain ⟨rfl, rfl⟩ := hc; exact callOk ok50 Try.func26 h1 h2 h lok26_1.body (e26 _) rfl h3
    · exact ok50 _ _ _ _ _ h1 h2 h3
  · exact ok50 _ _ _ _ _ h1 h2 h3

/-- laws.eqFloat32S, loop 0: one round -/
noncomputable def b23l0b (ih : Int → List (List Int) → List (List Int) → Nat) (x0 : Int) (x1 x2 : List (List Int)) : Nat :=
 let c70 := (r20 (widen (Int.toNat ((x1.getD (Int.toNat x0) []).getD 0 0))) (widen (Int.toNat ((x2.getD (Int.toNat x0) []).getD 0 0))))
 cond (decide ((x0 : Int) < ((x1.length : Nat) : Int)))
  (cond ((decide ((0 : Int) ≤ x0)) && (Nat.blt (Int.toNat x0) x1.length))
   (cond ((decide ((0 : Int) ≤ x0)) && (Nat.blt (Int.toNat x0) x2.length))
    (cond (!c70)
     (0)
     (ih (IntKind.i64.wrap (x0 + 1)) x1 x2))
    (2))
   (2))
  (1)
noncomputable def r23l0b : Nat → Int → List (List Int) → List (List Int) → Nat
 | 0 => fun _ _ _ => (2)
 | m + 1 => b23l0b (r23l0b m)
noncomputable def a23l0b (x0 : Int) (x1 x2 : List (List Int)) (p : Nat) : Option (Fin' × List Value × St) := firstT ([((Nat.beq p 0), .ret, [.bool false], ⟨[⟨true, (some (.tab [.fl .f32] x1))⟩, ⟨true, (some (.tab [.fl .f32] x2))⟩], 2, []⟩), ((Nat.beq p 1), .exit 0, [anyV], ⟨[⟨true, (some (.tab [.fl .f32] x1))⟩, ⟨true, (some (.tab [.fl .f32] x2))⟩], 2, []⟩)].map fun (b, x) => (b, (x.1, frameOf 29 [4] x.2.1, x.2.2)))
noncomputable def u23l0b (x0 : Int) (x1 x2 : List (List Int)) (p : Nat) : Option (Fin' × List Value × St) := alts ([((Nat.beq p 0), .ret, [.bool false], ⟨[⟨true, (some (.tab [.fl .f32] x1))⟩, ⟨true, (some (.tab [.fl .f32] x2))⟩], 2, []⟩), ((Nat.beq p 1), .exit 0, [anyV], ⟨[⟨true, (some (.tab [.fl .f32] x1))⟩, ⟨true, (some (.tab [.fl .f32] x2))⟩], 2, []⟩)].map fun (b, x) => (b, (x.1, frameOf 29 [4] x.2.1, x.2.2))) some
theorem v23l0b (x0 : Int) (x1 x2 : List (List Int)) (p : Nat) : u23l0b x0 x1 x2 p = a23l0b x0 x1 x2 p := alts_first _
noncomputable def q23l0b (m : Nat) : SumK := fun vals s =>
 match vals, s.h with
 | [.iface f0 .nilIface, .iface f1 .nilIface, .int .i64 x0], [⟨true, some (.tab [.fl .f32] x1)⟩, ⟨true, some (.tab [.fl .f32] x2)⟩] => if f0 = 0 ∧ f1 = 1 then [((Nat.beq (r23l0b m x0 x1 x2) 0), .ret, [.bool false], ⟨[⟨true, (some (.tab [.fl .f32] x1))⟩, ⟨true, (some (.tab [.fl .f32] x2))⟩], 2, []⟩), ((Nat.beq (r23l0b m x0 x1 x2) 1), .exit 0, [anyV], ⟨[⟨true, (some (.tab [.fl .f32] x1))⟩, ⟨true, (some (.tab [.fl .f32] x2))⟩], 2, []⟩)] else Q23l0 vals s
 | _, _ => Q23l0 vals s
noncomputable def w23l0b (ih : Int → List (List Int) → List (List Int) → Nat) (x0 : Int) (x1 x2 : List (List Int)) : Option (Fin' × List Value × St) :=
 let c70 := (r20 (widen (Int.toNat ((x1.getD (Int.toNat x0) []).getD 0 0))) (widen (Int.toNat ((x2.getD (Int.toNat x0) []).getD 0 0))))
 (cond (decide ((x0 : Int) < ((x1.length : Nat) : Int)))
 (cond ((decide ((0 : Int) ≤ x0)) && (Nat.blt (Int.toNat x0) x1.length))
  (cond (Nat.blt (Int.toNat x0) x1.length)
   (cond ((decide ((0 : Int) ≤ x0)) && (Nat.blt (Int.toNat x0) x2.length))
    (cond (Nat.blt (Int.toNat x0) x2.length)
     (cond (!c70)
      (a23l0b x0 x1 x2 (0))
      (u23l0b x0 x1 x2 (ih (IntKind.i64.wrap (x0 + 1)) x1 x2)))
     none)
    none)
   none)
  none)
 (a23l0b x0 x1 x2 (1)))
set_option maxRecDepth 100000 in
set_option maxHeartbeats 4000000 in
theorem e23l0b (m : Nat) (x0 : Int) (x1 x2 : List (List Int)) : evC Try.prog ext T51 L23_1 200 (loopN Try.f23 0) (loopTail ([0, 1, 5], []) [4] [] (sumK 29 [0, 1, 5] [4] (q23l0b m))) (frameOf 29 [0, 1, 5] [wsl 0, wsl 1, .int .i64 x0]) ⟨[⟨true, (some (.tab [.fl .f32] x1))⟩, ⟨true, (some (.tab [.fl .f32] x2))⟩], 2, []⟩ = firstT ([((Nat.beq (r23l0b (m + 1) x0 x1 x2) 0), .ret, [.bool false], ⟨[⟨true, (some (.tab [.fl .f32] x1))⟩, ⟨true, (some (.tab [.fl .f32] x2))⟩], 2, []⟩), ((Nat.beq (r23l0b (m + 1) x0 x1 x2) 1), .exit 0, [anyV], ⟨[⟨true, (some (.tab [.fl .f32] x1))⟩, ⟨true, (some (.tab [.fl .f32] x2))⟩], 2, []⟩)].map fun (b, x) => (b, (x.1, frameOf 29 [4] x.2.1, x.2.2))) :=
 (show evC Try.prog ext T51 L23_1 200 (loopN Try.f23 0) (loopTail ([0, 1, 5], []) [4] [] (sumK 29 [0, 1, 5] [4] (q23l0b m))) (frameOf 29 [0, 1, 5] [wsl 0, wsl 1, .int .i64 x0]) ⟨[⟨true, (some (.tab [.fl .f32] x1))⟩, ⟨true, (some (.tab [.fl .f32] x2))⟩], 2, []⟩ = w23l0b (r23l0b m) x0 x1 x2 from by kernel_rfl).trans
 (show w23l0b (r23l0b m) x0 x1 x2 = a23l0b x0 x1 x2 (r23l0b (m + 1) x0 x1 x2) from by unfold w23l0b; show _ = a23l0b x0 x1 x2 (b23l0b (r23l0b m) x0 x1 x2); unfold b23l0b; exact (cond_both (a23l0b x0 x1 x2) _ (fun h0 => (cond_both (a23l0b x0 x1 x2) _ (fun h1 => (cond_t (ev_and2 h1) (cond_both (a23l0b x0 x1 x2) _ (fun h2 => (cond_t (ev_and2 h2) (cond_app (a23l0b x0 x1 x2) _ rfl (v23l0b x0 x1 x2 ((r23l0b m) (IntKind.i64.wrap (x0 + 1)) x1 x2))))) (fun h2 => rfl)))) (fun h1 => rfl))) (fun h0 => rfl)))
set_option maxRecDepth 100000 in
set_option maxHeartbeats 4000000 in
theorem qm23l0b : ∀ m, SumKOk Try.prog (loopN Try.f23 0) 29 [0, 1, 5] [4] (q23l0b m) := by
  intro m
  induction m with
  | zero =>
    intro vals s x h1 h2 h3
    unfold q23l0b at h3; split at h3
    · rename_i h; split at h3
      · rename_i hc; obtain ⟨rfl, rfl⟩ := hc; exact absurd h3 (by simp [r23l0b, firstT, Nat.beq])
      · exact qok23l0 _ _ _ h1 h2 h3
    · exact qok23l0 _ _ _ h1 h2 h3
  | succ m ih =>
    intro vals s x h1 h2 h3
    unfold q23l0b at h3; split at h3
    · rename_i h; split at h3
      · rename_i hc; obtain ⟨rfl, rfl⟩ := hc; exact sum_step ok51 extOk mixed (lok23_1.inner (by kernel_rfl)) ih h1 h2 h (e23l0b m _ _ _) rfl h3
      · exact qok23l0 _ _ _ h1 h2 h3
    · exact qok23l0 _ _ _ h1 h2 h3
noncomputable def Q23l0b : SumK := fun vals s => q23l0b (fuelOf vals s.h) vals s
theorem qok23l0b : SumKOk Try.prog (loopN Try.f23 0) 29 [0, 1, 5] [4] Q23l0b := fuel_ok qm23l0b fuelOf
noncomputable def L23_2 : LoopT := addL L23_1 5 ([0, 1, 5], []) (sumK 29 [0, 1, 5] [4] Q23l0b)
theorem lok23_2 : LfOkF Try.prog L23_2 Try.f23 := lfOkF_add lok23_1 qok23l0b (by kernel_rfl) (by kernel_rfl) (by kernel_rfl)

/-- laws.eqFloat32S -/
noncomputable def r23b (x0 x1 : List (List Int)) : Nat × Bool :=
 cond ((((x0.length : Nat) : Int) : Int) != ((x1.length : Nat) : Int))
  (0, false)
  (cond (Nat.beq (r23l0b (1000 + x1.length + x0.length) 0 x0 x1) 0)
   (0, false)
   (cond (Nat.beq (r23l0b (1000 + x1.length + x0.length) 0 x0 x1) 1)
    (0, true)
    (1, false)))
noncomputable def a23b (x0 x1 : List (List Int)) (p : Nat × Bool) : Res := firstT [((Nat.beq (p.1) 0), .bool (p.2), ⟨[⟨true, (some (.tab [.fl .f32] x0))⟩, ⟨true, (some (.tab [.fl .f32] x1))⟩], 2, []⟩)]
noncomputable def w23b (x0 x1 : List (List Int)) : Res :=
 (cond ((((x0.length : Nat) : Int) : Int) != ((x1.length : Nat) : Int))
 (a23b x0 x1 (0, false))
 (cond (Nat.beq (r23l0b (1000 + x1.length + x0.length) 0 x0 x1) 0)
  (a23b x0 x1 (0, false))
  (cond (Nat.beq (r23l0b (1000 + x1.length + x0.length) 0 x0 x1) 1)
   (a23b x0 x1 (0, true))
   none)))
set_option maxRecDepth 100000 in
set_option maxHeartbeats 4000000 in
theorem e23b (x0 x1 : List (List Int)) : evFn Try.prog ext T51 L23_2 200 Try.f23 [wsl 0, wsl 1] ⟨[⟨true, (some (.tab [.fl .f32] x0))⟩, ⟨true, (some (.tab [.fl .f32] x1))⟩], 2, []⟩ = firstT [((Nat.beq ((r23b x0 x1).1) 0), .bool ((r23b x0 x1).2), ⟨[⟨true, (some (.tab [.fl .f32] x0))⟩, ⟨true, (some (.tab [.fl .f32] x1))⟩], 2, []⟩)] :=
 (show evFn Try.prog ext T51 L23_2 200 Try.f23 [wsl 0, wsl 1] ⟨[⟨true, (some (.tab [.fl .f32] x0))⟩, ⟨true, (some (.tab [.fl .f32] x1))⟩], 2, []⟩ = w23b x0 x1 from by kernel_rfl).trans
 (show w23b x0 x1 = a23b x0 x1 (r23b x0 x1) from by unfold w23b r23b; exact (cond_app (a23b x0 x1) _ rfl (cond_app (a23b x0 x1) _ rfl (cond_app (a23b x0 x1) _ rfl rfl))))
noncomputable def s23b (args : List Value) (s : St) : List (Bool × Value × St) :=
 match args, s.h with
 | [.iface f0 .nilIface, .iface f1 .nilIface], [⟨true, some (.tab [.fl .f32] x0)⟩, ⟨true, some (.tab [.fl .f32] x1)⟩] => if f0 = 0 ∧ f1 = 1 then [((Nat.beq ((r23b x0 x1).1) 0), .bool ((r23b x0 x1).2), ⟨[⟨true, (some (.tab [.fl .f32] x0))⟩, ⟨true, (some (.tab [.fl .f32] x1))⟩], 2, []⟩)] else T51 23 args s
 | _, _ => T51 23 args s
noncomputable def T52 : CallF := addF T51 23 s23b
set_option maxRecDepth 100000 in
set_option maxHeartbeats 4000000 in
theorem ok52 : CfOk Try.prog T52 := by
  refine cfOk_add ok51 fun args s r s' h1 h2 h3 => ?_
  unfold s23b at h3; split at h3
  · rename_i h; split at h3
    · rename_i hc; obtain ⟨rfl, rfl⟩ := hc; exact callOk ok51 Try.func23 h1 h2 h lok23_2.body (e23b _ _) rfl h3
    · exact ok51 _ _ _ _ _ h1 h2 h3
  · exact ok51 _ _ _ _ _ h1 h2 h3

/-- laws.markFloat32S, loop 0: one round -/
noncomputable def b25l0b (ih : Int → Int → List (List Int) → (Nat × Int × List (List Int))) (x0 x1 : Int) (x2 : List (List Int)) : Nat × Int × List (List Int) :=
 cond (decide ((x1 : Int) < ((x2.length : Nat) : Int)))
  (cond ((decide ((0 : Int) ≤ x1)) && (Nat.blt (Int.toNat x1) x2.length))
   (ih (IntKind.i64.wrap (x0 + 1)) (IntKind.i64.wrap (x1 + 1)) (x2.set (Int.toNat x1) [(((ofInt .f32 x0) : Nat) : Int)]))
   (1, 0, []))
  (0, x0, x2)
noncomputable def r25l0b : Nat → Int → Int → List (List Int) → (Nat × Int × List (List Int))
 | 0 => fun _ _ _ => (1, 0, [])
 | m + 1 => b25l0b (r25l0b m)
noncomputable def a25l0b (x0 x1 : Int) (x2 : List (List Int)) (p : Nat × Int × List (List Int)) : Option (Fin' × List Value × St) := firstT ([((Nat.beq (p.1) 0), .exit 0, [.int .i64 (p.2.1)], ⟨[⟨true, (some (.tab [.fl .f32] (p.2.2)))⟩], 1, [0]⟩)].map fun (b, x) => (b, (x.1, frameOf 20 [1] x.2.1, x.2.2)))
noncomputable def u25l0b (x0 x1 : Int) (x2 : List (List Int)) (p : Nat × Int × List (List Int)) : Option (Fin' × List Value × St) := alts ([((Nat.beq (p.1) 0), .exit 0, [.int .i64 (p.2.1)], ⟨[⟨true, (some (.tab [.fl .f32] (p.2.2)))⟩], 1, [0]⟩)].map fun (b, x) => (b, (x.1, frameOf 20 [1] x.2.1, x.2.2))) some
theorem v25l0b (x0 x1 : Int) (x2 : List (List Int)) (p : Nat × Int × List (List Int)) : u25l0b x0 x1 x2 p = a25l0b x0 x1 x2 p := alts_first _
noncomputable def q25l0b (m : Nat) : SumK := fun vals s =>
 match vals, s.h with
 | [.iface f0 .nilIface, .int .i64 x0, .int .i64 x1], [⟨true, some (.tab [.fl .f32] x2)⟩] => if f0 = 0 then [((Nat.beq ((r25l0b m x0 x1 x2).1) 0), .exit 0, [.int .i64 ((r25l0b m x0 x1 x2).2.1)], ⟨[⟨true, (some (.tab [.fl .f32] ((r25l0b m x0 x1 x2).2.2)))⟩], 1, [0]⟩)] else Q25l0 vals s
 | _, _ => Q25l0 vals s
noncomputable def w25l0b (ih : Int → Int → List (List Int) → (Nat × Int × List (List Int))) (x0 x1 : Int) (x2 : List (List Int)) : Option (Fin' × List Value × St) :=
 (cond (decide ((x1 : Int) < ((x2.length : Nat) : Int)))
 (cond ((decide ((0 : Int) ≤ x1)) && (Nat.blt (Int.toNat x1) x2.length))
  (cond (Nat.blt (Int.toNat x1) x2.length)
   (u25l0b x0 x1 x2 (ih (IntKind.i64.wrap (x0 + 1)) (IntKind.i64.wrap (x1 + 1)) (x2.set (Int.toNat x1) [(((ofInt .f32 x0) : Nat) : Int)])))
   none)
  none)
 (a25l0b x0 x1 x2 (0, x0, x2)))
set_option maxRecDepth 100000 in
set_option maxHeartbeats 4000000 in
theorem e25l0b (m : Nat) (x0 x1 : Int) (x2 : List (List Int)) : evC Try.prog ext T52 L25_1 200 (loopN Try.f25 0) (loopTail ([0, 1, 5], []) [1] [0] (sumK 20 [0, 1, 5] [1] (q25l0b m))) (frameOf 20 [0, 1, 5] [wsl 0, .int .i64 x0, .int .i64 x1]) ⟨[⟨true, (some (.tab [.fl .f32] x2))⟩], 1, []⟩ = firstT ([((Nat.beq ((r25l0b (m + 1) x0 x1 x2).1) 0), .exit 0, [.int .i64 ((r25l0b (m + 1) x0 x1 x2).2.1)], ⟨[⟨true, (some (.tab [.fl .f32] ((r25l0b (m + 1) x0 x1 x2).2.2)))⟩], 1, [0]⟩)].map fun (b, x) => (b, (x.1, frameOf 20 [1] x.2.1, x.2.2))) :=
 (show evC Try.prog ext T52 L25_1 200 (loopN Try.f25 0) (loopTail ([0, 1, 5], []) [1] [0] (sumK 20 [0, 1, 5] [1] (q25l0b m))) (frameOf 20 [0, 1, 5] [wsl 0, .int .i64 x0, .int .i64 x1]) ⟨[⟨true, (some (.tab [.fl .f32] x2))⟩], 1, []⟩ = w25l0b (r25l0b m) x0 x1 x2 from by kernel_rfl).trans
 (show w25l0b (r25l0b m) x0 x1 x2 = a25l0b x0 x1 x2 (r25l0b (m + 1) x0 x1 x2) from by unfold w25l0b; show _ = a25l0b x0 x1 x2 (b25l0b (r25l0b m) x0 x1 x2); unfold b25l0b; exact (cond_both (a25l0b x0 x1 x2) _ (fun h0 => (cond_both (a25l0b x0 x1 x2) _ (fun h1 => (cond_t (ev_and2 h1) (v25l0b x0 x1 x2 ((r25l0b m) (IntKind.i64.wrap (x0 + 1)) (IntKind.i64.wrap (x1 + 1)) (x2.set (Int.toNat x1) [(((ofInt .f32 x0) : Nat) : Int)]))))) (fun h1 => rfl))) (fun h0 => rfl)))
set_option maxRecDepth 100000 in
set_option maxHeartbeats 4000000 in
theorem qm25l0b : ∀ m, SumKOk Try.prog (loopN Try.f25 0) 20 [0, 1, 5] [1] (q25l0b m) := by
  intro m
  induction m with
  | zero =>
    intro vals s x h1 h2 h3
    unfold q25l0b at h3; split at h3
    · rename_i h; split at h3
      · rename_i hc; obtain ⟨rfl⟩ := hc; exact absurd h3 (by simp [r25l0b, firstT, Nat.beq])
      · exact qok25l0 _ _ _ h1 h2 h3
    · exact qok25l0 _ _ _ h1 h2 h3
  | succ m ih =>
    intro vals s x h1 h2 h3
    unfold q25l0b at h3; split at h3
    · rename_i h; split at h3
      · rename_i hc; obtain ⟨rfl⟩ := hc; exact sum_step ok52 extOk mixed (lok25_1.inner (by kernel_rfl)) ih h1 h2 h (e25l0b m _ _ _) rfl h3
      · exact qok25l0 _ _ _ h1 h2 h3
    · exact qok25l0 _ _ _ h1 h2 h3
noncomputable def Q25l0b : SumK := fun vals s => q25l0b (fuelOf vals s.h) vals s
theorem qok25l0b : SumKOk Try.prog (loopN Try.f25 0) 20 [0, 1, 5] [1] Q25l0b := fuel_ok qm25l0b fuelOf
noncomputable def L25_2 : LoopT := addL L25_1 3 ([0, 1, 5], []) (sumK 20 [0, 1, 5] [1] Q25l0b)
theorem lok25_2 : LfOkF Try.prog L25_2 Try.f25 := lfOkF_add lok25_1 qok25l0b (by kernel_rfl) (by kernel_rfl) (by kernel_rfl)

/-- laws.markFloat32S -/
noncomputable def r25b (x0 : Int) (x1 : List (List Int)) : Nat × Int × List (List Int) :=
 cond (Nat.beq ((r25l0b (1000 + x1.length) x0 0 x1).1) 0)
  (0, ((r25l0b (1000 + x1.length) x0 0 x1).2.1), ((r25l0b (1000 + x1.length) x0 0 x1).2.2))
  (1, 0, [])
noncomputable def a25b (x0 : Int) (x1 : List (List Int)) (p : Nat × Int × List (List Int)) : Res := firstT [((Nat.beq (p.1) 0), .int .i64 (p.2.1), ⟨[⟨true, (some (.tab [.fl .f32] (p.2.2)))⟩], 1, [0]⟩)]
noncomputable def w25b (x0 : Int) (x1 : List (List Int)) : Res :=
 (cond (Nat.beq ((r25l0b (1000 + x1.length) x0 0 x1).1) 0)
 (a25b x0 x1 (0, ((r25l0b (1000 + x1.length) x0 0 x1).2.1), ((r25l0b (1000 + x1.length) x0 0 x1).2.2)))
 none)
set_option maxRecDepth 100000 in
set_option maxHeartbeats 4000000 in
theorem e25b (x0 : Int) (x1 : List (List Int)) : evFn Try.prog ext T52 L25_2 200 Try.f25 [wsl 0, .int .i64 x0] ⟨[⟨true, (some (.tab [.fl .f32] x1))⟩], 1, []⟩ = firstT [((Nat.beq ((r25b x0 x1).1) 0), .int .i64 ((r25b x0 x1).2.1), ⟨[⟨true, (some (.tab [.fl .f32] ((r25b x0 x1).2.2)))⟩], 1, [0]⟩)] :=
 (show evFn Try.prog ext T52 L25_2 200 Try.f25 [wsl 0, .int .i64 x0] ⟨[⟨true, (some (.tab [.fl .f32] x1))⟩], 1, []⟩ = w25b x0 x1 from by kernel_rfl).trans
 (show w25b x0 x1 = a25b x0 x1 (r25b x0 x1) from by unfold w25b r25b; exact (cond_app (a25b x0 x1) _ rfl rfl))
noncomputable def s25b (args : List Value) (s : St) : List (Bool × Value × St) :=
 match args, s.h with
 | [.iface f0 .nilIface, .int .i64 x0], [⟨true, some (.tab [.fl .f32] x1)⟩] => if f0 = 0 then [((Nat.beq ((r25b x0 x1).1) 0), .int .i64 ((r25b x0 x1).2.1), ⟨[⟨true, (some (.tab [.fl .f32] ((r25b x0 x1).2.2)))⟩], 1, [0]⟩)] else T52 25 args s
 | _, _ => T52 25 args s
noncomputable def T53 : CallF := addF T52 25 s25b
set_option maxRecDepth 100000 in
set_option maxHeartbeats 4000000 in
theorem ok53 : CfOk Try.prog T53 := by
  refine cfOk_add ok52 fun args s r s' h1 h2 h3 => ?_
  unfold s25b at h3; split at h3
  · rename_i h; split at h3
    · rename_i hc; obtain ⟨rfl⟩ := hc; exact callOk ok52 Try.func25 h1 h2 h lok25_2.body (e25b _ _) rfl h3
    · exact ok52 _ _ _ _ _ h1 h2 h3
  · exact ok52 _ _ _ _ _ h1 h2 h3

/-- laws.heldFloat32S, loop 0: one round -/
noncomputable def b26l0b (ih : Int → Int → List (List Int) → (Nat × Int × Int)) (x0 x1 : Int) (x2 : List (List Int)) : Nat × Int × Int :=
 cond (decide ((x1 : Int) < ((x2.length : Nat) : Int)))
  (cond ((decide ((0 : Int) ≤ x1)) && (Nat.blt (Int.toNat x1) x2.length))
   (cond (!feq .f32 (Int.toNat ((x2.getD (Int.toNat x1) []).getD 0 0)) (ofInt .f32 x0))
    (0, x0, 0)
    (ih (IntKind.i64.wrap (x0 + 1)) (IntKind.i64.wrap (x1 + 1)) x2))
   (2, 0, 0))
  (1, 0, x0)
noncomputable def r26l0b : Nat → Int → Int → List (List Int) → (Nat × Int × Int)
 | 0 => fun _ _ _ => (2, 0, 0)
 | m + 1 => b26l0b (r26l0b m)
noncomputable def a26l0b (x0 x1 : Int) (x2 : List (List Int)) (p : Nat × Int × Int) : Option (Fin' × List Value × St) := firstT ([((Nat.beq (p.1) 0), .ret, [.int .i64 (p.2.1), .int .i64 (-1)], ⟨[⟨true, (some (.tab [.fl .f32] x2))⟩], 1, []⟩), ((Nat.beq (p.1) 1), .exit 0, [.int .i64 (p.2.2), anyV], ⟨[⟨true, (some (.tab [.fl .f32] x2))⟩], 1, []⟩)].map fun (b, x) => (b, (x.1, frameOf 22 [1, 4] x.2.1, x.2.2)))
noncomputable def u26l0b (x0 x1 : Int) (x2 : List (List Int)) (p : Nat × Int × Int) : Option (Fin' × List Value × St) := alts ([((Nat.beq (p.1) 0), .ret, [.int .i64 (p.2.1), .int .i64 (-1)], ⟨[⟨true, (some (.tab [.fl .f32] x2))⟩], 1, []⟩), ((Nat.beq (p.1) 1), .exit 0, [.int .i64 (p.2.2), anyV], ⟨[⟨true, (some (.tab [.fl .f32] x2))⟩], 1, []⟩)].map fun (b, x) => (b, (x.1, frameOf 22 [1, 4] x.2.1, x.2.2))) some
theorem v26l0b (x0 x1 : Int) (x2 : List (List Int)) (p : Nat × Int × Int) : u26l0b x0 x1 x2 p = a26l0b x0 x1 x2 p := alts_first _
noncomputable def q26l0b (m : Nat) : SumK := fun vals s =>
 match vals, s.h with
 | [.iface f0 .nilIface, .int .i64 x0, .int .i64 x1], [⟨true, some (.tab [.fl .f32] x2)⟩] => if f0 = 0 then [((Nat.beq ((r26l0b m x0 x1 x2).1) 0), .ret, [.int .i64 ((r26l0b m x0 x1 x2).2.1), .int .i64 (-1)], ⟨[⟨true, (some (.tab [.fl .f32] x2))⟩], 1, []⟩), ((Nat.beq ((r26l0b m x0 x1 x2).1) 1), .exit 0, [.int .i64 ((r26l0b m x0 x1 x2).2.2), anyV], ⟨[⟨true, (some (.tab [.fl .f32] x2))⟩], 1, []⟩)] else Q26l0 vals s
 | _, _ => Q26l0 vals s
noncomputable def w26l0b (ih : Int → Int → List (List Int) → (Nat × Int × Int)) (x0 x1 : Int) (x2 : List (List Int)) : Option (Fin' × List Value × St) :=
 (cond (decide ((x1 : Int) < ((x2.length : Nat) : Int)))
 (cond ((decide ((0 : Int) ≤ x1)) && (Nat.blt (Int.toNat x1) x2.length))
  (cond (Nat.blt (Int.toNat x1) x2.length)
   (cond (!feq .f32 (Int.toNat ((x2.getD (Int.toNat x1) []).getD 0 0)) (ofInt .f32 x0))
    (a26l0b x0 x1 x2 (0, x0, 0))
    (u26l0b x0 x1 x2 (ih (IntKind.i64.wrap (x0 + 1)) (IntKind.i64.wrap (x1 + 1)) x2)))
   none)
  none)
 (a26l0b x0 x1 x2 (1, 0, x0)))
set_option maxRecDepth 100000 in
set_option maxHeartbeats 4000000 in
theorem e26l0b (m : Nat) (x0 x1 : Int) (x2 : List (List Int)) : evC Try.prog ext T53 L26_1 200 (loopN Try.f26 0) (loopTail ([0, 1, 5], []) [1, 4] [] (sumK 22 [0, 1, 5] [1, 4] (q26l0b m))) (frameOf 22 [0, 1, 5] [wsl 0, .int .i64 x0, .int .i64 x1]) ⟨[⟨true, (some (.tab [.fl .f32] x2))⟩], 1, []⟩ = firstT ([((Nat.beq ((r26l0b (m + 1) x0 x1 x2).1) 0), .ret, [.int .i64 ((r26l0b (m + 1) x0 x1 x2).2.1), .int .i64 (-1)], ⟨[⟨true, (some (.tab [.fl .f32] x2))⟩], 1, []⟩), ((Nat.beq ((r26l0b (m + 1) x0 x1 x2).1) 1), .exit 0, [.int .i64 ((r26l0b (m + 1) x0 x1 x2).2.2), anyV], ⟨[⟨true, (some (.tab [.fl .f32] x2))⟩], 1, []⟩)].map fun (b, x) => (b, (x.1, frameOf 22 [1, 4] x.2.1, x.2.2))) :=
 (show evC Try.prog ext T53 L26_1 200 (loopN Try.f26 0) (loopTail ([0, 1, 5], []) [1, 4] [] (sumK 22 [0, 1, 5] [1, 4] (q26l0b m))) (frameOf 22 [0, 1, 5] [wsl 0, .int .i64 x0, .int .i64 x1]) ⟨[⟨true, (some (.tab [.fl .f32] x2))⟩], 1, []⟩ = w26l0b (r26l0b m) x0 x1 x2 from by kernel_rfl).trans
 (show w26l0b (r26l0b m) x0 x1 x2 = a26l0b x0 x1 x2 (r26l0b (m + 1) x0 x1 x2) from by unfold w26l0b; show _ = a26l0b x0 x1 x2 (b26l0b (r26l0b m) x0 x1 x2); unfold b26l0b; exact (cond_both (a26l0b x0 x1 x2) _ (fun h0 => (cond_both (a26l0b x0 x1 x2) _ (fun h1 => (cond_t (ev_and2 h1) (cond_app (a26l0b x0 x1 x2) _ rfl (v26l0b x0 x1 x2 ((r26l0b m) (IntKind.i64.wrap (x0 + 1)) (IntKind.i64.wrap (x1 + 1)) x2))))) (fun h1 => rfl))) (fun h0 => rfl)))
set_option maxRecDepth 100000 in
set_option maxHeartbeats 4000000 in
theorem qm26l0b : ∀ m, SumKOk Try.prog (loopN Try.f26 0) 22 [0, 1, 5] [1, 4] (q26l0b m) := by
  intro m
  induction m with
  | zero =>
    intro vals s x h1 h2 h3
    unfold q26l0b at h3; split at h3
    · rename_i h; split at h3
      · rename_i hc; obtain ⟨rfl⟩ := hc; exact absurd h3 (by simp [r26l0b, firstT, Nat.beq])
      · exact qok26l0 _ _ _ h1 h2 h3
    · exact qok26l0 _ _ _ h1 h2 h3
  | succ m ih =>
    intro vals s x h1 h2 h3
    unfold q26l0b at h3; split at h3
    · rename_i h; split at h3
      · rename_i hc; obtain ⟨rfl⟩ := hc; exact sum_step ok53 extOk mixed (lok26_1.inner (by kernel_rfl)) ih h1 h2 h (e26l0b m _ _ _) rfl h3
      · exact qok26l0 _ _ _ h1 h2 h3
    · exact qok26l0 _ _ _ h1 h2 h3
noncomputable def Q26l0b : SumK := fun vals s => q26l0b (fuelOf vals s.h) vals s
theorem qok26l0b : SumKOk Try.prog (loopN Try.f26 0) 22 [0, 1, 5] [1, 4] Q26l0b := fuel_ok qm26l0b fuelOf
noncomputable def L26_2 : LoopT := addL L26_1 3 ([0, 1, 5], []) (sumK 22 [0, 1, 5] [1, 4] Q26l0b)
theorem lok26_2 : LfOkF Try.prog L26_2 Try.f26 := lfOkF_add lok26_1 qok26l0b (by kernel_rfl) (by kernel_rfl) (by kernel_rfl)

/-- laws.heldFloat32S -/
noncomputable def r26b (x0 : Int) (x1 : List (List Int)) : Nat × Int :=
 cond (Nat.beq ((r26l0b (1000 + x1.length) x0 0 x1).1) 0)
  (0, (-1))
  (cond (Nat.beq ((r26l0b (1000 + x1.length) x0 0 x1).1) 1)
   (0, ((r26l0b (1000 + x1.length) x0 0 x1).2.2))
   (1, 0))
noncomputable def a26b (x0 : Int) (x1 : List (List Int)) (p : Nat × Int) : Res := firstT [((Nat.beq (p.1) 0), .int .i64 (p.2), ⟨[⟨true, (some (.tab [.fl .f32] x1))⟩], 1, []⟩)]
noncomputable def w26b (x0 : Int) (x1 : List (List Int)) : Res :=
 (cond (Nat.beq ((r26l0b (1000 + x1.length) x0 0 x1).1) 0)
 (a26b x0 x1 (0, (-1)))
 (cond (Nat.beq ((r26l0b (1000 + x1.length) x0 0 x1).1) 1)
  (a26b x0 x1 (0, ((r26l0b (1000 + x1.length) x0 0 x1).2.2)))
  none))
set_option maxRecDepth 100000 in
set_option maxHeartbeats 4000000 in
theorem e26b (x0 : Int) (x1 : List (List Int)) : evFn Try.prog ext T53 L26_2 200 Try.f26 [wsl 0, .int .i64 x0] ⟨[⟨true, (some (.tab [.fl .f32] x1))⟩], 1, []⟩ = firstT [((Nat.beq ((r26b x0 x1).1) 0), .int .i64 ((r26b x0 x1).2), ⟨[⟨true, (some (.tab [.fl .f32] x1))⟩], 1, []⟩)] :=
 (show evFn Try.prog ext T53 L26_2 200 Try.f26 [wsl 0, .int .i64 x0] ⟨[⟨true, (some (.tab [.fl .f32] x1))⟩], 1, []⟩ = w26b x0 x1 from by kernel_rfl).trans
 (show w26b x0 x1 = a26b x0 x1 (r26b x0 x1) from by unfold w26b r26b; exact (cond_app (a26b x0 x1) _ rfl (cond_app (a26b x0 x1) _ rfl rfl)))
noncomputable def s26b (args : List Value) (s : St) : List (Bool × Value × St) :=
 match args, s.h with
 | [.iface f0 .nilIface, .int .i64 x0], [⟨true, some (.tab [.fl .f32] x1)⟩] => if f0 = 0 then [((Nat.beq ((r26b x0 x1).1) 0), .int .i64 ((r26b x0 x1).2), ⟨[⟨true, (some (.tab [.fl .f32] x1))⟩], 1, []⟩)] else T53 26 args s
 | _, _ => T53 26 args s
noncomputable def T54 : CallF := addF T53 26 s26b
set_option maxRecDepth 100000 in
set_option maxHeartbeats 4000000 in
theorem ok54 : CfOk Try.prog T54 := by
  refine cfOk_add ok53 fun args s r s' h1 h2 h3 => ?_
  unfold s26b at h3; split at h3
  · rename_i h; split at h3
    · rename_i hc; obtain ⟨rfl⟩ := hc; exact callOk ok53 Try.func26 h1 h2 h lok26_2.body (e26b _ _) rfl h3
    · exact ok53 _ _ _ _ _ h1 h2 h3
  · exact ok53 _ _ _ _ _ h1 h2 h3

/-- laws.FnExactRunProgram -/
noncomputable def r6 (x0 x1 x2 x3 : Nat) (x4 : List ByteArray) (x5 : List (List Int)) : Nat × Bool :=
 let c71 := (r23b ((r22 x0 x1 x2 x3 ((r12 x4 x5).2.1) ((r12 x4 x5).2.2)).2) ((r21 x0 x1 x2 x3 ((r12 x4 x5).2.1) ((r12 x4 x5).2.2)).2.2))
 cond (Nat.beq ((r10 1048576 x4 x5).1) 0)
  (cond (decide ((((r10 1048576 x4 x5).2) : Int) < 0))
   (0, true)
   (cond (Nat.beq ((r12 x4 x5).1) 0)
    (cond (Nat.beq ((r21 x0 x1 x2 x3 ((r12 x4 x5).2.1) ((r12 x4 x5).2.2)).1) 0)
     (cond (Nat.beq ((r22 x0 x1 x2 x3 ((r12 x4 x5).2.1) ((r12 x4 x5).2.2)).1) 0)
      (cond (!(r23 ((r21 x0 x1 x2 x3 ((r12 x4 x5).2.1) ((r12 x4 x5).2.2)).2.2)))
       (0, false)
       (cond ((1 : Int) != ((r21 x0 x1 x2 x3 ((r12 x4 x5).2.1) ((r12 x4 x5).2.2)).2.1))
        (0, false)
        (cond (Nat.beq ((r14 ((r12 x4 x5).2.1) ((r12 x4 x5).2.2) ((r12 x4 x5).2.1) ((r12 x4 x5).2.2)).1) 0)
         (cond (!((r14 ((r12 x4 x5).2.1) ((r12 x4 x5).2.2) ((r12 x4 x5).2.1) ((r12 x4 x5).2.2)).2))
          (0, false)
          (cond (Nat.beq ((r24 1 ((r12 x4 x5).2.1) ((r12 x4 x5).2.2)).1) 0)
           (cond (decide ((((r24 1 ((r12 x4 x5).2.1) ((r12 x4 x5).2.2)).2.1) : Int) < 0))
            (0, false)
            (0, true))
           (1, false)))
         (1, false))))
      (cond (Nat.beq ((r22 x0 x1 x2 x3 ((r12 x4 x5).2.1) ((r12 x4 x5).2.2)).1) 1)
       (cond (Nat.beq (c71.1) 0)
        (cond (!(c71.2))
         (0, false)
         (cond ((0 : Int) != ((r21 x0 x1 x2 x3 ((r12 x4 x5).2.1) ((r12 x4 x5).2.2)).2.1))
          (0, false)
          (cond (Nat.beq ((r14 ((r12 x4 x5).2.1) ((r12 x4 x5).2.2) ((r12 x4 x5).2.1) ((r12 x4 x5).2.2)).1) 0)
           (cond (!((r14 ((r12 x4 x5).2.1) ((r12 x4 x5).2.2) ((r12 x4 x5).2.1) ((r12 x4 x5).2.2)).2))
            (0, false)
            (cond (Nat.beq ((r24 1 ((r12 x4 x5).2.1) ((r12 x4 x5).2.2)).1) 0)
             (cond (decide ((((r24 1 ((r12 x4 x5).2.1) ((r12 x4 x5).2.2)).2.1) : Int) < 0))
              (0, false)
              (cond (Nat.beq ((r25b 1 ((r22 x0 x1 x2 x3 ((r12 x4 x5).2.1) ((r12 x4 x5).2.2)).2)).1) 0)
               (cond (Nat.beq ((r26b 1 ((r25b 1 ((r22 x0 x1 x2 x3 ((r12 x4 x5).2.1) ((r12 x4 x5).2.2)).2)).2.2)).1) 0)
                (cond (decide ((((r26b 1 ((r25b 1 ((r22 x0 x1 x2 x3 ((r12 x4 x5).2.1) ((r12 x4 x5).2.2)).2)).2.2)).2) : Int) < 0))
                 (0, false)
                 (cond ((((r26b 1 ((r25b 1 ((r22 x0 x1 x2 x3 ((r12 x4 x5).2.1) ((r12 x4 x5).2.2)).2)).2.2)).2) : Int) != ((r25b 1 ((r22 x0 x1 x2 x3 ((r12 x4 x5).2.1) ((r12 x4 x5).2.2)).2)).2.1))
                  (0, false)
                  (0, true)))
                (1, false))
               (1, false)))
             (1, false)))
           (1, false))))
        (1, false))
       (1, false)))
     (1, false))
    (1, false)))
  (1, false)
noncomputable def a6 (x0 x1 x2 x3 : Nat) (x4 : List ByteArray) (x5 : List (List Int)) (p : Nat × Bool) : Res := firstT [((Nat.beq (p.1) 0), .bool (p.2), ⟨[⟨false, (some (.strs x4))⟩, ⟨false, (some (.tab [.int .i8, .int .i16, .fl .f32] x5))⟩], 2, []⟩)]
noncomputable def w6 (x0 x1 x2 x3 : Nat) (x4 : List ByteArray) (x5 : List (List Int)) : Res :=
 let c71 := (r23b ((r22 x0 x1 x2 x3 ((r12 x4 x5).2.1) ((r12 x4 x5).2.2)).2) ((r21 x0 x1 x2 x3 ((r12 x4 x5).2.1) ((r12 x4 x5).2.2)).2.2))
 (cond (Nat.beq ((r10 1048576 x4 x5).1) 0)
 (cond (decide ((((r10 1048576 x4 x5).2) : Int) < 0))
  (a6 x0 x1 x2 x3 x4 x5 (0, true))
  (cond (Nat.beq ((r12 x4 x5).1) 0)
   (cond (Nat.beq ((r21 x0 x1 x2 x3 ((r12 x4 x5).2.1) ((r12 x4 x5).2.2)).1) 0)
    (cond (Nat.beq ((r12 x4 x5).1) 0)
     (cond (Nat.beq ((r22 x0 x1 x2 x3 ((r12 x4 x5).2.1) ((r12 x4 x5).2.2)).1) 0)
      (cond (!(r23 ((r21 x0 x1 x2 x3 ((r12 x4 x5).2.1) ((r12 x4 x5).2.2)).2.2)))
       (a6 x0 x1 x2 x3 x4 x5 (0, false))
       (cond ((1 : Int) != ((r21 x0 x1 x2 x3 ((r12 x4 x5).2.1) ((r12 x4 x5).2.2)).2.1))
        (a6 x0 x1 x2 x3 x4 x5 (0, false))
        (cond (Nat.beq ((r12 x4 x5).1) 0)
         (cond (Nat.beq ((r14 ((r12 x4 x5).2.1) ((r12 x4 x5).2.2) ((r12 x4 x5).2.1) ((r12 x4 x5).2.2)).1) 0)
          (cond (!((r14 ((r12 x4 x5).2.1) ((r12 x4 x5).2.2) ((r12 x4 x5).2.1) ((r12 x4 x5).2.2)).2))
           (a6 x0 x1 x2 x3 x4 x5 (0, false))
           (cond (Nat.beq ((r24 1 ((r12 x4 x5).2.1) ((r12 x4 x5).2.2)).1) 0)
            (cond (decide ((((r24 1 ((r12 x4 x5).2.1) ((r12 x4 x5).2.2)).2.1) : Int) < 0))
             (a6 x0 x1 x2 x3 x4 x5 (0, false))
             (cond (!(r23 ((r21 x0 x1 x2 x3 ((r12 x4 x5).2.1) ((r12 x4 x5).2.2)).2.2)))
              (some (.bool false, ⟨[⟨false, (some (.strs x4))⟩, ⟨false, (some (.tab [.int .i8, .int .i16, .fl .f32] x5))⟩], 2, []⟩))
              (cond ((1 : Int) != ((r21 x0 x1 x2 x3 ((r12 x4 x5).2.1) ((r12 x4 x5).2.2)).2.1))
               (some (.bool false, ⟨[⟨false, (some (.strs x4))⟩, ⟨false, (some (.tab [.int .i8, .int .i16, .fl .f32] x5))⟩], 2, []⟩))
               (cond (Nat.beq ((r12 x4 x5).1) 0)
                (cond (Nat.beq ((r22 x0 x1 x2 x3 ((r12 x4 x5).2.1) ((r12 x4 x5).2.2)).1) 0)
                 (cond (!(r23 ((r21 x0 x1 x2 x3 ((r12 x4 x5).2.1) ((r12 x4 x5).2.2)).2.2)))
                  (some (.bool false, ⟨[⟨false, (some (.strs x4))⟩, ⟨false, (some (.tab [.int .i8, .int .i16, .fl .f32] x5))⟩], 2, []⟩))
                  (cond ((1 : Int) != ((r21 x0 x1 x2 x3 ((r12 x4 x5).2.1) ((r12 x4 x5).2.2)).2.1))
                   (some (.bool false, ⟨[⟨false, (some (.strs x4))⟩, ⟨false, (some (.tab [.int .i8, .int .i16, .fl .f32] x5))⟩], 2, []⟩))
                   (a6 x0 x1 x2 x3 x4 x5 (0, true))))
                 (cond (Nat.beq ((r22 x0 x1 x2 x3 ((r12 x4 x5).2.1) ((r12 x4 x5).2.2)).1) 1)
                  (cond (Nat.beq (c71.1) 0)
                   (cond (!(c71.2))
                    (some (.bool false, ⟨[⟨false, (some (.strs x4))⟩, ⟨false, (some (.tab [.int .i8, .int .i16, .fl .f32] x5))⟩], 2, []⟩))
                    (cond ((0 : Int) != ((r21 x0 x1 x2 x3 ((r12 x4 x5).2.1) ((r12 x4 x5).2.2)).2.1))
                     (some (.bool false, ⟨[⟨false, (some (.strs x4))⟩, ⟨false, (some (.tab [.int .i8, .int .i16, .fl .f32] x5))⟩], 2, []⟩))
                     (some (.bool true, ⟨[⟨false, (some (.strs x4))⟩, ⟨false, (some (.tab [.int .i8, .int .i16, .fl .f32] x5))⟩], 2, []⟩))))
                   none)
                  none))
                none))))
            none))
          none)
         none)))
      (cond (Nat.beq ((r22 x0 x1 x2 x3 ((r12 x4 x5).2.1) ((r12 x4 x5).2.2)).1) 1)
       (cond (Nat.beq (c71.1) 0)
        (cond (!(c71.2))
         (a6 x0 x1 x2 x3 x4 x5 (0, false))
         (cond ((0 : Int) != ((r21 x0 x1 x2 x3 ((r12 x4 x5).2.1) ((r12 x4 x5).2.2)).2.1))
          (a6 x0 x1 x2 x3 x4 x5 (0, false))
          (cond (Nat.beq ((r12 x4 x5).1) 0)
           (cond (Nat.beq ((r14 ((r12 x4 x5).2.1) ((r12 x4 x5).2.2) ((r12 x4 x5).2.1) ((r12 x4 x5).2.2)).1) 0)
            (cond (!((r14 ((r12 x4 x5).2.1) ((r12 x4 x5).2.2) ((r12 x4 x5).2.1) ((r12 x4 x5).2.2)).2))
             (a6 x0 x1 x2 x3 x4 x5 (0, false))
             (cond (Nat.beq ((r24 1 ((r12 x4 x5).2.1) ((r12 x4 x5).2.2)).1) 0)
              (cond (decide ((((r24 1 ((r12 x4 x5).2.1) ((r12 x4 x5).2.2)).2.1) : Int) < 0))
               (a6 x0 x1 x2 x3 x4 x5 (0, false))
               (cond (Nat.beq (c71.1) 0)
                (cond (!(c71.2))
                 (some (.bool false, ⟨[⟨false, (some (.strs x4))⟩, ⟨false, (some (.tab [.int .i8, .int .i16, .fl .f32] x5))⟩], 2, []⟩))
                 (cond ((0 : Int) != ((r21 x0 x1 x2 x3 ((r12 x4 x5).2.1) ((r12 x4 x5).2.2)).2.1))
                  (some (.bool false, ⟨[⟨false, (some (.strs x4))⟩, ⟨false, (some (.tab [.int .i8, .int .i16, .fl .f32] x5))⟩], 2, []⟩))
                  (cond (Nat.beq ((r25b 1 ((r22 x0 x1 x2 x3 ((r12 x4 x5).2.1) ((r12 x4 x5).2.2)).2)).1) 0)
                   (cond (Nat.beq ((r26b 1 ((r25b 1 ((r22 x0 x1 x2 x3 ((r12 x4 x5).2.1) ((r12 x4 x5).2.2)).2)).2.2)).1) 0)
                    (cond (decide ((((r26b 1 ((r25b 1 ((r22 x0 x1 x2 x3 ((r12 x4 x5).2.1) ((r12 x4 x5).2.2)).2)).2.2)).2) : Int) < 0))
                     (a6 x0 x1 x2 x3 x4 x5 (0, false))
                     (cond ((((r26b 1 ((r25b 1 ((r22 x0 x1 x2 x3 ((r12 x4 x5).2.1) ((r12 x4 x5).2.2)).2)).2.2)).2) : Int) != ((r25b 1 ((r22 x0 x1 x2 x3 ((r12 x4 x5).2.1) ((r12 x4 x5).2.2)).2)).2.1))
                      (a6 x0 x1 x2 x3 x4 x5 (0, false))
                      (cond (Nat.beq ((r12 x4 x5).1) 0)
                       (cond (Nat.beq ((r22 x0 x1 x2 x3 ((r12 x4 x5).2.1) ((r12 x4 x5).2.2)).1) 0)
                        (cond (!(r23 ((r21 x0 x1 x2 x3 ((r12 x4 x5).2.1) ((r12 x4 x5).2.2)).2.2)))
                         (some (.bool false, ⟨[⟨false, (some (.strs x4))⟩, ⟨false, (some (.tab [.int .i8, .int .i16, .fl .f32] x5))⟩], 2, []⟩))
                         (cond ((1 : Int) != ((r21 x0 x1 x2 x3 ((r12 x4 x5).2.1) ((r12 x4 x5).2.2)).2.1))
                          (some (.bool false, ⟨[⟨false, (some (.strs x4))⟩, ⟨false, (some (.tab [.int .i8, .int .i16, .fl .f32] x5))⟩], 2, []⟩))
                          (cond (Nat.beq ((r26b 1 ((r25b 1 ((r22 x0 x1 x2 x3 ((r12 x4 x5).2.1) ((r12 x4 x5).2.2)).2)).2.2)).1) 0)
                           (cond (decide ((((r26b 1 ((r25b 1 ((r22 x0 x1 x2 x3 ((r12 x4 x5).2.1) ((r12 x4 x5).2.2)).2)).2.2)).2) : Int) < 0))
                            (some (.bool false, ⟨[⟨false, (some (.strs x4))⟩, ⟨false, (some (.tab [.int .i8, .int .i16, .fl .f32] x5))⟩], 2, []⟩))
                            (cond ((((r26b 1 ((r25b 1 ((r22 x0 x1 x2 x3 ((r12 x4 x5).2.1) ((r12 x4 x5).2.2)).2)).2.2)).2) : Int) != ((r25b 1 ((r22 x0 x1 x2 x3 ((r12 x4 x5).2.1) ((r12 x4 x5).2.2)).2)).2.1))
                             (some (.bool false, ⟨[⟨false, (some (.strs x4))⟩, ⟨false, (some (.tab [.int .i8, .int .i16, .fl .f32] x5))⟩], 2, []⟩))
                             (some (.bool true, ⟨[⟨false, (some (.strs x4))⟩, ⟨false, (some (.tab [.int .i8, .int .i16, .fl .f32] x5))⟩], 2, []⟩))))
                           none)))
                        (cond (Nat.beq ((r22 x0 x1 x2 x3 ((r12 x4 x5).2.1) ((r12 x4 x5).2.2)).1) 1)
                         (cond (Nat.beq (c71.1) 0)
                          (cond (!(c71.2))
                           (some (.bool false, ⟨[⟨false, (some (.strs x4))⟩, ⟨false, (some (.tab [.int .i8, .int .i16, .fl .f32] x5))⟩], 2, []⟩))
                           (cond ((0 : Int) != ((r21 x0 x1 x2 x3 ((r12 x4 x5).2.1) ((r12 x4 x5).2.2)).2.1))
                            (some (.bool false, ⟨[⟨false, (some (.strs x4))⟩, ⟨false, (some (.tab [.int .i8, .int .i16, .fl .f32] x5))⟩], 2, []⟩))
                            (cond (Nat.beq ((r26b 1 ((r25b 1 ((r22 x0 x1 x2 x3 ((r12 x4 x5).2.1) ((r12 x4 x5).2.2)).2)).2.2)).1) 0)
                             (cond (decide ((((r26b 1 ((r25b 1 ((r22 x0 x1 x2 x3 ((r12 x4 x5).2.1) ((r12 x4 x5).2.2)).2)).2.2)).2) : Int) < 0))
                              (some (.bool false, ⟨[⟨false, (some (.strs x4))⟩, ⟨false, (some (.tab [.int .i8, .int .i16, .fl .f32] x5))⟩], 2, []⟩))
                              (cond ((((r26b 1 ((r25b 1 ((r22 x0 x1 x2 x3 ((r12 x4 x5).2.1) ((r12 x4 x5).2.2)).2)).2.2)).2) : Int) != ((r25b 1 ((r22 x0 x1 x2 x3 ((r12 x4 x5).2.1) ((r12 x4 x5).2.2)).2)).2.1))
                               (some (.bool false, ⟨[⟨false, (some (.strs x4))⟩, ⟨false, (some (.tab [.int .i8, .int .i16, .fl .f32] x5))⟩], 2, []⟩))
                               (a6 x0 x1 x2 x3 x4 x5 (0, true))))
                             none)))
                          none)
                         none))
                       none)))
                    none)
                   none)))
                none))
              none))
            none)
           none)))
        none)
       none))
     none)
    none)
   none))
 none)
set_option maxRecDepth 100000 in
set_option maxHeartbeats 4000000 in
theorem e6 (x0 x1 x2 x3 : Nat) (x4 : List ByteArray) (x5 : List (List Int)) : evFn Try.prog ext T54 noL 200 Try.f6 [.agg #[wsl 0, wsl 1], .agg #[.float .f32 x0, .float .f32 x1, .float .f32 x2, .float .f32 x3]] ⟨[⟨false, (some (.strs x4))⟩, ⟨false, (some (.tab [.int .i8, .int .i16, .fl .f32] x5))⟩], 2, []⟩ = firstT [((Nat.beq ((r6 x0 x1 x2 x3 x4 x5).1) 0), .bool ((r6 x0 x1 x2 x3 x4 x5).2), ⟨[⟨false, (some (.strs x4))⟩, ⟨false, (some (.tab [.int .i8, .int .i16, .fl .f32] x5))⟩], 2, []⟩)] :=
 (show evFn Try.prog ext T54 noL 200 Try.f6 [.agg #[wsl 0, wsl 1], .agg #[.float .f32 x0, .float .f32 x1, .float .f32 x2, .float .f32 x3]] ⟨[⟨false, (some (.strs x4))⟩, ⟨false, (some (.tab [.int .i8, .int .i16, .fl .f32] x5))⟩], 2, []⟩ = w6 x0 x1 x2 x3 x4 x5 from by kernel_rfl).trans
 (show w6 x0 x1 x2 x3 x4 x5 = a6 x0 x1 x2 x3 x4 x5 (r6 x0 x1 x2 x3 x4 x5) from by unfold w6 r6; exact (cond_both (a6 x0 x1 x2 x3 x4 x5) _ (fun h0 => (cond_both (a6 x0 x1 x2 x3 x4 x5) _ (fun h1 => rfl) (fun h1 => (cond_both (a6 x0 x1 x2 x3 x4 x5) _ (fun h2 => (cond_both (a6 x0 x1 x2 x3 x4 x5) _ (fun h3 => (cond_t h2 (cond_both (a6 x0 x1 x2 x3 x4 x5) _ (fun h4 => (cond_both (a6 x0 x1 x2 x3 x4 x5) _ (fun h5 => rfl) (fun h5 => (cond_both (a6 x0 x1 x2 x3 x4 x5) _ (fun h6 => rfl) (fun h6 => (cond_t h2 (cond_both (a6 x0 x1 x2 x3 x4 x5) _ (fun h7 => (cond_both (a6 x0 x1 x2 x3 x4 x5) _ (fun h8 => rfl) (fun h8 => (cond_both (a6 x0 x1 x2 x3 x4 x5) _ (fun h9 => (cond_both (a6 x0 x1 x2 x3 x4 x5) _ (fun h10 => rfl) (fun h10 => (cond_f (ev_not0 (ev_notf h5)) (cond_f h6 (cond_t h2 (cond_t h4 (cond_f (ev_not0 (ev_notf h5)) (cond_f h6 rfl))))))))) (fun h9 => rfl))))) (fun h7 => rfl)))))))) (fun h4 => (cond_both (a6 x0 x1 x2 x3 x4 x5) _ (fun h5 => (cond_both (a6 x0 x1 x2 x3 x4 x5) _ (fun h6 => (cond_both (a6 x0 x1 x2 x3 x4 x5) _ (fun h7 => rfl) (fun h7 => (cond_both (a6 x0 x1 x2 x3 x4 x5) _ (fun h8 => rfl) (fun h8 => (cond_t h2 (cond_both (a6 x0 x1 x2 x3 x4 x5) _ (fun h9 => (cond_both (a6 x0 x1 x2 x3 x4 x5) _ (fun h10 => rfl) (fun h10 => (cond_both (a6 x0 x1 x2 x3 x4 x5) _ (fun h11 => (cond_both (a6 x0 x1 x2 x3 x4 x5) _ (fun h12 => rfl) (fun h12 => (cond_t h6 (cond_f (ev_not0 (ev_notf h7)) (cond_f h8 (cond_both (a6 x0 x1 x2 x3 x4 x5) _ (fun h13 => (cond_both (a6 x0 x1 x2 x3 x4 x5) _ (fun h14 => (cond_both (a6 x0 x1 x2 x3 x4 x5) _ (fun h15 => rfl) (fun h15 => (cond_both (a6 x0 x1 x2 x3 x4 x5) _ (fun h16 => rfl) (fun h16 => (cond_t h2 (cond_f h4 (cond_t h5 (cond_t h6 (cond_f (ev_not0 (ev_notf h7)) (cond_f h8 (cond_t h14 (cond_f h15 (cond_f h16 rfl)))))))))))))) (fun h14 => rfl))) (fun h13 => rfl)))))))) (fun h11 => rfl))))) (fun h9 => rfl)))))))) (fun h6 => rfl))) (fun h5 => rfl)))))) (fun h3 => rfl))) (fun h2 => rfl))))) (fun h0 => rfl)))
noncomputable def s6 (args : List Value) (s : St) : List (Bool × Value × St) :=
 match args, s.h with
 | [.agg ⟨[.iface f0 .nilIface, .iface f1 .nilIface]⟩, .agg ⟨[.float .f32 x0, .float .f32 x1, .float .f32 x2, .float .f32 x3]⟩], [⟨false, some (.strs x4)⟩, ⟨false, some (.tab [.int .i8, .int .i16, .fl .f32] x5)⟩] => if f0 = 0 ∧ f1 = 1 then [((Nat.beq ((r6 x0 x1 x2 x3 x4 x5).1) 0), .bool ((r6 x0 x1 x2 x3 x4 x5).2), ⟨[⟨false, (some (.strs x4))⟩, ⟨false, (some (.tab [.int .i8, .int .i16, .fl .f32] x5))⟩], 2, []⟩)] else T54 6 args s
 | _, _ => T54 6 args s
noncomputable def T55 : CallF := addF T54 6 s6
set_option maxRecDepth 100000 in
set_option maxHeartbeats 4000000 in
theorem ok55 : CfOk Try.prog T55 := by
  refine cfOk_add ok54 fun args s r s' h1 h2 h3 => ?_
  unfold s6 at h3; split at h3
  · rename_i h; split at h3
    · rename_i hc; obtain ⟨rfl, rfl⟩ := hc; exact callOk ok54 Try.func6 h1 h2 h (lfOkF_no _ _).body (e6 _ _ _ _ _ _) rfl h3
    · exact ok54 _ _ _ _ _ h1 h2 h3
  · exact ok54 _ _ _ _ _ h1 h2 h3
end Go.Proofs.Ytfclciebpnnieaa
