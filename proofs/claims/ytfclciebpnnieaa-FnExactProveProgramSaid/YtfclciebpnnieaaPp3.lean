/- What the functions that the statements reach answer, part 3. -/
import Derived.Test.YtfclciebpnnieaaPp2
namespace Go.Proofs.Ytfclciebpnnieaa
open Go.Ab
set_option maxHeartbeats 4000000
set_option maxRecDepth 100000

/-- spec.l05Prove -/
noncomputable def r62 (x0 x1 x2 x3 x4 x5 x6 x7 : Nat) (x8 : List ByteArray) (x9 : List (List Int)) : Nat × List (List Int) :=
 let c33 := (r62l0 (1000 + x9.length + x8.length + 0 + 0) 0 x0 x1 x2 x3 x4 x5 x6 x7 ([] : List (List Int)) ([] : List (List Int)) x8 x9)
 cond (Nat.beq (c33.1) 0)
  (0, ([] : List (List Int)))
  (cond (Nat.beq (c33.1) 1)
   (0, (c33.2.1))
   (cond (Nat.beq (c33.1) 2)
    (0, ([] : List (List Int)))
    (1, [])))
noncomputable def a62 (x0 x1 x2 x3 x4 x5 x6 x7 : Nat) (x8 : List ByteArray) (x9 : List (List Int)) (p : Nat × List (List Int)) : Res := firstT [((Nat.beq (p.1) 0), wsl 3, ⟨[⟨true, (some (.cells [wsl 1, wsl 2]))⟩, ⟨true, (some (.strs x8))⟩, ⟨true, (some (.tab [.int .i8, .int .i16, .fl .f32] x9))⟩, ⟨true, (some (.tab [.fl .f32, .fl .f32] (p.2)))⟩], 3, []⟩)]
noncomputable def w62 (x0 x1 x2 x3 x4 x5 x6 x7 : Nat) (x8 : List ByteArray) (x9 : List (List Int)) : Res :=
 let c33 := (r62l0 (1000 + x9.length + x8.length + 0 + 0) 0 x0 x1 x2 x3 x4 x5 x6 x7 ([] : List (List Int)) ([] : List (List Int)) x8 x9)
 (cond (Nat.beq (c33.1) 0)
 (a62 x0 x1 x2 x3 x4 x5 x6 x7 x8 x9 (0, ([] : List (List Int))))
 (cond (Nat.beq (c33.1) 1)
  (a62 x0 x1 x2 x3 x4 x5 x6 x7 x8 x9 (0, (c33.2.1)))
  (cond (Nat.beq (c33.1) 2)
   (a62 x0 x1 x2 x3 x4 x5 x6 x7 x8 x9 (0, ([] : List (List Int))))
   none)))
set_option maxRecDepth 100000 in
set_option maxHeartbeats 4000000 in
theorem e62 (x0 x1 x2 x3 x4 x5 x6 x7 : Nat) (x8 : List ByteArray) (x9 : List (List Int)) : evFn Try.prog ext T33 L62_1 200 Try.f62 [.pointer (some ⟨0, 0, some 0⟩), .agg #[.float .f32 x0, .float .f32 x1, .float .f32 x2, .float .f32 x3, .float .f32 x4, .float .f32 x5, .float .f32 x6, .float .f32 x7]] ⟨[⟨true, (some (.cells [wsl 1, wsl 2]))⟩, ⟨true, (some (.strs x8))⟩, ⟨true, (some (.tab [.int .i8, .int .i16, .fl .f32] x9))⟩], 3, []⟩ = firstT [((Nat.beq ((r62 x0 x1 x2 x3 x4 x5 x6 x7 x8 x9).1) 0), wsl 3, ⟨[⟨true, (some (.cells [wsl 1, wsl 2]))⟩, ⟨true, (some (.strs x8))⟩, ⟨true, (some (.tab [.int .i8, .int .i16, .fl .f32] x9))⟩, ⟨true, (some (.tab [.fl .f32, .fl .f32] ((r62 x0 x1 x2 x3 x4 x5 x6 x7 x8 x9).2)))⟩], 3, []⟩)] :=
 (show evFn Try.prog ext T33 L62_1 200 Try.f62 [.pointer (some ⟨0, 0, some 0⟩), .agg #[.float .f32 x0, .float .f32 x1, .float .f32 x2, .float .f32 x3, .float .f32 x4, .float .f32 x5, .float .f32 x6, .float .f32 x7]] ⟨[⟨true, (some (.cells [wsl 1, wsl 2]))⟩, ⟨true, (some (.strs x8))⟩, ⟨true, (some (.tab [.int .i8, .int .i16, .fl .f32] x9))⟩], 3, []⟩ = w62 x0 x1 x2 x3 x4 x5 x6 x7 x8 x9 from by kernel_rfl).trans
 (show w62 x0 x1 x2 x3 x4 x5 x6 x7 x8 x9 = a62 x0 x1 x2 x3 x4 x5 x6 x7 x8 x9 (r62 x0 x1 x2 x3 x4 x5 x6 x7 x8 x9) from by unfold w62 r62; exact (cond_app (a62 x0 x1 x2 x3 x4 x5 x6 x7 x8 x9) _ rfl (cond_app (a62 x0 x1 x2 x3 x4 x5 x6 x7 x8 x9) _ rfl (cond_app (a62 x0 x1 x2 x3 x4 x5 x6 x7 x8 x9) _ rfl rfl))))
noncomputable def s62 (args : List Value) (s : St) : List (Bool × Value × St) :=
 match args, s.h with
 | [.pointer (some ⟨f0, f1, some f2⟩), .agg ⟨[.float .f32 x0, .float .f32 x1, .float .f32 x2, .float .f32 x3, .float .f32 x4, .float .f32 x5, .float .f32 x6, .float .f32 x7]⟩], [⟨true, some (.cells [.iface f3 .nilIface, .iface f4 .nilIface])⟩, ⟨true, some (.strs x8)⟩, ⟨true, some (.tab [.int .i8, .int .i16, .fl .f32] x9)⟩] => if f0 = 0 ∧ f1 = 0 ∧ f2 = 0 ∧ f3 = 1 ∧ f4 = 2 then [((Nat.beq ((r62 x0 x1 x2 x3 x4 x5 x6 x7 x8 x9).1) 0), wsl 3, ⟨[⟨true, (some (.cells [wsl 1, wsl 2]))⟩, ⟨true, (some (.strs x8))⟩, ⟨true, (some (.tab [.int .i8, .int .i16, .fl .f32] x9))⟩, ⟨true, (some (.tab [.fl .f32, .fl .f32] ((r62 x0 x1 x2 x3 x4 x5 x6 x7 x8 x9).2)))⟩], 3, []⟩)] else T33 62 args s
 | _, _ => T33 62 args s
noncomputable def T34 : CallF := addF T33 62 s62
set_option maxRecDepth 100000 in
set_option maxHeartbeats 4000000 in
theorem ok34 : CfOk Try.prog T34 := by
  refine cfOk_add ok33 fun args s r s' h1 h2 h3 => ?_
  unfold s62 at h3; split at h3
  · rename_i h; split at h3
    · rename_i hc; obtain ⟨rfl, rfl, rfl, rfl, rfl⟩ := hc; exact callOk ok33 Try.func62 h1 h2 h lok62_1.body (e62 _ _ _ _ _ _ _ _ _ _) rfl h3
    · exact ok33 _ _ _ _ _ h1 h2 h3
  · exact ok33 _ _ _ _ _ h1 h2 h3

/-- spec.ProveProgram -/
noncomputable def r31 (x0 x1 x2 x3 x4 x5 x6 x7 : Nat) (x8 : List ByteArray) (x9 : List (List Int)) : Nat × Int × List (List Int) :=
 cond (Nat.beq ((r67 x0 x1 x2 x3 x4 x5 x6 x7 x8 x9).1) 0)
  (cond ((((r67 x0 x1 x2 x3 x4 x5 x6 x7 x8 x9).2) : Int) != 0)
   (0, ((r67 x0 x1 x2 x3 x4 x5 x6 x7 x8 x9).2), ([] : List (List Int)))
   (cond (Nat.beq ((r62 x0 x1 x2 x3 x4 x5 x6 x7 x8 x9).1) 0)
    (0, 0, ((r62 x0 x1 x2 x3 x4 x5 x6 x7 x8 x9).2))
    (1, 0, [])))
  (1, 0, [])
noncomputable def a31 (x0 x1 x2 x3 x4 x5 x6 x7 : Nat) (x8 : List ByteArray) (x9 : List (List Int)) (p : Nat × Int × List (List Int)) : Res := firstT [((Nat.beq (p.1) 0), .tuple #[wsl 2, .int .i64 (p.2.1)], ⟨[⟨true, (some (.strs x8))⟩, ⟨true, (some (.tab [.int .i8, .int .i16, .fl .f32] x9))⟩, ⟨true, (some (.tab [.fl .f32, .fl .f32] (p.2.2)))⟩], 2, []⟩)]
noncomputable def w31 (x0 x1 x2 x3 x4 x5 x6 x7 : Nat) (x8 : List ByteArray) (x9 : List (List Int)) : Res :=
 (cond (Nat.beq ((r67 x0 x1 x2 x3 x4 x5 x6 x7 x8 x9).1) 0)
 (cond ((((r67 x0 x1 x2 x3 x4 x5 x6 x7 x8 x9).2) : Int) != 0)
  (a31 x0 x1 x2 x3 x4 x5 x6 x7 x8 x9 (0, ((r67 x0 x1 x2 x3 x4 x5 x6 x7 x8 x9).2), ([] : List (List Int))))
  (cond (Nat.beq ((r62 x0 x1 x2 x3 x4 x5 x6 x7 x8 x9).1) 0)
   (a31 x0 x1 x2 x3 x4 x5 x6 x7 x8 x9 (0, 0, ((r62 x0 x1 x2 x3 x4 x5 x6 x7 x8 x9).2)))
   none))
 none)
set_option maxRecDepth 100000 in
set_option maxHeartbeats 4000000 in
theorem e31 (x0 x1 x2 x3 x4 x5 x6 x7 : Nat) (x8 : List ByteArray) (x9 : List (List Int)) : evFn Try.prog ext T34 noL 200 Try.f31 [.agg #[wsl 0, wsl 1], .agg #[.float .f32 x0, .float .f32 x1, .float .f32 x2, .float .f32 x3, .float .f32 x4, .float .f32 x5, .float .f32 x6, .float .f32 x7]] ⟨[⟨true, (some (.strs x8))⟩, ⟨true, (some (.tab [.int .i8, .int .i16, .fl .f32] x9))⟩], 2, []⟩ = firstT [((Nat.beq ((r31 x0 x1 x2 x3 x4 x5 x6 x7 x8 x9).1) 0), .tuple #[wsl 2, .int .i64 ((r31 x0 x1 x2 x3 x4 x5 x6 x7 x8 x9).2.1)], ⟨[⟨true, (some (.strs x8))⟩, ⟨true, (some (.tab [.int .i8, .int .i16, .fl .f32] x9))⟩, ⟨true, (some (.tab [.fl .f32, .fl .f32] ((r31 x0 x1 x2 x3 x4 x5 x6 x7 x8 x9).2.2)))⟩], 2, []⟩)] :=
 (show evFn Try.prog ext T34 noL 200 Try.f31 [.agg #[wsl 0, wsl 1], .agg #[.float .f32 x0, .float .f32 x1, .float .f32 x2, .float .f32 x3, .float .f32 x4, .float .f32 x5, .float .f32 x6, .float .f32 x7]] ⟨[⟨true, (some (.strs x8))⟩, ⟨true, (some (.tab [.int .i8, .int .i16, .fl .f32] x9))⟩], 2, []⟩ = w31 x0 x1 x2 x3 x4 x5 x6 x7 x8 x9 from by kernel_rfl).trans
 (show w31 x0 x1 x2 x3 x4 x5 x6 x7 x8 x9 = a31 x0 x1 x2 x3 x4 x5 x6 x7 x8 x9 (r31 x0 x1 x2 x3 x4 x5 x6 x7 x8 x9) from by unfold w31 r31; exact (cond_app (a31 x0 x1 x2 x3 x4 x5 x6 x7 x8 x9) _ (cond_app (a31 x0 x1 x2 x3 x4 x5 x6 x7 x8 x9) _ rfl (cond_app (a31 x0 x1 x2 x3 x4 x5 x6 x7 x8 x9) _ rfl rfl)) rfl))
noncomputable def s31 (args : List Value) (s : St) : List (Bool × Value × St) :=
 match args, s.h with
 | [.agg ⟨[.iface f0 .nilIface, .iface f1 .nilIface]⟩, .agg ⟨[.float .f32 x0, .float .f32 x1, .float .f32 x2, .float .f32 x3, .float .f32 x4, .float .f32 x5, .float .f32 x6, .float .f32 x7]⟩], [⟨true, some (.strs x8)⟩, ⟨true, some (.tab [.int .i8, .int .i16, .fl .f32] x9)⟩] => if f0 = 0 ∧ f1 = 1 then [((Nat.beq ((r31 x0 x1 x2 x3 x4 x5 x6 x7 x8 x9).1) 0), .tuple #[wsl 2, .int .i64 ((r31 x0 x1 x2 x3 x4 x5 x6 x7 x8 x9).2.1)], ⟨[⟨true, (some (.strs x8))⟩, ⟨true, (some (.tab [.int .i8, .int .i16, .fl .f32] x9))⟩, ⟨true, (some (.tab [.fl .f32, .fl .f32] ((r31 x0 x1 x2 x3 x4 x5 x6 x7 x8 x9).2.2)))⟩], 2, []⟩)] else T34 31 args s
 | _, _ => T34 31 args s
noncomputable def T35 : CallF := addF T34 31 s31
set_option maxRecDepth 100000 in
set_option maxHeartbeats 4000000 in
theorem ok35 : CfOk Try.prog T35 := by
  refine cfOk_add ok34 fun args s r s' h1 h2 h3 => ?_
  unfold s31 at h3; split at h3
  · rename_i h; split at h3
    · rename_i hc; obtain ⟨rfl, rfl⟩ := hc; exact callOk ok34 Try.func31 h1 h2 h (lfOkF_no _ _).body (e31 _ _ _ _ _ _ _ _ _ _) rfl h3
    · exact ok34 _ _ _ _ _ h1 h2 h3
  · exact ok34 _ _ _ _ _ h1 h2 h3

/-- impl.isWord -/
noncomputable def r78 (x0 : ByteArray) : Bool :=
 cond (x0.toList == (ByteArray.mk #[109, 105, 110]).toList)
  (true)
  (cond (x0.toList == (ByteArray.mk #[109, 97, 120]).toList)
   (true)
   ((x0.toList == (ByteArray.mk #[112, 105, 99, 107]).toList)))
noncomputable def a78 (x0 : ByteArray) (p : Bool) : Res := firstT [(true, .bool p, st0)]
noncomputable def w78 (x0 : ByteArray) : Res :=
 (cond (x0.toList == (ByteArray.mk #[109, 105, 110]).toList)
 (a78 x0 (true))
 (cond (x0.toList == (ByteArray.mk #[109, 97, 120]).toList)
  (a78 x0 (true))
  (a78 x0 ((x0.toList == (ByteArray.mk #[112, 105, 99, 107]).toList)))))
set_option maxRecDepth 100000 in
set_option maxHeartbeats 4000000 in
theorem e78 (x0 : ByteArray) : evFn Try.prog ext T35 noL 200 Try.f78 [.string x0] st0 = firstT [(true, .bool (r78 x0), st0)] :=
 (show evFn Try.prog ext T35 noL 200 Try.f78 [.string x0] st0 = w78 x0 from by kernel_rfl).trans
 (show w78 x0 = a78 x0 (r78 x0) from by unfold w78 r78; exact (cond_app (a78 x0) _ rfl (cond_app (a78 x0) _ rfl rfl)))
noncomputable def s78 (args : List Value) (s : St) : List (Bool × Value × St) :=
 match args, s.h with
 | [.string x0], [] => [(true, .bool (r78 x0), st0)]
 | _, _ => T35 78 args s
noncomputable def T36 : CallF := addF T35 78 s78
set_option maxRecDepth 100000 in
set_option maxHeartbeats 4000000 in
theorem ok36 : CfOk Try.prog T36 := by
  refine cfOk_add ok35 fun args s r s' h1 h2 h3 => ?_
  unfold s78 at h3; split at h3
  · rename_i h; exact callOk ok35 Try.func78 h1 h2 h (lfOkF_no _ _).body (e78 _) rfl h3
  · exact ok35 _ _ _ _ _ h1 h2 h3

/-- impl.isName, loop 0: one round -/
noncomputable def b49l0 (ih : ByteArray → Int → Int → Nat) (x0 : ByteArray) (x1 x2 : Int) : Nat :=
 cond (decide ((x2 : Int) < x1))
  (cond ((decide ((0 : Int) ≤ x2)) && (Nat.blt (Int.toNat x2) (x0.size)))
   (cond (decide ((((UInt8.toNat (List.getD (ByteArray.data x0).toList (Int.toNat x2) 0) : Nat) : Int) : Int) < 97))
    (0)
    (cond (decide ((((UInt8.toNat (List.getD (ByteArray.data x0).toList (Int.toNat x2) 0) : Nat) : Int) : Int) > 122))
     (0)
     (ih x0 x1 (IntKind.i64.wrap (x2 + 1)))))
   (2))
  (1)
noncomputable def r49l0 : Nat → ByteArray → Int → Int → Nat
 | 0 => fun _ _ _ => (2)
 | m + 1 => b49l0 (r49l0 m)
noncomputable def a49l0 (x0 : ByteArray) (x1 x2 : Int) (p : Nat) : Option (Fin' × List Value × St) := firstT ([((Nat.beq p 0), .ret, [.bool false], st0), ((Nat.beq p 1), .exit 0, [anyV], st0)].map fun (b, x) => (b, (x.1, frameOf 32 [2] x.2.1, x.2.2)))
noncomputable def u49l0 (x0 : ByteArray) (x1 x2 : Int) (p : Nat) : Option (Fin' × List Value × St) := alts ([((Nat.beq p 0), .ret, [.bool false], st0), ((Nat.beq p 1), .exit 0, [anyV], st0)].map fun (b, x) => (b, (x.1, frameOf 32 [2] x.2.1, x.2.2))) some
theorem v49l0 (x0 : ByteArray) (x1 x2 : Int) (p : Nat) : u49l0 x0 x1 x2 p = a49l0 x0 x1 x2 p := alts_first _
noncomputable def q49l0 (m : Nat) : SumK := fun vals s =>
 match vals, s.h with
 | [.string x0, .int .i64 x1, .int .i64 x2], [] => [((Nat.beq (r49l0 m x0 x1 x2) 0), .ret, [.bool false], st0), ((Nat.beq (r49l0 m x0 x1 x2) 1), .exit 0, [anyV], st0)]
 | _, _ => noQ vals s
noncomputable def w49l0 (ih : ByteArray → Int → Int → Nat) (x0 : ByteArray) (x1 x2 : Int) : Option (Fin' × List Value × St) :=
 (cond (decide ((x2 : Int) < x1))
 (cond ((decide ((0 : Int) ≤ x2)) && (Nat.blt (Int.toNat x2) (x0.size)))
  (cond (decide ((((UInt8.toNat (List.getD (ByteArray.data x0).toList (Int.toNat x2) 0) : Nat) : Int) : Int) < 97))
   (a49l0 x0 x1 x2 (0))
   (cond ((decide ((0 : Int) ≤ x2)) && (Nat.blt (Int.toNat x2) (x0.size)))
    (cond (decide ((((UInt8.toNat (List.getD (ByteArray.data x0).toList (Int.toNat x2) 0) : Nat) : Int) : Int) > 122))
     (a49l0 x0 x1 x2 (0))
     (u49l0 x0 x1 x2 (ih x0 x1 (IntKind.i64.wrap (x2 + 1)))))
    none))
  none)
 (a49l0 x0 x1 x2 (1)))
set_option maxRecDepth 100000 in
set_option maxHeartbeats 4000000 in
theorem e49l0 (m : Nat) (x0 : ByteArray) (x1 x2 : Int) : evC Try.prog ext T36 noL 200 (loopN Try.f49 0) (loopTail ([0, 17, 18], []) [2] [] (sumK 32 [0, 17, 18] [2] (q49l0 m))) (frameOf 32 [0, 17, 18] [.string x0, .int .i64 x1, .int .i64 x2]) ⟨[], 0, []⟩ = firstT ([((Nat.beq (r49l0 (m + 1) x0 x1 x2) 0), .ret, [.bool false], st0), ((Nat.beq (r49l0 (m + 1) x0 x1 x2) 1), .exit 0, [anyV], st0)].map fun (b, x) => (b, (x.1, frameOf 32 [2] x.2.1, x.2.2))) :=
 (show evC Try.prog ext T36 noL 200 (loopN Try.f49 0) (loopTail ([0, 17, 18], []) [2] [] (sumK 32 [0, 17, 18] [2] (q49l0 m))) (frameOf 32 [0, 17, 18] [.string x0, .int .i64 x1, .int .i64 x2]) ⟨[], 0, []⟩ = w49l0 (r49l0 m) x0 x1 x2 from by kernel_rfl).trans
 (show w49l0 (r49l0 m) x0 x1 x2 = a49l0 x0 x1 x2 (r49l0 (m + 1) x0 x1 x2) from by unfold w49l0; show _ = a49l0 x0 x1 x2 (b49l0 (r49l0 m) x0 x1 x2); unfold b49l0; exact (cond_both (a49l0 x0 x1 x2) _ (fun h0 => (cond_both (a49l0 x0 x1 x2) _ (fun h1 => (cond_both (a49l0 x0 x1 x2) _ (fun h2 => rfl) (fun h2 => (cond_t h1 (cond_app (a49l0 x0 x1 x2) _ rfl (v49l0 x0 x1 x2 ((r49l0 m) x0 x1 (IntKind.i64.wrap (x2 + 1))))))))) (fun h1 => rfl))) (fun h0 => rfl)))
set_option maxRecDepth 100000 in
set_option maxHeartbeats 4000000 in
theorem qm49l0 : ∀ m, SumKOk Try.prog (loopN Try.f49 0) 32 [0, 17, 18] [2] (q49l0 m) := by
  intro m
  induction m with
  | zero =>
    intro vals s x h1 h2 h3
    unfold q49l0 at h3; split at h3
    · rename_i h; exact absurd h3 (by simp [r49l0, firstT, Nat.beq])
    · exact noQ_ok _ _ _ h1 h2 h3
  | succ m ih =>
    intro vals s x h1 h2 h3
    unfold q49l0 at h3; split at h3
    · rename_i h; exact sum_step ok36 extOk mixed ((lfOkF_no _ _).inner (by kernel_rfl)) ih h1 h2 h (e49l0 m _ _ _) rfl h3
    · exact noQ_ok _ _ _ h1 h2 h3
noncomputable def Q49l0 : SumK := fun vals s => q49l0 (fuelOf vals s.h) vals s
theorem qok49l0 : SumKOk Try.prog (loopN Try.f49 0) 32 [0, 17, 18] [2] Q49l0 := fuel_ok qm49l0 fuelOf
noncomputable def L49_1 : LoopT := addL noL 5 ([0, 17, 18], []) (sumK 32 [0, 17, 18] [2] Q49l0)
theorem lok49_1 : LfOkF Try.prog L49_1 Try.f49 := lfOkF_add (lfOkF_no _ _) qok49l0 (by kernel_rfl) (by kernel_rfl) (by kernel_rfl)

/-- impl.isName -/
noncomputable def r49 (x0 : ByteArray) : Nat × Bool :=
 cond (decide (((((x0.size) : Nat) : Int) : Int) < 1))
  (0, false)
  (cond (decide (((((x0.size) : Nat) : Int) : Int) > 8))
   (0, false)
   (cond (r78 x0)
    (0, false)
    (cond (Nat.beq (r49l0 (1000 + (x0.size)) x0 (((x0.size) : Nat) : Int) 0) 0)
     (0, false)
     (cond (Nat.beq (r49l0 (1000 + (x0.size)) x0 (((x0.size) : Nat) : Int) 0) 1)
      (0, true)
      (1, false)))))
noncomputable def a49 (x0 : ByteArray) (p : Nat × Bool) : Res := firstT [((Nat.beq (p.1) 0), .bool (p.2), st0)]
noncomputable def w49 (x0 : ByteArray) : Res :=
 (cond (decide (((((x0.size) : Nat) : Int) : Int) < 1))
 (a49 x0 (0, false))
 (cond (decide (((((x0.size) : Nat) : Int) : Int) > 8))
  (a49 x0 (0, false))
  (cond (r78 x0)
   (a49 x0 (0, false))
   (cond (Nat.beq (r49l0 (1000 + (x0.size)) x0 (((x0.size) : Nat) : Int) 0) 0)
    (a49 x0 (0, false))
    (cond (Nat.beq (r49l0 (1000 + (x0.size)) x0 (((x0.size) : Nat) : Int) 0) 1)
     (a49 x0 (0, true))
     none)))))
set_option maxRecDepth 100000 in
set_option maxHeartbeats 4000000 in
theorem e49 (x0 : ByteArray) : evFn Try.prog ext T36 L49_1 200 Try.f49 [.string x0] st0 = firstT [((Nat.beq ((r49 x0).1) 0), .bool ((r49 x0).2), st0)] :=
 (show evFn Try.prog ext T36 L49_1 200 Try.f49 [.string x0] st0 = w49 x0 from by kernel_rfl).trans
 (show w49 x0 = a49 x0 (r49 x0) from by unfold w49 r49; exact (cond_app (a49 x0) _ rfl (cond_app (a49 x0) _ rfl (cond_app (a49 x0) _ rfl (cond_app (a49 x0) _ rfl (cond_app (a49 x0) _ rfl rfl))))))
noncomputable def s49 (args : List Value) (s : St) : List (Bool × Value × St) :=
 match args, s.h with
 | [.string x0], [] => [((Nat.beq ((r49 x0).1) 0), .bool ((r49 x0).2), st0)]
 | _, _ => T36 49 args s
noncomputable def T37 : CallF := addF T36 49 s49
set_option maxRecDepth 100000 in
set_option maxHeartbeats 4000000 in
theorem ok37 : CfOk Try.prog T37 := by
  refine cfOk_add ok36 fun args s r s' h1 h2 h3 => ?_
  unfold s49 at h3; split at h3
  · rename_i h; exact callOk ok36 Try.func49 h1 h2 h lok49_1.body (e49 _) rfl h3
  · exact ok36 _ _ _ _ _ h1 h2 h3

/-- slices.Index[[]string,string], loop 0: one round -/
noncomputable def b56l0 (ih : Nat → Nat → ByteArray → Int → Int → List ByteArray → (Nat × Int)) (x0 x1 : Nat) (x2 : ByteArray) (x3 x4 : Int) (x5 : List ByteArray) : Nat × Int :=
 cond (decide ((x4 : Int) < x3))
  (cond ((decide ((0 : Int) ≤ x4)) && (Nat.blt (Int.toNat x4) x0))
   (cond (Nat.blt (0 + (Int.toNat x4)) x5.length)
    (cond (x2.toList == (x5.getD (0 + (Int.toNat x4)) .empty).toList)
     (0, x4)
     (ih x0 x1 x2 x3 (IntKind.i64.wrap (x4 + 1)) x5))
    (2, 0))
   (2, 0))
  (1, 0)
noncomputable def r56l0 : Nat → Nat → Nat → ByteArray → Int → Int → List ByteArray → (Nat × Int)
 | 0 => fun _ _ _ _ _ _ => (2, 0)
 | m + 1 => b56l0 (r56l0 m)
noncomputable def a56l0 (x0 x1 : Nat) (x2 : ByteArray) (x3 x4 : Int) (x5 : List ByteArray) (p : Nat × Int) : Option (Fin' × List Value × St) := firstT ([((Nat.beq (p.1) 0), .ret, [.int .i64 (p.2)], ⟨[⟨true, (some (.strs x5))⟩], 1, []⟩), ((Nat.beq (p.1) 1), .exit 0, [anyV], ⟨[⟨true, (some (.strs x5))⟩], 1, []⟩)].map fun (b, x) => (b, (x.1, frameOf 19 [4] x.2.1, x.2.2)))
noncomputable def u56l0 (x0 x1 : Nat) (x2 : ByteArray) (x3 x4 : Int) (x5 : List ByteArray) (p : Nat × Int) : Option (Fin' × List Value × St) := alts ([((Nat.beq (p.1) 0), .ret, [.int .i64 (p.2)], ⟨[⟨true, (some (.strs x5))⟩], 1, []⟩), ((Nat.beq (p.1) 1), .exit 0, [anyV], ⟨[⟨true, (some (.strs x5))⟩], 1, []⟩)].map fun (b, x) => (b, (x.1, frameOf 19 [4] x.2.1, x.2.2))) some
theorem v56l0 (x0 x1 : Nat) (x2 : ByteArray) (x3 x4 : Int) (x5 : List ByteArray) (p : Nat × Int) : u56l0 x0 x1 x2 x3 x4 x5 p = a56l0 x0 x1 x2 x3 x4 x5 p := alts_first _
noncomputable def q56l0 (m : Nat) : SumK := fun vals s =>
 match vals, s.h with
 | [.slice (some ⟨f0, f1, some f2⟩) x0 x1, .string x2, .int .i64 x3, .int .i64 x4], [⟨true, some (.strs x5)⟩] => if f0 = 0 ∧ f1 = 0 ∧ f2 = 0 then [((Nat.beq ((r56l0 m x0 x1 x2 x3 x4 x5).1) 0), .ret, [.int .i64 ((r56l0 m x0 x1 x2 x3 x4 x5).2)], ⟨[⟨true, (some (.strs x5))⟩], 1, []⟩), ((Nat.beq ((r56l0 m x0 x1 x2 x3 x4 x5).1) 1), .exit 0, [anyV], ⟨[⟨true, (some (.strs x5))⟩], 1, []⟩)] else noQ vals s
 | _, _ => noQ vals s
noncomputable def w56l0 (ih : Nat → Nat → ByteArray → Int → Int → List ByteArray → (Nat × Int)) (x0 x1 : Nat) (x2 : ByteArray) (x3 x4 : Int) (x5 : List ByteArray) : Option (Fin' × List Value × St) :=
 (cond (decide ((x4 : Int) < x3))
 (cond ((decide ((0 : Int) ≤ x4)) && (Nat.blt (Int.toNat x4) x0))
  (cond (Nat.blt (0 + (Int.toNat x4)) x5.length)
   (cond (x2.toList == (x5.getD (0 + (Int.toNat x4)) .empty).toList)
    (a56l0 x0 x1 x2 x3 x4 x5 (0, x4))
    (u56l0 x0 x1 x2 x3 x4 x5 (ih x0 x1 x2 x3 (IntKind.i64.wrap (x4 + 1)) x5)))
   none)
  none)
 (a56l0 x0 x1 x2 x3 x4 x5 (1, 0)))
set_option maxRecDepth 100000 in
set_option maxHeartbeats 4000000 in
theorem e56l0 (m : Nat) (x0 x1 : Nat) (x2 : ByteArray) (x3 x4 : Int) (x5 : List ByteArray) : evC Try.prog ext T37 noL 200 (loopN Try.f56 0) (loopTail ([0, 1, 7, 8], []) [4] [] (sumK 19 [0, 1, 7, 8] [4] (q56l0 m))) (frameOf 19 [0, 1, 7, 8] [.slice (some ⟨0, 0, some 0⟩) x0 x1, .string x2, .int .i64 x3, .int .i64 x4]) ⟨[⟨true, (some (.strs x5))⟩], 1, []⟩ = firstT ([((Nat.beq ((r56l0 (m + 1) x0 x1 x2 x3 x4 x5).1) 0), .ret, [.int .i64 ((r56l0 (m + 1) x0 x1 x2 x3 x4 x5).2)], ⟨[⟨true, (some (.strs x5))⟩], 1, []⟩), ((Nat.beq ((r56l0 (m + 1) x0 x1 x2 x3 x4 x5).1) 1), .exit 0, [anyV], ⟨[⟨true, (some (.strs x5))⟩], 1, []⟩)].map fun (b, x) => (b, (x.1, frameOf 19 [4] x.2.1, x.2.2))) :=
 (show evC Try.prog ext T37 noL 200 (loopN Try.f56 0) (loopTail ([0, 1, 7, 8], []) [4] [] (sumK 19 [0, 1, 7, 8] [4] (q56l0 m))) (frameOf 19 [0, 1, 7, 8] [.slice (some ⟨0, 0, some 0⟩) x0 x1, .string x2, .int .i64 x3, .int .i64 x4]) ⟨[⟨true, (some (.strs x5))⟩], 1, []⟩ = w56l0 (r56l0 m) x0 x1 x2 x3 x4 x5 from by kernel_rfl).trans
 (show w56l0 (r56l0 m) x0 x1 x2 x3 x4 x5 = a56l0 x0 x1 x2 x3 x4 x5 (r56l0 (m + 1) x0 x1 x2 x3 x4 x5) from by unfold w56l0; show _ = a56l0 x0 x1 x2 x3 x4 x5 (b56l0 (r56l0 m) x0 x1 x2 x3 x4 x5); unfold b56l0; exact (cond_app (a56l0 x0 x1 x2 x3 x4 x5) _ (cond_app (a56l0 x0 x1 x2 x3 x4 x5) _ (cond_app (a56l0 x0 x1 x2 x3 x4 x5) _ (cond_app (a56l0 x0 x1 x2 x3 x4 x5) _ rfl (v56l0 x0 x1 x2 x3 x4 x5 ((r56l0 m) x0 x1 x2 x3 (IntKind.i64.wrap (x4 + 1)) x5))) rfl) rfl) rfl))
set_option maxRecDepth 100000 in
set_option maxHeartbeats 4000000 in
theorem qm56l0 : ∀ m, SumKOk Try.prog (loopN Try.f56 0) 19 [0, 1, 7, 8] [4] (q56l0 m) := by
  intro m
  induction m with
  | zero =>
    intro vals s x h1 h2 h3
    unfold q56l0 at h3; split at h3
    · rename_i h; split at h3
      · rename_i hc; obtain ⟨rfl, rfl, rfl⟩ := hc; exact absurd h3 (by simp [r56l0, firstT, Nat.beq])
      · exact noQ_ok _ _ _ h1 h2 h3
    · exact noQ_ok _ _ _ h1 h2 h3
  | succ m ih =>
    intro vals s x h1 h2 h3
    unfold q56l0 at h3; split at h3
    · rename_i h; split at h3
      · rename_i hc; obtain ⟨rfl, rfl, rfl⟩ := hc; exact sum_step ok37 extOk mixed ((lfOkF_no _ _).inner (by kernel_rfl)) ih h1 h2 h (e56l0 m _ _ _ _ _ _) rfl h3
      · exact noQ_ok _ _ _ h1 h2 h3
    · exact noQ_ok _ _ _ h1 h2 h3
noncomputable def Q56l0 : SumK := fun vals s => q56l0 (fuelOf vals s.h) vals s
theorem qok56l0 : SumKOk Try.prog (loopN Try.f56 0) 19 [0, 1, 7, 8] [4] Q56l0 := fuel_ok qm56l0 fuelOf
noncomputable def L56_1 : LoopT := addL noL 3 ([0, 1, 7, 8], []) (sumK 19 [0, 1, 7, 8] [4] Q56l0)
theorem lok56_1 : LfOkF Try.prog L56_1 Try.f56 := lfOkF_add (lfOkF_no _ _) qok56l0 (by kernel_rfl) (by kernel_rfl) (by kernel_rfl)

/-- slices.Index[[]string,string] -/
noncomputable def r56 (x0 x1 : Nat) (x2 : ByteArray) (x3 : List ByteArray) : Nat × Int :=
 cond (Nat.beq ((r56l0 (1000 + x3.length + (x2.size)) x0 x1 x2 ((x0 : Nat) : Int) 0 x3).1) 0)
  (0, ((r56l0 (1000 + x3.length + (x2.size)) x0 x1 x2 ((x0 : Nat) : Int) 0 x3).2))
  (cond (Nat.beq ((r56l0 (1000 + x3.length + (x2.size)) x0 x1 x2 ((x0 : Nat) : Int) 0 x3).1) 1)
   (0, (-1))
   (1, 0))
noncomputable def a56 (x0 x1 : Nat) (x2 : ByteArray) (x3 : List ByteArray) (p : Nat × Int) : Res := firstT [((Nat.beq (p.1) 0), .int .i64 (p.2), ⟨[⟨true, (some (.strs x3))⟩], 1, []⟩)]
noncomputable def w56 (x0 x1 : Nat) (x2 : ByteArray) (x3 : List ByteArray) : Res :=
 (cond (Nat.beq ((r56l0 (1000 + x3.length + (x2.size)) x0 x1 x2 ((x0 : Nat) : Int) 0 x3).1) 0)
 (a56 x0 x1 x2 x3 (0, ((r56l0 (1000 + x3.length + (x2.size)) x0 x1 x2 ((x0 : Nat) : Int) 0 x3).2)))
 (cond (Nat.beq ((r56l0 (1000 + x3.length + (x2.size)) x0 x1 x2 ((x0 : Nat) : Int) 0 x3).1) 1)
  (a56 x0 x1 x2 x3 (0, (-1)))
  none))
set_option maxRecDepth 100000 in
set_option maxHeartbeats 4000000 in
theorem e56 (x0 x1 : Nat) (x2 : ByteArray) (x3 : List ByteArray) : evFn Try.prog ext T37 L56_1 200 Try.f56 [.slice (some ⟨0, 0, some 0⟩) x0 x1, .string x2] ⟨[⟨true, (some (.strs x3))⟩], 1, []⟩ = firstT [((Nat.beq ((r56 x0 x1 x2 x3).1) 0), .int .i64 ((r56 x0 x1 x2 x3).2), ⟨[⟨true, (some (.strs x3))⟩], 1, []⟩)] :=
 (show evFn Try.prog ext T37 L56_1 200 Try.f56 [.slice (some ⟨0, 0, some 0⟩) x0 x1, .string x2] ⟨[⟨true, (some (.strs x3))⟩], 1, []⟩ = w56 x0 x1 x2 x3 from by kernel_rfl).trans
 (show w56 x0 x1 x2 x3 = a56 x0 x1 x2 x3 (r56 x0 x1 x2 x3) from by unfold w56 r56; exact (cond_app (a56 x0 x1 x2 x3) _ rfl (cond_app (a56 x0 x1 x2 x3) _ rfl rfl)))
noncomputable def s56 (args : List Value) (s : St) : List (Bool × Value × St) :=
 match args, s.h with
 | [.slice (some ⟨f0, f1, some f2⟩) x0 x1, .string x2], [⟨true, some (.strs x3)⟩] => if f0 = 0 ∧ f1 = 0 ∧ f2 = 0 then [((Nat.beq ((r56 x0 x1 x2 x3).1) 0), .int .i64 ((r56 x0 x1 x2 x3).2), ⟨[⟨true, (some (.strs x3))⟩], 1, []⟩)] else T37 56 args s
 | _, _ => T37 56 args s
noncomputable def T38 : CallF := addF T37 56 s56
set_option maxRecDepth 100000 in
set_option maxHeartbeats 4000000 in
theorem ok38 : CfOk Try.prog T38 := by
  refine cfOk_add ok37 fun args s r s' h1 h2 h3 => ?_
  unfold s56 at h3; split at h3
  · rename_i h; split at h3
    · rename_i hc; obtain ⟨rfl, rfl, rfl⟩ := hc; exact callOk ok37 Try.func56 h1 h2 h lok56_1.body (e56 _ _ _ _) rfl h3
    · exact ok37 _ _ _ _ _ h1 h2 h3
  · exact ok37 _ _ _ _ _ h1 h2 h3

/-- slices.Contains[[]string,string] -/
noncomputable def r50 (x0 x1 : Nat) (x2 : ByteArray) (x3 : List ByteArray) : Nat × Bool :=
 cond (Nat.beq ((r56 x0 x1 x2 x3).1) 0)
  (0, (decide ((((r56 x0 x1 x2 x3).2) : Int) ≥ 0)))
  (1, false)
noncomputable def a50 (x0 x1 : Nat) (x2 : ByteArray) (x3 : List ByteArray) (p : Nat × Bool) : Res := firstT [((Nat.beq (p.1) 0), .bool (p.2), ⟨[⟨true, (some (.strs x3))⟩], 1, []⟩)]
noncomputable def w50 (x0 x1 : Nat) (x2 : ByteArray) (x3 : List ByteArray) : Res :=
 (cond (Nat.beq ((r56 x0 x1 x2 x3).1) 0)
 (a50 x0 x1 x2 x3 (0, (decide ((((r56 x0 x1 x2 x3).2) : Int) ≥ 0))))
 none)
set_option maxRecDepth 100000 in
set_option maxHeartbeats 4000000 in
theorem e50 (x0 x1 : Nat) (x2 : ByteArray) (x3 : List ByteArray) : evFn Try.prog ext T38 noL 200 Try.f50 [.slice (some ⟨0, 0, some 0⟩) x0 x1, .string x2] ⟨[⟨true, (some (.strs x3))⟩], 1, []⟩ = firstT [((Nat.beq ((r50 x0 x1 x2 x3).1) 0), .bool ((r50 x0 x1 x2 x3).2), ⟨[⟨true, (some (.strs x3))⟩], 1, []⟩)] :=
 (show evFn Try.prog ext T38 noL 200 Try.f50 [.slice (some ⟨0, 0, some 0⟩) x0 x1, .string x2] ⟨[⟨true, (some (.strs x3))⟩], 1, []⟩ = w50 x0 x1 x2 x3 from by kernel_rfl).trans
 (show w50 x0 x1 x2 x3 = a50 x0 x1 x2 x3 (r50 x0 x1 x2 x3) from by unfold w50 r50; exact (cond_app (a50 x0 x1 x2 x3) _ rfl rfl))
noncomputable def s50 (args : List Value) (s : St) : List (Bool × Value × St) :=
 match args, s.h with
 | [.slice (some ⟨f0, f1, some f2⟩) x0 x1, .string x2], [⟨true, some (.strs x3)⟩] => if f0 = 0 ∧ f1 = 0 ∧ f2 = 0 then [((Nat.beq ((r50 x0 x1 x2 x3).1) 0), .bool ((r50 x0 x1 x2 x3).2), ⟨[⟨true, (some (.strs x3))⟩], 1, []⟩)] else T38 50 args s
 | _, _ => T38 50 args s
noncomputable def T39 : CallF := addF T38 50 s50
set_option maxRecDepth 100000 in
set_option maxHeartbeats 4000000 in
theorem ok39 : CfOk Try.prog T39 := by
  refine cfOk_add ok38 fun args s r s' h1 h2 h3 => ?_
  unfold s50 at h3; split at h3
  · rename_i h; split at h3
    · rename_i hc; obtain ⟨rfl, rfl, rfl⟩ := hc; exact callOk ok38 Try.func50 h1 h2 h (lfOkF_no _ _).body (e50 _ _ _ _) rfl h3
    · exact ok38 _ _ _ _ _ h1 h2 h3
  · exact ok38 _ _ _ _ _ h1 h2 h3

/-- impl.ValidProgram, loop 0: one round -/
noncomputable def b16l0 (ih : Int → Int → List ByteArray → List (List Int) → Nat) (x0 x1 : Int) (x2 : List ByteArray) (x3 : List (List Int)) : Nat :=
 cond (decide ((x1 : Int) < x0))
  (cond ((decide ((0 : Int) ≤ x1)) && (Nat.blt (Int.toNat x1) x2.length))
   (cond (Nat.beq ((r49 (x2.getD (Int.toNat x1) .empty)).1) 0)
    (cond (!((r49 (x2.getD (Int.toNat x1) .empty)).2))
     (0)
     (cond ((Nat.blt 0 x2.length) && (((decide ((0 : Int) ≤ x1)) && (Nat.ble 0 (Int.toNat x1))) && (Nat.ble (Int.toNat x1) x2.length)))
      (cond (Nat.beq ((r50 (Int.toNat x1) x2.length (x2.getD (Int.toNat x1) .empty) x2).1) 0)
       (cond ((r50 (Int.toNat x1) x2.length (x2.getD (Int.toNat x1) .empty) x2).2)
        (0)
        (ih x0 (IntKind.i64.wrap (x1 + 1)) x2 x3))
       (2))
      (2)))
    (2))
   (2))
  (1)
noncomputable def r16l0 : Nat → Int → Int → List ByteArray → List (List Int) → Nat
 | 0 => fun _ _ _ _ => (2)
 | m + 1 => b16l0 (r16l0 m)
noncomputable def a16l0 (x0 x1 : Int) (x2 : List ByteArray) (x3 : List (List Int)) (p : Nat) : Option (Fin' × List Value × St) := firstT ([((Nat.beq p 0), .ret, [.pointer (some ⟨0, 0, some 0⟩), .bool false], ⟨[⟨true, (some (.cells [wsl 1, wsl 2]))⟩, ⟨true, (some (.strs x2))⟩, ⟨true, (some (.tab [.int .i8, .int .i16, .fl .f32] x3))⟩], 3, []⟩), ((Nat.beq p 1), .exit 0, [.pointer (some ⟨0, 0, some 0⟩), anyV], ⟨[⟨true, (some (.cells [wsl 1, wsl 2]))⟩, ⟨true, (some (.strs x2))⟩, ⟨true, (some (.tab [.int .i8, .int .i16, .fl .f32] x3))⟩], 3, []⟩)].map fun (b, x) => (b, (x.1, frameOf 161 [1, 2] x.2.1, x.2.2)))
noncomputable def u16l0 (x0 x1 : Int) (x2 : List ByteArray) (x3 : List (List Int)) (p : Nat) : Option (Fin' × List Value × St) := alts ([((Nat.beq p 0), .ret, [.pointer (some ⟨0, 0, some 0⟩), .bool false], ⟨[⟨true, (some (.cells [wsl 1, wsl 2]))⟩, ⟨true, (some (.strs x2))⟩, ⟨true, (some (.tab [.int .i8, .int .i16, .fl .f32] x3))⟩], 3, []⟩), ((Nat.beq p 1), .exit 0, [.pointer (some ⟨0, 0, some 0⟩), anyV], ⟨[⟨true, (some (.cells [wsl 1, wsl 2]))⟩, ⟨true, (some (.strs x2))⟩, ⟨true, (some (.tab [.int .i8, .int .i16, .fl .f32] x3))⟩], 3, []⟩)].map fun (b, x) => (b, (x.1, frameOf 161 [1, 2] x.2.1, x.2.2))) some
theorem v16l0 (x0 x1 : Int) (x2 : List ByteArray) (x3 : List (List Int)) (p : Nat) : u16l0 x0 x1 x2 x3 p = a16l0 x0 x1 x2 x3 p := alts_first _
noncomputable def q16l0 (m : Nat) : SumK := fun vals s =>
 match vals, s.h with
 | [.pointer (some ⟨f0, f1, some f2⟩), .iface f3 .nilIface, .int .i64 x0, .int .i64 x1], [⟨true, some (.cells [.iface f4 .nilIface, .iface f5 .nilIface])⟩, ⟨true, some (.strs x2)⟩, ⟨true, some (.tab [.int .i8, .int .i16, .fl .f32] x3)⟩] => if f0 = 0 ∧ f1 = 0 ∧ f2 = 0 ∧ f3 = 1 ∧ f4 = 1 ∧ f5 = 2 then [((Nat.beq (r16l0 m x0 x1 x2 x3) 0), .ret, [.pointer (some ⟨0, 0, some 0⟩), .bool false], ⟨[⟨true, (some (.cells [wsl 1, wsl 2]))⟩, ⟨true, (some (.strs x2))⟩, ⟨true, (some (.tab [.int .i8, .int .i16, .fl .f32] x3))⟩], 3, []⟩), ((Nat.beq (r16l0 m x0 x1 x2 x3) 1), .exit 0, [.pointer (some ⟨0, 0, some 0⟩), anyV], ⟨[⟨true, (some (.cells [wsl 1, wsl 2]))⟩, ⟨true, (some (.strs x2))⟩, ⟨true, (some (.tab [.int .i8, .int .i16, .fl .f32] x3))⟩], 3, []⟩)] else noQ vals s
 | _, _ => noQ vals s
noncomputable def w16l0 (ih : Int → Int → List ByteArray → List (List Int) → Nat) (x0 x1 : Int) (x2 : List ByteArray) (x3 : List (List Int)) : Option (Fin' × List Value × St) :=
 (cond (decide ((x1 : Int) < x0))
 (cond ((decide ((0 : Int) ≤ x1)) && (Nat.blt (Int.toNat x1) x2.length))
  (cond (Nat.blt (Int.toNat x1) x2.length)
   (cond (Nat.beq ((r49 (x2.getD (Int.toNat x1) .empty)).1) 0)
    (cond (!((r49 (x2.getD (Int.toNat x1) .empty)).2))
     (a16l0 x0 x1 x2 x3 (0))
     (cond ((Nat.blt 0 x2.length) && (((decide ((0 : Int) ≤ x1)) && (Nat.ble 0 (Int.toNat x1))) && (Nat.ble (Int.toNat x1) x2.length)))
      (cond (Nat.beq ((r50 (Int.toNat x1) x2.length (x2.getD (Int.toNat x1) .empty) x2).1) 0)
       (cond ((r50 (Int.toNat x1) x2.length (x2.getD (Int.toNat x1) .empty) x2).2)
        (a16l0 x0 x1 x2 x3 (0))
        (u16l0 x0 x1 x2 x3 (ih x0 (IntKind.i64.wrap (x1 + 1)) x2 x3)))
       none)
      none))
    none)
   none)
  none)
 (a16l0 x0 x1 x2 x3 (1)))
set_option maxRecDepth 100000 in
set_option maxHeartbeats 4000000 in
theorem e16l0 (m : Nat) (x0 x1 : Int) (x2 : List ByteArray) (x3 : List (List Int)) : evC Try.prog ext T39 noL 200 (loopN Try.f16 0) (loopTail ([1, 23, 24, 25], []) [1, 2] [] (sumK 161 [1, 23, 24, 25] [1, 2] (q16l0 m))) (frameOf 161 [1, 23, 24, 25] [.pointer (some ⟨0, 0, some 0⟩), wsl 1, .int .i64 x0, .int .i64 x1]) ⟨[⟨true, (some (.cells [wsl 1, wsl 2]))⟩, ⟨true, (some (.strs x2))⟩, ⟨true, (some (.tab [.int .i8, .int .i16, .fl .f32] x3))⟩], 3, []⟩ = firstT ([((Nat.beq (r16l0 (m + 1) x0 x1 x2 x3) 0), .ret, [.pointer (some ⟨0, 0, some 0⟩), .bool false], ⟨[⟨true, (some (.cells [wsl 1, wsl 2]))⟩, ⟨true, (some (.strs x2))⟩, ⟨true, (some (.tab [.int .i8, .int .i16, .fl .f32] x3))⟩], 3, []⟩), ((Nat.beq (r16l0 (m + 1) x0 x1 x2 x3) 1), .exit 0, [.pointer (some ⟨0, 0, some 0⟩), anyV], ⟨[⟨true, (some (.cells [wsl 1, wsl 2]))⟩, ⟨true, (some (.strs x2))⟩, ⟨true, (some (.tab [.int .i8, .int .i16, .fl .f32] x3))⟩], 3, []⟩)].map fun (b, x) => (b, (x.1, frameOf 161 [1, 2] x.2.1, x.2.2))) :=
 (show evC Try.prog ext T39 noL 200 (loopN Try.f16 0) (loopTail ([1, 23, 24, 25], []) [1, 2] [] (sumK 161 [1, 23, 24, 25] [1, 2] (q16l0 m))) (frameOf 161 [1, 23, 24, 25] [.pointer (some ⟨0, 0, some 0⟩), wsl 1, .int .i64 x0, .int .i64 x1]) ⟨[⟨true, (some (.cells [wsl 1, wsl 2]))⟩, ⟨true, (some (.strs x2))⟩, ⟨true, (some (.tab [.int .i8, .int .i16, .fl .f32] x3))⟩], 3, []⟩ = w16l0 (r16l0 m) x0 x1 x2 x3 from by kernel_rfl).trans
 (show w16l0 (r16l0 m) x0 x1 x2 x3 = a16l0 x0 x1 x2 x3 (r16l0 (m + 1) x0 x1 x2 x3) from by unfold w16l0; show _ = a16l0 x0 x1 x2 x3 (b16l0 (r16l0 m) x0 x1 x2 x3); unfold b16l0; exact (cond_both (a16l0 x0 x1 x2 x3) _ (fun h0 => (cond_both (a16l0 x0 x1 x2 x3) _ (fun h1 => (cond_t (ev_and2 h1) (cond_app (a16l0 x0 x1 x2 x3) _ (cond_app (a16l0 x0 x1 x2 x3) _ rfl (cond_app (a16l0 x0 x1 x2 x3) _ (cond_app (a16l0 x0 x1 x2 x3) _ (cond_app (a16l0 x0 x1 x2 x3) _ rfl (v16l0 x0 x1 x2 x3 ((r16l0 m) x0 (IntKind.i64.wrap (x1 + 1)) x2 x3))) rfl) rfl)) rfl))) (fun h1 => rfl))) (fun h0 => rfl)))
set_option maxRecDepth 100000 in
set_option maxHeartbeats 4000000 in
theorem qm16l0 : ∀ m, SumKOk Try.prog (loopN Try.f16 0) 161 [1, 23, 24, 25] [1, 2] (q16l0 m) := by
  intro m
  induction m with
  | zero =>
    intro vals s x h1 h2 h3
    unfold q16l0 at h3; split at h3
    · rename_i h; split at h3
      · rename_i hc; obtain ⟨rfl, rfl, rfl, rfl, rfl, rfl⟩ := hc; exact absurd h3 (by simp [r16l0, firstT, Nat.beq])
      · exact noQ_ok _ _ _ h1 h2 h3
    · exact noQ_ok _ _ _ h1 h2 h3
  | succ m ih =>
    intro vals s x h1 h2 h3
    unfold q16l0 at h3; split at h3
    · rename_i h; split at h3
      · rename_i hc; obtain ⟨rfl, rfl, rfl, rfl, rfl, rfl⟩ := hc; exact sum_step ok39 extOk mixed ((lfOkF_no _ _).inner (by kernel_rfl)) ih h1 h2 h (e16l0 m _ _ _ _) rfl h3
      · exact noQ_ok _ _ _ h1 h2 h3
    · exact noQ_ok _ _ _ h1 h2 h3
noncomputable def Q16l0 : SumK := fun vals s => q16l0 (fuelOf vals s.h) vals s
theorem qok16l0 : SumKOk Try.prog (loopN Try.f16 0) 161 [1, 23, 24, 25] [1, 2] Q16l0 := fuel_ok qm16l0 fuelOf
noncomputable def L16_1 : LoopT := addL noL 5 ([1, 23, 24, 25], []) (sumK 161 [1, 23, 24, 25] [1, 2] Q16l0)
theorem lok16_1 : LfOkF Try.prog L16_1 Try.f16 := lfOkF_add (lfOkF_no _ _) qok16l0 (by kernel_rfl) (by kernel_rfl) (by kernel_rfl)

/-- math.IsNaN -/
noncomputable def r79 (x0 : Nat) : Bool :=
 ((!feq .f64 x0 x0))
noncomputable def a79 (x0 : Nat) (p : Bool) : Res := firstT [(true, .bool p, st0)]
noncomputable def w79 (x0 : Nat) : Res :=
 (a79 x0 ((!feq .f64 x0 x0)))
set_option maxRecDepth 100000 in
set_option maxHeartbeats 4000000 in
theorem e79 (x0 : Nat) : evFn Try.prog ext T39 noL 200 Try.f79 [.float .f64 x0] st0 = firstT [(true, .bool (r79 x0), st0)] :=
 (show evFn Try.prog ext T39 noL 200 Try.f79 [.float .f64 x0] st0 = w79 x0 from by kernel_rfl).trans
 (show w79 x0 = a79 x0 (r79 x0) from by unfold w79 r79; exact rfl)
noncomputable def s79 (args : List Value) (s : St) : List (Bool × Value × St) :=
 match args, s.h with
 | [.float .f64 x0], [] => [(true, .bool (r79 x0), st0)]
 | _, _ => T39 79 args s
noncomputable def T40 : CallF := addF T39 79 s79
set_option maxRecDepth 100000 in
set_option maxHeartbeats 4000000 in
theorem ok40 : CfOk Try.prog T40 := by
  refine cfOk_add ok39 fun args s r s' h1 h2 h3 => ?_
  unfold s79 at h3; split at h3
  · rename_i h; exact callOk ok39 Try.func79 h1 h2 h (lfOkF_no _ _).body (e79 _) rfl h3
  · exact ok39 _ _ _ _ _ h1 h2 h3

/-- math.Abs -/
noncomputable def r92 (x0 : Nat) : Nat :=
 cond (!isN .f64 x0)
  ((Int.toNat (bits .andNot .u64 ((x0 : Nat) : Int) 9223372036854775808)))
  (9221120237041090560)
noncomputable def a92 (x0 : Nat) (p : Nat) : Res := firstT [(true, .float .f64 p, st0)]
noncomputable def w92 (x0 : Nat) : Res :=
 (cond (!isN .f64 x0)
 (a92 x0 ((Int.toNat (bits .andNot .u64 ((x0 : Nat) : Int) 9223372036854775808))))
 (a92 x0 (9221120237041090560)))
set_option maxRecDepth 100000 in
set_option maxHeartbeats 4000000 in
theorem e92 (x0 : Nat) : evFn Try.prog ext T40 noL 200 Try.f92 [.float .f64 x0] st0 = firstT [(true, .float .f64 (r92 x0), st0)] :=
 (show evFn Try.prog ext T40 noL 200 Try.f92 [.float .f64 x0] st0 = w92 x0 from by kernel_rfl).trans
 (show w92 x0 = a92 x0 (r92 x0) from by unfold w92 r92; exact (cond_app (a92 x0) _ rfl rfl))
noncomputable def s92 (args : List Value) (s : St) : List (Bool × Value × St) :=
 match args, s.h with
 | [.float .f64 x0], [] => [(true, .float .f64 (r92 x0), st0)]
 | _, _ => T40 92 args s
noncomputable def T41 : CallF := addF T40 92 s92
set_option maxRecDepth 100000 in
set_option maxHeartbeats 4000000 in
theorem ok41 : CfOk Try.prog T41 := by
  refine cfOk_add ok40 fun args s r s' h1 h2 h3 => ?_
  unfold s92 at h3; split at h3
  · rename_i h; exact callOk ok40 Try.func92 h1 h2 h (lfOkF_no _ _).body (e92 _) rfl h3
  · exact ok40 _ _ _ _ _ h1 h2 h3

/-- math.IsInf -/
noncomputable def r80 (x0 : Nat) (x1 : Int) : Bool :=
 cond ((x1 : Int) == 0)
  ((fgt .f64 (r92 x0) 9218868437227405311))
  (cond (decide ((x1 : Int) < 0))
   ((fgt .f64 (fneg .f64 x0) 9218868437227405311))
   ((fgt .f64 x0 9218868437227405311)))
noncomputable def a80 (x0 : Nat) (x1 : Int) (p : Bool) : Res := firstT [(true, .bool p, st0)]
noncomputable def w80 (x0 : Nat) (x1 : Int) : Res :=
 (cond ((x1 : Int) == 0)
 (a80 x0 x1 ((fgt .f64 (r92 x0) 9218868437227405311)))
 (cond (decide ((x1 : Int) < 0))
  (a80 x0 x1 ((fgt .f64 (fneg .f64 x0) 9218868437227405311)))
  (a80 x0 x1 ((fgt .f64 x0 9218868437227405311)))))
set_option maxRecDepth 100000 in
set_option maxHeartbeats 4000000 in
theorem e80 (x0 : Nat) (x1 : Int) : evFn Try.prog ext T41 noL 200 Try.f80 [.float .f64 x0, .int .i64 x1] st0 = firstT [(true, .bool (r80 x0 x1), st0)] :=
 (show evFn Try.prog ext T41 noL 200 Try.f80 [.float .f64 x0, .int .i64 x1] st0 = w80 x0 x1 from by kernel_rfl).trans
 (show w80 x0 x1 = a80 x0 x1 (r80 x0 x1) from by unfold w80 r80; exact (cond_app (a80 x0 x1) _ rfl (cond_app (a80 x0 x1) _ rfl rfl)))
noncomputable def s80 (args : List Value) (s : St) : List (Bool × Value × St) :=
 match args, s.h with
 | [.float .f64 x0, .int .i64 x1], [] => [(true, .bool (r80 x0 x1), st0)]
 | _, _ => T41 80 args s
noncomputable def T42 : CallF := addF T41 80 s80
set_option maxRecDepth 100000 in
set_option maxHeartbeats 4000000 in
theorem ok42 : CfOk Try.prog T42 := by
  refine cfOk_add ok41 fun args s r s' h1 h2 h3 => ?_
  unfold s80 at h3; split at h3
  · rename_i h; exact callOk ok41 Try.func80 h1 h2 h (lfOkF_no _ _).body (e80 _ _) rfl h3
  · exact ok41 _ _ _ _ _ h1 h2 h3

/-- impl.isFinite -/
noncomputable def r51 (x0 : Nat) : Bool :=
 cond (r79 (widen x0))
  (false)
  (cond (r80 (widen x0) 0)
   (false)
   (true))
noncomputable def a51 (x0 : Nat) (p : Bool) : Res := firstT [(true, .bool p, ⟨[⟨true, (some (.tab [.fl .f32] ([[((x0 : Nat) : Int)]] : List (List Int))))⟩], 1, []⟩)]
noncomputable def w51 (x0 : Nat) : Res :=
 (cond (r79 (widen x0))
 (a51 x0 (false))
 (cond (r80 (widen x0) 0)
  (a51 x0 (false))
  (a51 x0 (true))))
set_option maxRecDepth 100000 in
set_option maxHeartbeats 4000000 in
theorem e51 (x0 : Nat) : evFn Try.prog ext T42 noL 200 Try.f51 [.slice (some ⟨0, 0, some 0⟩) 1 1] ⟨[⟨true, (some (.tab [.fl .f32] ([[((x0 : Nat) : Int)]] : List (List Int))))⟩], 1, []⟩ = firstT [(true, .bool (r51 x0), ⟨[⟨true, (some (.tab [.fl .f32] ([[((x0 : Nat) : Int)]] : List (List Int))))⟩], 1, []⟩)] :=
 (show evFn Try.prog ext T42 noL 200 Try.f51 [.slice (some ⟨0, 0, some 0⟩) 1 1] ⟨[⟨true, (some (.tab [.fl .f32] ([[((x0 : Nat) : Int)]] : List (List Int))))⟩], 1, []⟩ = w51 x0 from by kernel_rfl).trans
 (show w51 x0 = a51 x0 (r51 x0) from by unfold w51 r51; exact (cond_app (a51 x0) _ rfl (cond_app (a51 x0) _ rfl rfl)))
noncomputable def s51 (args : List Value) (s : St) : List (Bool × Value × St) :=
 match args, s.h with
 | [.slice (some ⟨f0, f1, some f2⟩) f3 f4], [⟨true, some (.tab [.fl .f32] [[.ofNat x0]])⟩] => if f0 = 0 ∧ f1 = 0 ∧ f2 = 0 ∧ f3 = 1 ∧ f4 = 1 then [(true, .bool (r51 x0), ⟨[⟨true, (some (.tab [.fl .f32] ([[((x0 : Nat) : Int)]] : List (List Int))))⟩], 1, []⟩)] else T42 51 args s
 | _, _ => T42 51 args s
noncomputable def T43 : CallF := addF T42 51 s51
set_option maxRecDepth 100000 in
set_option maxHeartbeats 4000000 in
theorem ok43 : CfOk Try.prog T43 := by
  refine cfOk_add ok42 fun args s r s' h1 h2 h3 => ?_
  unfold s51 at h3; split at h3
  · rename_i h; split at h3
    · rename_i hc; obtain ⟨rfl, rfl, rfl, rfl, rfl⟩ := hc; exact callOk ok42 Try.func51 h1 h2 h (lfOkF_no _ _).body (e51 _) rfl h3
    · exact ok42 _ _ _ _ _ h1 h2 h3
  · exact ok42 _ _ _ _ _ h1 h2 h3

/-- impl.isZero -/
noncomputable def r52 (x0 : Nat) : Bool :=
 cond (!isN .f32 x0)
  (((((x0 : Nat) : Int) : Int) == 0))
  (false)
noncomputable def a52 (x0 : Nat) (p : Bool) : Res := firstT [(true, .bool p, st0)]
noncomputable def w52 (x0 : Nat) : Res :=
 (cond (!isN .f32 x0)
 (a52 x0 (((((x0 : Nat) : Int) : Int) == 0)))
 (a52 x0 (false)))
set_option maxRecDepth 100000 in
set_option maxHeartbeats 4000000 in
theorem e52 (x0 : Nat) : evFn Try.prog ext T43 noL 200 Try.f52 [.float .f32 x0] st0 = firstT [(true, .bool (r52 x0), st0)] :=
 (show evFn Try.prog ext T43 noL 200 Try.f52 [.float .f32 x0] st0 = w52 x0 from by kernel_rfl).trans
 (show w52 x0 = a52 x0 (r52 x0) from by unfold w52 r52; exact (cond_app (a52 x0) _ rfl rfl))
noncomputable def s52 (args : List Value) (s : St) : List (Bool × Value × St) :=
 match args, s.h with
 | [.float .f32 x0], [] => [(true, .bool (r52 x0), st0)]
 | _, _ => T43 52 args s
noncomputable def T44 : CallF := addF T43 52 s52
set_option maxRecDepth 100000 in
set_option maxHeartbeats 4000000 in
theorem ok44 : CfOk Try.prog T44 := by
  refine cfOk_add ok43 fun args s r s' h1 h2 h3 => ?_
  unfold s52 at h3; split at h3
  · rename_i h; exact callOk ok43 Try.func52 h1 h2 h (lfOkF_no _ _).body (e52 _) rfl h3
  · exact ok43 _ _ _ _ _ h1 h2 h3

/-- impl.takes -/
noncomputable def r53 (x0 : Int) : Int × Int :=
 cond ((x0 : Int) == 1)
  (0, 1)
  (cond ((x0 : Int) == 2)
   (0, 1)
   (cond ((x0 : Int) == 3)
    (0, 1)
    (cond ((x0 : Int) == 4)
     (1, 0)
     (cond ((x0 : Int) == 12)
      (1, 1)
      (cond ((x0 : Int) == 11)
       (3, 1)
       (2, 1))))))
noncomputable def a53 (x0 : Int) (p : Int × Int) : Res := firstT [(true, .tuple #[.int .i64 (p.1), .int .i64 (p.2)], st0)]
noncomputable def w53 (x0 : Int) : Res :=
 (cond ((x0 : Int) == 1)
 (cond ((x0 : Int) == 1)
  (a53 x0 (0, 1))
  (cond ((x0 : Int) == 4)
   (some (.tuple #[.int .i64 1, .int .i64 0], st0))
   (cond ((x0 : Int) == 12)
    (some (.tuple #[.int .i64 1, .int .i64 1], st0))
    (cond ((x0 : Int) == 11)
     (some (.tuple #[.int .i64 3, .int .i64 1], st0))
     (some (.tuple #[.int .i64 2, .int .i64 1], st0))))))
 (cond ((x0 : Int) == 2)
  (cond ((x0 : Int) == 2)
   (a53 x0 (0, 1))
   (cond ((x0 : Int) == 4)
    (some (.tuple #[.int .i64 1, .int .i64 0], st0))
    (cond ((x0 : Int) == 12)
     (some (.tuple #[.int .i64 1, .int .i64 1], st0))
     (cond ((x0 : Int) == 11)
      (some (.tuple #[.int .i64 3, .int .i64 1], st0))
      (some (.tuple #[.int .i64 2, .int .i64 1], st0))))))
  (cond ((x0 : Int) == 3)
   (a53 x0 (0, 1))
   (cond ((x0 : Int) == 4)
    (a53 x0 (1, 0))
    (cond ((x0 : Int) == 12)
     (a53 x0 (1, 1))
     (cond ((x0 : Int) == 11)
      (a53 x0 (3, 1))
      (a53 x0 (2, 1))))))))
set_option maxRecDepth 100000 in
set_option maxHeartbeats 4000000 in
theorem e53 (x0 : Int) : evFn Try.prog ext T44 noL 200 Try.f53 [.int .i8 x0] st0 = firstT [(true, .tuple #[.int .i64 ((r53 x0).1), .int .i64 ((r53 x0).2)], st0)] :=
 (show evFn Try.prog ext T44 noL 200 Try.f53 [.int .i8 x0] st0 = w53 x0 from by kernel_rfl).trans
 (show w53 x0 = a53 x0 (r53 x0) from by unfold w53 r53; exact (cond_both (a53 x0) _ (fun h0 => (cond_t h0 rfl)) (fun h0 => (cond_both (a53 x0) _ (fun h1 => (cond_t h1 rfl)) (fun h1 => (cond_app (a53 x0) _ rfl (cond_app (a53 x0) _ rfl (cond_app (a53 x0) _ rfl (cond_app (a53 x0) _ rfl rfl)))))))))
noncomputable def s53 (args : List Value) (s : St) : List (Bool × Value × St) :=
 match args, s.h with
 | [.int .i8 x0], [] => [(true, .tuple #[.int .i64 ((r53 x0).1), .int .i64 ((r53 x0).2)], st0)]
 | _, _ => T44 53 args s
noncomputable def T45 : CallF := addF T44 53 s53
set_option maxRecDepth 100000 in
set_option maxHeartbeats 4000000 in
theorem ok45 : CfOk Try.prog T45 := by
  refine cfOk_add ok44 fun args s r s' h1 h2 h3 => ?_
  unfold s53 at h3; split at h3
  · rename_i h; exact callOk ok44 Try.func53 h1 h2 h (lfOkF_no _ _).body (e53 _) rfl h3
  · exact ok44 _ _ _ _ _ h1 h2 h3

/-- impl.ValidProgram, loop 1: one round -/
noncomputable def b16l1 (ih : Int → Int → Int → Int → List (List Int) → List ByteArray → (Nat × Int × Int × Int × Int)) (x0 x1 x2 x3 : Int) (x4 : List (List Int)) (x5 : List ByteArray) : Nat × Int × Int × Int × Int :=
 cond (decide ((x3 : Int) < x2))
  (cond ((decide ((0 : Int) ≤ x3)) && (Nat.blt (Int.toNat x3) x4.length))
   (cond (decide ((((x4.getD (Int.toNat x3) []).getD 0 0) : Int) < 1))
    (0, x0, x1, 0, 0)
    (cond (decide ((((x4.getD (Int.toNat x3) []).getD 0 0) : Int) > 12))
     (0, x0, x1, 0, 0)
     (cond ((((x4.getD (Int.toNat x3) []).getD 0 0) : Int) == 1)
      (cond (((IntKind.i64.wrap ((x4.getD (Int.toNat x3) []).getD 1 0)) : Int) != 0)
       (0, x0, x1, 0, 0)
       (cond (!(r51 (Int.toNat ((x4.getD (Int.toNat x3) []).getD 2 0))))
        (0, x0, x1, 0, 0)
        (cond (feq .f32 (Int.toNat ((x4.getD (Int.toNat x3) []).getD 2 0)) 0)
         (cond (!(r52 (Int.toNat ((x4.getD (Int.toNat x3) []).getD 2 0))))
          (0, x0, x1, 0, 0)
          (cond ((((x4.getD (Int.toNat x3) []).getD 0 0) : Int) != 1)
           (cond (decide ((x0 : Int) < ((r53 ((x4.getD (Int.toNat x3) []).getD 0 0)).1)))
            (0, x0, x1, 0, 0)
            (cond (decide (((IntKind.i64.wrap (x0 + (IntKind.i64.wrap (((r53 ((x4.getD (Int.toNat x3) []).getD 0 0)).2) - ((r53 ((x4.getD (Int.toNat x3) []).getD 0 0)).1))))) : Int) > 20))
             (0, (IntKind.i64.wrap (x0 + (IntKind.i64.wrap (((r53 ((x4.getD (Int.toNat x3) []).getD 0 0)).2) - ((r53 ((x4.getD (Int.toNat x3) []).getD 0 0)).1))))), x1, 0, 0)
             (cond ((((x4.getD (Int.toNat x3) []).getD 0 0) : Int) == 4)
              (cond (((IntKind.i64.wrap (x0 + (IntKind.i64.wrap (((r53 ((x4.getD (Int.toNat x3) []).getD 0 0)).2) - ((r53 ((x4.getD (Int.toNat x3) []).getD 0 0)).1))))) : Int) != 0)
               (0, (IntKind.i64.wrap (x0 + (IntKind.i64.wrap (((r53 ((x4.getD (Int.toNat x3) []).getD 0 0)).2) - ((r53 ((x4.getD (Int.toNat x3) []).getD 0 0)).1))))), x1, 0, 0)
               (ih (IntKind.i64.wrap (x0 + (IntKind.i64.wrap (((r53 ((x4.getD (Int.toNat x3) []).getD 0 0)).2) - ((r53 ((x4.getD (Int.toNat x3) []).getD 0 0)).1))))) x1 x2 (IntKind.i64.wrap (x3 + 1)) x4 x5))
              (ih (IntKind.i64.wrap (x0 + (IntKind.i64.wrap (((r53 ((x4.getD (Int.toNat x3) []).getD 0 0)).2) - ((r53 ((x4.getD (Int.toNat x3) []).getD 0 0)).1))))) x1 x2 (IntKind.i64.wrap (x3 + 1)) x4 x5))))
           (cond (decide ((x0 : Int) < ((r53 ((x4.getD (Int.toNat x3) []).getD 0 0)).1)))
            (0, x0, x1, 0, 0)
            (cond (decide (((IntKind.i64.wrap (x0 + (IntKind.i64.wrap (((r53 ((x4.getD (Int.toNat x3) []).getD 0 0)).2) - ((r53 ((x4.getD (Int.toNat x3) []).getD 0 0)).1))))) : Int) > 20))
             (0, (IntKind.i64.wrap (x0 + (IntKind.i64.wrap (((r53 ((x4.getD (Int.toNat x3) []).getD 0 0)).2) - ((r53 ((x4.getD (Int.toNat x3) []).getD 0 0)).1))))), x1, 0, 0)
             (cond ((((x4.getD (Int.toNat x3) []).getD 0 0) : Int) == 4)
              (cond (((IntKind.i64.wrap (x0 + (IntKind.i64.wrap (((r53 ((x4.getD (Int.toNat x3) []).getD 0 0)).2) - ((r53 ((x4.getD (Int.toNat x3) []).getD 0 0)).1))))) : Int) != 0)
               (0, (IntKind.i64.wrap (x0 + (IntKind.i64.wrap (((r53 ((x4.getD (Int.toNat x3) []).getD 0 0)).2) - ((r53 ((x4.getD (Int.toNat x3) []).getD 0 0)).1))))), x1, 0, 0)
               (ih (IntKind.i64.wrap (x0 + (IntKind.i64.wrap (((r53 ((x4.getD (Int.toNat x3) []).getD 0 0)).2) - ((r53 ((x4.getD (Int.toNat x3) []).getD 0 0)).1))))) x1 x2 (IntKind.i64.wrap (x3 + 1)) x4 x5))
              (ih (IntKind.i64.wrap (x0 + (IntKind.i64.wrap (((r53 ((x4.getD (Int.toNat x3) []).getD 0 0)).2) - ((r53 ((x4.getD (Int.toNat x3) []).getD 0 0)).1))))) x1 x2 (IntKind.i64.wrap (x3 + 1)) x4 x5))))))
         (cond ((((x4.getD (Int.toNat x3) []).getD 0 0) : Int) != 1)
          (cond (!(r52 (Int.toNat ((x4.getD (Int.toNat x3) []).getD 2 0))))
           (0, x0, x1, 0, 0)
           (cond (decide ((x0 : Int) < ((r53 ((x4.getD (Int.toNat x3) []).getD 0 0)).1)))
            (0, x0, x1, 0, 0)
            (cond (decide (((IntKind.i64.wrap (x0 + (IntKind.i64.wrap (((r53 ((x4.getD (Int.toNat x3) []).getD 0 0)).2) - ((r53 ((x4.getD (Int.toNat x3) []).getD 0 0)).1))))) : Int) > 20))
             (0, (IntKind.i64.wrap (x0 + (IntKind.i64.wrap (((r53 ((x4.getD (Int.toNat x3) []).getD 0 0)).2) - ((r53 ((x4.getD (Int.toNat x3) []).getD 0 0)).1))))), x1, 0, 0)
             (cond ((((x4.getD (Int.toNat x3) []).getD 0 0) : Int) == 4)
              (cond (((IntKind.i64.wrap (x0 + (IntKind.i64.wrap (((r53 ((x4.getD (Int.toNat x3) []).getD 0 0)).2) - ((r53 ((x4.getD (Int.toNat x3) []).getD 0 0)).1))))) : Int) != 0)
               (0, (IntKind.i64.wrap (x0 + (IntKind.i64.wrap (((r53 ((x4.getD (Int.toNat x3) []).getD 0 0)).2) - ((r53 ((x4.getD (Int.toNat x3) []).getD 0 0)).1))))), x1, 0, 0)
               (ih (IntKind.i64.wrap (x0 + (IntKind.i64.wrap (((r53 ((x4.getD (Int.toNat x3) []).getD 0 0)).2) - ((r53 ((x4.getD (Int.toNat x3) []).getD 0 0)).1))))) x1 x2 (IntKind.i64.wrap (x3 + 1)) x4 x5))
              (ih (IntKind.i64.wrap (x0 + (IntKind.i64.wrap (((r53 ((x4.getD (Int.toNat x3) []).getD 0 0)).2) - ((r53 ((x4.getD (Int.toNat x3) []).getD 0 0)).1))))) x1 x2 (IntKind.i64.wrap (x3 + 1)) x4 x5)))))
          (cond (decide ((x0 : Int) < ((r53 ((x4.getD (Int.toNat x3) []).getD 0 0)).1)))
           (0, x0, x1, 0, 0)
           (cond (decide (((IntKind.i64.wrap (x0 + (IntKind.i64.wrap (((r53 ((x4.getD (Int.toNat x3) []).getD 0 0)).2) - ((r53 ((x4.getD (Int.toNat x3) []).getD 0 0)).1))))) : Int) > 20))
            (0, (IntKind.i64.wrap (x0 + (IntKind.i64.wrap (((r53 ((x4.getD (Int.toNat x3) []).getD 0 0)).2) - ((r53 ((x4.getD (Int.toNat x3) []).getD 0 0)).1))))), x1, 0, 0)
            (cond ((((x4.getD (Int.toNat x3) []).getD 0 0) : Int) == 4)
             (cond (((IntKind.i64.wrap (x0 + (IntKind.i64.wrap (((r53 ((x4.getD (Int.toNat x3) []).getD 0 0)).2) - ((r53 ((x4.getD (Int.toNat x3) []).getD 0 0)).1))))) : Int) != 0)
              (0, (IntKind.i64.wrap (x0 + (IntKind.i64.wrap (((r53 ((x4.getD (Int.toNat x3) []).getD 0 0)).2) - ((r53 ((x4.getD (Int.toNat x3) []).getD 0 0)).1))))), x1, 0, 0)
              (ih (IntKind.i64.wrap (x0 + (IntKind.i64.wrap (((r53 ((x4.getD (Int.toNat x3) []).getD 0 0)).2) - ((r53 ((x4.getD (Int.toNat x3) []).getD 0 0)).1))))) x1 x2 (IntKind.i64.wrap (x3 + 1)) x4 x5))
             (ih (IntKind.i64.wrap (x0 + (IntKind.i64.wrap (((r53 ((x4.getD (Int.toNat x3) []).getD 0 0)).2) - ((r53 ((x4.getD (Int.toNat x3) []).getD 0 0)).1))))) x1 x2 (IntKind.i64.wrap (x3 + 1)) x4 x5))))))))
      (cond ((((x4.getD (Int.toNat x3) []).getD 0 0) : Int) == 2)
       (cond (decide (((IntKind.i64.wrap ((x4.getD (Int.toNat x3) []).getD 1 0)) : Int) < 0))
        (0, x0, x1, 0, 0)
        (cond (decide (((IntKind.i64.wrap ((x4.getD (Int.toNat x3) []).getD 1 0)) : Int) ≥ 4))
         (0, x0, x1, 0, 0)
         (cond ((((x4.getD (Int.toNat x3) []).getD 0 0) : Int) != 1)
          (cond (!(r52 (Int.toNat ((x4.getD (Int.toNat x3) []).getD 2 0))))
           (0, x0, x1, 0, 0)
           (cond (decide ((x0 : Int) < ((r53 ((x4.getD (Int.toNat x3) []).getD 0 0)).1)))
            (0, x0, x1, 0, 0)
            (cond (decide (((IntKind.i64.wrap (x0 + (IntKind.i64.wrap (((r53 ((x4.getD (Int.toNat x3) []).getD 0 0)).2) - ((r53 ((x4.getD (Int.toNat x3) []).getD 0 0)).1))))) : Int) > 20))
             (0, (IntKind.i64.wrap (x0 + (IntKind.i64.wrap (((r53 ((x4.getD (Int.toNat x3) []).getD 0 0)).2) - ((r53 ((x4.getD (Int.toNat x3) []).getD 0 0)).1))))), x1, 0, 0)
             (cond ((((x4.getD (Int.toNat x3) []).getD 0 0) : Int) == 4)
              (cond (((IntKind.i64.wrap (x0 + (IntKind.i64.wrap (((r53 ((x4.getD (Int.toNat x3) []).getD 0 0)).2) - ((r53 ((x4.getD (Int.toNat x3) []).getD 0 0)).1))))) : Int) != 0)
               (0, (IntKind.i64.wrap (x0 + (IntKind.i64.wrap (((r53 ((x4.getD (Int.toNat x3) []).getD 0 0)).2) - ((r53 ((x4.getD (Int.toNat x3) []).getD 0 0)).1))))), x1, 0, 0)
               (ih (IntKind.i64.wrap (x0 + (IntKind.i64.wrap (((r53 ((x4.getD (Int.toNat x3) []).getD 0 0)).2) - ((r53 ((x4.getD (Int.toNat x3) []).getD 0 0)).1))))) x1 x2 (IntKind.i64.wrap (x3 + 1)) x4 x5))
              (ih (IntKind.i64.wrap (x0 + (IntKind.i64.wrap (((r53 ((x4.getD (Int.toNat x3) []).getD 0 0)).2) - ((r53 ((x4.getD (Int.toNat x3) []).getD 0 0)).1))))) x1 x2 (IntKind.i64.wrap (x3 + 1)) x4 x5)))))
          (cond (decide ((x0 : Int) < ((r53 ((x4.getD (Int.toNat x3) []).getD 0 0)).1)))
           (0, x0, x1, 0, 0)
           (cond (decide (((IntKind.i64.wrap (x0 + (IntKind.i64.wrap (((r53 ((x4.getD (Int.toNat x3) []).getD 0 0)).2) - ((r53 ((x4.getD (Int.toNat x3) []).getD 0 0)).1))))) : Int) > 20))
            (0, (IntKind.i64.wrap (x0 + (IntKind.i64.wrap (((r53 ((x4.getD (Int.toNat x3) []).getD 0 0)).2) - ((r53 ((x4.getD (Int.toNat x3) []).getD 0 0)).1))))), x1, 0, 0)
            (cond ((((x4.getD (Int.toNat x3) []).getD 0 0) : Int) == 4)
             (cond (((IntKind.i64.wrap (x0 + (IntKind.i64.wrap (((r53 ((x4.getD (Int.toNat x3) []).getD 0 0)).2) - ((r53 ((x4.getD (Int.toNat x3) []).getD 0 0)).1))))) : Int) != 0)
              (0, (IntKind.i64.wrap (x0 + (IntKind.i64.wrap (((r53 ((x4.getD (Int.toNat x3) []).getD 0 0)).2) - ((r53 ((x4.getD (Int.toNat x3) []).getD 0 0)).1))))), x1, 0, 0)
              (ih (IntKind.i64.wrap (x0 + (IntKind.i64.wrap (((r53 ((x4.getD (Int.toNat x3) []).getD 0 0)).2) - ((r53 ((x4.getD (Int.toNat x3) []).getD 0 0)).1))))) x1 x2 (IntKind.i64.wrap (x3 + 1)) x4 x5))
             (ih (IntKind.i64.wrap (x0 + (IntKind.i64.wrap (((r53 ((x4.getD (Int.toNat x3) []).getD 0 0)).2) - ((r53 ((x4.getD (Int.toNat x3) []).getD 0 0)).1))))) x1 x2 (IntKind.i64.wrap (x3 + 1)) x4 x5)))))))
       (cond ((((x4.getD (Int.toNat x3) []).getD 0 0) : Int) == 3)
        (cond (decide (((IntKind.i64.wrap ((x4.getD (Int.toNat x3) []).getD 1 0)) : Int) < 0))
         (0, x0, x1, 0, 0)
         (cond (decide (((IntKind.i64.wrap ((x4.getD (Int.toNat x3) []).getD 1 0)) : Int) ≥ x1))
          (0, x0, x1, 0, 0)
          (cond ((((x4.getD (Int.toNat x3) []).getD 0 0) : Int) != 1)
           (cond (!(r52 (Int.toNat ((x4.getD (Int.toNat x3) []).getD 2 0))))
            (0, x0, x1, 0, 0)
            (cond (decide ((x0 : Int) < ((r53 ((x4.getD (Int.toNat x3) []).getD 0 0)).1)))
             (0, x0, x1, 0, 0)
             (cond (decide (((IntKind.i64.wrap (x0 + (IntKind.i64.wrap (((r53 ((x4.getD (Int.toNat x3) []).getD 0 0)).2) - ((r53 ((x4.getD (Int.toNat x3) []).getD 0 0)).1))))) : Int) > 20))
              (0, (IntKind.i64.wrap (x0 + (IntKind.i64.wrap (((r53 ((x4.getD (Int.toNat x3) []).getD 0 0)).2) - ((r53 ((x4.getD (Int.toNat x3) []).getD 0 0)).1))))), x1, 0, 0)
              (cond ((((x4.getD (Int.toNat x3) []).getD 0 0) : Int) == 4)
               (cond (((IntKind.i64.wrap (x0 + (IntKind.i64.wrap (((r53 ((x4.getD (Int.toNat x3) []).getD 0 0)).2) - ((r53 ((x4.getD (Int.toNat x3) []).getD 0 0)).1))))) : Int) != 0)
                (0, (IntKind.i64.wrap (x0 + (IntKind.i64.wrap (((r53 ((x4.getD (Int.toNat x3) []).getD 0 0)).2) - ((r53 ((x4.getD (Int.toNat x3) []).getD 0 0)).1))))), x1, 0, 0)
                (ih (IntKind.i64.wrap (x0 + (IntKind.i64.wrap (((r53 ((x4.getD (Int.toNat x3) []).getD 0 0)).2) - ((r53 ((x4.getD (Int.toNat x3) []).getD 0 0)).1))))) x1 x2 (IntKind.i64.wrap (x3 + 1)) x4 x5))
               (ih (IntKind.i64.wrap (x0 + (IntKind.i64.wrap (((r53 ((x4.getD (Int.toNat x3) []).getD 0 0)).2) - ((r53 ((x4.getD (Int.toNat x3) []).getD 0 0)).1))))) x1 x2 (IntKind.i64.wrap (x3 + 1)) x4 x5)))))
           (cond (decide ((x0 : Int) < ((r53 ((x4.getD (Int.toNat x3) []).getD 0 0)).1)))
            (0, x0, x1, 0, 0)
            (cond (decide (((IntKind.i64.wrap (x0 + (IntKind.i64.wrap (((r53 ((x4.getD (Int.toNat x3) []).getD 0 0)).2) - ((r53 ((x4.getD (Int.toNat x3) []).getD 0 0)).1))))) : Int) > 20))
             (0, (IntKind.i64.wrap (x0 + (IntKind.i64.wrap (((r53 ((x4.getD (Int.toNat x3) []).getD 0 0)).2) - ((r53 ((x4.getD (Int.toNat x3) []).getD 0 0)).1))))), x1, 0, 0)
             (cond ((((x4.getD (Int.toNat x3) []).getD 0 0) : Int) == 4)
              (cond (((IntKind.i64.wrap (x0 + (IntKind.i64.wrap (((r53 ((x4.getD (Int.toNat x3) []).getD 0 0)).2) - ((r53 ((x4.getD (Int.toNat x3) []).getD 0 0)).1))))) : Int) != 0)
               (0, (IntKind.i64.wrap (x0 + (IntKind.i64.wrap (((r53 ((x4.getD (Int.toNat x3) []).getD 0 0)).2) - ((r53 ((x4.getD (Int.toNat x3) []).getD 0 0)).1))))), x1, 0, 0)
               (ih (IntKind.i64.wrap (x0 + (IntKind.i64.wrap (((r53 ((x4.getD (Int.toNat x3) []).getD 0 0)).2) - ((r53 ((x4.getD (Int.toNat x3) []).getD 0 0)).1))))) x1 x2 (IntKind.i64.wrap (x3 + 1)) x4 x5))
              (ih (IntKind.i64.wrap (x0 + (IntKind.i64.wrap (((r53 ((x4.getD (Int.toNat x3) []).getD 0 0)).2) - ((r53 ((x4.getD (Int.toNat x3) []).getD 0 0)).1))))) x1 x2 (IntKind.i64.wrap (x3 + 1)) x4 x5)))))))
        (cond ((((x4.getD (Int.toNat x3) []).getD 0 0) : Int) == 4)
         (cond (((IntKind.i64.wrap ((x4.getD (Int.toNat x3) []).getD 1 0)) : Int) != x1)
          (0, x0, x1, 0, 0)
          (cond (decide ((x1 : Int) ≥ ((x5.length : Nat) : Int)))
           (0, x0, x1, 0, 0)
           (cond ((((x4.getD (Int.toNat x3) []).getD 0 0) : Int) != 1)
            (cond (!(r52 (Int.toNat ((x4.getD (Int.toNat x3) []).getD 2 0))))
             (0, x0, (IntKind.i64.wrap (x1 + 1)), 0, 0)
             (cond (decide ((x0 : Int) < ((r53 ((x4.getD (Int.toNat x3) []).getD 0 0)).1)))
              (0, x0, (IntKind.i64.wrap (x1 + 1)), 0, 0)
              (cond (decide (((IntKind.i64.wrap (x0 + (IntKind.i64.wrap (((r53 ((x4.getD (Int.toNat x3) []).getD 0 0)).2) - ((r53 ((x4.getD (Int.toNat x3) []).getD 0 0)).1))))) : Int) > 20))
               (0, (IntKind.i64.wrap (x0 + (IntKind.i64.wrap (((r53 ((x4.getD (Int.toNat x3) []).getD 0 0)).2) - ((r53 ((x4.getD (Int.toNat x3) []).getD 0 0)).1))))), (IntKind.i64.wrap (x1 + 1)), 0, 0)
               (cond (((IntKind.i64.wrap (x0 + (IntKind.i64.wrap (((r53 ((x4.getD (Int.toNat x3) []).getD 0 0)).2) - ((r53 ((x4.getD (Int.toNat x3) []).getD 0 0)).1))))) : Int) != 0)
                (0, (IntKind.i64.wrap (x0 + (IntKind.i64.wrap (((r53 ((x4.getD (Int.toNat x3) []).getD 0 0)).2) - ((r53 ((x4.getD (Int.toNat x3) []).getD 0 0)).1))))), (IntKind.i64.wrap (x1 + 1)), 0, 0)
                (ih (IntKind.i64.wrap (x0 + (IntKind.i64.wrap (((r53 ((x4.getD (Int.toNat x3) []).getD 0 0)).2) - ((r53 ((x4.getD (Int.toNat x3) []).getD 0 0)).1))))) (IntKind.i64.wrap (x1 + 1)) x2 (IntKind.i64.wrap (x3 + 1)) x4 x5)))))
            (cond (decide ((x0 : Int) < ((r53 ((x4.getD (Int.toNat x3) []).getD 0 0)).1)))
             (0, x0, (IntKind.i64.wrap (x1 + 1)), 0, 0)
             (cond (decide (((IntKind.i64.wrap (x0 + (IntKind.i64.wrap (((r53 ((x4.getD (Int.toNat x3) []).getD 0 0)).2) - ((r53 ((x4.getD (Int.toNat x3) []).getD 0 0)).1))))) : Int) > 20))
              (0, (IntKind.i64.wrap (x0 + (IntKind.i64.wrap (((r53 ((x4.getD (Int.toNat x3) []).getD 0 0)).2) - ((r53 ((x4.getD (Int.toNat x3) []).getD 0 0)).1))))), (IntKind.i64.wrap (x1 + 1)), 0, 0)
              (cond (((IntKind.i64.wrap (x0 + (IntKind.i64.wrap (((r53 ((x4.getD (Int.toNat x3) []).getD 0 0)).2) - ((r53 ((x4.getD (Int.toNat x3) []).getD 0 0)).1))))) : Int) != 0)
               (0, (IntKind.i64.wrap (x0 + (IntKind.i64.wrap (((r53 ((x4.getD (Int.toNat x3) []).getD 0 0)).2) - ((r53 ((x4.getD (Int.toNat x3) []).getD 0 0)).1))))), (IntKind.i64.wrap (x1 + 1)), 0, 0)
               (ih (IntKind.i64.wrap (x0 + (IntKind.i64.wrap (((r53 ((x4.getD (Int.toNat x3) []).getD 0 0)).2) - ((r53 ((x4.getD (Int.toNat x3) []).getD 0 0)).1))))) (IntKind.i64.wrap (x1 + 1)) x2 (IntKind.i64.wrap (x3 + 1)) x4 x5)))))))
         (cond (((IntKind.i64.wrap ((x4.getD (Int.toNat x3) []).getD 1 0)) : Int) != 0)
          (0, x0, x1, 0, 0)
          (cond ((((x4.getD (Int.toNat x3) []).getD 0 0) : Int) != 1)
           (cond (!(r52 (Int.toNat ((x4.getD (Int.toNat x3) []).getD 2 0))))
            (0, x0, x1, 0, 0)
            (cond (decide ((x0 : Int) < ((r53 ((x4.getD (Int.toNat x3) []).getD 0 0)).1)))
             (0, x0, x1, 0, 0)
             (cond (decide (((IntKind.i64.wrap (x0 + (IntKind.i64.wrap (((r53 ((x4.getD (Int.toNat x3) []).getD 0 0)).2) - ((r53 ((x4.getD (Int.toNat x3) []).getD 0 0)).1))))) : Int) > 20))
              (0, (IntKind.i64.wrap (x0 + (IntKind.i64.wrap (((r53 ((x4.getD (Int.toNat x3) []).getD 0 0)).2) - ((r53 ((x4.getD (Int.toNat x3) []).getD 0 0)).1))))), x1, 0, 0)
              (ih (IntKind.i64.wrap (x0 + (IntKind.i64.wrap (((r53 ((x4.getD (Int.toNat x3) []).getD 0 0)).2) - ((r53 ((x4.getD (Int.toNat x3) []).getD 0 0)).1))))) x1 x2 (IntKind.i64.wrap (x3 + 1)) x4 x5))))
           (cond (decide ((x0 : Int) < ((r53 ((x4.getD (Int.toNat x3) []).getD 0 0)).1)))
            (0, x0, x1, 0, 0)
            (cond (decide (((IntKind.i64.wrap (x0 + (IntKind.i64.wrap (((r53 ((x4.getD (Int.toNat x3) []).getD 0 0)).2) - ((r53 ((x4.getD (Int.toNat x3) []).getD 0 0)).1))))) : Int) > 20))
             (0, (IntKind.i64.wrap (x0 + (IntKind.i64.wrap (((r53 ((x4.getD (Int.toNat x3) []).getD 0 0)).2) - ((r53 ((x4.getD (Int.toNat x3) []).getD 0 0)).1))))), x1, 0, 0)
             (ih (IntKind.i64.wrap (x0 + (IntKind.i64.wrap (((r53 ((x4.getD (Int.toNat x3) []).getD 0 0)).2) - ((r53 ((x4.getD (Int.toNat x3) []).getD 0 0)).1))))) x1 x2 (IntKind.i64.wrap (x3 + 1)) x4 x5)))))))))))
   (2, 0, 0, 0, 0))
  (1, 0, 0, x0, x1)
noncomputable def r16l1 : Nat → Int → Int → Int → Int → List (List Int) → List ByteArray → (Nat × Int × Int × Int × Int)
 | 0 => fun _ _ _ _ _ _ => (2, 0, 0, 0, 0)
 | m + 1 => b16l1 (r16l1 m)
noncomputable def a16l1 (x0 x1 x2 x3 : Int) (x4 : List (List Int)) (x5 : List ByteArray) (p : Nat × Int × Int × Int × Int) : Option (Fin' × List Value × St) := firstT ([((Nat.beq (p.1) 0), .ret, [.pointer (some ⟨0, 0, some 0⟩), .bool false, .int .i64 (p.2.1), .int .i64 (p.2.2.1)], ⟨[⟨true, (some (.cells [wsl 2, wsl 1]))⟩, ⟨true, (some (.tab [.int .i8, .int .i16, .fl .f32] x4))⟩, ⟨true, (some (.strs x5))⟩], 3, []⟩), ((Nat.beq (p.1) 1), .exit 2, [.pointer (some ⟨0, 0, some 0⟩), anyV, .int .i64 (p.2.2.2.1), .int .i64 (p.2.2.2.2)], ⟨[⟨true, (some (.cells [wsl 2, wsl 1]))⟩, ⟨true, (some (.tab [.int .i8, .int .i16, .fl .f32] x4))⟩, ⟨true, (some (.strs x5))⟩], 3, []⟩)].map fun (b, x) => (b, (x.1, frameOf 161 [1, 2, 5, 6] x.2.1, x.2.2)))
noncomputable def u16l1 (x0 x1 x2 x3 : Int) (x4 : List (List Int)) (x5 : List ByteArray) (p : Nat × Int × Int × Int × Int) : Option (Fin' × List Value × St) := alts ([((Nat.beq (p.1) 0), .ret, [.pointer (some ⟨0, 0, some 0⟩), .bool false, .int .i64 (p.2.1), .int .i64 (p.2.2.1)], ⟨[⟨true, (some (.cells [wsl 2, wsl 1]))⟩, ⟨true, (some (.tab [.int .i8, .int .i16, .fl .f32] x4))⟩, ⟨true, (some (.strs x5))⟩], 3, []⟩), ((Nat.beq (p.1) 1), .exit 2, [.pointer (some ⟨0, 0, some 0⟩), anyV, .int .i64 (p.2.2.2.1), .int .i64 (p.2.2.2.2)], ⟨[⟨true, (some (.cells [wsl 2, wsl 1]))⟩, ⟨true, (some (.tab [.int .i8, .int .i16, .fl .f32] x4))⟩, ⟨true, (some (.strs x5))⟩], 3, []⟩)].map fun (b, x) => (b, (x.1, frameOf 161 [1, 2, 5, 6] x.2.1, x.2.2))) some
theorem v16l1 (x0 x1 x2 x3 : Int) (x4 : List (List Int)) (x5 : List ByteArray) (p : Nat × Int × Int × Int × Int) : u16l1 x0 x1 x2 x3 x4 x5 p = a16l1 x0 x1 x2 x3 x4 x5 p := alts_first _
noncomputable def q16l1 (m : Nat) : SumK := fun vals s =>
 match vals, s.h with
 | [.pointer (some ⟨f0, f1, some f2⟩), .int .i64 x0, .int .i64 x1, .iface f3 .nilIface, .int .i64 x2, .int .i64 x3], [⟨true, some (.cells [.iface f4 .nilIface, .iface f5 .nilIface])⟩, ⟨true, some (.tab [.int .i8, .int .i16, .fl .f32] x4)⟩, ⟨true, some (.strs x5)⟩] => if f0 = 0 ∧ f1 = 0 ∧ f2 = 0 ∧ f3 = 1 ∧ f4 = 2 ∧ f5 = 1 then [((Nat.beq ((r16l1 m x0 x1 x2 x3 x4 x5).1) 0), .ret, [.pointer (some ⟨0, 0, some 0⟩), .bool false, .int .i64 ((r16l1 m x0 x1 x2 x3 x4 x5).2.1), .int .i64 ((r16l1 m x0 x1 x2 x3 x4 x5).2.2.1)], ⟨[⟨true, (some (.cells [wsl 2, wsl 1]))⟩, ⟨true, (some (.tab [.int .i8, .int .i16, .fl .f32] x4))⟩, ⟨true, (some (.strs x5))⟩], 3, []⟩), ((Nat.beq ((r16l1 m x0 x1 x2 x3 x4 x5).1) 1), .exit 2, [.pointer (some ⟨0, 0, some 0⟩), anyV, .int .i64 ((r16l1 m x0 x1 x2 x3 x4 x5).2.2.2.1), .int .i64 ((r16l1 m x0 x1 x2 x3 x4 x5).2.2.2.2)], ⟨[⟨true, (some (.cells [wsl 2, wsl 1]))⟩, ⟨true, (some (.tab [.int .i8, .int .i16, .fl .f32] x4))⟩, ⟨true, (some (.strs x5))⟩], 3, []⟩)] else noQ vals s
 | _, _ => noQ vals s
noncomputable def w16l1 (ih : Int → Int → Int → Int → List (List Int) → List ByteArray → (Nat × Int × Int × Int × Int)) (x0 x1 x2 x3 : Int) (x4 : List (List Int)) (x5 : List ByteArray) : Option (Fin' × List Value × St) :=
 (cond (decide ((x3 : Int) < x2))
 (cond ((decide ((0 : Int) ≤ x3)) && (Nat.blt (Int.toNat x3) x4.length))
  (cond (Nat.blt (Int.toNat x3) x4.length)
   (cond (decide ((((x4.getD (Int.toNat x3) []).getD 0 0) : Int) < 1))
    (a16l1 x0 x1 x2 x3 x4 x5 (0, x0, x1, 0, 0))
    (cond (decide ((((x4.getD (Int.toNat x3) []).getD 0 0) : Int) > 12))
     (a16l1 x0 x1 x2 x3 x4 x5 (0, x0, x1, 0, 0))
     (cond ((((x4.getD (Int.toNat x3) []).getD 0 0) : Int) == 1)
      (cond (((IntKind.i64.wrap ((x4.getD (Int.toNat x3) []).getD 1 0)) : Int) != 0)
       (a16l1 x0 x1 x2 x3 x4 x5 (0, x0, x1, 0, 0))
       (cond (!(r51 (Int.toNat ((x4.getD (Int.toNat x3) []).getD 2 0))))
        (a16l1 x0 x1 x2 x3 x4 x5 (0, x0, x1, 0, 0))
        (cond (feq .f32 (Int.toNat ((x4.getD (Int.toNat x3) []).getD 2 0)) 0)
         (cond (!(r52 (Int.toNat ((x4.getD (Int.toNat x3) []).getD 2 0))))
          (a16l1 x0 x1 x2 x3 x4 x5 (0, x0, x1, 0, 0))
          (cond ((((x4.getD (Int.toNat x3) []).getD 0 0) : Int) != 1)
           (cond (!(r52 (Int.toNat ((x4.getD (Int.toNat x3) []).getD 2 0))))
            (some (.ret, frameOf 161 [1, 2, 5, 6] [.pointer (some ⟨0, 0, some 0⟩), .bool false, .int .i64 x0, .int .i64 x1], ⟨[⟨true, (some (.cells [wsl 2, wsl 1]))⟩, ⟨true, (some (.tab [.int .i8, .int .i16, .fl .f32] x4))⟩, ⟨true, (some (.strs x5))⟩], 3, []⟩))
            (cond (decide ((x0 : Int) < ((r53 ((x4.getD (Int.toNat x3) []).getD 0 0)).1)))
             (a16l1 x0 x1 x2 x3 x4 x5 (0, x0, x1, 0, 0))
             (cond (decide (((IntKind.i64.wrap (x0 + (IntKind.i64.wrap (((r53 ((x4.getD (Int.toNat x3) []).getD 0 0)).2) - ((r53 ((x4.getD (Int.toNat x3) []).getD 0 0)).1))))) : Int) > 20))
              (a16l1 x0 x1 x2 x3 x4 x5 (0, (IntKind.i64.wrap (x0 + (IntKind.i64.wrap (((r53 ((x4.getD (Int.toNat x3) []).getD 0 0)).2) - ((r53 ((x4.getD (Int.toNat x3) []).getD 0 0)).1))))), x1, 0, 0))
              (cond ((((x4.getD (Int.toNat x3) []).getD 0 0) : Int) == 4)
               (cond (((IntKind.i64.wrap (x0 + (IntKind.i64.wrap (((r53 ((x4.getD (Int.toNat x3) []).getD 0 0)).2) - ((r53 ((x4.getD (Int.toNat x3) []).getD 0 0)).1))))) : Int) != 0)
                (a16l1 x0 x1 x2 x3 x4 x5 (0, (IntKind.i64.wrap (x0 + (IntKind.i64.wrap (((r53 ((x4.getD (Int.toNat x3) []).getD 0 0)).2) - ((r53 ((x4.getD (Int.toNat x3) []).getD 0 0)).1))))), x1, 0, 0))
                (u16l1 x0 x1 x2 x3 x4 x5 (ih (IntKind.i64.wrap (x0 + (IntKind.i64.wrap (((r53 ((x4.getD (Int.toNat x3) []).getD 0 0)).2) - ((r53 ((x4.getD (Int.toNat x3) []).getD 0 0)).1))))) x1 x2 (IntKind.i64.wrap (x3 + 1)) x4 x5)))
               (u16l1 x0 x1 x2 x3 x4 x5 (ih (IntKind.i64.wrap (x0 + (IntKind.i64.wrap (((r53 ((x4.getD (Int.toNat x3) []).getD 0 0)).2) - ((r53 ((x4.getD (Int.toNat x3) []).getD 0 0)).1))))) x1 x2 (IntKind.i64.wrap (x3 + 1)) x4 x5))))))
           (cond (decide ((x0 : Int) < ((r53 ((x4.getD (Int.toNat x3) []).getD 0 0)).1)))
            (a16l1 x0 x1 x2 x3 x4 x5 (0, x0, x1, 0, 0))
            (cond (decide (((IntKind.i64.wrap (x0 + (IntKind.i64.wrap (((r53 ((x4.getD (Int.toNat x3) []).getD 0 0)).2) - ((r53 ((x4.getD (Int.toNat x3) []).getD 0 0)).1))))) : Int) > 20))
             (a16l1 x0 x1 x2 x3 x4 x5 (0, (IntKind.i64.wrap (x0 + (IntKind.i64.wrap (((r53 ((x4.getD (Int.toNat x3) []).getD 0 0)).2) - ((r53 ((x4.getD (Int.toNat x3) []).getD 0 0)).1))))), x1, 0, 0))
             (cond ((((x4.getD (Int.toNat x3) []).getD 0 0) : Int) == 4)
              (cond (((IntKind.i64.wrap (x0 + (IntKind.i64.wrap (((r53 ((x4.getD (Int.toNat x3) []).getD 0 0)).2) - ((r53 ((x4.getD (Int.toNat x3) []).getD 0 0)).1))))) : Int) != 0)
               (a16l1 x0 x1 x2 x3 x4 x5 (0, (IntKind.i64.wrap (x0 + (IntKind.i64.wrap (((r53 ((x4.getD (Int.toNat x3) []).getD 0 0)).2) - ((r53 ((x4.getD (Int.toNat x3) []).getD 0 0)).1))))), x1, 0, 0))
               (u16l1 x0 x1 x2 x3 x4 x5 (ih (IntKind.i64.wrap (x0 + (IntKind.i64.wrap (((r53 ((x4.getD (Int.toNat x3) []).getD 0 0)).2) - ((r53 ((x4.getD (Int.toNat x3) []).getD 0 0)).1))))) x1 x2 (IntKind.i64.wrap (x3 + 1)) x4 x5)))
              (u16l1 x0 x1 x2 x3 x4 x5 (ih (IntKind.i64.wrap (x0 + (IntKind.i64.wrap (((r53 ((x4.getD (Int.toNat x3) []).getD 0 0)).2) - ((r53 ((x4.getD (Int.toNat x3) []).getD 0 0)).1))))) x1 x2 (IntKind.i64.wrap (x3 + 1)) x4 x5)))))))
         (cond ((((x4.getD (Int.toNat x3) []).getD 0 0) : Int) != 1)
          (cond (!(r52 (Int.toNat ((x4.getD (Int.toNat x3) []).getD 2 0))))
           (a16l1 x0 x1 x2 x3 x4 x5 (0, x0, x1, 0, 0))
           (cond (decide ((x0 : Int) < ((r53 ((x4.getD (Int.toNat x3) []).getD 0 0)).1)))
            (a16l1 x0 x1 x2 x3 x4 x5 (0, x0, x1, 0, 0))
            (cond (decide (((IntKind.i64.wrap (x0 + (IntKind.i64.wrap (((r53 ((x4.getD (Int.toNat x3) []).getD 0 0)).2) - ((r53 ((x4.getD (Int.toNat x3) []).getD 0 0)).1))))) : Int) > 20))
             (a16l1 x0 x1 x2 x3 x4 x5 (0, (IntKind.i64.wrap (x0 + (IntKind.i64.wrap (((r53 ((x4.getD (Int.toNat x3) []).getD 0 0)).2) - ((r53 ((x4.getD (Int.toNat x3) []).getD 0 0)).1))))), x1, 0, 0))
             (cond ((((x4.getD (Int.toNat x3) []).getD 0 0) : Int) == 4)
              (cond (((IntKind.i64.wrap (x0 + (IntKind.i64.wrap (((r53 ((x4.getD (Int.toNat x3) []).getD 0 0)).2) - ((r53 ((x4.getD (Int.toNat x3) []).getD 0 0)).1))))) : Int) != 0)
               (a16l1 x0 x1 x2 x3 x4 x5 (0, (IntKind.i64.wrap (x0 + (IntKind.i64.wrap (((r53 ((x4.getD (Int.toNat x3) []).getD 0 0)).2) - ((r53 ((x4.getD (Int.toNat x3) []).getD 0 0)).1))))), x1, 0, 0))
               (u16l1 x0 x1 x2 x3 x4 x5 (ih (IntKind.i64.wrap (x0 + (IntKind.i64.wrap (((r53 ((x4.getD (Int.toNat x3) []).getD 0 0)).2) - ((r53 ((x4.getD (Int.toNat x3) []).getD 0 0)).1))))) x1 x2 (IntKind.i64.wrap (x3 + 1)) x4 x5)))
              (u16l1 x0 x1 x2 x3 x4 x5 (ih (IntKind.i64.wrap (x0 + (IntKind.i64.wrap (((r53 ((x4.getD (Int.toNat x3) []).getD 0 0)).2) - ((r53 ((x4.getD (Int.toNat x3) []).getD 0 0)).1))))) x1 x2 (IntKind.i64.wrap (x3 + 1)) x4 x5))))))
          (cond (decide ((x0 : Int) < ((r53 ((x4.getD (Int.toNat x3) []).getD 0 0)).1)))
           (a16l1 x0 x1 x2 x3 x4 x5 (0, x0, x1, 0, 0))
           (cond (decide (((IntKind.i64.wrap (x0 + (IntKind.i64.wrap (((r53 ((x4.getD (Int.toNat x3) []).getD 0 0)).2) - ((r53 ((x4.getD (Int.toNat x3) []).getD 0 0)).1))))) : Int) > 20))
            (a16l1 x0 x1 x2 x3 x4 x5 (0, (IntKind.i64.wrap (x0 + (IntKind.i64.wrap (((r53 ((x4.getD (Int.toNat x3) []).getD 0 0)).2) - ((r53 ((x4.getD (Int.toNat x3) []).getD 0 0)).1))))), x1, 0, 0))
            (cond ((((x4.getD (Int.toNat x3) []).getD 0 0) : Int) == 4)
             (cond (((IntKind.i64.wrap (x0 + (IntKind.i64.wrap (((r53 ((x4.getD (Int.toNat x3) []).getD 0 0)).2) - ((r53 ((x4.getD (Int.toNat x3) []).getD 0 0)).1))))) : Int) != 0)
              (a16l1 x0 x1 x2 x3 x4 x5 (0, (IntKind.i64.wrap (x0 + (IntKind.i64.wrap (((r53 ((x4.getD (Int.toNat x3) []).getD 0 0)).2) - ((r53 ((x4.getD (Int.toNat x3) []).getD 0 0)).1))))), x1, 0, 0))
              (u16l1 x0 x1 x2 x3 x4 x5 (ih (IntKind.i64.wrap (x0 + (IntKind.i64.wrap (((r53 ((x4.getD (Int.toNat x3) []).getD 0 0)).2) - ((r53 ((x4.getD (Int.toNat x3) []).getD 0 0)).1))))) x1 x2 (IntKind.i64.wrap (x3 + 1)) x4 x5)))
             (u16l1 x0 x1 x2 x3 x4 x5 (ih (IntKind.i64.wrap (x0 + (IntKind.i64.wrap (((r53 ((x4.getD (Int.toNat x3) []).getD 0 0)).2) - ((r53 ((x4.getD (Int.toNat x3) []).getD 0 0)).1))))) x1 x2 (IntKind.i64.wrap (x3 + 1)) x4 x5)))))))))
      (cond ((((x4.getD (Int.toNat x3) []).getD 0 0) : Int) == 2)
       (cond (decide (((IntKind.i64.wrap ((x4.getD (Int.toNat x3) []).getD 1 0)) : Int) < 0))
        (a16l1 x0 x1 x2 x3 x4 x5 (0, x0, x1, 0, 0))
        (cond (decide (((IntKind.i64.wrap ((x4.getD (Int.toNat x3) []).getD 1 0)) : Int) ≥ 4))
         (a16l1 x0 x1 x2 x3 x4 x5 (0, x0, x1, 0, 0))
         (cond ((((x4.getD (Int.toNat x3) []).getD 0 0) : Int) != 1)
          (cond (!(r52 (Int.toNat ((x4.getD (Int.toNat x3) []).getD 2 0))))
           (a16l1 x0 x1 x2 x3 x4 x5 (0, x0, x1, 0, 0))
           (cond (decide ((x0 : Int) < ((r53 ((x4.getD (Int.toNat x3) []).getD 0 0)).1)))
            (a16l1 x0 x1 x2 x3 x4 x5 (0, x0, x1, 0, 0))
            (cond (decide (((IntKind.i64.wrap (x0 + (IntKind.i64.wrap (((r53 ((x4.getD (Int.toNat x3) []).getD 0 0)).2) - ((r53 ((x4.getD (Int.toNat x3) []).getD 0 0)).1))))) : Int) > 20))
             (a16l1 x0 x1 x2 x3 x4 x5 (0, (IntKind.i64.wrap (x0 + (IntKind.i64.wrap (((r53 ((x4.getD (Int.toNat x3) []).getD 0 0)).2) - ((r53 ((x4.getD (Int.toNat x3) []).getD 0 0)).1))))), x1, 0, 0))
             (cond ((((x4.getD (Int.toNat x3) []).getD 0 0) : Int) == 4)
              (cond (((IntKind.i64.wrap (x0 + (IntKind.i64.wrap (((r53 ((x4.getD (Int.toNat x3) []).getD 0 0)).2) - ((r53 ((x4.getD (Int.toNat x3) []).getD 0 0)).1))))) : Int) != 0)
               (a16l1 x0 x1 x2 x3 x4 x5 (0, (IntKind.i64.wrap (x0 + (IntKind.i64.wrap (((r53 ((x4.getD (Int.toNat x3) []).getD 0 0)).2) - ((r53 ((x4.getD (Int.toNat x3) []).getD 0 0)).1))))), x1, 0, 0))
               (u16l1 x0 x1 x2 x3 x4 x5 (ih (IntKind.i64.wrap (x0 + (IntKind.i64.wrap (((r53 ((x4.getD (Int.toNat x3) []).getD 0 0)).2) - ((r53 ((x4.getD (Int.toNat x3) []).getD 0 0)).1))))) x1 x2 (IntKind.i64.wrap (x3 + 1)) x4 x5)))
              (u16l1 x0 x1 x2 x3 x4 x5 (ih (IntKind.i64.wrap (x0 + (IntKind.i64.wrap (((r53 ((x4.getD (Int.toNat x3) []).getD 0 0)).2) - ((r53 ((x4.getD (Int.toNat x3) []).getD 0 0)).1))))) x1 x2 (IntKind.i64.wrap (x3 + 1)) x4 x5))))))
          (cond (decide ((x0 : Int) < ((r53 ((x4.getD (Int.toNat x3) []).getD 0 0)).1)))
           (a16l1 x0 x1 x2 x3 x4 x5 (0, x0, x1, 0, 0))
           (cond (decide (((IntKind.i64.wrap (x0 + (IntKind.i64.wrap (((r53 ((x4.getD (Int.toNat x3) []).getD 0 0)).2) - ((r53 ((x4.getD (Int.toNat x3) []).getD 0 0)).1))))) : Int) > 20))
            (a16l1 x0 x1 x2 x3 x4 x5 (0, (IntKind.i64.wrap (x0 + (IntKind.i64.wrap (((r53 ((x4.getD (Int.toNat x3) []).getD 0 0)).2) - ((r53 ((x4.getD (Int.toNat x3) []).getD 0 0)).1))))), x1, 0, 0))
            (cond ((((x4.getD (Int.toNat x3) []).getD 0 0) : Int) == 4)
             (cond (((IntKind.i64.wrap (x0 + (IntKind.i64.wrap (((r53 ((x4.getD (Int.toNat x3) []).getD 0 0)).2) - ((r53 ((x4.getD (Int.toNat x3) []).getD 0 0)).1))))) : Int) != 0)
              (a16l1 x0 x1 x2 x3 x4 x5 (0, (IntKind.i64.wrap (x0 + (IntKind.i64.wrap (((r53 ((x4.getD (Int.toNat x3) []).getD 0 0)).2) - ((r53 ((x4.getD (Int.toNat x3) []).getD 0 0)).1))))), x1, 0, 0))
              (u16l1 x0 x1 x2 x3 x4 x5 (ih (IntKind.i64.wrap (x0 + (IntKind.i64.wrap (((r53 ((x4.getD (Int.toNat x3) []).getD 0 0)).2) - ((r53 ((x4.getD (Int.toNat x3) []).getD 0 0)).1))))) x1 x2 (IntKind.i64.wrap (x3 + 1)) x4 x5)))
             (u16l1 x0 x1 x2 x3 x4 x5 (ih (IntKind.i64.wrap (x0 + (IntKind.i64.wrap (((r53 ((x4.getD (Int.toNat x3) []).getD 0 0)).2) - ((r53 ((x4.getD (Int.toNat x3) []).getD 0 0)).1))))) x1 x2 (IntKind.i64.wrap (x3 + 1)) x4 x5))))))))
       (cond ((((x4.getD (Int.toNat x3) []).getD 0 0) : Int) == 3)
        (cond (decide (((IntKind.i64.wrap ((x4.getD (Int.toNat x3) []).getD 1 0)) : Int) < 0))
         (a16l1 x0 x1 x2 x3 x4 x5 (0, x0, x1, 0, 0))
         (cond (decide (((IntKind.i64.wrap ((x4.getD (Int.toNat x3) []).getD 1 0)) : Int) ≥ x1))
          (a16l1 x0 x1 x2 x3 x4 x5 (0, x0, x1, 0, 0))
          (cond ((((x4.getD (Int.toNat x3) []).getD 0 0) : Int) != 1)
           (cond (!(r52 (Int.toNat ((x4.getD (Int.toNat x3) []).getD 2 0))))
            (a16l1 x0 x1 x2 x3 x4 x5 (0, x0, x1, 0, 0))
            (cond (decide ((x0 : Int) < ((r53 ((x4.getD (Int.toNat x3) []).getD 0 0)).1)))
             (a16l1 x0 x1 x2 x3 x4 x5 (0, x0, x1, 0, 0))
             (cond (decide (((IntKind.i64.wrap (x0 + (IntKind.i64.wrap (((r53 ((x4.getD (Int.toNat x3) []).getD 0 0)).2) - ((r53 ((x4.getD (Int.toNat x3) []).getD 0 0)).1))))) : Int) > 20))
              (a16l1 x0 x1 x2 x3 x4 x5 (0, (IntKind.i64.wrap (x0 + (IntKind.i64.wrap (((r53 ((x4.getD (Int.toNat x3) []).getD 0 0)).2) - ((r53 ((x4.getD (Int.toNat x3) []).getD 0 0)).1))))), x1, 0, 0))
              (cond ((((x4.getD (Int.toNat x3) []).getD 0 0) : Int) == 4)
               (cond (((IntKind.i64.wrap (x0 + (IntKind.i64.wrap (((r53 ((x4.getD (Int.toNat x3) []).getD 0 0)).2) - ((r53 ((x4.getD (Int.toNat x3) []).getD 0 0)).1))))) : Int) != 0)
                (a16l1 x0 x1 x2 x3 x4 x5 (0, (IntKind.i64.wrap (x0 + (IntKind.i64.wrap (((r53 ((x4.getD (Int.toNat x3) []).getD 0 0)).2) - ((r53 ((x4.getD (Int.toNat x3) []).getD 0 0)).1))))), x1, 0, 0))
                (u16l1 x0 x1 x2 x3 x4 x5 (ih (IntKind.i64.wrap (x0 + (IntKind.i64.wrap (((r53 ((x4.getD (Int.toNat x3) []).getD 0 0)).2) - ((r53 ((x4.getD (Int.toNat x3) []).getD 0 0)).1))))) x1 x2 (IntKind.i64.wrap (x3 + 1)) x4 x5)))
               (u16l1 x0 x1 x2 x3 x4 x5 (ih (IntKind.i64.wrap (x0 + (IntKind.i64.wrap (((r53 ((x4.getD (Int.toNat x3) []).getD 0 0)).2) - ((r53 ((x4.getD (Int.toNat x3) []).getD 0 0)).1))))) x1 x2 (IntKind.i64.wrap (x3 + 1)) x4 x5))))))
           (cond (decide ((x0 : Int) < ((r53 ((x4.getD (Int.toNat x3) []).getD 0 0)).1)))
            (a16l1 x0 x1 x2 x3 x4 x5 (0, x0, x1, 0, 0))
            (cond (decide (((IntKind.i64.wrap (x0 + (IntKind.i64.wrap (((r53 ((x4.getD (Int.toNat x3) []).getD 0 0)).2) - ((r53 ((x4.getD (Int.toNat x3) []).getD 0 0)).1))))) : Int) > 20))
             (a16l1 x0 x1 x2 x3 x4 x5 (0, (IntKind.i64.wrap (x0 + (IntKind.i64.wrap (((r53 ((x4.getD (Int.toNat x3) []).getD 0 0)).2) - ((r53 ((x4.getD (Int.toNat x3) []).getD 0 0)).1))))), x1, 0, 0))
             (cond ((((x4.getD (Int.toNat x3) []).getD 0 0) : Int) == 4)
              (cond (((IntKind.i64.wrap (x0 + (IntKind.i64.wrap (((r53 ((x4.getD (Int.toNat x3) []).getD 0 0)).2) - ((r53 ((x4.getD (Int.toNat x3) []).getD 0 0)).1))))) : Int) != 0)
               (a16l1 x0 x1 x2 x3 x4 x5 (0, (IntKind.i64.wrap (x0 + (IntKind.i64.wrap (((r53 ((x4.getD (Int.toNat x3) []).getD 0 0)).2) - ((r53 ((x4.getD (Int.toNat x3) []).getD 0 0)).1))))), x1, 0, 0))
               (u16l1 x0 x1 x2 x3 x4 x5 (ih (IntKind.i64.wrap (x0 + (IntKind.i64.wrap (((r53 ((x4.getD (Int.toNat x3) []).getD 0 0)).2) - ((r53 ((x4.getD (Int.toNat x3) []).getD 0 0)).1))))) x1 x2 (IntKind.i64.wrap (x3 + 1)) x4 x5)))
              (u16l1 x0 x1 x2 x3 x4 x5 (ih (IntKind.i64.wrap (x0 + (IntKind.i64.wrap (((r53 ((x4.getD (Int.toNat x3) []).getD 0 0)).2) - ((r53 ((x4.getD (Int.toNat x3) []).getD 0 0)).1))))) x1 x2 (IntKind.i64.wrap (x3 + 1)) x4 x5))))))))
        (cond ((((x4.getD (Int.toNat x3) []).getD 0 0) : Int) == 4)
         (cond (((IntKind.i64.wrap ((x4.getD (Int.toNat x3) []).getD 1 0)) : Int) != x1)
          (a16l1 x0 x1 x2 x3 x4 x5 (0, x0, x1, 0, 0))
          (cond (decide ((x1 : Int) ≥ ((x5.length : Nat) : Int)))
           (a16l1 x0 x1 x2 x3 x4 x5 (0, x0, x1, 0, 0))
           (cond ((((x4.getD (Int.toNat x3) []).getD 0 0) : Int) != 1)
            (cond (!(r52 (Int.toNat ((x4.getD (Int.toNat x3) []).getD 2 0))))
             (a16l1 x0 x1 x2 x3 x4 x5 (0, x0, (IntKind.i64.wrap (x1 + 1)), 0, 0))
             (cond (decide ((x0 : Int) < ((r53 ((x4.getD (Int.toNat x3) []).getD 0 0)).1)))
              (a16l1 x0 x1 x2 x3 x4 x5 (0, x0, (IntKind.i64.wrap (x1 + 1)), 0, 0))
              (cond (decide (((IntKind.i64.wrap (x0 + (IntKind.i64.wrap (((r53 ((x4.getD (Int.toNat x3) []).getD 0 0)).2) - ((r53 ((x4.getD (Int.toNat x3) []).getD 0 0)).1))))) : Int) > 20))
               (a16l1 x0 x1 x2 x3 x4 x5 (0, (IntKind.i64.wrap (x0 + (IntKind.i64.wrap (((r53 ((x4.getD (Int.toNat x3) []).getD 0 0)).2) - ((r53 ((x4.getD (Int.toNat x3) []).getD 0 0)).1))))), (IntKind.i64.wrap (x1 + 1)), 0, 0))
               (cond ((((x4.getD (Int.toNat x3) []).getD 0 0) : Int) == 4)
                (cond (((IntKind.i64.wrap (x0 + (IntKind.i64.wrap (((r53 ((x4.getD (Int.toNat x3) []).getD 0 0)).2) - ((r53 ((x4.getD (Int.toNat x3) []).getD 0 0)).1))))) : Int) != 0)
                 (a16l1 x0 x1 x2 x3 x4 x5 (0, (IntKind.i64.wrap (x0 + (IntKind.i64.wrap (((r53 ((x4.getD (Int.toNat x3) []).getD 0 0)).2) - ((r53 ((x4.getD (Int.toNat x3) []).getD 0 0)).1))))), (IntKind.i64.wrap (x1 + 1)), 0, 0))
                 (u16l1 x0 x1 x2 x3 x4 x5 (ih (IntKind.i64.wrap (x0 + (IntKind.i64.wrap (((r53 ((x4.getD (Int.toNat x3) []).getD 0 0)).2) - ((r53 ((x4.getD (Int.toNat x3) []).getD 0 0)).1))))) (IntKind.i64.wrap (x1 + 1)) x2 (IntKind.i64.wrap (x3 + 1)) x4 x5)))
                (cond (Nat.beq ((ih (IntKind.i64.wrap (x0 + (IntKind.i64.wrap (((r53 ((x4.getD (Int.toNat x3) []).getD 0 0)).2) - ((r53 ((x4.getD (Int.toNat x3) []).getD 0 0)).1))))) (IntKind.i64.wrap (x1 + 1)) x2 (IntKind.i64.wrap (x3 + 1)) x4 x5).1) 0)
                 (some (.ret, frameOf 161 [1, 2, 5, 6] [.pointer (some ⟨0, 0, some 0⟩), .bool false, .int .i64 ((ih (IntKind.i64.wrap (x0 + (IntKind.i64.wrap (((r53 ((x4.getD (Int.toNat x3) []).getD 0 0)).2) - ((r53 ((x4.getD (Int.toNat x3) []).getD 0 0)).1))))) (IntKind.i64.wrap (x1 + 1)) x2 (IntKind.i64.wrap (x3 + 1)) x4 x5).2.1), .int .i64 ((ih (IntKind.i64.wrap (x0 + (IntKind.i64.wrap (((r53 ((x4.getD (Int.toNat x3) []).getD 0 0)).2) - ((r53 ((x4.getD (Int.toNat x3) []).getD 0 0)).1))))) (IntKind.i64.wrap (x1 + 1)) x2 (IntKind.i64.wrap (x3 + 1)) x4 x5).2.2.1)], ⟨[⟨true, (some (.cells [wsl 2, wsl 1]))⟩, ⟨true, (some (.tab [.int .i8, .int .i16, .fl .f32] x4))⟩, ⟨true, (some (.strs x5))⟩], 3, []⟩))
                 (cond (Nat.beq ((ih (IntKind.i64.wrap (x0 + (IntKind.i64.wrap (((r53 ((x4.getD (Int.toNat x3) []).getD 0 0)).2) - ((r53 ((x4.getD (Int.toNat x3) []).getD 0 0)).1))))) (IntKind.i64.wrap (x1 + 1)) x2 (IntKind.i64.wrap (x3 + 1)) x4 x5).1) 1)
                  (some (.exit 2, frameOf 161 [1, 2, 5, 6] [.pointer (some ⟨0, 0, some 0⟩), anyV, .int .i64 ((ih (IntKind.i64.wrap (x0 + (IntKind.i64.wrap (((r53 ((x4.getD (Int.toNat x3) []).getD 0 0)).2) - ((r53 ((x4.getD (Int.toNat x3) []).getD 0 0)).1))))) (IntKind.i64.wrap (x1 + 1)) x2 (IntKind.i64.wrap (x3 + 1)) x4 x5).2.2.2.1), .int .i64 ((ih (IntKind.i64.wrap (x0 + (IntKind.i64.wrap (((r53 ((x4.getD (Int.toNat x3) []).getD 0 0)).2) - ((r53 ((x4.getD (Int.toNat x3) []).getD 0 0)).1))))) (IntKind.i64.wrap (x1 + 1)) x2 (IntKind.i64.wrap (x3 + 1)) x4 x5).2.2.2.2)], ⟨[⟨true, (some (.cells [wsl 2, wsl 1]))⟩, ⟨true, (some (.tab [.int .i8, .int .i16, .fl .f32] x4))⟩, ⟨true, (some (.strs x5))⟩], 3, []⟩))
                  none))))))
            (cond (decide ((x0 : Int) < ((r53 ((x4.getD (Int.toNat x3) []).getD 0 0)).1)))
             (a16l1 x0 x1 x2 x3 x4 x5 (0, x0, (IntKind.i64.wrap (x1 + 1)), 0, 0))
             (cond (decide (((IntKind.i64.wrap (x0 + (IntKind.i64.wrap (((r53 ((x4.getD (Int.toNat x3) []).getD 0 0)).2) - ((r53 ((x4.getD (Int.toNat x3) []).getD 0 0)).1))))) : Int) > 20))
              (a16l1 x0 x1 x2 x3 x4 x5 (0, (IntKind.i64.wrap (x0 + (IntKind.i64.wrap (((r53 ((x4.getD (Int.toNat x3) []).getD 0 0)).2) - ((r53 ((x4.getD (Int.toNat x3) []).getD 0 0)).1))))), (IntKind.i64.wrap (x1 + 1)), 0, 0))
              (cond ((((x4.getD (Int.toNat x3) []).getD 0 0) : Int) == 4)
               (cond (((IntKind.i64.wrap (x0 + (IntKind.i64.wrap (((r53 ((x4.getD (Int.toNat x3) []).getD 0 0)).2) - ((r53 ((x4.getD (Int.toNat x3) []).getD 0 0)).1))))) : Int) != 0)
                (a16l1 x0 x1 x2 x3 x4 x5 (0, (IntKind.i64.wrap (x0 + (IntKind.i64.wrap (((r53 ((x4.getD (Int.toNat x3) []).getD 0 0)).2) - ((r53 ((x4.getD (Int.toNat x3) []).getD 0 0)).1))))), (IntKind.i64.wrap (x1 + 1)), 0, 0))
                (u16l1 x0 x1 x2 x3 x4 x5 (ih (IntKind.i64.wrap (x0 + (IntKind.i64.wrap (((r53 ((x4.getD (Int.toNat x3) []).getD 0 0)).2) - ((r53 ((x4.getD (Int.toNat x3) []).getD 0 0)).1))))) (IntKind.i64.wrap (x1 + 1)) x2 (IntKind.i64.wrap (x3 + 1)) x4 x5)))
               (cond (Nat.beq ((ih (IntKind.i64.wrap (x0 + (IntKind.i64.wrap (((r53 ((x4.getD (Int.toNat x3) []).getD 0 0)).2) - ((r53 ((x4.getD (Int.toNat x3) []).getD 0 0)).1))))) (IntKind.i64.wrap (x1 + 1)) x2 (IntKind.i64.wrap (x3 + 1)) x4 x5).1) 0)
                (some (.ret, frameOf 161 [1, 2, 5, 6] [.pointer (some ⟨0, 0, some 0⟩), .bool false, .int .i64 ((ih (IntKind.i64.wrap (x0 + (IntKind.i64.wrap (((r53 ((x4.getD (Int.toNat x3) []).getD 0 0)).2) - ((r53 ((x4.getD (Int.toNat x3) []).getD 0 0)).1))))) (IntKind.i64.wrap (x1 + 1)) x2 (IntKind.i64.wrap (x3 + 1)) x4 x5).2.1), .int .i64 ((ih (IntKind.i64.wrap (x0 + (IntKind.i64.wrap (((r53 ((x4.getD (Int.toNat x3) []).getD 0 0)).2) - ((r53 ((x4.getD (Int.toNat x3) []).getD 0 0)).1))))) (IntKind.i64.wrap (x1 + 1)) x2 (IntKind.i64.wrap (x3 + 1)) x4 x5).2.2.1)], ⟨[⟨true, (some (.cells [wsl 2, wsl 1]))⟩, ⟨true, (some (.tab [.int .i8, .int .i16, .fl .f32] x4))⟩, ⟨true, (some (.strs x5))⟩], 3, []⟩))
                (cond (Nat.beq ((ih (IntKind.i64.wrap (x0 + (IntKind.i64.wrap (((r53 ((x4.getD (Int.toNat x3) []).getD 0 0)).2) - ((r53 ((x4.getD (Int.toNat x3) []).getD 0 0)).1))))) (IntKind.i64.wrap (x1 + 1)) x2 (IntKind.i64.wrap (x3 + 1)) x4 x5).1) 1)
                 (some (.exit 2, frameOf 161 [1, 2, 5, 6] [.pointer (some ⟨0, 0, some 0⟩), anyV, .int .i64 ((ih (IntKind.i64.wrap (x0 + (IntKind.i64.wrap (((r53 ((x4.getD (Int.toNat x3) []).getD 0 0)).2) - ((r53 ((x4.getD (Int.toNat x3) []).getD 0 0)).1))))) (IntKind.i64.wrap (x1 + 1)) x2 (IntKind.i64.wrap (x3 + 1)) x4 x5).2.2.2.1), .int .i64 ((ih (IntKind.i64.wrap (x0 + (IntKind.i64.wrap (((r53 ((x4.getD (Int.toNat x3) []).getD 0 0)).2) - ((r53 ((x4.getD (Int.toNat x3) []).getD 0 0)).1))))) (IntKind.i64.wrap (x1 + 1)) x2 (IntKind.i64.wrap (x3 + 1)) x4 x5).2.2.2.2)], ⟨[⟨true, (some (.cells [wsl 2, wsl 1]))⟩, ⟨true, (some (.tab [.int .i8, .int .i16, .fl .f32] x4))⟩, ⟨true, (some (.strs x5))⟩], 3, []⟩))
                 none))))))))
         (cond (((IntKind.i64.wrap ((x4.getD (Int.toNat x3) []).getD 1 0)) : Int) != 0)
          (a16l1 x0 x1 x2 x3 x4 x5 (0, x0, x1, 0, 0))
          (cond ((((x4.getD (Int.toNat x3) []).getD 0 0) : Int) != 1)
           (cond (!(r52 (Int.toNat ((x4.getD (Int.toNat x3) []).getD 2 0))))
            (a16l1 x0 x1 x2 x3 x4 x5 (0, x0, x1, 0, 0))
            (cond (decide ((x0 : Int) < ((r53 ((x4.getD (Int.toNat x3) []).getD 0 0)).1)))
             (a16l1 x0 x1 x2 x3 x4 x5 (0, x0, x1, 0, 0))
             (cond (decide (((IntKind.i64.wrap (x0 + (IntKind.i64.wrap (((r53 ((x4.getD (Int.toNat x3) []).getD 0 0)).2) - ((r53 ((x4.getD (Int.toNat x3) []).getD 0 0)).1))))) : Int) > 20))
              (a16l1 x0 x1 x2 x3 x4 x5 (0, (IntKind.i64.wrap (x0 + (IntKind.i64.wrap (((r53 ((x4.getD (Int.toNat x3) []).getD 0 0)).2) - ((r53 ((x4.getD (Int.toNat x3) []).getD 0 0)).1))))), x1, 0, 0))
              (cond ((((x4.getD (Int.toNat x3) []).getD 0 0) : Int) == 4)
               (cond (((IntKind.i64.wrap (x0 + (IntKind.i64.wrap (((r53 ((x4.getD (Int.toNat x3) []).getD 0 0)).2) - ((r53 ((x4.getD (Int.toNat x3) []).getD 0 0)).1))))) : Int) != 0)
                (some (.ret, frameOf 161 [1, 2, 5, 6] [.pointer (some ⟨0, 0, some 0⟩), .bool false, .int .i64 (IntKind.i64.wrap (x0 + (IntKind.i64.wrap (((r53 ((x4.getD (Int.toNat x3) []).getD 0 0)).2) - ((r53 ((x4.getD (Int.toNat x3) []).getD 0 0)).1))))), .int .i64 x1], ⟨[⟨true, (some (.cells [wsl 2, wsl 1]))⟩, ⟨true, (some (.tab [.int .i8, .int .i16, .fl .f32] x4))⟩, ⟨true, (some (.strs x5))⟩], 3, []⟩))
                (cond (Nat.beq ((ih (IntKind.i64.wrap (x0 + (IntKind.i64.wrap (((r53 ((x4.getD (Int.toNat x3) []).getD 0 0)).2) - ((r53 ((x4.getD (Int.toNat x3) []).getD 0 0)).1))))) x1 x2 (IntKind.i64.wrap (x3 + 1)) x4 x5).1) 0)
                 (some (.ret, frameOf 161 [1, 2, 5, 6] [.pointer (some ⟨0, 0, some 0⟩), .bool false, .int .i64 ((ih (IntKind.i64.wrap (x0 + (IntKind.i64.wrap (((r53 ((x4.getD (Int.toNat x3) []).getD 0 0)).2) - ((r53 ((x4.getD (Int.toNat x3) []).getD 0 0)).1))))) x1 x2 (IntKind.i64.wrap (x3 + 1)) x4 x5).2.1), .int .i64 ((ih (IntKind.i64.wrap (x0 + (IntKind.i64.wrap (((r53 ((x4.getD (Int.toNat x3) []).getD 0 0)).2) - ((r53 ((x4.getD (Int.toNat x3) []).getD 0 0)).1))))) x1 x2 (IntKind.i64.wrap (x3 + 1)) x4 x5).2.2.1)], ⟨[⟨true, (some (.cells [wsl 2, wsl 1]))⟩, ⟨true, (some (.tab [.int .i8, .int .i16, .fl .f32] x4))⟩, ⟨true, (some (.strs x5))⟩], 3, []⟩))
                 (cond (Nat.beq ((ih (IntKind.i64.wrap (x0 + (IntKind.i64.wrap (((r53 ((x4.getD (Int.toNat x3) []).getD 0 0)).2) - ((r53 ((x4.getD (Int.toNat x3) []).getD 0 0)).1))))) x1 x2 (IntKind.i64.wrap (x3 + 1)) x4 x5).1) 1)
                  (some (.exit 2, frameOf 161 [1, 2, 5, 6] [.pointer (some ⟨0, 0, some 0⟩), anyV, .int .i64 ((ih (IntKind.i64.wrap (x0 + (IntKind.i64.wrap (((r53 ((x4.getD (Int.toNat x3) []).getD 0 0)).2) - ((r53 ((x4.getD (Int.toNat x3) []).getD 0 0)).1))))) x1 x2 (IntKind.i64.wrap (x3 + 1)) x4 x5).2.2.2.1), .int .i64 ((ih (IntKind.i64.wrap (x0 + (IntKind.i64.wrap (((r53 ((x4.getD (Int.toNat x3) []).getD 0 0)).2) - ((r53 ((x4.getD (Int.toNat x3) []).getD 0 0)).1))))) x1 x2 (IntKind.i64.wrap (x3 + 1)) x4 x5).2.2.2.2)], ⟨[⟨true, (some (.cells [wsl 2, wsl 1]))⟩, ⟨true, (some (.tab [.int .i8, .int .i16, .fl .f32] x4))⟩, ⟨true, (some (.strs x5))⟩], 3, []⟩))
                  none)))
               (u16l1 x0 x1 x2 x3 x4 x5 (ih (IntKind.i64.wrap (x0 + (IntKind.i64.wrap (((r53 ((x4.getD (Int.toNat x3) []).getD 0 0)).2) - ((r53 ((x4.getD (Int.toNat x3) []).getD 0 0)).1))))) x1 x2 (IntKind.i64.wrap (x3 + 1)) x4 x5))))))
           (cond (decide ((x0 : Int) < ((r53 ((x4.getD (Int.toNat x3) []).getD 0 0)).1)))
            (a16l1 x0 x1 x2 x3 x4 x5 (0, x0, x1, 0, 0))
            (cond (decide (((IntKind.i64.wrap (x0 + (IntKind.i64.wrap (((r53 ((x4.getD (Int.toNat x3) []).getD 0 0)).2) - ((r53 ((x4.getD (Int.toNat x3) []).getD 0 0)).1))))) : Int) > 20))
             (a16l1 x0 x1 x2 x3 x4 x5 (0, (IntKind.i64.wrap (x0 + (IntKind.i64.wrap (((r53 ((x4.getD (Int.toNat x3) []).getD 0 0)).2) - ((r53 ((x4.getD (Int.toNat x3) []).getD 0 0)).1))))), x1, 0, 0))
             (cond ((((x4.getD (Int.toNat x3) []).getD 0 0) : Int) == 4)
              (cond (((IntKind.i64.wrap (x0 + (IntKind.i64.wrap (((r53 ((x4.getD (Int.toNat x3) []).getD 0 0)).2) - ((r53 ((x4.getD (Int.toNat x3) []).getD 0 0)).1))))) : Int) != 0)
               (some (.ret, frameOf 161 [1, 2, 5, 6] [.pointer (some ⟨0, 0, some 0⟩), .bool false, .int .i64 (IntKind.i64.wrap (x0 + (IntKind.i64.wrap (((r53 ((x4.getD (Int.toNat x3) []).getD 0 0)).2) - ((r53 ((x4.getD (Int.toNat x3) []).getD 0 0)).1))))), .int .i64 x1], ⟨[⟨true, (some (.cells [wsl 2, wsl 1]))⟩, ⟨true, (some (.tab [.int .i8, .int .i16, .fl .f32] x4))⟩, ⟨true, (some (.strs x5))⟩], 3, []⟩))
               (cond (Nat.beq ((ih (IntKind.i64.wrap (x0 + (IntKind.i64.wrap (((r53 ((x4.getD (Int.toNat x3) []).getD 0 0)).2) - ((r53 ((x4.getD (Int.toNat x3) []).getD 0 0)).1))))) x1 x2 (IntKind.i64.wrap (x3 + 1)) x4 x5).1) 0)
                (some (.ret, frameOf 161 [1, 2, 5, 6] [.pointer (some ⟨0, 0, some 0⟩), .bool false, .int .i64 ((ih (IntKind.i64.wrap (x0 + (IntKind.i64.wrap (((r53 ((x4.getD (Int.toNat x3) []).getD 0 0)).2) - ((r53 ((x4.getD (Int.toNat x3) []).getD 0 0)).1))))) x1 x2 (IntKind.i64.wrap (x3 + 1)) x4 x5).2.1), .int .i64 ((ih (IntKind.i64.wrap (x0 + (IntKind.i64.wrap (((r53 ((x4.getD (Int.toNat x3) []).getD 0 0)).2) - ((r53 ((x4.getD (Int.toNat x3) []).getD 0 0)).1))))) x1 x2 (IntKind.i64.wrap (x3 + 1)) x4 x5).2.2.1)], ⟨[⟨true, (some (.cells [wsl 2, wsl 1]))⟩, ⟨true, (some (.tab [.int .i8, .int .i16, .fl .f32] x4))⟩, ⟨true, (some (.strs x5))⟩], 3, []⟩))
                (cond (Nat.beq ((ih (IntKind.i64.wrap (x0 + (IntKind.i64.wrap (((r53 ((x4.getD (Int.toNat x3) []).getD 0 0)).2) - ((r53 ((x4.getD (Int.toNat x3) []).getD 0 0)).1))))) x1 x2 (IntKind.i64.wrap (x3 + 1)) x4 x5).1) 1)
                 (some (.exit 2, frameOf 161 [1, 2, 5, 6] [.pointer (some ⟨0, 0, some 0⟩), anyV, .int .i64 ((ih (IntKind.i64.wrap (x0 + (IntKind.i64.wrap (((r53 ((x4.getD (Int.toNat x3) []).getD 0 0)).2) - ((r53 ((x4.getD (Int.toNat x3) []).getD 0 0)).1))))) x1 x2 (IntKind.i64.wrap (x3 + 1)) x4 x5).2.2.2.1), .int .i64 ((ih (IntKind.i64.wrap (x0 + (IntKind.i64.wrap (((r53 ((x4.getD (Int.toNat x3) []).getD 0 0)).2) - ((r53 ((x4.getD (Int.toNat x3) []).getD 0 0)).1))))) x1 x2 (IntKind.i64.wrap (x3 + 1)) x4 x5).2.2.2.2)], ⟨[⟨true, (some (.cells [wsl 2, wsl 1]))⟩, ⟨true, (some (.tab [.int .i8, .int .i16, .fl .f32] x4))⟩, ⟨true, (some (.strs x5))⟩], 3, []⟩))
                 none)))
              (u16l1 x0 x1 x2 x3 x4 x5 (ih (IntKind.i64.wrap (x0 + (IntKind.i64.wrap (((r53 ((x4.getD (Int.toNat x3) []).getD 0 0)).2) - ((r53 ((x4.getD (Int.toNat x3) []).getD 0 0)).1))))) x1 x2 (IntKind.i64.wrap (x3 + 1)) x4 x5)))))))))))))
   none)
  none)
 (a16l1 x0 x1 x2 x3 x4 x5 (1, 0, 0, x0, x1)))
set_option maxRecDepth 100000 in
set_option maxHeartbeats 4000000 in
theorem e16l1 (m : Nat) (x0 x1 x2 x3 : Int) (x4 : List (List Int)) (x5 : List ByteArray) : evC Try.prog ext T45 L16_1 200 (loopN Try.f16 1) (loopTail ([1, 5, 6, 43, 44, 45], []) [1, 2, 5, 6] [] (sumK 161 [1, 5, 6, 43, 44, 45] [1, 2, 5, 6] (q16l1 m))) (frameOf 161 [1, 5, 6, 43, 44, 45] [.pointer (some ⟨0, 0, some 0⟩), .int .i64 x0, .int .i64 x1, wsl 1, .int .i64 x2, .int .i64 x3]) ⟨[⟨true, (some (.cells [wsl 2, wsl 1]))⟩, ⟨true, (some (.tab [.int .i8, .int .i16, .fl .f32] x4))⟩, ⟨true, (some (.strs x5))⟩], 3, []⟩ = firstT ([((Nat.beq ((r16l1 (m + 1) x0 x1 x2 x3 x4 x5).1) 0), .ret, [.pointer (some ⟨0, 0, some 0⟩), .bool false, .int .i64 ((r16l1 (m + 1) x0 x1 x2 x3 x4 x5).2.1), .int .i64 ((r16l1 (m + 1) x0 x1 x2 x3 x4 x5).2.2.1)], ⟨[⟨true, (some (.cells [wsl 2, wsl 1]))⟩, ⟨true, (some (.tab [.int .i8, .int .i16, .fl .f32] x4))⟩, ⟨true, (some (.strs x5))⟩], 3, []⟩), ((Nat.beq ((r16l1 (m + 1) x0 x1 x2 x3 x4 x5).1) 1), .exit 2, [.pointer (some ⟨0, 0, some 0⟩), anyV, .int .i64 ((r16l1 (m + 1) x0 x1 x2 x3 x4 x5).2.2.2.1), .int .i64 ((r16l1 (m + 1) x0 x1 x2 x3 x4 x5).2.2.2.2)], ⟨[⟨true, (some (.cells [wsl 2, wsl 1]))⟩, ⟨true, (some (.tab [.int .i8, .int .i16, .fl .f32] x4))⟩, ⟨true, (some (.strs x5))⟩], 3, []⟩)].map fun (b, x) => (b, (x.1, frameOf 161 [1, 2, 5, 6] x.2.1, x.2.2))) :=
 (show evC Try.prog ext T45 L16_1 200 (loopN Try.f16 1) (loopTail ([1, 5, 6, 43, 44, 45], []) [1, 2, 5, 6] [] (sumK 161 [1, 5, 6, 43, 44, 45] [1, 2, 5, 6] (q16l1 m))) (frameOf 161 [1, 5, 6, 43, 44, 45] [.pointer (some ⟨0, 0, some 0⟩), .int .i64 x0, .int .i64 x1, wsl 1, .int .i64 x2, .int .i64 x3]) ⟨[⟨true, (some (.cells [wsl 2, wsl 1]))⟩, ⟨true, (some (.tab [.int .i8, .int .i16, .fl .f32] x4))⟩, ⟨true, (some (.strs x5))⟩], 3, []⟩ = w16l1 (r16l1 m) x0 x1 x2 x3 x4 x5 from by kernel_rfl).trans
 (show w16l1 (r16l1 m) x0 x1 x2 x3 x4 x5 = a16l1 x0 x1 x2 x3 x4 x5 (r16l1 (m + 1) x0 x1 x2 x3 x4 x5) from by unfold w16l1; show _ = a16l1 x0 x1 x2 x3 x4 x5 (b16l1 (r16l1 m) x0 x1 x2 x3 x4 x5); unfold b16l1; exact (cond_both (a16l1 x0 x1 x2 x3 x4 x5) _ (fun h0 => (cond_both (a16l1 x0 x1 x2 x3 x4 x5) _ (fun h1 => (cond_t (ev_and2 h1) (cond_both (a16l1 x0 x1 x2 x3 x4 x5) _ (fun h2 => rfl) (fun h2 => (cond_both (a16l1 x0 x1 x2 x3 x4 x5) _ (fun h3 => rfl) (fun h3 => (cond_both (a16l1 x0 x1 x2 x3 x4 x5) _ (fun h4 => (cond_both (a16l1 x0 x1 x2 x3 x4 x5) _ (fun h5 => rfl) (fun h5 => (cond_both (a16l1 x0 x1 x2 x3 x4 x5) _ (fun h6 => rfl) (fun h6 => (cond_both (a16l1 x0 x1 x2 x3 x4 x5) _ (fun h7 => (cond_both (a16l1 x0 x1 x2 x3 x4 x5) _ (fun h8 => rfl) (fun h8 => (cond_both (a16l1 x0 x1 x2 x3 x4 x5) _ (fun h9 => (cond_f (ev_not0 (ev_notf h8)) (cond_app (a16l1 x0 x1 x2 x3 x4 x5) _ rfl (cond_app (a16l1 x0 x1 x2 x3 x4 x5) _ rfl (cond_app (a16l1 x0 x1 x2 x3 x4 x5) _ (cond_app (a16l1 x0 x1 x2 x3 x4 x5) _ rfl (v16l1 x0 x1 x2 x3 x4 x5 ((r16l1 m) (IntKind.i64.wrap (x0 + (IntKind.i64.wrap (((r53 ((x4.getD (Int.toNat x3) []).getD 0 0)).2) - ((r53 ((x4.getD (Int.toNat x3) []).getD 0 0)).1))))) x1 x2 (IntKind.i64.wrap (x3 + 1)) x4 x5))) (v16l1 x0 x1 x2 x3 x4 x5 ((r16l1 m) (IntKind.i64.wrap (x0 + (IntKind.i64.wrap (((r53 ((x4.getD (Int.toNat x3) []).getD 0 0)).2) - ((r53 ((x4.getD (Int.toNat x3) []).getD 0 0)).1))))) x1 x2 (IntKind.i64.wrap (x3 + 1)) x4 x5))))))) (fun h9 => (cond_app (a16l1 x0 x1 x2 x3 x4 x5) _ rfl (cond_app (a16l1 x0 x1 x2 x3 x4 x5) _ rfl (cond_app (a16l1 x0 x1 x2 x3 x4 x5) _ (cond_app (a16l1 x0 x1 x2 x3 x4 x5) _ rfl (v16l1 x0 x1 x2 x3 x4 x5 ((r16l1 m) (IntKind.i64.wrap (x0 + (IntKind.i64.wrap (((r53 ((x4.getD (Int.toNat x3) []).getD 0 0)).2) - ((r53 ((x4.getD (Int.toNat x3) []).getD 0 0)).1))))) x1 x2 (IntKind.i64.wrap (x3 + 1)) x4 x5))) (v16l1 x0 x1 x2 x3 x4 x5 ((r16l1 m) (IntKind.i64.wrap (x0 + (IntKind.i64.wrap (((r53 ((x4.getD (Int.toNat x3) []).getD 0 0)).2) - ((r53 ((x4.getD (Int.toNat x3) []).getD 0 0)).1))))) x1 x2 (IntKind.i64.wrap (x3 + 1)) x4 x5)))))))))) (fun h7 => (cond_app (a16l1 x0 x1 x2 x3 x4 x5) _ (cond_app (a16l1 x0 x1 x2 x3 x4 x5) _ rfl (cond_app (a16l1 x0 x1 x2 x3 x4 x5) _ rfl (cond_app (a16l1 x0 x1 x2 x3 x4 x5) _ rfl (cond_app (a16l1 x0 x1 x2 x3 x4 x5) _ (cond_app (a16l1 x0 x1 x2 x3 x4 x5) _ rfl (v16l1 x0 x1 x2 x3 x4 x5 ((r16l1 m) (IntKind.i64.wrap (x0 + (IntKind.i64.wrap (((r53 ((x4.getD (Int.toNat x3) []).getD 0 0)).2) - ((r53 ((x4.getD (Int.toNat x3) []).getD 0 0)).1))))) x1 x2 (IntKind.i64.wrap (x3 + 1)) x4 x5))) (v16l1 x0 x1 x2 x3 x4 x5 ((r16l1 m) (IntKind.i64.wrap (x0 + (IntKind.i64.wrap (((r53 ((x4.getD (Int.toNat x3) []).getD 0 0)).2) - ((r53 ((x4.getD (Int.toNat x3) []).getD 0 0)).1))))) x1 x2 (IntKind.i64.wrap (x3 + 1)) x4 x5)))))) (cond_app (a16l1 x0 x1 x2 x3 x4 x5) _ rfl (cond_app (a16l1 x0 x1 x2 x3 x4 x5) _ rfl (cond_app (a16l1 x0 x1 x2 x3 x4 x5) _ (cond_app (a16l1 x0 x1 x2 x3 x4 x5) _ rfl (v16l1 x0 x1 x2 x3 x4 x5 ((r16l1 m) (IntKind.i64.wrap (x0 + (IntKind.i64.wrap (((r53 ((x4.getD (Int.toNat x3) []).getD 0 0)).2) - ((r53 ((x4.getD (Int.toNat x3) []).getD 0 0)).1))))) x1 x2 (IntKind.i64.wrap (x3 + 1)) x4 x5))) (v16l1 x0 x1 x2 x3 x4 x5 ((r16l1 m) (IntKind.i64.wrap (x0 + (IntKind.i64.wrap (((r53 ((x4.getD (Int.toNat x3) []).getD 0 0)).2) - ((r53 ((x4.getD (Int.toNat x3) []).getD 0 0)).1))))) x1 x2 (IntKind.i64.wrap (x3 + 1)) x4 x5))))))))))))) (fun h4 => (cond_both (a16l1 x0 x1 x2 x3 x4 x5) _ (fun h5 => (cond_app (a16l1 x0 x1 x2 x3 x4 x5) _ rfl (cond_app (a16l1 x0 x1 x2 x3 x4 x5) _ rfl (cond_app (a16l1 x0 x1 x2 x3 x4 x5) _ (cond_app (a16l1 x0 x1 x2 x3 x4 x5) _ rfl (cond_app (a16l1 x0 x1 x2 x3 x4 x5) _ rfl (cond_app (a16l1 x0 x1 x2 x3 x4 x5) _ rfl (cond_app (a16l1 x0 x1 x2 x3 x4 x5) _ (cond_app (a16l1 x0 x1 x2 x3 x4 x5) _ rfl (v16l1 x0 x1 x2 x3 x4 x5 ((r16l1 m) (IntKind.i64.wrap (x0 + (IntKind.i64.wrap (((r53 ((x4.getD (Int.toNat x3) []).getD 0 0)).2) - ((r53 ((x4.getD (Int.toNat x3) []).getD 0 0)).1))))) x1 x2 (IntKind.i64.wrap (x3 + 1)) x4 x5))) (v16l1 x0 x1 x2 x3 x4 x5 ((r16l1 m) (IntKind.i64.wrap (x0 + (IntKind.i64.wrap (((r53 ((x4.getD (Int.toNat x3) []).getD 0 0)).2) - ((r53 ((x4.getD (Int.toNat x3) []).getD 0 0)).1))))) x1 x2 (IntKind.i64.wrap (x3 + 1)) x4 x5)))))) (cond_app (a16l1 x0 x1 x2 x3 x4 x5) _ rfl (cond_app (a16l1 x0 x1 x2 x3 x4 x5) _ rfl (cond_app (a16l1 x0 x1 x2 x3 x4 x5) _ (cond_app (a16l1 x0 x1 x2 x3 x4 x5) _ rfl (v16l1 x0 x1 x2 x3 x4 x5 ((r16l1 m) (IntKind.i64.wrap (x0 + (IntKind.i64.wrap (((r53 ((x4.getD (Int.toNat x3) []).getD 0 0)).2) - ((r53 ((x4.getD (Int.toNat x3) []).getD 0 0)).1))))) x1 x2 (IntKind.i64.wrap (x3 + 1)) x4 x5))) (v16l1 x0 x1 x2 x3 x4 x5 ((r16l1 m) (IntKind.i64.wrap (x0 + (IntKind.i64.wrap (((r53 ((x4.getD (Int.toNat x3) []).getD 0 0)).2) - ((r53 ((x4.getD (Int.toNat x3) []).getD 0 0)).1))))) x1 x2 (IntKind.i64.wrap (x3 + 1)) x4 x5))))))))) (fun h5 => (cond_both (a16l1 x0 x1 x2 x3 x4 x5) _ (fun h6 => (cond_app (a16l1 x0 x1 x2 x3 x4 x5) _ rfl (cond_app (a16l1 x0 x1 x2 x3 x4 x5) _ rfl (cond_app (a16l1 x0 x1 x2 x3 x4 x5) _ (cond_app (a16l1 x0 x1 x2 x3 x4 x5) _ rfl (cond_app (a16l1 x0 x1 x2 x3 x4 x5) _ rfl (cond_app (a16l1 x0 x1 x2 x3 x4 x5) _ rfl (cond_app (a16l1 x0 x1 x2 x3 x4 x5) _ (cond_app (a16l1 x0 x1 x2 x3 x4 x5) _ rfl (v16l1 x0 x1 x2 x3 x4 x5 ((r16l1 m) (IntKind.i64.wrap (x0 + (IntKind.i64.wrap (((r53 ((x4.getD (Int.toNat x3) []).getD 0 0)).2) - ((r53 ((x4.getD (Int.toNat x3) []).getD 0 0)).1))))) x1 x2 (IntKind.i64.wrap (x3 + 1)) x4 x5))) (v16l1 x0 x1 x2 x3 x4 x5 ((r16l1 m) (IntKind.i64.wrap (x0 + (IntKind.i64.wrap (((r53 ((x4.getD (Int.toNat x3) []).getD 0 0)).2) - ((r53 ((x4.getD (Int.toNat x3) []).getD 0 0)).1))))) x1 x2 (IntKind.i64.wrap (x3 + 1)) x4 x5)))))) (cond_app (a16l1 x0 x1 x2 x3 x4 x5) _ rfl (cond_app (a16l1 x0 x1 x2 x3 x4 x5) _ rfl (cond_app (a16l1 x0 x1 x2 x3 x4 x5) _ (cond_app (a16l1 x0 x1 x2 x3 x4 x5) _ rfl (v16l1 x0 x1 x2 x3 x4 x5 ((r16l1 m) (IntKind.i64.wrap (x0 + (IntKind.i64.wrap (((r53 ((x4.getD (Int.toNat x3) []).getD 0 0)).2) - ((r53 ((x4.getD (Int.toNat x3) []).getD 0 0)).1))))) x1 x2 (IntKind.i64.wrap (x3 + 1)) x4 x5))) (v16l1 x0 x1 x2 x3 x4 x5 ((r16l1 m) (IntKind.i64.wrap (x0 + (IntKind.i64.wrap (((r53 ((x4.getD (Int.toNat x3) []).getD 0 0)).2) - ((r53 ((x4.getD (Int.toNat x3) []).getD 0 0)).1))))) x1 x2 (IntKind.i64.wrap (x3 + 1)) x4 x5))))))))) (fun h6 => (cond_both (a16l1 x0 x1 x2 x3 x4 x5) _ (fun h7 => (cond_both (a16l1 x0 x1 x2 x3 x4 x5) _ (fun h8 => rfl) (fun h8 => (cond_both (a16l1 x0 x1 x2 x3 x4 x5) _ (fun h9 => rfl) (fun h9 => (cond_both (a16l1 x0 x1 x2 x3 x4 x5) _ (fun h10 => (cond_both (a16l1 x0 x1 x2 x3 x4 x5) _ (fun h11 => rfl) (fun h11 => (cond_both (a16l1 x0 x1 x2 x3 x4 x5) _ (fun h12 => rfl) (fun h12 => (cond_both (a16l1 x0 x1 x2 x3 x4 x5) _ (fun h13 => rfl) (fun h13 => (cond_t h7 (cond_app (a16l1 x0 x1 x2 x3 x4 x5) _ rfl (v16l1 x0 x1 x2 x3 x4 x5 ((r16l1 m) (IntKind.i64.wrap (x0 + (IntKind.i64.wrap (((r53 ((x4.getD (Int.toNat x3) []).getD 0 0)).2) - ((r53 ((x4.getD (Int.toNat x3) []).getD 0 0)).1))))) (IntKind.i64.wrap (x1 + 1)) x2 (IntKind.i64.wrap (x3 + 1)) x4 x5))))))))))) (fun h10 => (cond_both (a16l1 x0 x1 x2 x3 x4 x5) _ (fun h11 => rfl) (fun h11 => (cond_both (a16l1 x0 x1 x2 x3 x4 x5) _ (fun h12 => rfl) (fun h12 => (cond_t h7 (cond_app (a16l1 x0 x1 x2 x3 x4 x5) _ rfl (v16l1 x0 x1 x2 x3 x4 x5 ((r16l1 m) (IntKind.i64.wrap (x0 + (IntKind.i64.wrap (((r53 ((x4.getD (Int.toNat x3) []).getD 0 0)).2) - ((r53 ((x4.getD (Int.toNat x3) []).getD 0 0)).1))))) (IntKind.i64.wrap (x1 + 1)) x2 (IntKind.i64.wrap (x3 + 1)) x4 x5))))))))))))))) (fun h7 => (cond_both (a16l1 x0 x1 x2 x3 x4 x5) _ (fun h8 => rfl) (fun h8 => (cond_both (a16l1 x0 x1 x2 x3 x4 x5) _ (fun h9 => (cond_both (a16l1 x0 x1 x2 x3 x4 x5) _ (fun h10 => rfl) (fun h10 => (cond_both (a16l1 x0 x1 x2 x3 x4 x5) _ (fun h11 => rfl) (fun h11 => (cond_both (a16l1 x0 x1 x2 x3 x4 x5) _ (fun h12 => rfl) (fun h12 => (cond_f h7 (v16l1 x0 x1 x2 x3 x4 x5 ((r16l1 m) (IntKind.i64.wrap (x0 + (IntKind.i64.wrap (((r53 ((x4.getD (Int.toNat x3) []).getD 0 0)).2) - ((r53 ((x4.getD (Int.toNat x3) []).getD 0 0)).1))))) x1 x2 (IntKind.i64.wrap (x3 + 1)) x4 x5)))))))))) (fun h9 => (cond_both (a16l1 x0 x1 x2 x3 x4 x5) _ (fun h10 => rfl) (fun h10 => (cond_both (a16l1 x0 x1 x2 x3 x4 x5) _ (fun h11 => rfl) (fun h11 => (cond_f h7 (v16l1 x0 x1 x2 x3 x4 x5 ((r16l1 m) (IntKind.i64.wrap (x0 + (IntKind.i64.wrap (((r53 ((x4.getD (Int.toNat x3) []).getD 0 0)).2) - ((r53 ((x4.getD (Int.toNat x3) []).getD 0 0)).1))))) x1 x2 (IntKind.i64.wrap (x3 + 1)) x4 x5))))))))))))))))))))))))) (fun h1 => rfl))) (fun h0 => rfl)))
set_option maxRecDepth 100000 in
set_option maxHeartbeats 4000000 in
theorem qm16l1 : ∀ m, SumKOk Try.prog (loopN Try.f16 1) 161 [1, 5, 6, 43, 44, 45] [1, 2, 5, 6] (q16l1 m) := by
  intro m
  induction m with
  | zero =>
    intro vals s x h1 h2 h3
    unfold q16l1 at h3; split at h3
    · rename_i h; split at h3
      · rename_i hc; obtain ⟨rfl, rfl, rfl, rfl, rfl, rfl⟩ := hc; exact absurd h3 (by simp [r16l1, firstT, Nat.beq])
      · exact noQ_ok _ _ _ h1 h2 h3
    · exact noQ_ok _ _ _ h1 h2 h3
  | succ m ih =>
    intro vals s x h1 h2 h3
    unfold q16l1 at h3; split at h3
    · rename_i h; split at h3
      · rename_i hc; obtain ⟨rfl, rfl, rfl, rfl, rfl, rfl⟩ := hc; exact sum_step ok45 extOk mixed (lok16_1.inner (by kernel_rfl)) ih h1 h2 h (e16l1 m _ _ _ _ _ _) rfl h3
      · exact noQ_ok _ _ _ h1 h2 h3
    · exact noQ_ok _ _ _ h1 h2 h3
noncomputable def Q16l1 : SumK := fun vals s => q16l1 (fuelOf vals s.h) vals s
theorem qok16l1 : SumKOk Try.prog (loopN Try.f16 1) 161 [1, 5, 6, 43, 44, 45] [1, 2, 5, 6] Q16l1 := fuel_ok qm16l1 fuelOf
noncomputable def L16_2 : LoopT := addL L16_1 12 ([1, 5, 6, 43, 44, 45], []) (sumK 161 [1, 5, 6, 43, 44, 45] [1, 2, 5, 6] Q16l1)
theorem lok16_2 : LfOkF Try.prog L16_2 Try.f16 := lfOkF_add lok16_1 qok16l1 (by kernel_rfl) (by kernel_rfl) (by kernel_rfl)

/-- impl.ValidProgram -/
noncomputable def r16 (x0 : List ByteArray) (x1 : List (List Int)) : Nat × Bool :=
 cond (decide ((((x0.length : Nat) : Int) : Int) > 12))
  (0, false)
  (cond (decide ((((x1.length : Nat) : Int) : Int) > 300))
   (0, false)
   (cond (Nat.beq (r16l0 (1000 + x1.length + x0.length) ((x0.length : Nat) : Int) 0 x0 x1) 0)
    (0, false)
    (cond (Nat.beq (r16l0 (1000 + x1.length + x0.length) ((x0.length : Nat) : Int) 0 x0 x1) 1)
     (cond (Nat.beq ((r16l1 (1000 + x0.length + x1.length) 0 0 ((x1.length : Nat) : Int) 0 x1 x0).1) 0)
      (0, false)
      (cond (Nat.beq ((r16l1 (1000 + x0.length + x1.length) 0 0 ((x1.length : Nat) : Int) 0 x1 x0).1) 1)
       (cond ((((r16l1 (1000 + x0.length + x1.length) 0 0 ((x1.length : Nat) : Int) 0 x1 x0).2.2.2.1) : Int) == 0)
        (0, ((((r16l1 (1000 + x0.length + x1.length) 0 0 ((x1.length : Nat) : Int) 0 x1 x0).2.2.2.2) : Int) == ((x0.length : Nat) : Int)))
        (0, false))
       (1, false)))
     (1, false))))
noncomputable def a16 (x0 : List ByteArray) (x1 : List (List Int)) (p : Nat × Bool) : Res := firstT [((Nat.beq (p.1) 0), .bool (p.2), ⟨[⟨true, (some (.strs x0))⟩, ⟨true, (some (.tab [.int .i8, .int .i16, .fl .f32] x1))⟩], 2, []⟩)]
noncomputable def w16 (x0 : List ByteArray) (x1 : List (List Int)) : Res :=
 (cond (decide ((((x0.length : Nat) : Int) : Int) > 12))
 (a16 x0 x1 (0, false))
 (cond (decide ((((x1.length : Nat) : Int) : Int) > 300))
  (a16 x0 x1 (0, false))
  (cond (Nat.beq (r16l0 (1000 + x1.length + x0.length) ((x0.length : Nat) : Int) 0 x0 x1) 0)
   (a16 x0 x1 (0, false))
   (cond (Nat.beq (r16l0 (1000 + x1.length + x0.length) ((x0.length : Nat) : Int) 0 x0 x1) 1)
    (cond (Nat.beq ((r16l1 (1000 + x0.length + x1.length) 0 0 ((x1.length : Nat) : Int) 0 x1 x0).1) 0)
     (a16 x0 x1 (0, false))
     (cond (Nat.beq ((r16l1 (1000 + x0.length + x1.length) 0 0 ((x1.length : Nat) : Int) 0 x1 x0).1) 1)
      (cond ((((r16l1 (1000 + x0.length + x1.length) 0 0 ((x1.length : Nat) : Int) 0 x1 x0).2.2.2.1) : Int) == 0)
       (a16 x0 x1 (0, ((((r16l1 (1000 + x0.length + x1.length) 0 0 ((x1.length : Nat) : Int) 0 x1 x0).2.2.2.2) : Int) == ((x0.length : Nat) : Int))))
       (a16 x0 x1 (0, false)))
      none))
    none))))
set_option maxRecDepth 100000 in
set_option maxHeartbeats 4000000 in
theorem e16 (x0 : List ByteArray) (x1 : List (List Int)) : evFn Try.prog ext T45 L16_2 200 Try.f16 [.agg #[wsl 0, wsl 1]] ⟨[⟨true, (some (.strs x0))⟩, ⟨true, (some (.tab [.int .i8, .int .i16, .fl .f32] x1))⟩], 2, []⟩ = firstT [((Nat.beq ((r16 x0 x1).1) 0), .bool ((r16 x0 x1).2), ⟨[⟨true, (some (.strs x0))⟩, ⟨true, (some (.tab [.int .i8, .int .i16, .fl .f32] x1))⟩], 2, []⟩)] :=
 (show evFn Try.prog ext T45 L16_2 200 Try.f16 [.agg #[wsl 0, wsl 1]] ⟨[⟨true, (some (.strs x0))⟩, ⟨true, (some (.tab [.int .i8, .int .i16, .fl .f32] x1))⟩], 2, []⟩ = w16 x0 x1 from by kernel_rfl).trans
 (show w16 x0 x1 = a16 x0 x1 (r16 x0 x1) from by unfold w16 r16; exact (cond_app (a16 x0 x1) _ rfl (cond_app (a16 x0 x1) _ rfl (cond_app (a16 x0 x1) _ rfl (cond_app (a16 x0 x1) _ (cond_app (a16 x0 x1) _ rfl (cond_app (a16 x0 x1) _ (cond_app (a16 x0 x1) _ rfl rfl) rfl)) rfl)))))
noncomputable def s16 (args : List Value) (s : St) : List (Bool × Value × St) :=
 match args, s.h with
 | [.agg ⟨[.iface f0 .nilIface, .iface f1 .nilIface]⟩], [⟨true, some (.strs x0)⟩, ⟨true, some (.tab [.int .i8, .int .i16, .fl .f32] x1)⟩] => if f0 = 0 ∧ f1 = 1 then [((Nat.beq ((r16 x0 x1).1) 0), .bool ((r16 x0 x1).2), ⟨[⟨true, (some (.strs x0))⟩, ⟨true, (some (.tab [.int .i8, .int .i16, .fl .f32] x1))⟩], 2, []⟩)] else T45 16 args s
 | _, _ => T45 16 args s
noncomputable def T46 : CallF := addF T45 16 s16
set_option maxRecDepth 100000 in
set_option maxHeartbeats 4000000 in
theorem ok46 : CfOk Try.prog T46 := by
  refine cfOk_add ok45 fun args s r s' h1 h2 h3 => ?_
  unfold s16 at h3; split at h3
  · rename_i h; split at h3
    · rename_i hc; obtain ⟨rfl, rfl⟩ := hc; exact callOk ok45 Try.func16 h1 h2 h lok16_2.body (e16 _ _) rfl h3
    · exact ok45 _ _ _ _ _ h1 h2 h3
  · exact ok45 _ _ _ _ _ h1 h2 h3

/-- impl.ValidSpan -/
noncomputable def r63 (x0 x1 : Nat) : Bool :=
 ((flt .f32 x0 x1 || feq .f32 x0 x1))
noncomputable def a63 (x0 x1 : Nat) (p : Bool) : Res := firstT [(true, .bool p, st0)]
noncomputable def w63 (x0 x1 : Nat) : Res :=
 (a63 x0 x1 ((flt .f32 x0 x1 || feq .f32 x0 x1)))
set_option maxRecDepth 100000 in
set_option maxHeartbeats 4000000 in
theorem e63 (x0 x1 : Nat) : evFn Try.prog ext T46 noL 200 Try.f63 [.agg #[.float .f32 x0, .float .f32 x1]] st0 = firstT [(true, .bool (r63 x0 x1), st0)] :=
 (show evFn Try.prog ext T46 noL 200 Try.f63 [.agg #[.float .f32 x0, .float .f32 x1]] st0 = w63 x0 x1 from by kernel_rfl).trans
 (show w63 x0 x1 = a63 x0 x1 (r63 x0 x1) from by unfold w63 r63; exact rfl)
noncomputable def s63 (args : List Value) (s : St) : List (Bool × Value × St) :=
 match args, s.h with
 | [.agg ⟨[.float .f32 x0, .float .f32 x1]⟩], [] => [(true, .bool (r63 x0 x1), st0)]
 | _, _ => T46 63 args s
noncomputable def T47 : CallF := addF T46 63 s63
set_option maxRecDepth 100000 in
set_option maxHeartbeats 4000000 in
theorem ok47 : CfOk Try.prog T47 := by
  refine cfOk_add ok46 fun args s r s' h1 h2 h3 => ?_
  unfold s63 at h3; split at h3
  · rename_i h; exact callOk ok46 Try.func63 h1 h2 h (lfOkF_no _ _).body (e63 _ _) rfl h3
  · exact ok46 _ _ _ _ _ h1 h2 h3

/-- impl.isFinite -/
noncomputable def r51b (x0 x1 : Nat) : Bool :=
 cond (r79 (widen x0))
  (false)
  (cond (r80 (widen x0) 0)
   (false)
   (cond (r79 (widen x1))
    (false)
    (cond (r80 (widen x1) 0)
     (false)
     (true))))
noncomputable def a51b (x0 x1 : Nat) (p : Bool) : Res := firstT [(true, .bool p, ⟨[⟨true, (some (.tab [.fl .f32] ([[((x0 : Nat) : Int)], [((x1 : Nat) : Int)]] : List (List Int))))⟩], 1, []⟩)]
noncomputable def w51b (x0 x1 : Nat) : Res :=
 (cond (r79 (widen x0))
 (a51b x0 x1 (false))
 (cond (r80 (widen x0) 0)
  (a51b x0 x1 (false))
  (cond (r79 (widen x1))
   (a51b x0 x1 (false))
   (cond (r80 (widen x1) 0)
    (a51b x0 x1 (false))
    (a51b x0 x1 (true))))))
set_option maxRecDepth 100000 in
set_option maxHeartbeats 4000000 in
theorem e51b (x0 x1 : Nat) : evFn Try.prog ext T47 noL 200 Try.f51 [.slice (some ⟨0, 0, some 0⟩) 2 2] ⟨[⟨true, (some (.tab [.fl .f32] ([[((x0 : Nat) : Int)], [((x1 : Nat) : Int)]] : List (List Int))))⟩], 1, []⟩ = firstT [(true, .bool (r51b x0 x1), ⟨[⟨true, (some (.tab [.fl .f32] ([[((x0 : Nat) : Int)], [((x1 : Nat) : Int)]] : List (List Int))))⟩], 1, []⟩)] :=
 (show evFn Try.prog ext T47 noL 200 Try.f51 [.slice (some ⟨0, 0, some 0⟩) 2 2] ⟨[⟨true, (some (.tab [.fl .f32] ([[((x0 : Nat) : Int)], [((x1 : Nat) : Int)]] : List (List Int))))⟩], 1, []⟩ = w51b x0 x1 from by kernel_rfl).trans
 (show w51b x0 x1 = a51b x0 x1 (r51b x0 x1) from by unfold w51b r51b; exact (cond_app (a51b x0 x1) _ rfl (cond_app (a51b x0 x1) _ rfl (cond_app (a51b x0 x1) _ rfl (cond_app (a51b x0 x1) _ rfl rfl)))))
noncomputable def s51b (args : List Value) (s : St) : List (Bool × Value × St) :=
 match args, s.h with
 | [.slice (some ⟨f0, f1, some f2⟩) f3 f4], [⟨true, some (.tab [.fl .f32] [[.ofNat x0], [.ofNat x1]])⟩] => if f0 = 0 ∧ f1 = 0 ∧ f2 = 0 ∧ f3 = 2 ∧ f4 = 2 then [(true, .bool (r51b x0 x1), ⟨[⟨true, (some (.tab [.fl .f32] ([[((x0 : Nat) : Int)], [((x1 : Nat) : Int)]] : List (List Int))))⟩], 1, []⟩)] else T47 51 args s
 | _, _ => T47 51 args s
noncomputable def T48 : CallF := addF T47 51 s51b
set_option maxRecDepth 100000 in
set_option maxHeartbeats 4000000 in
theorem ok48 : CfOk Try.prog T48 := by
  refine cfOk_add ok47 fun args s r s' h1 h2 h3 => ?_
  unfold s51b at h3; split at h3
  · rename_i h; split at h3
    · rename_i hc; obtain ⟨rfl, rfl, rfl, rfl, rfl⟩ := hc; exact callOk ok47 Try.func51 h1 h2 h (lfOkF_no _ _).body (e51b _ _) rfl h3
    · exact ok47 _ _ _ _ _ h1 h2 h3
  · exact ok47 _ _ _ _ _ h1 h2 h3

/-- impl.areInputs -/
noncomputable def r64 (x0 x1 x2 x3 x4 x5 x6 x7 : Nat) : Bool :=
 cond (!(r63 x0 x1))
  (false)
  (cond (!(r51b x0 x1))
   (false)
   (cond (!(r63 x2 x3))
    (false)
    (cond (!(r51b x2 x3))
     (false)
     (cond (!(r63 x4 x5))
      (false)
      (cond (!(r51b x4 x5))
       (false)
       (cond (!(r63 x6 x7))
        (false)
        (cond (!(r51b x6 x7))
         (false)
         (true))))))))
noncomputable def a64 (x0 x1 x2 x3 x4 x5 x6 x7 : Nat) (p : Bool) : Res := firstT [(true, .bool p, st0)]
noncomputable def w64 (x0 x1 x2 x3 x4 x5 x6 x7 : Nat) : Res :=
 (cond (!(r63 x0 x1))
 (a64 x0 x1 x2 x3 x4 x5 x6 x7 (false))
 (cond (!(r51b x0 x1))
  (a64 x0 x1 x2 x3 x4 x5 x6 x7 (false))
  (cond (!(r63 x2 x3))
   (a64 x0 x1 x2 x3 x4 x5 x6 x7 (false))
   (cond (!(r51b x2 x3))
    (a64 x0 x1 x2 x3 x4 x5 x6 x7 (false))
    (cond (!(r63 x4 x5))
     (a64 x0 x1 x2 x3 x4 x5 x6 x7 (false))
     (cond (!(r51b x4 x5))
      (a64 x0 x1 x2 x3 x4 x5 x6 x7 (false))
      (cond (!(r63 x6 x7))
       (a64 x0 x1 x2 x3 x4 x5 x6 x7 (false))
       (cond (!(r51b x6 x7))
        (a64 x0 x1 x2 x3 x4 x5 x6 x7 (false))
        (a64 x0 x1 x2 x3 x4 x5 x6 x7 (true))))))))))
set_option maxRecDepth 100000 in
set_option maxHeartbeats 4000000 in
theorem e64 (x0 x1 x2 x3 x4 x5 x6 x7 : Nat) : evFn Try.prog ext T48 noL 200 Try.f64 [.agg #[.float .f32 x0, .float .f32 x1, .float .f32 x2, .float .f32 x3, .float .f32 x4, .float .f32 x5, .float .f32 x6, .float .f32 x7]] st0 = firstT [(true, .bool (r64 x0 x1 x2 x3 x4 x5 x6 x7), st0)] :=
 (show evFn Try.prog ext T48 noL 200 Try.f64 [.agg #[.float .f32 x0, .float .f32 x1, .float .f32 x2, .float .f32 x3, .float .f32 x4, .float .f32 x5, .float .f32 x6, .float .f32 x7]] st0 = w64 x0 x1 x2 x3 x4 x5 x6 x7 from by kernel_rfl).trans
 (show w64 x0 x1 x2 x3 x4 x5 x6 x7 = a64 x0 x1 x2 x3 x4 x5 x6 x7 (r64 x0 x1 x2 x3 x4 x5 x6 x7) from by unfold w64 r64; exact (cond_app (a64 x0 x1 x2 x3 x4 x5 x6 x7) _ rfl (cond_app (a64 x0 x1 x2 x3 x4 x5 x6 x7) _ rfl (cond_app (a64 x0 x1 x2 x3 x4 x5 x6 x7) _ rfl (cond_app (a64 x0 x1 x2 x3 x4 x5 x6 x7) _ rfl (cond_app (a64 x0 x1 x2 x3 x4 x5 x6 x7) _ rfl (cond_app (a64 x0 x1 x2 x3 x4 x5 x6 x7) _ rfl (cond_app (a64 x0 x1 x2 x3 x4 x5 x6 x7) _ rfl (cond_app (a64 x0 x1 x2 x3 x4 x5 x6 x7) _ rfl rfl)))))))))
noncomputable def s64 (args : List Value) (s : St) : List (Bool × Value × St) :=
 match args, s.h with
 | [.agg ⟨[.float .f32 x0, .float .f32 x1, .float .f32 x2, .float .f32 x3, .float .f32 x4, .float .f32 x5, .float .f32 x6, .float .f32 x7]⟩], [] => [(true, .bool (r64 x0 x1 x2 x3 x4 x5 x6 x7), st0)]
 | _, _ => T48 64 args s
noncomputable def T49 : CallF := addF T48 64 s64
set_option maxRecDepth 100000 in
set_option maxHeartbeats 4000000 in
theorem ok49 : CfOk Try.prog T49 := by
  refine cfOk_add ok48 fun args s r s' h1 h2 h3 => ?_
  unfold s64 at h3; split at h3
  · rename_i h; exact callOk ok48 Try.func64 h1 h2 h (lfOkF_no _ _).body (e64 _ _ _ _ _ _ _ _) rfl h3
  · exact ok48 _ _ _ _ _ h1 h2 h3

/-- impl.prove$1 -/
noncomputable def r89 (x0 : Nat) : Unit :=
 ()
noncomputable def a89 (x0 : Nat) (p : Unit) : Res := firstT [(true, .agg #[.float .f32 x0, .float .f32 x0], st0)]
noncomputable def w89 (x0 : Nat) : Res :=
 (a89 x0 ())
set_option maxRecDepth 100000 in
set_option maxHeartbeats 4000000 in
theorem e89 (x0 : Nat) : evFn Try.prog ext T49 noL 200 Try.f89 [.float .f32 x0] st0 = firstT [(true, .agg #[.float .f32 x0, .float .f32 x0], st0)] :=
 (show evFn Try.prog ext T49 noL 200 Try.f89 [.float .f32 x0] st0 = w89 x0 from by kernel_rfl).trans
 (show w89 x0 = a89 x0 (r89 x0) from by unfold w89 r89; exact rfl)
noncomputable def s89 (args : List Value) (s : St) : List (Bool × Value × St) :=
 match args, s.h with
 | [.float .f32 x0], [] => [(true, .agg #[.float .f32 x0, .float .f32 x0], st0)]
 | _, _ => T49 89 args s
noncomputable def T50 : CallF := addF T49 89 s89
set_option maxRecDepth 100000 in
set_option maxHeartbeats 4000000 in
theorem ok50 : CfOk Try.prog T50 := by
  refine cfOk_add ok49 fun args s r s' h1 h2 h3 => ?_
  unfold s89 at h3; split at h3
  · rename_i h; exact callOk ok49 Try.func89 h1 h2 h (lfOkF_no _ _).body (e89 _) rfl h3
  · exact ok49 _ _ _ _ _ h1 h2 h3
end Go.Proofs.Ytfclciebpnnieaa
