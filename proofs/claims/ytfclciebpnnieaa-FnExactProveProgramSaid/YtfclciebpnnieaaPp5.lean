/- What the functions that the statements reach answer, part 5. -/
import Derived.Test.YtfclciebpnnieaaPp4
namespace Go.Proofs.Ytfclciebpnnieaa
open Go.Ab
set_option maxHeartbeats 4000000
set_option maxRecDepth 100000

/-- laws.eqOpS, loop 0: one round -/
noncomputable def b47l0 (ih : Int → List (List Int) → List (List Int) → Nat) (x0 : Int) (x1 x2 : List (List Int)) : Nat :=
 let c194 := (r74 ((x1.getD (Int.toNat x0) []).getD 0 0) ((x1.getD (Int.toNat x0) []).getD 1 0) (Int.toNat ((x1.getD (Int.toNat x0) []).getD 2 0)) ((x2.getD (Int.toNat x0) []).getD 0 0) ((x2.getD (Int.toNat x0) []).getD 1 0) (Int.toNat ((x2.getD (Int.toNat x0) []).getD 2 0)))
 cond (decide ((x0 : Int) < ((x1.length : Nat) : Int)))
  (cond ((decide ((0 : Int) ≤ x0)) && (Nat.blt (Int.toNat x0) x1.length))
   (cond ((decide ((0 : Int) ≤ x0)) && (Nat.blt (Int.toNat x0) x2.length))
    (cond (!c194)
     (0)
     (ih (IntKind.i64.wrap (x0 + 1)) x1 x2))
    (2))
   (2))
  (1)
noncomputable def r47l0 : Nat → Int → List (List Int) → List (List Int) → Nat
 | 0 => fun _ _ _ => (2)
 | m + 1 => b47l0 (r47l0 m)
noncomputable def a47l0 (x0 : Int) (x1 x2 : List (List Int)) (p : Nat) : Option (Fin' × List Value × St) := firstT ([((Nat.beq p 0), .ret, [.bool false], ⟨[⟨true, (some (.tab [.int .i8, .int .i16, .fl .f32] x1))⟩, ⟨true, (some (.tab [.int .i8, .int .i16, .fl .f32] x2))⟩], 2, []⟩), ((Nat.beq p 1), .exit 0, [anyV], ⟨[⟨true, (some (.tab [.int .i8, .int .i16, .fl .f32] x1))⟩, ⟨true, (some (.tab [.int .i8, .int .i16, .fl .f32] x2))⟩], 2, []⟩)].map fun (b, x) => (b, (x.1, frameOf 27 [4] x.2.1, x.2.2)))
noncomputable def u47l0 (x0 : Int) (x1 x2 : List (List Int)) (p : Nat) : Option (Fin' × List Value × St) := alts ([((Nat.beq p 0), .ret, [.bool false], ⟨[⟨true, (some (.tab [.int .i8, .int .i16, .fl .f32] x1))⟩, ⟨true, (some (.tab [.int .i8, .int .i16, .fl .f32] x2))⟩], 2, []⟩), ((Nat.beq p 1), .exit 0, [anyV], ⟨[⟨true, (some (.tab [.int .i8, .int .i16, .fl .f32] x1))⟩, ⟨true, (some (.tab [.int .i8, .int .i16, .fl .f32] x2))⟩], 2, []⟩)].map fun (b, x) => (b, (x.1, frameOf 27 [4] x.2.1, x.2.2))) some
theorem v47l0 (x0 : Int) (x1 x2 : List (List Int)) (p : Nat) : u47l0 x0 x1 x2 p = a47l0 x0 x1 x2 p := alts_first _
noncomputable def q47l0 (m : Nat) : SumK := fun vals s =>
 match vals, s.h with
 | [.iface f0 .nilIface, .iface f1 .nilIface, .int .i64 x0], [⟨true, some (.tab [.int .i8, .int .i16, .fl .f32] x1)⟩, ⟨true, some (.tab [.int .i8, .int .i16, .fl .f32] x2)⟩] => if f0 = 0 ∧ f1 = 1 then [((Nat.beq (r47l0 m x0 x1 x2) 0), .ret, [.bool false], ⟨[⟨true, (some (.tab [.int .i8, .int .i16, .fl .f32] x1))⟩, ⟨true, (some (.tab [.int .i8, .int .i16, .fl .f32] x2))⟩], 2, []⟩), ((Nat.beq (r47l0 m x0 x1 x2) 1), .exit 0, [anyV], ⟨[⟨true, (some (.tab [.int .i8, .int .i16, .fl .f32] x1))⟩, ⟨true, (some (.tab [.int .i8, .int .i16, .fl .f32] x2))⟩], 2, []⟩)] else noQ vals s
 | _, _ => noQ vals s
noncomputable def w47l0 (ih : Int → List (List Int) → List (List Int) → Nat) (x0 : Int) (x1 x2 : List (List Int)) : Option (Fin' × List Value × St) :=
 let c194 := (r74 ((x1.getD (Int.toNat x0) []).getD 0 0) ((x1.getD (Int.toNat x0) []).getD 1 0) (Int.toNat ((x1.getD (Int.toNat x0) []).getD 2 0)) ((x2.getD (Int.toNat x0) []).getD 0 0) ((x2.getD (Int.toNat x0) []).getD 1 0) (Int.toNat ((x2.getD (Int.toNat x0) []).getD 2 0)))
 (cond (decide ((x0 : Int) < ((x1.length : Nat) : Int)))
 (cond ((decide ((0 : Int) ≤ x0)) && (Nat.blt (Int.toNat x0) x1.length))
  (cond (Nat.blt (Int.toNat x0) x1.length)
   (cond ((decide ((0 : Int) ≤ x0)) && (Nat.blt (Int.toNat x0) x2.length))
    (cond (Nat.blt (Int.toNat x0) x2.length)
     (cond (!c194)
      (a47l0 x0 x1 x2 (0))
      (u47l0 x0 x1 x2 (ih (IntKind.i64.wrap (x0 + 1)) x1 x2)))
     none)
    none)
   none)
  none)
 (a47l0 x0 x1 x2 (1)))
set_option maxRecDepth 100000 in
set_option maxHeartbeats 4000000 in
theorem e47l0 (m : Nat) (x0 : Int) (x1 x2 : List (List Int)) : evC Try.prog ext T70 noL 200 (loopN Try.f47 0) (loopTail ([0, 1, 5], []) [4] [] (sumK 27 [0, 1, 5] [4] (q47l0 m))) (frameOf 27 [0, 1, 5] [wsl 0, wsl 1, .int .i64 x0]) ⟨[⟨true, (some (.tab [.int .i8, .int .i16, .fl .f32] x1))⟩, ⟨true, (some (.tab [.int .i8, .int .i16, .fl .f32] x2))⟩], 2, []⟩ = firstT ([((Nat.beq (r47l0 (m + 1) x0 x1 x2) 0), .ret, [.bool false], ⟨[⟨true, (some (.tab [.int .i8, .int .i16, .fl .f32] x1))⟩, ⟨true, (some (.tab [.int .i8, .int .i16, .fl .f32] x2))⟩], 2, []⟩), ((Nat.beq (r47l0 (m + 1) x0 x1 x2) 1), .exit 0, [anyV], ⟨[⟨true, (some (.tab [.int .i8, .int .i16, .fl .f32] x1))⟩, ⟨true, (some (.tab [.int .i8, .int .i16, .fl .f32] x2))⟩], 2, []⟩)].map fun (b, x) => (b, (x.1, frameOf 27 [4] x.2.1, x.2.2))) :=
 (show evC Try.prog ext T70 noL 200 (loopN Try.f47 0) (loopTail ([0, 1, 5], []) [4] [] (sumK 27 [0, 1, 5] [4] (q47l0 m))) (frameOf 27 [0, 1, 5] [wsl 0, wsl 1, .int .i64 x0]) ⟨[⟨true, (some (.tab [.int .i8, .int .i16, .fl .f32] x1))⟩, ⟨true, (some (.tab [.int .i8, .int .i16, .fl .f32] x2))⟩], 2, []⟩ = w47l0 (r47l0 m) x0 x1 x2 from by kernel_rfl).trans
 (show w47l0 (r47l0 m) x0 x1 x2 = a47l0 x0 x1 x2 (r47l0 (m + 1) x0 x1 x2) from by unfold w47l0; show _ = a47l0 x0 x1 x2 (b47l0 (r47l0 m) x0 x1 x2); unfold b47l0; exact (cond_both (a47l0 x0 x1 x2) _ (fun h0 => (cond_both (a47l0 x0 x1 x2) _ (fun h1 => (cond_t (ev_and2 h1) (cond_both (a47l0 x0 x1 x2) _ (fun h2 => (cond_t (ev_and2 h2) (cond_app (a47l0 x0 x1 x2) _ rfl (v47l0 x0 x1 x2 ((r47l0 m) (IntKind.i64.wrap (x0 + 1)) x1 x2))))) (fun h2 => rfl)))) (fun h1 => rfl))) (fun h0 => rfl)))
set_option maxRecDepth 100000 in
set_option maxHeartbeats 4000000 in
theorem qm47l0 : ∀ m, SumKOk Try.prog (loopN Try.f47 0) 27 [0, 1, 5] [4] (q47l0 m) := by
  intro m
  induction m with
  | zero =>
    intro vals s x h1 h2 h3
    unfold q47l0 at h3; split at h3
    · rename_i h; split at h3
      · rename_i hc; obtain ⟨rfl, rfl⟩ := hc; exact absurd h3 (by simp [r47l0, firstT, Nat.beq])
      · exact noQ_ok _ _ _ h1 h2 h3
    · exact noQ_ok _ _ _ h1 h2 h3
  | succ m ih =>
    intro vals s x h1 h2 h3
    unfold q47l0 at h3; split at h3
    · rename_i h; split at h3
      · rename_i hc; obtain ⟨rfl, rfl⟩ := hc; exact sum_step ok70 extOk mixed ((lfOkF_no _ _).inner (by kernel_rfl)) ih h1 h2 h (e47l0 m _ _ _) rfl h3
      · exact noQ_ok _ _ _ h1 h2 h3
    · exact noQ_ok _ _ _ h1 h2 h3
noncomputable def Q47l0 : SumK := fun vals s => q47l0 (fuelOf vals s.h) vals s
theorem qok47l0 : SumKOk Try.prog (loopN Try.f47 0) 27 [0, 1, 5] [4] Q47l0 := fuel_ok qm47l0 fuelOf
noncomputable def L47_1 : LoopT := addL noL 5 ([0, 1, 5], []) (sumK 27 [0, 1, 5] [4] Q47l0)
theorem lok47_1 : LfOkF Try.prog L47_1 Try.f47 := lfOkF_add (lfOkF_no _ _) qok47l0 (by kernel_rfl) (by kernel_rfl) (by kernel_rfl)

/-- laws.eqOpS -/
noncomputable def r47 (x0 x1 : List (List Int)) : Nat × Bool :=
 cond ((((x0.length : Nat) : Int) : Int) != ((x1.length : Nat) : Int))
  (0, false)
  (cond (Nat.beq (r47l0 (1000 + x1.length + x0.length) 0 x0 x1) 0)
   (0, false)
   (cond (Nat.beq (r47l0 (1000 + x1.length + x0.length) 0 x0 x1) 1)
    (0, true)
    (1, false)))
noncomputable def a47 (x0 x1 : List (List Int)) (p : Nat × Bool) : Res := firstT [((Nat.beq (p.1) 0), .bool (p.2), ⟨[⟨true, (some (.tab [.int .i8, .int .i16, .fl .f32] x0))⟩, ⟨true, (some (.tab [.int .i8, .int .i16, .fl .f32] x1))⟩], 2, []⟩)]
noncomputable def w47 (x0 x1 : List (List Int)) : Res :=
 (cond ((((x0.length : Nat) : Int) : Int) != ((x1.length : Nat) : Int))
 (a47 x0 x1 (0, false))
 (cond (Nat.beq (r47l0 (1000 + x1.length + x0.length) 0 x0 x1) 0)
  (a47 x0 x1 (0, false))
  (cond (Nat.beq (r47l0 (1000 + x1.length + x0.length) 0 x0 x1) 1)
   (a47 x0 x1 (0, true))
   none)))
set_option maxRecDepth 100000 in
set_option maxHeartbeats 4000000 in
theorem e47 (x0 x1 : List (List Int)) : evFn Try.prog ext T70 L47_1 200 Try.f47 [wsl 0, wsl 1] ⟨[⟨true, (some (.tab [.int .i8, .int .i16, .fl .f32] x0))⟩, ⟨true, (some (.tab [.int .i8, .int .i16, .fl .f32] x1))⟩], 2, []⟩ = firstT [((Nat.beq ((r47 x0 x1).1) 0), .bool ((r47 x0 x1).2), ⟨[⟨true, (some (.tab [.int .i8, .int .i16, .fl .f32] x0))⟩, ⟨true, (some (.tab [.int .i8, .int .i16, .fl .f32] x1))⟩], 2, []⟩)] :=
 (show evFn Try.prog ext T70 L47_1 200 Try.f47 [wsl 0, wsl 1] ⟨[⟨true, (some (.tab [.int .i8, .int .i16, .fl .f32] x0))⟩, ⟨true, (some (.tab [.int .i8, .int .i16, .fl .f32] x1))⟩], 2, []⟩ = w47 x0 x1 from by kernel_rfl).trans
 (show w47 x0 x1 = a47 x0 x1 (r47 x0 x1) from by unfold w47 r47; exact (cond_app (a47 x0 x1) _ rfl (cond_app (a47 x0 x1) _ rfl (cond_app (a47 x0 x1) _ rfl rfl))))
noncomputable def s47 (args : List Value) (s : St) : List (Bool × Value × St) :=
 match args, s.h with
 | [.iface f0 .nilIface, .iface f1 .nilIface], [⟨true, some (.tab [.int .i8, .int .i16, .fl .f32] x0)⟩, ⟨true, some (.tab [.int .i8, .int .i16, .fl .f32] x1)⟩] => if f0 = 0 ∧ f1 = 1 then [((Nat.beq ((r47 x0 x1).1) 0), .bool ((r47 x0 x1).2), ⟨[⟨true, (some (.tab [.int .i8, .int .i16, .fl .f32] x0))⟩, ⟨true, (some (.tab [.int .i8, .int .i16, .fl .f32] x1))⟩], 2, []⟩)] else T70 47 args s
 | _, _ => T70 47 args s
noncomputable def T71 : CallF := addF T70 47 s47
set_option maxRecDepth 100000 in
set_option maxHeartbeats 4000000 in
theorem ok71 : CfOk Try.prog T71 := by
  refine cfOk_add ok70 fun args s r s' h1 h2 h3 => ?_
  unfold s47 at h3; split at h3
  · rename_i h; split at h3
    · rename_i hc; obtain ⟨rfl, rfl⟩ := hc; exact callOk ok70 Try.func47 h1 h2 h lok47_1.body (e47 _ _) rfl h3
    · exact ok70 _ _ _ _ _ h1 h2 h3
  · exact ok70 _ _ _ _ _ h1 h2 h3

/-- laws.eqProgram -/
noncomputable def r14 (x0 : List ByteArray) (x1 : List (List Int)) (x2 : List ByteArray) (x3 : List (List Int)) : Nat × Bool :=
 cond (Nat.beq ((r46 x0 x2).1) 0)
  (cond (!((r46 x0 x2).2))
   (0, false)
   (cond (Nat.beq ((r47 x1 x3).1) 0)
    (cond (!((r47 x1 x3).2))
     (0, false)
     (0, true))
    (1, false)))
  (1, false)
noncomputable def a14 (x0 : List ByteArray) (x1 : List (List Int)) (x2 : List ByteArray) (x3 : List (List Int)) (p : Nat × Bool) : Res := firstT [((Nat.beq (p.1) 0), .bool (p.2), ⟨[⟨true, (some (.strs x0))⟩, ⟨true, (some (.tab [.int .i8, .int .i16, .fl .f32] x1))⟩, ⟨true, (some (.strs x2))⟩, ⟨true, (some (.tab [.int .i8, .int .i16, .fl .f32] x3))⟩], 4, []⟩)]
noncomputable def w14 (x0 : List ByteArray) (x1 : List (List Int)) (x2 : List ByteArray) (x3 : List (List Int)) : Res :=
 (cond (Nat.beq ((r46 x0 x2).1) 0)
 (cond (!((r46 x0 x2).2))
  (a14 x0 x1 x2 x3 (0, false))
  (cond (Nat.beq ((r47 x1 x3).1) 0)
   (cond (!((r47 x1 x3).2))
    (a14 x0 x1 x2 x3 (0, false))
    (a14 x0 x1 x2 x3 (0, true)))
   none))
 none)
set_option maxRecDepth 100000 in
set_option maxHeartbeats 4000000 in
theorem e14 (x0 : List ByteArray) (x1 : List (List Int)) (x2 : List ByteArray) (x3 : List (List Int)) : evFn Try.prog ext T71 noL 200 Try.f14 [.agg #[wsl 0, wsl 1], .agg #[wsl 2, wsl 3]] ⟨[⟨true, (some (.strs x0))⟩, ⟨true, (some (.tab [.int .i8, .int .i16, .fl .f32] x1))⟩, ⟨true, (some (.strs x2))⟩, ⟨true, (some (.tab [.int .i8, .int .i16, .fl .f32] x3))⟩], 4, []⟩ = firstT [((Nat.beq ((r14 x0 x1 x2 x3).1) 0), .bool ((r14 x0 x1 x2 x3).2), ⟨[⟨true, (some (.strs x0))⟩, ⟨true, (some (.tab [.int .i8, .int .i16, .fl .f32] x1))⟩, ⟨true, (some (.strs x2))⟩, ⟨true, (some (.tab [.int .i8, .int .i16, .fl .f32] x3))⟩], 4, []⟩)] :=
 (show evFn Try.prog ext T71 noL 200 Try.f14 [.agg #[wsl 0, wsl 1], .agg #[wsl 2, wsl 3]] ⟨[⟨true, (some (.strs x0))⟩, ⟨true, (some (.tab [.int .i8, .int .i16, .fl .f32] x1))⟩, ⟨true, (some (.strs x2))⟩, ⟨true, (some (.tab [.int .i8, .int .i16, .fl .f32] x3))⟩], 4, []⟩ = w14 x0 x1 x2 x3 from by kernel_rfl).trans
 (show w14 x0 x1 x2 x3 = a14 x0 x1 x2 x3 (r14 x0 x1 x2 x3) from by unfold w14 r14; exact (cond_app (a14 x0 x1 x2 x3) _ (cond_app (a14 x0 x1 x2 x3) _ rfl (cond_app (a14 x0 x1 x2 x3) _ (cond_app (a14 x0 x1 x2 x3) _ rfl rfl) rfl)) rfl))
noncomputable def s14 (args : List Value) (s : St) : List (Bool × Value × St) :=
 match args, s.h with
 | [.agg ⟨[.iface f0 .nilIface, .iface f1 .nilIface]⟩, .agg ⟨[.iface f2 .nilIface, .iface f3 .nilIface]⟩], [⟨true, some (.strs x0)⟩, ⟨true, some (.tab [.int .i8, .int .i16, .fl .f32] x1)⟩, ⟨true, some (.strs x2)⟩, ⟨true, some (.tab [.int .i8, .int .i16, .fl .f32] x3)⟩] => if f0 = 0 ∧ f1 = 1 ∧ f2 = 2 ∧ f3 = 3 then [((Nat.beq ((r14 x0 x1 x2 x3).1) 0), .bool ((r14 x0 x1 x2 x3).2), ⟨[⟨true, (some (.strs x0))⟩, ⟨true, (some (.tab [.int .i8, .int .i16, .fl .f32] x1))⟩, ⟨true, (some (.strs x2))⟩, ⟨true, (some (.tab [.int .i8, .int .i16, .fl .f32] x3))⟩], 4, []⟩)] else T71 14 args s
 | _, _ => T71 14 args s
noncomputable def T72 : CallF := addF T71 14 s14
set_option maxRecDepth 100000 in
set_option maxHeartbeats 4000000 in
theorem ok72 : CfOk Try.prog T72 := by
  refine cfOk_add ok71 fun args s r s' h1 h2 h3 => ?_
  unfold s14 at h3; split at h3
  · rename_i h; split at h3
    · rename_i hc; obtain ⟨rfl, rfl, rfl, rfl⟩ := hc; exact callOk ok71 Try.func14 h1 h2 h (lfOkF_no _ _).body (e14 _ _ _ _) rfl h3
    · exact ok71 _ _ _ _ _ h1 h2 h3
  · exact ok71 _ _ _ _ _ h1 h2 h3

/-- laws.markText, loop 0: one round -/
noncomputable def b85l0 (ih : Int → ByteArray → (Nat × ByteArray)) (x0 : Int) (x1 : ByteArray) : Nat × ByteArray :=
 cond (decide ((x0 : Int) > 0))
  (cond (decide ((bytesOf ([[(IntKind.u8.wrap (IntKind.i64.wrap (48 + (Int.tmod x0 10))))]] : List (List Int))).size + x1.size ≤ strMax))
   (ih (IntKind.i64.wrap (Int.tdiv x0 10)) ((bytesOf ([[(IntKind.u8.wrap (IntKind.i64.wrap (48 + (Int.tmod x0 10))))]] : List (List Int))) ++ x1))
   (1, ByteArray.empty))
  (0, x1)
noncomputable def r85l0 : Nat → Int → ByteArray → (Nat × ByteArray)
 | 0 => fun _ _ => (1, ByteArray.empty)
 | m + 1 => b85l0 (r85l0 m)
noncomputable def a85l0 (x0 : Int) (x1 : ByteArray) (p : Nat × ByteArray) : Option (Fin' × List Value × St) := firstT ([((Nat.beq (p.1) 0), .exit 0, [.string (p.2)], st0)].map fun (b, x) => (b, (x.1, frameOf 20 [3] x.2.1, x.2.2)))
noncomputable def u85l0 (x0 : Int) (x1 : ByteArray) (p : Nat × ByteArray) : Option (Fin' × List Value × St) := alts ([((Nat.beq (p.1) 0), .exit 0, [.string (p.2)], st0)].map fun (b, x) => (b, (x.1, frameOf 20 [3] x.2.1, x.2.2))) some
theorem v85l0 (x0 : Int) (x1 : ByteArray) (p : Nat × ByteArray) : u85l0 x0 x1 p = a85l0 x0 x1 p := alts_first _
noncomputable def q85l0 (m : Nat) : SumK := fun vals s =>
 match vals, s.h with
 | [.int .i64 x0, .string x1], [] => [((Nat.beq ((r85l0 m x0 x1).1) 0), .exit 0, [.string ((r85l0 m x0 x1).2)], st0)]
 | _, _ => noQ vals s
noncomputable def w85l0 (ih : Int → ByteArray → (Nat × ByteArray)) (x0 : Int) (x1 : ByteArray) : Option (Fin' × List Value × St) :=
 (cond (decide ((x0 : Int) > 0))
 (cond (decide ((bytesOf ([[(IntKind.u8.wrap (IntKind.i64.wrap (48 + (Int.tmod x0 10))))]] : List (List Int))).size + x1.size ≤ strMax))
  (u85l0 x0 x1 (ih (IntKind.i64.wrap (Int.tdiv x0 10)) ((bytesOf ([[(IntKind.u8.wrap (IntKind.i64.wrap (48 + (Int.tmod x0 10))))]] : List (List Int))) ++ x1)))
  none)
 (a85l0 x0 x1 (0, x1)))
set_option maxRecDepth 100000 in
set_option maxHeartbeats 4000000 in
theorem e85l0 (m : Nat) (x0 : Int) (x1 : ByteArray) : evC Try.prog ext T72 noL 200 (loopN Try.f85 0) (loopTail ([0, 3], []) [3] [] (sumK 20 [0, 3] [3] (q85l0 m))) (frameOf 20 [0, 3] [.int .i64 x0, .string x1]) ⟨[], 0, []⟩ = firstT ([((Nat.beq ((r85l0 (m + 1) x0 x1).1) 0), .exit 0, [.string ((r85l0 (m + 1) x0 x1).2)], st0)].map fun (b, x) => (b, (x.1, frameOf 20 [3] x.2.1, x.2.2))) :=
 (show evC Try.prog ext T72 noL 200 (loopN Try.f85 0) (loopTail ([0, 3], []) [3] [] (sumK 20 [0, 3] [3] (q85l0 m))) (frameOf 20 [0, 3] [.int .i64 x0, .string x1]) ⟨[], 0, []⟩ = w85l0 (r85l0 m) x0 x1 from by kernel_rfl).trans
 (show w85l0 (r85l0 m) x0 x1 = a85l0 x0 x1 (r85l0 (m + 1) x0 x1) from by unfold w85l0; show _ = a85l0 x0 x1 (b85l0 (r85l0 m) x0 x1); unfold b85l0; exact (cond_app (a85l0 x0 x1) _ (cond_app (a85l0 x0 x1) _ (v85l0 x0 x1 ((r85l0 m) (IntKind.i64.wrap (Int.tdiv x0 10)) ((bytesOf ([[(IntKind.u8.wrap (IntKind.i64.wrap (48 + (Int.tmod x0 10))))]] : List (List Int))) ++ x1))) rfl) rfl))
set_option maxRecDepth 100000 in
set_option maxHeartbeats 4000000 in
theorem qm85l0 : ∀ m, SumKOk Try.prog (loopN Try.f85 0) 20 [0, 3] [3] (q85l0 m) := by
  intro m
  induction m with
  | zero =>
    intro vals s x h1 h2 h3
    unfold q85l0 at h3; split at h3
    · rename_i h; exact absurd h3 (by simp [r85l0, firstT, Nat.beq])
    · exact noQ_ok _ _ _ h1 h2 h3
  | succ m ih =>
    intro vals s x h1 h2 h3
    unfold q85l0 at h3; split at h3
    · rename_i h; exact sum_step ok72 extOk mixed ((lfOkF_no _ _).inner (by kernel_rfl)) ih h1 h2 h (e85l0 m _ _) rfl h3
    · exact noQ_ok _ _ _ h1 h2 h3
noncomputable def Q85l0 : SumK := fun vals s => q85l0 (fuelOf vals s.h) vals s
theorem qok85l0 : SumKOk Try.prog (loopN Try.f85 0) 20 [0, 3] [3] Q85l0 := fuel_ok qm85l0 fuelOf
noncomputable def L85_1 : LoopT := addL noL 5 ([0, 3], []) (sumK 20 [0, 3] [3] Q85l0)
theorem lok85_1 : LfOkF Try.prog L85_1 Try.f85 := lfOkF_add (lfOkF_no _ _) qok85l0 (by kernel_rfl) (by kernel_rfl) (by kernel_rfl)

/-- laws.markText -/
noncomputable def r85 (x0 : Int) : Nat × ByteArray :=
 cond (decide ((x0 : Int) ≤ 0))
  (0, (ByteArray.mk #[109, 48]))
  (cond (Nat.beq ((r85l0 (1000 + 0) x0 (ByteArray.mk #[])).1) 0)
   (cond (decide (1 + ((r85l0 (1000 + 0) x0 (ByteArray.mk #[])).2).size ≤ strMax))
    (0, ((ByteArray.mk #[109]) ++ ((r85l0 (1000 + 0) x0 (ByteArray.mk #[])).2)))
    (1, ByteArray.empty))
   (1, ByteArray.empty))
noncomputable def a85 (x0 : Int) (p : Nat × ByteArray) : Res := firstT [((Nat.beq (p.1) 0), .string (p.2), st0)]
noncomputable def w85 (x0 : Int) : Res :=
 (cond (decide ((x0 : Int) ≤ 0))
 (a85 x0 (0, (ByteArray.mk #[109, 48])))
 (cond (Nat.beq ((r85l0 (1000 + 0) x0 (ByteArray.mk #[])).1) 0)
  (cond (decide (1 + ((r85l0 (1000 + 0) x0 (ByteArray.mk #[])).2).size ≤ strMax))
   (a85 x0 (0, ((ByteArray.mk #[109]) ++ ((r85l0 (1000 + 0) x0 (ByteArray.mk #[])).2))))
   none)
  none))
set_option maxRecDepth 100000 in
set_option maxHeartbeats 4000000 in
theorem e85 (x0 : Int) : evFn Try.prog ext T72 L85_1 200 Try.f85 [.int .i64 x0] st0 = firstT [((Nat.beq ((r85 x0).1) 0), .string ((r85 x0).2), st0)] :=
 (show evFn Try.prog ext T72 L85_1 200 Try.f85 [.int .i64 x0] st0 = w85 x0 from by kernel_rfl).trans
 (show w85 x0 = a85 x0 (r85 x0) from by unfold w85 r85; exact (cond_app (a85 x0) _ rfl (cond_app (a85 x0) _ (cond_app (a85 x0) _ rfl rfl) rfl)))
noncomputable def s85 (args : List Value) (s : St) : List (Bool × Value × St) :=
 match args, s.h with
 | [.int .i64 x0], [] => [((Nat.beq ((r85 x0).1) 0), .string ((r85 x0).2), st0)]
 | _, _ => T72 85 args s
noncomputable def T73 : CallF := addF T72 85 s85
set_option maxRecDepth 100000 in
set_option maxHeartbeats 4000000 in
theorem ok73 : CfOk Try.prog T73 := by
  refine cfOk_add ok72 fun args s r s' h1 h2 h3 => ?_
  unfold s85 at h3; split at h3
  · rename_i h; exact callOk ok72 Try.func85 h1 h2 h lok85_1.body (e85 _) rfl h3
  · exact ok72 _ _ _ _ _ h1 h2 h3

/-- laws.markStringS, loop 0: one round -/
noncomputable def b58l0 (ih : Int → Int → List ByteArray → (Nat × Int × List ByteArray)) (x0 x1 : Int) (x2 : List ByteArray) : Nat × Int × List ByteArray :=
 cond (decide ((x1 : Int) < ((x2.length : Nat) : Int)))
  (cond (Nat.beq ((r85 x0).1) 0)
   (cond ((decide ((0 : Int) ≤ x1)) && (Nat.blt (Int.toNat x1) x2.length))
    (ih (IntKind.i64.wrap (x0 + 1)) (IntKind.i64.wrap (x1 + 1)) (x2.set (Int.toNat x1) ((r85 x0).2)))
    (1, 0, []))
   (1, 0, []))
  (0, x0, x2)
noncomputable def r58l0 : Nat → Int → Int → List ByteArray → (Nat × Int × List ByteArray)
 | 0 => fun _ _ _ => (1, 0, [])
 | m + 1 => b58l0 (r58l0 m)
noncomputable def a58l0 (x0 x1 : Int) (x2 : List ByteArray) (p : Nat × Int × List ByteArray) : Option (Fin' × List Value × St) := firstT ([((Nat.beq (p.1) 0), .exit 0, [.int .i64 (p.2.1)], ⟨[⟨true, (some (.strs (p.2.2)))⟩], 1, [0]⟩)].map fun (b, x) => (b, (x.1, frameOf 20 [1] x.2.1, x.2.2)))
noncomputable def u58l0 (x0 x1 : Int) (x2 : List ByteArray) (p : Nat × Int × List ByteArray) : Option (Fin' × List Value × St) := alts ([((Nat.beq (p.1) 0), .exit 0, [.int .i64 (p.2.1)], ⟨[⟨true, (some (.strs (p.2.2)))⟩], 1, [0]⟩)].map fun (b, x) => (b, (x.1, frameOf 20 [1] x.2.1, x.2.2))) some
theorem v58l0 (x0 x1 : Int) (x2 : List ByteArray) (p : Nat × Int × List ByteArray) : u58l0 x0 x1 x2 p = a58l0 x0 x1 x2 p := alts_first _
noncomputable def q58l0 (m : Nat) : SumK := fun vals s =>
 match vals, s.h with
 | [.iface f0 .nilIface, .int .i64 x0, .int .i64 x1], [⟨true, some (.strs x2)⟩] => if f0 = 0 then [((Nat.beq ((r58l0 m x0 x1 x2).1) 0), .exit 0, [.int .i64 ((r58l0 m x0 x1 x2).2.1)], ⟨[⟨true, (some (.strs ((r58l0 m x0 x1 x2).2.2)))⟩], 1, [0]⟩)] else noQ vals s
 | _, _ => noQ vals s
noncomputable def w58l0 (ih : Int → Int → List ByteArray → (Nat × Int × List ByteArray)) (x0 x1 : Int) (x2 : List ByteArray) : Option (Fin' × List Value × St) :=
 (cond (decide ((x1 : Int) < ((x2.length : Nat) : Int)))
 (cond (Nat.beq ((r85 x0).1) 0)
  (cond ((decide ((0 : Int) ≤ x1)) && (Nat.blt (Int.toNat x1) x2.length))
   (cond (Nat.blt (Int.toNat x1) x2.length)
    (u58l0 x0 x1 x2 (ih (IntKind.i64.wrap (x0 + 1)) (IntKind.i64.wrap (x1 + 1)) (x2.set (Int.toNat x1) ((r85 x0).2))))
    none)
   none)
  none)
 (a58l0 x0 x1 x2 (0, x0, x2)))
set_option maxRecDepth 100000 in
set_option maxHeartbeats 4000000 in
theorem e58l0 (m : Nat) (x0 x1 : Int) (x2 : List ByteArray) : evC Try.prog ext T73 noL 200 (loopN Try.f58 0) (loopTail ([0, 1, 5], []) [1] [0] (sumK 20 [0, 1, 5] [1] (q58l0 m))) (frameOf 20 [0, 1, 5] [wsl 0, .int .i64 x0, .int .i64 x1]) ⟨[⟨true, (some (.strs x2))⟩], 1, []⟩ = firstT ([((Nat.beq ((r58l0 (m + 1) x0 x1 x2).1) 0), .exit 0, [.int .i64 ((r58l0 (m + 1) x0 x1 x2).2.1)], ⟨[⟨true, (some (.strs ((r58l0 (m + 1) x0 x1 x2).2.2)))⟩], 1, [0]⟩)].map fun (b, x) => (b, (x.1, frameOf 20 [1] x.2.1, x.2.2))) :=
 (show evC Try.prog ext T73 noL 200 (loopN Try.f58 0) (loopTail ([0, 1, 5], []) [1] [0] (sumK 20 [0, 1, 5] [1] (q58l0 m))) (frameOf 20 [0, 1, 5] [wsl 0, .int .i64 x0, .int .i64 x1]) ⟨[⟨true, (some (.strs x2))⟩], 1, []⟩ = w58l0 (r58l0 m) x0 x1 x2 from by kernel_rfl).trans
 (show w58l0 (r58l0 m) x0 x1 x2 = a58l0 x0 x1 x2 (r58l0 (m + 1) x0 x1 x2) from by unfold w58l0; show _ = a58l0 x0 x1 x2 (b58l0 (r58l0 m) x0 x1 x2); unfold b58l0; exact (cond_both (a58l0 x0 x1 x2) _ (fun h0 => (cond_both (a58l0 x0 x1 x2) _ (fun h1 => (cond_both (a58l0 x0 x1 x2) _ (fun h2 => (cond_t (ev_and2 h2) (v58l0 x0 x1 x2 ((r58l0 m) (IntKind.i64.wrap (x0 + 1)) (IntKind.i64.wrap (x1 + 1)) (x2.set (Int.toNat x1) ((r85 x0).2)))))) (fun h2 => rfl))) (fun h1 => rfl))) (fun h0 => rfl)))
set_option maxRecDepth 100000 in
set_option maxHeartbeats 4000000 in
theorem qm58l0 : ∀ m, SumKOk Try.prog (loopN Try.f58 0) 20 [0, 1, 5] [1] (q58l0 m) := by
  intro m
  induction m with
  | zero =>
    intro vals s x h1 h2 h3
    unfold q58l0 at h3; split at h3
    · rename_i h; split at h3
      · rename_i hc; obtain ⟨rfl⟩ := hc; exact absurd h3 (by simp [r58l0, firstT, Nat.beq])
      · exact noQ_ok _ _ _ h1 h2 h3
    · exact noQ_ok _ _ _ h1 h2 h3
  | succ m ih =>
    intro vals s x h1 h2 h3
    unfold q58l0 at h3; split at h3
    · rename_i h; split at h3
      · rename_i hc; obtain ⟨rfl⟩ := hc; exact sum_step ok73 extOk mixed ((lfOkF_no _ _).inner (by kernel_rfl)) ih h1 h2 h (e58l0 m _ _ _) rfl h3
      · exact noQ_ok _ _ _ h1 h2 h3
    · exact noQ_ok _ _ _ h1 h2 h3
noncomputable def Q58l0 : SumK := fun vals s => q58l0 (fuelOf vals s.h) vals s
theorem qok58l0 : SumKOk Try.prog (loopN Try.f58 0) 20 [0, 1, 5] [1] Q58l0 := fuel_ok qm58l0 fuelOf
noncomputable def L58_1 : LoopT := addL noL 3 ([0, 1, 5], []) (sumK 20 [0, 1, 5] [1] Q58l0)
theorem lok58_1 : LfOkF Try.prog L58_1 Try.f58 := lfOkF_add (lfOkF_no _ _) qok58l0 (by kernel_rfl) (by kernel_rfl) (by kernel_rfl)

/-- laws.markStringS -/
noncomputable def r58 (x0 : Int) (x1 : List ByteArray) : Nat × Int × List ByteArray :=
 cond (Nat.beq ((r58l0 (1000 + x1.length) x0 0 x1).1) 0)
  (0, ((r58l0 (1000 + x1.length) x0 0 x1).2.1), ((r58l0 (1000 + x1.length) x0 0 x1).2.2))
  (1, 0, [])
noncomputable def a58 (x0 : Int) (x1 : List ByteArray) (p : Nat × Int × List ByteArray) : Res := firstT [((Nat.beq (p.1) 0), .int .i64 (p.2.1), ⟨[⟨true, (some (.strs (p.2.2)))⟩], 1, [0]⟩)]
noncomputable def w58 (x0 : Int) (x1 : List ByteArray) : Res :=
 (cond (Nat.beq ((r58l0 (1000 + x1.length) x0 0 x1).1) 0)
 (a58 x0 x1 (0, ((r58l0 (1000 + x1.length) x0 0 x1).2.1), ((r58l0 (1000 + x1.length) x0 0 x1).2.2)))
 none)
set_option maxRecDepth 100000 in
set_option maxHeartbeats 4000000 in
theorem e58 (x0 : Int) (x1 : List ByteArray) : evFn Try.prog ext T73 L58_1 200 Try.f58 [wsl 0, .int .i64 x0] ⟨[⟨true, (some (.strs x1))⟩], 1, []⟩ = firstT [((Nat.beq ((r58 x0 x1).1) 0), .int .i64 ((r58 x0 x1).2.1), ⟨[⟨true, (some (.strs ((r58 x0 x1).2.2)))⟩], 1, [0]⟩)] :=
 (show evFn Try.prog ext T73 L58_1 200 Try.f58 [wsl 0, .int .i64 x0] ⟨[⟨true, (some (.strs x1))⟩], 1, []⟩ = w58 x0 x1 from by kernel_rfl).trans
 (show w58 x0 x1 = a58 x0 x1 (r58 x0 x1) from by unfold w58 r58; exact (cond_app (a58 x0 x1) _ rfl rfl))
noncomputable def s58 (args : List Value) (s : St) : List (Bool × Value × St) :=
 match args, s.h with
 | [.iface f0 .nilIface, .int .i64 x0], [⟨true, some (.strs x1)⟩] => if f0 = 0 then [((Nat.beq ((r58 x0 x1).1) 0), .int .i64 ((r58 x0 x1).2.1), ⟨[⟨true, (some (.strs ((r58 x0 x1).2.2)))⟩], 1, [0]⟩)] else T73 58 args s
 | _, _ => T73 58 args s
noncomputable def T74 : CallF := addF T73 58 s58
set_option maxRecDepth 100000 in
set_option maxHeartbeats 4000000 in
theorem ok74 : CfOk Try.prog T74 := by
  refine cfOk_add ok73 fun args s r s' h1 h2 h3 => ?_
  unfold s58 at h3; split at h3
  · rename_i h; split at h3
    · rename_i hc; obtain ⟨rfl⟩ := hc; exact callOk ok73 Try.func58 h1 h2 h lok58_1.body (e58 _ _) rfl h3
    · exact ok73 _ _ _ _ _ h1 h2 h3
  · exact ok73 _ _ _ _ _ h1 h2 h3

/-- laws.markOpS, loop 0: one round -/
noncomputable def b59l0 (ih : Int → Int → List (List Int) → (Nat × Int × List (List Int))) (x0 x1 : Int) (x2 : List (List Int)) : Nat × Int × List (List Int) :=
 cond (decide ((x1 : Int) < ((x2.length : Nat) : Int)))
  (cond ((decide ((0 : Int) ≤ x1)) && (Nat.blt (Int.toNat x1) x2.length))
   (cond ((decide ((0 : Int) ≤ x1)) && (Nat.blt (Int.toNat x1) ((x2.modify (Int.toNat x1) (fun r => spl 3 r 0 [(IntKind.i8.wrap x0)])).length)))
    (cond ((decide ((0 : Int) ≤ x1)) && (Nat.blt (Int.toNat x1) (((x2.modify (Int.toNat x1) (fun r => spl 3 r 0 [(IntKind.i8.wrap x0)])).modify (Int.toNat x1) (fun r => spl 3 r 1 [(IntKind.i16.wrap (IntKind.i64.wrap (x0 + 1)))])).length)))
     (ih (IntKind.i64.wrap ((IntKind.i64.wrap ((IntKind.i64.wrap (x0 + 1)) + 1)) + 1)) (IntKind.i64.wrap (x1 + 1)) (((x2.modify (Int.toNat x1) (fun r => spl 3 r 0 [(IntKind.i8.wrap x0)])).modify (Int.toNat x1) (fun r => spl 3 r 1 [(IntKind.i16.wrap (IntKind.i64.wrap (x0 + 1)))])).modify (Int.toNat x1) (fun r => spl 3 r 2 [(((ofInt .f32 (IntKind.i64.wrap ((IntKind.i64.wrap (x0 + 1)) + 1))) : Nat) : Int)])))
     (1, 0, []))
    (1, 0, []))
   (1, 0, []))
  (0, x0, x2)
noncomputable def r59l0 : Nat → Int → Int → List (List Int) → (Nat × Int × List (List Int))
 | 0 => fun _ _ _ => (1, 0, [])
 | m + 1 => b59l0 (r59l0 m)
noncomputable def a59l0 (x0 x1 : Int) (x2 : List (List Int)) (p : Nat × Int × List (List Int)) : Option (Fin' × List Value × St) := firstT ([((Nat.beq (p.1) 0), .exit 0, [.int .i64 (p.2.1)], ⟨[⟨true, (some (.tab [.int .i8, .int .i16, .fl .f32] (p.2.2)))⟩], 1, [0]⟩)].map fun (b, x) => (b, (x.1, frameOf 37 [1] x.2.1, x.2.2)))
noncomputable def u59l0 (x0 x1 : Int) (x2 : List (List Int)) (p : Nat × Int × List (List Int)) : Option (Fin' × List Value × St) := alts ([((Nat.beq (p.1) 0), .exit 0, [.int .i64 (p.2.1)], ⟨[⟨true, (some (.tab [.int .i8, .int .i16, .fl .f32] (p.2.2)))⟩], 1, [0]⟩)].map fun (b, x) => (b, (x.1, frameOf 37 [1] x.2.1, x.2.2))) some
theorem v59l0 (x0 x1 : Int) (x2 : List (List Int)) (p : Nat × Int × List (List Int)) : u59l0 x0 x1 x2 p = a59l0 x0 x1 x2 p := alts_first _
noncomputable def q59l0 (m : Nat) : SumK := fun vals s =>
 match vals, s.h with
 | [.iface f0 .nilIface, .int .i64 x0, .int .i64 x1], [⟨true, some (.tab [.int .i8, .int .i16, .fl .f32] x2)⟩] => if f0 = 0 then [((Nat.beq ((r59l0 m x0 x1 x2).1) 0), .exit 0, [.int .i64 ((r59l0 m x0 x1 x2).2.1)], ⟨[⟨true, (some (.tab [.int .i8, .int .i16, .fl .f32] ((r59l0 m x0 x1 x2).2.2)))⟩], 1, [0]⟩)] else noQ vals s
 | _, _ => noQ vals s
noncomputable def w59l0 (ih : Int → Int → List (List Int) → (Nat × Int × List (List Int))) (x0 x1 : Int) (x2 : List (List Int)) : Option (Fin' × List Value × St) :=
 (cond (decide ((x1 : Int) < ((x2.length : Nat) : Int)))
 (cond ((decide ((0 : Int) ≤ x1)) && (Nat.blt (Int.toNat x1) x2.length))
  (cond (Nat.blt (Int.toNat x1) x2.length)
   (cond ((decide ((0 : Int) ≤ x1)) && (Nat.blt (Int.toNat x1) ((x2.modify (Int.toNat x1) (fun r => spl 3 r 0 [(IntKind.i8.wrap x0)])).length)))
    (cond (Nat.blt (Int.toNat x1) ((x2.modify (Int.toNat x1) (fun r => spl 3 r 0 [(IntKind.i8.wrap x0)])).length))
     (cond ((decide ((0 : Int) ≤ x1)) && (Nat.blt (Int.toNat x1) (((x2.modify (Int.toNat x1) (fun r => spl 3 r 0 [(IntKind.i8.wrap x0)])).modify (Int.toNat x1) (fun r => spl 3 r 1 [(IntKind.i16.wrap (IntKind.i64.wrap (x0 + 1)))])).length)))
      (cond (Nat.blt (Int.toNat x1) (((x2.modify (Int.toNat x1) (fun r => spl 3 r 0 [(IntKind.i8.wrap x0)])).modify (Int.toNat x1) (fun r => spl 3 r 1 [(IntKind.i16.wrap (IntKind.i64.wrap (x0 + 1)))])).length))
       (u59l0 x0 x1 x2 (ih (IntKind.i64.wrap ((IntKind.i64.wrap ((IntKind.i64.wrap (x0 + 1)) + 1)) + 1)) (IntKind.i64.wrap (x1 + 1)) (((x2.modify (Int.toNat x1) (fun r => spl 3 r 0 [(IntKind.i8.wrap x0)])).modify (Int.toNat x1) (fun r => spl 3 r 1 [(IntKind.i16.wrap (IntKind.i64.wrap (x0 + 1)))])).modify (Int.toNat x1) (fun r => spl 3 r 2 [(((ofInt .f32 (IntKind.i64.wrap ((IntKind.i64.wrap (x0 + 1)) + 1))) : Nat) : Int)]))))
       none)
      none)
     none)
    none)
   none)
  none)
 (a59l0 x0 x1 x2 (0, x0, x2)))
set_option maxRecDepth 100000 in
set_option maxHeartbeats 4000000 in
theorem e59l0 (m : Nat) (x0 x1 : Int) (x2 : List (List Int)) : evC Try.prog ext T74 noL 200 (loopN Try.f59 0) (loopTail ([0, 1, 5], []) [1] [0] (sumK 37 [0, 1, 5] [1] (q59l0 m))) (frameOf 37 [0, 1, 5] [wsl 0, .int .i64 x0, .int .i64 x1]) ⟨[⟨true, (some (.tab [.int .i8, .int .i16, .fl .f32] x2))⟩], 1, []⟩ = firstT ([((Nat.beq ((r59l0 (m + 1) x0 x1 x2).1) 0), .exit 0, [.int .i64 ((r59l0 (m + 1) x0 x1 x2).2.1)], ⟨[⟨true, (some (.tab [.int .i8, .int .i16, .fl .f32] ((r59l0 (m + 1) x0 x1 x2).2.2)))⟩], 1, [0]⟩)].map fun (b, x) => (b, (x.1, frameOf 37 [1] x.2.1, x.2.2))) :=
 (show evC Try.prog ext T74 noL 200 (loopN Try.f59 0) (loopTail ([0, 1, 5], []) [1] [0] (sumK 37 [0, 1, 5] [1] (q59l0 m))) (frameOf 37 [0, 1, 5] [wsl 0, .int .i64 x0, .int .i64 x1]) ⟨[⟨true, (some (.tab [.int .i8, .int .i16, .fl .f32] x2))⟩], 1, []⟩ = w59l0 (r59l0 m) x0 x1 x2 from by kernel_rfl).trans
 (show w59l0 (r59l0 m) x0 x1 x2 = a59l0 x0 x1 x2 (r59l0 (m + 1) x0 x1 x2) from by unfold w59l0; show _ = a59l0 x0 x1 x2 (b59l0 (r59l0 m) x0 x1 x2); unfold b59l0; exact (cond_both (a59l0 x0 x1 x2) _ (fun h0 => (cond_both (a59l0 x0 x1 x2) _ (fun h1 => (cond_t (ev_and2 h1) (cond_both (a59l0 x0 x1 x2) _ (fun h2 => (cond_t (ev_and2 h2) (cond_both (a59l0 x0 x1 x2) _ (fun h3 => (cond_t (ev_and2 h3) (v59l0 x0 x1 x2 ((r59l0 m) (IntKind.i64.wrap ((IntKind.i64.wrap ((IntKind.i64.wrap (x0 + 1)) + 1)) + 1)) (IntKind.i64.wrap (x1 + 1)) (((x2.modify (Int.toNat x1) (fun r => spl 3 r 0 [(IntKind.i8.wrap x0)])).modify (Int.toNat x1) (fun r => spl 3 r 1 [(IntKind.i16.wrap (IntKind.i64.wrap (x0 + 1)))])).modify (Int.toNat x1) (fun r => spl 3 r 2 [(((ofInt .f32 (IntKind.i64.wrap ((IntKind.i64.wrap (x0 + 1)) + 1))) : Nat) : Int)])))))) (fun h3 => rfl)))) (fun h2 => rfl)))) (fun h1 => rfl))) (fun h0 => rfl)))
set_option maxRecDepth 100000 in
set_option maxHeartbeats 4000000 in
theorem qm59l0 : ∀ m, SumKOk Try.prog (loopN Try.f59 0) 37 [0, 1, 5] [1] (q59l0 m) := by
  intro m
  induction m with
  | zero =>
    intro vals s x h1 h2 h3
    unfold q59l0 at h3; split at h3
    · rename_i h; split at h3
      · rename_i hc; obtain ⟨rfl⟩ := hc; exact absurd h3 (by simp [r59l0, firstT, Nat.beq])
      · exact noQ_ok _ _ _ h1 h2 h3
    · exact noQ_ok _ _ _ h1 h2 h3
  | succ m ih =>
    intro vals s x h1 h2 h3
    unfold q59l0 at h3; split at h3
    · rename_i h; split at h3
      · rename_i hc; obtain ⟨rfl⟩ := hc; exact sum_step ok74 extOk mixed ((lfOkF_no _ _).inner (by kernel_rfl)) ih h1 h2 h (e59l0 m _ _ _) rfl h3
      · exact noQ_ok _ _ _ h1 h2 h3
    · exact noQ_ok _ _ _ h1 h2 h3
noncomputable def Q59l0 : SumK := fun vals s => q59l0 (fuelOf vals s.h) vals s
theorem qok59l0 : SumKOk Try.prog (loopN Try.f59 0) 37 [0, 1, 5] [1] Q59l0 := fuel_ok qm59l0 fuelOf
noncomputable def L59_1 : LoopT := addL noL 3 ([0, 1, 5], []) (sumK 37 [0, 1, 5] [1] Q59l0)
theorem lok59_1 : LfOkF Try.prog L59_1 Try.f59 := lfOkF_add (lfOkF_no _ _) qok59l0 (by kernel_rfl) (by kernel_rfl) (by kernel_rfl)

/-- laws.markOpS -/
noncomputable def r59 (x0 : Int) (x1 : List (List Int)) : Nat × Int × List (List Int) :=
 cond (Nat.beq ((r59l0 (1000 + x1.length) x0 0 x1).1) 0)
  (0, ((r59l0 (1000 + x1.length) x0 0 x1).2.1), ((r59l0 (1000 + x1.length) x0 0 x1).2.2))
  (1, 0, [])
noncomputable def a59 (x0 : Int) (x1 : List (List Int)) (p : Nat × Int × List (List Int)) : Res := firstT [((Nat.beq (p.1) 0), .int .i64 (p.2.1), ⟨[⟨true, (some (.tab [.int .i8, .int .i16, .fl .f32] (p.2.2)))⟩], 1, [0]⟩)]
noncomputable def w59 (x0 : Int) (x1 : List (List Int)) : Res :=
 (cond (Nat.beq ((r59l0 (1000 + x1.length) x0 0 x1).1) 0)
 (a59 x0 x1 (0, ((r59l0 (1000 + x1.length) x0 0 x1).2.1), ((r59l0 (1000 + x1.length) x0 0 x1).2.2)))
 none)
set_option maxRecDepth 100000 in
set_option maxHeartbeats 4000000 in
theorem e59 (x0 : Int) (x1 : List (List Int)) : evFn Try.prog ext T74 L59_1 200 Try.f59 [wsl 0, .int .i64 x0] ⟨[⟨true, (some (.tab [.int .i8, .int .i16, .fl .f32] x1))⟩], 1, []⟩ = firstT [((Nat.beq ((r59 x0 x1).1) 0), .int .i64 ((r59 x0 x1).2.1), ⟨[⟨true, (some (.tab [.int .i8, .int .i16, .fl .f32] ((r59 x0 x1).2.2)))⟩], 1, [0]⟩)] :=
 (show evFn Try.prog ext T74 L59_1 200 Try.f59 [wsl 0, .int .i64 x0] ⟨[⟨true, (some (.tab [.int .i8, .int .i16, .fl .f32] x1))⟩], 1, []⟩ = w59 x0 x1 from by kernel_rfl).trans
 (show w59 x0 x1 = a59 x0 x1 (r59 x0 x1) from by unfold w59 r59; exact (cond_app (a59 x0 x1) _ rfl rfl))
noncomputable def s59 (args : List Value) (s : St) : List (Bool × Value × St) :=
 match args, s.h with
 | [.iface f0 .nilIface, .int .i64 x0], [⟨true, some (.tab [.int .i8, .int .i16, .fl .f32] x1)⟩] => if f0 = 0 then [((Nat.beq ((r59 x0 x1).1) 0), .int .i64 ((r59 x0 x1).2.1), ⟨[⟨true, (some (.tab [.int .i8, .int .i16, .fl .f32] ((r59 x0 x1).2.2)))⟩], 1, [0]⟩)] else T74 59 args s
 | _, _ => T74 59 args s
noncomputable def T75 : CallF := addF T74 59 s59
set_option maxRecDepth 100000 in
set_option maxHeartbeats 4000000 in
theorem ok75 : CfOk Try.prog T75 := by
  refine cfOk_add ok74 fun args s r s' h1 h2 h3 => ?_
  unfold s59 at h3; split at h3
  · rename_i h; split at h3
    · rename_i hc; obtain ⟨rfl⟩ := hc; exact callOk ok74 Try.func59 h1 h2 h lok59_1.body (e59 _ _) rfl h3
    · exact ok74 _ _ _ _ _ h1 h2 h3
  · exact ok74 _ _ _ _ _ h1 h2 h3

/-- laws.markProgram -/
noncomputable def r24 (x0 : Int) (x1 : List ByteArray) (x2 : List (List Int)) : Nat × Int × List ByteArray × List (List Int) :=
 cond (Nat.beq ((r58 x0 x1).1) 0)
  (cond (Nat.beq ((r59 ((r58 x0 x1).2.1) x2).1) 0)
   (0, ((r59 ((r58 x0 x1).2.1) x2).2.1), ((r58 x0 x1).2.2), ((r59 ((r58 x0 x1).2.1) x2).2.2))
   (1, 0, [], []))
  (1, 0, [], [])
noncomputable def a24 (x0 : Int) (x1 : List ByteArray) (x2 : List (List Int)) (p : Nat × Int × List ByteArray × List (List Int)) : Res := firstT [((Nat.beq (p.1) 0), .int .i64 (p.2.1), ⟨[⟨true, (some (.strs (p.2.2.1)))⟩, ⟨true, (some (.tab [.int .i8, .int .i16, .fl .f32] (p.2.2.2)))⟩], 2, [0, 1]⟩)]
noncomputable def w24 (x0 : Int) (x1 : List ByteArray) (x2 : List (List Int)) : Res :=
 (cond (Nat.beq ((r58 x0 x1).1) 0)
 (cond (Nat.beq ((r59 ((r58 x0 x1).2.1) x2).1) 0)
  (a24 x0 x1 x2 (0, ((r59 ((r58 x0 x1).2.1) x2).2.1), ((r58 x0 x1).2.2), ((r59 ((r58 x0 x1).2.1) x2).2.2)))
  none)
 none)
set_option maxRecDepth 100000 in
set_option maxHeartbeats 4000000 in
theorem e24 (x0 : Int) (x1 : List ByteArray) (x2 : List (List Int)) : evFn Try.prog ext T75 noL 200 Try.f24 [.agg #[wsl 0, wsl 1], .int .i64 x0] ⟨[⟨true, (some (.strs x1))⟩, ⟨true, (some (.tab [.int .i8, .int .i16, .fl .f32] x2))⟩], 2, []⟩ = firstT [((Nat.beq ((r24 x0 x1 x2).1) 0), .int .i64 ((r24 x0 x1 x2).2.1), ⟨[⟨true, (some (.strs ((r24 x0 x1 x2).2.2.1)))⟩, ⟨true, (some (.tab [.int .i8, .int .i16, .fl .f32] ((r24 x0 x1 x2).2.2.2)))⟩], 2, [0, 1]⟩)] :=
 (show evFn Try.prog ext T75 noL 200 Try.f24 [.agg #[wsl 0, wsl 1], .int .i64 x0] ⟨[⟨true, (some (.strs x1))⟩, ⟨true, (some (.tab [.int .i8, .int .i16, .fl .f32] x2))⟩], 2, []⟩ = w24 x0 x1 x2 from by kernel_rfl).trans
 (show w24 x0 x1 x2 = a24 x0 x1 x2 (r24 x0 x1 x2) from by unfold w24 r24; exact (cond_app (a24 x0 x1 x2) _ (cond_app (a24 x0 x1 x2) _ rfl rfl) rfl))
noncomputable def s24 (args : List Value) (s : St) : List (Bool × Value × St) :=
 match args, s.h with
 | [.agg ⟨[.iface f0 .nilIface, .iface f1 .nilIface]⟩, .int .i64 x0], [⟨true, some (.strs x1)⟩, ⟨true, some (.tab [.int .i8, .int .i16, .fl .f32] x2)⟩] => if f0 = 0 ∧ f1 = 1 then [((Nat.beq ((r24 x0 x1 x2).1) 0), .int .i64 ((r24 x0 x1 x2).2.1), ⟨[⟨true, (some (.strs ((r24 x0 x1 x2).2.2.1)))⟩, ⟨true, (some (.tab [.int .i8, .int .i16, .fl .f32] ((r24 x0 x1 x2).2.2.2)))⟩], 2, [0, 1]⟩)] else T75 24 args s
 | _, _ => T75 24 args s
noncomputable def T76 : CallF := addF T75 24 s24
set_option maxRecDepth 100000 in
set_option maxHeartbeats 4000000 in
theorem ok76 : CfOk Try.prog T76 := by
  refine cfOk_add ok75 fun args s r s' h1 h2 h3 => ?_
  unfold s24 at h3; split at h3
  · rename_i h; split at h3
    · rename_i hc; obtain ⟨rfl, rfl⟩ := hc; exact callOk ok75 Try.func24 h1 h2 h (lfOkF_no _ _).body (e24 _ _ _) rfl h3
    · exact ok75 _ _ _ _ _ h1 h2 h3
  · exact ok75 _ _ _ _ _ h1 h2 h3

/-- laws.markSpanS, loop 0 -/
noncomputable def r34l0 (x0 : Int) : Unit :=
 ()
noncomputable def a34l0 (x0 : Int) (p : Unit) : Option (Fin' × List Value × St) := firstT ([(true, .exit 0, [.int .i64 x0], st0)].map fun (b, x) => (b, (x.1, frameOf 29 [1] x.2.1, x.2.2)))
noncomputable def w34l0 (x0 : Int) : Option (Fin' × List Value × St) :=
 (a34l0 x0 ())
set_option maxRecDepth 100000 in
set_option maxHeartbeats 4000000 in
theorem e34l0 (x0 : Int) : evC Try.prog ext T76 noL 200 (loopN Try.f34 0) (loopTail ([0, 1, 5], []) [1] [] (sumK 29 [0, 1, 5] [1] noQ)) (frameOf 29 [0, 1, 5] [.slice none 0 0, .int .i64 x0, .int .i64 0]) ⟨[], 0, []⟩ = firstT ([(true, .exit 0, [.int .i64 x0], st0)].map fun (b, x) => (b, (x.1, frameOf 29 [1] x.2.1, x.2.2))) :=
 (show evC Try.prog ext T76 noL 200 (loopN Try.f34 0) (loopTail ([0, 1, 5], []) [1] [] (sumK 29 [0, 1, 5] [1] noQ)) (frameOf 29 [0, 1, 5] [.slice none 0 0, .int .i64 x0, .int .i64 0]) ⟨[], 0, []⟩ = w34l0 x0 from by kernel_rfl).trans
 (show w34l0 x0 = a34l0 x0 (r34l0 x0) from by unfold w34l0 r34l0; exact rfl)
noncomputable def Q34l0 : SumK := fun vals s =>
 match vals, s.h with
 | [.slice none f0 f1, .int .i64 x0, .int .i64 f2], [] => if f0 = 0 ∧ f1 = 0 ∧ f2 = 0 then [(true, .exit 0, [.int .i64 x0], st0)] else noQ vals s
 | _, _ => noQ vals s
set_option maxRecDepth 100000 in
set_option maxHeartbeats 4000000 in
theorem qok34l0 : SumKOk Try.prog (loopN Try.f34 0) 29 [0, 1, 5] [1] Q34l0 := by
  intro vals s x h1 h2 h3
  unfold Q34l0 at h3; split at h3
  · rename_i h; split at h3
    · rename_i hc; obtain ⟨rfl, rfl, rfl⟩ := hc; exact sum_step ok76 extOk mixed ((lfOkF_no _ _).inner (by kernel_rfl)) noQ_ok h1 h2 h (e34l0 _) rfl h3
    · exact noQ_ok _ _ _ h1 h2 h3
  · exact noQ_ok _ _ _ h1 h2 h3
noncomputable def L34_1 : LoopT := addL noL 3 ([0, 1, 5], []) (sumK 29 [0, 1, 5] [1] Q34l0)
theorem lok34_1 : LfOkF Try.prog L34_1 Try.f34 := lfOkF_add (lfOkF_no _ _) qok34l0 (by kernel_rfl) (by kernel_rfl) (by kernel_rfl)

/-- laws.markSpanS -/
noncomputable def r34 (x0 : Int) : Unit :=
 ()
noncomputable def a34 (x0 : Int) (p : Unit) : Res := firstT [(true, .int .i64 x0, st0)]
noncomputable def w34 (x0 : Int) : Res :=
 (a34 x0 ())
set_option maxRecDepth 100000 in
set_option maxHeartbeats 4000000 in
theorem e34 (x0 : Int) : evFn Try.prog ext T76 L34_1 200 Try.f34 [.slice none 0 0, .int .i64 x0] st0 = firstT [(true, .int .i64 x0, st0)] :=
 (show evFn Try.prog ext T76 L34_1 200 Try.f34 [.slice none 0 0, .int .i64 x0] st0 = w34 x0 from by kernel_rfl).trans
 (show w34 x0 = a34 x0 (r34 x0) from by unfold w34 r34; exact rfl)
noncomputable def s34 (args : List Value) (s : St) : List (Bool × Value × St) :=
 match args, s.h with
 | [.slice none f0 f1, .int .i64 x0], [] => if f0 = 0 ∧ f1 = 0 then [(true, .int .i64 x0, st0)] else T76 34 args s
 | _, _ => T76 34 args s
noncomputable def T77 : CallF := addF T76 34 s34
set_option maxRecDepth 100000 in
set_option maxHeartbeats 4000000 in
theorem ok77 : CfOk Try.prog T77 := by
  refine cfOk_add ok76 fun args s r s' h1 h2 h3 => ?_
  unfold s34 at h3; split at h3
  · rename_i h; split at h3
    · rename_i hc; obtain ⟨rfl, rfl⟩ := hc; exact callOk ok76 Try.func34 h1 h2 h lok34_1.body (e34 _) rfl h3
    · exact ok76 _ _ _ _ _ h1 h2 h3
  · exact ok76 _ _ _ _ _ h1 h2 h3

/-- laws.heldSpanS, loop 0 -/
noncomputable def r35l0 (x0 : Int) : Unit :=
 ()
noncomputable def a35l0 (x0 : Int) (p : Unit) : Option (Fin' × List Value × St) := firstT ([(true, .exit 0, [.int .i64 x0, anyV], st0)].map fun (b, x) => (b, (x.1, frameOf 33 [1, 4] x.2.1, x.2.2)))
noncomputable def w35l0 (x0 : Int) : Option (Fin' × List Value × St) :=
 (a35l0 x0 ())
set_option maxRecDepth 100000 in
set_option maxHeartbeats 4000000 in
theorem e35l0 (x0 : Int) : evC Try.prog ext T77 noL 200 (loopN Try.f35 0) (loopTail ([0, 1, 5], []) [1, 4] [] (sumK 33 [0, 1, 5] [1, 4] noQ)) (frameOf 33 [0, 1, 5] [.slice none 0 0, .int .i64 x0, .int .i64 0]) ⟨[], 0, []⟩ = firstT ([(true, .exit 0, [.int .i64 x0, anyV], st0)].map fun (b, x) => (b, (x.1, frameOf 33 [1, 4] x.2.1, x.2.2))) :=
 (show evC Try.prog ext T77 noL 200 (loopN Try.f35 0) (loopTail ([0, 1, 5], []) [1, 4] [] (sumK 33 [0, 1, 5] [1, 4] noQ)) (frameOf 33 [0, 1, 5] [.slice none 0 0, .int .i64 x0, .int .i64 0]) ⟨[], 0, []⟩ = w35l0 x0 from by kernel_rfl).trans
 (show w35l0 x0 = a35l0 x0 (r35l0 x0) from by unfold w35l0 r35l0; exact rfl)
noncomputable def Q35l0 : SumK := fun vals s =>
 match vals, s.h with
 | [.slice none f0 f1, .int .i64 x0, .int .i64 f2], [] => if f0 = 0 ∧ f1 = 0 ∧ f2 = 0 then [(true, .exit 0, [.int .i64 x0, anyV], st0)] else noQ vals s
 | _, _ => noQ vals s
set_option maxRecDepth 100000 in
set_option maxHeartbeats 4000000 in
theorem qok35l0 : SumKOk Try.prog (loopN Try.f35 0) 33 [0, 1, 5] [1, 4] Q35l0 := by
  intro vals s x h1 h2 h3
  unfold Q35l0 at h3; split at h3
  · rename_i h; split at h3
    · rename_i hc; obtain ⟨rfl, rfl, rfl⟩ := hc; exact sum_step ok77 extOk mixed ((lfOkF_no _ _).inner (by kernel_rfl)) noQ_ok h1 h2 h (e35l0 _) rfl h3
    · exact noQ_ok _ _ _ h1 h2 h3
  · exact noQ_ok _ _ _ h1 h2 h3
noncomputable def L35_1 : LoopT := addL noL 3 ([0, 1, 5], []) (sumK 33 [0, 1, 5] [1, 4] Q35l0)
theorem lok35_1 : LfOkF Try.prog L35_1 Try.f35 := lfOkF_add (lfOkF_no _ _) qok35l0 (by kernel_rfl) (by kernel_rfl) (by kernel_rfl)

/-- laws.heldSpanS -/
noncomputable def r35 (x0 : Int) : Unit :=
 ()
noncomputable def a35 (x0 : Int) (p : Unit) : Res := firstT [(true, .int .i64 x0, st0)]
noncomputable def w35 (x0 : Int) : Res :=
 (a35 x0 ())
set_option maxRecDepth 100000 in
set_option maxHeartbeats 4000000 in
theorem e35 (x0 : Int) : evFn Try.prog ext T77 L35_1 200 Try.f35 [.slice none 0 0, .int .i64 x0] st0 = firstT [(true, .int .i64 x0, st0)] :=
 (show evFn Try.prog ext T77 L35_1 200 Try.f35 [.slice none 0 0, .int .i64 x0] st0 = w35 x0 from by kernel_rfl).trans
 (show w35 x0 = a35 x0 (r35 x0) from by unfold w35 r35; exact rfl)
noncomputable def s35 (args : List Value) (s : St) : List (Bool × Value × St) :=
 match args, s.h with
 | [.slice none f0 f1, .int .i64 x0], [] => if f0 = 0 ∧ f1 = 0 then [(true, .int .i64 x0, st0)] else T77 35 args s
 | _, _ => T77 35 args s
noncomputable def T78 : CallF := addF T77 35 s35
set_option maxRecDepth 100000 in
set_option maxHeartbeats 4000000 in
theorem ok78 : CfOk Try.prog T78 := by
  refine cfOk_add ok77 fun args s r s' h1 h2 h3 => ?_
  unfold s35 at h3; split at h3
  · rename_i h; split at h3
    · rename_i hc; obtain ⟨rfl, rfl⟩ := hc; exact callOk ok77 Try.func35 h1 h2 h lok35_1.body (e35 _) rfl h3
    · exact ok77 _ _ _ _ _ h1 h2 h3
  · exact ok77 _ _ _ _ _ h1 h2 h3

/-- laws.eqSpan -/
noncomputable def r38 (x0 x1 x2 x3 : Nat) : Bool :=
 cond (!(r20 (widen x0) (widen x2)))
  (false)
  (cond (!(r20 (widen x1) (widen x3)))
   (false)
   (true))
noncomputable def a38 (x0 x1 x2 x3 : Nat) (p : Bool) : Res := firstT [(true, .bool p, st0)]
noncomputable def w38 (x0 x1 x2 x3 : Nat) : Res :=
 (cond (!(r20 (widen x0) (widen x2)))
 (a38 x0 x1 x2 x3 (false))
 (cond (!(r20 (widen x1) (widen x3)))
  (a38 x0 x1 x2 x3 (false))
  (a38 x0 x1 x2 x3 (true))))
set_option maxRecDepth 100000 in
set_option maxHeartbeats 4000000 in
theorem e38 (x0 x1 x2 x3 : Nat) : evFn Try.prog ext T78 noL 200 Try.f38 [.agg #[.float .f32 x0, .float .f32 x1], .agg #[.float .f32 x2, .float .f32 x3]] st0 = firstT [(true, .bool (r38 x0 x1 x2 x3), st0)] :=
 (show evFn Try.prog ext T78 noL 200 Try.f38 [.agg #[.float .f32 x0, .float .f32 x1], .agg #[.float .f32 x2, .float .f32 x3]] st0 = w38 x0 x1 x2 x3 from by kernel_rfl).trans
 (show w38 x0 x1 x2 x3 = a38 x0 x1 x2 x3 (r38 x0 x1 x2 x3) from by unfold w38 r38; exact (cond_app (a38 x0 x1 x2 x3) _ rfl (cond_app (a38 x0 x1 x2 x3) _ rfl rfl)))
noncomputable def s38 (args : List Value) (s : St) : List (Bool × Value × St) :=
 match args, s.h with
 | [.agg ⟨[.float .f32 x0, .float .f32 x1]⟩, .agg ⟨[.float .f32 x2, .float .f32 x3]⟩], [] => [(true, .bool (r38 x0 x1 x2 x3), st0)]
 | _, _ => T78 38 args s
noncomputable def T79 : CallF := addF T78 38 s38
set_option maxRecDepth 100000 in
set_option maxHeartbeats 4000000 in
theorem ok79 : CfOk Try.prog T79 := by
  refine cfOk_add ok78 fun args s r s' h1 h2 h3 => ?_
  unfold s38 at h3; split at h3
  · rename_i h; exact callOk ok78 Try.func38 h1 h2 h (lfOkF_no _ _).body (e38 _ _ _ _) rfl h3
  · exact ok78 _ _ _ _ _ h1 h2 h3

/-- laws.eqSpanS, loop 0: one round -/
noncomputable def b33l0b (ih : Int → List (List Int) → List (List Int) → Nat) (x0 : Int) (x1 x2 : List (List Int)) : Nat :=
 let c211 := (r38 (Int.toNat ((x1.getD (Int.toNat x0) []).getD 0 0)) (Int.toNat ((x1.getD (Int.toNat x0) []).getD 1 0)) (Int.toNat ((x2.getD (Int.toNat x0) []).getD 0 0)) (Int.toNat ((x2.getD (Int.toNat x0) []).getD 1 0)))
 cond (decide ((x0 : Int) < ((x1.length : Nat) : Int)))
  (cond ((decide ((0 : Int) ≤ x0)) && (Nat.blt (Int.toNat x0) x1.length))
   (cond ((decide ((0 : Int) ≤ x0)) && (Nat.blt (Int.toNat x0) x2.length))
    (cond (!c211)
     (0)
     (ih (IntKind.i64.wrap (x0 + 1)) x1 x2))
    (2))
   (2))
  (1)
noncomputable def r33l0b : Nat → Int → List (List Int) → List (List Int) → Nat
 | 0 => fun _ _ _ => (2)
 | m + 1 => b33l0b (r33l0b m)
noncomputable def a33l0b (x0 : Int) (x1 x2 : List (List Int)) (p : Nat) : Option (Fin' × List Value × St) := firstT ([((Nat.beq p 0), .ret, [.bool false], ⟨[⟨true, (some (.tab [.fl .f32, .fl .f32] x1))⟩, ⟨true, (some (.tab [.fl .f32, .fl .f32] x2))⟩], 2, []⟩), ((Nat.beq p 1), .exit 0, [anyV], ⟨[⟨true, (some (.tab [.fl .f32, .fl .f32] x1))⟩, ⟨true, (some (.tab [.fl .f32, .fl .f32] x2))⟩], 2, []⟩)].map fun (b, x) => (b, (x.1, frameOf 27 [4] x.2.1, x.2.2)))
noncomputable def u33l0b (x0 : Int) (x1 x2 : List (List Int)) (p : Nat) : Option (Fin' × List Value × St) := alts ([((Nat.beq p 0), .ret, [.bool false], ⟨[⟨true, (some (.tab [.fl .f32, .fl .f32] x1))⟩, ⟨true, (some (.tab [.fl .f32, .fl .f32] x2))⟩], 2, []⟩), ((Nat.beq p 1), .exit 0, [anyV], ⟨[⟨true, (some (.tab [.fl .f32, .fl .f32] x1))⟩, ⟨true, (some (.tab [.fl .f32, .fl .f32] x2))⟩], 2, []⟩)].map fun (b, x) => (b, (x.1, frameOf 27 [4] x.2.1, x.2.2))) some
theorem v33l0b (x0 : Int) (x1 x2 : List (List Int)) (p : Nat) : u33l0b x0 x1 x2 p = a33l0b x0 x1 x2 p := alts_first _
noncomputable def q33l0b (m : Nat) : SumK := fun vals s =>
 match vals, s.h with
 | [.iface f0 .nilIface, .iface f1 .nilIface, .int .i64 x0], [⟨true, some (.tab [.fl .f32, .fl .f32] x1)⟩, ⟨true, some (.tab [.fl .f32, .fl .f32] x2)⟩] => if f0 = 0 ∧ f1 = 1 then [((Nat.beq (r33l0b m x0 x1 x2) 0), .ret, [.bool false], ⟨[⟨true, (some (.tab [.fl .f32, .fl .f32] x1))⟩, ⟨true, (some (.tab [.fl .f32, .fl .f32] x2))⟩], 2, []⟩), ((Nat.beq (r33l0b m x0 x1 x2) 1), .exit 0, [anyV], ⟨[⟨true, (some (.tab [.fl .f32, .fl .f32] x1))⟩, ⟨true, (some (.tab [.fl .f32, .fl .f32] x2))⟩], 2, []⟩)] else Q33l0 vals s
 | _, _ => Q33l0 vals s
noncomputable def w33l0b (ih : Int → List (List Int) → List (List Int) → Nat) (x0 : Int) (x1 x2 : List (List Int)) : Option (Fin' × List Value × St) :=
 let c211 := (r38 (Int.toNat ((x1.getD (Int.toNat x0) []).getD 0 0)) (Int.toNat ((x1.getD (Int.toNat x0) []).getD 1 0)) (Int.toNat ((x2.getD (Int.toNat x0) []).getD 0 0)) (Int.toNat ((x2.getD (Int.toNat x0) []).getD 1 0)))
 (cond (decide ((x0 : Int) < ((x1.length : Nat) : Int)))
 (cond ((decide ((0 : Int) ≤ x0)) && (Nat.blt (Int.toNat x0) x1.length))
  (cond (Nat.blt (Int.toNat x0) x1.length)
   (cond ((decide ((0 : Int) ≤ x0)) && (Nat.blt (Int.toNat x0) x2.length))
    (cond (Nat.blt (Int.toNat x0) x2.length)
     (cond (!c211)
      (a33l0b x0 x1 x2 (0))
      (u33l0b x0 x1 x2 (ih (IntKind.i64.wrap (x0 + 1)) x1 x2)))
     none)
    none)
   none)
  none)
 (a33l0b x0 x1 x2 (1)))
set_option maxRecDepth 100000 in
set_option maxHeartbeats 4000000 in
theorem e33l0b (m : Nat) (x0 : Int) (x1 x2 : List (List Int)) : evC Try.prog ext T79 L33_1 200 (loopN Try.f33 0) (loopTail ([0, 1, 5], []) [4] [] (sumK 27 [0, 1, 5] [4] (q33l0b m))) (frameOf 27 [0, 1, 5] [wsl 0, wsl 1, .int .i64 x0]) ⟨[⟨true, (some (.tab [.fl .f32, .fl .f32] x1))⟩, ⟨true, (some (.tab [.fl .f32, .fl .f32] x2))⟩], 2, []⟩ = firstT ([((Nat.beq (r33l0b (m + 1) x0 x1 x2) 0), .ret, [.bool false], ⟨[⟨true, (some (.tab [.fl .f32, .fl .f32] x1))⟩, ⟨true, (some (.tab [.fl .f32, .fl .f32] x2))⟩], 2, []⟩), ((Nat.beq (r33l0b (m + 1) x0 x1 x2) 1), .exit 0, [anyV], ⟨[⟨true, (some (.tab [.fl .f32, .fl .f32] x1))⟩, ⟨true, (some (.tab [.fl .f32, .fl .f32] x2))⟩], 2, []⟩)].map fun (b, x) => (b, (x.1, frameOf 27 [4] x.2.1, x.2.2))) :=
 (show evC Try.prog ext T79 L33_1 200 (loopN Try.f33 0) (loopTail ([0, 1, 5], []) [4] [] (sumK 27 [0, 1, 5] [4] (q33l0b m))) (frameOf 27 [0, 1, 5] [wsl 0, wsl 1, .int .i64 x0]) ⟨[⟨true, (some (.tab [.fl .f32, .fl .f32] x1))⟩, ⟨true, (some (.tab [.fl .f32, .fl .f32] x2))⟩], 2, []⟩ = w33l0b (r33l0b m) x0 x1 x2 from by kernel_rfl).trans
 (show w33l0b (r33l0b m) x0 x1 x2 = a33l0b x0 x1 x2 (r33l0b (m + 1) x0 x1 x2) from by unfold w33l0b; show _ = a33l0b x0 x1 x2 (b33l0b (r33l0b m) x0 x1 x2); unfold b33l0b; exact (cond_both (a33l0b x0 x1 x2) _ (fun h0 => (cond_both (a33l0b x0 x1 x2) _ (fun h1 => (cond_t (ev_and2 h1) (cond_both (a33l0b x0 x1 x2) _ (fun h2 => (cond_t (ev_and2 h2) (cond_app (a33l0b x0 x1 x2) _ rfl (v33l0b x0 x1 x2 ((r33l0b m) (IntKind.i64.wrap (x0 + 1)) x1 x2))))) (fun h2 => rfl)))) (fun h1 => rfl))) (fun h0 => rfl)))
set_option maxRecDepth 100000 in
set_option maxHeartbeats 4000000 in
theorem qm33l0b : ∀ m, SumKOk Try.prog (loopN Try.f33 0) 27 [0, 1, 5] [4] (q33l0b m) := by
  intro m
  induction m with
  | zero =>
    intro vals s x h1 h2 h3
    unfold q33l0b at h3; split at h3
    · rename_i h; split at h3
      · rename_i hc; obtain ⟨rfl, rfl⟩ := hc; exact absurd h3 (by simp [r33l0b, firstT, Nat.beq])
      · exact qok33l0 _ _ _ h1 h2 h3
    · exact qok33l0 _ _ _ h1 h2 h3
  | succ m ih =>
    intro vals s x h1 h2 h3
    unfold q33l0b at h3; split at h3
    · rename_i h; split at h3
      · rename_i hc; obtain ⟨rfl, rfl⟩ := hc; exact sum_step ok79 extOk mixed (lok33_1.inner (by kernel_rfl)) ih h1 h2 h (e33l0b m _ _ _) rfl h3
      · exact qok33l0 _ _ _ h1 h2 h3
    · exact qok33l0 _ _ _ h1 h2 h3
noncomputable def Q33l0b : SumK := fun vals s => q33l0b (fuelOf vals s.h) vals s
theorem qok33l0b : SumKOk Try.prog (loopN Try.f33 0) 27 [0, 1, 5] [4] Q33l0b := fuel_ok qm33l0b fuelOf
noncomputable def L33_2 : LoopT := addL L33_1 5 ([0, 1, 5], []) (sumK 27 [0, 1, 5] [4] Q33l0b)
theorem lok33_2 : LfOkF Try.prog L33_2 Try.f33 := lfOkF_add lok33_1 qok33l0b (by kernel_rfl) (by kernel_rfl) (by kernel_rfl)

/-- laws.eqSpanS -/
noncomputable def r33b (x0 x1 : List (List Int)) : Nat × Bool :=
 cond ((((x0.length : Nat) : Int) : Int) != ((x1.length : Nat) : Int))
  (0, false)
  (cond (Nat.beq (r33l0b (1000 + x1.length + x0.length) 0 x0 x1) 0)
   (0, false)
   (cond (Nat.beq (r33l0b (1000 + x1.length + x0.length) 0 x0 x1) 1)
    (0, true)
    (1, false)))
noncomputable def a33b (x0 x1 : List (List Int)) (p : Nat × Bool) : Res := firstT [((Nat.beq (p.1) 0), .bool (p.2), ⟨[⟨true, (some (.tab [.fl .f32, .fl .f32] x0))⟩, ⟨true, (some (.tab [.fl .f32, .fl .f32] x1))⟩], 2, []⟩)]
noncomputable def w33b (x0 x1 : List (List Int)) : Res :=
 (cond ((((x0.length : Nat) : Int) : Int) != ((x1.length : Nat) : Int))
 (a33b x0 x1 (0, false))
 (cond (Nat.beq (r33l0b (1000 + x1.length + x0.length) 0 x0 x1) 0)
  (a33b x0 x1 (0, false))
  (cond (Nat.beq (r33l0b (1000 + x1.length + x0.length) 0 x0 x1) 1)
   (a33b x0 x1 (0, true))
   none)))
set_option maxRecDepth 100000 in
set_option maxHeartbeats 4000000 in
theorem e33b (x0 x1 : List (List Int)) : evFn Try.prog ext T79 L33_2 200 Try.f33 [wsl 0, wsl 1] ⟨[⟨true, (some (.tab [.fl .f32, .fl .f32] x0))⟩, ⟨true, (some (.tab [.fl .f32, .fl .f32] x1))⟩], 2, []⟩ = firstT [((Nat.beq ((r33b x0 x1).1) 0), .bool ((r33b x0 x1).2), ⟨[⟨true, (some (.tab [.fl .f32, .fl .f32] x0))⟩, ⟨true, (some (.tab [.fl .f32, .fl .f32] x1))⟩], 2, []⟩)] :=
 (show evFn Try.prog ext T79 L33_2 200 Try.f33 [wsl 0, wsl 1] ⟨[⟨true, (some (.tab [.fl .f32, .fl .f32] x0))⟩, ⟨true, (some (.tab [.fl .f32, .fl .f32] x1))⟩], 2, []⟩ = w33b x0 x1 from by kernel_rfl).trans
 (show w33b x0 x1 = a33b x0 x1 (r33b x0 x1) from by unfold w33b r33b; exact (cond_app (a33b x0 x1) _ rfl (cond_app (a33b x0 x1) _ rfl (cond_app (a33b x0 x1) _ rfl rfl))))
noncomputable def s33b (args : List Value) (s : St) : List (Bool × Value × St) :=
 match args, s.h with
 | [.iface f0 .nilIface, .iface f1 .nilIface], [⟨true, some (.tab [.fl .f32, .fl .f32] x0)⟩, ⟨true, some (.tab [.fl .f32, .fl .f32] x1)⟩] => if f0 = 0 ∧ f1 = 1 then [((Nat.beq ((r33b x0 x1).1) 0), .bool ((r33b x0 x1).2), ⟨[⟨true, (some (.tab [.fl .f32, .fl .f32] x0))⟩, ⟨true, (some (.tab [.fl .f32, .fl .f32] x1))⟩], 2, []⟩)] else T79 33 args s
 | _, _ => T79 33 args s
noncomputable def T80 : CallF := addF T79 33 s33b
set_option maxRecDepth 100000 in
set_option maxHeartbeats 4000000 in
theorem ok80 : CfOk Try.prog T80 := by
  refine cfOk_add ok79 fun args s r s' h1 h2 h3 => ?_
  unfold s33b at h3; split at h3
  · rename_i h; split at h3
    · rename_i hc; obtain ⟨rfl, rfl⟩ := hc; exact callOk ok79 Try.func33 h1 h2 h lok33_2.body (e33b _ _) rfl h3
    · exact ok79 _ _ _ _ _ h1 h2 h3
  · exact ok79 _ _ _ _ _ h1 h2 h3

/-- laws.markSpanS, loop 0: one round -/
noncomputable def b34l0b (ih : Int → Int → List (List Int) → (Nat × Int × List (List Int))) (x0 x1 : Int) (x2 : List (List Int)) : Nat × Int × List (List Int) :=
 cond (decide ((x1 : Int) < ((x2.length : Nat) : Int)))
  (cond ((decide ((0 : Int) ≤ x1)) && (Nat.blt (Int.toNat x1) x2.length))
   (cond ((decide ((0 : Int) ≤ x1)) && (Nat.blt (Int.toNat x1) ((x2.modify (Int.toNat x1) (fun r => spl 2 r 0 [(((ofInt .f32 x0) : Nat) : Int)])).length)))
    (ih (IntKind.i64.wrap ((IntKind.i64.wrap (x0 + 1)) + 1)) (IntKind.i64.wrap (x1 + 1)) ((x2.modify (Int.toNat x1) (fun r => spl 2 r 0 [(((ofInt .f32 x0) : Nat) : Int)])).modify (Int.toNat x1) (fun r => spl 2 r 1 [(((ofInt .f32 (IntKind.i64.wrap (x0 + 1))) : Nat) : Int)])))
    (1, 0, []))
   (1, 0, []))
  (0, x0, x2)
noncomputable def r34l0b : Nat → Int → Int → List (List Int) → (Nat × Int × List (List Int))
 | 0 => fun _ _ _ => (1, 0, [])
 | m + 1 => b34l0b (r34l0b m)
noncomputable def a34l0b (x0 x1 : Int) (x2 : List (List Int)) (p : Nat × Int × List (List Int)) : Option (Fin' × List Value × St) := firstT ([((Nat.beq (p.1) 0), .exit 0, [.int .i64 (p.2.1)], ⟨[⟨true, (some (.tab [.fl .f32, .fl .f32] (p.2.2)))⟩], 1, [0]⟩)].map fun (b, x) => (b, (x.1, frameOf 29 [1] x.2.1, x.2.2)))
noncomputable def u34l0b (x0 x1 : Int) (x2 : List (List Int)) (p : Nat × Int × List (List Int)) : Option (Fin' × List Value × St) := alts ([((Nat.beq (p.1) 0), .exit 0, [.int .i64 (p.2.1)], ⟨[⟨true, (some (.tab [.fl .f32, .fl .f32] (p.2.2)))⟩], 1, [0]⟩)].map fun (b, x) => (b, (x.1, frameOf 29 [1] x.2.1, x.2.2))) some
theorem v34l0b (x0 x1 : Int) (x2 : List (List Int)) (p : Nat × Int × List (List Int)) : u34l0b x0 x1 x2 p = a34l0b x0 x1 x2 p := alts_first _
noncomputable def q34l0b (m : Nat) : SumK := fun vals s =>
 match vals, s.h with
 | [.iface f0 .nilIface, .int .i64 x0, .int .i64 x1], [⟨true, some (.tab [.fl .f32, .fl .f32] x2)⟩] => if f0 = 0 then [((Nat.beq ((r34l0b m x0 x1 x2).1) 0), .exit 0, [.int .i64 ((r34l0b m x0 x1 x2).2.1)], ⟨[⟨true, (some (.tab [.fl .f32, .fl .f32] ((r34l0b m x0 x1 x2).2.2)))⟩], 1, [0]⟩)] else Q34l0 vals s
 | _, _ => Q34l0 vals s
noncomputable def w34l0b (ih : Int → Int → List (List Int) → (Nat × Int × List (List Int))) (x0 x1 : Int) (x2 : List (List Int)) : Option (Fin' × List Value × St) :=
 (cond (decide ((x1 : Int) < ((x2.length : Nat) : Int)))
 (cond ((decide ((0 : Int) ≤ x1)) && (Nat.blt (Int.toNat x1) x2.length))
  (cond (Nat.blt (Int.toNat x1) x2.length)
   (cond ((decide ((0 : Int) ≤ x1)) && (Nat.blt (Int.toNat x1) ((x2.modify (Int.toNat x1) (fun r => spl 2 r 0 [(((ofInt .f32 x0) : Nat) : Int)])).length)))
    (cond (Nat.blt (Int.toNat x1) ((x2.modify (Int.toNat x1) (fun r => spl 2 r 0 [(((ofInt .f32 x0) : Nat) : Int)])).length))
     (u34l0b x0 x1 x2 (ih (IntKind.i64.wrap ((IntKind.i64.wrap (x0 + 1)) + 1)) (IntKind.i64.wrap (x1 + 1)) ((x2.modify (Int.toNat x1) (fun r => spl 2 r 0 [(((ofInt .f32 x0) : Nat) : Int)])).modify (Int.toNat x1) (fun r => spl 2 r 1 [(((ofInt .f32 (IntKind.i64.wrap (x0 + 1))) : Nat) : Int)]))))
     none)
    none)
   none)
  none)
 (a34l0b x0 x1 x2 (0, x0, x2)))
set_option maxRecDepth 100000 in
set_option maxHeartbeats 4000000 in
theorem e34l0b (m : Nat) (x0 x1 : Int) (x2 : List (List Int)) : evC Try.prog ext T80 L34_1 200 (loopN Try.f34 0) (loopTail ([0, 1, 5], []) [1] [0] (sumK 29 [0, 1, 5] [1] (q34l0b m))) (frameOf 29 [0, 1, 5] [wsl 0, .int .i64 x0, .int .i64 x1]) ⟨[⟨true, (some (.tab [.fl .f32, .fl .f32] x2))⟩], 1, []⟩ = firstT ([((Nat.beq ((r34l0b (m + 1) x0 x1 x2).1) 0), .exit 0, [.int .i64 ((r34l0b (m + 1) x0 x1 x2).2.1)], ⟨[⟨true, (some (.tab [.fl .f32, .fl .f32] ((r34l0b (m + 1) x0 x1 x2).2.2)))⟩], 1, [0]⟩)].map fun (b, x) => (b, (x.1, frameOf 29 [1] x.2.1, x.2.2))) :=
 (show evC Try.prog ext T80 L34_1 200 (loopN Try.f34 0) (loopTail ([0, 1, 5], []) [1] [0] (sumK 29 [0, 1, 5] [1] (q34l0b m))) (frameOf 29 [0, 1, 5] [wsl 0, .int .i64 x0, .int .i64 x1]) ⟨[⟨true, (some (.tab [.fl .f32, .fl .f32] x2))⟩], 1, []⟩ = w34l0b (r34l0b m) x0 x1 x2 from by kernel_rfl).trans
 (show w34l0b (r34l0b m) x0 x1 x2 = a34l0b x0 x1 x2 (r34l0b (m + 1) x0 x1 x2) from by unfold w34l0b; show _ = a34l0b x0 x1 x2 (b34l0b (r34l0b m) x0 x1 x2); unfold b34l0b; exact (cond_both (a34l0b x0 x1 x2) _ (fun h0 => (cond_both (a34l0b x0 x1 x2) _ (fun h1 => (cond_t (ev_and2 h1) (cond_both (a34l0b x0 x1 x2) _ (fun h2 => (cond_t (ev_and2 h2) (v34l0b x0 x1 x2 ((r34l0b m) (IntKind.i64.wrap ((IntKind.i64.wrap (x0 + 1)) + 1)) (IntKind.i64.wrap (x1 + 1)) ((x2.modify (Int.toNat x1) (fun r => spl 2 r 0 [(((ofInt .f32 x0) : Nat) : Int)])).modify (Int.toNat x1) (fun r => spl 2 r 1 [(((ofInt .f32 (IntKind.i64.wrap (x0 + 1))) : Nat) : Int)])))))) (fun h2 => rfl)))) (fun h1 => rfl))) (fun h0 => rfl)))
set_option maxRecDepth 100000 in
set_option maxHeartbeats 4000000 in
theorem qm34l0b : ∀ m, SumKOk Try.prog (loopN Try.f34 0) 29 [0, 1, 5] [1] (q34l0b m) := by
  intro m
  induction m with
  | zero =>
    intro vals s x h1 h2 h3
    unfold q34l0b at h3; split at h3
    · rename_i h; split at h3
      · rename_i hc; obtain ⟨rfl⟩ := hc; exact absurd h3 (by simp [r34l0b, firstT, Nat.beq])
      · exact qok34l0 _ _ _ h1 h2 h3
    · exact qok34l0 _ _ _ h1 h2 h3
  | succ m ih =>
    intro vals s x h1 h2 h3
    unfold q34l0b at h3; split at h3
    · rename_i h; split at h3
      · rename_i hc; obtain ⟨rfl⟩ := hc; exact sum_step ok80 extOk mixed (lok34_1.inner (by kernel_rfl)) ih h1 h2 h (e34l0b m _ _ _) rfl h3
      · exact qok34l0 _ _ _ h1 h2 h3
    · exact qok34l0 _ _ _ h1 h2 h3
noncomputable def Q34l0b : SumK := fun vals s => q34l0b (fuelOf vals s.h) vals s
theorem qok34l0b : SumKOk Try.prog (loopN Try.f34 0) 29 [0, 1, 5] [1] Q34l0b := fuel_ok qm34l0b fuelOf
noncomputable def L34_2 : LoopT := addL L34_1 3 ([0, 1, 5], []) (sumK 29 [0, 1, 5] [1] Q34l0b)
theorem lok34_2 : LfOkF Try.prog L34_2 Try.f34 := lfOkF_add lok34_1 qok34l0b (by kernel_rfl) (by kernel_rfl) (by kernel_rfl)

/-- laws.markSpanS -/
noncomputable def r34b (x0 : Int) (x1 : List (List Int)) : Nat × Int × List (List Int) :=
 cond (Nat.beq ((r34l0b (1000 + x1.length) x0 0 x1).1) 0)
  (0, ((r34l0b (1000 + x1.length) x0 0 x1).2.1), ((r34l0b (1000 + x1.length) x0 0 x1).2.2))
  (1, 0, [])
noncomputable def a34b (x0 : Int) (x1 : List (List Int)) (p : Nat × Int × List (List Int)) : Res := firstT [((Nat.beq (p.1) 0), .int .i64 (p.2.1), ⟨[⟨true, (some (.tab [.fl .f32, .fl .f32] (p.2.2)))⟩], 1, [0]⟩)]
noncomputable def w34b (x0 : Int) (x1 : List (List Int)) : Res :=
 (cond (Nat.beq ((r34l0b (1000 + x1.length) x0 0 x1).1) 0)
 (a34b x0 x1 (0, ((r34l0b (1000 + x1.length) x0 0 x1).2.1), ((r34l0b (1000 + x1.length) x0 0 x1).2.2)))
 none)
set_option maxRecDepth 100000 in
set_option maxHeartbeats 4000000 in
theorem e34b (x0 : Int) (x1 : List (List Int)) : evFn Try.prog ext T80 L34_2 200 Try.f34 [wsl 0, .int .i64 x0] ⟨[⟨true, (some (.tab [.fl .f32, .fl .f32] x1))⟩], 1, []⟩ = firstT [((Nat.beq ((r34b x0 x1).1) 0), .int .i64 ((r34b x0 x1).2.1), ⟨[⟨true, (some (.tab [.fl .f32, .fl .f32] ((r34b x0 x1).2.2)))⟩], 1, [0]⟩)] :=
 (show evFn Try.prog ext T80 L34_2 200 Try.f34 [wsl 0, .int .i64 x0] ⟨[⟨true, (some (.tab [.fl .f32, .fl .f32] x1))⟩], 1, []⟩ = w34b x0 x1 from by kernel_rfl).trans
 (show w34b x0 x1 = a34b x0 x1 (r34b x0 x1) from by unfold w34b r34b; exact (cond_app (a34b x0 x1) _ rfl rfl))
noncomputable def s34b (args : List Value) (s : St) : List (Bool × Value × St) :=
 match args, s.h with
 | [.iface f0 .nilIface, .int .i64 x0], [⟨true, some (.tab [.fl .f32, .fl .f32] x1)⟩] => if f0 = 0 then [((Nat.beq ((r34b x0 x1).1) 0), .int .i64 ((r34b x0 x1).2.1), ⟨[⟨true, (some (.tab [.fl .f32, .fl .f32] ((r34b x0 x1).2.2)))⟩], 1, [0]⟩)] else T80 34 args s
 | _, _ => T80 34 args s
noncomputable def T81 : CallF := addF T80 34 s34b
set_option maxRecDepth 100000 in
set_option maxHeartbeats 4000000 in
theorem ok81 : CfOk Try.prog T81 := by
  refine cfOk_add ok80 fun args s r s' h1 h2 h3 => ?_
  unfold s34b at h3; split at h3
  · rename_i h; split at h3
    · rename_i hc; obtain ⟨rfl⟩ := hc; exact callOk ok80 Try.func34 h1 h2 h lok34_2.body (e34b _ _) rfl h3
    · exact ok80 _ _ _ _ _ h1 h2 h3
  · exact ok80 _ _ _ _ _ h1 h2 h3

/-- laws.heldSpanS, loop 0: one round -/
noncomputable def b35l0b (ih : Int → Int → List (List Int) → (Nat × Int × Int)) (x0 x1 : Int) (x2 : List (List Int)) : Nat × Int × Int :=
 cond (decide ((x1 : Int) < ((x2.length : Nat) : Int)))
  (cond ((decide ((0 : Int) ≤ x1)) && (Nat.blt (Int.toNat x1) x2.length))
   (cond (!feq .f32 (Int.toNat ((x2.getD (Int.toNat x1) []).getD 0 0)) (ofInt .f32 x0))
    (0, x0, 0)
    (cond (!feq .f32 (Int.toNat ((x2.getD (Int.toNat x1) []).getD 1 0)) (ofInt .f32 (IntKind.i64.wrap (x0 + 1))))
     (0, (IntKind.i64.wrap (x0 + 1)), 0)
     (ih (IntKind.i64.wrap ((IntKind.i64.wrap (x0 + 1)) + 1)) (IntKind.i64.wrap (x1 + 1)) x2)))
   (2, 0, 0))
  (1, 0, x0)
noncomputable def r35l0b : Nat → Int → Int → List (List Int) → (Nat × Int × Int)
 | 0 => fun _ _ _ => (2, 0, 0)
 | m + 1 => b35l0b (r35l0b m)
noncomputable def a35l0b (x0 x1 : Int) (x2 : List (List Int)) (p : Nat × Int × Int) : Option (Fin' × List Value × St) := firstT ([((Nat.beq (p.1) 0), .ret, [.int .i64 (p.2.1), .int .i64 (-1)], ⟨[⟨true, (some (.tab [.fl .f32, .fl .f32] x2))⟩], 1, []⟩), ((Nat.beq (p.1) 1), .exit 0, [.int .i64 (p.2.2), anyV], ⟨[⟨true, (some (.tab [.fl .f32, .fl .f32] x2))⟩], 1, []⟩)].map fun (b, x) => (b, (x.1, frameOf 33 [1, 4] x.2.1, x.2.2)))
noncomputable def u35l0b (x0 x1 : Int) (x2 : List (List Int)) (p : Nat × Int × Int) : Option (Fin' × List Value × St) := alts ([((Nat.beq (p.1) 0), .ret, [.int .i64 (p.2.1), .int .i64 (-1)], ⟨[⟨true, (some (.tab [.fl .f32, .fl .f32] x2))⟩], 1, []⟩), ((Nat.beq (p.1) 1), .exit 0, [.int .i64 (p.2.2), anyV], ⟨[⟨true, (some (.tab [.fl .f32, .fl .f32] x2))⟩], 1, []⟩)].map fun (b, x) => (b, (x.1, frameOf 33 [1, 4] x.2.1, x.2.2))) some
theorem v35l0b (x0 x1 : Int) (x2 : List (List Int)) (p : Nat × Int × Int) : u35l0b x0 x1 x2 p = a35l0b x0 x1 x2 p := alts_first _
noncomputable def q35l0b (m : Nat) : SumK := fun vals s =>
 match vals, s.h with
 | [.iface f0 .nilIface, .int .i64 x0, .int .i64 x1], [⟨true, some (.tab [.fl .f32, .fl .f32] x2)⟩] => if f0 = 0 then [((Nat.beq ((r35l0b m x0 x1 x2).1) 0), .ret, [.int .i64 ((r35l0b m x0 x1 x2).2.1), .int .i64 (-1)], ⟨[⟨true, (some (.tab [.fl .f32, .fl .f32] x2))⟩], 1, []⟩), ((Nat.beq ((r35l0b m x0 x1 x2).1) 1), .exit 0, [.int .i64 ((r35l0b m x0 x1 x2).2.2), anyV], ⟨[⟨true, (some (.tab [.fl .f32, .fl .f32] x2))⟩], 1, []⟩)] else Q35l0 vals s
 | _, _ => Q35l0 vals s
noncomputable def w35l0b (ih : Int → Int → List (List Int) → (Nat × Int × Int)) (x0 x1 : Int) (x2 : List (List Int)) : Option (Fin' × List Value × St) :=
 (cond (decide ((x1 : Int) < ((x2.length : Nat) : Int)))
 (cond ((decide ((0 : Int) ≤ x1)) && (Nat.blt (Int.toNat x1) x2.length))
  (cond (Nat.blt (Int.toNat x1) x2.length)
   (cond (!feq .f32 (Int.toNat ((x2.getD (Int.toNat x1) []).getD 0 0)) (ofInt .f32 x0))
    (a35l0b x0 x1 x2 (0, x0, 0))
    (cond ((decide ((0 : Int) ≤ x1)) && (Nat.blt (Int.toNat x1) x2.length))
     (cond (Nat.blt (Int.toNat x1) x2.length)
      (cond (!feq .f32 (Int.toNat ((x2.getD (Int.toNat x1) []).getD 1 0)) (ofInt .f32 (IntKind.i64.wrap (x0 + 1))))
       (a35l0b x0 x1 x2 (0, (IntKind.i64.wrap (x0 + 1)), 0))
       (u35l0b x0 x1 x2 (ih (IntKind.i64.wrap ((IntKind.i64.wrap (x0 + 1)) + 1)) (IntKind.i64.wrap (x1 + 1)) x2)))
      none)
     none))
   none)
  none)
 (a35l0b x0 x1 x2 (1, 0, x0)))
set_option maxRecDepth 100000 in
set_option maxHeartbeats 4000000 in
theorem e35l0b (m : Nat) (x0 x1 : Int) (x2 : List (List Int)) : evC Try.prog ext T81 L35_1 200 (loopN Try.f35 0) (loopTail ([0, 1, 5], []) [1, 4] [] (sumK 33 [0, 1, 5] [1, 4] (q35l0b m))) (frameOf 33 [0, 1, 5] [wsl 0, .int .i64 x0, .int .i64 x1]) ⟨[⟨true, (some (.tab [.fl .f32, .fl .f32] x2))⟩], 1, []⟩ = firstT ([((Nat.beq ((r35l0b (m + 1) x0 x1 x2).1) 0), .ret, [.int .i64 ((r35l0b (m + 1) x0 x1 x2).2.1), .int .i64 (-1)], ⟨[⟨true, (some (.tab [.fl .f32, .fl .f32] x2))⟩], 1, []⟩), ((Nat.beq ((r35l0b (m + 1) x0 x1 x2).1) 1), .exit 0, [.int .i64 ((r35l0b (m + 1) x0 x1 x2).2.2), anyV], ⟨[⟨true, (some (.tab [.fl .f32, .fl .f32] x2))⟩], 1, []⟩)].map fun (b, x) => (b, (x.1, frameOf 33 [1, 4] x.2.1, x.2.2))) :=
 (show evC Try.prog ext T81 L35_1 200 (loopN Try.f35 0) (loopTail ([0, 1, 5], []) [1, 4] [] (sumK 33 [0, 1, 5] [1, 4] (q35l0b m))) (frameOf 33 [0, 1, 5] [wsl 0, .int .i64 x0, .int .i64 x1]) ⟨[⟨true, (some (.tab [.fl .f32, .fl .f32] x2))⟩], 1, []⟩ = w35l0b (r35l0b m) x0 x1 x2 from by kernel_rfl).trans
 (show w35l0b (r35l0b m) x0 x1 x2 = a35l0b x0 x1 x2 (r35l0b (m + 1) x0 x1 x2) from by unfold w35l0b; show _ = a35l0b x0 x1 x2 (b35l0b (r35l0b m) x0 x1 x2); unfold b35l0b; exact (cond_both (a35l0b x0 x1 x2) _ (fun h0 => (cond_both (a35l0b x0 x1 x2) _ (fun h1 => (cond_t (ev_and2 h1) (cond_both (a35l0b x0 x1 x2) _ (fun h2 => rfl) (fun h2 => (cond_t h1 (cond_t (ev_and2 h1) (cond_app (a35l0b x0 x1 x2) _ rfl (v35l0b x0 x1 x2 ((r35l0b m) (IntKind.i64.wrap ((IntKind.i64.wrap (x0 + 1)) + 1)) (IntKind.i64.wrap (x1 + 1)) x2))))))))) (fun h1 => rfl))) (fun h0 => rfl)))
set_option maxRecDepth 100000 in
set_option maxHeartbeats 4000000 in
theorem qm35l0b : ∀ m, SumKOk Try.prog (loopN Try.f35 0) 33 [0, 1, 5] [1, 4] (q35l0b m) := by
  intro m
  induction m with
  | zero =>
    intro vals s x h1 h2 h3
    unfold q35l0b at h3; split at h3
    · rename_i h; split at h3
      · rename_i hc; obtain ⟨rfl⟩ := hc; exact absurd h3 (by simp [r35l0b, firstT, Nat.beq])
      · exact qok35l0 _ _ _ h1 h2 h3
    · exact qok35l0 _ _ _ h1 h2 h3
  | succ m ih =>
    intro vals s x h1 h2 h3
    unfold q35l0b at h3; split at h3
    · rename_i h; split at h3
      · rename_i hc; obtain ⟨rfl⟩ := hc; exact sum_step ok81 extOk mixed (lok35_1.inner (by kernel_rfl)) ih h1 h2 h (e35l0b m _ _ _) rfl h3
      · exact qok35l0 _ _ _ h1 h2 h3
    · exact qok35l0 _ _ _ h1 h2 h3
noncomputable def Q35l0b : SumK := fun vals s => q35l0b (fuelOf vals s.h) vals s
theorem qok35l0b : SumKOk Try.prog (loopN Try.f35 0) 33 [0, 1, 5] [1, 4] Q35l0b := fuel_ok qm35l0b fuelOf
noncomputable def L35_2 : LoopT := addL L35_1 3 ([0, 1, 5], []) (sumK 33 [0, 1, 5] [1, 4] Q35l0b)
theorem lok35_2 : LfOkF Try.prog L35_2 Try.f35 := lfOkF_add lok35_1 qok35l0b (by kernel_rfl) (by kernel_rfl) (by kernel_rfl)

/-- laws.heldSpanS -/
noncomputable def r35b (x0 : Int) (x1 : List (List Int)) : Nat × Int :=
 cond (Nat.beq ((r35l0b (1000 + x1.length) x0 0 x1).1) 0)
  (0, (-1))
  (cond (Nat.beq ((r35l0b (1000 + x1.length) x0 0 x1).1) 1)
   (0, ((r35l0b (1000 + x1.length) x0 0 x1).2.2))
   (1, 0))
noncomputable def a35b (x0 : Int) (x1 : List (List Int)) (p : Nat × Int) : Res := firstT [((Nat.beq (p.1) 0), .int .i64 (p.2), ⟨[⟨true, (some (.tab [.fl .f32, .fl .f32] x1))⟩], 1, []⟩)]
noncomputable def w35b (x0 : Int) (x1 : List (List Int)) : Res :=
 (cond (Nat.beq ((r35l0b (1000 + x1.length) x0 0 x1).1) 0)
 (a35b x0 x1 (0, (-1)))
 (cond (Nat.beq ((r35l0b (1000 + x1.length) x0 0 x1).1) 1)
  (a35b x0 x1 (0, ((r35l0b (1000 + x1.length) x0 0 x1).2.2)))
  none))
set_option maxRecDepth 100000 in
set_option maxHeartbeats 4000000 in
theorem e35b (x0 : Int) (x1 : List (List Int)) : evFn Try.prog ext T81 L35_2 200 Try.f35 [wsl 0, .int .i64 x0] ⟨[⟨true, (some (.tab [.fl .f32, .fl .f32] x1))⟩], 1, []⟩ = firstT [((Nat.beq ((r35b x0 x1).1) 0), .int .i64 ((r35b x0 x1).2), ⟨[⟨true, (some (.tab [.fl .f32, .fl .f32] x1))⟩], 1, []⟩)] :=
 (show evFn Try.prog ext T81 L35_2 200 Try.f35 [wsl 0, .int .i64 x0] ⟨[⟨true, (some (.tab [.fl .f32, .fl .f32] x1))⟩], 1, []⟩ = w35b x0 x1 from by kernel_rfl).trans
 (show w35b x0 x1 = a35b x0 x1 (r35b x0 x1) from by unfold w35b r35b; exact (cond_app (a35b x0 x1) _ rfl (cond_app (a35b x0 x1) _ rfl rfl)))
noncomputable def s35b (args : List Value) (s : St) : List (Bool × Value × St) :=
 match args, s.h with
 | [.iface f0 .nilIface, .int .i64 x0], [⟨true, some (.tab [.fl .f32, .fl .f32] x1)⟩] => if f0 = 0 then [((Nat.beq ((r35b x0 x1).1) 0), .int .i64 ((r35b x0 x1).2), ⟨[⟨true, (some (.tab [.fl .f32, .fl .f32] x1))⟩], 1, []⟩)] else T81 35 args s
 | _, _ => T81 35 args s
noncomputable def T82 : CallF := addF T81 35 s35b
set_option maxRecDepth 100000 in
set_option maxHeartbeats 4000000 in
theorem ok82 : CfOk Try.prog T82 := by
  refine cfOk_add ok81 fun args s r s' h1 h2 h3 => ?_
  unfold s35b at h3; split at h3
  · rename_i h; split at h3
    · rename_i hc; obtain ⟨rfl⟩ := hc; exact callOk ok81 Try.func35 h1 h2 h lok35_2.body (e35b _ _) rfl h3
    · exact ok81 _ _ _ _ _ h1 h2 h3
  · exact ok81 _ _ _ _ _ h1 h2 h3

/-- laws.FnExactProveProgram -/
noncomputable def r8 (x0 x1 x2 x3 x4 x5 x6 x7 : Nat) (x8 : List ByteArray) (x9 : List (List Int)) : Nat × Bool :=
 let c212 := (r33b ((r32 x0 x1 x2 x3 x4 x5 x6 x7 ((r12 x8 x9).2.1) ((r12 x8 x9).2.2)).2.2) ((r31 x0 x1 x2 x3 x4 x5 x6 x7 ((r12 x8 x9).2.1) ((r12 x8 x9).2.2)).2.2))
 cond (Nat.beq ((r10 1048576 x8 x9).1) 0)
  (cond (decide ((((r10 1048576 x8 x9).2) : Int) < 0))
   (0, true)
   (cond (Nat.beq ((r12 x8 x9).1) 0)
    (cond (Nat.beq ((r31 x0 x1 x2 x3 x4 x5 x6 x7 ((r12 x8 x9).2.1) ((r12 x8 x9).2.2)).1) 0)
     (cond (Nat.beq ((r32 x0 x1 x2 x3 x4 x5 x6 x7 ((r12 x8 x9).2.1) ((r12 x8 x9).2.2)).1) 0)
      (cond (!(r33 ((r31 x0 x1 x2 x3 x4 x5 x6 x7 ((r12 x8 x9).2.1) ((r12 x8 x9).2.2)).2.2)))
       (0, false)
       (cond ((((r32 x0 x1 x2 x3 x4 x5 x6 x7 ((r12 x8 x9).2.1) ((r12 x8 x9).2.2)).2.1) : Int) != ((r31 x0 x1 x2 x3 x4 x5 x6 x7 ((r12 x8 x9).2.1) ((r12 x8 x9).2.2)).2.1))
        (0, false)
        (cond (Nat.beq ((r14 ((r12 x8 x9).2.1) ((r12 x8 x9).2.2) ((r12 x8 x9).2.1) ((r12 x8 x9).2.2)).1) 0)
         (cond (!((r14 ((r12 x8 x9).2.1) ((r12 x8 x9).2.2) ((r12 x8 x9).2.1) ((r12 x8 x9).2.2)).2))
          (0, false)
          (cond (Nat.beq ((r24 1 ((r12 x8 x9).2.1) ((r12 x8 x9).2.2)).1) 0)
           (cond (decide ((((r24 1 ((r12 x8 x9).2.1) ((r12 x8 x9).2.2)).2.1) : Int) < 0))
            (0, false)
            (0, true))
           (1, false)))
         (1, false))))
      (cond (Nat.beq ((r32 x0 x1 x2 x3 x4 x5 x6 x7 ((r12 x8 x9).2.1) ((r12 x8 x9).2.2)).1) 1)
       (cond (Nat.beq (c212.1) 0)
        (cond (!(c212.2))
         (0, false)
         (cond ((0 : Int) != ((r31 x0 x1 x2 x3 x4 x5 x6 x7 ((r12 x8 x9).2.1) ((r12 x8 x9).2.2)).2.1))
          (0, false)
          (cond (Nat.beq ((r14 ((r12 x8 x9).2.1) ((r12 x8 x9).2.2) ((r12 x8 x9).2.1) ((r12 x8 x9).2.2)).1) 0)
           (cond (!((r14 ((r12 x8 x9).2.1) ((r12 x8 x9).2.2) ((r12 x8 x9).2.1) ((r12 x8 x9).2.2)).2))
            (0, false)
            (cond (Nat.beq ((r24 1 ((r12 x8 x9).2.1) ((r12 x8 x9).2.2)).1) 0)
             (cond (decide ((((r24 1 ((r12 x8 x9).2.1) ((r12 x8 x9).2.2)).2.1) : Int) < 0))
              (0, false)
              (cond (Nat.beq ((r34b 1 ((r32 x0 x1 x2 x3 x4 x5 x6 x7 ((r12 x8 x9).2.1) ((r12 x8 x9).2.2)).2.2)).1) 0)
               (cond (Nat.beq ((r35b 1 ((r34b 1 ((r32 x0 x1 x2 x3 x4 x5 x6 x7 ((r12 x8 x9).2.1) ((r12 x8 x9).2.2)).2.2)).2.2)).1) 0)
                (cond (decide ((((r35b 1 ((r34b 1 ((r32 x0 x1 x2 x3 x4 x5 x6 x7 ((r12 x8 x9).2.1) ((r12 x8 x9).2.2)).2.2)).2.2)).2) : Int) < 0))
                 (0, false)
                 (cond ((((r35b 1 ((r34b 1 ((r32 x0 x1 x2 x3 x4 x5 x6 x7 ((r12 x8 x9).2.1) ((r12 x8 x9).2.2)).2.2)).2.2)).2) : Int) != ((r34b 1 ((r32 x0 x1 x2 x3 x4 x5 x6 x7 ((r12 x8 x9).2.1) ((r12 x8 x9).2.2)).2.2)).2.1))
                  (0, false)
                  (0, true)))
                (1, false))
               (1, false)))
             (1, false)))
           (1, false))))
        (1, false))
       (1, false)))
     (1, false))
    (1, false)))
  (1, false)
noncomputable def a8 (x0 x1 x2 x3 x4 x5 x6 x7 : Nat) (x8 : List ByteArray) (x9 : List (List Int)) (p : Nat × Bool) : Res := firstT [((Nat.beq (p.1) 0), .bool (p.2), ⟨[⟨false, (some (.strs x8))⟩, ⟨false, (some (.tab [.int .i8, .int .i16, .fl .f32] x9))⟩], 2, []⟩)]
noncomputable def w8 (x0 x1 x2 x3 x4 x5 x6 x7 : Nat) (x8 : List ByteArray) (x9 : List (List Int)) : Res :=
 let c212 := (r33b ((r32 x0 x1 x2 x3 x4 x5 x6 x7 ((r12 x8 x9).2.1) ((r12 x8 x9).2.2)).2.2) ((r31 x0 x1 x2 x3 x4 x5 x6 x7 ((r12 x8 x9).2.1) ((r12 x8 x9).2.2)).2.2))
 (cond (Nat.beq ((r10 1048576 x8 x9).1) 0)
 (cond (decide ((((r10 1048576 x8 x9).2) : Int) < 0))
  (a8 x0 x1 x2 x3 x4 x5 x6 x7 x8 x9 (0, true))
  (cond (Nat.beq ((r12 x8 x9).1) 0)
   (cond (Nat.beq ((r31 x0 x1 x2 x3 x4 x5 x6 x7 ((r12 x8 x9).2.1) ((r12 x8 x9).2.2)).1) 0)
    (cond (Nat.beq ((r12 x8 x9).1) 0)
     (cond (Nat.beq ((r32 x0 x1 x2 x3 x4 x5 x6 x7 ((r12 x8 x9).2.1) ((r12 x8 x9).2.2)).1) 0)
      (cond (!(r33 ((r31 x0 x1 x2 x3 x4 x5 x6 x7 ((r12 x8 x9).2.1) ((r12 x8 x9).2.2)).2.2)))
       (a8 x0 x1 x2 x3 x4 x5 x6 x7 x8 x9 (0, false))
       (cond ((((r32 x0 x1 x2 x3 x4 x5 x6 x7 ((r12 x8 x9).2.1) ((r12 x8 x9).2.2)).2.1) : Int) != ((r31 x0 x1 x2 x3 x4 x5 x6 x7 ((r12 x8 x9).2.1) ((r12 x8 x9).2.2)).2.1))
        (a8 x0 x1 x2 x3 x4 x5 x6 x7 x8 x9 (0, false))
        (cond (Nat.beq ((r12 x8 x9).1) 0)
         (cond (Nat.beq ((r14 ((r12 x8 x9).2.1) ((r12 x8 x9).2.2) ((r12 x8 x9).2.1) ((r12 x8 x9).2.2)).1) 0)
          (cond (!((r14 ((r12 x8 x9).2.1) ((r12 x8 x9).2.2) ((r12 x8 x9).2.1) ((r12 x8 x9).2.2)).2))
           (a8 x0 x1 x2 x3 x4 x5 x6 x7 x8 x9 (0, false))
           (cond (Nat.beq ((r24 1 ((r12 x8 x9).2.1) ((r12 x8 x9).2.2)).1) 0)
            (cond (decide ((((r24 1 ((r12 x8 x9).2.1) ((r12 x8 x9).2.2)).2.1) : Int) < 0))
             (a8 x0 x1 x2 x3 x4 x5 x6 x7 x8 x9 (0, false))
             (cond (!(r33 ((r31 x0 x1 x2 x3 x4 x5 x6 x7 ((r12 x8 x9).2.1) ((r12 x8 x9).2.2)).2.2)))
              (some (.bool false, ⟨[⟨false, (some (.strs x8))⟩, ⟨false, (some (.tab [.int .i8, .int .i16, .fl .f32] x9))⟩], 2, []⟩))
              (cond ((((r32 x0 x1 x2 x3 x4 x5 x6 x7 ((r12 x8 x9).2.1) ((r12 x8 x9).2.2)).2.1) : Int) != ((r31 x0 x1 x2 x3 x4 x5 x6 x7 ((r12 x8 x9).2.1) ((r12 x8 x9).2.2)).2.1))
               (some (.bool false, ⟨[⟨false, (some (.strs x8))⟩, ⟨false, (some (.tab [.int .i8, .int .i16, .fl .f32] x9))⟩], 2, []⟩))
               (cond (Nat.beq ((r12 x8 x9).1) 0)
                (cond (Nat.beq ((r32 x0 x1 x2 x3 x4 x5 x6 x7 ((r12 x8 x9).2.1) ((r12 x8 x9).2.2)).1) 0)
                 (cond (!(r33 ((r31 x0 x1 x2 x3 x4 x5 x6 x7 ((r12 x8 x9).2.1) ((r12 x8 x9).2.2)).2.2)))
                  (some (.bool false, ⟨[⟨false, (some (.strs x8))⟩, ⟨false, (some (.tab [.int .i8, .int .i16, .fl .f32] x9))⟩], 2, []⟩))
                  (cond ((((r32 x0 x1 x2 x3 x4 x5 x6 x7 ((r12 x8 x9).2.1) ((r12 x8 x9).2.2)).2.1) : Int) != ((r31 x0 x1 x2 x3 x4 x5 x6 x7 ((r12 x8 x9).2.1) ((r12 x8 x9).2.2)).2.1))
                   (some (.bool false, ⟨[⟨false, (some (.strs x8))⟩, ⟨false, (some (.tab [.int .i8, .int .i16, .fl .f32] x9))⟩], 2, []⟩))
                   (a8 x0 x1 x2 x3 x4 x5 x6 x7 x8 x9 (0, true))))
                 (cond (Nat.beq ((r32 x0 x1 x2 x3 x4 x5 x6 x7 ((r12 x8 x9).2.1) ((r12 x8 x9).2.2)).1) 1)
                  (cond (Nat.beq (c212.1) 0)
                   (cond (!(c212.2))
                    (some (.bool false, ⟨[⟨false, (some (.strs x8))⟩, ⟨false, (some (.tab [.int .i8, .int .i16, .fl .f32] x9))⟩], 2, []⟩))
                    (cond ((0 : Int) != ((r31 x0 x1 x2 x3 x4 x5 x6 x7 ((r12 x8 x9).2.1) ((r12 x8 x9).2.2)).2.1))
                     (some (.bool false, ⟨[⟨false, (some (.strs x8))⟩, ⟨false, (some (.tab [.int .i8, .int .i16, .fl .f32] x9))⟩], 2, []⟩))
                     (some (.bool true, ⟨[⟨false, (some (.strs x8))⟩, ⟨false, (some (.tab [.int .i8, .int .i16, .fl .f32] x9))⟩], 2, []⟩))))
                   none)
                  none))
                none))))
            none))
          none)
         none)))
      (cond (Nat.beq ((r32 x0 x1 x2 x3 x4 x5 x6 x7 ((r12 x8 x9).2.1) ((r12 x8 x9).2.2)).1) 1)
       (cond (Nat.beq (c212.1) 0)
        (cond (!(c212.2))
         (a8 x0 x1 x2 x3 x4 x5 x6 x7 x8 x9 (0, false))
         (cond ((0 : Int) != ((r31 x0 x1 x2 x3 x4 x5 x6 x7 ((r12 x8 x9).2.1) ((r12 x8 x9).2.2)).2.1))
          (a8 x0 x1 x2 x3 x4 x5 x6 x7 x8 x9 (0, false))
          (cond (Nat.beq ((r12 x8 x9).1) 0)
           (cond (Nat.beq ((r14 ((r12 x8 x9).2.1) ((r12 x8 x9).2.2) ((r12 x8 x9).2.1) ((r12 x8 x9).2.2)).1) 0)
            (cond (!((r14 ((r12 x8 x9).2.1) ((r12 x8 x9).2.2) ((r12 x8 x9).2.1) ((r12 x8 x9).2.2)).2))
             (a8 x0 x1 x2 x3 x4 x5 x6 x7 x8 x9 (0, false))
             (cond (Nat.beq ((r24 1 ((r12 x8 x9).2.1) ((r12 x8 x9).2.2)).1) 0)
              (cond (decide ((((r24 1 ((r12 x8 x9).2.1) ((r12 x8 x9).2.2)).2.1) : Int) < 0))
               (a8 x0 x1 x2 x3 x4 x5 x6 x7 x8 x9 (0, false))
               (cond (Nat.beq (c212.1) 0)
                (cond (!(c212.2))
                 (some (.bool false, ⟨[⟨false, (some (.strs x8))⟩, ⟨false, (some (.tab [.int .i8, .int .i16, .fl .f32] x9))⟩], 2, []⟩))
                 (cond ((0 : Int) != ((r31 x0 x1 x2 x3 x4 x5 x6 x7 ((r12 x8 x9).2.1) ((r12 x8 x9).2.2)).2.1))
                  (some (.bool false, ⟨[⟨false, (some (.strs x8))⟩, ⟨false, (some (.tab [.int .i8, .int .i16, .fl .f32] x9))⟩], 2, []⟩))
                  (cond (Nat.beq ((r34b 1 ((r32 x0 x1 x2 x3 x4 x5 x6 x7 ((r12 x8 x9).2.1) ((r12 x8 x9).2.2)).2.2)).1) 0)
                   (cond (Nat.beq ((r35b 1 ((r34b 1 ((r32 x0 x1 x2 x3 x4 x5 x6 x7 ((r12 x8 x9).2.1) ((r12 x8 x9).2.2)).2.2)).2.2)).1) 0)
                    (cond (decide ((((r35b 1 ((r34b 1 ((r32 x0 x1 x2 x3 x4 x5 x6 x7 ((r12 x8 x9).2.1) ((r12 x8 x9).2.2)).2.2)).2.2)).2) : Int) < 0))
                     (a8 x0 x1 x2 x3 x4 x5 x6 x7 x8 x9 (0, false))
                     (cond ((((r35b 1 ((r34b 1 ((r32 x0 x1 x2 x3 x4 x5 x6 x7 ((r12 x8 x9).2.1) ((r12 x8 x9).2.2)).2.2)).2.2)).2) : Int) != ((r34b 1 ((r32 x0 x1 x2 x3 x4 x5 x6 x7 ((r12 x8 x9).2.1) ((r12 x8 x9).2.2)).2.2)).2.1))
                      (a8 x0 x1 x2 x3 x4 x5 x6 x7 x8 x9 (0, false))
                      (cond (Nat.beq ((r12 x8 x9).1) 0)
                       (cond (Nat.beq ((r32 x0 x1 x2 x3 x4 x5 x6 x7 ((r12 x8 x9).2.1) ((r12 x8 x9).2.2)).1) 0)
                        (cond (!(r33 ((r31 x0 x1 x2 x3 x4 x5 x6 x7 ((r12 x8 x9).2.1) ((r12 x8 x9).2.2)).2.2)))
                         (some (.bool false, ⟨[⟨false, (some (.strs x8))⟩, ⟨false, (some (.tab [.int .i8, .int .i16, .fl .f32] x9))⟩], 2, []⟩))
                         (cond ((((r32 x0 x1 x2 x3 x4 x5 x6 x7 ((r12 x8 x9).2.1) ((r12 x8 x9).2.2)).2.1) : Int) != ((r31 x0 x1 x2 x3 x4 x5 x6 x7 ((r12 x8 x9).2.1) ((r12 x8 x9).2.2)).2.1))
                          (some (.bool false, ⟨[⟨false, (some (.strs x8))⟩, ⟨false, (some (.tab [.int .i8, .int .i16, .fl .f32] x9))⟩], 2, []⟩))
                          (cond (Nat.beq ((r35b 1 ((r34b 1 ((r32 x0 x1 x2 x3 x4 x5 x6 x7 ((r12 x8 x9).2.1) ((r12 x8 x9).2.2)).2.2)).2.2)).1) 0)
                           (cond (decide ((((r35b 1 ((r34b 1 ((r32 x0 x1 x2 x3 x4 x5 x6 x7 ((r12 x8 x9).2.1) ((r12 x8 x9).2.2)).2.2)).2.2)).2) : Int) < 0))
                            (some (.bool false, ⟨[⟨false, (some (.strs x8))⟩, ⟨false, (some (.tab [.int .i8, .int .i16, .fl .f32] x9))⟩], 2, []⟩))
                            (cond ((((r35b 1 ((r34b 1 ((r32 x0 x1 x2 x3 x4 x5 x6 x7 ((r12 x8 x9).2.1) ((r12 x8 x9).2.2)).2.2)).2.2)).2) : Int) != ((r34b 1 ((r32 x0 x1 x2 x3 x4 x5 x6 x7 ((r12 x8 x9).2.1) ((r12 x8 x9).2.2)).2.2)).2.1))
                             (some (.bool false, ⟨[⟨false, (some (.strs x8))⟩, ⟨false, (some (.tab [.int .i8, .int .i16, .fl .f32] x9))⟩], 2, []⟩))
                             (some (.bool true, ⟨[⟨false, (some (.strs x8))⟩, ⟨false, (some (.tab [.int .i8, .int .i16, .fl .f32] x9))⟩], 2, []⟩))))
                           none)))
                        (cond (Nat.beq ((r32 x0 x1 x2 x3 x4 x5 x6 x7 ((r12 x8 x9).2.1) ((r12 x8 x9).2.2)).1) 1)
                         (cond (Nat.beq (c212.1) 0)
                          (cond (!(c212.2))
                           (some (.bool false, ⟨[⟨false, (some (.strs x8))⟩, ⟨false, (some (.tab [.int .i8, .int .i16, .fl .f32] x9))⟩], 2, []⟩))
                           (cond ((0 : Int) != ((r31 x0 x1 x2 x3 x4 x5 x6 x7 ((r12 x8 x9).2.1) ((r12 x8 x9).2.2)).2.1))
                            (some (.bool false, ⟨[⟨false, (some (.strs x8))⟩, ⟨false, (some (.tab [.int .i8, .int .i16, .fl .f32] x9))⟩], 2, []⟩))
                            (cond (Nat.beq ((r35b 1 ((r34b 1 ((r32 x0 x1 x2 x3 x4 x5 x6 x7 ((r12 x8 x9).2.1) ((r12 x8 x9).2.2)).2.2)).2.2)).1) 0)
                             (cond (decide ((((r35b 1 ((r34b 1 ((r32 x0 x1 x2 x3 x4 x5 x6 x7 ((r12 x8 x9).2.1) ((r12 x8 x9).2.2)).2.2)).2.2)).2) : Int) < 0))
                              (some (.bool false, ⟨[⟨false, (some (.strs x8))⟩, ⟨false, (some (.tab [.int .i8, .int .i16, .fl .f32] x9))⟩], 2, []⟩))
                              (cond ((((r35b 1 ((r34b 1 ((r32 x0 x1 x2 x3 x4 x5 x6 x7 ((r12 x8 x9).2.1) ((r12 x8 x9).2.2)).2.2)).2.2)).2) : Int) != ((r34b 1 ((r32 x0 x1 x2 x3 x4 x5 x6 x7 ((r12 x8 x9).2.1) ((r12 x8 x9).2.2)).2.2)).2.1))
                               (some (.bool false, ⟨[⟨false, (some (.strs x8))⟩, ⟨false, (some (.tab [.int .i8, .int .i16, .fl .f32] x9))⟩], 2, []⟩))
                               (a8 x0 x1 x2 x3 x4 x5 x6 x7 x8 x9 (0, true))))
                             none)))
                          none)
                         none))
                       none)))
                    none)
                   none)))
                none))
              none))
            none)
           none)))
        none)
       none))
     none)
    none)
   none))
 none)
set_option maxRecDepth 100000 in
set_option maxHeartbeats 4000000 in
theorem e8 (x0 x1 x2 x3 x4 x5 x6 x7 : Nat) (x8 : List ByteArray) (x9 : List (List Int)) : evFn Try.prog ext T82 noL 200 Try.f8 [.agg #[wsl 0, wsl 1], .agg #[.float .f32 x0, .float .f32 x1, .float .f32 x2, .float .f32 x3, .float .f32 x4, .float .f32 x5, .float .f32 x6, .float .f32 x7]] ⟨[⟨false, (some (.strs x8))⟩, ⟨false, (some (.tab [.int .i8, .int .i16, .fl .f32] x9))⟩], 2, []⟩ = firstT [((Nat.beq ((r8 x0 x1 x2 x3 x4 x5 x6 x7 x8 x9).1) 0), .bool ((r8 x0 x1 x2 x3 x4 x5 x6 x7 x8 x9).2), ⟨[⟨false, (some (.strs x8))⟩, ⟨false, (some (.tab [.int .i8, .int .i16, .fl .f32] x9))⟩], 2, []⟩)] :=
 (show evFn Try.prog ext T82 noL 200 Try.f8 [.agg #[wsl 0, wsl 1], .agg #[.float .f32 x0, .float .f32 x1, .float .f32 x2, .float .f32 x3, .float .f32 x4, .float .f32 x5, .float .f32 x6, .float .f32 x7]] ⟨[⟨false, (some (.strs x8))⟩, ⟨false, (some (.tab [.int .i8, .int .i16, .fl .f32] x9))⟩], 2, []⟩ = w8 x0 x1 x2 x3 x4 x5 x6 x7 x8 x9 from by kernel_rfl).trans
 (show w8 x0 x1 x2 x3 x4 x5 x6 x7 x8 x9 = a8 x0 x1 x2 x3 x4 x5 x6 x7 x8 x9 (r8 x0 x1 x2 x3 x4 x5 x6 x7 x8 x9) from by unfold w8 r8; exact (cond_both (a8 x0 x1 x2 x3 x4 x5 x6 x7 x8 x9) _ (fun h0 => (cond_both (a8 x0 x1 x2 x3 x4 x5 x6 x7 x8 x9) _ (fun h1 => rfl) (fun h1 => (cond_both (a8 x0 x1 x2 x3 x4 x5 x6 x7 x8 x9) _ (fun h2 => (cond_both (a8 x0 x1 x2 x3 x4 x5 x6 x7 x8 x9) _ (fun h3 => (cond_t h2 (cond_both (a8 x0 x1 x2 x3 x4 x5 x6 x7 x8 x9) _ (fun h4 => (cond_both (a8 x0 x1 x2 x3 x4 x5 x6 x7 x8 x9) _ (fun h5 => rfl) (fun h5 => (cond_both (a8 x0 x1 x2 x3 x4 x5 x6 x7 x8 x9) _ (fun h6 => rfl) (fun h6 => (cond_t h2 (cond_both (a8 x0 x1 x2 x3 x4 x5 x6 x7 x8 x9) _ (fun h7 => (cond_both (a8 x0 x1 x2 x3 x4 x5 x6 x7 x8 x9) _ (fun h8 => rfl) (fun h8 => (cond_both (a8 x0 x1 x2 x3 x4 x5 x6 x7 x8 x9) _ (fun h9 => (cond_both (a8 x0 x1 x2 x3 x4 x5 x6 x7 x8 x9) _ (fun h10 => rfl) (fun h10 => (cond_f (ev_not0 (ev_notf h5)) (cond_f h6 (cond_t h2 (cond_t h4 (cond_f (ev_not0 (ev_notf h5)) (cond_f h6 rfl))))))))) (fun h9 => rfl))))) (fun h7 => rfl)))))))) (fun h4 => (cond_both (a8 x0 x1 x2 x3 x4 x5 x6 x7 x8 x9) _ (fun h5 => (cond_both (a8 x0 x1 x2 x3 x4 x5 x6 x7 x8 x9) _ (fun h6 => (cond_both (a8 x0 x1 x2 x3 x4 x5 x6 x7 x8 x9) _ (fun h7 => rfl) (fun h7 => (cond_both (a8 x0 x1 x2 x3 x4 x5 x6 x7 x8 x9) _ (fun h8 => rfl) (fun h8 => (cond_t h2 (cond_both (a8 x0 x1 x2 x3 x4 x5 x6 x7 x8 x9) _ (fun h9 => (cond_both (a8 x0 x1 x2 x3 x4 x5 x6 x7 x8 x9) _ (fun h10 => rfl) (fun h10 => (cond_both (a8 x0 x1 x2 x3 x4 x5 x6 x7 x8 x9) _ (fun h11 => (cond_both (a8 x0 x1 x2 x3 x4 x5 x6 x7 x8 x9) _ (fun h12 => rfl) (fun h12 => (cond_t h6 (cond_f (ev_not0 (ev_notf h7)) (cond_f h8 (cond_both (a8 x0 x1 x2 x3 x4 x5 x6 x7 x8 x9) _ (fun h13 => (cond_both (a8 x0 x1 x2 x3 x4 x5 x6 x7 x8 x9) _ (fun h14 => (cond_both (a8 x0 x1 x2 x3 x4 x5 x6 x7 x8 x9) _ (fun h15 => rfl) (fun h15 => (cond_both (a8 x0 x1 x2 x3 x4 x5 x6 x7 x8 x9) _ (fun h16 => rfl) (fun h16 => (cond_t h2 (cond_f h4 (cond_t h5 (cond_t h6 (cond_f (ev_not0 (ev_notf h7)) (cond_f h8 (cond_t h14 (cond_f h15 (cond_f h16 rfl)))))))))))))) (fun h14 => rfl))) (fun h13 => rfl)))))))) (fun h11 => rfl))))) (fun h9 => rfl)))))))) (fun h6 => rfl))) (fun h5 => rfl)))))) (fun h3 => rfl))) (fun h2 => rfl))))) (fun h0 => rfl)))
noncomputable def s8 (args : List Value) (s : St) : List (Bool × Value × St) :=
 match args, s.h with
 | [.agg ⟨[.iface f0 .nilIface, .iface f1 .nilIface]⟩, .agg ⟨[.float .f32 x0, .float .f32 x1, .float .f32 x2, .float .f32 x3, .float .f32 x4, .float .f32 x5, .float .f32 x6, .float .f32 x7]⟩], [⟨false, some (.strs x8)⟩, ⟨false, some (.tab [.int .i8, .int .i16, .fl .f32] x9)⟩] => if f0 = 0 ∧ f1 = 1 then [((Nat.beq ((r8 x0 x1 x2 x3 x4 x5 x6 x7 x8 x9).1) 0), .bool ((r8 x0 x1 x2 x3 x4 x5 x6 x7 x8 x9).2), ⟨[⟨false, (some (.strs x8))⟩, ⟨false, (some (.tab [.int .i8, .int .i16, .fl .f32] x9))⟩], 2, []⟩)] else T82 8 args s
 | _, _ => T82 8 args s
noncomputable def T83 : CallF := addF T82 8 s8
set_option maxRecDepth 100000 in
set_option maxHeartbeats 4000000 in
theorem ok83 : CfOk Try.prog T83 := by
  refine cfOk_add ok82 fun args s r s' h1 h2 h3 => ?_
  unfold s8 at h3; split at h3
  · rename_i h; split at h3
    · rename_i hc; obtain ⟨rfl, rfl⟩ := hc; exact callOk ok82 Try.func8 h1 h2 h (lfOkF_no _ _).body (e8 _ _ _ _ _ _ _ _ _ _) rfl h3
    · exact ok82 _ _ _ _ _ h1 h2 h3
  · exact ok82 _ _ _ _ _ h1 h2 h3
end Go.Proofs.Ytfclciebpnnieaa
