/- What the functions that the statements reach answer, part 4. -/
import Derived.Test.YtbmagccjcccnaaaGreatDoorRt3
namespace Go.Proofs.YtbmagccjcccnaaaGreatDoor
open Go.Ab
set_option maxHeartbeats 4000000
set_option maxRecDepth 100000

/-- impl.stoveText -/
noncomputable def w73 {α : Type} (x0 x1 : Nat) (x2 x3 : Int) (x4 : Nat) (x5 : List (List Int)) (k : (Nat × ByteArray) → α) : α :=
 let c292 := (r73l0 (1000 + x5.length + (((joinB ([(ByteArray.mk #[115, 116, 111, 118, 101]), ((r11 x0).2), ((r11 x1).2), ((r11 x4).2), ((r102 x2).2), (itoaB x3)] : List ByteArray) (ByteArray.mk #[32])) ++ (ByteArray.mk #[10])).size)) ((joinB ([(ByteArray.mk #[115, 116, 111, 118, 101]), ((r11 x0).2), ((r11 x1).2), ((r11 x4).2), ((r102 x2).2), (itoaB x3)] : List ByteArray) (ByteArray.mk #[32])) ++ (ByteArray.mk #[10])) ((x5.length : Nat) : Int) 0 x5)
 cond (Nat.beq ((r11 x0).1) 0) (cond (Nat.beq ((r11 x1).1) 0) (cond (Nat.beq ((r11 x4).1) 0) (cond (Nat.beq ((r102 x2).1) 0) (cond (decide ((-9223372036854775808 : Int) ≤ x3) && decide (x3 ≤ 9223372036854775807)) (cond (joinOk ([(ByteArray.mk #[115, 116, 111, 118, 101]), ((r11 x0).2), ((r11 x1).2), ((r11 x4).2), ((r102 x2).2), (itoaB x3)] : List ByteArray) (ByteArray.mk #[32])) (cond (decide ((joinB ([(ByteArray.mk #[115, 116, 111, 118, 101]), ((r11 x0).2), ((r11 x1).2), ((r11 x4).2), ((r102 x2).2), (itoaB x3)] : List ByteArray) (ByteArray.mk #[32])).size + 1 ≤ strMax)) (cond (Nat.beq (c292.1) 0) (k (0, (c292.2))) (k (1, ByteArray.empty))) (k (1, ByteArray.empty))) (k (1, ByteArray.empty))) (k (1, ByteArray.empty))) (k (1, ByteArray.empty))) (k (1, ByteArray.empty))) (k (1, ByteArray.empty))) (k (1, ByteArray.empty))
noncomputable def r73 (x0 x1 : Nat) (x2 x3 : Int) (x4 : Nat) (x5 : List (List Int)) : Nat × ByteArray := w73 x0 x1 x2 x3 x4 x5 (fun p => p)
noncomputable def g73 (x0 x1 : Nat) (x2 x3 : Int) (x4 : Nat) (x5 : List (List Int)) (p : Nat × ByteArray) : List (Bool × Value × St) := [((Nat.beq (p.1) 0), .string (p.2), ⟨[⟨true, (some (.tab sc0 x5))⟩], 1, []⟩)]
theorem p73 {α : Type} (x0 x1 : Nat) (x2 x3 : Int) (x4 : Nat) (x5 : List (List Int)) (f : (Nat × ByteArray) → α) : w73 x0 x1 x2 x3 x4 x5 f = f (w73 x0 x1 x2 x3 x4 x5 (fun p => p)) := by unfold w73; repeat' (first | refine cond_app f _ ?_ ?_ | rfl)
set_option maxRecDepth 100000 in
set_option maxHeartbeats 4000000 in
theorem e73 (x0 x1 : Nat) (x2 x3 : Int) (x4 : Nat) (x5 : List (List Int)) : evFn Tryz.prog ext T42 L73_1 200 Tryz.f73 [.agg #[wsl 0, vf x0, vf x1, .int .i8 x2, vi x3, vf x4]] ⟨[⟨true, (some (.tab sc0 x5))⟩], 1, []⟩ = firstT (g73 x0 x1 x2 x3 x4 x5 (r73 x0 x1 x2 x3 x4 x5)) :=
 Eq.trans (by kernel_rfl) (p73 x0 x1 x2 x3 x4 x5 (fun p => firstT (g73 x0 x1 x2 x3 x4 x5 p)))
noncomputable def s73 (args : List Value) (s : St) : List (Bool × Value × St) :=
 match args, s.h with
 | [.agg ⟨[.iface f0 .nilIface, .float .f32 x0, .float .f32 x1, .int .i8 x2, .int .i64 x3, .float .f32 x4]⟩], [⟨true, some (.tab [.fl .f32, .fl .f32, .fl .f32, .fl .f32, .fl .f32, .fl .f32, .fl .f32, .fl .f32, .fl .f32, .fl .f32, .fl .f32, .fl .f32, .fl .f32, .fl .f32, .fl .f32, .fl .f32, .fl .f32, .fl .f32] x5)⟩] => if f0 = 0 then (g73 x0 x1 x2 x3 x4 x5 (r73 x0 x1 x2 x3 x4 x5)) else T42 73 args s
 | _, _ => T42 73 args s
noncomputable def T43 : CallF := addF T42 73 s73
set_option maxRecDepth 100000 in
set_option maxHeartbeats 4000000 in
theorem ok43 : CfOk Tryz.prog T43 := by
  refine cfOk_add ok42 fun args s r s' h1 h2 h3 => ?_
  unfold s73 at h3; split at h3
  · rename_i h; split at h3
    · rename_i hc; obtain ⟨rfl⟩ := hc; exact callOk ok42 Tryz.func73 h1 h2 h lok73_1.body (e73 _ _ _ _ _ _) rfl h3
    · exact ok42 _ _ _ _ _ h1 h2 h3
  · exact ok42 _ _ _ _ _ h1 h2 h3

/-- impl.ValidStove, loop 0 -/
noncomputable def w72l0b {α : Type} (x0 x1 : Nat) (x2 x3 : Int) (x4 : Nat) (k : Unit → α) : α :=
 k ()
noncomputable def r72l0b (x0 x1 : Nat) (x2 x3 : Int) (x4 : Nat) : Unit := w72l0b x0 x1 x2 x3 x4 (fun p => p)
noncomputable def g72l0b (x0 x1 : Nat) (x2 x3 : Int) (x4 : Nat) (p : Unit) : List (Bool × (Fin' × List Value × St)) := [(true, .exit 0, [vp 0, anyV], ⟨[⟨true, (some (.cells [.slice none 0 0, vf x0, vf x1, .int .i8 x2, vi x3, vf x4]))⟩], 1, []⟩)]
theorem p72l0b {α : Type} (x0 x1 : Nat) (x2 x3 : Int) (x4 : Nat) (f : Unit → α) : w72l0b x0 x1 x2 x3 x4 f = f (w72l0b x0 x1 x2 x3 x4 (fun p => p)) := by unfold w72l0b; exact rfl
set_option maxRecDepth 100000 in
set_option maxHeartbeats 4000000 in
theorem e72l0b (x0 x1 : Nat) (x2 x3 : Int) (x4 : Nat) : evC Tryz.prog ext T43 L72_1 200 (loopN Tryz.f72 0) (loopTail ([1, 10, 11, 12], []) [1, 2] [] (sumK 58 [1, 10, 11, 12] [1, 2] Q72l0)) (frameOf 58 [1, 10, 11, 12] [vp 0, .slice none 0 0, vi 0, vi 0]) ⟨[⟨true, (some (.cells [.slice none 0 0, vf x0, vf x1, .int .i8 x2, vi x3, vf x4]))⟩], 1, []⟩ = firstT ((g72l0b x0 x1 x2 x3 x4 (r72l0b x0 x1 x2 x3 x4)).map fun (b, x) => (b, (x.1, frameOf 58 [1, 2] x.2.1, x.2.2))) :=
 Eq.trans (by kernel_rfl) (p72l0b x0 x1 x2 x3 x4 (fun p => firstT ((g72l0b x0 x1 x2 x3 x4 p).map fun (b, x) => (b, (x.1, frameOf 58 [1, 2] x.2.1, x.2.2)))))
noncomputable def Q72l0b : SumK := fun vals s =>
 match vals, s.h with
 | [.pointer (some ⟨f0, f1, some f2⟩), .slice none f3 f4, .int .i64 f5, .int .i64 f6], [⟨true, some (.cells [.slice none f7 f8, .float .f32 x0, .float .f32 x1, .int .i8 x2, .int .i64 x3, .float .f32 x4])⟩] => if f0 = 0 ∧ f1 = 0 ∧ f2 = 0 ∧ f3 = 0 ∧ f4 = 0 ∧ f5 = 0 ∧ f6 = 0 ∧ f7 = 0 ∧ f8 = 0 then (g72l0b x0 x1 x2 x3 x4 (r72l0b x0 x1 x2 x3 x4)) else Q72l0 vals s
 | _, _ => Q72l0 vals s
set_option maxRecDepth 100000 in
set_option maxHeartbeats 4000000 in
theorem qok72l0b : SumKOk Tryz.prog (loopN Tryz.f72 0) 58 [1, 10, 11, 12] [1, 2] Q72l0b := by
  intro vals s x h1 h2 h3
  unfold Q72l0b at h3; split at h3
  · rename_i h; split at h3
    · rename_i hc; obtain ⟨rfl, rfl, rfl, rfl, rfl, rfl, rfl, rfl, rfl⟩ := hc; exact sum_step ok43 extOk mixed (lok72_1.inner (by kernel_rfl)) qok72l0 h1 h2 h (e72l0b _ _ _ _ _) rfl h3
    · exact qok72l0 _ _ _ h1 h2 h3
  · exact qok72l0 _ _ _ h1 h2 h3
noncomputable def L72_2 : LoopT := addL L72_1 5 ([1, 10, 11, 12], []) (sumK 58 [1, 10, 11, 12] [1, 2] Q72l0b)
theorem lok72_2 : LfOkF Tryz.prog L72_2 Tryz.f72 := lfOkF_add lok72_1 qok72l0b (by kernel_rfl) (by kernel_rfl) (by kernel_rfl)

/-- impl.ValidStove -/
noncomputable def w72b {α : Type} (x0 x1 : Nat) (x2 x3 : Int) (x4 : Nat) (k : Bool → α) : α :=
 cond (r53 x0 3262119936 1153138688) (cond (r17 x1) (cond (decide ((x2 : Int) ≥ 0)) (cond (decide ((x2 : Int) ≤ 3)) (cond (decide ((x3 : Int) ≥ 0)) (cond (decide ((x3 : Int) ≤ 1000000)) (cond (r19 x4) (k ((flt .f32 x4 1065353216))) (k (false))) (k (false))) (k (false))) (k (false))) (k (false))) (k (false))) (k (false))
noncomputable def r72b (x0 x1 : Nat) (x2 x3 : Int) (x4 : Nat) : Bool := w72b x0 x1 x2 x3 x4 (fun p => p)
noncomputable def g72b (x0 x1 : Nat) (x2 x3 : Int) (x4 : Nat) (p : Bool) : List (Bool × Value × St) := [(true, .bool p, st0)]
theorem p72b {α : Type} (x0 x1 : Nat) (x2 x3 : Int) (x4 : Nat) (f : Bool → α) : w72b x0 x1 x2 x3 x4 f = f (w72b x0 x1 x2 x3 x4 (fun p => p)) := by unfold w72b; repeat' (first | refine cond_app f _ ?_ ?_ | rfl)
set_option maxRecDepth 100000 in
set_option maxHeartbeats 4000000 in
theorem e72b (x0 x1 : Nat) (x2 x3 : Int) (x4 : Nat) : evFn Tryz.prog ext T43 L72_2 200 Tryz.f72 [.agg #[.slice none 0 0, vf x0, vf x1, .int .i8 x2, vi x3, vf x4]] st0 = firstT (g72b x0 x1 x2 x3 x4 (r72b x0 x1 x2 x3 x4)) :=
 Eq.trans (by kernel_rfl) (p72b x0 x1 x2 x3 x4 (fun p => firstT (g72b x0 x1 x2 x3 x4 p)))
noncomputable def s72b (args : List Value) (s : St) : List (Bool × Value × St) :=
 match args, s.h with
 | [.agg ⟨[.slice none f0 f1, .float .f32 x0, .float .f32 x1, .int .i8 x2, .int .i64 x3, .float .f32 x4]⟩], [] => if f0 = 0 ∧ f1 = 0 then (g72b x0 x1 x2 x3 x4 (r72b x0 x1 x2 x3 x4)) else T43 72 args s
 | _, _ => T43 72 args s
noncomputable def T44 : CallF := addF T43 72 s72b
set_option maxRecDepth 100000 in
set_option maxHeartbeats 4000000 in
theorem ok44 : CfOk Tryz.prog T44 := by
  refine cfOk_add ok43 fun args s r s' h1 h2 h3 => ?_
  unfold s72b at h3; split at h3
  · rename_i h; split at h3
    · rename_i hc; obtain ⟨rfl, rfl⟩ := hc; exact callOk ok43 Tryz.func72 h1 h2 h lok72_2.body (e72b _ _ _ _ _) rfl h3
    · exact ok43 _ _ _ _ _ h1 h2 h3
  · exact ok43 _ _ _ _ _ h1 h2 h3

/-- impl.stoveText, loop 0 -/
noncomputable def w73l0b {α : Type} (x0 : ByteArray) (k : Unit → α) : α :=
 k ()
noncomputable def r73l0b (x0 : ByteArray) : Unit := w73l0b x0 (fun p => p)
noncomputable def g73l0b (x0 : ByteArray) (p : Unit) : List (Bool × (Fin' × List Value × St)) := [(true, .exit 0, [.string x0], st0)]
theorem p73l0b {α : Type} (x0 : ByteArray) (f : Unit → α) : w73l0b x0 f = f (w73l0b x0 (fun p => p)) := by unfold w73l0b; exact rfl
set_option maxRecDepth 100000 in
set_option maxHeartbeats 4000000 in
theorem e73l0b (x0 : ByteArray) : evC Tryz.prog ext T44 L73_1 200 (loopN Tryz.f73 0) (loopTail ([3, 25, 26, 27], []) [3] [] (sumK 38 [3, 25, 26, 27] [3] Q73l0)) (frameOf 38 [3, 25, 26, 27] [.string x0, .slice none 0 0, vi 0, vi 0]) ⟨[], 0, []⟩ = firstT ((g73l0b x0 (r73l0b x0)).map fun (b, x) => (b, (x.1, frameOf 38 [3] x.2.1, x.2.2))) :=
 Eq.trans (by kernel_rfl) (p73l0b x0 (fun p => firstT ((g73l0b x0 p).map fun (b, x) => (b, (x.1, frameOf 38 [3] x.2.1, x.2.2)))))
noncomputable def Q73l0b : SumK := fun vals s =>
 match vals, s.h with
 | [.string x0, .slice none f0 f1, .int .i64 f2, .int .i64 f3], [] => if f0 = 0 ∧ f1 = 0 ∧ f2 = 0 ∧ f3 = 0 then (g73l0b x0 (r73l0b x0)) else Q73l0 vals s
 | _, _ => Q73l0 vals s
set_option maxRecDepth 100000 in
set_option maxHeartbeats 4000000 in
theorem qok73l0b : SumKOk Tryz.prog (loopN Tryz.f73 0) 38 [3, 25, 26, 27] [3] Q73l0b := by
  intro vals s x h1 h2 h3
  unfold Q73l0b at h3; split at h3
  · rename_i h; split at h3
    · rename_i hc; obtain ⟨rfl, rfl, rfl, rfl⟩ := hc; exact sum_step ok44 extOk mixed (lok73_1.inner (by kernel_rfl)) qok73l0 h1 h2 h (e73l0b _) rfl h3
    · exact qok73l0 _ _ _ h1 h2 h3
  · exact qok73l0 _ _ _ h1 h2 h3
noncomputable def L73_2 : LoopT := addL L73_1 4 ([3, 25, 26, 27], []) (sumK 38 [3, 25, 26, 27] [3] Q73l0b)
theorem lok73_2 : LfOkF Tryz.prog L73_2 Tryz.f73 := lfOkF_add lok73_1 qok73l0b (by kernel_rfl) (by kernel_rfl) (by kernel_rfl)

/-- impl.stoveText -/
noncomputable def w73b {α : Type} (x0 x1 : Nat) (x2 x3 : Int) (x4 : Nat) (k : (Nat × ByteArray) → α) : α :=
 cond (Nat.beq ((r11 x0).1) 0) (cond (Nat.beq ((r11 x1).1) 0) (cond (Nat.beq ((r11 x4).1) 0) (cond (Nat.beq ((r102 x2).1) 0) (cond (decide ((-9223372036854775808 : Int) ≤ x3) && decide (x3 ≤ 9223372036854775807)) (cond (joinOk ([(ByteArray.mk #[115, 116, 111, 118, 101]), ((r11 x0).2), ((r11 x1).2), ((r11 x4).2), ((r102 x2).2), (itoaB x3)] : List ByteArray) (ByteArray.mk #[32])) (cond (decide ((joinB ([(ByteArray.mk #[115, 116, 111, 118, 101]), ((r11 x0).2), ((r11 x1).2), ((r11 x4).2), ((r102 x2).2), (itoaB x3)] : List ByteArray) (ByteArray.mk #[32])).size + 1 ≤ strMax)) (k (0, ((joinB ([(ByteArray.mk #[115, 116, 111, 118, 101]), ((r11 x0).2), ((r11 x1).2), ((r11 x4).2), ((r102 x2).2), (itoaB x3)] : List ByteArray) (ByteArray.mk #[32])) ++ (ByteArray.mk #[10])))) (k (1, ByteArray.empty))) (k (1, ByteArray.empty))) (k (1, ByteArray.empty))) (k (1, ByteArray.empty))) (k (1, ByteArray.empty))) (k (1, ByteArray.empty))) (k (1, ByteArray.empty))
noncomputable def r73b (x0 x1 : Nat) (x2 x3 : Int) (x4 : Nat) : Nat × ByteArray := w73b x0 x1 x2 x3 x4 (fun p => p)
noncomputable def g73b (x0 x1 : Nat) (x2 x3 : Int) (x4 : Nat) (p : Nat × ByteArray) : List (Bool × Value × St) := [((Nat.beq (p.1) 0), .string (p.2), st0)]
theorem p73b {α : Type} (x0 x1 : Nat) (x2 x3 : Int) (x4 : Nat) (f : (Nat × ByteArray) → α) : w73b x0 x1 x2 x3 x4 f = f (w73b x0 x1 x2 x3 x4 (fun p => p)) := by unfold w73b; repeat' (first | refine cond_app f _ ?_ ?_ | rfl)
set_option maxRecDepth 100000 in
set_option maxHeartbeats 4000000 in
theorem e73b (x0 x1 : Nat) (x2 x3 : Int) (x4 : Nat) : evFn Tryz.prog ext T44 L73_2 200 Tryz.f73 [.agg #[.slice none 0 0, vf x0, vf x1, .int .i8 x2, vi x3, vf x4]] st0 = firstT (g73b x0 x1 x2 x3 x4 (r73b x0 x1 x2 x3 x4)) :=
 Eq.trans (by kernel_rfl) (p73b x0 x1 x2 x3 x4 (fun p => firstT (g73b x0 x1 x2 x3 x4 p)))
noncomputable def s73b (args : List Value) (s : St) : List (Bool × Value × St) :=
 match args, s.h with
 | [.agg ⟨[.slice none f0 f1, .float .f32 x0, .float .f32 x1, .int .i8 x2, .int .i64 x3, .float .f32 x4]⟩], [] => if f0 = 0 ∧ f1 = 0 then (g73b x0 x1 x2 x3 x4 (r73b x0 x1 x2 x3 x4)) else T44 73 args s
 | _, _ => T44 73 args s
noncomputable def T45 : CallF := addF T44 73 s73b
set_option maxRecDepth 100000 in
set_option maxHeartbeats 4000000 in
theorem ok45 : CfOk Tryz.prog T45 := by
  refine cfOk_add ok44 fun args s r s' h1 h2 h3 => ?_
  unfold s73b at h3; split at h3
  · rename_i h; split at h3
    · rename_i hc; obtain ⟨rfl, rfl⟩ := hc; exact callOk ok44 Tryz.func73 h1 h2 h lok73_2.body (e73b _ _ _ _ _) rfl h3
    · exact ok44 _ _ _ _ _ h1 h2 h3
  · exact ok44 _ _ _ _ _ h1 h2 h3

/-- impl.ReadStove -/
noncomputable def w34 {α : Type} (x0 : ByteArray) (k : (Nat × Nat × Nat × Int × Int × Nat × Int × Nat × Nat × Int × Int × Nat × List (List Int)) → α) : α :=
 let c221 := (r41 (ByteArray.mk #[115, 116, 111, 118, 101]) 0 ((r40 (((r68 x0).2.2.2).getD 0 .empty)).2.1) false ((r40 (((r68 x0).2.2.2).getD 0 .empty)).2.2))
 let c223 := (r42 (c221.2.1) (c221.2.2.1) (c221.2.2.2) ((r40 (((r68 x0).2.2.2).getD 0 .empty)).2.2))
 let c224 := (r42 (c223.2.2.1) (c223.2.2.2.1) (c223.2.2.2.2) ((r40 (((r68 x0).2.2.2).getD 0 .empty)).2.2))
 let c225 := (r42 (c224.2.2.1) (c224.2.2.2.1) (c224.2.2.2.2) ((r40 (((r68 x0).2.2.2).getD 0 .empty)).2.2))
 let c226 := (r69 (c225.2.2.1) (c225.2.2.2.1) (c225.2.2.2.2) ((r40 (((r68 x0).2.2.2).getD 0 .empty)).2.2))
 let c227 := (r34l0 (1000 + ((r40 (((r68 x0).2.2.2).getD 0 .empty)).2.2).length + 4 + ((r68 x0).2.2.2).length + ((c226.2.1).size) + (x0.size)) x0 0 ((r68 x0).2.1) (c226.2.1) 0 0 0 0 ((r68 x0).2.2.2) (c226.2.2.1) (c226.2.2.2.1) (c226.2.2.2.2) (c223.2.1) (c224.2.1) 0 (c225.2.1) (ByteArray.mk #[99, 111, 108, 100]) (ByteArray.mk #[107, 105, 110, 100, 108, 101, 100]) (ByteArray.mk #[98, 117, 114, 110, 105, 110, 103]) (ByteArray.mk #[101, 109, 98, 101, 114, 115]) ((r40 (((r68 x0).2.2.2).getD 0 .empty)).2.2))
 let c228 := (r71 (c226.2.2.1) (c226.2.2.2.1) (c226.2.2.2.2) ((r40 (((r68 x0).2.2.2).getD 0 .empty)).2.2))
 let c229 := (r43 (c228.2.2.1) (c228.2.2.2.1) (c228.2.2.2.2) ((r40 (((r68 x0).2.2.2).getD 0 .empty)).2.2))
 let c255 := (r34l1b x0 1 (((r68 x0).2.1) - 1) (((((r68 x0).2.1) - 1) : Nat) : Int) 0 0 0 (c223.2.1) (c224.2.1) (c227.2) (c228.2.1) (c225.2.1) ((r68 x0).2.2.2))
 let c274 := (r72 (c223.2.1) (c224.2.1) (c227.2) (c228.2.1) (c225.2.1) (c255.2.2))
 let c293 := (r73 (c223.2.1) (c224.2.1) (c227.2) (c228.2.1) (c225.2.1) (c255.2.2))
 let c294 := (r72b (c223.2.1) (c224.2.1) (c227.2) (c228.2.1) (c225.2.1))
 let c296 := (r73b (c223.2.1) (c224.2.1) (c227.2) (c228.2.1) (c225.2.1))
 cond (Nat.beq ((r68 x0).1) 0) (k (0, 0, 0, 0, 0, 0, 5, 0, 0, 0, 0, 0, [])) (cond (Nat.beq ((r68 x0).1) 1) (cond (!((r68 x0).2.2.1)) (k (0, 0, 0, 0, 0, 0, 5, 0, 0, 0, 0, 0, [])) (cond (decide ((((((r68 x0).2.1) : Nat) : Int) : Int) < 1)) (k (0, 0, 0, 0, 0, 0, 5, 0, 0, 0, 0, 0, [])) (cond (decide ((((((r68 x0).2.1) : Nat) : Int) : Int) > 7)) (k (0, 0, 0, 0, 0, 0, 5, 0, 0, 0, 0, 0, [])) (cond (Nat.blt 0 ((r68 x0).2.1)) (cond (Nat.blt 0 (((r68 x0).2.2.2).length)) (cond (Nat.beq ((r40 (((r68 x0).2.2.2).getD 0 .empty)).1) 0) (cond (Nat.beq (c221.1) 0) (cond (Nat.beq (c223.1) 0) (cond (Nat.beq (c224.1) 0) (cond (Nat.beq (c225.1) 0) (cond (Nat.beq (c226.1) 0) (cond (Nat.beq (c227.1) 0) (cond (Nat.beq (c228.1) 0) (cond (!c229) (k (0, 0, 0, 0, 0, 0, 5, 0, 0, 0, 0, 0, [])) (cond ((Nat.ble 1 ((r68 x0).2.1)) && (Nat.ble ((r68 x0).2.1) ((r68 x0).2.1))) (cond (Nat.beq (c255.1) 0) (k (0, 0, 0, 0, 0, 0, 5, 0, 0, 0, 0, 0, [])) (cond (Nat.beq (c255.1) 1) (k (0, 0, 0, 0, 0, 0, 5, 0, 0, 0, 0, 0, [])) (cond (Nat.beq (c255.1) 2) (cond (Nat.beq (c274.1) 0) (cond (!(c274.2)) (k (0, 0, 0, 0, 0, 0, 5, 0, 0, 0, 0, 0, [])) (cond (Nat.beq (c293.1) 0) (cond (!((c293.2).toList == x0.toList)) (k (0, 0, 0, 0, 0, 0, 5, 0, 0, 0, 0, 0, [])) (k (1, 0, 0, 0, 0, 0, 0, (c223.2.1), (c224.2.1), (c227.2), (c228.2.1), (c225.2.1), (c255.2.2)))) (k (2, 0, 0, 0, 0, 0, 0, 0, 0, 0, 0, 0, [])))) (k (2, 0, 0, 0, 0, 0, 0, 0, 0, 0, 0, 0, []))) (cond (Nat.beq (c255.1) 3) (cond (!c294) (k (0, 0, 0, 0, 0, 0, 5, 0, 0, 0, 0, 0, [])) (cond (Nat.beq (c296.1) 0) (cond (!((c296.2).toList == x0.toList)) (k (0, 0, 0, 0, 0, 0, 5, 0, 0, 0, 0, 0, [])) (k (0, (c223.2.1), (c224.2.1), (c227.2), (c228.2.1), (c225.2.1), 0, 0, 0, 0, 0, 0, []))) (k (2, 0, 0, 0, 0, 0, 0, 0, 0, 0, 0, 0, [])))) (k (2, 0, 0, 0, 0, 0, 0, 0, 0, 0, 0, 0, [])))))) (k (2, 0, 0, 0, 0, 0, 0, 0, 0, 0, 0, 0, [])))) (k (2, 0, 0, 0, 0, 0, 0, 0, 0, 0, 0, 0, []))) (k (2, 0, 0, 0, 0, 0, 0, 0, 0, 0, 0, 0, []))) (k (2, 0, 0, 0, 0, 0, 0, 0, 0, 0, 0, 0, []))) (k (2, 0, 0, 0, 0, 0, 0, 0, 0, 0, 0, 0, []))) (k (2, 0, 0, 0, 0, 0, 0, 0, 0, 0, 0, 0, []))) (k (2, 0, 0, 0, 0, 0, 0, 0, 0, 0, 0, 0, []))) (k (2, 0, 0, 0, 0, 0, 0, 0, 0, 0, 0, 0, []))) (k (2, 0, 0, 0, 0, 0, 0, 0, 0, 0, 0, 0, []))) (k (2, 0, 0, 0, 0, 0, 0, 0, 0, 0, 0, 0, []))) (k (2, 0, 0, 0, 0, 0, 0, 0, 0, 0, 0, 0, [])))))) (k (2, 0, 0, 0, 0, 0, 0, 0, 0, 0, 0, 0, [])))
noncomputable def r34 (x0 : ByteArray) : Nat × Nat × Nat × Int × Int × Nat × Int × Nat × Nat × Int × Int × Nat × List (List Int) := w34 x0 (fun p => p)
noncomputable def g34 (x0 : ByteArray) (p : Nat × Nat × Nat × Int × Int × Nat × Int × Nat × Nat × Int × Int × Nat × List (List Int)) : List (Bool × Value × St) := [((Nat.beq (p.1) 0), .tuple #[.agg #[.slice none 0 0, vf (p.2.1), vf (p.2.2.1), .int .i8 (p.2.2.2.1), vi (p.2.2.2.2.1), vf (p.2.2.2.2.2.1)], vi (p.2.2.2.2.2.2.1)], st0), ((Nat.beq (p.1) 1), .tuple #[.agg #[wsl 0, vf (p.2.2.2.2.2.2.2.1), vf (p.2.2.2.2.2.2.2.2.1), .int .i8 (p.2.2.2.2.2.2.2.2.2.1), vi (p.2.2.2.2.2.2.2.2.2.2.1), vf (p.2.2.2.2.2.2.2.2.2.2.2.1)], vi 0], ⟨[⟨true, (some (.tab sc0 (p.2.2.2.2.2.2.2.2.2.2.2.2)))⟩], 0, []⟩)]
theorem p34 {α : Type} (x0 : ByteArray) (f : (Nat × Nat × Nat × Int × Int × Nat × Int × Nat × Nat × Int × Int × Nat × List (List Int)) → α) : w34 x0 f = f (w34 x0 (fun p => p)) := by unfold w34; repeat' (first | refine cond_app f _ ?_ ?_ | rfl)
set_option maxRecDepth 100000 in
set_option maxHeartbeats 4000000 in
theorem e34 (x0 : ByteArray) : evFn Tryz.prog ext T45 L34_3 200 Tryz.f34 [.string x0] st0 = firstT (g34 x0 (r34 x0)) :=
 Eq.trans (by kernel_rfl) (p34 x0 (fun p => firstT (g34 x0 p)))
noncomputable def s34 (args : List Value) (s : St) : List (Bool × Value × St) :=
 match args, s.h with
 | [.string x0], [] => (g34 x0 (r34 x0))
 | _, _ => T45 34 args s
noncomputable def T46 : CallF := addF T45 34 s34
set_option maxRecDepth 100000 in
set_option maxHeartbeats 4000000 in
theorem ok46 : CfOk Tryz.prog T46 := by
  refine cfOk_add ok45 fun args s r s' h1 h2 h3 => ?_
  unfold s34 at h3; split at h3
  · rename_i h; exact callOk ok45 Tryz.func34 h1 h2 h lok34_3.body (e34 _) rfl h3
  · exact ok45 _ _ _ _ _ h1 h2 h3

/-- laws.eqWoodS, loop 0 -/
noncomputable def w74l0 {α : Type} (k : Unit → α) : α :=
 k ()
noncomputable def r74l0 : Unit := w74l0 (fun p => p)
noncomputable def g74l0 (p : Unit) : List (Bool × (Fin' × List Value × St)) := [(true, .exit 0, [anyV], st0)]
theorem p74l0 {α : Type} (f : Unit → α) : w74l0 f = f (w74l0 (fun p => p)) := by unfold w74l0; exact rfl
set_option maxRecDepth 100000 in
set_option maxHeartbeats 4000000 in
theorem e74l0 : evC Tryz.prog ext T46 noL 200 (loopN Tryz.f74 0) (loopTail ([0, 1, 5], []) [4] [] (sumK 27 [0, 1, 5] [4] noQ)) (frameOf 27 [0, 1, 5] [.slice none 0 0, .slice none 0 0, vi 0]) ⟨[], 0, []⟩ = firstT ((g74l0 r74l0).map fun (b, x) => (b, (x.1, frameOf 27 [4] x.2.1, x.2.2))) :=
 Eq.trans (by kernel_rfl) (p74l0 (fun p => firstT ((g74l0 p).map fun (b, x) => (b, (x.1, frameOf 27 [4] x.2.1, x.2.2)))))
noncomputable def Q74l0 : SumK := fun vals s =>
 match vals, s.h with
 | [.slice none f0 f1, .slice none f2 f3, .int .i64 f4], [] => if f0 = 0 ∧ f1 = 0 ∧ f2 = 0 ∧ f3 = 0 ∧ f4 = 0 then (g74l0 r74l0) else noQ vals s
 | _, _ => noQ vals s
set_option maxRecDepth 100000 in
set_option maxHeartbeats 4000000 in
theorem qok74l0 : SumKOk Tryz.prog (loopN Tryz.f74 0) 27 [0, 1, 5] [4] Q74l0 := by
  intro vals s x h1 h2 h3
  unfold Q74l0 at h3; split at h3
  · rename_i h; split at h3
    · rename_i hc; obtain ⟨rfl, rfl, rfl, rfl, rfl⟩ := hc; exact sum_step ok46 extOk mixed ((lfOkF_no _ _).inner (by kernel_rfl)) noQ_ok h1 h2 h (e74l0) rfl h3
    · exact noQ_ok _ _ _ h1 h2 h3
  · exact noQ_ok _ _ _ h1 h2 h3
noncomputable def L74_1 : LoopT := addL noL 5 ([0, 1, 5], []) (sumK 27 [0, 1, 5] [4] Q74l0)
theorem lok74_1 : LfOkF Tryz.prog L74_1 Tryz.f74 := lfOkF_add (lfOkF_no _ _) qok74l0 (by kernel_rfl) (by kernel_rfl) (by kernel_rfl)

/-- laws.eqWoodS -/
noncomputable def w74 {α : Type} (k : Unit → α) : α :=
 k ()
noncomputable def r74 : Unit := w74 (fun p => p)
noncomputable def g74 (p : Unit) : List (Bool × Value × St) := [(true, .bool true, st0)]
theorem p74 {α : Type} (f : Unit → α) : w74 f = f (w74 (fun p => p)) := by unfold w74; exact rfl
set_option maxRecDepth 100000 in
set_option maxHeartbeats 4000000 in
theorem e74 : evFn Tryz.prog ext T46 L74_1 200 Tryz.f74 [.slice none 0 0, .slice none 0 0] st0 = firstT (g74 r74) :=
 Eq.trans (by kernel_rfl) (p74 (fun p => firstT (g74 p)))
noncomputable def s74 (args : List Value) (s : St) : List (Bool × Value × St) :=
 match args, s.h with
 | [.slice none f0 f1, .slice none f2 f3], [] => if f0 = 0 ∧ f1 = 0 ∧ f2 = 0 ∧ f3 = 0 then (g74 r74) else T46 74 args s
 | _, _ => T46 74 args s
noncomputable def T47 : CallF := addF T46 74 s74
set_option maxRecDepth 100000 in
set_option maxHeartbeats 4000000 in
theorem ok47 : CfOk Tryz.prog T47 := by
  refine cfOk_add ok46 fun args s r s' h1 h2 h3 => ?_
  unfold s74 at h3; split at h3
  · rename_i h; split at h3
    · rename_i hc; obtain ⟨rfl, rfl, rfl, rfl⟩ := hc; exact callOk ok46 Tryz.func74 h1 h2 h lok74_1.body (e74) rfl h3
    · exact ok46 _ _ _ _ _ h1 h2 h3
  · exact ok46 _ _ _ _ _ h1 h2 h3

/-- laws.sameFloat -/
noncomputable def r75 (x0 x1 : Nat) : Bool :=
 cond (!feq .f64 x0 x0) ((!feq .f64 x1 x1)) (cond (!feq .f64 x1 x1) (false) (cond (feq .f64 x0 0) (cond (feq .f64 x1 0) (((fgt .f64 (fdiv .f64 4607182418800017408 x0) 0) == (fgt .f64 (fdiv .f64 4607182418800017408 x1) 0))) ((feq .f64 x0 x1))) ((feq .f64 x0 x1))))
noncomputable def a75 (x0 x1 : Nat) (p : Bool) : Res := firstT [(true, .bool p, st0)]
noncomputable def w75 (x0 x1 : Nat) : Res :=
 (cond (!feq .f64 x0 x0)
 (cond (!feq .f64 x0 x0) (a75 x0 x1 ((!feq .f64 x1 x1))) (some (.bool false, st0)))
 (cond (!feq .f64 x1 x1) (cond (!feq .f64 x0 x0) (some (.bool (!feq .f64 x1 x1), st0)) (a75 x0 x1 (false))) (cond (feq .f64 x0 0) (cond (feq .f64 x1 0) (a75 x0 x1 (((fgt .f64 (fdiv .f64 4607182418800017408 x0) 0) == (fgt .f64 (fdiv .f64 4607182418800017408 x1) 0)))) (a75 x0 x1 ((feq .f64 x0 x1)))) (a75 x0 x1 ((feq .f64 x0 x1))))))
set_option maxRecDepth 100000 in
set_option maxHeartbeats 4000000 in
theorem e75 (x0 x1 : Nat) : evFn Tryz.prog ext T47 noL 200 Tryz.f75 [.float .f64 x0, .float .f64 x1] st0 = firstT [(true, .bool (r75 x0 x1), st0)] :=
 (show _ = w75 x0 x1 from by kernel_rfl).trans
 (show w75 x0 x1 = a75 x0 x1 (r75 x0 x1) from by unfold w75 r75; exact (cond_both (a75 x0 x1) _ (fun h0 => (cond_t (ev_not1 (ev_nott h0)) rfl)) (fun h0 => (cond_both (a75 x0 x1) _ (fun h1 => (cond_f (ev_not0 (ev_notf h0)) rfl)) (fun h1 => (cond_app (a75 x0 x1) _ (cond_app (a75 x0 x1) _ rfl rfl) rfl))))))
noncomputable def s75 (args : List Value) (s : St) : List (Bool × Value × St) :=
 match args, s.h with
 | [.float .f64 x0, .float .f64 x1], [] => [(true, .bool (r75 x0 x1), st0)]
 | _, _ => T47 75 args s
noncomputable def T48 : CallF := addF T47 75 s75
set_option maxRecDepth 100000 in
set_option maxHeartbeats 4000000 in
theorem ok48 : CfOk Tryz.prog T48 := by
  refine cfOk_add ok47 fun args s r s' h1 h2 h3 => ?_
  unfold s75 at h3; split at h3
  · rename_i h; exact callOk ok47 Tryz.func75 h1 h2 h (lfOkF_no _ _).body (e75 _ _) rfl h3
  · exact ok47 _ _ _ _ _ h1 h2 h3

/-- laws.eqStove -/
noncomputable def w35 {α : Type} (x0 x1 : Nat) (x2 x3 : Int) (x4 x5 x6 : Nat) (x7 x8 : Int) (x9 : Nat) (k : Bool → α) : α :=
 cond (!(r75 (widen x0) (widen x5))) (k (false)) (cond (!(r75 (widen x1) (widen x6))) (k (false)) (cond ((x2 : Int) != x7) (k (false)) (cond ((x3 : Int) != x8) (k (false)) (cond (!(r75 (widen x4) (widen x9))) (k (false)) (k (true))))))
noncomputable def r35 (x0 x1 : Nat) (x2 x3 : Int) (x4 x5 x6 : Nat) (x7 x8 : Int) (x9 : Nat) : Bool := w35 x0 x1 x2 x3 x4 x5 x6 x7 x8 x9 (fun p => p)
noncomputable def g35 (x0 x1 : Nat) (x2 x3 : Int) (x4 x5 x6 : Nat) (x7 x8 : Int) (x9 : Nat) (p : Bool) : List (Bool × Value × St) := [(true, .bool p, st0)]
theorem p35 {α : Type} (x0 x1 : Nat) (x2 x3 : Int) (x4 x5 x6 : Nat) (x7 x8 : Int) (x9 : Nat) (f : Bool → α) : w35 x0 x1 x2 x3 x4 x5 x6 x7 x8 x9 f = f (w35 x0 x1 x2 x3 x4 x5 x6 x7 x8 x9 (fun p => p)) := by unfold w35; repeat' (first | refine cond_app f _ ?_ ?_ | rfl)
set_option maxRecDepth 100000 in
set_option maxHeartbeats 4000000 in
theorem e35 (x0 x1 : Nat) (x2 x3 : Int) (x4 x5 x6 : Nat) (x7 x8 : Int) (x9 : Nat) : evFn Tryz.prog ext T48 noL 200 Tryz.f35 [.agg #[.slice none 0 0, vf x0, vf x1, .int .i8 x2, vi x3, vf x4], .agg #[.slice none 0 0, vf x5, vf x6, .int .i8 x7, vi x8, vf x9]] st0 = firstT (g35 x0 x1 x2 x3 x4 x5 x6 x7 x8 x9 (r35 x0 x1 x2 x3 x4 x5 x6 x7 x8 x9)) :=
 Eq.trans (by kernel_rfl) (p35 x0 x1 x2 x3 x4 x5 x6 x7 x8 x9 (fun p => firstT (g35 x0 x1 x2 x3 x4 x5 x6 x7 x8 x9 p)))
noncomputable def s35 (args : List Value) (s : St) : List (Bool × Value × St) :=
 match args, s.h with
 | [.agg ⟨[.slice none f0 f1, .float .f32 x0, .float .f32 x1, .int .i8 x2, .int .i64 x3, .float .f32 x4]⟩, .agg ⟨[.slice none f2 f3, .float .f32 x5, .float .f32 x6, .int .i8 x7, .int .i64 x8, .float .f32 x9]⟩], [] => if f0 = 0 ∧ f1 = 0 ∧ f2 = 0 ∧ f3 = 0 then (g35 x0 x1 x2 x3 x4 x5 x6 x7 x8 x9 (r35 x0 x1 x2 x3 x4 x5 x6 x7 x8 x9)) else T48 35 args s
 | _, _ => T48 35 args s
noncomputable def T49 : CallF := addF T48 35 s35
set_option maxRecDepth 100000 in
set_option maxHeartbeats 4000000 in
theorem ok49 : CfOk Tryz.prog T49 := by
  refine cfOk_add ok48 fun args s r s' h1 h2 h3 => ?_
  unfold s35 at h3; split at h3
  · rename_i h; split at h3
    · rename_i hc; obtain ⟨rfl, rfl, rfl, rfl⟩ := hc; exact callOk ok48 Tryz.func35 h1 h2 h (lfOkF_no _ _).body (e35 _ _ _ _ _ _ _ _ _ _) rfl h3
    · exact ok48 _ _ _ _ _ h1 h2 h3
  · exact ok48 _ _ _ _ _ h1 h2 h3

/-- laws.markWoodS, loop 0 -/
noncomputable def w76l0 {α : Type} (x0 : Int) (k : Unit → α) : α :=
 k ()
noncomputable def r76l0 (x0 : Int) : Unit := w76l0 x0 (fun p => p)
noncomputable def g76l0 (x0 : Int) (p : Unit) : List (Bool × (Fin' × List Value × St)) := [(true, .exit 0, [vi x0], st0)]
theorem p76l0 {α : Type} (x0 : Int) (f : Unit → α) : w76l0 x0 f = f (w76l0 x0 (fun p => p)) := by unfold w76l0; exact rfl
set_option maxRecDepth 100000 in
set_option maxHeartbeats 4000000 in
theorem e76l0 (x0 : Int) : evC Tryz.prog ext T49 noL 200 (loopN Tryz.f76 0) (loopTail ([0, 1, 5], []) [1] [] (sumK 58 [0, 1, 5] [1] noQ)) (frameOf 58 [0, 1, 5] [.slice none 0 0, vi x0, vi 0]) ⟨[], 0, []⟩ = firstT ((g76l0 x0 (r76l0 x0)).map fun (b, x) => (b, (x.1, frameOf 58 [1] x.2.1, x.2.2))) :=
 Eq.trans (by kernel_rfl) (p76l0 x0 (fun p => firstT ((g76l0 x0 p).map fun (b, x) => (b, (x.1, frameOf 58 [1] x.2.1, x.2.2)))))
noncomputable def Q76l0 : SumK := fun vals s =>
 match vals, s.h with
 | [.slice none f0 f1, .int .i64 x0, .int .i64 f2], [] => if f0 = 0 ∧ f1 = 0 ∧ f2 = 0 then (g76l0 x0 (r76l0 x0)) else noQ vals s
 | _, _ => noQ vals s
set_option maxRecDepth 100000 in
set_option maxHeartbeats 4000000 in
theorem qok76l0 : SumKOk Tryz.prog (loopN Tryz.f76 0) 58 [0, 1, 5] [1] Q76l0 := by
  intro vals s x h1 h2 h3
  unfold Q76l0 at h3; split at h3
  · rename_i h; split at h3
    · rename_i hc; obtain ⟨rfl, rfl, rfl⟩ := hc; exact sum_step ok49 extOk mixed ((lfOkF_no _ _).inner (by kernel_rfl)) noQ_ok h1 h2 h (e76l0 _) rfl h3
    · exact noQ_ok _ _ _ h1 h2 h3
  · exact noQ_ok _ _ _ h1 h2 h3
noncomputable def L76_1 : LoopT := addL noL 3 ([0, 1, 5], []) (sumK 58 [0, 1, 5] [1] Q76l0)
theorem lok76_1 : LfOkF Tryz.prog L76_1 Tryz.f76 := lfOkF_add (lfOkF_no _ _) qok76l0 (by kernel_rfl) (by kernel_rfl) (by kernel_rfl)

/-- laws.markWoodS -/
noncomputable def w76 {α : Type} (x0 : Int) (k : Unit → α) : α :=
 k ()
noncomputable def r76 (x0 : Int) : Unit := w76 x0 (fun p => p)
noncomputable def g76 (x0 : Int) (p : Unit) : List (Bool × Value × St) := [(true, vi x0, st0)]
theorem p76 {α : Type} (x0 : Int) (f : Unit → α) : w76 x0 f = f (w76 x0 (fun p => p)) := by unfold w76; exact rfl
set_option maxRecDepth 100000 in
set_option maxHeartbeats 4000000 in
theorem e76 (x0 : Int) : evFn Tryz.prog ext T49 L76_1 200 Tryz.f76 [.slice none 0 0, vi x0] st0 = firstT (g76 x0 (r76 x0)) :=
 Eq.trans (by kernel_rfl) (p76 x0 (fun p => firstT (g76 x0 p)))
noncomputable def s76 (args : List Value) (s : St) : List (Bool × Value × St) :=
 match args, s.h with
 | [.slice none f0 f1, .int .i64 x0], [] => if f0 = 0 ∧ f1 = 0 then (g76 x0 (r76 x0)) else T49 76 args s
 | _, _ => T49 76 args s
noncomputable def T50 : CallF := addF T49 76 s76
set_option maxRecDepth 100000 in
set_option maxHeartbeats 4000000 in
theorem ok50 : CfOk Tryz.prog T50 := by
  refine cfOk_add ok49 fun args s r s' h1 h2 h3 => ?_
  unfold s76 at h3; split at h3
  · rename_i h; split at h3
    · rename_i hc; obtain ⟨rfl, rfl⟩ := hc; exact callOk ok49 Tryz.func76 h1 h2 h lok76_1.body (e76 _) rfl h3
    · exact ok49 _ _ _ _ _ h1 h2 h3
  · exact ok49 _ _ _ _ _ h1 h2 h3

/-- laws.markStove -/
noncomputable def w36 {α : Type} (x0 x1 : Nat) (x2 x3 : Int) (x4 : Nat) (x5 : Int) (k : Int → α) : α :=
 k (x5)
noncomputable def r36 (x0 x1 : Nat) (x2 x3 : Int) (x4 : Nat) (x5 : Int) : Int := w36 x0 x1 x2 x3 x4 x5 (fun p => p)
noncomputable def g36 (x0 x1 : Nat) (x2 x3 : Int) (x4 : Nat) (x5 : Int) (p : Int) : List (Bool × Value × St) := [(true, vi p, st0)]
theorem p36 {α : Type} (x0 x1 : Nat) (x2 x3 : Int) (x4 : Nat) (x5 : Int) (f : Int → α) : w36 x0 x1 x2 x3 x4 x5 f = f (w36 x0 x1 x2 x3 x4 x5 (fun p => p)) := by unfold w36; exact rfl
set_option maxRecDepth 100000 in
set_option maxHeartbeats 4000000 in
theorem e36 (x0 x1 : Nat) (x2 x3 : Int) (x4 : Nat) (x5 : Int) : evFn Tryz.prog ext T50 noL 200 Tryz.f36 [.agg #[.slice none 0 0, vf x0, vf x1, .int .i8 x2, vi x3, vf x4], vi x5] st0 = firstT (g36 x0 x1 x2 x3 x4 x5 (r36 x0 x1 x2 x3 x4 x5)) :=
 Eq.trans (by kernel_rfl) (p36 x0 x1 x2 x3 x4 x5 (fun p => firstT (g36 x0 x1 x2 x3 x4 x5 p)))
noncomputable def s36 (args : List Value) (s : St) : List (Bool × Value × St) :=
 match args, s.h with
 | [.agg ⟨[.slice none f0 f1, .float .f32 x0, .float .f32 x1, .int .i8 x2, .int .i64 x3, .float .f32 x4]⟩, .int .i64 x5], [] => if f0 = 0 ∧ f1 = 0 then (g36 x0 x1 x2 x3 x4 x5 (r36 x0 x1 x2 x3 x4 x5)) else T50 36 args s
 | _, _ => T50 36 args s
noncomputable def T51 : CallF := addF T50 36 s36
set_option maxRecDepth 100000 in
set_option maxHeartbeats 4000000 in
theorem ok51 : CfOk Tryz.prog T51 := by
  refine cfOk_add ok50 fun args s r s' h1 h2 h3 => ?_
  unfold s36 at h3; split at h3
  · rename_i h; split at h3
    · rename_i hc; obtain ⟨rfl, rfl⟩ := hc; exact callOk ok50 Tryz.func36 h1 h2 h (lfOkF_no _ _).body (e36 _ _ _ _ _ _) rfl h3
    · exact ok50 _ _ _ _ _ h1 h2 h3
  · exact ok50 _ _ _ _ _ h1 h2 h3

/-- laws.heldWoodS, loop 0 -/
noncomputable def w77l0 {α : Type} (x0 : Int) (k : Unit → α) : α :=
 k ()
noncomputable def r77l0 (x0 : Int) : Unit := w77l0 x0 (fun p => p)
noncomputable def g77l0 (x0 : Int) (p : Unit) : List (Bool × (Fin' × List Value × St)) := [(true, .exit 0, [vi x0, anyV], st0)]
theorem p77l0 {α : Type} (x0 : Int) (f : Unit → α) : w77l0 x0 f = f (w77l0 x0 (fun p => p)) := by unfold w77l0; exact rfl
set_option maxRecDepth 100000 in
set_option maxHeartbeats 4000000 in
theorem e77l0 (x0 : Int) : evC Tryz.prog ext T51 noL 200 (loopN Tryz.f77 0) (loopTail ([0, 1, 5], []) [1, 4] [] (sumK 64 [0, 1, 5] [1, 4] noQ)) (frameOf 64 [0, 1, 5] [.slice none 0 0, vi x0, vi 0]) ⟨[], 0, []⟩ = firstT ((g77l0 x0 (r77l0 x0)).map fun (b, x) => (b, (x.1, frameOf 64 [1, 4] x.2.1, x.2.2))) :=
 Eq.trans (by kernel_rfl) (p77l0 x0 (fun p => firstT ((g77l0 x0 p).map fun (b, x) => (b, (x.1, frameOf 64 [1, 4] x.2.1, x.2.2)))))
noncomputable def Q77l0 : SumK := fun vals s =>
 match vals, s.h with
 | [.slice none f0 f1, .int .i64 x0, .int .i64 f2], [] => if f0 = 0 ∧ f1 = 0 ∧ f2 = 0 then (g77l0 x0 (r77l0 x0)) else noQ vals s
 | _, _ => noQ vals s
set_option maxRecDepth 100000 in
set_option maxHeartbeats 4000000 in
theorem qok77l0 : SumKOk Tryz.prog (loopN Tryz.f77 0) 64 [0, 1, 5] [1, 4] Q77l0 := by
  intro vals s x h1 h2 h3
  unfold Q77l0 at h3; split at h3
  · rename_i h; split at h3
    · rename_i hc; obtain ⟨rfl, rfl, rfl⟩ := hc; exact sum_step ok51 extOk mixed ((lfOkF_no _ _).inner (by kernel_rfl)) noQ_ok h1 h2 h (e77l0 _) rfl h3
    · exact noQ_ok _ _ _ h1 h2 h3
  · exact noQ_ok _ _ _ h1 h2 h3
noncomputable def L77_1 : LoopT := addL noL 3 ([0, 1, 5], []) (sumK 64 [0, 1, 5] [1, 4] Q77l0)
theorem lok77_1 : LfOkF Tryz.prog L77_1 Tryz.f77 := lfOkF_add (lfOkF_no _ _) qok77l0 (by kernel_rfl) (by kernel_rfl) (by kernel_rfl)

/-- laws.heldWoodS -/
noncomputable def w77 {α : Type} (x0 : Int) (k : Unit → α) : α :=
 k ()
noncomputable def r77 (x0 : Int) : Unit := w77 x0 (fun p => p)
noncomputable def g77 (x0 : Int) (p : Unit) : List (Bool × Value × St) := [(true, vi x0, st0)]
theorem p77 {α : Type} (x0 : Int) (f : Unit → α) : w77 x0 f = f (w77 x0 (fun p => p)) := by unfold w77; exact rfl
set_option maxRecDepth 100000 in
set_option maxHeartbeats 4000000 in
theorem e77 (x0 : Int) : evFn Tryz.prog ext T51 L77_1 200 Tryz.f77 [.slice none 0 0, vi x0] st0 = firstT (g77 x0 (r77 x0)) :=
 Eq.trans (by kernel_rfl) (p77 x0 (fun p => firstT (g77 x0 p)))
noncomputable def s77 (args : List Value) (s : St) : List (Bool × Value × St) :=
 match args, s.h with
 | [.slice none f0 f1, .int .i64 x0], [] => if f0 = 0 ∧ f1 = 0 then (g77 x0 (r77 x0)) else T51 77 args s
 | _, _ => T51 77 args s
noncomputable def T52 : CallF := addF T51 77 s77
set_option maxRecDepth 100000 in
set_option maxHeartbeats 4000000 in
theorem ok52 : CfOk Tryz.prog T52 := by
  refine cfOk_add ok51 fun args s r s' h1 h2 h3 => ?_
  unfold s77 at h3; split at h3
  · rename_i h; split at h3
    · rename_i hc; obtain ⟨rfl, rfl⟩ := hc; exact callOk ok51 Tryz.func77 h1 h2 h lok77_1.body (e77 _) rfl h3
    · exact ok51 _ _ _ _ _ h1 h2 h3
  · exact ok51 _ _ _ _ _ h1 h2 h3

/-- laws.heldStove -/
noncomputable def w37 {α : Type} (x0 x1 : Nat) (x2 x3 : Int) (x4 : Nat) (x5 : Int) (k : Int → α) : α :=
 cond (decide ((x5 : Int) < 0)) (k ((-1))) (k (x5))
noncomputable def r37 (x0 x1 : Nat) (x2 x3 : Int) (x4 : Nat) (x5 : Int) : Int := w37 x0 x1 x2 x3 x4 x5 (fun p => p)
noncomputable def g37 (x0 x1 : Nat) (x2 x3 : Int) (x4 : Nat) (x5 : Int) (p : Int) : List (Bool × Value × St) := [(true, vi p, st0)]
theorem p37 {α : Type} (x0 x1 : Nat) (x2 x3 : Int) (x4 : Nat) (x5 : Int) (f : Int → α) : w37 x0 x1 x2 x3 x4 x5 f = f (w37 x0 x1 x2 x3 x4 x5 (fun p => p)) := by unfold w37; exact (cond_app f _ rfl rfl)
set_option maxRecDepth 100000 in
set_option maxHeartbeats 4000000 in
theorem e37 (x0 x1 : Nat) (x2 x3 : Int) (x4 : Nat) (x5 : Int) : evFn Tryz.prog ext T52 noL 200 Tryz.f37 [.agg #[.slice none 0 0, vf x0, vf x1, .int .i8 x2, vi x3, vf x4], vi x5] st0 = firstT (g37 x0 x1 x2 x3 x4 x5 (r37 x0 x1 x2 x3 x4 x5)) :=
 Eq.trans (by kernel_rfl) (p37 x0 x1 x2 x3 x4 x5 (fun p => firstT (g37 x0 x1 x2 x3 x4 x5 p)))
noncomputable def s37 (args : List Value) (s : St) : List (Bool × Value × St) :=
 match args, s.h with
 | [.agg ⟨[.slice none f0 f1, .float .f32 x0, .float .f32 x1, .int .i8 x2, .int .i64 x3, .float .f32 x4]⟩, .int .i64 x5], [] => if f0 = 0 ∧ f1 = 0 then (g37 x0 x1 x2 x3 x4 x5 (r37 x0 x1 x2 x3 x4 x5)) else T52 37 args s
 | _, _ => T52 37 args s
noncomputable def T53 : CallF := addF T52 37 s37
set_option maxRecDepth 100000 in
set_option maxHeartbeats 4000000 in
theorem ok53 : CfOk Tryz.prog T53 := by
  refine cfOk_add ok52 fun args s r s' h1 h2 h3 => ?_
  unfold s37 at h3; split at h3
  · rename_i h; split at h3
    · rename_i hc; obtain ⟨rfl, rfl⟩ := hc; exact callOk ok52 Tryz.func37 h1 h2 h (lfOkF_no _ _).body (e37 _ _ _ _ _ _) rfl h3
    · exact ok52 _ _ _ _ _ h1 h2 h3
  · exact ok52 _ _ _ _ _ h1 h2 h3

/-- laws.eqWoodS, loop 0 -/
noncomputable def r74l0b (x0 : List (List Int)) : Nat :=
 cond (decide ((0 : Int) < ((x0.length : Nat) : Int))) (cond (Nat.blt 0 x0.length) (1) (1)) (0)
noncomputable def a74l0b (x0 : List (List Int)) (p : Nat) : Option (Fin' × List Value × St) := firstT ([((Nat.beq p 0), .exit 0, [anyV], ⟨[⟨true, (some (.tab sc0 x0))⟩], 1, []⟩)].map fun (b, x) => (b, (x.1, frameOf 27 [4] x.2.1, x.2.2)))
noncomputable def w74l0b (x0 : List (List Int)) : Option (Fin' × List Value × St) :=
 (cond (decide ((0 : Int) < ((x0.length : Nat) : Int)))
 (cond (Nat.blt 0 x0.length) (cond (Nat.blt 0 x0.length) none none) none)
 (a74l0b x0 (0)))
set_option maxRecDepth 100000 in
set_option maxHeartbeats 4000000 in
theorem e74l0b (x0 : List (List Int)) : evC Tryz.prog ext T53 L74_1 200 (loopN Tryz.f74 0) (loopTail ([0, 1, 5], []) [4] [] (sumK 27 [0, 1, 5] [4] Q74l0)) (frameOf 27 [0, 1, 5] [wsl 0, .slice none 0 0, vi 0]) ⟨[⟨true, (some (.tab sc0 x0))⟩], 1, []⟩ = firstT ([((Nat.beq (r74l0b x0) 0), .exit 0, [anyV], ⟨[⟨true, (some (.tab sc0 x0))⟩], 1, []⟩)].map fun (b, x) => (b, (x.1, frameOf 27 [4] x.2.1, x.2.2))) :=
 (show _ = w74l0b x0 from by kernel_rfl).trans
 (show w74l0b x0 = a74l0b x0 (r74l0b x0) from by unfold w74l0b r74l0b; exact (cond_both (a74l0b x0) _ (fun h0 => (cond_both (a74l0b x0) _ (fun h1 => (cond_t h1 rfl)) (fun h1 => rfl))) (fun h0 => rfl)))
noncomputable def Q74l0b : SumK := fun vals s =>
 match vals, s.h with
 | [.iface f0 .nilIface, .slice none f1 f2, .int .i64 f3], [⟨true, some (.tab [.fl .f32, .fl .f32, .fl .f32, .fl .f32, .fl .f32, .fl .f32, .fl .f32, .fl .f32, .fl .f32, .fl .f32, .fl .f32, .fl .f32, .fl .f32, .fl .f32, .fl .f32, .fl .f32, .fl .f32, .fl .f32] x0)⟩] => if f0 = 0 ∧ f1 = 0 ∧ f2 = 0 ∧ f3 = 0 then [((Nat.beq (r74l0b x0) 0), .exit 0, [anyV], ⟨[⟨true, (some (.tab sc0 x0))⟩], 1, []⟩)] else Q74l0 vals s
 | _, _ => Q74l0 vals s
set_option maxRecDepth 100000 in
set_option maxHeartbeats 4000000 in
theorem qok74l0b : SumKOk Tryz.prog (loopN Tryz.f74 0) 27 [0, 1, 5] [4] Q74l0b := by
  intro vals s x h1 h2 h3
  unfold Q74l0b at h3; split at h3
  · rename_i h; split at h3
    · rename_i hc; obtain ⟨rfl, rfl, rfl, rfl⟩ := hc; exact sum_step ok53 extOk mixed (lok74_1.inner (by kernel_rfl)) qok74l0 h1 h2 h (e74l0b _) rfl h3
    · exact qok74l0 _ _ _ h1 h2 h3
  · exact qok74l0 _ _ _ h1 h2 h3
noncomputable def L74_2 : LoopT := addL L74_1 5 ([0, 1, 5], []) (sumK 27 [0, 1, 5] [4] Q74l0b)
theorem lok74_2 : LfOkF Tryz.prog L74_2 Tryz.f74 := lfOkF_add lok74_1 qok74l0b (by kernel_rfl) (by kernel_rfl) (by kernel_rfl)

/-- laws.eqWoodS -/
noncomputable def w74b {α : Type} (x0 : List (List Int)) (k : (Nat × Bool) → α) : α :=
 cond ((((x0.length : Nat) : Int) : Int) != 0) (k (0, false)) (cond (Nat.beq (r74l0b x0) 0) (k (0, true)) (k (1, false)))
noncomputable def r74b (x0 : List (List Int)) : Nat × Bool := w74b x0 (fun p => p)
noncomputable def g74b (x0 : List (List Int)) (p : Nat × Bool) : List (Bool × Value × St) := [((Nat.beq (p.1) 0), .bool (p.2), ⟨[⟨true, (some (.tab sc0 x0))⟩], 1, []⟩)]
theorem p74b {α : Type} (x0 : List (List Int)) (f : (Nat × Bool) → α) : w74b x0 f = f (w74b x0 (fun p => p)) := by unfold w74b; exact (cond_app f _ rfl (cond_app f _ rfl rfl))
set_option maxRecDepth 100000 in
set_option maxHeartbeats 4000000 in
theorem e74b (x0 : List (List Int)) : evFn Tryz.prog ext T53 L74_2 200 Tryz.f74 [wsl 0, .slice none 0 0] ⟨[⟨true, (some (.tab sc0 x0))⟩], 1, []⟩ = firstT (g74b x0 (r74b x0)) :=
 Eq.trans (by kernel_rfl) (p74b x0 (fun p => firstT (g74b x0 p)))
noncomputable def s74b (args : List Value) (s : St) : List (Bool × Value × St) :=
 match args, s.h with
 | [.iface f0 .nilIface, .slice none f1 f2], [⟨true, some (.tab [.fl .f32, .fl .f32, .fl .f32, .fl .f32, .fl .f32, .fl .f32, .fl .f32, .fl .f32, .fl .f32, .fl .f32, .fl .f32, .fl .f32, .fl .f32, .fl .f32, .fl .f32, .fl .f32, .fl .f32, .fl .f32] x0)⟩] => if f0 = 0 ∧ f1 = 0 ∧ f2 = 0 then (g74b x0 (r74b x0)) else T53 74 args s
 | _, _ => T53 74 args s
noncomputable def T54 : CallF := addF T53 74 s74b
set_option maxRecDepth 100000 in
set_option maxHeartbeats 4000000 in
theorem ok54 : CfOk Tryz.prog T54 := by
  refine cfOk_add ok53 fun args s r s' h1 h2 h3 => ?_
  unfold s74b at h3; split at h3
  · rename_i h; split at h3
    · rename_i hc; obtain ⟨rfl, rfl, rfl⟩ := hc; exact callOk ok53 Tryz.func74 h1 h2 h lok74_2.body (e74b _) rfl h3
    · exact ok53 _ _ _ _ _ h1 h2 h3
  · exact ok53 _ _ _ _ _ h1 h2 h3

/-- laws.eqStove -/
noncomputable def w35b {α : Type} (x0 x1 : Nat) (x2 x3 : Int) (x4 x5 x6 : Nat) (x7 x8 : Int) (x9 : Nat) (x10 : List (List Int)) (k : (Nat × Bool) → α) : α :=
 cond (Nat.beq ((r74b x10).1) 0) (cond (!((r74b x10).2)) (k (0, false)) (cond (!(r75 (widen x0) (widen x5))) (k (0, false)) (cond (!(r75 (widen x1) (widen x6))) (k (0, false)) (cond ((x2 : Int) != x7) (k (0, false)) (cond ((x3 : Int) != x8) (k (0, false)) (cond (!(r75 (widen x4) (widen x9))) (k (0, false)) (k (0, true)))))))) (k (1, false))
noncomputable def r35b (x0 x1 : Nat) (x2 x3 : Int) (x4 x5 x6 : Nat) (x7 x8 : Int) (x9 : Nat) (x10 : List (List Int)) : Nat × Bool := w35b x0 x1 x2 x3 x4 x5 x6 x7 x8 x9 x10 (fun p => p)
noncomputable def g35b (x0 x1 : Nat) (x2 x3 : Int) (x4 x5 x6 : Nat) (x7 x8 : Int) (x9 : Nat) (x10 : List (List Int)) (p : Nat × Bool) : List (Bool × Value × St) := [((Nat.beq (p.1) 0), .bool (p.2), ⟨[⟨true, (some (.tab sc0 x10))⟩], 1, []⟩)]
theorem p35b {α : Type} (x0 x1 : Nat) (x2 x3 : Int) (x4 x5 x6 : Nat) (x7 x8 : Int) (x9 : Nat) (x10 : List (List Int)) (f : (Nat × Bool) → α) : w35b x0 x1 x2 x3 x4 x5 x6 x7 x8 x9 x10 f = f (w35b x0 x1 x2 x3 x4 x5 x6 x7 x8 x9 x10 (fun p => p)) := by unfold w35b; repeat' (first | refine cond_app f _ ?_ ?_ | rfl)
set_option maxRecDepth 100000 in
set_option maxHeartbeats 4000000 in
theorem e35b (x0 x1 : Nat) (x2 x3 : Int) (x4 x5 x6 : Nat) (x7 x8 : Int) (x9 : Nat) (x10 : List (List Int)) : evFn Tryz.prog ext T54 noL 200 Tryz.f35 [.agg #[wsl 0, vf x0, vf x1, .int .i8 x2, vi x3, vf x4], .agg #[.slice none 0 0, vf x5, vf x6, .int .i8 x7, vi x8, vf x9]] ⟨[⟨true, (some (.tab sc0 x10))⟩], 1, []⟩ = firstT (g35b x0 x1 x2 x3 x4 x5 x6 x7 x8 x9 x10 (r35b x0 x1 x2 x3 x4 x5 x6 x7 x8 x9 x10)) :=
 Eq.trans (by kernel_rfl) (p35b x0 x1 x2 x3 x4 x5 x6 x7 x8 x9 x10 (fun p => firstT (g35b x0 x1 x2 x3 x4 x5 x6 x7 x8 x9 x10 p)))
noncomputable def s35b (args : List Value) (s : St) : List (Bool × Value × St) :=
 match args, s.h with
 | [.agg ⟨[.iface f0 .nilIface, .float .f32 x0, .float .f32 x1, .int .i8 x2, .int .i64 x3, .float .f32 x4]⟩, .agg ⟨[.slice none f1 f2, .float .f32 x5, .float .f32 x6, .int .i8 x7, .int .i64 x8, .float .f32 x9]⟩], [⟨true, some (.tab [.fl .f32, .fl .f32, .fl .f32, .fl .f32, .fl .f32, .fl .f32, .fl .f32, .fl .f32, .fl .f32, .fl .f32, .fl .f32, .fl .f32, .fl .f32, .fl .f32, .fl .f32, .fl .f32, .fl .f32, .fl .f32] x10)⟩] => if f0 = 0 ∧ f1 = 0 ∧ f2 = 0 then (g35b x0 x1 x2 x3 x4 x5 x6 x7 x8 x9 x10 (r35b x0 x1 x2 x3 x4 x5 x6 x7 x8 x9 x10)) else T54 35 args s
 | _, _ => T54 35 args s
noncomputable def T55 : CallF := addF T54 35 s35b
set_option maxRecDepth 100000 in
set_option maxHeartbeats 4000000 in
theorem ok55 : CfOk Tryz.prog T55 := by
  refine cfOk_add ok54 fun args s r s' h1 h2 h3 => ?_
  unfold s35b at h3; split at h3
  · rename_i h; split at h3
    · rename_i hc; obtain ⟨rfl, rfl, rfl⟩ := hc; exact callOk ok54 Tryz.func35 h1 h2 h (lfOkF_no _ _).body (e35b _ _ _ _ _ _ _ _ _ _ _) rfl h3
    · exact ok54 _ _ _ _ _ h1 h2 h3
  · exact ok54 _ _ _ _ _ h1 h2 h3

/-- laws.markWoodS, loop 1 -/
noncomputable def w76l1 {α : Type} (x0 x1 : Int) (x2 : List (List Int)) (k : Unit → α) : α :=
 k ()
noncomputable def r76l1 (x0 x1 : Int) (x2 : List (List Int)) : Unit := w76l1 x0 x1 x2 (fun p => p)
noncomputable def g76l1 (x0 x1 : Int) (x2 : List (List Int)) (p : Unit) : List (Bool × (Fin' × List Value × St)) := [(true, .exit 2, [wsl 0, vi x0, vi x1], ⟨[⟨true, (some (.tab sc0 x2))⟩], 1, []⟩)]
theorem p76l1 {α : Type} (x0 x1 : Int) (x2 : List (List Int)) (f : Unit → α) : w76l1 x0 x1 x2 f = f (w76l1 x0 x1 x2 (fun p => p)) := by unfold w76l1; exact rfl
set_option maxRecDepth 100000 in
set_option maxHeartbeats 4000000 in
theorem e76l1 (x0 x1 : Int) (x2 : List (List Int)) : evC Tryz.prog ext T55 L76_1 200 (loopN Tryz.f76 1) (loopTail ([0, 1, 5, 6], []) [0, 1, 5] [] (sumK 58 [0, 1, 5, 6] [0, 1, 5] noQ)) (frameOf 58 [0, 1, 5, 6] [wsl 0, vi x0, vi x1, vi 6]) ⟨[⟨true, (some (.tab sc0 x2))⟩], 1, []⟩ = firstT ((g76l1 x0 x1 x2 (r76l1 x0 x1 x2)).map fun (b, x) => (b, (x.1, frameOf 58 [0, 1, 5] x.2.1, x.2.2))) :=
 Eq.trans (by kernel_rfl) (p76l1 x0 x1 x2 (fun p => firstT ((g76l1 x0 x1 x2 p).map fun (b, x) => (b, (x.1, frameOf 58 [0, 1, 5] x.2.1, x.2.2)))))
noncomputable def Q76l1 : SumK := fun vals s =>
 match vals, s.h with
 | [.iface f0 .nilIface, .int .i64 x0, .int .i64 x1, .int .i64 f1], [⟨true, some (.tab [.fl .f32, .fl .f32, .fl .f32, .fl .f32, .fl .f32, .fl .f32, .fl .f32, .fl .f32, .fl .f32, .fl .f32, .fl .f32, .fl .f32, .fl .f32, .fl .f32, .fl .f32, .fl .f32, .fl .f32, .fl .f32] x2)⟩] => if f0 = 0 ∧ f1 = 6 then (g76l1 x0 x1 x2 (r76l1 x0 x1 x2)) else noQ vals s
 | _, _ => noQ vals s
set_option maxRecDepth 100000 in
set_option maxHeartbeats 4000000 in
theorem qok76l1 : SumKOk Tryz.prog (loopN Tryz.f76 1) 58 [0, 1, 5, 6] [0, 1, 5] Q76l1 := by
  intro vals s x h1 h2 h3
  unfold Q76l1 at h3; split at h3
  · rename_i h; split at h3
    · rename_i hc; obtain ⟨rfl, rfl⟩ := hc; exact sum_step ok55 extOk mixed (lok76_1.inner (by kernel_rfl)) noQ_ok h1 h2 h (e76l1 _ _ _) rfl h3
    · exact noQ_ok _ _ _ h1 h2 h3
  · exact noQ_ok _ _ _ h1 h2 h3
noncomputable def L76_2 : LoopT := addL L76_1 6 ([0, 1, 5, 6], []) (sumK 58 [0, 1, 5, 6] [0, 1, 5] Q76l1)
theorem lok76_2 : LfOkF Tryz.prog L76_2 Tryz.f76 := lfOkF_add lok76_1 qok76l1 (by kernel_rfl) (by kernel_rfl) (by kernel_rfl)

/-- laws.markWoodS, loop 1 -/
noncomputable def r76l1b (x0 x1 : Int) (x2 : List (List Int)) : Nat × Int × List (List Int) :=
 cond ((decide ((0 : Int) ≤ x1)) && (Nat.blt (Int.toNat x1) x2.length)) (0, (IntKind.i64.wrap (x0 + 1)), (x2.modify (Int.toNat x1) (fun r => spl 18 r 5 [(((ofInt .f32 x0) : Nat) : Int)]))) (1, 0, [])
noncomputable def a76l1b (x0 x1 : Int) (x2 : List (List Int)) (p : Nat × Int × List (List Int)) : Option (Fin' × List Value × St) := firstT ([((Nat.beq (p.1) 0), .exit 2, [wsl 0, vi (p.2.1), vi x1], ⟨[⟨true, (some (.tab sc0 (p.2.2)))⟩], 1, [0]⟩)].map fun (b, x) => (b, (x.1, frameOf 58 [0, 1, 5] x.2.1, x.2.2)))
noncomputable def w76l1b (x0 x1 : Int) (x2 : List (List Int)) : Option (Fin' × List Value × St) :=
 (cond ((decide ((0 : Int) ≤ x1)) && (Nat.blt (Int.toNat x1) x2.length))
 (cond (Nat.blt (Int.toNat x1) x2.length) (a76l1b x0 x1 x2 (0, (IntKind.i64.wrap (x0 + 1)), (x2.modify (Int.toNat x1) (fun r => spl 18 r 5 [(((ofInt .f32 x0) : Nat) : Int)])))) none)
 none)
set_option maxRecDepth 100000 in
set_option maxHeartbeats 4000000 in
theorem e76l1b (x0 x1 : Int) (x2 : List (List Int)) : evC Tryz.prog ext T55 L76_2 200 (loopN Tryz.f76 1) (loopTail ([0, 1, 5, 6], []) [0, 1, 5] [] (sumK 58 [0, 1, 5, 6] [0, 1, 5] Q76l1)) (frameOf 58 [0, 1, 5, 6] [wsl 0, vi x0, vi x1, vi 5]) ⟨[⟨true, (some (.tab sc0 x2))⟩], 1, []⟩ = firstT ([((Nat.beq ((r76l1b x0 x1 x2).1) 0), .exit 2, [wsl 0, vi ((r76l1b x0 x1 x2).2.1), vi x1], ⟨[⟨true, (some (.tab sc0 ((r76l1b x0 x1 x2).2.2)))⟩], 1, [0]⟩)].map fun (b, x) => (b, (x.1, frameOf 58 [0, 1, 5] x.2.1, x.2.2))) :=
 (show _ = w76l1b x0 x1 x2 from by kernel_rfl).trans
 (show w76l1b x0 x1 x2 = a76l1b x0 x1 x2 (r76l1b x0 x1 x2) from by unfold w76l1b r76l1b; exact (cond_both (a76l1b x0 x1 x2) _ (fun h0 => (cond_t (ev_and2 h0) rfl)) (fun h0 => rfl)))
noncomputable def Q76l1b : SumK := fun vals s =>
 match vals, s.h with
 | [.iface f0 .nilIface, .int .i64 x0, .int .i64 x1, .int .i64 f1], [⟨true, some (.tab [.fl .f32, .fl .f32, .fl .f32, .fl .f32, .fl .f32, .fl .f32, .fl .f32, .fl .f32, .fl .f32, .fl .f32, .fl .f32, .fl .f32, .fl .f32, .fl .f32, .fl .f32, .fl .f32, .fl .f32, .fl .f32] x2)⟩] => if f0 = 0 ∧ f1 = 5 then [((Nat.beq ((r76l1b x0 x1 x2).1) 0), .exit 2, [wsl 0, vi ((r76l1b x0 x1 x2).2.1), vi x1], ⟨[⟨true, (some (.tab sc0 ((r76l1b x0 x1 x2).2.2)))⟩], 1, [0]⟩)] else Q76l1 vals s
 | _, _ => Q76l1 vals s
set_option maxRecDepth 100000 in
set_option maxHeartbeats 4000000 in
theorem qok76l1b : SumKOk Tryz.prog (loopN Tryz.f76 1) 58 [0, 1, 5, 6] [0, 1, 5] Q76l1b := by
  intro vals s x h1 h2 h3
  unfold Q76l1b at h3; split at h3
  · rename_i h; split at h3
    · rename_i hc; obtain ⟨rfl, rfl⟩ := hc; exact sum_step ok55 extOk mixed (lok76_2.inner (by kernel_rfl)) qok76l1 h1 h2 h (e76l1b _ _ _) rfl h3
    · exact qok76l1 _ _ _ h1 h2 h3
  · exact qok76l1 _ _ _ h1 h2 h3
noncomputable def L76_3 : LoopT := addL L76_2 6 ([0, 1, 5, 6], []) (sumK 58 [0, 1, 5, 6] [0, 1, 5] Q76l1b)
theorem lok76_3 : LfOkF Tryz.prog L76_3 Tryz.f76 := lfOkF_add lok76_2 qok76l1b (by kernel_rfl) (by kernel_rfl) (by kernel_rfl)

/-- laws.markWoodS, loop 1 -/
noncomputable def r76l1c (x0 x1 : Int) (x2 : List (List Int)) : Nat × Int × List (List Int) :=
 let c386 := (r76l1b (IntKind.i64.wrap (x0 + 1)) x1 (x2.modify (Int.toNat x1) (fun r => spl 18 r 4 [(((ofInt .f32 x0) : Nat) : Int)])))
 cond ((decide ((0 : Int) ≤ x1)) && (Nat.blt (Int.toNat x1) x2.length)) (cond (Nat.beq (c386.1) 0) (0, (c386.2.1), (c386.2.2)) (1, 0, [])) (1, 0, [])
noncomputable def a76l1c (x0 x1 : Int) (x2 : List (List Int)) (p : Nat × Int × List (List Int)) : Option (Fin' × List Value × St) := firstT ([((Nat.beq (p.1) 0), .exit 2, [wsl 0, vi (p.2.1), vi x1], ⟨[⟨true, (some (.tab sc0 (p.2.2)))⟩], 1, [0]⟩)].map fun (b, x) => (b, (x.1, frameOf 58 [0, 1, 5] x.2.1, x.2.2)))
noncomputable def w76l1c (x0 x1 : Int) (x2 : List (List Int)) : Option (Fin' × List Value × St) :=
 let c386 := (r76l1b (IntKind.i64.wrap (x0 + 1)) x1 (x2.modify (Int.toNat x1) (fun r => spl 18 r 4 [(((ofInt .f32 x0) : Nat) : Int)])))
 (cond ((decide ((0 : Int) ≤ x1)) && (Nat.blt (Int.toNat x1) x2.length))
 (cond (Nat.blt (Int.toNat x1) x2.length) (cond (Nat.beq (c386.1) 0) (a76l1c x0 x1 x2 (0, (c386.2.1), (c386.2.2))) none) none)
 none)
set_option maxRecDepth 100000 in
set_option maxHeartbeats 4000000 in
theorem e76l1c (x0 x1 : Int) (x2 : List (List Int)) : evC Tryz.prog ext T55 L76_3 200 (loopN Tryz.f76 1) (loopTail ([0, 1, 5, 6], []) [0, 1, 5] [] (sumK 58 [0, 1, 5, 6] [0, 1, 5] Q76l1b)) (frameOf 58 [0, 1, 5, 6] [wsl 0, vi x0, vi x1, vi 4]) ⟨[⟨true, (some (.tab sc0 x2))⟩], 1, []⟩ = firstT ([((Nat.beq ((r76l1c x0 x1 x2).1) 0), .exit 2, [wsl 0, vi ((r76l1c x0 x1 x2).2.1), vi x1], ⟨[⟨true, (some (.tab sc0 ((r76l1c x0 x1 x2).2.2)))⟩], 1, [0]⟩)].map fun (b, x) => (b, (x.1, frameOf 58 [0, 1, 5] x.2.1, x.2.2))) :=
 (show _ = w76l1c x0 x1 x2 from by kernel_rfl).trans
 (show w76l1c x0 x1 x2 = a76l1c x0 x1 x2 (r76l1c x0 x1 x2) from by unfold w76l1c r76l1c; exact (cond_both (a76l1c x0 x1 x2) _ (fun h0 => (cond_t (ev_and2 h0) (cond_app (a76l1c x0 x1 x2) _ rfl rfl))) (fun h0 => rfl)))
noncomputable def Q76l1c : SumK := fun vals s =>
 match vals, s.h with
 | [.iface f0 .nilIface, .int .i64 x0, .int .i64 x1, .int .i64 f1], [⟨true, some (.tab [.fl .f32, .fl .f32, .fl .f32, .fl .f32, .fl .f32, .fl .f32, .fl .f32, .fl .f32, .fl .f32, .fl .f32, .fl .f32, .fl .f32, .fl .f32, .fl .f32, .fl .f32, .fl .f32, .fl .f32, .fl .f32] x2)⟩] => if f0 = 0 ∧ f1 = 4 then [((Nat.beq ((r76l1c x0 x1 x2).1) 0), .exit 2, [wsl 0, vi ((r76l1c x0 x1 x2).2.1), vi x1], ⟨[⟨true, (some (.tab sc0 ((r76l1c x0 x1 x2).2.2)))⟩], 1, [0]⟩)] else Q76l1b vals s
 | _, _ => Q76l1b vals s
set_option maxRecDepth 100000 in
set_option maxHeartbeats 4000000 in
theorem qok76l1c : SumKOk Tryz.prog (loopN Tryz.f76 1) 58 [0, 1, 5, 6] [0, 1, 5] Q76l1c := by
  intro vals s x h1 h2 h3
  unfold Q76l1c at h3; split at h3
  · rename_i h; split at h3
    · rename_i hc; obtain ⟨rfl, rfl⟩ := hc; exact sum_step ok55 extOk mixed (lok76_3.inner (by kernel_rfl)) qok76l1b h1 h2 h (e76l1c _ _ _) rfl h3
    · exact qok76l1b _ _ _ h1 h2 h3
  · exact qok76l1b _ _ _ h1 h2 h3
noncomputable def L76_4 : LoopT := addL L76_3 6 ([0, 1, 5, 6], []) (sumK 58 [0, 1, 5, 6] [0, 1, 5] Q76l1c)
theorem lok76_4 : LfOkF Tryz.prog L76_4 Tryz.f76 := lfOkF_add lok76_3 qok76l1c (by kernel_rfl) (by kernel_rfl) (by kernel_rfl)

/-- laws.markWoodS, loop 1 -/
noncomputable def r76l1d (x0 x1 : Int) (x2 : List (List Int)) : Nat × Int × List (List Int) :=
 let c387 := (r76l1c (IntKind.i64.wrap (x0 + 1)) x1 (x2.modify (Int.toNat x1) (fun r => spl 18 r 3 [(((ofInt .f32 x0) : Nat) : Int)])))
 cond ((decide ((0 : Int) ≤ x1)) && (Nat.blt (Int.toNat x1) x2.length)) (cond (Nat.beq (c387.1) 0) (0, (c387.2.1), (c387.2.2)) (1, 0, [])) (1, 0, [])
noncomputable def a76l1d (x0 x1 : Int) (x2 : List (List Int)) (p : Nat × Int × List (List Int)) : Option (Fin' × List Value × St) := firstT ([((Nat.beq (p.1) 0), .exit 2, [wsl 0, vi (p.2.1), vi x1], ⟨[⟨true, (some (.tab sc0 (p.2.2)))⟩], 1, [0]⟩)].map fun (b, x) => (b, (x.1, frameOf 58 [0, 1, 5] x.2.1, x.2.2)))
noncomputable def w76l1d (x0 x1 : Int) (x2 : List (List Int)) : Option (Fin' × List Value × St) :=
 let c387 := (r76l1c (IntKind.i64.wrap (x0 + 1)) x1 (x2.modify (Int.toNat x1) (fun r => spl 18 r 3 [(((ofInt .f32 x0) : Nat) : Int)])))
 (cond ((decide ((0 : Int) ≤ x1)) && (Nat.blt (Int.toNat x1) x2.length))
 (cond (Nat.blt (Int.toNat x1) x2.length) (cond (Nat.beq (c387.1) 0) (a76l1d x0 x1 x2 (0, (c387.2.1), (c387.2.2))) none) none)
 none)
set_option maxRecDepth 100000 in
set_option maxHeartbeats 4000000 in
theorem e76l1d (x0 x1 : Int) (x2 : List (List Int)) : evC Tryz.prog ext T55 L76_4 200 (loopN Tryz.f76 1) (loopTail ([0, 1, 5, 6], []) [0, 1, 5] [] (sumK 58 [0, 1, 5, 6] [0, 1, 5] Q76l1c)) (frameOf 58 [0, 1, 5, 6] [wsl 0, vi x0, vi x1, vi 3]) ⟨[⟨true, (some (.tab sc0 x2))⟩], 1, []⟩ = firstT ([((Nat.beq ((r76l1d x0 x1 x2).1) 0), .exit 2, [wsl 0, vi ((r76l1d x0 x1 x2).2.1), vi x1], ⟨[⟨true, (some (.tab sc0 ((r76l1d x0 x1 x2).2.2)))⟩], 1, [0]⟩)].map fun (b, x) => (b, (x.1, frameOf 58 [0, 1, 5] x.2.1, x.2.2))) :=
 (show _ = w76l1d x0 x1 x2 from by kernel_rfl).trans
 (show w76l1d x0 x1 x2 = a76l1d x0 x1 x2 (r76l1d x0 x1 x2) from by unfold w76l1d r76l1d; exact (cond_both (a76l1d x0 x1 x2) _ (fun h0 => (cond_t (ev_and2 h0) (cond_app (a76l1d x0 x1 x2) _ rfl rfl))) (fun h0 => rfl)))
noncomputable def Q76l1d : SumK := fun vals s =>
 match vals, s.h with
 | [.iface f0 .nilIface, .int .i64 x0, .int .i64 x1, .int .i64 f1], [⟨true, some (.tab [.fl .f32, .fl .f32, .fl .f32, .fl .f32, .fl .f32, .fl .f32, .fl .f32, .fl .f32, .fl .f32, .fl .f32, .fl .f32, .fl .f32, .fl .f32, .fl .f32, .fl .f32, .fl .f32, .fl .f32, .fl .f32] x2)⟩] => if f0 = 0 ∧ f1 = 3 then [((Nat.beq ((r76l1d x0 x1 x2).1) 0), .exit 2, [wsl 0, vi ((r76l1d x0 x1 x2).2.1), vi x1], ⟨[⟨true, (some (.tab sc0 ((r76l1d x0 x1 x2).2.2)))⟩], 1, [0]⟩)] else Q76l1c vals s
 | _, _ => Q76l1c vals s
set_option maxRecDepth 100000 in
set_option maxHeartbeats 4000000 in
theorem qok76l1d : SumKOk Tryz.prog (loopN Tryz.f76 1) 58 [0, 1, 5, 6] [0, 1, 5] Q76l1d := by
  intro vals s x h1 h2 h3
  unfold Q76l1d at h3; split at h3
  · rename_i h; split at h3
    · rename_i hc; obtain ⟨rfl, rfl⟩ := hc; exact sum_step ok55 extOk mixed (lok76_4.inner (by kernel_rfl)) qok76l1c h1 h2 h (e76l1d _ _ _) rfl h3
    · exact qok76l1c _ _ _ h1 h2 h3
  · exact qok76l1c _ _ _ h1 h2 h3
noncomputable def L76_5 : LoopT := addL L76_4 6 ([0, 1, 5, 6], []) (sumK 58 [0, 1, 5, 6] [0, 1, 5] Q76l1d)
theorem lok76_5 : LfOkF Tryz.prog L76_5 Tryz.f76 := lfOkF_add lok76_4 qok76l1d (by kernel_rfl) (by kernel_rfl) (by kernel_rfl)

/-- laws.markWoodS, loop 1 -/
noncomputable def r76l1e (x0 x1 : Int) (x2 : List (List Int)) : Nat × Int × List (List Int) :=
 let c388 := (r76l1d (IntKind.i64.wrap (x0 + 1)) x1 (x2.modify (Int.toNat x1) (fun r => spl 18 r 2 [(((ofInt .f32 x0) : Nat) : Int)])))
 cond ((decide ((0 : Int) ≤ x1)) && (Nat.blt (Int.toNat x1) x2.length)) (cond (Nat.beq (c388.1) 0) (0, (c388.2.1), (c388.2.2)) (1, 0, [])) (1, 0, [])
noncomputable def a76l1e (x0 x1 : Int) (x2 : List (List Int)) (p : Nat × Int × List (List Int)) : Option (Fin' × List Value × St) := firstT ([((Nat.beq (p.1) 0), .exit 2, [wsl 0, vi (p.2.1), vi x1], ⟨[⟨true, (some (.tab sc0 (p.2.2)))⟩], 1, [0]⟩)].map fun (b, x) => (b, (x.1, frameOf 58 [0, 1, 5] x.2.1, x.2.2)))
noncomputable def w76l1e (x0 x1 : Int) (x2 : List (List Int)) : Option (Fin' × List Value × St) :=
 let c388 := (r76l1d (IntKind.i64.wrap (x0 + 1)) x1 (x2.modify (Int.toNat x1) (fun r => spl 18 r 2 [(((ofInt .f32 x0) : Nat) : Int)])))
 (cond ((decide ((0 : Int) ≤ x1)) && (Nat.blt (Int.toNat x1) x2.length))
 (cond (Nat.blt (Int.toNat x1) x2.length) (cond (Nat.beq (c388.1) 0) (a76l1e x0 x1 x2 (0, (c388.2.1), (c388.2.2))) none) none)
 none)
set_option maxRecDepth 100000 in
set_option maxHeartbeats 4000000 in
theorem e76l1e (x0 x1 : Int) (x2 : List (List Int)) : evC Tryz.prog ext T55 L76_5 200 (loopN Tryz.f76 1) (loopTail ([0, 1, 5, 6], []) [0, 1, 5] [] (sumK 58 [0, 1, 5, 6] [0, 1, 5] Q76l1d)) (frameOf 58 [0, 1, 5, 6] [wsl 0, vi x0, vi x1, vi 2]) ⟨[⟨true, (some (.tab sc0 x2))⟩], 1, []⟩ = firstT ([((Nat.beq ((r76l1e x0 x1 x2).1) 0), .exit 2, [wsl 0, vi ((r76l1e x0 x1 x2).2.1), vi x1], ⟨[⟨true, (some (.tab sc0 ((r76l1e x0 x1 x2).2.2)))⟩], 1, [0]⟩)].map fun (b, x) => (b, (x.1, frameOf 58 [0, 1, 5] x.2.1, x.2.2))) :=
 (show _ = w76l1e x0 x1 x2 from by kernel_rfl).trans
 (show w76l1e x0 x1 x2 = a76l1e x0 x1 x2 (r76l1e x0 x1 x2) from by unfold w76l1e r76l1e; exact (cond_both (a76l1e x0 x1 x2) _ (fun h0 => (cond_t (ev_and2 h0) (cond_app (a76l1e x0 x1 x2) _ rfl rfl))) (fun h0 => rfl)))
noncomputable def Q76l1e : SumK := fun vals s =>
 match vals, s.h with
 | [.iface f0 .nilIface, .int .i64 x0, .int .i64 x1, .int .i64 f1], [⟨true, some (.tab [.fl .f32, .fl .f32, .fl .f32, .fl .f32, .fl .f32, .fl .f32, .fl .f32, .fl .f32, .fl .f32, .fl .f32, .fl .f32, .fl .f32, .fl .f32, .fl .f32, .fl .f32, .fl .f32, .fl .f32, .fl .f32] x2)⟩] => if f0 = 0 ∧ f1 = 2 then [((Nat.beq ((r76l1e x0 x1 x2).1) 0), .exit 2, [wsl 0, vi ((r76l1e x0 x1 x2).2.1), vi x1], ⟨[⟨true, (some (.tab sc0 ((r76l1e x0 x1 x2).2.2)))⟩], 1, [0]⟩)] else Q76l1d vals s
 | _, _ => Q76l1d vals s
set_option maxRecDepth 100000 in
set_option maxHeartbeats 4000000 in
theorem qok76l1e : SumKOk Tryz.prog (loopN Tryz.f76 1) 58 [0, 1, 5, 6] [0, 1, 5] Q76l1e := by
  intro vals s x h1 h2 h3
  unfold Q76l1e at h3; split at h3
  · rename_i h; split at h3
    · rename_i hc; obtain ⟨rfl, rfl⟩ := hc; exact sum_step ok55 extOk mixed (lok76_5.inner (by kernel_rfl)) qok76l1d h1 h2 h (e76l1e _ _ _) rfl h3
    · exact qok76l1d _ _ _ h1 h2 h3
  · exact qok76l1d _ _ _ h1 h2 h3
noncomputable def L76_6 : LoopT := addL L76_5 6 ([0, 1, 5, 6], []) (sumK 58 [0, 1, 5, 6] [0, 1, 5] Q76l1e)
theorem lok76_6 : LfOkF Tryz.prog L76_6 Tryz.f76 := lfOkF_add lok76_5 qok76l1e (by kernel_rfl) (by kernel_rfl) (by kernel_rfl)

/-- laws.markWoodS, loop 1 -/
noncomputable def r76l1f (x0 x1 : Int) (x2 : List (List Int)) : Nat × Int × List (List Int) :=
 let c389 := (r76l1e (IntKind.i64.wrap (x0 + 1)) x1 (x2.modify (Int.toNat x1) (fun r => spl 18 r 1 [(((ofInt .f32 x0) : Nat) : Int)])))
 cond ((decide ((0 : Int) ≤ x1)) && (Nat.blt (Int.toNat x1) x2.length)) (cond (Nat.beq (c389.1) 0) (0, (c389.2.1), (c389.2.2)) (1, 0, [])) (1, 0, [])
noncomputable def a76l1f (x0 x1 : Int) (x2 : List (List Int)) (p : Nat × Int × List (List Int)) : Option (Fin' × List Value × St) := firstT ([((Nat.beq (p.1) 0), .exit 2, [wsl 0, vi (p.2.1), vi x1], ⟨[⟨true, (some (.tab sc0 (p.2.2)))⟩], 1, [0]⟩)].map fun (b, x) => (b, (x.1, frameOf 58 [0, 1, 5] x.2.1, x.2.2)))
noncomputable def w76l1f (x0 x1 : Int) (x2 : List (List Int)) : Option (Fin' × List Value × St) :=
 let c389 := (r76l1e (IntKind.i64.wrap (x0 + 1)) x1 (x2.modify (Int.toNat x1) (fun r => spl 18 r 1 [(((ofInt .f32 x0) : Nat) : Int)])))
 (cond ((decide ((0 : Int) ≤ x1)) && (Nat.blt (Int.toNat x1) x2.length))
 (cond (Nat.blt (Int.toNat x1) x2.length) (cond (Nat.beq (c389.1) 0) (a76l1f x0 x1 x2 (0, (c389.2.1), (c389.2.2))) none) none)
 none)
set_option maxRecDepth 100000 in
set_option maxHeartbeats 4000000 in
theorem e76l1f (x0 x1 : Int) (x2 : List (List Int)) : evC Tryz.prog ext T55 L76_6 200 (loopN Tryz.f76 1) (loopTail ([0, 1, 5, 6], []) [0, 1, 5] [] (sumK 58 [0, 1, 5, 6] [0, 1, 5] Q76l1e)) (frameOf 58 [0, 1, 5, 6] [wsl 0, vi x0, vi x1, vi 1]) ⟨[⟨true, (some (.tab sc0 x2))⟩], 1, []⟩ = firstT ([((Nat.beq ((r76l1f x0 x1 x2).1) 0), .exit 2, [wsl 0, vi ((r76l1f x0 x1 x2).2.1), vi x1], ⟨[⟨true, (some (.tab sc0 ((r76l1f x0 x1 x2).2.2)))⟩], 1, [0]⟩)].map fun (b, x) => (b, (x.1, frameOf 58 [0, 1, 5] x.2.1, x.2.2))) :=
 (show _ = w76l1f x0 x1 x2 from by kernel_rfl).trans
 (show w76l1f x0 x1 x2 = a76l1f x0 x1 x2 (r76l1f x0 x1 x2) from by unfold w76l1f r76l1f; exact (cond_both (a76l1f x0 x1 x2) _ (fun h0 => (cond_t (ev_and2 h0) (cond_app (a76l1f x0 x1 x2) _ rfl rfl))) (fun h0 => rfl)))
noncomputable def Q76l1f : SumK := fun vals s =>
 match vals, s.h with
 | [.iface f0 .nilIface, .int .i64 x0, .int .i64 x1, .int .i64 f1], [⟨true, some (.tab [.fl .f32, .fl .f32, .fl .f32, .fl .f32, .fl .f32, .fl .f32, .fl .f32, .fl .f32, .fl .f32, .fl .f32, .fl .f32, .fl .f32, .fl .f32, .fl .f32, .fl .f32, .fl .f32, .fl .f32, .fl .f32] x2)⟩] => if f0 = 0 ∧ f1 = 1 then [((Nat.beq ((r76l1f x0 x1 x2).1) 0), .exit 2, [wsl 0, vi ((r76l1f x0 x1 x2).2.1), vi x1], ⟨[⟨true, (some (.tab sc0 ((r76l1f x0 x1 x2).2.2)))⟩], 1, [0]⟩)] else Q76l1e vals s
 | _, _ => Q76l1e vals s
set_option maxRecDepth 100000 in
set_option maxHeartbeats 4000000 in
theorem qok76l1f : SumKOk Tryz.prog (loopN Tryz.f76 1) 58 [0, 1, 5, 6] [0, 1, 5] Q76l1f := by
  intro vals s x h1 h2 h3
  unfold Q76l1f at h3; split at h3
  · rename_i h; split at h3
    · rename_i hc; obtain ⟨rfl, rfl⟩ := hc; exact sum_step ok55 extOk mixed (lok76_6.inner (by kernel_rfl)) qok76l1e h1 h2 h (e76l1f _ _ _) rfl h3
    · exact qok76l1e _ _ _ h1 h2 h3
  · exact qok76l1e _ _ _ h1 h2 h3
noncomputable def L76_7 : LoopT := addL L76_6 6 ([0, 1, 5, 6], []) (sumK 58 [0, 1, 5, 6] [0, 1, 5] Q76l1f)
theorem lok76_7 : LfOkF Tryz.prog L76_7 Tryz.f76 := lfOkF_add lok76_6 qok76l1f (by kernel_rfl) (by kernel_rfl) (by kernel_rfl)

/-- laws.markWoodS, loop 1 -/
noncomputable def r76l1g (x0 x1 : Int) (x2 : List (List Int)) : Nat × Int × List (List Int) :=
 let c390 := (r76l1f (IntKind.i64.wrap (x0 + 1)) x1 (x2.modify (Int.toNat x1) (fun r => spl 18 r 0 [(((ofInt .f32 x0) : Nat) : Int)])))
 cond ((decide ((0 : Int) ≤ x1)) && (Nat.blt (Int.toNat x1) x2.length)) (cond (Nat.beq (c390.1) 0) (0, (c390.2.1), (c390.2.2)) (1, 0, [])) (1, 0, [])
noncomputable def a76l1g (x0 x1 : Int) (x2 : List (List Int)) (p : Nat × Int × List (List Int)) : Option (Fin' × List Value × St) := firstT ([((Nat.beq (p.1) 0), .exit 2, [wsl 0, vi (p.2.1), vi x1], ⟨[⟨true, (some (.tab sc0 (p.2.2)))⟩], 1, [0]⟩)].map fun (b, x) => (b, (x.1, frameOf 58 [0, 1, 5] x.2.1, x.2.2)))
noncomputable def w76l1g (x0 x1 : Int) (x2 : List (List Int)) : Option (Fin' × List Value × St) :=
 let c390 := (r76l1f (IntKind.i64.wrap (x0 + 1)) x1 (x2.modify (Int.toNat x1) (fun r => spl 18 r 0 [(((ofInt .f32 x0) : Nat) : Int)])))
 (cond ((decide ((0 : Int) ≤ x1)) && (Nat.blt (Int.toNat x1) x2.length))
 (cond (Nat.blt (Int.toNat x1) x2.length) (cond (Nat.beq (c390.1) 0) (a76l1g x0 x1 x2 (0, (c390.2.1), (c390.2.2))) none) none)
 none)
set_option maxRecDepth 100000 in
set_option maxHeartbeats 4000000 in
theorem e76l1g (x0 x1 : Int) (x2 : List (List Int)) : evC Tryz.prog ext T55 L76_7 200 (loopN Tryz.f76 1) (loopTail ([0, 1, 5, 6], []) [0, 1, 5] [] (sumK 58 [0, 1, 5, 6] [0, 1, 5] Q76l1f)) (frameOf 58 [0, 1, 5, 6] [wsl 0, vi x0, vi x1, vi 0]) ⟨[⟨true, (some (.tab sc0 x2))⟩], 1, []⟩ = firstT ([((Nat.beq ((r76l1g x0 x1 x2).1) 0), .exit 2, [wsl 0, vi ((r76l1g x0 x1 x2).2.1), vi x1], ⟨[⟨true, (some (.tab sc0 ((r76l1g x0 x1 x2).2.2)))⟩], 1, [0]⟩)].map fun (b, x) => (b, (x.1, frameOf 58 [0, 1, 5] x.2.1, x.2.2))) :=
 (show _ = w76l1g x0 x1 x2 from by kernel_rfl).trans
 (show w76l1g x0 x1 x2 = a76l1g x0 x1 x2 (r76l1g x0 x1 x2) from by unfold w76l1g r76l1g; exact (cond_both (a76l1g x0 x1 x2) _ (fun h0 => (cond_t (ev_and2 h0) (cond_app (a76l1g x0 x1 x2) _ rfl rfl))) (fun h0 => rfl)))
noncomputable def Q76l1g : SumK := fun vals s =>
 match vals, s.h with
 | [.iface f0 .nilIface, .int .i64 x0, .int .i64 x1, .int .i64 f1], [⟨true, some (.tab [.fl .f32, .fl .f32, .fl .f32, .fl .f32, .fl .f32, .fl .f32, .fl .f32, .fl .f32, .fl .f32, .fl .f32, .fl .f32, .fl .f32, .fl .f32, .fl .f32, .fl .f32, .fl .f32, .fl .f32, .fl .f32] x2)⟩] => if f0 = 0 ∧ f1 = 0 then [((Nat.beq ((r76l1g x0 x1 x2).1) 0), .exit 2, [wsl 0, vi ((r76l1g x0 x1 x2).2.1), vi x1], ⟨[⟨true, (some (.tab sc0 ((r76l1g x0 x1 x2).2.2)))⟩], 1, [0]⟩)] else Q76l1f vals s
 | _, _ => Q76l1f vals s
set_option maxRecDepth 100000 in
set_option maxHeartbeats 4000000 in
theorem qok76l1g : SumKOk Tryz.prog (loopN Tryz.f76 1) 58 [0, 1, 5, 6] [0, 1, 5] Q76l1g := by
  intro vals s x h1 h2 h3
  unfold Q76l1g at h3; split at h3
  · rename_i h; split at h3
    · rename_i hc; obtain ⟨rfl, rfl⟩ := hc; exact sum_step ok55 extOk mixed (lok76_7.inner (by kernel_rfl)) qok76l1f h1 h2 h (e76l1g _ _ _) rfl h3
    · exact qok76l1f _ _ _ h1 h2 h3
  · exact qok76l1f _ _ _ h1 h2 h3
noncomputable def L76_8 : LoopT := addL L76_7 6 ([0, 1, 5, 6], []) (sumK 58 [0, 1, 5, 6] [0, 1, 5] Q76l1g)
theorem lok76_8 : LfOkF Tryz.prog L76_8 Tryz.f76 := lfOkF_add lok76_7 qok76l1g (by kernel_rfl) (by kernel_rfl) (by kernel_rfl)
end Go.Proofs.YtbmagccjcccnaaaGreatDoor
