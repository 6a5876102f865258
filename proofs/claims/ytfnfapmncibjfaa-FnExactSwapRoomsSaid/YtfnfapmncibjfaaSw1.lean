/- What the functions that the statements reach answer, part 1. -/
import Derived.Test.YtfnfapmncibjfaaA23
import Derived.KernelRfl
import Derived.Test.YtfnfapmncibjfaaChecked
namespace Go.Proofs.Ytfnfapmncibjfaa
open Go.Ab
set_option maxHeartbeats 4000000
set_option maxRecDepth 100000

def ext : FuncId → Option Ext := fun g => (cond (Nat.beq g 123) (some .f32bits) (cond (Nat.beq g 129) (some .f64from) (cond (Nat.beq g 130) (some .f64bits) none)))
theorem ext_case {g : FuncId} {e : Ext} (h : ext g = some e) : g = 123 ∧ e = .f32bits ∨ g = 129 ∧ e = .f64from ∨ g = 130 ∧ e = .f64bits := by
  unfold ext at h
  cases h0 : Nat.beq g 123 with
  | true => rw [h0] at h; cases h; exact .inl ⟨Nat.eq_of_beq_eq_true h0, rfl⟩
  | false =>
    rw [h0] at h
    cases h1 : Nat.beq g 129 with
    | true => rw [h1] at h; cases h; exact .inr (.inl ⟨Nat.eq_of_beq_eq_true h1, rfl⟩)
    | false =>
      rw [h1] at h
      cases h2 : Nat.beq g 130 with
      | true => rw [h2] at h; cases h; exact .inr (.inr (⟨Nat.eq_of_beq_eq_true h2, rfl⟩))
      | false =>
        rw [h2] at h
        cases h
theorem extOk : ExtOk Try.prog ext := by
  intro g e h
  rcases ext_case h with ⟨rfl, rfl⟩ | ⟨rfl, rfl⟩ | ⟨rfl, rfl⟩
  · exact ⟨Try.f123, Try.func123, by kernel_rfl, by kernel_rfl, by kernel_rfl, by kernel_rfl⟩
  · exact ⟨Try.f129, Try.func129, by kernel_rfl, by kernel_rfl, by kernel_rfl, by kernel_rfl⟩
  · exact ⟨Try.f130, Try.func130, by kernel_rfl, by kernel_rfl, by kernel_rfl, by kernel_rfl⟩
theorem mixed : Try.prog.follows .mixedOrders = true := by kernel_rfl
theorem callOk {cf : CallF} (hcf : CfOk Try.prog cf) {lf : LoopT} {N : Nat} {f : FuncId} {fn : Func} (hf : Try.prog.funcs[f]? = some fn) {args : List Value} {s : St} {l : List Blk} {n : Nat} {L : List (Bool × Value × St)} {r' : Value} {s' : St} (h1 : s.lo = s.h.length) (h2 : s.wr = []) (h : s.h = l) (hl : ∀ c, fn.body = some c → LfOk Try.prog lf (loopsOf c)) (he : evFn Try.prog ext cf lf N fn args ⟨l, n, []⟩ = firstT L) (hn : n = l.length) (h3 : firstT L = some (r', s')) : CallsOK Try.prog f args s r' s' :=
  call_ok extOk mixed hcf hf h1 h2 h hl he hn h3
def T0 : CallF := noF
theorem ok0 : CfOk Try.prog T0 := cfOk_no _
def sc0 : List CT := [.int .i64, .int .i64, .fl .f32, .fl .f32, .fl .f32, .fl .f32, .fl .f32, .fl .f32]
def sc1 : List CT := [.int .i64, .int .i64, .fl .f32, .fl .f32]

/-- laws.szFloat32S -/
noncomputable def r74 (x0 : Int) (x1 : List (List Int)) : Int :=
 cond (decide (((IntKind.i64.wrap (x0 - ((x1.length : Nat) : Int))) : Int) < 0))
  ((-1))
  ((IntKind.i64.wrap (x0 - ((x1.length : Nat) : Int))))
noncomputable def a74 (x0 : Int) (x1 : List (List Int)) (p : Int) : Res := firstT [(true, .int .i64 p, ⟨[⟨false, (some (.tab [.fl .f32] x1))⟩], 1, []⟩)]
noncomputable def w74 (x0 : Int) (x1 : List (List Int)) : Res :=
 (cond (decide (((IntKind.i64.wrap (x0 - ((x1.length : Nat) : Int))) : Int) < 0))
 (a74 x0 x1 ((-1)))
 (a74 x0 x1 ((IntKind.i64.wrap (x0 - ((x1.length : Nat) : Int))))))
set_option maxRecDepth 100000 in
set_option maxHeartbeats 4000000 in
theorem e74 (x0 : Int) (x1 : List (List Int)) : evFn Try.prog ext T0 noL 200 Try.f74 [wsl 0, .int .i64 x0] ⟨[⟨false, (some (.tab [.fl .f32] x1))⟩], 1, []⟩ = firstT [(true, .int .i64 (r74 x0 x1), ⟨[⟨false, (some (.tab [.fl .f32] x1))⟩], 1, []⟩)] :=
 (show evFn Try.prog ext T0 noL 200 Try.f74 [wsl 0, .int .i64 x0] ⟨[⟨false, (some (.tab [.fl .f32] x1))⟩], 1, []⟩ = w74 x0 x1 from by kernel_rfl).trans
 (show w74 x0 x1 = a74 x0 x1 (r74 x0 x1) from by unfold w74 r74; exact (cond_app (a74 x0 x1) _ rfl rfl))
noncomputable def s74 (args : List Value) (s : St) : List (Bool × Value × St) :=
 match args, s.h with
 | [.iface f0 .nilIface, .int .i64 x0], [⟨false, some (.tab [.fl .f32] x1)⟩] => if f0 = 0 then [(true, .int .i64 (r74 x0 x1), ⟨[⟨false, (some (.tab [.fl .f32] x1))⟩], 1, []⟩)] else T0 74 args s
 | _, _ => T0 74 args s
noncomputable def T1 : CallF := addF T0 74 s74
set_option maxRecDepth 100000 in
set_option maxHeartbeats 4000000 in
theorem ok1 : CfOk Try.prog T1 := by
  refine cfOk_add ok0 fun args s r s' h1 h2 h3 => ?_
  unfold s74 at h3; split at h3
  · rename_i h; split at h3
    · rename_i hc; obtain ⟨rfl⟩ := hc; exact callOk ok0 Try.func74 h1 h2 h (lfOkF_no _ _).body (e74 _ _) rfl h3
    · exact ok0 _ _ _ _ _ h1 h2 h3
  · exact ok0 _ _ _ _ _ h1 h2 h3

/-- laws.szWallS -/
noncomputable def r75 (x0 : Int) (x1 : List (List Int)) : Int :=
 cond (decide (((IntKind.i64.wrap (x0 - ((x1.length : Nat) : Int))) : Int) < 0))
  ((-1))
  ((IntKind.i64.wrap (x0 - ((x1.length : Nat) : Int))))
noncomputable def a75 (x0 : Int) (x1 : List (List Int)) (p : Int) : Res := firstT [(true, .int .i64 p, ⟨[⟨false, (some (.tab sc0 x1))⟩], 1, []⟩)]
noncomputable def w75 (x0 : Int) (x1 : List (List Int)) : Res :=
 (cond (decide (((IntKind.i64.wrap (x0 - ((x1.length : Nat) : Int))) : Int) < 0))
 (a75 x0 x1 ((-1)))
 (a75 x0 x1 ((IntKind.i64.wrap (x0 - ((x1.length : Nat) : Int))))))
set_option maxRecDepth 100000 in
set_option maxHeartbeats 4000000 in
theorem e75 (x0 : Int) (x1 : List (List Int)) : evFn Try.prog ext T1 noL 200 Try.f75 [wsl 0, .int .i64 x0] ⟨[⟨false, (some (.tab sc0 x1))⟩], 1, []⟩ = firstT [(true, .int .i64 (r75 x0 x1), ⟨[⟨false, (some (.tab sc0 x1))⟩], 1, []⟩)] :=
 (show evFn Try.prog ext T1 noL 200 Try.f75 [wsl 0, .int .i64 x0] ⟨[⟨false, (some (.tab sc0 x1))⟩], 1, []⟩ = w75 x0 x1 from by kernel_rfl).trans
 (show w75 x0 x1 = a75 x0 x1 (r75 x0 x1) from by unfold w75 r75; exact (cond_app (a75 x0 x1) _ rfl rfl))
noncomputable def s75 (args : List Value) (s : St) : List (Bool × Value × St) :=
 match args, s.h with
 | [.iface f0 .nilIface, .int .i64 x0], [⟨false, some (.tab [.int .i64, .int .i64, .fl .f32, .fl .f32, .fl .f32, .fl .f32, .fl .f32, .fl .f32] x1)⟩] => if f0 = 0 then [(true, .int .i64 (r75 x0 x1), ⟨[⟨false, (some (.tab sc0 x1))⟩], 1, []⟩)] else T1 75 args s
 | _, _ => T1 75 args s
noncomputable def T2 : CallF := addF T1 75 s75
set_option maxRecDepth 100000 in
set_option maxHeartbeats 4000000 in
theorem ok2 : CfOk Try.prog T2 := by
  refine cfOk_add ok1 fun args s r s' h1 h2 h3 => ?_
  unfold s75 at h3; split at h3
  · rename_i h; split at h3
    · rename_i hc; obtain ⟨rfl⟩ := hc; exact callOk ok1 Try.func75 h1 h2 h (lfOkF_no _ _).body (e75 _ _) rfl h3
    · exact ok1 _ _ _ _ _ h1 h2 h3
  · exact ok1 _ _ _ _ _ h1 h2 h3

/-- laws.szPaneS -/
noncomputable def r76 (x0 : Int) (x1 : List (List Int)) : Int :=
 cond (decide (((IntKind.i64.wrap (x0 - ((x1.length : Nat) : Int))) : Int) < 0))
  ((-1))
  ((IntKind.i64.wrap (x0 - ((x1.length : Nat) : Int))))
noncomputable def a76 (x0 : Int) (x1 : List (List Int)) (p : Int) : Res := firstT [(true, .int .i64 p, ⟨[⟨false, (some (.tab sc1 x1))⟩], 1, []⟩)]
noncomputable def w76 (x0 : Int) (x1 : List (List Int)) : Res :=
 (cond (decide (((IntKind.i64.wrap (x0 - ((x1.length : Nat) : Int))) : Int) < 0))
 (a76 x0 x1 ((-1)))
 (a76 x0 x1 ((IntKind.i64.wrap (x0 - ((x1.length : Nat) : Int))))))
set_option maxRecDepth 100000 in
set_option maxHeartbeats 4000000 in
theorem e76 (x0 : Int) (x1 : List (List Int)) : evFn Try.prog ext T2 noL 200 Try.f76 [wsl 0, .int .i64 x0] ⟨[⟨false, (some (.tab sc1 x1))⟩], 1, []⟩ = firstT [(true, .int .i64 (r76 x0 x1), ⟨[⟨false, (some (.tab sc1 x1))⟩], 1, []⟩)] :=
 (show evFn Try.prog ext T2 noL 200 Try.f76 [wsl 0, .int .i64 x0] ⟨[⟨false, (some (.tab sc1 x1))⟩], 1, []⟩ = w76 x0 x1 from by kernel_rfl).trans
 (show w76 x0 x1 = a76 x0 x1 (r76 x0 x1) from by unfold w76 r76; exact (cond_app (a76 x0 x1) _ rfl rfl))
noncomputable def s76 (args : List Value) (s : St) : List (Bool × Value × St) :=
 match args, s.h with
 | [.iface f0 .nilIface, .int .i64 x0], [⟨false, some (.tab [.int .i64, .int .i64, .fl .f32, .fl .f32] x1)⟩] => if f0 = 0 then [(true, .int .i64 (r76 x0 x1), ⟨[⟨false, (some (.tab sc1 x1))⟩], 1, []⟩)] else T2 76 args s
 | _, _ => T2 76 args s
noncomputable def T3 : CallF := addF T2 76 s76
set_option maxRecDepth 100000 in
set_option maxHeartbeats 4000000 in
theorem ok3 : CfOk Try.prog T3 := by
  refine cfOk_add ok2 fun args s r s' h1 h2 h3 => ?_
  unfold s76 at h3; split at h3
  · rename_i h; split at h3
    · rename_i hc; obtain ⟨rfl⟩ := hc; exact callOk ok2 Try.func76 h1 h2 h (lfOkF_no _ _).body (e76 _ _) rfl h3
    · exact ok2 _ _ _ _ _ h1 h2 h3
  · exact ok2 _ _ _ _ _ h1 h2 h3

/-- laws.szFlat -/
noncomputable def r23 (x0 : Int) (x1 x2 x3 x4 : List (List Int)) : Int :=
 cond (decide (((r74 x0 x1) : Int) < 0))
  ((-1))
  (cond (decide (((r74 (r74 x0 x1) x2) : Int) < 0))
   ((-1))
   (cond (decide (((r75 (r74 (r74 x0 x1) x2) x3) : Int) < 0))
    ((-1))
    (cond (decide (((r76 (r75 (r74 (r74 x0 x1) x2) x3) x4) : Int) < 0))
     ((-1))
     ((r76 (r75 (r74 (r74 x0 x1) x2) x3) x4)))))
noncomputable def a23 (x0 : Int) (x1 x2 x3 x4 : List (List Int)) (p : Int) : Res := firstT [(true, .int .i64 p, ⟨[⟨false, (some (.tab [.fl .f32] x1))⟩, ⟨false, (some (.tab [.fl .f32] x2))⟩, ⟨false, (some (.tab sc0 x3))⟩, ⟨false, (some (.tab sc1 x4))⟩], 4, []⟩)]
noncomputable def w23 (x0 : Int) (x1 x2 x3 x4 : List (List Int)) : Res :=
 (cond (decide (((r74 x0 x1) : Int) < 0))
 (a23 x0 x1 x2 x3 x4 ((-1)))
 (cond (decide (((r74 (r74 x0 x1) x2) : Int) < 0))
  (a23 x0 x1 x2 x3 x4 ((-1)))
  (cond (decide (((r75 (r74 (r74 x0 x1) x2) x3) : Int) < 0))
   (a23 x0 x1 x2 x3 x4 ((-1)))
   (cond (decide (((r76 (r75 (r74 (r74 x0 x1) x2) x3) x4) : Int) < 0))
    (a23 x0 x1 x2 x3 x4 ((-1)))
    (a23 x0 x1 x2 x3 x4 ((r76 (r75 (r74 (r74 x0 x1) x2) x3) x4)))))))
set_option maxRecDepth 100000 in
set_option maxHeartbeats 4000000 in
theorem e23 (x0 : Int) (x1 x2 x3 x4 : List (List Int)) : evFn Try.prog ext T3 noL 200 Try.f23 [.agg #[wsl 0, wsl 1, wsl 2, wsl 3], .int .i64 x0] ⟨[⟨false, (some (.tab [.fl .f32] x1))⟩, ⟨false, (some (.tab [.fl .f32] x2))⟩, ⟨false, (some (.tab sc0 x3))⟩, ⟨false, (some (.tab sc1 x4))⟩], 4, []⟩ = firstT [(true, .int .i64 (r23 x0 x1 x2 x3 x4), ⟨[⟨false, (some (.tab [.fl .f32] x1))⟩, ⟨false, (some (.tab [.fl .f32] x2))⟩, ⟨false, (some (.tab sc0 x3))⟩, ⟨false, (some (.tab sc1 x4))⟩], 4, []⟩)] :=
 (show evFn Try.prog ext T3 noL 200 Try.f23 [.agg #[wsl 0, wsl 1, wsl 2, wsl 3], .int .i64 x0] ⟨[⟨false, (some (.tab [.fl .f32] x1))⟩, ⟨false, (some (.tab [.fl .f32] x2))⟩, ⟨false, (some (.tab sc0 x3))⟩, ⟨false, (some (.tab sc1 x4))⟩], 4, []⟩ = w23 x0 x1 x2 x3 x4 from by kernel_rfl).trans
 (show w23 x0 x1 x2 x3 x4 = a23 x0 x1 x2 x3 x4 (r23 x0 x1 x2 x3 x4) from by unfold w23 r23; exact (cond_app (a23 x0 x1 x2 x3 x4) _ rfl (cond_app (a23 x0 x1 x2 x3 x4) _ rfl (cond_app (a23 x0 x1 x2 x3 x4) _ rfl (cond_app (a23 x0 x1 x2 x3 x4) _ rfl rfl)))))
noncomputable def s23 (args : List Value) (s : St) : List (Bool × Value × St) :=
 match args, s.h with
 | [.agg ⟨[.iface f0 .nilIface, .iface f1 .nilIface, .iface f2 .nilIface, .iface f3 .nilIface]⟩, .int .i64 x0], [⟨false, some (.tab [.fl .f32] x1)⟩, ⟨false, some (.tab [.fl .f32] x2)⟩, ⟨false, some (.tab [.int .i64, .int .i64, .fl .f32, .fl .f32, .fl .f32, .fl .f32, .fl .f32, .fl .f32] x3)⟩, ⟨false, some (.tab [.int .i64, .int .i64, .fl .f32, .fl .f32] x4)⟩] => if f0 = 0 ∧ f1 = 1 ∧ f2 = 2 ∧ f3 = 3 then [(true, .int .i64 (r23 x0 x1 x2 x3 x4), ⟨[⟨false, (some (.tab [.fl .f32] x1))⟩, ⟨false, (some (.tab [.fl .f32] x2))⟩, ⟨false, (some (.tab sc0 x3))⟩, ⟨false, (some (.tab sc1 x4))⟩], 4, []⟩)] else T3 23 args s
 | _, _ => T3 23 args s
noncomputable def T4 : CallF := addF T3 23 s23
set_option maxRecDepth 100000 in
set_option maxHeartbeats 4000000 in
theorem ok4 : CfOk Try.prog T4 := by
  refine cfOk_add ok3 fun args s r s' h1 h2 h3 => ?_
  unfold s23 at h3; split at h3
  · rename_i h; split at h3
    · rename_i hc; obtain ⟨rfl, rfl, rfl, rfl⟩ := hc; exact callOk ok3 Try.func23 h1 h2 h (lfOkF_no _ _).body (e23 _ _ _ _ _) rfl h3
    · exact ok3 _ _ _ _ _ h1 h2 h3
  · exact ok3 _ _ _ _ _ h1 h2 h3

/-- laws.toFloat32S, loop 0: one round -/
noncomputable def b30l0 (ih : Int → List (List Int) → List (List Int) → (Nat × List (List Int))) (x0 : Int) (x1 x2 : List (List Int)) : Nat × List (List Int) :=
 cond (decide ((x0 : Int) < ((x1.length : Nat) : Int)))
  (cond ((decide ((0 : Int) ≤ x0)) && (Nat.blt (Int.toNat x0) x1.length))
   (cond ((decide ((0 : Int) ≤ x0)) && (Nat.blt (Int.toNat x0) x2.length))
    (ih (IntKind.i64.wrap (x0 + 1)) x1 (x2.set (Int.toNat x0) [(((Int.toNat ((x1.getD (Int.toNat x0) []).getD 0 0)) : Nat) : Int)]))
    (1, []))
   (1, []))
  (0, x2)
noncomputable def r30l0 : Nat → Int → List (List Int) → List (List Int) → (Nat × List (List Int))
 | 0 => fun _ _ _ => (1, [])
 | m + 1 => b30l0 (r30l0 m)
noncomputable def a30l0 (x0 : Int) (x1 x2 : List (List Int)) (p : Nat × List (List Int)) : Option (Fin' × List Value × St) := firstT ([((Nat.beq (p.1) 0), .exit 0, [wsl 1], ⟨[⟨false, (some (.tab [.fl .f32] x1))⟩, ⟨true, (some (.tab [.fl .f32] (p.2)))⟩], 2, [1]⟩)].map fun (b, x) => (b, (x.1, frameOf 22 [3] x.2.1, x.2.2)))
noncomputable def u30l0 (x0 : Int) (x1 x2 : List (List Int)) (p : Nat × List (List Int)) : Option (Fin' × List Value × St) := alts ([((Nat.beq (p.1) 0), .exit 0, [wsl 1], ⟨[⟨false, (some (.tab [.fl .f32] x1))⟩, ⟨true, (some (.tab [.fl .f32] (p.2)))⟩], 2, [1]⟩)].map fun (b, x) => (b, (x.1, frameOf 22 [3] x.2.1, x.2.2))) some
theorem v30l0 (x0 : Int) (x1 x2 : List (List Int)) (p : Nat × List (List Int)) : u30l0 x0 x1 x2 p = a30l0 x0 x1 x2 p := alts_first _
noncomputable def q30l0 (m : Nat) : SumK := fun vals s =>
 match vals, s.h with
 | [.iface f0 .nilIface, .iface f1 .nilIface, .int .i64 x0], [⟨false, some (.tab [.fl .f32] x1)⟩, ⟨true, some (.tab [.fl .f32] x2)⟩] => if f0 = 0 ∧ f1 = 1 then [((Nat.beq ((r30l0 m x0 x1 x2).1) 0), .exit 0, [wsl 1], ⟨[⟨false, (some (.tab [.fl .f32] x1))⟩, ⟨true, (some (.tab [.fl .f32] ((r30l0 m x0 x1 x2).2)))⟩], 2, [1]⟩)] else noQ vals s
 | _, _ => noQ vals s
noncomputable def w30l0 (ih : Int → List (List Int) → List (List Int) → (Nat × List (List Int))) (x0 : Int) (x1 x2 : List (List Int)) : Option (Fin' × List Value × St) :=
 (cond (decide ((x0 : Int) < ((x1.length : Nat) : Int)))
 (cond ((decide ((0 : Int) ≤ x0)) && (Nat.blt (Int.toNat x0) x1.length))
  (cond (Nat.blt (Int.toNat x0) x1.length)
   (cond ((decide ((0 : Int) ≤ x0)) && (Nat.blt (Int.toNat x0) x2.length))
    (cond (Nat.blt (Int.toNat x0) x2.length)
     (u30l0 x0 x1 x2 (ih (IntKind.i64.wrap (x0 + 1)) x1 (x2.set (Int.toNat x0) [(((Int.toNat ((x1.getD (Int.toNat x0) []).getD 0 0)) : Nat) : Int)])))
     none)
    none)
   none)
  none)
 (a30l0 x0 x1 x2 (0, x2)))
set_option maxRecDepth 100000 in
set_option maxHeartbeats 4000000 in
theorem e30l0 (m : Nat) (x0 : Int) (x1 x2 : List (List Int)) : evC Try.prog ext T4 noL 200 (loopN Try.f30 0) (loopTail ([0, 3, 4], []) [3] [1] (sumK 22 [0, 3, 4] [3] (q30l0 m))) (frameOf 22 [0, 3, 4] [wsl 0, wsl 1, .int .i64 x0]) ⟨[⟨false, (some (.tab [.fl .f32] x1))⟩, ⟨true, (some (.tab [.fl .f32] x2))⟩], 2, []⟩ = firstT ([((Nat.beq ((r30l0 (m + 1) x0 x1 x2).1) 0), .exit 0, [wsl 1], ⟨[⟨false, (some (.tab [.fl .f32] x1))⟩, ⟨true, (some (.tab [.fl .f32] ((r30l0 (m + 1) x0 x1 x2).2)))⟩], 2, [1]⟩)].map fun (b, x) => (b, (x.1, frameOf 22 [3] x.2.1, x.2.2))) :=
 (show evC Try.prog ext T4 noL 200 (loopN Try.f30 0) (loopTail ([0, 3, 4], []) [3] [1] (sumK 22 [0, 3, 4] [3] (q30l0 m))) (frameOf 22 [0, 3, 4] [wsl 0, wsl 1, .int .i64 x0]) ⟨[⟨false, (some (.tab [.fl .f32] x1))⟩, ⟨true, (some (.tab [.fl .f32] x2))⟩], 2, []⟩ = w30l0 (r30l0 m) x0 x1 x2 from by kernel_rfl).trans
 (show w30l0 (r30l0 m) x0 x1 x2 = a30l0 x0 x1 x2 (r30l0 (m + 1) x0 x1 x2) from by unfold w30l0; show _ = a30l0 x0 x1 x2 (b30l0 (r30l0 m) x0 x1 x2); unfold b30l0; exact (cond_both (a30l0 x0 x1 x2) _ (fun h0 => (cond_both (a30l0 x0 x1 x2) _ (fun h1 => (cond_t (ev_and2 h1) (cond_both (a30l0 x0 x1 x2) _ (fun h2 => (cond_t (ev_and2 h2) (v30l0 x0 x1 x2 ((r30l0 m) (IntKind.i64.wrap (x0 + 1)) x1 (x2.set (Int.toNat x0) [(((Int.toNat ((x1.getD (Int.toNat x0) []).getD 0 0)) : Nat) : Int)]))))) (fun h2 => rfl)))) (fun h1 => rfl))) (fun h0 => rfl)))
set_option maxRecDepth 100000 in
set_option maxHeartbeats 4000000 in
theorem qm30l0 : ∀ m, SumKOk Try.prog (loopN Try.f30 0) 22 [0, 3, 4] [3] (q30l0 m) := by
  intro m
  induction m with
  | zero =>
    intro vals s x h1 h2 h3
    unfold q30l0 at h3; split at h3
    · rename_i h; split at h3
      · rename_i hc; obtain ⟨rfl, rfl⟩ := hc; exact absurd h3 (by simp [r30l0, firstT, Nat.beq])
      · exact noQ_ok _ _ _ h1 h2 h3
    · exact noQ_ok _ _ _ h1 h2 h3
  | succ m ih =>
    intro vals s x h1 h2 h3
    unfold q30l0 at h3; split at h3
    · rename_i h; split at h3
      · rename_i hc; obtain ⟨rfl, rfl⟩ := hc; exact sum_step ok4 extOk mixed ((lfOkF_no _ _).inner (by kernel_rfl)) ih h1 h2 h (e30l0 m _ _ _) rfl h3
      · exact noQ_ok _ _ _ h1 h2 h3
    · exact noQ_ok _ _ _ h1 h2 h3
noncomputable def Q30l0 : SumK := fun vals s => q30l0 (fuelOf vals s.h) vals s
theorem qok30l0 : SumKOk Try.prog (loopN Try.f30 0) 22 [0, 3, 4] [3] Q30l0 := fuel_ok qm30l0 fuelOf
noncomputable def L30_1 : LoopT := addL noL 4 ([0, 3, 4], []) (sumK 22 [0, 3, 4] [3] Q30l0)
theorem lok30_1 : LfOkF Try.prog L30_1 Try.f30 := lfOkF_add (lfOkF_no _ _) qok30l0 (by kernel_rfl) (by kernel_rfl) (by kernel_rfl)

/-- laws.toFloat32S -/
noncomputable def r30 (x0 : List (List Int)) : Nat × List (List Int) :=
 let c0 := (r30l0 (1000 + (List.replicate x0.length ([0] : List Int)).length + x0.length) 0 x0 (List.replicate x0.length ([0] : List Int)))
 cond (((decide ((0 : Int) ≤ ((x0.length : Nat) : Int)) && decide ((((x0.length : Nat) : Int) : Int) ≤ ((x0.length : Nat) : Int))) && decide (((4 : Nat) : Int) * ((x0.length : Nat) : Int) ≤ 281474976710656)) && decide (((x0.length : Nat) : Int) ≤ 9223372036854775807))
  (cond (Nat.beq (c0.1) 0)
   (0, (c0.2))
   (1, []))
  (1, [])
noncomputable def a30 (x0 : List (List Int)) (p : Nat × List (List Int)) : Res := firstT [((Nat.beq (p.1) 0), wsl 1, ⟨[⟨false, (some (.tab [.fl .f32] x0))⟩, ⟨true, (some (.tab [.fl .f32] (p.2)))⟩], 1, []⟩)]
noncomputable def w30 (x0 : List (List Int)) : Res :=
 let c0 := (r30l0 (1000 + (List.replicate x0.length ([0] : List Int)).length + x0.length) 0 x0 (List.replicate x0.length ([0] : List Int)))
 (cond (((decide ((0 : Int) ≤ ((x0.length : Nat) : Int)) && decide ((((x0.length : Nat) : Int) : Int) ≤ ((x0.length : Nat) : Int))) && decide (((4 : Nat) : Int) * ((x0.length : Nat) : Int) ≤ 281474976710656)) && decide (((x0.length : Nat) : Int) ≤ 9223372036854775807))
 (cond (Nat.beq (c0.1) 0)
  (a30 x0 (0, (c0.2)))
  none)
 none)
set_option maxRecDepth 100000 in
set_option maxHeartbeats 4000000 in
theorem e30 (x0 : List (List Int)) : evFn Try.prog ext T4 L30_1 200 Try.f30 [wsl 0] ⟨[⟨false, (some (.tab [.fl .f32] x0))⟩], 1, []⟩ = firstT [((Nat.beq ((r30 x0).1) 0), wsl 1, ⟨[⟨false, (some (.tab [.fl .f32] x0))⟩, ⟨true, (some (.tab [.fl .f32] ((r30 x0).2)))⟩], 1, []⟩)] :=
 (show evFn Try.prog ext T4 L30_1 200 Try.f30 [wsl 0] ⟨[⟨false, (some (.tab [.fl .f32] x0))⟩], 1, []⟩ = w30 x0 from by kernel_rfl).trans
 (show w30 x0 = a30 x0 (r30 x0) from by unfold w30 r30; exact (cond_app (a30 x0) _ (cond_app (a30 x0) _ rfl rfl) rfl))
noncomputable def s30 (args : List Value) (s : St) : List (Bool × Value × St) :=
 match args, s.h with
 | [.iface f0 .nilIface], [⟨false, some (.tab [.fl .f32] x0)⟩] => if f0 = 0 then [((Nat.beq ((r30 x0).1) 0), wsl 1, ⟨[⟨false, (some (.tab [.fl .f32] x0))⟩, ⟨true, (some (.tab [.fl .f32] ((r30 x0).2)))⟩], 1, []⟩)] else T4 30 args s
 | _, _ => T4 30 args s
noncomputable def T5 : CallF := addF T4 30 s30
set_option maxRecDepth 100000 in
set_option maxHeartbeats 4000000 in
theorem ok5 : CfOk Try.prog T5 := by
  refine cfOk_add ok4 fun args s r s' h1 h2 h3 => ?_
  unfold s30 at h3; split at h3
  · rename_i h; split at h3
    · rename_i hc; obtain ⟨rfl⟩ := hc; exact callOk ok4 Try.func30 h1 h2 h lok30_1.body (e30 _) rfl h3
    · exact ok4 _ _ _ _ _ h1 h2 h3
  · exact ok4 _ _ _ _ _ h1 h2 h3

/-- laws.toFloat32A4 -/
noncomputable def r127 (x0 x1 x2 x3 : Nat) : Unit :=
 ()
noncomputable def a127 (x0 x1 x2 x3 : Nat) (p : Unit) : Res := firstT [(true, .agg #[.float .f32 x0, .float .f32 x1, .float .f32 x2, .float .f32 x3], st0)]
noncomputable def w127 (x0 x1 x2 x3 : Nat) : Res :=
 (a127 x0 x1 x2 x3 ())
set_option maxRecDepth 100000 in
set_option maxHeartbeats 4000000 in
theorem e127 (x0 x1 x2 x3 : Nat) : evFn Try.prog ext T5 noL 200 Try.f127 [.agg #[.float .f32 x0, .float .f32 x1, .float .f32 x2, .float .f32 x3]] st0 = firstT [(true, .agg #[.float .f32 x0, .float .f32 x1, .float .f32 x2, .float .f32 x3], st0)] :=
 (show evFn Try.prog ext T5 noL 200 Try.f127 [.agg #[.float .f32 x0, .float .f32 x1, .float .f32 x2, .float .f32 x3]] st0 = w127 x0 x1 x2 x3 from by kernel_rfl).trans
 (show w127 x0 x1 x2 x3 = a127 x0 x1 x2 x3 (r127 x0 x1 x2 x3) from by unfold w127 r127; exact rfl)
noncomputable def s127 (args : List Value) (s : St) : List (Bool × Value × St) :=
 match args, s.h with
 | [.agg ⟨[.float .f32 x0, .float .f32 x1, .float .f32 x2, .float .f32 x3]⟩], [] => [(true, .agg #[.float .f32 x0, .float .f32 x1, .float .f32 x2, .float .f32 x3], st0)]
 | _, _ => T5 127 args s
noncomputable def T6 : CallF := addF T5 127 s127
set_option maxRecDepth 100000 in
set_option maxHeartbeats 4000000 in
theorem ok6 : CfOk Try.prog T6 := by
  refine cfOk_add ok5 fun args s r s' h1 h2 h3 => ?_
  unfold s127 at h3; split at h3
  · rename_i h; exact callOk ok5 Try.func127 h1 h2 h (lfOkF_no _ _).body (e127 _ _ _ _) rfl h3
  · exact ok5 _ _ _ _ _ h1 h2 h3

/-- laws.toWall -/
noncomputable def r118 (x0 x1 : Int) (x2 x3 x4 x5 x6 x7 : Nat) : Unit :=
 ()
noncomputable def a118 (x0 x1 : Int) (x2 x3 x4 x5 x6 x7 : Nat) (p : Unit) : Res := firstT [(true, .agg #[.int .i64 x0, .int .i64 x1, .float .f32 x2, .float .f32 x3, .float .f32 x4, .float .f32 x5, .float .f32 x6, .float .f32 x7], st0)]
noncomputable def w118 (x0 x1 : Int) (x2 x3 x4 x5 x6 x7 : Nat) : Res :=
 (a118 x0 x1 x2 x3 x4 x5 x6 x7 ())
set_option maxRecDepth 100000 in
set_option maxHeartbeats 4000000 in
theorem e118 (x0 x1 : Int) (x2 x3 x4 x5 x6 x7 : Nat) : evFn Try.prog ext T6 noL 200 Try.f118 [.agg #[.int .i64 x0, .int .i64 x1, .float .f32 x2, .float .f32 x3, .float .f32 x4, .float .f32 x5, .float .f32 x6, .float .f32 x7]] st0 = firstT [(true, .agg #[.int .i64 x0, .int .i64 x1, .float .f32 x2, .float .f32 x3, .float .f32 x4, .float .f32 x5, .float .f32 x6, .float .f32 x7], st0)] :=
 (show evFn Try.prog ext T6 noL 200 Try.f118 [.agg #[.int .i64 x0, .int .i64 x1, .float .f32 x2, .float .f32 x3, .float .f32 x4, .float .f32 x5, .float .f32 x6, .float .f32 x7]] st0 = w118 x0 x1 x2 x3 x4 x5 x6 x7 from by kernel_rfl).trans
 (show w118 x0 x1 x2 x3 x4 x5 x6 x7 = a118 x0 x1 x2 x3 x4 x5 x6 x7 (r118 x0 x1 x2 x3 x4 x5 x6 x7) from by unfold w118 r118; exact rfl)
noncomputable def s118 (args : List Value) (s : St) : List (Bool × Value × St) :=
 match args, s.h with
 | [.agg ⟨[.int .i64 x0, .int .i64 x1, .float .f32 x2, .float .f32 x3, .float .f32 x4, .float .f32 x5, .float .f32 x6, .float .f32 x7]⟩], [] => [(true, .agg #[.int .i64 x0, .int .i64 x1, .float .f32 x2, .float .f32 x3, .float .f32 x4, .float .f32 x5, .float .f32 x6, .float .f32 x7], st0)]
 | _, _ => T6 118 args s
noncomputable def T7 : CallF := addF T6 118 s118
set_option maxRecDepth 100000 in
set_option maxHeartbeats 4000000 in
theorem ok7 : CfOk Try.prog T7 := by
  refine cfOk_add ok6 fun args s r s' h1 h2 h3 => ?_
  unfold s118 at h3; split at h3
  · rename_i h; exact callOk ok6 Try.func118 h1 h2 h (lfOkF_no _ _).body (e118 _ _ _ _ _ _ _ _) rfl h3
  · exact ok6 _ _ _ _ _ h1 h2 h3

/-- laws.toWallS, loop 0: one round -/
noncomputable def b77l0 (ih : Int → List (List Int) → List (List Int) → (Nat × List (List Int))) (x0 : Int) (x1 x2 : List (List Int)) : Nat × List (List Int) :=
 cond (decide ((x0 : Int) < ((x1.length : Nat) : Int)))
  (cond ((decide ((0 : Int) ≤ x0)) && (Nat.blt (Int.toNat x0) x1.length))
   (cond ((decide ((0 : Int) ≤ x0)) && (Nat.blt (Int.toNat x0) x2.length))
    (ih (IntKind.i64.wrap (x0 + 1)) x1 (x2.set (Int.toNat x0) [((x1.getD (Int.toNat x0) []).getD 0 0), ((x1.getD (Int.toNat x0) []).getD 1 0), (((Int.toNat ((x1.getD (Int.toNat x0) []).getD 2 0)) : Nat) : Int), (((Int.toNat ((x1.getD (Int.toNat x0) []).getD 3 0)) : Nat) : Int), (((Int.toNat ((x1.getD (Int.toNat x0) []).getD 4 0)) : Nat) : Int), (((Int.toNat ((x1.getD (Int.toNat x0) []).getD 5 0)) : Nat) : Int), (((Int.toNat ((x1.getD (Int.toNat x0) []).getD 6 0)) : Nat) : Int), (((Int.toNat ((x1.getD (Int.toNat x0) []).getD 7 0)) : Nat) : Int)]))
    (1, []))
   (1, []))
  (0, x2)
noncomputable def r77l0 : Nat → Int → List (List Int) → List (List Int) → (Nat × List (List Int))
 | 0 => fun _ _ _ => (1, [])
 | m + 1 => b77l0 (r77l0 m)
noncomputable def a77l0 (x0 : Int) (x1 x2 : List (List Int)) (p : Nat × List (List Int)) : Option (Fin' × List Value × St) := firstT ([((Nat.beq (p.1) 0), .exit 0, [wsl 1], ⟨[⟨false, (some (.tab sc0 x1))⟩, ⟨true, (some (.tab sc0 (p.2)))⟩], 2, [1]⟩)].map fun (b, x) => (b, (x.1, frameOf 23 [3] x.2.1, x.2.2)))
noncomputable def u77l0 (x0 : Int) (x1 x2 : List (List Int)) (p : Nat × List (List Int)) : Option (Fin' × List Value × St) := alts ([((Nat.beq (p.1) 0), .exit 0, [wsl 1], ⟨[⟨false, (some (.tab sc0 x1))⟩, ⟨true, (some (.tab sc0 (p.2)))⟩], 2, [1]⟩)].map fun (b, x) => (b, (x.1, frameOf 23 [3] x.2.1, x.2.2))) some
theorem v77l0 (x0 : Int) (x1 x2 : List (List Int)) (p : Nat × List (List Int)) : u77l0 x0 x1 x2 p = a77l0 x0 x1 x2 p := alts_first _
noncomputable def q77l0 (m : Nat) : SumK := fun vals s =>
 match vals, s.h with
 | [.iface f0 .nilIface, .iface f1 .nilIface, .int .i64 x0], [⟨false, some (.tab [.int .i64, .int .i64, .fl .f32, .fl .f32, .fl .f32, .fl .f32, .fl .f32, .fl .f32] x1)⟩, ⟨true, some (.tab [.int .i64, .int .i64, .fl .f32, .fl .f32, .fl .f32, .fl .f32, .fl .f32, .fl .f32] x2)⟩] => if f0 = 0 ∧ f1 = 1 then [((Nat.beq ((r77l0 m x0 x1 x2).1) 0), .exit 0, [wsl 1], ⟨[⟨false, (some (.tab sc0 x1))⟩, ⟨true, (some (.tab sc0 ((r77l0 m x0 x1 x2).2)))⟩], 2, [1]⟩)] else noQ vals s
 | _, _ => noQ vals s
noncomputable def w77l0 (ih : Int → List (List Int) → List (List Int) → (Nat × List (List Int))) (x0 : Int) (x1 x2 : List (List Int)) : Option (Fin' × List Value × St) :=
 (cond (decide ((x0 : Int) < ((x1.length : Nat) : Int)))
 (cond ((decide ((0 : Int) ≤ x0)) && (Nat.blt (Int.toNat x0) x1.length))
  (cond (Nat.blt (Int.toNat x0) x1.length)
   (cond ((decide ((0 : Int) ≤ x0)) && (Nat.blt (Int.toNat x0) x2.length))
    (cond (Nat.blt (Int.toNat x0) x2.length)
     (u77l0 x0 x1 x2 (ih (IntKind.i64.wrap (x0 + 1)) x1 (x2.set (Int.toNat x0) [((x1.getD (Int.toNat x0) []).getD 0 0), ((x1.getD (Int.toNat x0) []).getD 1 0), (((Int.toNat ((x1.getD (Int.toNat x0) []).getD 2 0)) : Nat) : Int), (((Int.toNat ((x1.getD (Int.toNat x0) []).getD 3 0)) : Nat) : Int), (((Int.toNat ((x1.getD (Int.toNat x0) []).getD 4 0)) : Nat) : Int), (((Int.toNat ((x1.getD (Int.toNat x0) []).getD 5 0)) : Nat) : Int), (((Int.toNat ((x1.getD (Int.toNat x0) []).getD 6 0)) : Nat) : Int), (((Int.toNat ((x1.getD (Int.toNat x0) []).getD 7 0)) : Nat) : Int)])))
     none)
    none)
   none)
  none)
 (a77l0 x0 x1 x2 (0, x2)))
set_option maxRecDepth 100000 in
set_option maxHeartbeats 4000000 in
theorem e77l0 (m : Nat) (x0 : Int) (x1 x2 : List (List Int)) : evC Try.prog ext T7 noL 200 (loopN Try.f77 0) (loopTail ([0, 3, 4], []) [3] [1] (sumK 23 [0, 3, 4] [3] (q77l0 m))) (frameOf 23 [0, 3, 4] [wsl 0, wsl 1, .int .i64 x0]) ⟨[⟨false, (some (.tab sc0 x1))⟩, ⟨true, (some (.tab sc0 x2))⟩], 2, []⟩ = firstT ([((Nat.beq ((r77l0 (m + 1) x0 x1 x2).1) 0), .exit 0, [wsl 1], ⟨[⟨false, (some (.tab sc0 x1))⟩, ⟨true, (some (.tab sc0 ((r77l0 (m + 1) x0 x1 x2).2)))⟩], 2, [1]⟩)].map fun (b, x) => (b, (x.1, frameOf 23 [3] x.2.1, x.2.2))) :=
 (show evC Try.prog ext T7 noL 200 (loopN Try.f77 0) (loopTail ([0, 3, 4], []) [3] [1] (sumK 23 [0, 3, 4] [3] (q77l0 m))) (frameOf 23 [0, 3, 4] [wsl 0, wsl 1, .int .i64 x0]) ⟨[⟨false, (some (.tab sc0 x1))⟩, ⟨true, (some (.tab sc0 x2))⟩], 2, []⟩ = w77l0 (r77l0 m) x0 x1 x2 from by kernel_rfl).trans
 (show w77l0 (r77l0 m) x0 x1 x2 = a77l0 x0 x1 x2 (r77l0 (m + 1) x0 x1 x2) from by unfold w77l0; show _ = a77l0 x0 x1 x2 (b77l0 (r77l0 m) x0 x1 x2); unfold b77l0; exact (cond_both (a77l0 x0 x1 x2) _ (fun h0 => (cond_both (a77l0 x0 x1 x2) _ (fun h1 => (cond_t (ev_and2 h1) (cond_both (a77l0 x0 x1 x2) _ (fun h2 => (cond_t (ev_and2 h2) (v77l0 x0 x1 x2 ((r77l0 m) (IntKind.i64.wrap (x0 + 1)) x1 (x2.set (Int.toNat x0) [((x1.getD (Int.toNat x0) []).getD 0 0), ((x1.getD (Int.toNat x0) []).getD 1 0), (((Int.toNat ((x1.getD (Int.toNat x0) []).getD 2 0)) : Nat) : Int), (((Int.toNat ((x1.getD (Int.toNat x0) []).getD 3 0)) : Nat) : Int), (((Int.toNat ((x1.getD (Int.toNat x0) []).getD 4 0)) : Nat) : Int), (((Int.toNat ((x1.getD (Int.toNat x0) []).getD 5 0)) : Nat) : Int), (((Int.toNat ((x1.getD (Int.toNat x0) []).getD 6 0)) : Nat) : Int), (((Int.toNat ((x1.getD (Int.toNat x0) []).getD 7 0)) : Nat) : Int)]))))) (fun h2 => rfl)))) (fun h1 => rfl))) (fun h0 => rfl)))
set_option maxRecDepth 100000 in
set_option maxHeartbeats 4000000 in
theorem qm77l0 : ∀ m, SumKOk Try.prog (loopN Try.f77 0) 23 [0, 3, 4] [3] (q77l0 m) := by
  intro m
  induction m with
  | zero =>
    intro vals s x h1 h2 h3
    unfold q77l0 at h3; split at h3
    · rename_i h; split at h3
      · rename_i hc; obtain ⟨rfl, rfl⟩ := hc; exact absurd h3 (by simp [r77l0, firstT, Nat.beq])
      · exact noQ_ok _ _ _ h1 h2 h3
    · exact noQ_ok _ _ _ h1 h2 h3
  | succ m ih =>
    intro vals s x h1 h2 h3
    unfold q77l0 at h3; split at h3
    · rename_i h; split at h3
      · rename_i hc; obtain ⟨rfl, rfl⟩ := hc; exact sum_step ok7 extOk mixed ((lfOkF_no _ _).inner (by kernel_rfl)) ih h1 h2 h (e77l0 m _ _ _) rfl h3
      · exact noQ_ok _ _ _ h1 h2 h3
    · exact noQ_ok _ _ _ h1 h2 h3
noncomputable def Q77l0 : SumK := fun vals s => q77l0 (fuelOf vals s.h) vals s
theorem qok77l0 : SumKOk Try.prog (loopN Try.f77 0) 23 [0, 3, 4] [3] Q77l0 := fuel_ok qm77l0 fuelOf
noncomputable def L77_1 : LoopT := addL noL 4 ([0, 3, 4], []) (sumK 23 [0, 3, 4] [3] Q77l0)
theorem lok77_1 : LfOkF Try.prog L77_1 Try.f77 := lfOkF_add (lfOkF_no _ _) qok77l0 (by kernel_rfl) (by kernel_rfl) (by kernel_rfl)

/-- laws.toWallS -/
noncomputable def r77 (x0 : List (List Int)) : Nat × List (List Int) :=
 let c18 := (r77l0 (1000 + (List.replicate x0.length ([0, 0, 0, 0, 0, 0, 0, 0] : List Int)).length + x0.length) 0 x0 (List.replicate x0.length ([0, 0, 0, 0, 0, 0, 0, 0] : List Int)))
 cond (((decide ((0 : Int) ≤ ((x0.length : Nat) : Int)) && decide ((((x0.length : Nat) : Int) : Int) ≤ ((x0.length : Nat) : Int))) && decide (((40 : Nat) : Int) * ((x0.length : Nat) : Int) ≤ 281474976710656)) && decide (((x0.length : Nat) : Int) ≤ 9223372036854775807))
  (cond (Nat.beq (c18.1) 0)
   (0, (c18.2))
   (1, []))
  (1, [])
noncomputable def a77 (x0 : List (List Int)) (p : Nat × List (List Int)) : Res := firstT [((Nat.beq (p.1) 0), wsl 1, ⟨[⟨false, (some (.tab sc0 x0))⟩, ⟨true, (some (.tab sc0 (p.2)))⟩], 1, []⟩)]
noncomputable def w77 (x0 : List (List Int)) : Res :=
 let c18 := (r77l0 (1000 + (List.replicate x0.length ([0, 0, 0, 0, 0, 0, 0, 0] : List Int)).length + x0.length) 0 x0 (List.replicate x0.length ([0, 0, 0, 0, 0, 0, 0, 0] : List Int)))
 (cond (((decide ((0 : Int) ≤ ((x0.length : Nat) : Int)) && decide ((((x0.length : Nat) : Int) : Int) ≤ ((x0.length : Nat) : Int))) && decide (((40 : Nat) : Int) * ((x0.length : Nat) : Int) ≤ 281474976710656)) && decide (((x0.length : Nat) : Int) ≤ 9223372036854775807))
 (cond (Nat.beq (c18.1) 0)
  (a77 x0 (0, (c18.2)))
  none)
 none)
set_option maxRecDepth 100000 in
set_option maxHeartbeats 4000000 in
theorem e77 (x0 : List (List Int)) : evFn Try.prog ext T7 L77_1 200 Try.f77 [wsl 0] ⟨[⟨false, (some (.tab sc0 x0))⟩], 1, []⟩ = firstT [((Nat.beq ((r77 x0).1) 0), wsl 1, ⟨[⟨false, (some (.tab sc0 x0))⟩, ⟨true, (some (.tab sc0 ((r77 x0).2)))⟩], 1, []⟩)] :=
 (show evFn Try.prog ext T7 L77_1 200 Try.f77 [wsl 0] ⟨[⟨false, (some (.tab sc0 x0))⟩], 1, []⟩ = w77 x0 from by kernel_rfl).trans
 (show w77 x0 = a77 x0 (r77 x0) from by unfold w77 r77; exact (cond_app (a77 x0) _ (cond_app (a77 x0) _ rfl rfl) rfl))
noncomputable def s77 (args : List Value) (s : St) : List (Bool × Value × St) :=
 match args, s.h with
 | [.iface f0 .nilIface], [⟨false, some (.tab [.int .i64, .int .i64, .fl .f32, .fl .f32, .fl .f32, .fl .f32, .fl .f32, .fl .f32] x0)⟩] => if f0 = 0 then [((Nat.beq ((r77 x0).1) 0), wsl 1, ⟨[⟨false, (some (.tab sc0 x0))⟩, ⟨true, (some (.tab sc0 ((r77 x0).2)))⟩], 1, []⟩)] else T7 77 args s
 | _, _ => T7 77 args s
noncomputable def T8 : CallF := addF T7 77 s77
set_option maxRecDepth 100000 in
set_option maxHeartbeats 4000000 in
theorem ok8 : CfOk Try.prog T8 := by
  refine cfOk_add ok7 fun args s r s' h1 h2 h3 => ?_
  unfold s77 at h3; split at h3
  · rename_i h; split at h3
    · rename_i hc; obtain ⟨rfl⟩ := hc; exact callOk ok7 Try.func77 h1 h2 h lok77_1.body (e77 _) rfl h3
    · exact ok7 _ _ _ _ _ h1 h2 h3
  · exact ok7 _ _ _ _ _ h1 h2 h3

/-- laws.toPane -/
noncomputable def r119 (x0 x1 : Int) (x2 x3 : Nat) : Unit :=
 ()
noncomputable def a119 (x0 x1 : Int) (x2 x3 : Nat) (p : Unit) : Res := firstT [(true, .agg #[.int .i64 x0, .int .i64 x1, .float .f32 x2, .float .f32 x3], st0)]
noncomputable def w119 (x0 x1 : Int) (x2 x3 : Nat) : Res :=
 (a119 x0 x1 x2 x3 ())
set_option maxRecDepth 100000 in
set_option maxHeartbeats 4000000 in
theorem e119 (x0 x1 : Int) (x2 x3 : Nat) : evFn Try.prog ext T8 noL 200 Try.f119 [.agg #[.int .i64 x0, .int .i64 x1, .float .f32 x2, .float .f32 x3]] st0 = firstT [(true, .agg #[.int .i64 x0, .int .i64 x1, .float .f32 x2, .float .f32 x3], st0)] :=
 (show evFn Try.prog ext T8 noL 200 Try.f119 [.agg #[.int .i64 x0, .int .i64 x1, .float .f32 x2, .float .f32 x3]] st0 = w119 x0 x1 x2 x3 from by kernel_rfl).trans
 (show w119 x0 x1 x2 x3 = a119 x0 x1 x2 x3 (r119 x0 x1 x2 x3) from by unfold w119 r119; exact rfl)
noncomputable def s119 (args : List Value) (s : St) : List (Bool × Value × St) :=
 match args, s.h with
 | [.agg ⟨[.int .i64 x0, .int .i64 x1, .float .f32 x2, .float .f32 x3]⟩], [] => [(true, .agg #[.int .i64 x0, .int .i64 x1, .float .f32 x2, .float .f32 x3], st0)]
 | _, _ => T8 119 args s
noncomputable def T9 : CallF := addF T8 119 s119
set_option maxRecDepth 100000 in
set_option maxHeartbeats 4000000 in
theorem ok9 : CfOk Try.prog T9 := by
  refine cfOk_add ok8 fun args s r s' h1 h2 h3 => ?_
  unfold s119 at h3; split at h3
  · rename_i h; exact callOk ok8 Try.func119 h1 h2 h (lfOkF_no _ _).body (e119 _ _ _ _) rfl h3
  · exact ok8 _ _ _ _ _ h1 h2 h3

/-- laws.toPaneS, loop 0: one round -/
noncomputable def b78l0 (ih : Int → List (List Int) → List (List Int) → (Nat × List (List Int))) (x0 : Int) (x1 x2 : List (List Int)) : Nat × List (List Int) :=
 cond (decide ((x0 : Int) < ((x1.length : Nat) : Int)))
  (cond ((decide ((0 : Int) ≤ x0)) && (Nat.blt (Int.toNat x0) x1.length))
   (cond ((decide ((0 : Int) ≤ x0)) && (Nat.blt (Int.toNat x0) x2.length))
    (ih (IntKind.i64.wrap (x0 + 1)) x1 (x2.set (Int.toNat x0) [((x1.getD (Int.toNat x0) []).getD 0 0), ((x1.getD (Int.toNat x0) []).getD 1 0), (((Int.toNat ((x1.getD (Int.toNat x0) []).getD 2 0)) : Nat) : Int), (((Int.toNat ((x1.getD (Int.toNat x0) []).getD 3 0)) : Nat) : Int)]))
    (1, []))
   (1, []))
  (0, x2)
noncomputable def r78l0 : Nat → Int → List (List Int) → List (List Int) → (Nat × List (List Int))
 | 0 => fun _ _ _ => (1, [])
 | m + 1 => b78l0 (r78l0 m)
noncomputable def a78l0 (x0 : Int) (x1 x2 : List (List Int)) (p : Nat × List (List Int)) : Option (Fin' × List Value × St) := firstT ([((Nat.beq (p.1) 0), .exit 0, [wsl 1], ⟨[⟨false, (some (.tab sc1 x1))⟩, ⟨true, (some (.tab sc1 (p.2)))⟩], 2, [1]⟩)].map fun (b, x) => (b, (x.1, frameOf 23 [3] x.2.1, x.2.2)))
noncomputable def u78l0 (x0 : Int) (x1 x2 : List (List Int)) (p : Nat × List (List Int)) : Option (Fin' × List Value × St) := alts ([((Nat.beq (p.1) 0), .exit 0, [wsl 1], ⟨[⟨false, (some (.tab sc1 x1))⟩, ⟨true, (some (.tab sc1 (p.2)))⟩], 2, [1]⟩)].map fun (b, x) => (b, (x.1, frameOf 23 [3] x.2.1, x.2.2))) some
theorem v78l0 (x0 : Int) (x1 x2 : List (List Int)) (p : Nat × List (List Int)) : u78l0 x0 x1 x2 p = a78l0 x0 x1 x2 p := alts_first _
noncomputable def q78l0 (m : Nat) : SumK := fun vals s =>
 match vals, s.h with
 | [.iface f0 .nilIface, .iface f1 .nilIface, .int .i64 x0], [⟨false, some (.tab [.int .i64, .int .i64, .fl .f32, .fl .f32] x1)⟩, ⟨true, some (.tab [.int .i64, .int .i64, .fl .f32, .fl .f32] x2)⟩] => if f0 = 0 ∧ f1 = 1 then [((Nat.beq ((r78l0 m x0 x1 x2).1) 0), .exit 0, [wsl 1], ⟨[⟨false, (some (.tab sc1 x1))⟩, ⟨true, (some (.tab sc1 ((r78l0 m x0 x1 x2).2)))⟩], 2, [1]⟩)] else noQ vals s
 | _, _ => noQ vals s
noncomputable def w78l0 (ih : Int → List (List Int) → List (List Int) → (Nat × List (List Int))) (x0 : Int) (x1 x2 : List (List Int)) : Option (Fin' × List Value × St) :=
 (cond (decide ((x0 : Int) < ((x1.length : Nat) : Int)))
 (cond ((decide ((0 : Int) ≤ x0)) && (Nat.blt (Int.toNat x0) x1.length))
  (cond (Nat.blt (Int.toNat x0) x1.length)
   (cond ((decide ((0 : Int) ≤ x0)) && (Nat.blt (Int.toNat x0) x2.length))
    (cond (Nat.blt (Int.toNat x0) x2.length)
     (u78l0 x0 x1 x2 (ih (IntKind.i64.wrap (x0 + 1)) x1 (x2.set (Int.toNat x0) [((x1.getD (Int.toNat x0) []).getD 0 0), ((x1.getD (Int.toNat x0) []).getD 1 0), (((Int.toNat ((x1.getD (Int.toNat x0) []).getD 2 0)) : Nat) : Int), (((Int.toNat ((x1.getD (Int.toNat x0) []).getD 3 0)) : Nat) : Int)])))
     none)
    none)
   none)
  none)
 (a78l0 x0 x1 x2 (0, x2)))
set_option maxRecDepth 100000 in
set_option maxHeartbeats 4000000 in
theorem e78l0 (m : Nat) (x0 : Int) (x1 x2 : List (List Int)) : evC Try.prog ext T9 noL 200 (loopN Try.f78 0) (loopTail ([0, 3, 4], []) [3] [1] (sumK 23 [0, 3, 4] [3] (q78l0 m))) (frameOf 23 [0, 3, 4] [wsl 0, wsl 1, .int .i64 x0]) ⟨[⟨false, (some (.tab sc1 x1))⟩, ⟨true, (some (.tab sc1 x2))⟩], 2, []⟩ = firstT ([((Nat.beq ((r78l0 (m + 1) x0 x1 x2).1) 0), .exit 0, [wsl 1], ⟨[⟨false, (some (.tab sc1 x1))⟩, ⟨true, (some (.tab sc1 ((r78l0 (m + 1) x0 x1 x2).2)))⟩], 2, [1]⟩)].map fun (b, x) => (b, (x.1, frameOf 23 [3] x.2.1, x.2.2))) :=
 (show evC Try.prog ext T9 noL 200 (loopN Try.f78 0) (loopTail ([0, 3, 4], []) [3] [1] (sumK 23 [0, 3, 4] [3] (q78l0 m))) (frameOf 23 [0, 3, 4] [wsl 0, wsl 1, .int .i64 x0]) ⟨[⟨false, (some (.tab sc1 x1))⟩, ⟨true, (some (.tab sc1 x2))⟩], 2, []⟩ = w78l0 (r78l0 m) x0 x1 x2 from by kernel_rfl).trans
 (show w78l0 (r78l0 m) x0 x1 x2 = a78l0 x0 x1 x2 (r78l0 (m + 1) x0 x1 x2) from by unfold w78l0; show _ = a78l0 x0 x1 x2 (b78l0 (r78l0 m) x0 x1 x2); unfold b78l0; exact (cond_both (a78l0 x0 x1 x2) _ (fun h0 => (cond_both (a78l0 x0 x1 x2) _ (fun h1 => (cond_t (ev_and2 h1) (cond_both (a78l0 x0 x1 x2) _ (fun h2 => (cond_t (ev_and2 h2) (v78l0 x0 x1 x2 ((r78l0 m) (IntKind.i64.wrap (x0 + 1)) x1 (x2.set (Int.toNat x0) [((x1.getD (Int.toNat x0) []).getD 0 0), ((x1.getD (Int.toNat x0) []).getD 1 0), (((Int.toNat ((x1.getD (Int.toNat x0) []).getD 2 0)) : Nat) : Int), (((Int.toNat ((x1.getD (Int.toNat x0) []).getD 3 0)) : Nat) : Int)]))))) (fun h2 => rfl)))) (fun h1 => rfl))) (fun h0 => rfl)))
set_option maxRecDepth 100000 in
set_option maxHeartbeats 4000000 in
theorem qm78l0 : ∀ m, SumKOk Try.prog (loopN Try.f78 0) 23 [0, 3, 4] [3] (q78l0 m) := by
  intro m
  induction m with
  | zero =>
    intro vals s x h1 h2 h3
    unfold q78l0 at h3; split at h3
    · rename_i h; split at h3
      · rename_i hc; obtain ⟨rfl, rfl⟩ := hc; exact absurd h3 (by simp [r78l0, firstT, Nat.beq])
      · exact noQ_ok _ _ _ h1 h2 h3
    · exact noQ_ok _ _ _ h1 h2 h3
  | succ m ih =>
    intro vals s x h1 h2 h3
    unfold q78l0 at h3; split at h3
    · rename_i h; split at h3
      · rename_i hc; obtain ⟨rfl, rfl⟩ := hc; exact sum_step ok9 extOk mixed ((lfOkF_no _ _).inner (by kernel_rfl)) ih h1 h2 h (e78l0 m _ _ _) rfl h3
      · exact noQ_ok _ _ _ h1 h2 h3
    · exact noQ_ok _ _ _ h1 h2 h3
noncomputable def Q78l0 : SumK := fun vals s => q78l0 (fuelOf vals s.h) vals s
theorem qok78l0 : SumKOk Try.prog (loopN Try.f78 0) 23 [0, 3, 4] [3] Q78l0 := fuel_ok qm78l0 fuelOf
noncomputable def L78_1 : LoopT := addL noL 4 ([0, 3, 4], []) (sumK 23 [0, 3, 4] [3] Q78l0)
theorem lok78_1 : LfOkF Try.prog L78_1 Try.f78 := lfOkF_add (lfOkF_no _ _) qok78l0 (by kernel_rfl) (by kernel_rfl) (by kernel_rfl)

/-- laws.toPaneS -/
noncomputable def r78 (x0 : List (List Int)) : Nat × List (List Int) :=
 let c36 := (r78l0 (1000 + (List.replicate x0.length ([0, 0, 0, 0] : List Int)).length + x0.length) 0 x0 (List.replicate x0.length ([0, 0, 0, 0] : List Int)))
 cond (((decide ((0 : Int) ≤ ((x0.length : Nat) : Int)) && decide ((((x0.length : Nat) : Int) : Int) ≤ ((x0.length : Nat) : Int))) && decide (((24 : Nat) : Int) * ((x0.length : Nat) : Int) ≤ 281474976710656)) && decide (((x0.length : Nat) : Int) ≤ 9223372036854775807))
  (cond (Nat.beq (c36.1) 0)
   (0, (c36.2))
   (1, []))
  (1, [])
noncomputable def a78 (x0 : List (List Int)) (p : Nat × List (List Int)) : Res := firstT [((Nat.beq (p.1) 0), wsl 1, ⟨[⟨false, (some (.tab sc1 x0))⟩, ⟨true, (some (.tab sc1 (p.2)))⟩], 1, []⟩)]
noncomputable def w78 (x0 : List (List Int)) : Res :=
 let c36 := (r78l0 (1000 + (List.replicate x0.length ([0, 0, 0, 0] : List Int)).length + x0.length) 0 x0 (List.replicate x0.length ([0, 0, 0, 0] : List Int)))
 (cond (((decide ((0 : Int) ≤ ((x0.length : Nat) : Int)) && decide ((((x0.length : Nat) : Int) : Int) ≤ ((x0.length : Nat) : Int))) && decide (((24 : Nat) : Int) * ((x0.length : Nat) : Int) ≤ 281474976710656)) && decide (((x0.length : Nat) : Int) ≤ 9223372036854775807))
 (cond (Nat.beq (c36.1) 0)
  (a78 x0 (0, (c36.2)))
  none)
 none)
set_option maxRecDepth 100000 in
set_option maxHeartbeats 4000000 in
theorem e78 (x0 : List (List Int)) : evFn Try.prog ext T9 L78_1 200 Try.f78 [wsl 0] ⟨[⟨false, (some (.tab sc1 x0))⟩], 1, []⟩ = firstT [((Nat.beq ((r78 x0).1) 0), wsl 1, ⟨[⟨false, (some (.tab sc1 x0))⟩, ⟨true, (some (.tab sc1 ((r78 x0).2)))⟩], 1, []⟩)] :=
 (show evFn Try.prog ext T9 L78_1 200 Try.f78 [wsl 0] ⟨[⟨false, (some (.tab sc1 x0))⟩], 1, []⟩ = w78 x0 from by kernel_rfl).trans
 (show w78 x0 = a78 x0 (r78 x0) from by unfold w78 r78; exact (cond_app (a78 x0) _ (cond_app (a78 x0) _ rfl rfl) rfl))
noncomputable def s78 (args : List Value) (s : St) : List (Bool × Value × St) :=
 match args, s.h with
 | [.iface f0 .nilIface], [⟨false, some (.tab [.int .i64, .int .i64, .fl .f32, .fl .f32] x0)⟩] => if f0 = 0 then [((Nat.beq ((r78 x0).1) 0), wsl 1, ⟨[⟨false, (some (.tab sc1 x0))⟩, ⟨true, (some (.tab sc1 ((r78 x0).2)))⟩], 1, []⟩)] else T9 78 args s
 | _, _ => T9 78 args s
noncomputable def T10 : CallF := addF T9 78 s78
set_option maxRecDepth 100000 in
set_option maxHeartbeats 4000000 in
theorem ok10 : CfOk Try.prog T10 := by
  refine cfOk_add ok9 fun args s r s' h1 h2 h3 => ?_
  unfold s78 at h3; split at h3
  · rename_i h; split at h3
    · rename_i hc; obtain ⟨rfl⟩ := hc; exact callOk ok9 Try.func78 h1 h2 h lok78_1.body (e78 _) rfl h3
    · exact ok9 _ _ _ _ _ h1 h2 h3
  · exact ok9 _ _ _ _ _ h1 h2 h3

/-- laws.toFlat -/
noncomputable def r25 (x0 x1 x2 x3 : List (List Int)) : Nat × List (List Int) × List (List Int) × List (List Int) × List (List Int) :=
 cond (Nat.beq ((r30 x0).1) 0)
  (cond (Nat.beq ((r30 x1).1) 0)
   (cond (Nat.beq ((r77 x2).1) 0)
    (cond (Nat.beq ((r78 x3).1) 0)
     (0, ((r30 x0).2), ((r30 x1).2), ((r77 x2).2), ((r78 x3).2))
     (1, [], [], [], []))
    (1, [], [], [], []))
   (1, [], [], [], []))
  (1, [], [], [], [])
noncomputable def a25 (x0 x1 x2 x3 : List (List Int)) (p : Nat × List (List Int) × List (List Int) × List (List Int) × List (List Int)) : Res := firstT [((Nat.beq (p.1) 0), .agg #[wsl 4, wsl 5, wsl 6, wsl 7], ⟨[⟨false, (some (.tab [.fl .f32] x0))⟩, ⟨false, (some (.tab [.fl .f32] x1))⟩, ⟨false, (some (.tab sc0 x2))⟩, ⟨false, (some (.tab sc1 x3))⟩, ⟨true, (some (.tab [.fl .f32] (p.2.1)))⟩, ⟨true, (some (.tab [.fl .f32] (p.2.2.1)))⟩, ⟨true, (some (.tab sc0 (p.2.2.2.1)))⟩, ⟨true, (some (.tab sc1 (p.2.2.2.2)))⟩], 4, []⟩)]
noncomputable def w25 (x0 x1 x2 x3 : List (List Int)) : Res :=
 (cond (Nat.beq ((r30 x0).1) 0)
 (cond (Nat.beq ((r30 x1).1) 0)
  (cond (Nat.beq ((r77 x2).1) 0)
   (cond (Nat.beq ((r78 x3).1) 0)
    (a25 x0 x1 x2 x3 (0, ((r30 x0).2), ((r30 x1).2), ((r77 x2).2), ((r78 x3).2)))
    none)
   none)
  none)
 none)
set_option maxRecDepth 100000 in
set_option maxHeartbeats 4000000 in
theorem e25 (x0 x1 x2 x3 : List (List Int)) : evFn Try.prog ext T10 noL 200 Try.f25 [.agg #[wsl 0, wsl 1, wsl 2, wsl 3]] ⟨[⟨false, (some (.tab [.fl .f32] x0))⟩, ⟨false, (some (.tab [.fl .f32] x1))⟩, ⟨false, (some (.tab sc0 x2))⟩, ⟨false, (some (.tab sc1 x3))⟩], 4, []⟩ = firstT [((Nat.beq ((r25 x0 x1 x2 x3).1) 0), .agg #[wsl 4, wsl 5, wsl 6, wsl 7], ⟨[⟨false, (some (.tab [.fl .f32] x0))⟩, ⟨false, (some (.tab [.fl .f32] x1))⟩, ⟨false, (some (.tab sc0 x2))⟩, ⟨false, (some (.tab sc1 x3))⟩, ⟨true, (some (.tab [.fl .f32] ((r25 x0 x1 x2 x3).2.1)))⟩, ⟨true, (some (.tab [.fl .f32] ((r25 x0 x1 x2 x3).2.2.1)))⟩, ⟨true, (some (.tab sc0 ((r25 x0 x1 x2 x3).2.2.2.1)))⟩, ⟨true, (some (.tab sc1 ((r25 x0 x1 x2 x3).2.2.2.2)))⟩], 4, []⟩)] :=
 (show evFn Try.prog ext T10 noL 200 Try.f25 [.agg #[wsl 0, wsl 1, wsl 2, wsl 3]] ⟨[⟨false, (some (.tab [.fl .f32] x0))⟩, ⟨false, (some (.tab [.fl .f32] x1))⟩, ⟨false, (some (.tab sc0 x2))⟩, ⟨false, (some (.tab sc1 x3))⟩], 4, []⟩ = w25 x0 x1 x2 x3 from by kernel_rfl).trans
 (show w25 x0 x1 x2 x3 = a25 x0 x1 x2 x3 (r25 x0 x1 x2 x3) from by unfold w25 r25; exact (cond_app (a25 x0 x1 x2 x3) _ (cond_app (a25 x0 x1 x2 x3) _ (cond_app (a25 x0 x1 x2 x3) _ (cond_app (a25 x0 x1 x2 x3) _ rfl rfl) rfl) rfl) rfl))
noncomputable def s25 (args : List Value) (s : St) : List (Bool × Value × St) :=
 match args, s.h with
 | [.agg ⟨[.iface f0 .nilIface, .iface f1 .nilIface, .iface f2 .nilIface, .iface f3 .nilIface]⟩], [⟨false, some (.tab [.fl .f32] x0)⟩, ⟨false, some (.tab [.fl .f32] x1)⟩, ⟨false, some (.tab [.int .i64, .int .i64, .fl .f32, .fl .f32, .fl .f32, .fl .f32, .fl .f32, .fl .f32] x2)⟩, ⟨false, some (.tab [.int .i64, .int .i64, .fl .f32, .fl .f32] x3)⟩] => if f0 = 0 ∧ f1 = 1 ∧ f2 = 2 ∧ f3 = 3 then [((Nat.beq ((r25 x0 x1 x2 x3).1) 0), .agg #[wsl 4, wsl 5, wsl 6, wsl 7], ⟨[⟨false, (some (.tab [.fl .f32] x0))⟩, ⟨false, (some (.tab [.fl .f32] x1))⟩, ⟨false, (some (.tab sc0 x2))⟩, ⟨false, (some (.tab sc1 x3))⟩, ⟨true, (some (.tab [.fl .f32] ((r25 x0 x1 x2 x3).2.1)))⟩, ⟨true, (some (.tab [.fl .f32] ((r25 x0 x1 x2 x3).2.2.1)))⟩, ⟨true, (some (.tab sc0 ((r25 x0 x1 x2 x3).2.2.2.1)))⟩, ⟨true, (some (.tab sc1 ((r25 x0 x1 x2 x3).2.2.2.2)))⟩], 4, []⟩)] else T10 25 args s
 | _, _ => T10 25 args s
noncomputable def T11 : CallF := addF T10 25 s25
set_option maxRecDepth 100000 in
set_option maxHeartbeats 4000000 in
theorem ok11 : CfOk Try.prog T11 := by
  refine cfOk_add ok10 fun args s r s' h1 h2 h3 => ?_
  unfold s25 at h3; split at h3
  · rename_i h; split at h3
    · rename_i hc; obtain ⟨rfl, rfl, rfl, rfl⟩ := hc; exact callOk ok10 Try.func25 h1 h2 h (lfOkF_no _ _).body (e25 _ _ _ _) rfl h3
    · exact ok10 _ _ _ _ _ h1 h2 h3
  · exact ok10 _ _ _ _ _ h1 h2 h3

/-- spec.l00In -/
noncomputable def r87 (x0 x1 x2 : Int) : Bool :=
 cond (decide ((x0 : Int) ≥ x1))
  ((decide ((x0 : Int) ≤ x2)))
  (false)
noncomputable def a87 (x0 x1 x2 : Int) (p : Bool) : Res := firstT [(true, .bool p, st0)]
noncomputable def w87 (x0 x1 x2 : Int) : Res :=
 (cond (decide ((x0 : Int) ≥ x1))
 (a87 x0 x1 x2 ((decide ((x0 : Int) ≤ x2))))
 (a87 x0 x1 x2 (false)))
set_option maxRecDepth 100000 in
set_option maxHeartbeats 4000000 in
theorem e87 (x0 x1 x2 : Int) : evFn Try.prog ext T11 noL 200 Try.f87 [.int .i64 x0, .int .i64 x1, .int .i64 x2] st0 = firstT [(true, .bool (r87 x0 x1 x2), st0)] :=
 (show evFn Try.prog ext T11 noL 200 Try.f87 [.int .i64 x0, .int .i64 x1, .int .i64 x2] st0 = w87 x0 x1 x2 from by kernel_rfl).trans
 (show w87 x0 x1 x2 = a87 x0 x1 x2 (r87 x0 x1 x2) from by unfold w87 r87; exact (cond_app (a87 x0 x1 x2) _ rfl rfl))
noncomputable def s87 (args : List Value) (s : St) : List (Bool × Value × St) :=
 match args, s.h with
 | [.int .i64 x0, .int .i64 x1, .int .i64 x2], [] => [(true, .bool (r87 x0 x1 x2), st0)]
 | _, _ => T11 87 args s
noncomputable def T12 : CallF := addF T11 87 s87
set_option maxRecDepth 100000 in
set_option maxHeartbeats 4000000 in
theorem ok12 : CfOk Try.prog T12 := by
  refine cfOk_add ok11 fun args s r s' h1 h2 h3 => ?_
  unfold s87 at h3; split at h3
  · rename_i h; exact callOk ok11 Try.func87 h1 h2 h (lfOkF_no _ _).body (e87 _ _ _) rfl h3
  · exact ok11 _ _ _ _ _ h1 h2 h3

/-- spec.l04Heat -/
noncomputable def r84 (x0 : Nat) : Bool :=
 cond (fgt .f32 x0 3262119936 || feq .f32 x0 3262119936)
  ((flt .f32 x0 1128792064 || feq .f32 x0 1128792064))
  (false)
noncomputable def a84 (x0 : Nat) (p : Bool) : Res := firstT [(true, .bool p, st0)]
noncomputable def w84 (x0 : Nat) : Res :=
 (cond (fgt .f32 x0 3262119936 || feq .f32 x0 3262119936)
 (a84 x0 ((flt .f32 x0 1128792064 || feq .f32 x0 1128792064)))
 (a84 x0 (false)))
set_option maxRecDepth 100000 in
set_option maxHeartbeats 4000000 in
theorem e84 (x0 : Nat) : evFn Try.prog ext T12 noL 200 Try.f84 [.float .f32 x0] st0 = firstT [(true, .bool (r84 x0), st0)] :=
 (show evFn Try.prog ext T12 noL 200 Try.f84 [.float .f32 x0] st0 = w84 x0 from by kernel_rfl).trans
 (show w84 x0 = a84 x0 (r84 x0) from by unfold w84 r84; exact (cond_app (a84 x0) _ rfl rfl))
noncomputable def s84 (args : List Value) (s : St) : List (Bool × Value × St) :=
 match args, s.h with
 | [.float .f32 x0], [] => [(true, .bool (r84 x0), st0)]
 | _, _ => T12 84 args s
noncomputable def T13 : CallF := addF T12 84 s84
set_option maxRecDepth 100000 in
set_option maxHeartbeats 4000000 in
theorem ok13 : CfOk Try.prog T13 := by
  refine cfOk_add ok12 fun args s r s' h1 h2 h3 => ?_
  unfold s84 at h3; split at h3
  · rename_i h; exact callOk ok12 Try.func84 h1 h2 h (lfOkF_no _ _).body (e84 _) rfl h3
  · exact ok12 _ _ _ _ _ h1 h2 h3

/-- spec.l01Finite -/
noncomputable def r102 (x0 : Nat) : Bool :=
 ((feq .f32 (fsub .f32 x0 x0) 0))
noncomputable def a102 (x0 : Nat) (p : Bool) : Res := firstT [(true, .bool p, st0)]
noncomputable def w102 (x0 : Nat) : Res :=
 (a102 x0 ((feq .f32 (fsub .f32 x0 x0) 0)))
set_option maxRecDepth 100000 in
set_option maxHeartbeats 4000000 in
theorem e102 (x0 : Nat) : evFn Try.prog ext T13 noL 200 Try.f102 [.float .f32 x0] st0 = firstT [(true, .bool (r102 x0), st0)] :=
 (show evFn Try.prog ext T13 noL 200 Try.f102 [.float .f32 x0] st0 = w102 x0 from by kernel_rfl).trans
 (show w102 x0 = a102 x0 (r102 x0) from by unfold w102 r102; exact rfl)
noncomputable def s102 (args : List Value) (s : St) : List (Bool × Value × St) :=
 match args, s.h with
 | [.float .f32 x0], [] => [(true, .bool (r102 x0), st0)]
 | _, _ => T13 102 args s
noncomputable def T14 : CallF := addF T13 102 s102
set_option maxRecDepth 100000 in
set_option maxHeartbeats 4000000 in
theorem ok14 : CfOk Try.prog T14 := by
  refine cfOk_add ok13 fun args s r s' h1 h2 h3 => ?_
  unfold s102 at h3; split at h3
  · rename_i h; exact callOk ok13 Try.func102 h1 h2 h (lfOkF_no _ _).body (e102 _) rfl h3
  · exact ok13 _ _ _ _ _ h1 h2 h3

/-- spec.l01Amount -/
noncomputable def r88 (x0 : Nat) : Bool :=
 cond (r102 x0)
  (cond (fgt .f32 x0 0)
   (true)
   (cond (!isN .f32 x0)
    (((((x0 : Nat) : Int) : Int) == 0))
    (false)))
  (false)
noncomputable def a88 (x0 : Nat) (p : Bool) : Res := firstT [(true, .bool p, st0)]
noncomputable def w88 (x0 : Nat) : Res :=
 (cond (r102 x0)
 (cond (fgt .f32 x0 0)
  (a88 x0 (true))
  (cond (!isN .f32 x0)
   (a88 x0 (((((x0 : Nat) : Int) : Int) == 0)))
   (a88 x0 (false))))
 (a88 x0 (false)))
set_option maxRecDepth 100000 in
set_option maxHeartbeats 4000000 in
theorem e88 (x0 : Nat) : evFn Try.prog ext T14 noL 200 Try.f88 [.float .f32 x0] st0 = firstT [(true, .bool (r88 x0), st0)] :=
 (show evFn Try.prog ext T14 noL 200 Try.f88 [.float .f32 x0] st0 = w88 x0 from by kernel_rfl).trans
 (show w88 x0 = a88 x0 (r88 x0) from by unfold w88 r88; exact (cond_app (a88 x0) _ (cond_app (a88 x0) _ rfl (cond_app (a88 x0) _ rfl rfl)) rfl))
noncomputable def s88 (args : List Value) (s : St) : List (Bool × Value × St) :=
 match args, s.h with
 | [.float .f32 x0], [] => [(true, .bool (r88 x0), st0)]
 | _, _ => T14 88 args s
noncomputable def T15 : CallF := addF T14 88 s88
set_option maxRecDepth 100000 in
set_option maxHeartbeats 4000000 in
theorem ok15 : CfOk Try.prog T15 := by
  refine cfOk_add ok14 fun args s r s' h1 h2 h3 => ?_
  unfold s88 at h3; split at h3
  · rename_i h; exact callOk ok14 Try.func88 h1 h2 h (lfOkF_no _ _).body (e88 _) rfl h3
  · exact ok14 _ _ _ _ _ h1 h2 h3

/-- spec.l04Store -/
noncomputable def r108 (x0 : Nat) : Bool :=
 cond (r88 x0)
  (cond (fgt .f32 x0 1065353216 || feq .f32 x0 1065353216)
   ((flt .f32 x0 1176256512 || feq .f32 x0 1176256512))
   (false))
  (false)
noncomputable def a108 (x0 : Nat) (p : Bool) : Res := firstT [(true, .bool p, st0)]
noncomputable def w108 (x0 : Nat) : Res :=
 (cond (r88 x0)
 (cond (fgt .f32 x0 1065353216 || feq .f32 x0 1065353216)
  (a108 x0 ((flt .f32 x0 1176256512 || feq .f32 x0 1176256512)))
  (a108 x0 (false)))
 (a108 x0 (false)))
set_option maxRecDepth 100000 in
set_option maxHeartbeats 4000000 in
theorem e108 (x0 : Nat) : evFn Try.prog ext T15 noL 200 Try.f108 [.float .f32 x0] st0 = firstT [(true, .bool (r108 x0), st0)] :=
 (show evFn Try.prog ext T15 noL 200 Try.f108 [.float .f32 x0] st0 = w108 x0 from by kernel_rfl).trans
 (show w108 x0 = a108 x0 (r108 x0) from by unfold w108 r108; exact (cond_app (a108 x0) _ (cond_app (a108 x0) _ rfl rfl) rfl))
noncomputable def s108 (args : List Value) (s : St) : List (Bool × Value × St) :=
 match args, s.h with
 | [.float .f32 x0], [] => [(true, .bool (r108 x0), st0)]
 | _, _ => T15 108 args s
noncomputable def T16 : CallF := addF T15 108 s108
set_option maxRecDepth 100000 in
set_option maxHeartbeats 4000000 in
theorem ok16 : CfOk Try.prog T16 := by
  refine cfOk_add ok15 fun args s r s' h1 h2 h3 => ?_
  unfold s108 at h3; split at h3
  · rename_i h; exact callOk ok15 Try.func108 h1 h2 h (lfOkF_no _ _).body (e108 _) rfl h3
  · exact ok15 _ _ _ _ _ h1 h2 h3

/-- spec.l04Ok, loop 0: one round -/
noncomputable def b61l0 (ih : Int → Int → List (List Int) → List (List Int) → List (List Int) → List (List Int) → Nat) (x0 x1 : Int) (x2 x3 x4 x5 : List (List Int)) : Nat :=
 cond (decide ((x1 : Int) < x0))
  (cond ((decide ((0 : Int) ≤ x1)) && (Nat.blt (Int.toNat x1) x2.length))
   (cond (!(r84 (Int.toNat ((x2.getD (Int.toNat x1) []).getD 0 0))))
    (0)
    (cond ((decide ((0 : Int) ≤ x1)) && (Nat.blt (Int.toNat x1) x3.length))
     (cond (!(r108 (Int.toNat ((x3.getD (Int.toNat x1) []).getD 0 0))))
      (0)
      (ih x0 (IntKind.i64.wrap (x1 + 1)) x2 x3 x4 x5))
     (2)))
   (2))
  (1)
noncomputable def r61l0 : Nat → Int → Int → List (List Int) → List (List Int) → List (List Int) → List (List Int) → Nat
 | 0 => fun _ _ _ _ _ _ => (2)
 | m + 1 => b61l0 (r61l0 m)
noncomputable def a61l0 (x0 x1 : Int) (x2 x3 x4 x5 : List (List Int)) (p : Nat) : Option (Fin' × List Value × St) := firstT ([((Nat.beq p 0), .ret, [.pointer (some ⟨0, 0, some 0⟩), .bool false, .int .i64 x0], ⟨[⟨true, (some (.cells [wsl 1, wsl 2, wsl 3, wsl 4]))⟩, ⟨true, (some (.tab [.fl .f32] x2))⟩, ⟨true, (some (.tab [.fl .f32] x3))⟩, ⟨true, (some (.tab sc0 x4))⟩, ⟨true, (some (.tab sc1 x5))⟩], 5, []⟩), ((Nat.beq p 1), .exit 0, [.pointer (some ⟨0, 0, some 0⟩), anyV, .int .i64 x0], ⟨[⟨true, (some (.cells [wsl 1, wsl 2, wsl 3, wsl 4]))⟩, ⟨true, (some (.tab [.fl .f32] x2))⟩, ⟨true, (some (.tab [.fl .f32] x3))⟩, ⟨true, (some (.tab sc0 x4))⟩, ⟨true, (some (.tab sc1 x5))⟩], 5, []⟩)].map fun (b, x) => (b, (x.1, frameOf 105 [0, 2, 3] x.2.1, x.2.2)))
noncomputable def u61l0 (x0 x1 : Int) (x2 x3 x4 x5 : List (List Int)) (p : Nat) : Option (Fin' × List Value × St) := alts ([((Nat.beq p 0), .ret, [.pointer (some ⟨0, 0, some 0⟩), .bool false, .int .i64 x0], ⟨[⟨true, (some (.cells [wsl 1, wsl 2, wsl 3, wsl 4]))⟩, ⟨true, (some (.tab [.fl .f32] x2))⟩, ⟨true, (some (.tab [.fl .f32] x3))⟩, ⟨true, (some (.tab sc0 x4))⟩, ⟨true, (some (.tab sc1 x5))⟩], 5, []⟩), ((Nat.beq p 1), .exit 0, [.pointer (some ⟨0, 0, some 0⟩), anyV, .int .i64 x0], ⟨[⟨true, (some (.cells [wsl 1, wsl 2, wsl 3, wsl 4]))⟩, ⟨true, (some (.tab [.fl .f32] x2))⟩, ⟨true, (some (.tab [.fl .f32] x3))⟩, ⟨true, (some (.tab sc0 x4))⟩, ⟨true, (some (.tab sc1 x5))⟩], 5, []⟩)].map fun (b, x) => (b, (x.1, frameOf 105 [0, 2, 3] x.2.1, x.2.2))) some
theorem v61l0 (x0 x1 : Int) (x2 x3 x4 x5 : List (List Int)) (p : Nat) : u61l0 x0 x1 x2 x3 x4 x5 p = a61l0 x0 x1 x2 x3 x4 x5 p := alts_first _
noncomputable def q61l0 (m : Nat) : SumK := fun vals s =>
 match vals, s.h with
 | [.pointer (some ⟨f0, f1, some f2⟩), .int .i64 x0, .int .i64 x1], [⟨true, some (.cells [.iface f3 .nilIface, .iface f4 .nilIface, .iface f5 .nilIface, .iface f6 .nilIface])⟩, ⟨true, some (.tab [.fl .f32] x2)⟩, ⟨true, some (.tab [.fl .f32] x3)⟩, ⟨true, some (.tab [.int .i64, .int .i64, .fl .f32, .fl .f32, .fl .f32, .fl .f32, .fl .f32, .fl .f32] x4)⟩, ⟨true, some (.tab [.int .i64, .int .i64, .fl .f32, .fl .f32] x5)⟩] => if f0 = 0 ∧ f1 = 0 ∧ f2 = 0 ∧ f3 = 1 ∧ f4 = 2 ∧ f5 = 3 ∧ f6 = 4 then [((Nat.beq (r61l0 m x0 x1 x2 x3 x4 x5) 0), .ret, [.pointer (some ⟨0, 0, some 0⟩), .bool false, .int .i64 x0], ⟨[⟨true, (some (.cells [wsl 1, wsl 2, wsl 3, wsl 4]))⟩, ⟨true, (some (.tab [.fl .f32] x2))⟩, ⟨true, (some (.tab [.fl .f32] x3))⟩, ⟨true, (some (.tab sc0 x4))⟩, ⟨true, (some (.tab sc1 x5))⟩], 5, []⟩), ((Nat.beq (r61l0 m x0 x1 x2 x3 x4 x5) 1), .exit 0, [.pointer (some ⟨0, 0, some 0⟩), anyV, .int .i64 x0], ⟨[⟨true, (some (.cells [wsl 1, wsl 2, wsl 3, wsl 4]))⟩, ⟨true, (some (.tab [.fl .f32] x2))⟩, ⟨true, (some (.tab [.fl .f32] x3))⟩, ⟨true, (some (.tab sc0 x4))⟩, ⟨true, (some (.tab sc1 x5))⟩], 5, []⟩)] else noQ vals s
 | _, _ => noQ vals s
noncomputable def w61l0 (ih : Int → Int → List (List Int) → List (List Int) → List (List Int) → List (List Int) → Nat) (x0 x1 : Int) (x2 x3 x4 x5 : List (List Int)) : Option (Fin' × List Value × St) :=
 (cond (decide ((x1 : Int) < x0))
 (cond ((decide ((0 : Int) ≤ x1)) && (Nat.blt (Int.toNat x1) x2.length))
  (cond (Nat.blt (Int.toNat x1) x2.length)
   (cond (!(r84 (Int.toNat ((x2.getD (Int.toNat x1) []).getD 0 0))))
    (a61l0 x0 x1 x2 x3 x4 x5 (0))
    (cond ((decide ((0 : Int) ≤ x1)) && (Nat.blt (Int.toNat x1) x3.length))
     (cond (Nat.blt (Int.toNat x1) x3.length)
      (cond (!(r108 (Int.toNat ((x3.getD (Int.toNat x1) []).getD 0 0))))
       (a61l0 x0 x1 x2 x3 x4 x5 (0))
       (u61l0 x0 x1 x2 x3 x4 x5 (ih x0 (IntKind.i64.wrap (x1 + 1)) x2 x3 x4 x5)))
      none)
     none))
   none)
  none)
 (a61l0 x0 x1 x2 x3 x4 x5 (1)))
set_option maxRecDepth 100000 in
set_option maxHeartbeats 4000000 in
theorem e61l0 (m : Nat) (x0 x1 : Int) (x2 x3 x4 x5 : List (List Int)) : evC Try.prog ext T16 noL 200 (loopN Try.f61 0) (loopTail ([0, 3, 4], []) [0, 2, 3] [] (sumK 105 [0, 3, 4] [0, 2, 3] (q61l0 m))) (frameOf 105 [0, 3, 4] [.pointer (some ⟨0, 0, some 0⟩), .int .i64 x0, .int .i64 x1]) ⟨[⟨true, (some (.cells [wsl 1, wsl 2, wsl 3, wsl 4]))⟩, ⟨true, (some (.tab [.fl .f32] x2))⟩, ⟨true, (some (.tab [.fl .f32] x3))⟩, ⟨true, (some (.tab sc0 x4))⟩, ⟨true, (some (.tab sc1 x5))⟩], 5, []⟩ = firstT ([((Nat.beq (r61l0 (m + 1) x0 x1 x2 x3 x4 x5) 0), .ret, [.pointer (some ⟨0, 0, some 0⟩), .bool false, .int .i64 x0], ⟨[⟨true, (some (.cells [wsl 1, wsl 2, wsl 3, wsl 4]))⟩, ⟨true, (some (.tab [.fl .f32] x2))⟩, ⟨true, (some (.tab [.fl .f32] x3))⟩, ⟨true, (some (.tab sc0 x4))⟩, ⟨true, (some (.tab sc1 x5))⟩], 5, []⟩), ((Nat.beq (r61l0 (m + 1) x0 x1 x2 x3 x4 x5) 1), .exit 0, [.pointer (some ⟨0, 0, some 0⟩), anyV, .int .i64 x0], ⟨[⟨true, (some (.cells [wsl 1, wsl 2, wsl 3, wsl 4]))⟩, ⟨true, (some (.tab [.fl .f32] x2))⟩, ⟨true, (some (.tab [.fl .f32] x3))⟩, ⟨true, (some (.tab sc0 x4))⟩, ⟨true, (some (.tab sc1 x5))⟩], 5, []⟩)].map fun (b, x) => (b, (x.1, frameOf 105 [0, 2, 3] x.2.1, x.2.2))) :=
 (show evC Try.prog ext T16 noL 200 (loopN Try.f61 0) (loopTail ([0, 3, 4], []) [0, 2, 3] [] (sumK 105 [0, 3, 4] [0, 2, 3] (q61l0 m))) (frameOf 105 [0, 3, 4] [.pointer (some ⟨0, 0, some 0⟩), .int .i64 x0, .int .i64 x1]) ⟨[⟨true, (some (.cells [wsl 1, wsl 2, wsl 3, wsl 4]))⟩, ⟨true, (some (.tab [.fl .f32] x2))⟩, ⟨true, (some (.tab [.fl .f32] x3))⟩, ⟨true, (some (.tab sc0 x4))⟩, ⟨true, (some (.tab sc1 x5))⟩], 5, []⟩ = w61l0 (r61l0 m) x0 x1 x2 x3 x4 x5 from by kernel_rfl).trans
 (show w61l0 (r61l0 m) x0 x1 x2 x3 x4 x5 = a61l0 x0 x1 x2 x3 x4 x5 (r61l0 (m + 1) x0 x1 x2 x3 x4 x5) from by unfold w61l0; show _ = a61l0 x0 x1 x2 x3 x4 x5 (b61l0 (r61l0 m) x0 x1 x2 x3 x4 x5); unfold b61l0; exact (cond_both (a61l0 x0 x1 x2 x3 x4 x5) _ (fun h0 => (cond_both (a61l0 x0 x1 x2 x3 x4 x5) _ (fun h1 => (cond_t (ev_and2 h1) (cond_both (a61l0 x0 x1 x2 x3 x4 x5) _ (fun h2 => rfl) (fun h2 => (cond_both (a61l0 x0 x1 x2 x3 x4 x5) _ (fun h3 => (cond_t (ev_and2 h3) (cond_app (a61l0 x0 x1 x2 x3 x4 x5) _ rfl (v61l0 x0 x1 x2 x3 x4 x5 ((r61l0 m) x0 (IntKind.i64.wrap (x1 + 1)) x2 x3 x4 x5))))) (fun h3 => rfl)))))) (fun h1 => rfl))) (fun h0 => rfl)))
set_option maxRecDepth 100000 in
set_option maxHeartbeats 4000000 in
theorem qm61l0 : ∀ m, SumKOk Try.prog (loopN Try.f61 0) 105 [0, 3, 4] [0, 2, 3] (q61l0 m) := by
  intro m
  induction m with
  | zero =>
    intro vals s x h1 h2 h3
    unfold q61l0 at h3; split at h3
    · rename_i h; split at h3
      · rename_i hc; obtain ⟨rfl, rfl, rfl, rfl, rfl, rfl, rfl⟩ := hc; exact absurd h3 (by simp [r61l0, firstT, Nat.beq])
      · exact noQ_ok _ _ _ h1 h2 h3
    · exact noQ_ok _ _ _ h1 h2 h3
  | succ m ih =>
    intro vals s x h1 h2 h3
    unfold q61l0 at h3; split at h3
    · rename_i h; split at h3
      · rename_i hc; obtain ⟨rfl, rfl, rfl, rfl, rfl, rfl, rfl⟩ := hc; exact sum_step ok16 extOk mixed ((lfOkF_no _ _).inner (by kernel_rfl)) ih h1 h2 h (e61l0 m _ _ _ _ _ _) rfl h3
      · exact noQ_ok _ _ _ h1 h2 h3
    · exact noQ_ok _ _ _ h1 h2 h3
noncomputable def Q61l0 : SumK := fun vals s => q61l0 (fuelOf vals s.h) vals s
theorem qok61l0 : SumKOk Try.prog (loopN Try.f61 0) 105 [0, 3, 4] [0, 2, 3] Q61l0 := fuel_ok qm61l0 fuelOf
noncomputable def L61_1 : LoopT := addL noL 6 ([0, 3, 4], []) (sumK 105 [0, 3, 4] [0, 2, 3] Q61l0)
theorem lok61_1 : LfOkF Try.prog L61_1 Try.f61 := lfOkF_add (lfOkF_no _ _) qok61l0 (by kernel_rfl) (by kernel_rfl) (by kernel_rfl)

/-- spec.l04Sides -/
noncomputable def r125 (x0 x1 x2 : Int) : Bool :=
 cond (r87 x0 0 (IntKind.i64.wrap (x2 - 1)))
  (cond (r87 x1 (-1) (IntKind.i64.wrap (x2 - 1)))
   (((x0 : Int) != x1))
   (false))
  (false)
noncomputable def a125 (x0 x1 x2 : Int) (p : Bool) : Res := firstT [(true, .bool p, st0)]
noncomputable def w125 (x0 x1 x2 : Int) : Res :=
 (cond (r87 x0 0 (IntKind.i64.wrap (x2 - 1)))
 (cond (r87 x1 (-1) (IntKind.i64.wrap (x2 - 1)))
  (a125 x0 x1 x2 (((x0 : Int) != x1)))
  (a125 x0 x1 x2 (false)))
 (a125 x0 x1 x2 (false)))
set_option maxRecDepth 100000 in
set_option maxHeartbeats 4000000 in
theorem e125 (x0 x1 x2 : Int) : evFn Try.prog ext T16 noL 200 Try.f125 [.int .i64 x0, .int .i64 x1, .int .i64 x2] st0 = firstT [(true, .bool (r125 x0 x1 x2), st0)] :=
 (show evFn Try.prog ext T16 noL 200 Try.f125 [.int .i64 x0, .int .i64 x1, .int .i64 x2] st0 = w125 x0 x1 x2 from by kernel_rfl).trans
 (show w125 x0 x1 x2 = a125 x0 x1 x2 (r125 x0 x1 x2) from by unfold w125 r125; exact (cond_app (a125 x0 x1 x2) _ (cond_app (a125 x0 x1 x2) _ rfl rfl) rfl))
noncomputable def s125 (args : List Value) (s : St) : List (Bool × Value × St) :=
 match args, s.h with
 | [.int .i64 x0, .int .i64 x1, .int .i64 x2], [] => [(true, .bool (r125 x0 x1 x2), st0)]
 | _, _ => T16 125 args s
noncomputable def T17 : CallF := addF T16 125 s125
set_option maxRecDepth 100000 in
set_option maxHeartbeats 4000000 in
theorem ok17 : CfOk Try.prog T17 := by
  refine cfOk_add ok16 fun args s r s' h1 h2 h3 => ?_
  unfold s125 at h3; split at h3
  · rename_i h; exact callOk ok16 Try.func125 h1 h2 h (lfOkF_no _ _).body (e125 _ _ _) rfl h3
  · exact ok16 _ _ _ _ _ h1 h2 h3

/-- spec.l04Wall -/
noncomputable def r109 (x0 : Nat) (x1 : Int) (x2 : List (List Int)) : Nat × Bool :=
 cond (Nat.blt x0 x2.length)
  (cond (!(r84 (Int.toNat ((x2.getD x0 []).getD 4 0))))
   (0, false)
   (cond (!(r84 (Int.toNat ((x2.getD x0 []).getD 5 0))))
    (0, false)
    (cond (!(r84 (Int.toNat ((x2.getD x0 []).getD 6 0))))
     (0, false)
     (cond (!(r84 (Int.toNat ((x2.getD x0 []).getD 7 0))))
      (0, false)
      (cond (r125 ((x2.getD x0 []).getD 0 0) ((x2.getD x0 []).getD 1 0) x1)
       (cond (r88 (Int.toNat ((x2.getD x0 []).getD 2 0)))
        (cond (fgt .f32 (Int.toNat ((x2.getD x0 []).getD 2 0)) 1015021568 || feq .f32 (Int.toNat ((x2.getD x0 []).getD 2 0)) 1015021568)
         (cond (flt .f32 (Int.toNat ((x2.getD x0 []).getD 2 0)) 1120403456 || feq .f32 (Int.toNat ((x2.getD x0 []).getD 2 0)) 1120403456)
          (0, (r108 (Int.toNat ((x2.getD x0 []).getD 3 0))))
          (0, false))
         (0, false))
        (0, false))
       (0, false))))))
  (1, false)
noncomputable def a109 (x0 : Nat) (x1 : Int) (x2 : List (List Int)) (p : Nat × Bool) : Res := firstT [((Nat.beq (p.1) 0), .bool (p.2), ⟨[⟨true, (some (.tab sc0 x2))⟩], 1, []⟩)]
noncomputable def w109 (x0 : Nat) (x1 : Int) (x2 : List (List Int)) : Res :=
 (cond (Nat.blt x0 x2.length)
 (cond (!(r84 (Int.toNat ((x2.getD x0 []).getD 4 0))))
  (a109 x0 x1 x2 (0, false))
  (cond (Nat.blt x0 x2.length)
   (cond (!(r84 (Int.toNat ((x2.getD x0 []).getD 5 0))))
    (a109 x0 x1 x2 (0, false))
    (cond (Nat.blt x0 x2.length)
     (cond (!(r84 (Int.toNat ((x2.getD x0 []).getD 6 0))))
      (a109 x0 x1 x2 (0, false))
      (cond (Nat.blt x0 x2.length)
       (cond (!(r84 (Int.toNat ((x2.getD x0 []).getD 7 0))))
        (a109 x0 x1 x2 (0, false))
        (cond (Nat.blt x0 x2.length)
         (cond (Nat.blt x0 x2.length)
          (cond (r125 ((x2.getD x0 []).getD 0 0) ((x2.getD x0 []).getD 1 0) x1)
           (cond (Nat.blt x0 x2.length)
            (cond (r88 (Int.toNat ((x2.getD x0 []).getD 2 0)))
             (cond (Nat.blt x0 x2.length)
              (cond (fgt .f32 (Int.toNat ((x2.getD x0 []).getD 2 0)) 1015021568 || feq .f32 (Int.toNat ((x2.getD x0 []).getD 2 0)) 1015021568)
               (cond (Nat.blt x0 x2.length)
                (cond (flt .f32 (Int.toNat ((x2.getD x0 []).getD 2 0)) 1120403456 || feq .f32 (Int.toNat ((x2.getD x0 []).getD 2 0)) 1120403456)
                 (cond (Nat.blt x0 x2.length)
                  (a109 x0 x1 x2 (0, (r108 (Int.toNat ((x2.getD x0 []).getD 3 0)))))
                  none)
                 (a109 x0 x1 x2 (0, false)))
                none)
               (a109 x0 x1 x2 (0, false)))
              none)
             (a109 x0 x1 x2 (0, false)))
            none)
           (a109 x0 x1 x2 (0, false)))
          none)
         none))
       none))
     none))
   none))
 none)
set_option maxRecDepth 100000 in
set_option maxHeartbeats 4000000 in
theorem e109 (x0 : Nat) (x1 : Int) (x2 : List (List Int)) : evFn Try.prog ext T17 noL 200 Try.f109 [.pointer (some ⟨0, x0, some 0⟩), .int .i64 x1] ⟨[⟨true, (some (.tab sc0 x2))⟩], 1, []⟩ = firstT [((Nat.beq ((r109 x0 x1 x2).1) 0), .bool ((r109 x0 x1 x2).2), ⟨[⟨true, (some (.tab sc0 x2))⟩], 1, []⟩)] :=
 (show evFn Try.prog ext T17 noL 200 Try.f109 [.pointer (some ⟨0, x0, some 0⟩), .int .i64 x1] ⟨[⟨true, (some (.tab sc0 x2))⟩], 1, []⟩ = w109 x0 x1 x2 from by kernel_rfl).trans
 (show w109 x0 x1 x2 = a109 x0 x1 x2 (r109 x0 x1 x2) from by unfold w109 r109; exact (cond_both (a109 x0 x1 x2) _ (fun h0 => (cond_both (a109 x0 x1 x2) _ (fun h1 => rfl) (fun h1 => (cond_t h0 (cond_both (a109 x0 x1 x2) _ (fun h2 => rfl) (fun h2 => (cond_t h0 (cond_both (a109 x0 x1 x2) _ (fun h3 => rfl) (fun h3 => (cond_t h0 (cond_both (a109 x0 x1 x2) _ (fun h4 => rfl) (fun h4 => (cond_t h0 (cond_t h0 (cond_both (a109 x0 x1 x2) _ (fun h5 => (cond_t h0 (cond_both (a109 x0 x1 x2) _ (fun h6 => (cond_t h0 (cond_both (a109 x0 x1 x2) _ (fun h7 => (cond_t h0 (cond_both (a109 x0 x1 x2) _ (fun h8 => (cond_t h0 rfl)) (fun h8 => rfl)))) (fun h7 => rfl)))) (fun h6 => rfl)))) (fun h5 => rfl)))))))))))))))) (fun h0 => rfl)))
noncomputable def s109 (args : List Value) (s : St) : List (Bool × Value × St) :=
 match args, s.h with
 | [.pointer (some ⟨f0, x0, some f1⟩), .int .i64 x1], [⟨true, some (.tab [.int .i64, .int .i64, .fl .f32, .fl .f32, .fl .f32, .fl .f32, .fl .f32, .fl .f32] x2)⟩] => if f0 = 0 ∧ f1 = 0 then [((Nat.beq ((r109 x0 x1 x2).1) 0), .bool ((r109 x0 x1 x2).2), ⟨[⟨true, (some (.tab sc0 x2))⟩], 1, []⟩)] else T17 109 args s
 | _, _ => T17 109 args s
noncomputable def T18 : CallF := addF T17 109 s109
set_option maxRecDepth 100000 in
set_option maxHeartbeats 4000000 in
theorem ok18 : CfOk Try.prog T18 := by
  refine cfOk_add ok17 fun args s r s' h1 h2 h3 => ?_
  unfold s109 at h3; split at h3
  · rename_i h; split at h3
    · rename_i hc; obtain ⟨rfl, rfl⟩ := hc; exact callOk ok17 Try.func109 h1 h2 h (lfOkF_no _ _).body (e109 _ _ _) rfl h3
    · exact ok17 _ _ _ _ _ h1 h2 h3
  · exact ok17 _ _ _ _ _ h1 h2 h3

/-- spec.l04Ok, loop 1: one round -/
noncomputable def b61l1 (ih : Int → Int → List (List Int) → List (List Int) → List (List Int) → List (List Int) → Nat) (x0 x1 : Int) (x2 x3 x4 x5 : List (List Int)) : Nat :=
 cond (decide ((x1 : Int) < ((x4.length : Nat) : Int)))
  (cond ((decide ((0 : Int) ≤ x1)) && (Nat.blt (Int.toNat x1) x4.length))
   (cond (Nat.beq ((r109 (Int.toNat x1) x0 x4).1) 0)
    (cond (!((r109 (Int.toNat x1) x0 x4).2))
     (0)
     (ih x0 (IntKind.i64.wrap (x1 + 1)) x2 x3 x4 x5))
    (2))
   (2))
  (1)
noncomputable def r61l1 : Nat → Int → Int → List (List Int) → List (List Int) → List (List Int) → List (List Int) → Nat
 | 0 => fun _ _ _ _ _ _ => (2)
 | m + 1 => b61l1 (r61l1 m)
noncomputable def a61l1 (x0 x1 : Int) (x2 x3 x4 x5 : List (List Int)) (p : Nat) : Option (Fin' × List Value × St) := firstT ([((Nat.beq p 0), .ret, [.pointer (some ⟨0, 0, some 0⟩), .bool false, .int .i64 x0], ⟨[⟨true, (some (.cells [wsl 1, wsl 2, wsl 3, wsl 4]))⟩, ⟨true, (some (.tab [.fl .f32] x2))⟩, ⟨true, (some (.tab [.fl .f32] x3))⟩, ⟨true, (some (.tab sc0 x4))⟩, ⟨true, (some (.tab sc1 x5))⟩], 5, []⟩), ((Nat.beq p 1), .exit 2, [.pointer (some ⟨0, 0, some 0⟩), anyV, .int .i64 x0], ⟨[⟨true, (some (.cells [wsl 1, wsl 2, wsl 3, wsl 4]))⟩, ⟨true, (some (.tab [.fl .f32] x2))⟩, ⟨true, (some (.tab [.fl .f32] x3))⟩, ⟨true, (some (.tab sc0 x4))⟩, ⟨true, (some (.tab sc1 x5))⟩], 5, []⟩)].map fun (b, x) => (b, (x.1, frameOf 105 [0, 2, 3] x.2.1, x.2.2)))
noncomputable def u61l1 (x0 x1 : Int) (x2 x3 x4 x5 : List (List Int)) (p : Nat) : Option (Fin' × List Value × St) := alts ([((Nat.beq p 0), .ret, [.pointer (some ⟨0, 0, some 0⟩), .bool false, .int .i64 x0], ⟨[⟨true, (some (.cells [wsl 1, wsl 2, wsl 3, wsl 4]))⟩, ⟨true, (some (.tab [.fl .f32] x2))⟩, ⟨true, (some (.tab [.fl .f32] x3))⟩, ⟨true, (some (.tab sc0 x4))⟩, ⟨true, (some (.tab sc1 x5))⟩], 5, []⟩), ((Nat.beq p 1), .exit 2, [.pointer (some ⟨0, 0, some 0⟩), anyV, .int .i64 x0], ⟨[⟨true, (some (.cells [wsl 1, wsl 2, wsl 3, wsl 4]))⟩, ⟨true, (some (.tab [.fl .f32] x2))⟩, ⟨true, (some (.tab [.fl .f32] x3))⟩, ⟨true, (some (.tab sc0 x4))⟩, ⟨true, (some (.tab sc1 x5))⟩], 5, []⟩)].map fun (b, x) => (b, (x.1, frameOf 105 [0, 2, 3] x.2.1, x.2.2))) some
theorem v61l1 (x0 x1 : Int) (x2 x3 x4 x5 : List (List Int)) (p : Nat) : u61l1 x0 x1 x2 x3 x4 x5 p = a61l1 x0 x1 x2 x3 x4 x5 p := alts_first _
noncomputable def q61l1 (m : Nat) : SumK := fun vals s =>
 match vals, s.h with
 | [.pointer (some ⟨f0, f1, some f2⟩), .int .i64 x0, .int .i64 x1], [⟨true, some (.cells [.iface f3 .nilIface, .iface f4 .nilIface, .iface f5 .nilIface, .iface f6 .nilIface])⟩, ⟨true, some (.tab [.fl .f32] x2)⟩, ⟨true, some (.tab [.fl .f32] x3)⟩, ⟨true, some (.tab [.int .i64, .int .i64, .fl .f32, .fl .f32, .fl .f32, .fl .f32, .fl .f32, .fl .f32] x4)⟩, ⟨true, some (.tab [.int .i64, .int .i64, .fl .f32, .fl .f32] x5)⟩] => if f0 = 0 ∧ f1 = 0 ∧ f2 = 0 ∧ f3 = 1 ∧ f4 = 2 ∧ f5 = 3 ∧ f6 = 4 then [((Nat.beq (r61l1 m x0 x1 x2 x3 x4 x5) 0), .ret, [.pointer (some ⟨0, 0, some 0⟩), .bool false, .int .i64 x0], ⟨[⟨true, (some (.cells [wsl 1, wsl 2, wsl 3, wsl 4]))⟩, ⟨true, (some (.tab [.fl .f32] x2))⟩, ⟨true, (some (.tab [.fl .f32] x3))⟩, ⟨true, (some (.tab sc0 x4))⟩, ⟨true, (some (.tab sc1 x5))⟩], 5, []⟩), ((Nat.beq (r61l1 m x0 x1 x2 x3 x4 x5) 1), .exit 2, [.pointer (some ⟨0, 0, some 0⟩), anyV, .int .i64 x0], ⟨[⟨true, (some (.cells [wsl 1, wsl 2, wsl 3, wsl 4]))⟩, ⟨true, (some (.tab [.fl .f32] x2))⟩, ⟨true, (some (.tab [.fl .f32] x3))⟩, ⟨true, (some (.tab sc0 x4))⟩, ⟨true, (some (.tab sc1 x5))⟩], 5, []⟩)] else noQ vals s
 | _, _ => noQ vals s
noncomputable def w61l1 (ih : Int → Int → List (List Int) → List (List Int) → List (List Int) → List (List Int) → Nat) (x0 x1 : Int) (x2 x3 x4 x5 : List (List Int)) : Option (Fin' × List Value × St) :=
 (cond (decide ((x1 : Int) < ((x4.length : Nat) : Int)))
 (cond ((decide ((0 : Int) ≤ x1)) && (Nat.blt (Int.toNat x1) x4.length))
  (cond (Nat.beq ((r109 (Int.toNat x1) x0 x4).1) 0)
   (cond (!((r109 (Int.toNat x1) x0 x4).2))
    (a61l1 x0 x1 x2 x3 x4 x5 (0))
    (u61l1 x0 x1 x2 x3 x4 x5 (ih x0 (IntKind.i64.wrap (x1 + 1)) x2 x3 x4 x5)))
   none)
  none)
 (a61l1 x0 x1 x2 x3 x4 x5 (1)))
set_option maxRecDepth 100000 in
set_option maxHeartbeats 4000000 in
theorem e61l1 (m : Nat) (x0 x1 : Int) (x2 x3 x4 x5 : List (List Int)) : evC Try.prog ext T18 L61_1 200 (loopN Try.f61 1) (loopTail ([0, 3, 5], []) [0, 2, 3] [] (sumK 105 [0, 3, 5] [0, 2, 3] (q61l1 m))) (frameOf 105 [0, 3, 5] [.pointer (some ⟨0, 0, some 0⟩), .int .i64 x0, .int .i64 x1]) ⟨[⟨true, (some (.cells [wsl 1, wsl 2, wsl 3, wsl 4]))⟩, ⟨true, (some (.tab [.fl .f32] x2))⟩, ⟨true, (some (.tab [.fl .f32] x3))⟩, ⟨true, (some (.tab sc0 x4))⟩, ⟨true, (some (.tab sc1 x5))⟩], 5, []⟩ = firstT ([((Nat.beq (r61l1 (m + 1) x0 x1 x2 x3 x4 x5) 0), .ret, [.pointer (some ⟨0, 0, some 0⟩), .bool false, .int .i64 x0], ⟨[⟨true, (some (.cells [wsl 1, wsl 2, wsl 3, wsl 4]))⟩, ⟨true, (some (.tab [.fl .f32] x2))⟩, ⟨true, (some (.tab [.fl .f32] x3))⟩, ⟨true, (some (.tab sc0 x4))⟩, ⟨true, (some (.tab sc1 x5))⟩], 5, []⟩), ((Nat.beq (r61l1 (m + 1) x0 x1 x2 x3 x4 x5) 1), .exit 2, [.pointer (some ⟨0, 0, some 0⟩), anyV, .int .i64 x0], ⟨[⟨true, (some (.cells [wsl 1, wsl 2, wsl 3, wsl 4]))⟩, ⟨true, (some (.tab [.fl .f32] x2))⟩, ⟨true, (some (.tab [.fl .f32] x3))⟩, ⟨true, (some (.tab sc0 x4))⟩, ⟨true, (some (.tab sc1 x5))⟩], 5, []⟩)].map fun (b, x) => (b, (x.1, frameOf 105 [0, 2, 3] x.2.1, x.2.2))) :=
 (show evC Try.prog ext T18 L61_1 200 (loopN Try.f61 1) (loopTail ([0, 3, 5], []) [0, 2, 3] [] (sumK 105 [0, 3, 5] [0, 2, 3] (q61l1 m))) (frameOf 105 [0, 3, 5] [.pointer (some ⟨0, 0, some 0⟩), .int .i64 x0, .int .i64 x1]) ⟨[⟨true, (some (.cells [wsl 1, wsl 2, wsl 3, wsl 4]))⟩, ⟨true, (some (.tab [.fl .f32] x2))⟩, ⟨true, (some (.tab [.fl .f32] x3))⟩, ⟨true, (some (.tab sc0 x4))⟩, ⟨true, (some (.tab sc1 x5))⟩], 5, []⟩ = w61l1 (r61l1 m) x0 x1 x2 x3 x4 x5 from by kernel_rfl).trans
 (show w61l1 (r61l1 m) x0 x1 x2 x3 x4 x5 = a61l1 x0 x1 x2 x3 x4 x5 (r61l1 (m + 1) x0 x1 x2 x3 x4 x5) from by unfold w61l1; show _ = a61l1 x0 x1 x2 x3 x4 x5 (b61l1 (r61l1 m) x0 x1 x2 x3 x4 x5); unfold b61l1; exact (cond_app (a61l1 x0 x1 x2 x3 x4 x5) _ (cond_app (a61l1 x0 x1 x2 x3 x4 x5) _ (cond_app (a61l1 x0 x1 x2 x3 x4 x5) _ (cond_app (a61l1 x0 x1 x2 x3 x4 x5) _ rfl (v61l1 x0 x1 x2 x3 x4 x5 ((r61l1 m) x0 (IntKind.i64.wrap (x1 + 1)) x2 x3 x4 x5))) rfl) rfl) rfl))
set_option maxRecDepth 100000 in
set_option maxHeartbeats 4000000 in
theorem qm61l1 : ∀ m, SumKOk Try.prog (loopN Try.f61 1) 105 [0, 3, 5] [0, 2, 3] (q61l1 m) := by
  intro m
  induction m with
  | zero =>
    intro vals s x h1 h2 h3
    unfold q61l1 at h3; split at h3
    · rename_i h; split at h3
      · rename_i hc; obtain ⟨rfl, rfl, rfl, rfl, rfl, rfl, rfl⟩ := hc; exact absurd h3 (by simp [r61l1, firstT, Nat.beq])
      · exact noQ_ok _ _ _ h1 h2 h3
    · exact noQ_ok _ _ _ h1 h2 h3
  | succ m ih =>
    intro vals s x h1 h2 h3
    unfold q61l1 at h3; split at h3
    · rename_i h; split at h3
      · rename_i hc; obtain ⟨rfl, rfl, rfl, rfl, rfl, rfl, rfl⟩ := hc; exact sum_step ok18 extOk mixed (lok61_1.inner (by kernel_rfl)) ih h1 h2 h (e61l1 m _ _ _ _ _ _) rfl h3
      · exact noQ_ok _ _ _ h1 h2 h3
    · exact noQ_ok _ _ _ h1 h2 h3
noncomputable def Q61l1 : SumK := fun vals s => q61l1 (fuelOf vals s.h) vals s
theorem qok61l1 : SumKOk Try.prog (loopN Try.f61 1) 105 [0, 3, 5] [0, 2, 3] Q61l1 := fuel_ok qm61l1 fuelOf
noncomputable def L61_2 : LoopT := addL L61_1 11 ([0, 3, 5], []) (sumK 105 [0, 3, 5] [0, 2, 3] Q61l1)
theorem lok61_2 : LfOkF Try.prog L61_2 Try.f61 := lfOkF_add lok61_1 qok61l1 (by kernel_rfl) (by kernel_rfl) (by kernel_rfl)

/-- spec.l04Pane -/
noncomputable def r110 (x0 : Nat) (x1 : Int) (x2 : List (List Int)) : Nat × Bool :=
 cond (Nat.blt x0 x2.length)
  (cond (r125 ((x2.getD x0 []).getD 0 0) ((x2.getD x0 []).getD 1 0) x1)
   (cond (r88 (Int.toNat ((x2.getD x0 []).getD 2 0)))
    (cond (flt .f32 (Int.toNat ((x2.getD x0 []).getD 2 0)) 1120403456 || feq .f32 (Int.toNat ((x2.getD x0 []).getD 2 0)) 1120403456)
     (cond (r88 (Int.toNat ((x2.getD x0 []).getD 3 0)))
      (0, (flt .f32 (Int.toNat ((x2.getD x0 []).getD 3 0)) 1092616192 || feq .f32 (Int.toNat ((x2.getD x0 []).getD 3 0)) 1092616192))
      (0, false))
     (0, false))
    (0, false))
   (0, false))
  (1, false)
noncomputable def a110 (x0 : Nat) (x1 : Int) (x2 : List (List Int)) (p : Nat × Bool) : Res := firstT [((Nat.beq (p.1) 0), .bool (p.2), ⟨[⟨true, (some (.tab sc1 x2))⟩], 1, []⟩)]
noncomputable def w110 (x0 : Nat) (x1 : Int) (x2 : List (List Int)) : Res :=
 (cond (Nat.blt x0 x2.length)
 (cond (Nat.blt x0 x2.length)
  (cond (r125 ((x2.getD x0 []).getD 0 0) ((x2.getD x0 []).getD 1 0) x1)
   (cond (Nat.blt x0 x2.length)
    (cond (r88 (Int.toNat ((x2.getD x0 []).getD 2 0)))
     (cond (Nat.blt x0 x2.length)
      (cond (flt .f32 (Int.toNat ((x2.getD x0 []).getD 2 0)) 1120403456 || feq .f32 (Int.toNat ((x2.getD x0 []).getD 2 0)) 1120403456)
       (cond (Nat.blt x0 x2.length)
        (cond (r88 (Int.toNat ((x2.getD x0 []).getD 3 0)))
         (cond (Nat.blt x0 x2.length)
          (a110 x0 x1 x2 (0, (flt .f32 (Int.toNat ((x2.getD x0 []).getD 3 0)) 1092616192 || feq .f32 (Int.toNat ((x2.getD x0 []).getD 3 0)) 1092616192)))
          none)
         (a110 x0 x1 x2 (0, false)))
        none)
       (a110 x0 x1 x2 (0, false)))
      none)
     (a110 x0 x1 x2 (0, false)))
    none)
   (a110 x0 x1 x2 (0, false)))
  none)
 none)
set_option maxRecDepth 100000 in
set_option maxHeartbeats 4000000 in
theorem e110 (x0 : Nat) (x1 : Int) (x2 : List (List Int)) : evFn Try.prog ext T18 noL 200 Try.f110 [.pointer (some ⟨0, x0, some 0⟩), .int .i64 x1] ⟨[⟨true, (some (.tab sc1 x2))⟩], 1, []⟩ = firstT [((Nat.beq ((r110 x0 x1 x2).1) 0), .bool ((r110 x0 x1 x2).2), ⟨[⟨true, (some (.tab sc1 x2))⟩], 1, []⟩)] :=
 (show evFn Try.prog ext T18 noL 200 Try.f110 [.pointer (some ⟨0, x0, some 0⟩), .int .i64 x1] ⟨[⟨true, (some (.tab sc1 x2))⟩], 1, []⟩ = w110 x0 x1 x2 from by kernel_rfl).trans
 (show w110 x0 x1 x2 = a110 x0 x1 x2 (r110 x0 x1 x2) from by unfold w110 r110; exact (cond_both (a110 x0 x1 x2) _ (fun h0 => (cond_t h0 (cond_both (a110 x0 x1 x2) _ (fun h1 => (cond_t h0 (cond_both (a110 x0 x1 x2) _ (fun h2 => (cond_t h0 (cond_both (a110 x0 x1 x2) _ (fun h3 => (cond_t h0 (cond_both (a110 x0 x1 x2) _ (fun h4 => (cond_t h0 rfl)) (fun h4 => rfl)))) (fun h3 => rfl)))) (fun h2 => rfl)))) (fun h1 => rfl)))) (fun h0 => rfl)))
noncomputable def s110 (args : List Value) (s : St) : List (Bool × Value × St) :=
 match args, s.h with
 | [.pointer (some ⟨f0, x0, some f1⟩), .int .i64 x1], [⟨true, some (.tab [.int .i64, .int .i64, .fl .f32, .fl .f32] x2)⟩] => if f0 = 0 ∧ f1 = 0 then [((Nat.beq ((r110 x0 x1 x2).1) 0), .bool ((r110 x0 x1 x2).2), ⟨[⟨true, (some (.tab sc1 x2))⟩], 1, []⟩)] else T18 110 args s
 | _, _ => T18 110 args s
noncomputable def T19 : CallF := addF T18 110 s110
set_option maxRecDepth 100000 in
set_option maxHeartbeats 4000000 in
theorem ok19 : CfOk Try.prog T19 := by
  refine cfOk_add ok18 fun args s r s' h1 h2 h3 => ?_
  unfold s110 at h3; split at h3
  · rename_i h; split at h3
    · rename_i hc; obtain ⟨rfl, rfl⟩ := hc; exact callOk ok18 Try.func110 h1 h2 h (lfOkF_no _ _).body (e110 _ _ _) rfl h3
    · exact ok18 _ _ _ _ _ h1 h2 h3
  · exact ok18 _ _ _ _ _ h1 h2 h3

/-- spec.l04Ok, loop 2: one round -/
noncomputable def b61l2 (ih : Int → Int → List (List Int) → List (List Int) → List (List Int) → List (List Int) → Nat) (x0 x1 : Int) (x2 x3 x4 x5 : List (List Int)) : Nat :=
 cond (decide ((x1 : Int) < ((x5.length : Nat) : Int)))
  (cond ((decide ((0 : Int) ≤ x1)) && (Nat.blt (Int.toNat x1) x5.length))
   (cond (Nat.beq ((r110 (Int.toNat x1) x0 x5).1) 0)
    (cond (!((r110 (Int.toNat x1) x0 x5).2))
     (0)
     (ih x0 (IntKind.i64.wrap (x1 + 1)) x2 x3 x4 x5))
    (2))
   (2))
  (1)
noncomputable def r61l2 : Nat → Int → Int → List (List Int) → List (List Int) → List (List Int) → List (List Int) → Nat
 | 0 => fun _ _ _ _ _ _ => (2)
 | m + 1 => b61l2 (r61l2 m)
noncomputable def a61l2 (x0 x1 : Int) (x2 x3 x4 x5 : List (List Int)) (p : Nat) : Option (Fin' × List Value × St) := firstT ([((Nat.beq p 0), .ret, [.bool false], ⟨[⟨true, (some (.cells [wsl 1, wsl 2, wsl 3, wsl 4]))⟩, ⟨true, (some (.tab [.fl .f32] x2))⟩, ⟨true, (some (.tab [.fl .f32] x3))⟩, ⟨true, (some (.tab sc0 x4))⟩, ⟨true, (some (.tab sc1 x5))⟩], 5, []⟩), ((Nat.beq p 1), .exit 4, [anyV], ⟨[⟨true, (some (.cells [wsl 1, wsl 2, wsl 3, wsl 4]))⟩, ⟨true, (some (.tab [.fl .f32] x2))⟩, ⟨true, (some (.tab [.fl .f32] x3))⟩, ⟨true, (some (.tab sc0 x4))⟩, ⟨true, (some (.tab sc1 x5))⟩], 5, []⟩)].map fun (b, x) => (b, (x.1, frameOf 105 [2] x.2.1, x.2.2)))
noncomputable def u61l2 (x0 x1 : Int) (x2 x3 x4 x5 : List (List Int)) (p : Nat) : Option (Fin' × List Value × St) := alts ([((Nat.beq p 0), .ret, [.bool false], ⟨[⟨true, (some (.cells [wsl 1, wsl 2, wsl 3, wsl 4]))⟩, ⟨true, (some (.tab [.fl .f32] x2))⟩, ⟨true, (some (.tab [.fl .f32] x3))⟩, ⟨true, (some (.tab sc0 x4))⟩, ⟨true, (some (.tab sc1 x5))⟩], 5, []⟩), ((Nat.beq p 1), .exit 4, [anyV], ⟨[⟨true, (some (.cells [wsl 1, wsl 2, wsl 3, wsl 4]))⟩, ⟨true, (some (.tab [.fl .f32] x2))⟩, ⟨true, (some (.tab [.fl .f32] x3))⟩, ⟨true, (some (.tab sc0 x4))⟩, ⟨true, (some (.tab sc1 x5))⟩], 5, []⟩)].map fun (b, x) => (b, (x.1, frameOf 105 [2] x.2.1, x.2.2))) some
theorem v61l2 (x0 x1 : Int) (x2 x3 x4 x5 : List (List Int)) (p : Nat) : u61l2 x0 x1 x2 x3 x4 x5 p = a61l2 x0 x1 x2 x3 x4 x5 p := alts_first _
noncomputable def q61l2 (m : Nat) : SumK := fun vals s =>
 match vals, s.h with
 | [.pointer (some ⟨f0, f1, some f2⟩), .int .i64 x0, .int .i64 x1], [⟨true, some (.cells [.iface f3 .nilIface, .iface f4 .nilIface, .iface f5 .nilIface, .iface f6 .nilIface])⟩, ⟨true, some (.tab [.fl .f32] x2)⟩, ⟨true, some (.tab [.fl .f32] x3)⟩, ⟨true, some (.tab [.int .i64, .int .i64, .fl .f32, .fl .f32, .fl .f32, .fl .f32, .fl .f32, .fl .f32] x4)⟩, ⟨true, some (.tab [.int .i64, .int .i64, .fl .f32, .fl .f32] x5)⟩] => if f0 = 0 ∧ f1 = 0 ∧ f2 = 0 ∧ f3 = 1 ∧ f4 = 2 ∧ f5 = 3 ∧ f6 = 4 then [((Nat.beq (r61l2 m x0 x1 x2 x3 x4 x5) 0), .ret, [.bool false], ⟨[⟨true, (some (.cells [wsl 1, wsl 2, wsl 3, wsl 4]))⟩, ⟨true, (some (.tab [.fl .f32] x2))⟩, ⟨true, (some (.tab [.fl .f32] x3))⟩, ⟨true, (some (.tab sc0 x4))⟩, ⟨true, (some (.tab sc1 x5))⟩], 5, []⟩), ((Nat.beq (r61l2 m x0 x1 x2 x3 x4 x5) 1), .exit 4, [anyV], ⟨[⟨true, (some (.cells [wsl 1, wsl 2, wsl 3, wsl 4]))⟩, ⟨true, (some (.tab [.fl .f32] x2))⟩, ⟨true, (some (.tab [.fl .f32] x3))⟩, ⟨true, (some (.tab sc0 x4))⟩, ⟨true, (some (.tab sc1 x5))⟩], 5, []⟩)] else noQ vals s
 | _, _ => noQ vals s
noncomputable def w61l2 (ih : Int → Int → List (List Int) → List (List Int) → List (List Int) → List (List Int) → Nat) (x0 x1 : Int) (x2 x3 x4 x5 : List (List Int)) : Option (Fin' × List Value × St) :=
 (cond (decide ((x1 : Int) < ((x5.length : Nat) : Int)))
 (cond ((decide ((0 : Int) ≤ x1)) && (Nat.blt (Int.toNat x1) x5.length))
  (cond (Nat.beq ((r110 (Int.toNat x1) x0 x5).1) 0)
   (cond (!((r110 (Int.toNat x1) x0 x5).2))
    (a61l2 x0 x1 x2 x3 x4 x5 (0))
    (u61l2 x0 x1 x2 x3 x4 x5 (ih x0 (IntKind.i64.wrap (x1 + 1)) x2 x3 x4 x5)))
   none)
  none)
 (a61l2 x0 x1 x2 x3 x4 x5 (1)))
set_option maxRecDepth 100000 in
set_option maxHeartbeats 4000000 in
theorem e61l2 (m : Nat) (x0 x1 : Int) (x2 x3 x4 x5 : List (List Int)) : evC Try.prog ext T19 L61_2 200 (loopN Try.f61 2) (loopTail ([0, 3, 6], []) [2] [] (sumK 105 [0, 3, 6] [2] (q61l2 m))) (frameOf 105 [0, 3, 6] [.pointer (some ⟨0, 0, some 0⟩), .int .i64 x0, .int .i64 x1]) ⟨[⟨true, (some (.cells [wsl 1, wsl 2, wsl 3, wsl 4]))⟩, ⟨true, (some (.tab [.fl .f32] x2))⟩, ⟨true, (some (.tab [.fl .f32] x3))⟩, ⟨true, (some (.tab sc0 x4))⟩, ⟨true, (some (.tab sc1 x5))⟩], 5, []⟩ = firstT ([((Nat.beq (r61l2 (m + 1) x0 x1 x2 x3 x4 x5) 0), .ret, [.bool false], ⟨[⟨true, (some (.cells [wsl 1, wsl 2, wsl 3, wsl 4]))⟩, ⟨true, (some (.tab [.fl .f32] x2))⟩, ⟨true, (some (.tab [.fl .f32] x3))⟩, ⟨true, (some (.tab sc0 x4))⟩, ⟨true, (some (.tab sc1 x5))⟩], 5, []⟩), ((Nat.beq (r61l2 (m + 1) x0 x1 x2 x3 x4 x5) 1), .exit 4, [anyV], ⟨[⟨true, (some (.cells [wsl 1, wsl 2, wsl 3, wsl 4]))⟩, ⟨true, (some (.tab [.fl .f32] x2))⟩, ⟨true, (some (.tab [.fl .f32] x3))⟩, ⟨true, (some (.tab sc0 x4))⟩, ⟨true, (some (.tab sc1 x5))⟩], 5, []⟩)].map fun (b, x) => (b, (x.1, frameOf 105 [2] x.2.1, x.2.2))) :=
 (show evC Try.prog ext T19 L61_2 200 (loopN Try.f61 2) (loopTail ([0, 3, 6], []) [2] [] (sumK 105 [0, 3, 6] [2] (q61l2 m))) (frameOf 105 [0, 3, 6] [.pointer (some ⟨0, 0, some 0⟩), .int .i64 x0, .int .i64 x1]) ⟨[⟨true, (some (.cells [wsl 1, wsl 2, wsl 3, wsl 4]))⟩, ⟨true, (some (.tab [.fl .f32] x2))⟩, ⟨true, (some (.tab [.fl .f32] x3))⟩, ⟨true, (some (.tab sc0 x4))⟩, ⟨true, (some (.tab sc1 x5))⟩], 5, []⟩ = w61l2 (r61l2 m) x0 x1 x2 x3 x4 x5 from by kernel_rfl).trans
 (show w61l2 (r61l2 m) x0 x1 x2 x3 x4 x5 = a61l2 x0 x1 x2 x3 x4 x5 (r61l2 (m + 1) x0 x1 x2 x3 x4 x5) from by unfold w61l2; show _ = a61l2 x0 x1 x2 x3 x4 x5 (b61l2 (r61l2 m) x0 x1 x2 x3 x4 x5); unfold b61l2; exact (cond_app (a61l2 x0 x1 x2 x3 x4 x5) _ (cond_app (a61l2 x0 x1 x2 x3 x4 x5) _ (cond_app (a61l2 x0 x1 x2 x3 x4 x5) _ (cond_app (a61l2 x0 x1 x2 x3 x4 x5) _ rfl (v61l2 x0 x1 x2 x3 x4 x5 ((r61l2 m) x0 (IntKind.i64.wrap (x1 + 1)) x2 x3 x4 x5))) rfl) rfl) rfl))
set_option maxRecDepth 100000 in
set_option maxHeartbeats 4000000 in
theorem qm61l2 : ∀ m, SumKOk Try.prog (loopN Try.f61 2) 105 [0, 3, 6] [2] (q61l2 m) := by
  intro m
  induction m with
  | zero =>
    intro vals s x h1 h2 h3
    unfold q61l2 at h3; split at h3
    · rename_i h; split at h3
      · rename_i hc; obtain ⟨rfl, rfl, rfl, rfl, rfl, rfl, rfl⟩ := hc; exact absurd h3 (by simp [r61l2, firstT, Nat.beq])
      · exact noQ_ok _ _ _ h1 h2 h3
    · exact noQ_ok _ _ _ h1 h2 h3
  | succ m ih =>
    intro vals s x h1 h2 h3
    unfold q61l2 at h3; split at h3
    · rename_i h; split at h3
      · rename_i hc; obtain ⟨rfl, rfl, rfl, rfl, rfl, rfl, rfl⟩ := hc; exact sum_step ok19 extOk mixed (lok61_2.inner (by kernel_rfl)) ih h1 h2 h (e61l2 m _ _ _ _ _ _) rfl h3
      · exact noQ_ok _ _ _ h1 h2 h3
    · exact noQ_ok _ _ _ h1 h2 h3
noncomputable def Q61l2 : SumK := fun vals s => q61l2 (fuelOf vals s.h) vals s
theorem qok61l2 : SumKOk Try.prog (loopN Try.f61 2) 105 [0, 3, 6] [2] Q61l2 := fuel_ok qm61l2 fuelOf
noncomputable def L61_3 : LoopT := addL L61_2 16 ([0, 3, 6], []) (sumK 105 [0, 3, 6] [2] Q61l2)
theorem lok61_3 : LfOkF Try.prog L61_3 Try.f61 := lfOkF_add lok61_2 qok61l2 (by kernel_rfl) (by kernel_rfl) (by kernel_rfl)

/-- spec.l04Ok -/
noncomputable def r61 (x0 x1 x2 x3 : List (List Int)) : Nat × Bool :=
 cond (!(r87 ((x0.length : Nat) : Int) 1 5))
  (0, false)
  (cond ((((x1.length : Nat) : Int) : Int) != ((x0.length : Nat) : Int))
   (0, false)
   (cond (decide ((((x2.length : Nat) : Int) : Int) > 10))
    (0, false)
    (cond (decide ((((x3.length : Nat) : Int) : Int) > 8))
     (0, false)
     (cond (Nat.beq (r61l0 (1000 + x3.length + x2.length + x1.length + x0.length) ((x0.length : Nat) : Int) 0 x0 x1 x2 x3) 0)
      (0, false)
      (cond (Nat.beq (r61l0 (1000 + x3.length + x2.length + x1.length + x0.length) ((x0.length : Nat) : Int) 0 x0 x1 x2 x3) 1)
       (cond (Nat.beq (r61l1 (1000 + x3.length + x2.length + x1.length + x0.length) ((x0.length : Nat) : Int) 0 x0 x1 x2 x3) 0)
        (0, false)
        (cond (Nat.beq (r61l1 (1000 + x3.length + x2.length + x1.length + x0.length) ((x0.length : Nat) : Int) 0 x0 x1 x2 x3) 1)
         (cond (Nat.beq (r61l2 (1000 + x3.length + x2.length + x1.length + x0.length) ((x0.length : Nat) : Int) 0 x0 x1 x2 x3) 0)
          (0, false)
          (cond (Nat.beq (r61l2 (1000 + x3.length + x2.length + x1.length + x0.length) ((x0.length : Nat) : Int) 0 x0 x1 x2 x3) 1)
           (0, true)
           (1, false)))
         (1, false)))
       (1, false))))))
noncomputable def a61 (x0 x1 x2 x3 : List (List Int)) (p : Nat × Bool) : Res := firstT [((Nat.beq (p.1) 0), .bool (p.2), ⟨[⟨true, (some (.cells [wsl 1, wsl 2, wsl 3, wsl 4]))⟩, ⟨true, (some (.tab [.fl .f32] x0))⟩, ⟨true, (some (.tab [.fl .f32] x1))⟩, ⟨true, (some (.tab sc0 x2))⟩, ⟨true, (some (.tab sc1 x3))⟩], 5, []⟩)]
noncomputable def w61 (x0 x1 x2 x3 : List (List Int)) : Res :=
 (cond (!(r87 ((x0.length : Nat) : Int) 1 5))
 (a61 x0 x1 x2 x3 (0, false))
 (cond ((((x1.length : Nat) : Int) : Int) != ((x0.length : Nat) : Int))
  (a61 x0 x1 x2 x3 (0, false))
  (cond (decide ((((x2.length : Nat) : Int) : Int) > 10))
   (a61 x0 x1 x2 x3 (0, false))
   (cond (decide ((((x3.length : Nat) : Int) : Int) > 8))
    (a61 x0 x1 x2 x3 (0, false))
    (cond (Nat.beq (r61l0 (1000 + x3.length + x2.length + x1.length + x0.length) ((x0.length : Nat) : Int) 0 x0 x1 x2 x3) 0)
     (a61 x0 x1 x2 x3 (0, false))
     (cond (Nat.beq (r61l0 (1000 + x3.length + x2.length + x1.length + x0.length) ((x0.length : Nat) : Int) 0 x0 x1 x2 x3) 1)
      (cond (Nat.beq (r61l1 (1000 + x3.length + x2.length + x1.length + x0.length) ((x0.length : Nat) : Int) 0 x0 x1 x2 x3) 0)
       (a61 x0 x1 x2 x3 (0, false))
       (cond (Nat.beq (r61l1 (1000 + x3.length + x2.length + x1.length + x0.length) ((x0.length : Nat) : Int) 0 x0 x1 x2 x3) 1)
        (cond (Nat.beq (r61l2 (1000 + x3.length + x2.length + x1.length + x0.length) ((x0.length : Nat) : Int) 0 x0 x1 x2 x3) 0)
         (a61 x0 x1 x2 x3 (0, false))
         (cond (Nat.beq (r61l2 (1000 + x3.length + x2.length + x1.length + x0.length) ((x0.length : Nat) : Int) 0 x0 x1 x2 x3) 1)
          (a61 x0 x1 x2 x3 (0, true))
          none))
        none))
      none))))))
set_option maxRecDepth 100000 in
set_option maxHeartbeats 4000000 in
theorem e61 (x0 x1 x2 x3 : List (List Int)) : evFn Try.prog ext T19 L61_3 200 Try.f61 [.pointer (some ⟨0, 0, some 0⟩)] ⟨[⟨true, (some (.cells [wsl 1, wsl 2, wsl 3, wsl 4]))⟩, ⟨true, (some (.tab [.fl .f32] x0))⟩, ⟨true, (some (.tab [.fl .f32] x1))⟩, ⟨true, (some (.tab sc0 x2))⟩, ⟨true, (some (.tab sc1 x3))⟩], 5, []⟩ = firstT [((Nat.beq ((r61 x0 x1 x2 x3).1) 0), .bool ((r61 x0 x1 x2 x3).2), ⟨[⟨true, (some (.cells [wsl 1, wsl 2, wsl 3, wsl 4]))⟩, ⟨true, (some (.tab [.fl .f32] x0))⟩, ⟨true, (some (.tab [.fl .f32] x1))⟩, ⟨true, (some (.tab sc0 x2))⟩, ⟨true, (some (.tab sc1 x3))⟩], 5, []⟩)] :=
 (show evFn Try.prog ext T19 L61_3 200 Try.f61 [.pointer (some ⟨0, 0, some 0⟩)] ⟨[⟨true, (some (.cells [wsl 1, wsl 2, wsl 3, wsl 4]))⟩, ⟨true, (some (.tab [.fl .f32] x0))⟩, ⟨true, (some (.tab [.fl .f32] x1))⟩, ⟨true, (some (.tab sc0 x2))⟩, ⟨true, (some (.tab sc1 x3))⟩], 5, []⟩ = w61 x0 x1 x2 x3 from by kernel_rfl).trans
 (show w61 x0 x1 x2 x3 = a61 x0 x1 x2 x3 (r61 x0 x1 x2 x3) from by unfold w61 r61; exact (cond_app (a61 x0 x1 x2 x3) _ rfl (cond_app (a61 x0 x1 x2 x3) _ rfl (cond_app (a61 x0 x1 x2 x3) _ rfl (cond_app (a61 x0 x1 x2 x3) _ rfl (cond_app (a61 x0 x1 x2 x3) _ rfl (cond_app (a61 x0 x1 x2 x3) _ (cond_app (a61 x0 x1 x2 x3) _ rfl (cond_app (a61 x0 x1 x2 x3) _ (cond_app (a61 x0 x1 x2 x3) _ rfl (cond_app (a61 x0 x1 x2 x3) _ rfl rfl)) rfl)) rfl)))))))
noncomputable def s61 (args : List Value) (s : St) : List (Bool × Value × St) :=
 match args, s.h with
 | [.pointer (some ⟨f0, f1, some f2⟩)], [⟨true, some (.cells [.iface f3 .nilIface, .iface f4 .nilIface, .iface f5 .nilIface, .iface f6 .nilIface])⟩, ⟨true, some (.tab [.fl .f32] x0)⟩, ⟨true, some (.tab [.fl .f32] x1)⟩, ⟨true, some (.tab [.int .i64, .int .i64, .fl .f32, .fl .f32, .fl .f32, .fl .f32, .fl .f32, .fl .f32] x2)⟩, ⟨true, some (.tab [.int .i64, .int .i64, .fl .f32, .fl .f32] x3)⟩] => if f0 = 0 ∧ f1 = 0 ∧ f2 = 0 ∧ f3 = 1 ∧ f4 = 2 ∧ f5 = 3 ∧ f6 = 4 then [((Nat.beq ((r61 x0 x1 x2 x3).1) 0), .bool ((r61 x0 x1 x2 x3).2), ⟨[⟨true, (some (.cells [wsl 1, wsl 2, wsl 3, wsl 4]))⟩, ⟨true, (some (.tab [.fl .f32] x0))⟩, ⟨true, (some (.tab [.fl .f32] x1))⟩, ⟨true, (some (.tab sc0 x2))⟩, ⟨true, (some (.tab sc1 x3))⟩], 5, []⟩)] else T19 61 args s
 | _, _ => T19 61 args s
noncomputable def T20 : CallF := addF T19 61 s61
set_option maxRecDepth 100000 in
set_option maxHeartbeats 4000000 in
theorem ok20 : CfOk Try.prog T20 := by
  refine cfOk_add ok19 fun args s r s' h1 h2 h3 => ?_
  unfold s61 at h3; split at h3
  · rename_i h; split at h3
    · rename_i hc; obtain ⟨rfl, rfl, rfl, rfl, rfl, rfl, rfl⟩ := hc; exact callOk ok19 Try.func61 h1 h2 h lok61_3.body (e61 _ _ _ _) rfl h3
    · exact ok19 _ _ _ _ _ h1 h2 h3
  · exact ok19 _ _ _ _ _ h1 h2 h3

/-- spec.l04Copy -/
noncomputable def r59 (x0 x1 x2 x3 : List (List Int)) : Nat × List (List Int) × List (List Int) × List (List Int) × List (List Int) :=
 cond (Nat.ble ((0 + x0.length) * 5) 140737488355328)
  (cond (Nat.ble ((0 + x1.length) * 5) 140737488355328)
   (cond (Nat.ble ((0 + x2.length) * 41) 140737488355328)
    (cond (Nat.ble ((0 + x3.length) * 25) 140737488355328)
     (0, (([] : List (List Int)) ++ x0), (([] : List (List Int)) ++ x1), (([] : List (List Int)) ++ x2), (([] : List (List Int)) ++ x3))
     (1, [], [], [], []))
    (1, [], [], [], []))
   (1, [], [], [], []))
  (1, [], [], [], [])
noncomputable def a59 (x0 x1 x2 x3 : List (List Int)) (p : Nat × List (List Int) × List (List Int) × List (List Int) × List (List Int)) : Res := firstT [((Nat.beq (p.1) 0), .agg #[wsl 5, wsl 6, wsl 7, wsl 8], ⟨[⟨true, (some (.cells [wsl 1, wsl 2, wsl 3, wsl 4]))⟩, ⟨true, (some (.tab [.fl .f32] x0))⟩, ⟨true, (some (.tab [.fl .f32] x1))⟩, ⟨true, (some (.tab sc0 x2))⟩, ⟨true, (some (.tab sc1 x3))⟩, ⟨true, (some (.tab [.fl .f32] (p.2.1)))⟩, ⟨true, (some (.tab [.fl .f32] (p.2.2.1)))⟩, ⟨true, (some (.tab sc0 (p.2.2.2.1)))⟩, ⟨true, (some (.tab sc1 (p.2.2.2.2)))⟩], 5, []⟩)]
noncomputable def w59 (x0 x1 x2 x3 : List (List Int)) : Res :=
 (cond (Nat.ble ((0 + x0.length) * 5) 140737488355328)
 (cond (Nat.ble ((0 + x1.length) * 5) 140737488355328)
  (cond (Nat.ble ((0 + x2.length) * 41) 140737488355328)
   (cond (Nat.ble ((0 + x3.length) * 25) 140737488355328)
    (a59 x0 x1 x2 x3 (0, (([] : List (List Int)) ++ x0), (([] : List (List Int)) ++ x1), (([] : List (List Int)) ++ x2), (([] : List (List Int)) ++ x3)))
    none)
   none)
  none)
 none)
set_option maxRecDepth 100000 in
set_option maxHeartbeats 4000000 in
theorem e59 (x0 x1 x2 x3 : List (List Int)) : evFn Try.prog ext T20 noL 200 Try.f59 [.pointer (some ⟨0, 0, some 0⟩)] ⟨[⟨true, (some (.cells [wsl 1, wsl 2, wsl 3, wsl 4]))⟩, ⟨true, (some (.tab [.fl .f32] x0))⟩, ⟨true, (some (.tab [.fl .f32] x1))⟩, ⟨true, (some (.tab sc0 x2))⟩, ⟨true, (some (.tab sc1 x3))⟩], 5, []⟩ = firstT [((Nat.beq ((r59 x0 x1 x2 x3).1) 0), .agg #[wsl 5, wsl 6, wsl 7, wsl 8], ⟨[⟨true, (some (.cells [wsl 1, wsl 2, wsl 3, wsl 4]))⟩, ⟨true, (some (.tab [.fl .f32] x0))⟩, ⟨true, (some (.tab [.fl .f32] x1))⟩, ⟨true, (some (.tab sc0 x2))⟩, ⟨true, (some (.tab sc1 x3))⟩, ⟨true, (some (.tab [.fl .f32] ((r59 x0 x1 x2 x3).2.1)))⟩, ⟨true, (some (.tab [.fl .f32] ((r59 x0 x1 x2 x3).2.2.1)))⟩, ⟨true, (some (.tab sc0 ((r59 x0 x1 x2 x3).2.2.2.1)))⟩, ⟨true, (some (.tab sc1 ((r59 x0 x1 x2 x3).2.2.2.2)))⟩], 5, []⟩)] :=
 (show evFn Try.prog ext T20 noL 200 Try.f59 [.pointer (some ⟨0, 0, some 0⟩)] ⟨[⟨true, (some (.cells [wsl 1, wsl 2, wsl 3, wsl 4]))⟩, ⟨true, (some (.tab [.fl .f32] x0))⟩, ⟨true, (some (.tab [.fl .f32] x1))⟩, ⟨true, (some (.tab sc0 x2))⟩, ⟨true, (some (.tab sc1 x3))⟩], 5, []⟩ = w59 x0 x1 x2 x3 from by kernel_rfl).trans
 (show w59 x0 x1 x2 x3 = a59 x0 x1 x2 x3 (r59 x0 x1 x2 x3) from by unfold w59 r59; exact (cond_app (a59 x0 x1 x2 x3) _ (cond_app (a59 x0 x1 x2 x3) _ (cond_app (a59 x0 x1 x2 x3) _ (cond_app (a59 x0 x1 x2 x3) _ rfl rfl) rfl) rfl) rfl))
noncomputable def s59 (args : List Value) (s : St) : List (Bool × Value × St) :=
 match args, s.h with
 | [.pointer (some ⟨f0, f1, some f2⟩)], [⟨true, some (.cells [.iface f3 .nilIface, .iface f4 .nilIface, .iface f5 .nilIface, .iface f6 .nilIface])⟩, ⟨true, some (.tab [.fl .f32] x0)⟩, ⟨true, some (.tab [.fl .f32] x1)⟩, ⟨true, some (.tab [.int .i64, .int .i64, .fl .f32, .fl .f32, .fl .f32, .fl .f32, .fl .f32, .fl .f32] x2)⟩, ⟨true, some (.tab [.int .i64, .int .i64, .fl .f32, .fl .f32] x3)⟩] => if f0 = 0 ∧ f1 = 0 ∧ f2 = 0 ∧ f3 = 1 ∧ f4 = 2 ∧ f5 = 3 ∧ f6 = 4 then [((Nat.beq ((r59 x0 x1 x2 x3).1) 0), .agg #[wsl 5, wsl 6, wsl 7, wsl 8], ⟨[⟨true, (some (.cells [wsl 1, wsl 2, wsl 3, wsl 4]))⟩, ⟨true, (some (.tab [.fl .f32] x0))⟩, ⟨true, (some (.tab [.fl .f32] x1))⟩, ⟨true, (some (.tab sc0 x2))⟩, ⟨true, (some (.tab sc1 x3))⟩, ⟨true, (some (.tab [.fl .f32] ((r59 x0 x1 x2 x3).2.1)))⟩, ⟨true, (some (.tab [.fl .f32] ((r59 x0 x1 x2 x3).2.2.1)))⟩, ⟨true, (some (.tab sc0 ((r59 x0 x1 x2 x3).2.2.2.1)))⟩, ⟨true, (some (.tab sc1 ((r59 x0 x1 x2 x3).2.2.2.2)))⟩], 5, []⟩)] else T20 59 args s
 | _, _ => T20 59 args s
noncomputable def T21 : CallF := addF T20 59 s59
set_option maxRecDepth 100000 in
set_option maxHeartbeats 4000000 in
theorem ok21 : CfOk Try.prog T21 := by
  refine cfOk_add ok20 fun args s r s' h1 h2 h3 => ?_
  unfold s59 at h3; split at h3
  · rename_i h; split at h3
    · rename_i hc; obtain ⟨rfl, rfl, rfl, rfl, rfl, rfl, rfl⟩ := hc; exact callOk ok20 Try.func59 h1 h2 h (lfOkF_no _ _).body (e59 _ _ _ _) rfl h3
    · exact ok20 _ _ _ _ _ h1 h2 h3
  · exact ok20 _ _ _ _ _ h1 h2 h3

/-- spec.l04Swapped -/
noncomputable def r91 (x0 x1 x2 : Int) : Int :=
 cond ((x0 : Int) == x1)
  (x2)
  (cond ((x0 : Int) == x2)
   (x1)
   (x0))
noncomputable def a91 (x0 x1 x2 : Int) (p : Int) : Res := firstT [(true, .int .i64 p, st0)]
noncomputable def w91 (x0 x1 x2 : Int) : Res :=
 (cond ((x0 : Int) == x1)
 (a91 x0 x1 x2 (x2))
 (cond ((x0 : Int) == x2)
  (a91 x0 x1 x2 (x1))
  (a91 x0 x1 x2 (x0))))
set_option maxRecDepth 100000 in
set_option maxHeartbeats 4000000 in
theorem e91 (x0 x1 x2 : Int) : evFn Try.prog ext T21 noL 200 Try.f91 [.int .i64 x0, .int .i64 x1, .int .i64 x2] st0 = firstT [(true, .int .i64 (r91 x0 x1 x2), st0)] :=
 (show evFn Try.prog ext T21 noL 200 Try.f91 [.int .i64 x0, .int .i64 x1, .int .i64 x2] st0 = w91 x0 x1 x2 from by kernel_rfl).trans
 (show w91 x0 x1 x2 = a91 x0 x1 x2 (r91 x0 x1 x2) from by unfold w91 r91; exact (cond_app (a91 x0 x1 x2) _ rfl (cond_app (a91 x0 x1 x2) _ rfl rfl)))
noncomputable def s91 (args : List Value) (s : St) : List (Bool × Value × St) :=
 match args, s.h with
 | [.int .i64 x0, .int .i64 x1, .int .i64 x2], [] => [(true, .int .i64 (r91 x0 x1 x2), st0)]
 | _, _ => T21 91 args s
noncomputable def T22 : CallF := addF T21 91 s91
set_option maxRecDepth 100000 in
set_option maxHeartbeats 4000000 in
theorem ok22 : CfOk Try.prog T22 := by
  refine cfOk_add ok21 fun args s r s' h1 h2 h3 => ?_
  unfold s91 at h3; split at h3
  · rename_i h; exact callOk ok21 Try.func91 h1 h2 h (lfOkF_no _ _).body (e91 _ _ _) rfl h3
  · exact ok21 _ _ _ _ _ h1 h2 h3

/-- spec.SwapRooms, loop 0: one round -/
noncomputable def b38l0 (ih : Int → Int → Int → List (List Int) → List (List Int) → List (List Int) → List (List Int) → (Nat × List (List Int))) (x0 x1 x2 : Int) (x3 x4 x5 x6 : List (List Int)) : Nat × List (List Int) :=
 let c42 := (r91 (((x5.modify (Int.toNat x2) (fun r => spl 8 r 0 [(r91 ((x5.getD (Int.toNat x2) []).getD 0 0) x0 x1)])).getD (Int.toNat x2) []).getD 1 0) x0 x1)
 cond (decide ((x2 : Int) < ((x5.length : Nat) : Int)))
  (cond ((decide ((0 : Int) ≤ x2)) && (Nat.blt (Int.toNat x2) x5.length))
   (cond ((decide ((0 : Int) ≤ x2)) && (Nat.blt (Int.toNat x2) ((x5.modify (Int.toNat x2) (fun r => spl 8 r 0 [(r91 ((x5.getD (Int.toNat x2) []).getD 0 0) x0 x1)])).length)))
    (ih x0 x1 (IntKind.i64.wrap (x2 + 1)) x3 x4 ((x5.modify (Int.toNat x2) (fun r => spl 8 r 0 [(r91 ((x5.getD (Int.toNat x2) []).getD 0 0) x0 x1)])).modify (Int.toNat x2) (fun r => spl 8 r 1 [c42])) x6)
    (1, []))
   (1, []))
  (0, x5)
noncomputable def r38l0 : Nat → Int → Int → Int → List (List Int) → List (List Int) → List (List Int) → List (List Int) → (Nat × List (List Int))
 | 0 => fun _ _ _ _ _ _ _ => (1, [])
 | m + 1 => b38l0 (r38l0 m)
noncomputable def a38l0 (x0 x1 x2 : Int) (x3 x4 x5 x6 : List (List Int)) (p : Nat × List (List Int)) : Option (Fin' × List Value × St) := firstT ([((Nat.beq (p.1) 0), .exit 0, [.int .i64 x0, .int .i64 x1, .pointer (some ⟨0, 0, some 0⟩), .pointer (some ⟨1, 0, some 0⟩)], ⟨[⟨true, (some (.cells [.slice none 0 0, .slice none 0 0, .slice none 0 0, .slice none 0 0]))⟩, ⟨true, (some (.cells [wsl 2, wsl 3, wsl 4, wsl 5]))⟩, ⟨true, (some (.tab [.fl .f32] x3))⟩, ⟨true, (some (.tab [.fl .f32] x4))⟩, ⟨true, (some (.tab sc0 (p.2)))⟩, ⟨true, (some (.tab sc1 x6))⟩], 6, [4]⟩)].map fun (b, x) => (b, (x.1, frameOf 139 [1, 2, 6, 9] x.2.1, x.2.2)))
noncomputable def u38l0 (x0 x1 x2 : Int) (x3 x4 x5 x6 : List (List Int)) (p : Nat × List (List Int)) : Option (Fin' × List Value × St) := alts ([((Nat.beq (p.1) 0), .exit 0, [.int .i64 x0, .int .i64 x1, .pointer (some ⟨0, 0, some 0⟩), .pointer (some ⟨1, 0, some 0⟩)], ⟨[⟨true, (some (.cells [.slice none 0 0, .slice none 0 0, .slice none 0 0, .slice none 0 0]))⟩, ⟨true, (some (.cells [wsl 2, wsl 3, wsl 4, wsl 5]))⟩, ⟨true, (some (.tab [.fl .f32] x3))⟩, ⟨true, (some (.tab [.fl .f32] x4))⟩, ⟨true, (some (.tab sc0 (p.2)))⟩, ⟨true, (some (.tab sc1 x6))⟩], 6, [4]⟩)].map fun (b, x) => (b, (x.1, frameOf 139 [1, 2, 6, 9] x.2.1, x.2.2))) some
theorem v38l0 (x0 x1 x2 : Int) (x3 x4 x5 x6 : List (List Int)) (p : Nat × List (List Int)) : u38l0 x0 x1 x2 x3 x4 x5 x6 p = a38l0 x0 x1 x2 x3 x4 x5 x6 p := alts_first _
noncomputable def q38l0 (m : Nat) : SumK := fun vals s =>
 match vals, s.h with
 | [.int .i64 x0, .int .i64 x1, .pointer (some ⟨f0, f1, some f2⟩), .pointer (some ⟨f3, f4, some f5⟩), .int .i64 x2], [⟨true, some (.cells [.slice none f6 f7, .slice none f8 f9, .slice none f10 f11, .slice none f12 f13])⟩, ⟨true, some (.cells [.iface f14 .nilIface, .iface f15 .nilIface, .iface f16 .nilIface, .iface f17 .nilIface])⟩, ⟨true, some (.tab [.fl .f32] x3)⟩, ⟨true, some (.tab [.fl .f32] x4)⟩, ⟨true, some (.tab [.int .i64, .int .i64, .fl .f32, .fl .f32, .fl .f32, .fl .f32, .fl .f32, .fl .f32] x5)⟩, ⟨true, some (.tab [.int .i64, .int .i64, .fl .f32, .fl .f32] x6)⟩] => if f0 = 0 ∧ f1 = 0 ∧ f2 = 0 ∧ f3 = 1 ∧ f4 = 0 ∧ f5 = 0 ∧ f6 = 0 ∧ f7 = 0 ∧ f8 = 0 ∧ f9 = 0 ∧ f10 = 0 ∧ f11 = 0 ∧ f12 = 0 ∧ f13 = 0 ∧ f14 = 2 ∧ f15 = 3 ∧ f16 = 4 ∧ f17 = 5 then [((Nat.beq ((r38l0 m x0 x1 x2 x3 x4 x5 x6).1) 0), .exit 0, [.int .i64 x0, .int .i64 x1, .pointer (some ⟨0, 0, some 0⟩), .pointer (some ⟨1, 0, some 0⟩)], ⟨[⟨true, (some (.cells [.slice none 0 0, .slice none 0 0, .slice none 0 0, .slice none 0 0]))⟩, ⟨true, (some (.cells [wsl 2, wsl 3, wsl 4, wsl 5]))⟩, ⟨true, (some (.tab [.fl .f32] x3))⟩, ⟨true, (some (.tab [.fl .f32] x4))⟩, ⟨true, (some (.tab sc0 ((r38l0 m x0 x1 x2 x3 x4 x5 x6).2)))⟩, ⟨true, (some (.tab sc1 x6))⟩], 6, [4]⟩)] else noQ vals s
 | _, _ => noQ vals s
noncomputable def w38l0 (ih : Int → Int → Int → List (List Int) → List (List Int) → List (List Int) → List (List Int) → (Nat × List (List Int))) (x0 x1 x2 : Int) (x3 x4 x5 x6 : List (List Int)) : Option (Fin' × List Value × St) :=
 let c42 := (r91 (((x5.modify (Int.toNat x2) (fun r => spl 8 r 0 [(r91 ((x5.getD (Int.toNat x2) []).getD 0 0) x0 x1)])).getD (Int.toNat x2) []).getD 1 0) x0 x1)
 (cond (decide ((x2 : Int) < ((x5.length : Nat) : Int)))
 (cond ((decide ((0 : Int) ≤ x2)) && (Nat.blt (Int.toNat x2) x5.length))
  (cond (Nat.blt (Int.toNat x2) x5.length)
   (cond ((decide ((0 : Int) ≤ x2)) && (Nat.blt (Int.toNat x2) x5.length))
    (cond (Nat.blt (Int.toNat x2) x5.length)
     (cond ((decide ((0 : Int) ≤ x2)) && (Nat.blt (Int.toNat x2) ((x5.modify (Int.toNat x2) (fun r => spl 8 r 0 [(r91 ((x5.getD (Int.toNat x2) []).getD 0 0) x0 x1)])).length)))
      (cond (Nat.blt (Int.toNat x2) ((x5.modify (Int.toNat x2) (fun r => spl 8 r 0 [(r91 ((x5.getD (Int.toNat x2) []).getD 0 0) x0 x1)])).length))
       (cond ((decide ((0 : Int) ≤ x2)) && (Nat.blt (Int.toNat x2) ((x5.modify (Int.toNat x2) (fun r => spl 8 r 0 [(r91 ((x5.getD (Int.toNat x2) []).getD 0 0) x0 x1)])).length)))
        (cond (Nat.blt (Int.toNat x2) ((x5.modify (Int.toNat x2) (fun r => spl 8 r 0 [(r91 ((x5.getD (Int.toNat x2) []).getD 0 0) x0 x1)])).length))
         (u38l0 x0 x1 x2 x3 x4 x5 x6 (ih x0 x1 (IntKind.i64.wrap (x2 + 1)) x3 x4 ((x5.modify (Int.toNat x2) (fun r => spl 8 r 0 [(r91 ((x5.getD (Int.toNat x2) []).getD 0 0) x0 x1)])).modify (Int.toNat x2) (fun r => spl 8 r 1 [c42])) x6))
         none)
        none)
       none)
      none)
     none)
    none)
   none)
  none)
 (a38l0 x0 x1 x2 x3 x4 x5 x6 (0, x5)))
set_option maxRecDepth 100000 in
set_option maxHeartbeats 4000000 in
theorem e38l0 (m : Nat) (x0 x1 x2 : Int) (x3 x4 x5 x6 : List (List Int)) : evC Try.prog ext T22 noL 200 (loopN Try.f38 0) (loopTail ([1, 2, 6, 9, 10], []) [1, 2, 6, 9] [4] (sumK 139 [1, 2, 6, 9, 10] [1, 2, 6, 9] (q38l0 m))) (frameOf 139 [1, 2, 6, 9, 10] [.int .i64 x0, .int .i64 x1, .pointer (some ⟨0, 0, some 0⟩), .pointer (some ⟨1, 0, some 0⟩), .int .i64 x2]) ⟨[⟨true, (some (.cells [.slice none 0 0, .slice none 0 0, .slice none 0 0, .slice none 0 0]))⟩, ⟨true, (some (.cells [wsl 2, wsl 3, wsl 4, wsl 5]))⟩, ⟨true, (some (.tab [.fl .f32] x3))⟩, ⟨true, (some (.tab [.fl .f32] x4))⟩, ⟨true, (some (.tab sc0 x5))⟩, ⟨true, (some (.tab sc1 x6))⟩], 6, []⟩ = firstT ([((Nat.beq ((r38l0 (m + 1) x0 x1 x2 x3 x4 x5 x6).1) 0), .exit 0, [.int .i64 x0, .int .i64 x1, .pointer (some ⟨0, 0, some 0⟩), .pointer (some ⟨1, 0, some 0⟩)], ⟨[⟨true, (some (.cells [.slice none 0 0, .slice none 0 0, .slice none 0 0, .slice none 0 0]))⟩, ⟨true, (some (.cells [wsl 2, wsl 3, wsl 4, wsl 5]))⟩, ⟨true, (some (.tab [.fl .f32] x3))⟩, ⟨true, (some (.tab [.fl .f32] x4))⟩, ⟨true, (some (.tab sc0 ((r38l0 (m + 1) x0 x1 x2 x3 x4 x5 x6).2)))⟩, ⟨true, (some (.tab sc1 x6))⟩], 6, [4]⟩)].map fun (b, x) => (b, (x.1, frameOf 139 [1, 2, 6, 9] x.2.1, x.2.2))) :=
 (show evC Try.prog ext T22 noL 200 (loopN Try.f38 0) (loopTail ([1, 2, 6, 9, 10], []) [1, 2, 6, 9] [4] (sumK 139 [1, 2, 6, 9, 10] [1, 2, 6, 9] (q38l0 m))) (frameOf 139 [1, 2, 6, 9, 10] [.int .i64 x0, .int .i64 x1, .pointer (some ⟨0, 0, some 0⟩), .pointer (some ⟨1, 0, some 0⟩), .int .i64 x2]) ⟨[⟨true, (some (.cells [.slice none 0 0, .slice none 0 0, .slice none 0 0, .slice none 0 0]))⟩, ⟨true, (some (.cells [wsl 2, wsl 3, wsl 4, wsl 5]))⟩, ⟨true, (some (.tab [.fl .f32] x3))⟩, ⟨true, (some (.tab [.fl .f32] x4))⟩, ⟨true, (some (.tab sc0 x5))⟩, ⟨true, (some (.tab sc1 x6))⟩], 6, []⟩ = w38l0 (r38l0 m) x0 x1 x2 x3 x4 x5 x6 from by kernel_rfl).trans
 (show w38l0 (r38l0 m) x0 x1 x2 x3 x4 x5 x6 = a38l0 x0 x1 x2 x3 x4 x5 x6 (r38l0 (m + 1) x0 x1 x2 x3 x4 x5 x6) from by unfold w38l0; show _ = a38l0 x0 x1 x2 x3 x4 x5 x6 (b38l0 (r38l0 m) x0 x1 x2 x3 x4 x5 x6); unfold b38l0; exact (cond_both (a38l0 x0 x1 x2 x3 x4 x5 x6) _ (fun h0 => (cond_both (a38l0 x0 x1 x2 x3 x4 x5 x6) _ (fun h1 => (cond_t (ev_and2 h1) (cond_t h1 (cond_t (ev_and2 h1) (cond_both (a38l0 x0 x1 x2 x3 x4 x5 x6) _ (fun h2 => (cond_t (ev_and2 h2) (cond_t h2 (cond_t (ev_and2 h2) (v38l0 x0 x1 x2 x3 x4 x5 x6 ((r38l0 m) x0 x1 (IntKind.i64.wrap (x2 + 1)) x3 x4 ((x5.modify (Int.toNat x2) (fun r => spl 8 r 0 [(r91 ((x5.getD (Int.toNat x2) []).getD 0 0) x0 x1)])).modify (Int.toNat x2) (fun r => spl 8 r 1 [(r91 (((x5.modify (Int.toNat x2) (fun r => spl 8 r 0 [(r91 ((x5.getD (Int.toNat x2) []).getD 0 0) x0 x1)])).getD (Int.toNat x2) []).getD 1 0) x0 x1)])) x6)))))) (fun h2 => rfl)))))) (fun h1 => rfl))) (fun h0 => rfl)))
set_option maxRecDepth 100000 in
set_option maxHeartbeats 4000000 in
theorem qm38l0 : ∀ m, SumKOk Try.prog (loopN Try.f38 0) 139 [1, 2, 6, 9, 10] [1, 2, 6, 9] (q38l0 m) := by
  intro m
  induction m with
  | zero =>
    intro vals s x h1 h2 h3
    unfold q38l0 at h3; split at h3
    · rename_i h; split at h3
      · rename_i hc; obtain ⟨rfl, rfl, rfl, rfl, rfl, rfl, rfl, rfl, rfl, rfl, rfl, rfl, rfl, rfl, rfl, rfl, rfl, rfl⟩ := hc; exact absurd h3 (by simp [r38l0, firstT, Nat.beq])
      · exact noQ_ok _ _ _ h1 h2 h3
    · exact noQ_ok _ _ _ h1 h2 h3
  | succ m ih =>
    intro vals s x h1 h2 h3
    unfold q38l0 at h3; split at h3
    · rename_i h; split at h3
      · rename_i hc; obtain ⟨rfl, rfl, rfl, rfl, rfl, rfl, rfl, rfl, rfl, rfl, rfl, rfl, rfl, rfl, rfl, rfl, rfl, rfl⟩ := hc; exact sum_step ok22 extOk mixed ((lfOkF_no _ _).inner (by kernel_rfl)) ih h1 h2 h (e38l0 m _ _ _ _ _ _ _) rfl h3
      · exact noQ_ok _ _ _ h1 h2 h3
    · exact noQ_ok _ _ _ h1 h2 h3
noncomputable def Q38l0 : SumK := fun vals s => q38l0 (fuelOf vals s.h) vals s
theorem qok38l0 : SumKOk Try.prog (loopN Try.f38 0) 139 [1, 2, 6, 9, 10] [1, 2, 6, 9] Q38l0 := fuel_ok qm38l0 fuelOf
noncomputable def L38_1 : LoopT := addL noL 13 ([1, 2, 6, 9, 10], []) (sumK 139 [1, 2, 6, 9, 10] [1, 2, 6, 9] Q38l0)
theorem lok38_1 : LfOkF Try.prog L38_1 Try.f38 := lfOkF_add (lfOkF_no _ _) qok38l0 (by kernel_rfl) (by kernel_rfl) (by kernel_rfl)
end Go.Proofs.Ytfnfapmncibjfaa
