/- What the functions that the statements reach answer, part 1. -/
import Derived.Test.YtbmagccjcccnaaaA23
import Derived.KernelRfl
import Derived.Test.YtbmagccjcccnaaaChecked
namespace Go.Proofs.Ytbmagccjcccnaaa
open Go.Ab
set_option maxHeartbeats 4000000

def ext : FuncId → Option Ext := fun g => (cond (Nat.beq g 113) (some .f32bits) (cond (Nat.beq g 128) (some .f64from) (cond (Nat.beq g 129) (some .f64bits) none)))
theorem ext_case {g : FuncId} {e : Ext} (h : ext g = some e) : g = 113 ∧ e = .f32bits ∨ g = 128 ∧ e = .f64from ∨ g = 129 ∧ e = .f64bits := by
  unfold ext at h
  cases h0 : Nat.beq g 113 with
  | true => rw [h0] at h; cases h; exact .inl ⟨Nat.eq_of_beq_eq_true h0, rfl⟩
  | false =>
    rw [h0] at h
    cases h1 : Nat.beq g 128 with
    | true => rw [h1] at h; cases h; exact .inr (.inl ⟨Nat.eq_of_beq_eq_true h1, rfl⟩)
    | false =>
      rw [h1] at h
      cases h2 : Nat.beq g 129 with
      | true => rw [h2] at h; cases h; exact .inr (.inr (⟨Nat.eq_of_beq_eq_true h2, rfl⟩))
      | false =>
        rw [h2] at h
        cases h
theorem extOk : ExtOk Try.prog ext := by
  intro g e h
  rcases ext_case h with ⟨rfl, rfl⟩ | ⟨rfl, rfl⟩ | ⟨rfl, rfl⟩
  · exact ⟨Try.f113, Try.func113, by kernel_rfl, by kernel_rfl, by kernel_rfl, by kernel_rfl⟩
  · exact ⟨Try.f128, Try.func128, by kernel_rfl, by kernel_rfl, by kernel_rfl, by kernel_rfl⟩
  · exact ⟨Try.f129, Try.func129, by kernel_rfl, by kernel_rfl, by kernel_rfl, by kernel_rfl⟩
theorem mixed : Try.prog.follows .mixedOrders = true := by kernel_rfl
theorem callOk {cf : CallF} (hcf : CfOk Try.prog cf) {lf : LoopT} {N : Nat} {f : FuncId} {fn : Func} (hf : Try.prog.funcs[f]? = some fn) {args : List Value} {s : St} {l : List Blk} {n : Nat} {L : List (Bool × Value × St)} {r' : Value} {s' : St} (h1 : s.lo = s.h.length) (h2 : s.wr = []) (h : s.h = l) (hl : ∀ c, fn.body = some c → LfOk Try.prog lf (loopsOf c)) (he : evFn Try.prog ext cf lf N fn args ⟨l, n, []⟩ = firstT L) (hn : n = l.length) (h3 : firstT L = some (r', s')) : CallsOK Try.prog f args s r' s' :=
  call_ok extOk mixed hcf hf h1 h2 h hl he hn h3
def T0 : CallF := noF
theorem ok0 : CfOk Try.prog T0 := cfOk_no _
def sc0 : List CT := [.fl .f32, .fl .f32, .fl .f32, .fl .f32, .fl .f32, .fl .f32, .fl .f32, .fl .f32, .fl .f32, .fl .f32, .fl .f32, .fl .f32, .fl .f32, .fl .f32, .fl .f32, .fl .f32, .fl .f32, .fl .f32]

/-- laws.szWoodS -/
noncomputable def r61 (x0 : Int) (x1 : List (List Int)) : Int :=
 cond (decide (((IntKind.i64.wrap (x0 - ((x1.length : Nat) : Int))) : Int) < 0))
  ((-1))
  ((IntKind.i64.wrap (x0 - ((x1.length : Nat) : Int))))
noncomputable def a61 (x0 : Int) (x1 : List (List Int)) (p : Int) : Res := firstT [(true, .int .i64 p, ⟨[⟨false, (some (.tab sc0 x1))⟩], 1, []⟩)]
noncomputable def t61 (x0 : Int) (x1 : List (List Int)) : Res :=
 (cond (decide (((IntKind.i64.wrap (x0 - ((x1.length : Nat) : Int))) : Int) < 0))
 (some (.int .i64 (-1), ⟨[⟨false, (some (.tab sc0 x1))⟩], 1, []⟩))
 (some (.int .i64 (IntKind.i64.wrap (x0 - ((x1.length : Nat) : Int))), ⟨[⟨false, (some (.tab sc0 x1))⟩], 1, []⟩)))
set_option maxRecDepth 100000 in
set_option maxHeartbeats 4000000 in
theorem e61 (x0 : Int) (x1 : List (List Int)) : evFn Try.prog ext T0 noL 200 Try.f61 [wsl 0, .int .i64 x0] ⟨[⟨false, (some (.tab sc0 x1))⟩], 1, []⟩ = firstT [(true, .int .i64 (r61 x0 x1), ⟨[⟨false, (some (.tab sc0 x1))⟩], 1, []⟩)] :=
 (show evFn Try.prog ext T0 noL 200 Try.f61 [wsl 0, .int .i64 x0] ⟨[⟨false, (some (.tab sc0 x1))⟩], 1, []⟩ = t61 x0 x1 from by kernel_rfl).trans
 (show t61 x0 x1 = a61 x0 x1 (r61 x0 x1) from (cond_app (a61 x0 x1) _ rfl rfl))
noncomputable def s61 (args : List Value) (s : St) : List (Bool × Value × St) :=
 match args, s.h with
 | [.iface f0 .nilIface, .int .i64 x0], [⟨false, some (.tab [.fl .f32, .fl .f32, .fl .f32, .fl .f32, .fl .f32, .fl .f32, .fl .f32, .fl .f32, .fl .f32, .fl .f32, .fl .f32, .fl .f32, .fl .f32, .fl .f32, .fl .f32, .fl .f32, .fl .f32, .fl .f32] x1)⟩] => if f0 = 0 then [(true, .int .i64 (r61 x0 x1), ⟨[⟨false, (some (.tab sc0 x1))⟩], 1, []⟩)] else T0 61 args s
 | _, _ => T0 61 args s
noncomputable def T1 : CallF := addF T0 61 s61
set_option maxRecDepth 100000 in
set_option maxHeartbeats 4000000 in
theorem ok1 : CfOk Try.prog T1 := by
  refine cfOk_add ok0 fun args s r s' h1 h2 h3 => ?_
  unfold s61 at h3; split at h3
  · rename_i h; split at h3
    · rename_i hc; obtain ⟨rfl⟩ := hc; exact callOk ok0 Try.func61 h1 h2 h (lfOkF_no _ _).body (e61 _ _) rfl h3
    · exact ok0 _ _ _ _ _ h1 h2 h3
  · exact ok0 _ _ _ _ _ h1 h2 h3

/-- laws.szStove -/
noncomputable def r19 (x0 x1 : Nat) (x2 x3 : Int) (x4 : Nat) (x5 : Int) (x6 : List (List Int)) : Int :=
 cond (decide (((r61 x5 x6) : Int) < 0))
  ((-1))
  ((r61 x5 x6))
noncomputable def a19 (x0 x1 : Nat) (x2 x3 : Int) (x4 : Nat) (x5 : Int) (x6 : List (List Int)) (p : Int) : Res := firstT [(true, .int .i64 p, ⟨[⟨false, (some (.tab sc0 x6))⟩], 1, []⟩)]
noncomputable def t19 (x0 x1 : Nat) (x2 x3 : Int) (x4 : Nat) (x5 : Int) (x6 : List (List Int)) : Res :=
 (cond (decide (((r61 x5 x6) : Int) < 0))
 (some (.int .i64 (-1), ⟨[⟨false, (some (.tab sc0 x6))⟩], 1, []⟩))
 (some (.int .i64 (r61 x5 x6), ⟨[⟨false, (some (.tab sc0 x6))⟩], 1, []⟩)))
set_option maxRecDepth 100000 in
set_option maxHeartbeats 4000000 in
theorem e19 (x0 x1 : Nat) (x2 x3 : Int) (x4 : Nat) (x5 : Int) (x6 : List (List Int)) : evFn Try.prog ext T1 noL 200 Try.f19 [.agg #[wsl 0, .float .f32 x0, .float .f32 x1, .int .i8 x2, .int .i64 x3, .float .f32 x4], .int .i64 x5] ⟨[⟨false, (some (.tab sc0 x6))⟩], 1, []⟩ = firstT [(true, .int .i64 (r19 x0 x1 x2 x3 x4 x5 x6), ⟨[⟨false, (some (.tab sc0 x6))⟩], 1, []⟩)] :=
 (show evFn Try.prog ext T1 noL 200 Try.f19 [.agg #[wsl 0, .float .f32 x0, .float .f32 x1, .int .i8 x2, .int .i64 x3, .float .f32 x4], .int .i64 x5] ⟨[⟨false, (some (.tab sc0 x6))⟩], 1, []⟩ = t19 x0 x1 x2 x3 x4 x5 x6 from by kernel_rfl).trans
 (show t19 x0 x1 x2 x3 x4 x5 x6 = a19 x0 x1 x2 x3 x4 x5 x6 (r19 x0 x1 x2 x3 x4 x5 x6) from (cond_app (a19 x0 x1 x2 x3 x4 x5 x6) _ rfl rfl))
noncomputable def s19 (args : List Value) (s : St) : List (Bool × Value × St) :=
 match args, s.h with
 | [.agg ⟨[.iface f0 .nilIface, .float .f32 x0, .float .f32 x1, .int .i8 x2, .int .i64 x3, .float .f32 x4]⟩, .int .i64 x5], [⟨false, some (.tab [.fl .f32, .fl .f32, .fl .f32, .fl .f32, .fl .f32, .fl .f32, .fl .f32, .fl .f32, .fl .f32, .fl .f32, .fl .f32, .fl .f32, .fl .f32, .fl .f32, .fl .f32, .fl .f32, .fl .f32, .fl .f32] x6)⟩] => if f0 = 0 then [(true, .int .i64 (r19 x0 x1 x2 x3 x4 x5 x6), ⟨[⟨false, (some (.tab sc0 x6))⟩], 1, []⟩)] else T1 19 args s
 | _, _ => T1 19 args s
noncomputable def T2 : CallF := addF T1 19 s19
set_option maxRecDepth 100000 in
set_option maxHeartbeats 4000000 in
theorem ok2 : CfOk Try.prog T2 := by
  refine cfOk_add ok1 fun args s r s' h1 h2 h3 => ?_
  unfold s19 at h3; split at h3
  · rename_i h; split at h3
    · rename_i hc; obtain ⟨rfl⟩ := hc; exact callOk ok1 Try.func19 h1 h2 h (lfOkF_no _ _).body (e19 _ _ _ _ _ _ _) rfl h3
    · exact ok1 _ _ _ _ _ h1 h2 h3
  · exact ok1 _ _ _ _ _ h1 h2 h3

/-- laws.toFloat32A6 -/
noncomputable def r59 (x0 x1 x2 x3 x4 x5 : Nat) : Unit :=
 ()
noncomputable def a59 (x0 x1 x2 x3 x4 x5 : Nat) (p : Unit) : Res := firstT [(true, .agg #[.float .f32 x0, .float .f32 x1, .float .f32 x2, .float .f32 x3, .float .f32 x4, .float .f32 x5], st0)]
noncomputable def t59 (x0 x1 x2 x3 x4 x5 : Nat) : Res :=
 (some (.agg #[.float .f32 x0, .float .f32 x1, .float .f32 x2, .float .f32 x3, .float .f32 x4, .float .f32 x5], st0))
set_option maxRecDepth 100000 in
set_option maxHeartbeats 4000000 in
theorem e59 (x0 x1 x2 x3 x4 x5 : Nat) : evFn Try.prog ext T2 noL 200 Try.f59 [.agg #[.float .f32 x0, .float .f32 x1, .float .f32 x2, .float .f32 x3, .float .f32 x4, .float .f32 x5]] st0 = firstT [(true, .agg #[.float .f32 x0, .float .f32 x1, .float .f32 x2, .float .f32 x3, .float .f32 x4, .float .f32 x5], st0)] :=
 (show evFn Try.prog ext T2 noL 200 Try.f59 [.agg #[.float .f32 x0, .float .f32 x1, .float .f32 x2, .float .f32 x3, .float .f32 x4, .float .f32 x5]] st0 = t59 x0 x1 x2 x3 x4 x5 from by kernel_rfl).trans
 (show t59 x0 x1 x2 x3 x4 x5 = a59 x0 x1 x2 x3 x4 x5 (r59 x0 x1 x2 x3 x4 x5) from rfl)
noncomputable def s59 (args : List Value) (s : St) : List (Bool × Value × St) :=
 match args, s.h with
 | [.agg ⟨[.float .f32 x0, .float .f32 x1, .float .f32 x2, .float .f32 x3, .float .f32 x4, .float .f32 x5]⟩], [] => [(true, .agg #[.float .f32 x0, .float .f32 x1, .float .f32 x2, .float .f32 x3, .float .f32 x4, .float .f32 x5], st0)]
 | _, _ => T2 59 args s
noncomputable def T3 : CallF := addF T2 59 s59
set_option maxRecDepth 100000 in
set_option maxHeartbeats 4000000 in
theorem ok3 : CfOk Try.prog T3 := by
  refine cfOk_add ok2 fun args s r s' h1 h2 h3 => ?_
  unfold s59 at h3; split at h3
  · rename_i h; exact callOk ok2 Try.func59 h1 h2 h (lfOkF_no _ _).body (e59 _ _ _ _ _ _) rfl h3
  · exact ok2 _ _ _ _ _ h1 h2 h3

/-- laws.toWood -/
noncomputable def r12 (x0 x1 x2 x3 x4 x5 x6 x7 x8 x9 x10 x11 x12 x13 x14 x15 x16 x17 : Nat) : Unit :=
 ()
noncomputable def a12 (x0 x1 x2 x3 x4 x5 x6 x7 x8 x9 x10 x11 x12 x13 x14 x15 x16 x17 : Nat) (p : Unit) : Res := firstT [(true, .agg #[.float .f32 x0, .float .f32 x1, .float .f32 x2, .float .f32 x3, .float .f32 x4, .float .f32 x5, .float .f32 x6, .float .f32 x7, .float .f32 x8, .float .f32 x9, .float .f32 x10, .float .f32 x11, .float .f32 x12, .float .f32 x13, .float .f32 x14, .float .f32 x15, .float .f32 x16, .float .f32 x17], st0)]
noncomputable def t12 (x0 x1 x2 x3 x4 x5 x6 x7 x8 x9 x10 x11 x12 x13 x14 x15 x16 x17 : Nat) : Res :=
 (some (.agg #[.float .f32 x0, .float .f32 x1, .float .f32 x2, .float .f32 x3, .float .f32 x4, .float .f32 x5, .float .f32 x6, .float .f32 x7, .float .f32 x8, .float .f32 x9, .float .f32 x10, .float .f32 x11, .float .f32 x12, .float .f32 x13, .float .f32 x14, .float .f32 x15, .float .f32 x16, .float .f32 x17], st0))
set_option maxRecDepth 100000 in
set_option maxHeartbeats 4000000 in
theorem e12 (x0 x1 x2 x3 x4 x5 x6 x7 x8 x9 x10 x11 x12 x13 x14 x15 x16 x17 : Nat) : evFn Try.prog ext T3 noL 200 Try.f12 [.agg #[.float .f32 x0, .float .f32 x1, .float .f32 x2, .float .f32 x3, .float .f32 x4, .float .f32 x5, .float .f32 x6, .float .f32 x7, .float .f32 x8, .float .f32 x9, .float .f32 x10, .float .f32 x11, .float .f32 x12, .float .f32 x13, .float .f32 x14, .float .f32 x15, .float .f32 x16, .float .f32 x17]] st0 = firstT [(true, .agg #[.float .f32 x0, .float .f32 x1, .float .f32 x2, .float .f32 x3, .float .f32 x4, .float .f32 x5, .float .f32 x6, .float .f32 x7, .float .f32 x8, .float .f32 x9, .float .f32 x10, .float .f32 x11, .float .f32 x12, .float .f32 x13, .float .f32 x14, .float .f32 x15, .float .f32 x16, .float .f32 x17], st0)] :=
 (show evFn Try.prog ext T3 noL 200 Try.f12 [.agg #[.float .f32 x0, .float .f32 x1, .float .f32 x2, .float .f32 x3, .float .f32 x4, .float .f32 x5, .float .f32 x6, .float .f32 x7, .float .f32 x8, .float .f32 x9, .float .f32 x10, .float .f32 x11, .float .f32 x12, .float .f32 x13, .float .f32 x14, .float .f32 x15, .float .f32 x16, .float .f32 x17]] st0 = t12 x0 x1 x2 x3 x4 x5 x6 x7 x8 x9 x10 x11 x12 x13 x14 x15 x16 x17 from by kernel_rfl).trans
 (show t12 x0 x1 x2 x3 x4 x5 x6 x7 x8 x9 x10 x11 x12 x13 x14 x15 x16 x17 = a12 x0 x1 x2 x3 x4 x5 x6 x7 x8 x9 x10 x11 x12 x13 x14 x15 x16 x17 (r12 x0 x1 x2 x3 x4 x5 x6 x7 x8 x9 x10 x11 x12 x13 x14 x15 x16 x17) from rfl)
noncomputable def s12 (args : List Value) (s : St) : List (Bool × Value × St) :=
 match args, s.h with
 | [.agg ⟨[.float .f32 x0, .float .f32 x1, .float .f32 x2, .float .f32 x3, .float .f32 x4, .float .f32 x5, .float .f32 x6, .float .f32 x7, .float .f32 x8, .float .f32 x9, .float .f32 x10, .float .f32 x11, .float .f32 x12, .float .f32 x13, .float .f32 x14, .float .f32 x15, .float .f32 x16, .float .f32 x17]⟩], [] => [(true, .agg #[.float .f32 x0, .float .f32 x1, .float .f32 x2, .float .f32 x3, .float .f32 x4, .float .f32 x5, .float .f32 x6, .float .f32 x7, .float .f32 x8, .float .f32 x9, .float .f32 x10, .float .f32 x11, .float .f32 x12, .float .f32 x13, .float .f32 x14, .float .f32 x15, .float .f32 x16, .float .f32 x17], st0)]
 | _, _ => T3 12 args s
noncomputable def T4 : CallF := addF T3 12 s12
set_option maxRecDepth 100000 in
set_option maxHeartbeats 4000000 in
theorem ok4 : CfOk Try.prog T4 := by
  refine cfOk_add ok3 fun args s r s' h1 h2 h3 => ?_
  unfold s12 at h3; split at h3
  · rename_i h; exact callOk ok3 Try.func12 h1 h2 h (lfOkF_no _ _).body (e12 _ _ _ _ _ _ _ _ _ _ _ _ _ _ _ _ _ _) rfl h3
  · exact ok3 _ _ _ _ _ h1 h2 h3

/-- laws.toWoodS, loop 0: one round -/
noncomputable def b63l0 (ih : Int → List (List Int) → List (List Int) → (Nat × List (List Int))) (x0 : Int) (x1 x2 : List (List Int)) : Nat × List (List Int) :=
 cond (decide ((x0 : Int) < ((x1.length : Nat) : Int)))
  (cond ((decide ((0 : Int) ≤ x0)) && (Nat.blt (Int.toNat x0) x1.length))
   (cond ((decide ((0 : Int) ≤ x0)) && (Nat.blt (Int.toNat x0) x2.length))
    (ih (IntKind.i64.wrap (x0 + 1)) x1 (x2.set (Int.toNat x0) [(((Int.toNat ((x1.getD (Int.toNat x0) []).getD 0 0)) : Nat) : Int), (((Int.toNat ((x1.getD (Int.toNat x0) []).getD 1 0)) : Nat) : Int), (((Int.toNat ((x1.getD (Int.toNat x0) []).getD 2 0)) : Nat) : Int), (((Int.toNat ((x1.getD (Int.toNat x0) []).getD 3 0)) : Nat) : Int), (((Int.toNat ((x1.getD (Int.toNat x0) []).getD 4 0)) : Nat) : Int), (((Int.toNat ((x1.getD (Int.toNat x0) []).getD 5 0)) : Nat) : Int), (((Int.toNat ((x1.getD (Int.toNat x0) []).getD 6 0)) : Nat) : Int), (((Int.toNat ((x1.getD (Int.toNat x0) []).getD 7 0)) : Nat) : Int), (((Int.toNat ((x1.getD (Int.toNat x0) []).getD 8 0)) : Nat) : Int), (((Int.toNat ((x1.getD (Int.toNat x0) []).getD 9 0)) : Nat) : Int), (((Int.toNat ((x1.getD (Int.toNat x0) []).getD 10 0)) : Nat) : Int), (((Int.toNat ((x1.getD (Int.toNat x0) []).getD 11 0)) : Nat) : Int), (((Int.toNat ((x1.getD (Int.toNat x0) []).getD 12 0)) : Nat) : Int), (((Int.toNat ((x1.getD (Int.toNat x0) []).getD 13 0)) : Nat) : Int), (((Int.toNat ((x1.getD (Int.toNat x0) []).getD 14 0)) : Nat) : Int), (((Int.toNat ((x1.getD (Int.toNat x0) []).getD 15 0)) : Nat) : Int), (((Int.toNat ((x1.getD (Int.toNat x0) []).getD 16 0)) : Nat) : Int), (((Int.toNat ((x1.getD (Int.toNat x0) []).getD 17 0)) : Nat) : Int)]))
    (1, []))
   (1, []))
  (0, x2)
noncomputable def r63l0 : Nat → Int → List (List Int) → List (List Int) → (Nat × List (List Int))
 | 0, _, _, _ => (1, [])
 | m + 1, x0, x1, x2 => b63l0 (r63l0 m) x0 x1 x2
noncomputable def a63l0 (x0 : Int) (x1 x2 : List (List Int)) (p : Nat × List (List Int)) : Option (Fin' × List Value × St) := firstT ([((Nat.beq (p.1) 0), .exit 0, [wsl 1], ⟨[⟨false, (some (.tab sc0 x1))⟩, ⟨true, (some (.tab sc0 (p.2)))⟩], 2, [1]⟩)].map fun (b, x) => (b, (x.1, frameOf 23 [3] x.2.1, x.2.2)))
theorem v63l0 (x0 : Int) (x1 x2 : List (List Int)) (p : Nat × List (List Int)) : alts ([((Nat.beq (p.1) 0), .exit 0, [wsl 1], ⟨[⟨false, (some (.tab sc0 x1))⟩, ⟨true, (some (.tab sc0 (p.2)))⟩], 2, [1]⟩)].map fun (b, x) => (b, (x.1, frameOf 23 [3] x.2.1, x.2.2))) some = a63l0 x0 x1 x2 p := alts_first _
noncomputable def q63l0 (m : Nat) : SumK := fun vals s =>
 match vals, s.h with
 | [.iface f0 .nilIface, .iface f1 .nilIface, .int .i64 x0], [⟨false, some (.tab [.fl .f32, .fl .f32, .fl .f32, .fl .f32, .fl .f32, .fl .f32, .fl .f32, .fl .f32, .fl .f32, .fl .f32, .fl .f32, .fl .f32, .fl .f32, .fl .f32, .fl .f32, .fl .f32, .fl .f32, .fl .f32] x1)⟩, ⟨true, some (.tab [.fl .f32, .fl .f32, .fl .f32, .fl .f32, .fl .f32, .fl .f32, .fl .f32, .fl .f32, .fl .f32, .fl .f32, .fl .f32, .fl .f32, .fl .f32, .fl .f32, .fl .f32, .fl .f32, .fl .f32, .fl .f32] x2)⟩] => if f0 = 0 ∧ f1 = 1 then [((Nat.beq ((r63l0 m x0 x1 x2).1) 0), .exit 0, [wsl 1], ⟨[⟨false, (some (.tab sc0 x1))⟩, ⟨true, (some (.tab sc0 ((r63l0 m x0 x1 x2).2)))⟩], 2, [1]⟩)] else noQ vals s
 | _, _ => noQ vals s
noncomputable def t63l0 (ih : Int → List (List Int) → List (List Int) → (Nat × List (List Int))) (x0 : Int) (x1 x2 : List (List Int)) : Option (Fin' × List Value × St) :=
 (cond (decide ((x0 : Int) < ((x1.length : Nat) : Int)))
 (cond ((decide ((0 : Int) ≤ x0)) && (Nat.blt (Int.toNat x0) x1.length))
  (cond ((decide ((0 : Int) ≤ x0)) && (Nat.blt (Int.toNat x0) x2.length))
   (cond (Nat.beq ((ih (IntKind.i64.wrap (x0 + 1)) x1 (x2.set (Int.toNat x0) [(((Int.toNat ((x1.getD (Int.toNat x0) []).getD 0 0)) : Nat) : Int), (((Int.toNat ((x1.getD (Int.toNat x0) []).getD 1 0)) : Nat) : Int), (((Int.toNat ((x1.getD (Int.toNat x0) []).getD 2 0)) : Nat) : Int), (((Int.toNat ((x1.getD (Int.toNat x0) []).getD 3 0)) : Nat) : Int), (((Int.toNat ((x1.getD (Int.toNat x0) []).getD 4 0)) : Nat) : Int), (((Int.toNat ((x1.getD (Int.toNat x0) []).getD 5 0)) : Nat) : Int), (((Int.toNat ((x1.getD (Int.toNat x0) []).getD 6 0)) : Nat) : Int), (((Int.toNat ((x1.getD (Int.toNat x0) []).getD 7 0)) : Nat) : Int), (((Int.toNat ((x1.getD (Int.toNat x0) []).getD 8 0)) : Nat) : Int), (((Int.toNat ((x1.getD (Int.toNat x0) []).getD 9 0)) : Nat) : Int), (((Int.toNat ((x1.getD (Int.toNat x0) []).getD 10 0)) : Nat) : Int), (((Int.toNat ((x1.getD (Int.toNat x0) []).getD 11 0)) : Nat) : Int), (((Int.toNat ((x1.getD (Int.toNat x0) []).getD 12 0)) : Nat) : Int), (((Int.toNat ((x1.getD (Int.toNat x0) []).getD 13 0)) : Nat) : Int), (((Int.toNat ((x1.getD (Int.toNat x0) []).getD 14 0)) : Nat) : Int), (((Int.toNat ((x1.getD (Int.toNat x0) []).getD 15 0)) : Nat) : Int), (((Int.toNat ((x1.getD (Int.toNat x0) []).getD 16 0)) : Nat) : Int), (((Int.toNat ((x1.getD (Int.toNat x0) []).getD 17 0)) : Nat) : Int)])).1) 0)
    (some (.exit 0, frameOf 23 [3] [wsl 1], ⟨[⟨false, (some (.tab sc0 x1))⟩, ⟨true, (some (.tab sc0 ((ih (IntKind.i64.wrap (x0 + 1)) x1 (x2.set (Int.toNat x0) [(((Int.toNat ((x1.getD (Int.toNat x0) []).getD 0 0)) : Nat) : Int), (((Int.toNat ((x1.getD (Int.toNat x0) []).getD 1 0)) : Nat) : Int), (((Int.toNat ((x1.getD (Int.toNat x0) []).getD 2 0)) : Nat) : Int), (((Int.toNat ((x1.getD (Int.toNat x0) []).getD 3 0)) : Nat) : Int), (((Int.toNat ((x1.getD (Int.toNat x0) []).getD 4 0)) : Nat) : Int), (((Int.toNat ((x1.getD (Int.toNat x0) []).getD 5 0)) : Nat) : Int), (((Int.toNat ((x1.getD (Int.toNat x0) []).getD 6 0)) : Nat) : Int), (((Int.toNat ((x1.getD (Int.toNat x0) []).getD 7 0)) : Nat) : Int), (((Int.toNat ((x1.getD (Int.toNat x0) []).getD 8 0)) : Nat) : Int), (((Int.toNat ((x1.getD (Int.toNat x0) []).getD 9 0)) : Nat) : Int), (((Int.toNat ((x1.getD (Int.toNat x0) []).getD 10 0)) : Nat) : Int), (((Int.toNat ((x1.getD (Int.toNat x0) []).getD 11 0)) : Nat) : Int), (((Int.toNat ((x1.getD (Int.toNat x0) []).getD 12 0)) : Nat) : Int), (((Int.toNat ((x1.getD (Int.toNat x0) []).getD 13 0)) : Nat) : Int), (((Int.toNat ((x1.getD (Int.toNat x0) []).getD 14 0)) : Nat) : Int), (((Int.toNat ((x1.getD (Int.toNat x0) []).getD 15 0)) : Nat) : Int), (((Int.toNat ((x1.getD (Int.toNat x0) []).getD 16 0)) : Nat) : Int), (((Int.toNat ((x1.getD (Int.toNat x0) []).getD 17 0)) : Nat) : Int)])).2)))⟩], 2, [1]⟩))
    none)
   none)
  none)
 (some (.exit 0, frameOf 23 [3] [wsl 1], ⟨[⟨false, (some (.tab sc0 x1))⟩, ⟨true, (some (.tab sc0 x2))⟩], 2, [1]⟩)))
noncomputable def w63l0 (ih : Int → List (List Int) → List (List Int) → (Nat × List (List Int))) (x0 : Int) (x1 x2 : List (List Int)) : Option (Fin' × List Value × St) :=
 (cond (decide ((x0 : Int) < ((x1.length : Nat) : Int)))
 (cond ((decide ((0 : Int) ≤ x0)) && (Nat.blt (Int.toNat x0) x1.length))
  (cond (Nat.blt (Int.toNat x0) x1.length)
   (cond ((decide ((0 : Int) ≤ x0)) && (Nat.blt (Int.toNat x0) x2.length))
    (cond (Nat.blt (Int.toNat x0) x2.length)
     (cond (Nat.beq ((ih (IntKind.i64.wrap (x0 + 1)) x1 (x2.set (Int.toNat x0) [(((Int.toNat ((x1.getD (Int.toNat x0) []).getD 0 0)) : Nat) : Int), (((Int.toNat ((x1.getD (Int.toNat x0) []).getD 1 0)) : Nat) : Int), (((Int.toNat ((x1.getD (Int.toNat x0) []).getD 2 0)) : Nat) : Int), (((Int.toNat ((x1.getD (Int.toNat x0) []).getD 3 0)) : Nat) : Int), (((Int.toNat ((x1.getD (Int.toNat x0) []).getD 4 0)) : Nat) : Int), (((Int.toNat ((x1.getD (Int.toNat x0) []).getD 5 0)) : Nat) : Int), (((Int.toNat ((x1.getD (Int.toNat x0) []).getD 6 0)) : Nat) : Int), (((Int.toNat ((x1.getD (Int.toNat x0) []).getD 7 0)) : Nat) : Int), (((Int.toNat ((x1.getD (Int.toNat x0) []).getD 8 0)) : Nat) : Int), (((Int.toNat ((x1.getD (Int.toNat x0) []).getD 9 0)) : Nat) : Int), (((Int.toNat ((x1.getD (Int.toNat x0) []).getD 10 0)) : Nat) : Int), (((Int.toNat ((x1.getD (Int.toNat x0) []).getD 11 0)) : Nat) : Int), (((Int.toNat ((x1.getD (Int.toNat x0) []).getD 12 0)) : Nat) : Int), (((Int.toNat ((x1.getD (Int.toNat x0) []).getD 13 0)) : Nat) : Int), (((Int.toNat ((x1.getD (Int.toNat x0) []).getD 14 0)) : Nat) : Int), (((Int.toNat ((x1.getD (Int.toNat x0) []).getD 15 0)) : Nat) : Int), (((Int.toNat ((x1.getD (Int.toNat x0) []).getD 16 0)) : Nat) : Int), (((Int.toNat ((x1.getD (Int.toNat x0) []).getD 17 0)) : Nat) : Int)])).1) 0)
      (some (.exit 0, frameOf 23 [3] [wsl 1], ⟨[⟨false, (some (.tab sc0 x1))⟩, ⟨true, (some (.tab sc0 ((ih (IntKind.i64.wrap (x0 + 1)) x1 (x2.set (Int.toNat x0) [(((Int.toNat ((x1.getD (Int.toNat x0) []).getD 0 0)) : Nat) : Int), (((Int.toNat ((x1.getD (Int.toNat x0) []).getD 1 0)) : Nat) : Int), (((Int.toNat ((x1.getD (Int.toNat x0) []).getD 2 0)) : Nat) : Int), (((Int.toNat ((x1.getD (Int.toNat x0) []).getD 3 0)) : Nat) : Int), (((Int.toNat ((x1.getD (Int.toNat x0) []).getD 4 0)) : Nat) : Int), (((Int.toNat ((x1.getD (Int.toNat x0) []).getD 5 0)) : Nat) : Int), (((Int.toNat ((x1.getD (Int.toNat x0) []).getD 6 0)) : Nat) : Int), (((Int.toNat ((x1.getD (Int.toNat x0) []).getD 7 0)) : Nat) : Int), (((Int.toNat ((x1.getD (Int.toNat x0) []).getD 8 0)) : Nat) : Int), (((Int.toNat ((x1.getD (Int.toNat x0) []).getD 9 0)) : Nat) : Int), (((Int.toNat ((x1.getD (Int.toNat x0) []).getD 10 0)) : Nat) : Int), (((Int.toNat ((x1.getD (Int.toNat x0) []).getD 11 0)) : Nat) : Int), (((Int.toNat ((x1.getD (Int.toNat x0) []).getD 12 0)) : Nat) : Int), (((Int.toNat ((x1.getD (Int.toNat x0) []).getD 13 0)) : Nat) : Int), (((Int.toNat ((x1.getD (Int.toNat x0) []).getD 14 0)) : Nat) : Int), (((Int.toNat ((x1.getD (Int.toNat x0) []).getD 15 0)) : Nat) : Int), (((Int.toNat ((x1.getD (Int.toNat x0) []).getD 16 0)) : Nat) : Int), (((Int.toNat ((x1.getD (Int.toNat x0) []).getD 17 0)) : Nat) : Int)])).2)))⟩], 2, [1]⟩))
      none)
     none)
    none)
   none)
  none)
 (some (.exit 0, frameOf 23 [3] [wsl 1], ⟨[⟨false, (some (.tab sc0 x1))⟩, ⟨true, (some (.tab sc0 x2))⟩], 2, [1]⟩)))
set_option maxRecDepth 100000 in
set_option maxHeartbeats 4000000 in
theorem e63l0 (m : Nat) (x0 : Int) (x1 x2 : List (List Int)) : evC Try.prog ext T4 noL 200 (loopN Try.f63 0) (loopTail [0, 3, 4] [3] [1] (sumK 23 [0, 3, 4] [3] (q63l0 m))) (frameOf 23 [0, 3, 4] [wsl 0, wsl 1, .int .i64 x0]) ⟨[⟨false, (some (.tab sc0 x1))⟩, ⟨true, (some (.tab sc0 x2))⟩], 2, []⟩ = firstT ([((Nat.beq ((r63l0 (m + 1) x0 x1 x2).1) 0), .exit 0, [wsl 1], ⟨[⟨false, (some (.tab sc0 x1))⟩, ⟨true, (some (.tab sc0 ((r63l0 (m + 1) x0 x1 x2).2)))⟩], 2, [1]⟩)].map fun (b, x) => (b, (x.1, frameOf 23 [3] x.2.1, x.2.2))) :=
 (show evC Try.prog ext T4 noL 200 (loopN Try.f63 0) (loopTail [0, 3, 4] [3] [1] (sumK 23 [0, 3, 4] [3] (q63l0 m))) (frameOf 23 [0, 3, 4] [wsl 0, wsl 1, .int .i64 x0]) ⟨[⟨false, (some (.tab sc0 x1))⟩, ⟨true, (some (.tab sc0 x2))⟩], 2, []⟩ = w63l0 (r63l0 m) x0 x1 x2 from by kernel_rfl).trans
 ((show w63l0 (r63l0 m) x0 x1 x2 = t63l0 (r63l0 m) x0 x1 x2 from (cond_cong _ (fun h0 => (cond_cong _ (fun h1 => (cond_t (ev_and2 h1) (cond_cong _ (fun h2 => (cond_t (ev_and2 h2) rfl)) (fun h2 => rfl)))) (fun h1 => rfl))) (fun h0 => rfl))).trans
 (show t63l0 (r63l0 m) x0 x1 x2 = a63l0 x0 x1 x2 (r63l0 (m + 1) x0 x1 x2) from (cond_app (a63l0 x0 x1 x2) _ (cond_app (a63l0 x0 x1 x2) _ (cond_app (a63l0 x0 x1 x2) _ (v63l0 x0 x1 x2 ((r63l0 m) (IntKind.i64.wrap (x0 + 1)) x1 (x2.set (Int.toNat x0) [(((Int.toNat ((x1.getD (Int.toNat x0) []).getD 0 0)) : Nat) : Int), (((Int.toNat ((x1.getD (Int.toNat x0) []).getD 1 0)) : Nat) : Int), (((Int.toNat ((x1.getD (Int.toNat x0) []).getD 2 0)) : Nat) : Int), (((Int.toNat ((x1.getD (Int.toNat x0) []).getD 3 0)) : Nat) : Int), (((Int.toNat ((x1.getD (Int.toNat x0) []).getD 4 0)) : Nat) : Int), (((Int.toNat ((x1.getD (Int.toNat x0) []).getD 5 0)) : Nat) : Int), (((Int.toNat ((x1.getD (Int.toNat x0) []).getD 6 0)) : Nat) : Int), (((Int.toNat ((x1.getD (Int.toNat x0) []).getD 7 0)) : Nat) : Int), (((Int.toNat ((x1.getD (Int.toNat x0) []).getD 8 0)) : Nat) : Int), (((Int.toNat ((x1.getD (Int.toNat x0) []).getD 9 0)) : Nat) : Int), (((Int.toNat ((x1.getD (Int.toNat x0) []).getD 10 0)) : Nat) : Int), (((Int.toNat ((x1.getD (Int.toNat x0) []).getD 11 0)) : Nat) : Int), (((Int.toNat ((x1.getD (Int.toNat x0) []).getD 12 0)) : Nat) : Int), (((Int.toNat ((x1.getD (Int.toNat x0) []).getD 13 0)) : Nat) : Int), (((Int.toNat ((x1.getD (Int.toNat x0) []).getD 14 0)) : Nat) : Int), (((Int.toNat ((x1.getD (Int.toNat x0) []).getD 15 0)) : Nat) : Int), (((Int.toNat ((x1.getD (Int.toNat x0) []).getD 16 0)) : Nat) : Int), (((Int.toNat ((x1.getD (Int.toNat x0) []).getD 17 0)) : Nat) : Int)]))) rfl) rfl) rfl)))
set_option maxRecDepth 100000 in
set_option maxHeartbeats 4000000 in
theorem qm63l0 : ∀ m, SumKOk Try.prog (loopN Try.f63 0) 23 [0, 3, 4] [3] (q63l0 m) := by
  intro m
  induction m with
  | zero =>
    intro vals s x h1 h2 h3
    unfold q63l0 at h3; split at h3
    · rename_i h; split at h3
      · rename_i hc; obtain ⟨rfl, rfl⟩ := hc; exact absurd h3 (by simp [r63l0, firstT, Nat.beq])
      · exact noQ_ok _ _ _ h1 h2 h3
    · exact noQ_ok _ _ _ h1 h2 h3
  | succ m ih =>
    intro vals s x h1 h2 h3
    unfold q63l0 at h3; split at h3
    · rename_i h; split at h3
      · rename_i hc; obtain ⟨rfl, rfl⟩ := hc; exact sum_step ok4 extOk mixed ((lfOkF_no _ _).inner (by kernel_rfl)) ih h1 h2 h (e63l0 m _ _ _) rfl h3
      · exact noQ_ok _ _ _ h1 h2 h3
    · exact noQ_ok _ _ _ h1 h2 h3
noncomputable def Q63l0 : SumK := fun vals s => q63l0 (fuelOf vals s.h) vals s
theorem qok63l0 : SumKOk Try.prog (loopN Try.f63 0) 23 [0, 3, 4] [3] Q63l0 := fuel_ok qm63l0 fuelOf
noncomputable def L63_1 : LoopT := addL noL 4 [0, 3, 4] (sumK 23 [0, 3, 4] [3] Q63l0)
theorem lok63_1 : LfOkF Try.prog L63_1 Try.f63 := lfOkF_add (lfOkF_no _ _) qok63l0 (by kernel_rfl) (by kernel_rfl) (by kernel_rfl)

/-- laws.toWoodS -/
noncomputable def r63 (x0 : List (List Int)) : Nat × List (List Int) :=
 let c17 := (r63l0 (1000 + (List.replicate x0.length ([0, 0, 0, 0, 0, 0, 0, 0, 0, 0, 0, 0, 0, 0, 0, 0, 0, 0] : List Int)).length + x0.length) 0 x0 (List.replicate x0.length ([0, 0, 0, 0, 0, 0, 0, 0, 0, 0, 0, 0, 0, 0, 0, 0, 0, 0] : List Int)))
 cond (((decide ((0 : Int) ≤ ((x0.length : Nat) : Int)) && decide ((((x0.length : Nat) : Int) : Int) ≤ ((x0.length : Nat) : Int))) && decide (((72 : Nat) : Int) * ((x0.length : Nat) : Int) ≤ 281474976710656)) && decide (((x0.length : Nat) : Int) ≤ 9223372036854775807))
  (cond (Nat.beq (c17.1) 0)
   (0, (c17.2))
   (1, []))
  (1, [])
noncomputable def a63 (x0 : List (List Int)) (p : Nat × List (List Int)) : Res := firstT [((Nat.beq (p.1) 0), wsl 1, ⟨[⟨false, (some (.tab sc0 x0))⟩, ⟨true, (some (.tab sc0 (p.2)))⟩], 1, []⟩)]
noncomputable def t63 (x0 : List (List Int)) : Res :=
 let c17 := (r63l0 (1000 + (List.replicate x0.length ([0, 0, 0, 0, 0, 0, 0, 0, 0, 0, 0, 0, 0, 0, 0, 0, 0, 0] : List Int)).length + x0.length) 0 x0 (List.replicate x0.length ([0, 0, 0, 0, 0, 0, 0, 0, 0, 0, 0, 0, 0, 0, 0, 0, 0, 0] : List Int)))
 (cond (((decide ((0 : Int) ≤ ((x0.length : Nat) : Int)) && decide ((((x0.length : Nat) : Int) : Int) ≤ ((x0.length : Nat) : Int))) && decide (((72 : Nat) : Int) * ((x0.length : Nat) : Int) ≤ 281474976710656)) && decide (((x0.length : Nat) : Int) ≤ 9223372036854775807))
 (cond (Nat.beq (c17.1) 0)
  (some (wsl 1, ⟨[⟨false, (some (.tab sc0 x0))⟩, ⟨true, (some (.tab sc0 (c17.2)))⟩], 1, []⟩))
  none)
 none)
set_option maxRecDepth 100000 in
set_option maxHeartbeats 4000000 in
theorem e63 (x0 : List (List Int)) : evFn Try.prog ext T4 L63_1 200 Try.f63 [wsl 0] ⟨[⟨false, (some (.tab sc0 x0))⟩], 1, []⟩ = firstT [((Nat.beq ((r63 x0).1) 0), wsl 1, ⟨[⟨false, (some (.tab sc0 x0))⟩, ⟨true, (some (.tab sc0 ((r63 x0).2)))⟩], 1, []⟩)] :=
 (show evFn Try.prog ext T4 L63_1 200 Try.f63 [wsl 0] ⟨[⟨false, (some (.tab sc0 x0))⟩], 1, []⟩ = t63 x0 from by kernel_rfl).trans
 (show t63 x0 = a63 x0 (r63 x0) from (cond_app (a63 x0) _ (cond_app (a63 x0) _ rfl rfl) rfl))
noncomputable def s63 (args : List Value) (s : St) : List (Bool × Value × St) :=
 match args, s.h with
 | [.iface f0 .nilIface], [⟨false, some (.tab [.fl .f32, .fl .f32, .fl .f32, .fl .f32, .fl .f32, .fl .f32, .fl .f32, .fl .f32, .fl .f32, .fl .f32, .fl .f32, .fl .f32, .fl .f32, .fl .f32, .fl .f32, .fl .f32, .fl .f32, .fl .f32] x0)⟩] => if f0 = 0 then [((Nat.beq ((r63 x0).1) 0), wsl 1, ⟨[⟨false, (some (.tab sc0 x0))⟩, ⟨true, (some (.tab sc0 ((r63 x0).2)))⟩], 1, []⟩)] else T4 63 args s
 | _, _ => T4 63 args s
noncomputable def T5 : CallF := addF T4 63 s63
set_option maxRecDepth 100000 in
set_option maxHeartbeats 4000000 in
theorem ok5 : CfOk Try.prog T5 := by
  refine cfOk_add ok4 fun args s r s' h1 h2 h3 => ?_
  unfold s63 at h3; split at h3
  · rename_i h; split at h3
    · rename_i hc; obtain ⟨rfl⟩ := hc; exact callOk ok4 Try.func63 h1 h2 h lok63_1.body (e63 _) rfl h3
    · exact ok4 _ _ _ _ _ h1 h2 h3
  · exact ok4 _ _ _ _ _ h1 h2 h3

/-- laws.toStove -/
noncomputable def r21 (x0 x1 : Nat) (x2 x3 : Int) (x4 : Nat) (x5 : List (List Int)) : Nat × List (List Int) :=
 cond (Nat.beq ((r63 x5).1) 0)
  (0, ((r63 x5).2))
  (1, [])
noncomputable def a21 (x0 x1 : Nat) (x2 x3 : Int) (x4 : Nat) (x5 : List (List Int)) (p : Nat × List (List Int)) : Res := firstT [((Nat.beq (p.1) 0), .agg #[wsl 1, .float .f32 x0, .float .f32 x1, .int .i8 x2, .int .i64 x3, .float .f32 x4], ⟨[⟨false, (some (.tab sc0 x5))⟩, ⟨true, (some (.tab sc0 (p.2)))⟩], 1, []⟩)]
noncomputable def t21 (x0 x1 : Nat) (x2 x3 : Int) (x4 : Nat) (x5 : List (List Int)) : Res :=
 (cond (Nat.beq ((r63 x5).1) 0)
 (some (.agg #[wsl 1, .float .f32 x0, .float .f32 x1, .int .i8 x2, .int .i64 x3, .float .f32 x4], ⟨[⟨false, (some (.tab sc0 x5))⟩, ⟨true, (some (.tab sc0 ((r63 x5).2)))⟩], 1, []⟩))
 none)
set_option maxRecDepth 100000 in
set_option maxHeartbeats 4000000 in
theorem e21 (x0 x1 : Nat) (x2 x3 : Int) (x4 : Nat) (x5 : List (List Int)) : evFn Try.prog ext T5 noL 200 Try.f21 [.agg #[wsl 0, .float .f32 x0, .float .f32 x1, .int .i8 x2, .int .i64 x3, .float .f32 x4]] ⟨[⟨false, (some (.tab sc0 x5))⟩], 1, []⟩ = firstT [((Nat.beq ((r21 x0 x1 x2 x3 x4 x5).1) 0), .agg #[wsl 1, .float .f32 x0, .float .f32 x1, .int .i8 x2, .int .i64 x3, .float .f32 x4], ⟨[⟨false, (some (.tab sc0 x5))⟩, ⟨true, (some (.tab sc0 ((r21 x0 x1 x2 x3 x4 x5).2)))⟩], 1, []⟩)] :=
 (show evFn Try.prog ext T5 noL 200 Try.f21 [.agg #[wsl 0, .float .f32 x0, .float .f32 x1, .int .i8 x2, .int .i64 x3, .float .f32 x4]] ⟨[⟨false, (some (.tab sc0 x5))⟩], 1, []⟩ = t21 x0 x1 x2 x3 x4 x5 from by kernel_rfl).trans
 (show t21 x0 x1 x2 x3 x4 x5 = a21 x0 x1 x2 x3 x4 x5 (r21 x0 x1 x2 x3 x4 x5) from (cond_app (a21 x0 x1 x2 x3 x4 x5) _ rfl rfl))
noncomputable def s21 (args : List Value) (s : St) : List (Bool × Value × St) :=
 match args, s.h with
 | [.agg ⟨[.iface f0 .nilIface, .float .f32 x0, .float .f32 x1, .int .i8 x2, .int .i64 x3, .float .f32 x4]⟩], [⟨false, some (.tab [.fl .f32, .fl .f32, .fl .f32, .fl .f32, .fl .f32, .fl .f32, .fl .f32, .fl .f32, .fl .f32, .fl .f32, .fl .f32, .fl .f32, .fl .f32, .fl .f32, .fl .f32, .fl .f32, .fl .f32, .fl .f32] x5)⟩] => if f0 = 0 then [((Nat.beq ((r21 x0 x1 x2 x3 x4 x5).1) 0), .agg #[wsl 1, .float .f32 x0, .float .f32 x1, .int .i8 x2, .int .i64 x3, .float .f32 x4], ⟨[⟨false, (some (.tab sc0 x5))⟩, ⟨true, (some (.tab sc0 ((r21 x0 x1 x2 x3 x4 x5).2)))⟩], 1, []⟩)] else T5 21 args s
 | _, _ => T5 21 args s
noncomputable def T6 : CallF := addF T5 21 s21
set_option maxRecDepth 100000 in
set_option maxHeartbeats 4000000 in
theorem ok6 : CfOk Try.prog T6 := by
  refine cfOk_add ok5 fun args s r s' h1 h2 h3 => ?_
  unfold s21 at h3; split at h3
  · rename_i h; split at h3
    · rename_i hc; obtain ⟨rfl⟩ := hc; exact callOk ok5 Try.func21 h1 h2 h (lfOkF_no _ _).body (e21 _ _ _ _ _ _) rfl h3
    · exact ok5 _ _ _ _ _ h1 h2 h3
  · exact ok5 _ _ _ _ _ h1 h2 h3

/-- spec.l01Finite -/
noncomputable def r102 (x0 : Nat) : Bool :=
 ((feq .f32 (fsub .f32 x0 x0) 0))
noncomputable def a102 (x0 : Nat) (p : Bool) : Res := firstT [(true, .bool p, st0)]
noncomputable def t102 (x0 : Nat) : Res :=
 (some (.bool (feq .f32 (fsub .f32 x0 x0) 0), st0))
set_option maxRecDepth 100000 in
set_option maxHeartbeats 4000000 in
theorem e102 (x0 : Nat) : evFn Try.prog ext T6 noL 200 Try.f102 [.float .f32 x0] st0 = firstT [(true, .bool (r102 x0), st0)] :=
 (show evFn Try.prog ext T6 noL 200 Try.f102 [.float .f32 x0] st0 = t102 x0 from by kernel_rfl).trans
 (show t102 x0 = a102 x0 (r102 x0) from rfl)
noncomputable def s102 (args : List Value) (s : St) : List (Bool × Value × St) :=
 match args, s.h with
 | [.float .f32 x0], [] => [(true, .bool (r102 x0), st0)]
 | _, _ => T6 102 args s
noncomputable def T7 : CallF := addF T6 102 s102
set_option maxRecDepth 100000 in
set_option maxHeartbeats 4000000 in
theorem ok7 : CfOk Try.prog T7 := by
  refine cfOk_add ok6 fun args s r s' h1 h2 h3 => ?_
  unfold s102 at h3; split at h3
  · rename_i h; exact callOk ok6 Try.func102 h1 h2 h (lfOkF_no _ _).body (e102 _) rfl h3
  · exact ok6 _ _ _ _ _ h1 h2 h3

/-- spec.l01Amount -/
noncomputable def r100 (x0 : Nat) : Bool :=
 cond (r102 x0)
  (cond (fgt .f32 x0 0)
   (true)
   (cond (!isN .f32 x0)
    (((((x0 : Nat) : Int) : Int) == 0))
    (false)))
  (false)
noncomputable def a100 (x0 : Nat) (p : Bool) : Res := firstT [(true, .bool p, st0)]
noncomputable def t100 (x0 : Nat) : Res :=
 (cond (r102 x0)
 (cond (fgt .f32 x0 0)
  (some (.bool true, st0))
  (cond (!isN .f32 x0)
   (some (.bool ((((x0 : Nat) : Int) : Int) == 0), st0))
   (some (.bool false, st0))))
 (some (.bool false, st0)))
set_option maxRecDepth 100000 in
set_option maxHeartbeats 4000000 in
theorem e100 (x0 : Nat) : evFn Try.prog ext T7 noL 200 Try.f100 [.float .f32 x0] st0 = firstT [(true, .bool (r100 x0), st0)] :=
 (show evFn Try.prog ext T7 noL 200 Try.f100 [.float .f32 x0] st0 = t100 x0 from by kernel_rfl).trans
 (show t100 x0 = a100 x0 (r100 x0) from (cond_app (a100 x0) _ (cond_app (a100 x0) _ rfl (cond_app (a100 x0) _ rfl rfl)) rfl))
noncomputable def s100 (args : List Value) (s : St) : List (Bool × Value × St) :=
 match args, s.h with
 | [.float .f32 x0], [] => [(true, .bool (r100 x0), st0)]
 | _, _ => T7 100 args s
noncomputable def T8 : CallF := addF T7 100 s100
set_option maxRecDepth 100000 in
set_option maxHeartbeats 4000000 in
theorem ok8 : CfOk Try.prog T8 := by
  refine cfOk_add ok7 fun args s r s' h1 h2 h3 => ?_
  unfold s100 at h3; split at h3
  · rename_i h; exact callOk ok7 Try.func100 h1 h2 h (lfOkF_no _ _).body (e100 _) rfl h3
  · exact ok7 _ _ _ _ _ h1 h2 h3

/-- spec.l01Share -/
noncomputable def r82 (x0 : Nat) : Bool :=
 cond (r100 x0)
  ((flt .f32 x0 1065353216 || feq .f32 x0 1065353216))
  (false)
noncomputable def a82 (x0 : Nat) (p : Bool) : Res := firstT [(true, .bool p, st0)]
noncomputable def t82 (x0 : Nat) : Res :=
 (cond (r100 x0)
 (some (.bool (flt .f32 x0 1065353216 || feq .f32 x0 1065353216), st0))
 (some (.bool false, st0)))
set_option maxRecDepth 100000 in
set_option maxHeartbeats 4000000 in
theorem e82 (x0 : Nat) : evFn Try.prog ext T8 noL 200 Try.f82 [.float .f32 x0] st0 = firstT [(true, .bool (r82 x0), st0)] :=
 (show evFn Try.prog ext T8 noL 200 Try.f82 [.float .f32 x0] st0 = t82 x0 from by kernel_rfl).trans
 (show t82 x0 = a82 x0 (r82 x0) from (cond_app (a82 x0) _ rfl rfl))
noncomputable def s82 (args : List Value) (s : St) : List (Bool × Value × St) :=
 match args, s.h with
 | [.float .f32 x0], [] => [(true, .bool (r82 x0), st0)]
 | _, _ => T8 82 args s
noncomputable def T9 : CallF := addF T8 82 s82
set_option maxRecDepth 100000 in
set_option maxHeartbeats 4000000 in
theorem ok9 : CfOk Try.prog T9 := by
  refine cfOk_add ok8 fun args s r s' h1 h2 h3 => ?_
  unfold s82 at h3; split at h3
  · rename_i h; exact callOk ok8 Try.func82 h1 h2 h (lfOkF_no _ _).body (e82 _) rfl h3
  · exact ok8 _ _ _ _ _ h1 h2 h3

/-- spec.l00In -/
noncomputable def r71 (x0 x1 x2 : Int) : Bool :=
 cond (decide ((x0 : Int) ≥ x1))
  ((decide ((x0 : Int) ≤ x2)))
  (false)
noncomputable def a71 (x0 x1 x2 : Int) (p : Bool) : Res := firstT [(true, .bool p, st0)]
noncomputable def t71 (x0 x1 x2 : Int) : Res :=
 (cond (decide ((x0 : Int) ≥ x1))
 (some (.bool (decide ((x0 : Int) ≤ x2)), st0))
 (some (.bool false, st0)))
set_option maxRecDepth 100000 in
set_option maxHeartbeats 4000000 in
theorem e71 (x0 x1 x2 : Int) : evFn Try.prog ext T9 noL 200 Try.f71 [.int .i64 x0, .int .i64 x1, .int .i64 x2] st0 = firstT [(true, .bool (r71 x0 x1 x2), st0)] :=
 (show evFn Try.prog ext T9 noL 200 Try.f71 [.int .i64 x0, .int .i64 x1, .int .i64 x2] st0 = t71 x0 x1 x2 from by kernel_rfl).trans
 (show t71 x0 x1 x2 = a71 x0 x1 x2 (r71 x0 x1 x2) from (cond_app (a71 x0 x1 x2) _ rfl rfl))
noncomputable def s71 (args : List Value) (s : St) : List (Bool × Value × St) :=
 match args, s.h with
 | [.int .i64 x0, .int .i64 x1, .int .i64 x2], [] => [(true, .bool (r71 x0 x1 x2), st0)]
 | _, _ => T9 71 args s
noncomputable def T10 : CallF := addF T9 71 s71
set_option maxRecDepth 100000 in
set_option maxHeartbeats 4000000 in
theorem ok10 : CfOk Try.prog T10 := by
  refine cfOk_add ok9 fun args s r s' h1 h2 h3 => ?_
  unfold s71 at h3; split at h3
  · rename_i h; exact callOk ok9 Try.func71 h1 h2 h (lfOkF_no _ _).body (e71 _ _ _) rfl h3
  · exact ok9 _ _ _ _ _ h1 h2 h3

/-- spec.l01Ok -/
noncomputable def r57 (x0 : Nat) (x1 : List (List Int)) : Nat × Bool :=
 cond (Nat.blt x0 x1.length)
  (cond (!(r100 (Int.toNat ((x1.getD x0 []).getD 0 0))))
   (0, false)
   (cond (fgt .f32 (Int.toNat ((x1.getD x0 []).getD 0 0)) 1092616192)
    (0, false)
    (cond (!(r100 (Int.toNat ((x1.getD x0 []).getD 12 0))))
     (0, false)
     (cond (fgt .f32 (Int.toNat ((x1.getD x0 []).getD 12 0)) 1092616192)
      (0, false)
      (cond (fgt .f32 (Int.toNat ((x1.getD x0 []).getD 6 0)) 3262119936 || feq .f32 (Int.toNat ((x1.getD x0 []).getD 6 0)) 3262119936)
       (cond (!(flt .f32 (Int.toNat ((x1.getD x0 []).getD 6 0)) 1153138688 || feq .f32 (Int.toNat ((x1.getD x0 []).getD 6 0)) 1153138688))
        (0, false)
        (cond (!(r100 (Int.toNat ((x1.getD x0 []).getD 1 0))))
         (0, false)
         (cond (fgt .f32 (Int.toNat ((x1.getD x0 []).getD 1 0)) 1092616192)
          (0, false)
          (cond (!(r100 (Int.toNat ((x1.getD x0 []).getD 13 0))))
           (0, false)
           (cond (fgt .f32 (Int.toNat ((x1.getD x0 []).getD 13 0)) 1092616192)
            (0, false)
            (cond (fgt .f32 (Int.toNat ((x1.getD x0 []).getD 7 0)) 3262119936 || feq .f32 (Int.toNat ((x1.getD x0 []).getD 7 0)) 3262119936)
             (cond (!(flt .f32 (Int.toNat ((x1.getD x0 []).getD 7 0)) 1153138688 || feq .f32 (Int.toNat ((x1.getD x0 []).getD 7 0)) 1153138688))
              (0, false)
              (cond (!(r100 (Int.toNat ((x1.getD x0 []).getD 2 0))))
               (0, false)
               (cond (fgt .f32 (Int.toNat ((x1.getD x0 []).getD 2 0)) 1092616192)
                (0, false)
                (cond (!(r100 (Int.toNat ((x1.getD x0 []).getD 14 0))))
                 (0, false)
                 (cond (fgt .f32 (Int.toNat ((x1.getD x0 []).getD 14 0)) 1092616192)
                  (0, false)
                  (cond (fgt .f32 (Int.toNat ((x1.getD x0 []).getD 8 0)) 3262119936 || feq .f32 (Int.toNat ((x1.getD x0 []).getD 8 0)) 3262119936)
                   (cond (!(flt .f32 (Int.toNat ((x1.getD x0 []).getD 8 0)) 1153138688 || feq .f32 (Int.toNat ((x1.getD x0 []).getD 8 0)) 1153138688))
                    (0, false)
                    (cond (!(r100 (Int.toNat ((x1.getD x0 []).getD 3 0))))
                     (0, false)
                     (cond (fgt .f32 (Int.toNat ((x1.getD x0 []).getD 3 0)) 1092616192)
                      (0, false)
                      (cond (!(r100 (Int.toNat ((x1.getD x0 []).getD 15 0))))
                       (0, false)
                       (cond (fgt .f32 (Int.toNat ((x1.getD x0 []).getD 15 0)) 1092616192)
                        (0, false)
                        (cond (fgt .f32 (Int.toNat ((x1.getD x0 []).getD 9 0)) 3262119936 || feq .f32 (Int.toNat ((x1.getD x0 []).getD 9 0)) 3262119936)
                         (cond (!(flt .f32 (Int.toNat ((x1.getD x0 []).getD 9 0)) 1153138688 || feq .f32 (Int.toNat ((x1.getD x0 []).getD 9 0)) 1153138688))
                          (0, false)
                          (cond (!(r100 (Int.toNat ((x1.getD x0 []).getD 4 0))))
                           (0, false)
                           (cond (fgt .f32 (Int.toNat ((x1.getD x0 []).getD 4 0)) 1092616192)
                            (0, false)
                            (cond (!(r100 (Int.toNat ((x1.getD x0 []).getD 16 0))))
                             (0, false)
                             (cond (fgt .f32 (Int.toNat ((x1.getD x0 []).getD 16 0)) 1092616192)
                              (0, false)
                              (cond (fgt .f32 (Int.toNat ((x1.getD x0 []).getD 10 0)) 3262119936 || feq .f32 (Int.toNat ((x1.getD x0 []).getD 10 0)) 3262119936)
                               (cond (!(flt .f32 (Int.toNat ((x1.getD x0 []).getD 10 0)) 1153138688 || feq .f32 (Int.toNat ((x1.getD x0 []).getD 10 0)) 1153138688))
                                (0, false)
                                (cond (!(r100 (Int.toNat ((x1.getD x0 []).getD 5 0))))
                                 (0, false)
                                 (cond (fgt .f32 (Int.toNat ((x1.getD x0 []).getD 5 0)) 1092616192)
                                  (0, false)
                                  (cond (!(r100 (Int.toNat ((x1.getD x0 []).getD 17 0))))
                                   (0, false)
                                   (cond (fgt .f32 (Int.toNat ((x1.getD x0 []).getD 17 0)) 1092616192)
                                    (0, false)
                                    (cond (fgt .f32 (Int.toNat ((x1.getD x0 []).getD 11 0)) 3262119936 || feq .f32 (Int.toNat ((x1.getD x0 []).getD 11 0)) 3262119936)
                                     (cond (!(flt .f32 (Int.toNat ((x1.getD x0 []).getD 11 0)) 1153138688 || feq .f32 (Int.toNat ((x1.getD x0 []).getD 11 0)) 1153138688))
                                      (0, false)
                                      (0, true))
                                     (0, false)))))))
                               (0, false)))))))
                         (0, false)))))))
                   (0, false)))))))
             (0, false)))))))
       (0, false))))))
  (1, false)
noncomputable def a57 (x0 : Nat) (x1 : List (List Int)) (p : Nat × Bool) : Res := firstT [((Nat.beq (p.1) 0), .bool (p.2), ⟨[⟨true, (some (.tab sc0 x1))⟩], 1, []⟩)]
noncomputable def t57 (x0 : Nat) (x1 : List (List Int)) : Res :=
 (cond (Nat.blt x0 x1.length)
 (cond (!(r100 (Int.toNat ((x1.getD x0 []).getD 0 0))))
  (some (.bool false, ⟨[⟨true, (some (.tab sc0 x1))⟩], 1, []⟩))
  (cond (fgt .f32 (Int.toNat ((x1.getD x0 []).getD 0 0)) 1092616192)
   (some (.bool false, ⟨[⟨true, (some (.tab sc0 x1))⟩], 1, []⟩))
   (cond (!(r100 (Int.toNat ((x1.getD x0 []).getD 12 0))))
    (some (.bool false, ⟨[⟨true, (some (.tab sc0 x1))⟩], 1, []⟩))
    (cond (fgt .f32 (Int.toNat ((x1.getD x0 []).getD 12 0)) 1092616192)
     (some (.bool false, ⟨[⟨true, (some (.tab sc0 x1))⟩], 1, []⟩))
     (cond (fgt .f32 (Int.toNat ((x1.getD x0 []).getD 6 0)) 3262119936 || feq .f32 (Int.toNat ((x1.getD x0 []).getD 6 0)) 3262119936)
      (cond (!(flt .f32 (Int.toNat ((x1.getD x0 []).getD 6 0)) 1153138688 || feq .f32 (Int.toNat ((x1.getD x0 []).getD 6 0)) 1153138688))
       (some (.bool false, ⟨[⟨true, (some (.tab sc0 x1))⟩], 1, []⟩))
       (cond (!(r100 (Int.toNat ((x1.getD x0 []).getD 1 0))))
        (some (.bool false, ⟨[⟨true, (some (.tab sc0 x1))⟩], 1, []⟩))
        (cond (fgt .f32 (Int.toNat ((x1.getD x0 []).getD 1 0)) 1092616192)
         (some (.bool false, ⟨[⟨true, (some (.tab sc0 x1))⟩], 1, []⟩))
         (cond (!(r100 (Int.toNat ((x1.getD x0 []).getD 13 0))))
          (some (.bool false, ⟨[⟨true, (some (.tab sc0 x1))⟩], 1, []⟩))
          (cond (fgt .f32 (Int.toNat ((x1.getD x0 []).getD 13 0)) 1092616192)
           (some (.bool false, ⟨[⟨true, (some (.tab sc0 x1))⟩], 1, []⟩))
           (cond (fgt .f32 (Int.toNat ((x1.getD x0 []).getD 7 0)) 3262119936 || feq .f32 (Int.toNat ((x1.getD x0 []).getD 7 0)) 3262119936)
            (cond (!(flt .f32 (Int.toNat ((x1.getD x0 []).getD 7 0)) 1153138688 || feq .f32 (Int.toNat ((x1.getD x0 []).getD 7 0)) 1153138688))
             (some (.bool false, ⟨[⟨true, (some (.tab sc0 x1))⟩], 1, []⟩))
             (cond (!(r100 (Int.toNat ((x1.getD x0 []).getD 2 0))))
              (some (.bool false, ⟨[⟨true, (some (.tab sc0 x1))⟩], 1, []⟩))
              (cond (fgt .f32 (Int.toNat ((x1.getD x0 []).getD 2 0)) 1092616192)
               (some (.bool false, ⟨[⟨true, (some (.tab sc0 x1))⟩], 1, []⟩))
               (cond (!(r100 (Int.toNat ((x1.getD x0 []).getD 14 0))))
                (some (.bool false, ⟨[⟨true, (some (.tab sc0 x1))⟩], 1, []⟩))
                (cond (fgt .f32 (Int.toNat ((x1.getD x0 []).getD 14 0)) 1092616192)
                 (some (.bool false, ⟨[⟨true, (some (.tab sc0 x1))⟩], 1, []⟩))
                 (cond (fgt .f32 (Int.toNat ((x1.getD x0 []).getD 8 0)) 3262119936 || feq .f32 (Int.toNat ((x1.getD x0 []).getD 8 0)) 3262119936)
                  (cond (!(flt .f32 (Int.toNat ((x1.getD x0 []).getD 8 0)) 1153138688 || feq .f32 (Int.toNat ((x1.getD x0 []).getD 8 0)) 1153138688))
                   (some (.bool false, ⟨[⟨true, (some (.tab sc0 x1))⟩], 1, []⟩))
                   (cond (!(r100 (Int.toNat ((x1.getD x0 []).getD 3 0))))
                    (some (.bool false, ⟨[⟨true, (some (.tab sc0 x1))⟩], 1, []⟩))
                    (cond (fgt .f32 (Int.toNat ((x1.getD x0 []).getD 3 0)) 1092616192)
                     (some (.bool false, ⟨[⟨true, (some (.tab sc0 x1))⟩], 1, []⟩))
                     (cond (!(r100 (Int.toNat ((x1.getD x0 []).getD 15 0))))
                      (some (.bool false, ⟨[⟨true, (some (.tab sc0 x1))⟩], 1, []⟩))
                      (cond (fgt .f32 (Int.toNat ((x1.getD x0 []).getD 15 0)) 1092616192)
                       (some (.bool false, ⟨[⟨true, (some (.tab sc0 x1))⟩], 1, []⟩))
                       (cond (fgt .f32 (Int.toNat ((x1.getD x0 []).getD 9 0)) 3262119936 || feq .f32 (Int.toNat ((x1.getD x0 []).getD 9 0)) 3262119936)
                        (cond (!(flt .f32 (Int.toNat ((x1.getD x0 []).getD 9 0)) 1153138688 || feq .f32 (Int.toNat ((x1.getD x0 []).getD 9 0)) 1153138688))
                         (some (.bool false, ⟨[⟨true, (some (.tab sc0 x1))⟩], 1, []⟩))
                         (cond (!(r100 (Int.toNat ((x1.getD x0 []).getD 4 0))))
                          (some (.bool false, ⟨[⟨true, (some (.tab sc0 x1))⟩], 1, []⟩))
                          (cond (fgt .f32 (Int.toNat ((x1.getD x0 []).getD 4 0)) 1092616192)
                           (some (.bool false, ⟨[⟨true, (some (.tab sc0 x1))⟩], 1, []⟩))
                           (cond (!(r100 (Int.toNat ((x1.getD x0 []).getD 16 0))))
                            (some (.bool false, ⟨[⟨true, (some (.tab sc0 x1))⟩], 1, []⟩))
                            (cond (fgt .f32 (Int.toNat ((x1.getD x0 []).getD 16 0)) 1092616192)
                             (some (.bool false, ⟨[⟨true, (some (.tab sc0 x1))⟩], 1, []⟩))
                             (cond (fgt .f32 (Int.toNat ((x1.getD x0 []).getD 10 0)) 3262119936 || feq .f32 (Int.toNat ((x1.getD x0 []).getD 10 0)) 3262119936)
                              (cond (!(flt .f32 (Int.toNat ((x1.getD x0 []).getD 10 0)) 1153138688 || feq .f32 (Int.toNat ((x1.getD x0 []).getD 10 0)) 1153138688))
                               (some (.bool false, ⟨[⟨true, (some (.tab sc0 x1))⟩], 1, []⟩))
                               (cond (!(r100 (Int.toNat ((x1.getD x0 []).getD 5 0))))
                                (some (.bool false, ⟨[⟨true, (some (.tab sc0 x1))⟩], 1, []⟩))
                                (cond (fgt .f32 (Int.toNat ((x1.getD x0 []).getD 5 0)) 1092616192)
                                 (some (.bool false, ⟨[⟨true, (some (.tab sc0 x1))⟩], 1, []⟩))
                                 (cond (!(r100 (Int.toNat ((x1.getD x0 []).getD 17 0))))
                                  (some (.bool false, ⟨[⟨true, (some (.tab sc0 x1))⟩], 1, []⟩))
                                  (cond (fgt .f32 (Int.toNat ((x1.getD x0 []).getD 17 0)) 1092616192)
                                   (some (.bool false, ⟨[⟨true, (some (.tab sc0 x1))⟩], 1, []⟩))
                                   (cond (fgt .f32 (Int.toNat ((x1.getD x0 []).getD 11 0)) 3262119936 || feq .f32 (Int.toNat ((x1.getD x0 []).getD 11 0)) 3262119936)
                                    (cond (!(flt .f32 (Int.toNat ((x1.getD x0 []).getD 11 0)) 1153138688 || feq .f32 (Int.toNat ((x1.getD x0 []).getD 11 0)) 1153138688))
                                     (some (.bool false, ⟨[⟨true, (some (.tab sc0 x1))⟩], 1, []⟩))
                                     (some (.bool true, ⟨[⟨true, (some (.tab sc0 x1))⟩], 1, []⟩)))
                                    (some (.bool false, ⟨[⟨true, (some (.tab sc0 x1))⟩], 1, []⟩))))))))
                              (some (.bool false, ⟨[⟨true, (some (.tab sc0 x1))⟩], 1, []⟩))))))))
                        (some (.bool false, ⟨[⟨true, (some (.tab sc0 x1))⟩], 1, []⟩))))))))
                  (some (.bool false, ⟨[⟨true, (some (.tab sc0 x1))⟩], 1, []⟩))))))))
            (some (.bool false, ⟨[⟨true, (some (.tab sc0 x1))⟩], 1, []⟩))))))))
      (some (.bool false, ⟨[⟨true, (some (.tab sc0 x1))⟩], 1, []⟩)))))))
 none)
noncomputable def w57 (x0 : Nat) (x1 : List (List Int)) : Res :=
 (cond (Nat.blt x0 x1.length)
 (cond (!(r100 (Int.toNat ((x1.getD x0 []).getD 0 0))))
  (some (.bool false, ⟨[⟨true, (some (.tab sc0 x1))⟩], 1, []⟩))
  (cond (Nat.blt x0 x1.length)
   (cond (fgt .f32 (Int.toNat ((x1.getD x0 []).getD 0 0)) 1092616192)
    (some (.bool false, ⟨[⟨true, (some (.tab sc0 x1))⟩], 1, []⟩))
    (cond (Nat.blt x0 x1.length)
     (cond (!(r100 (Int.toNat ((x1.getD x0 []).getD 12 0))))
      (some (.bool false, ⟨[⟨true, (some (.tab sc0 x1))⟩], 1, []⟩))
      (cond (Nat.blt x0 x1.length)
       (cond (fgt .f32 (Int.toNat ((x1.getD x0 []).getD 12 0)) 1092616192)
        (some (.bool false, ⟨[⟨true, (some (.tab sc0 x1))⟩], 1, []⟩))
        (cond (Nat.blt x0 x1.length)
         (cond (fgt .f32 (Int.toNat ((x1.getD x0 []).getD 6 0)) 3262119936 || feq .f32 (Int.toNat ((x1.getD x0 []).getD 6 0)) 3262119936)
          (cond (Nat.blt x0 x1.length)
           (cond (!(flt .f32 (Int.toNat ((x1.getD x0 []).getD 6 0)) 1153138688 || feq .f32 (Int.toNat ((x1.getD x0 []).getD 6 0)) 1153138688))
            (some (.bool false, ⟨[⟨true, (some (.tab sc0 x1))⟩], 1, []⟩))
            (cond (Nat.blt x0 x1.length)
             (cond (!(r100 (Int.toNat ((x1.getD x0 []).getD 1 0))))
              (some (.bool false, ⟨[⟨true, (some (.tab sc0 x1))⟩], 1, []⟩))
              (cond (Nat.blt x0 x1.length)
               (cond (fgt .f32 (Int.toNat ((x1.getD x0 []).getD 1 0)) 1092616192)
                (some (.bool false, ⟨[⟨true, (some (.tab sc0 x1))⟩], 1, []⟩))
                (cond (Nat.blt x0 x1.length)
                 (cond (!(r100 (Int.toNat ((x1.getD x0 []).getD 13 0))))
                  (some (.bool false, ⟨[⟨true, (some (.tab sc0 x1))⟩], 1, []⟩))
                  (cond (Nat.blt x0 x1.length)
                   (cond (fgt .f32 (Int.toNat ((x1.getD x0 []).getD 13 0)) 1092616192)
                    (some (.bool false, ⟨[⟨true, (some (.tab sc0 x1))⟩], 1, []⟩))
                    (cond (Nat.blt x0 x1.length)
                     (cond (fgt .f32 (Int.toNat ((x1.getD x0 []).getD 7 0)) 3262119936 || feq .f32 (Int.toNat ((x1.getD x0 []).getD 7 0)) 3262119936)
                      (cond (Nat.blt x0 x1.length)
                       (cond (!(flt .f32 (Int.toNat ((x1.getD x0 []).getD 7 0)) 1153138688 || feq .f32 (Int.toNat ((x1.getD x0 []).getD 7 0)) 1153138688))
                        (some (.bool false, ⟨[⟨true, (some (.tab sc0 x1))⟩], 1, []⟩))
                        (cond (Nat.blt x0 x1.length)
                         (cond (!(r100 (Int.toNat ((x1.getD x0 []).getD 2 0))))
                          (some (.bool false, ⟨[⟨true, (some (.tab sc0 x1))⟩], 1, []⟩))
                          (cond (Nat.blt x0 x1.length)
                           (cond (fgt .f32 (Int.toNat ((x1.getD x0 []).getD 2 0)) 1092616192)
                            (some (.bool false, ⟨[⟨true, (some (.tab sc0 x1))⟩], 1, []⟩))
                            (cond (Nat.blt x0 x1.length)
                             (cond (!(r100 (Int.toNat ((x1.getD x0 []).getD 14 0))))
                              (some (.bool false, ⟨[⟨true, (some (.tab sc0 x1))⟩], 1, []⟩))
                              (cond (Nat.blt x0 x1.length)
                               (cond (fgt .f32 (Int.toNat ((x1.getD x0 []).getD 14 0)) 1092616192)
                                (some (.bool false, ⟨[⟨true, (some (.tab sc0 x1))⟩], 1, []⟩))
                                (cond (Nat.blt x0 x1.length)
                                 (cond (fgt .f32 (Int.toNat ((x1.getD x0 []).getD 8 0)) 3262119936 || feq .f32 (Int.toNat ((x1.getD x0 []).getD 8 0)) 3262119936)
                                  (cond (Nat.blt x0 x1.length)
                                   (cond (!(flt .f32 (Int.toNat ((x1.getD x0 []).getD 8 0)) 1153138688 || feq .f32 (Int.toNat ((x1.getD x0 []).getD 8 0)) 1153138688))
                                    (some (.bool false, ⟨[⟨true, (some (.tab sc0 x1))⟩], 1, []⟩))
                                    (cond (Nat.blt x0 x1.length)
                                     (cond (!(r100 (Int.toNat ((x1.getD x0 []).getD 3 0))))
                                      (some (.bool false, ⟨[⟨true, (some (.tab sc0 x1))⟩], 1, []⟩))
                                      (cond (Nat.blt x0 x1.length)
                                       (cond (fgt .f32 (Int.toNat ((x1.getD x0 []).getD 3 0)) 1092616192)
                                        (some (.bool false, ⟨[⟨true, (some (.tab sc0 x1))⟩], 1, []⟩))
                                        (cond (Nat.blt x0 x1.length)
                                         (cond (!(r100 (Int.toNat ((x1.getD x0 []).getD 15 0))))
                                          (some (.bool false, ⟨[⟨true, (some (.tab sc0 x1))⟩], 1, []⟩))
                                          (cond (Nat.blt x0 x1.length)
                                           (cond (fgt .f32 (Int.toNat ((x1.getD x0 []).getD 15 0)) 1092616192)
                                            (some (.bool false, ⟨[⟨true, (some (.tab sc0 x1))⟩], 1, []⟩))
                                            (cond (Nat.blt x0 x1.length)
                                             (cond (fgt .f32 (Int.toNat ((x1.getD x0 []).getD 9 0)) 3262119936 || feq .f32 (Int.toNat ((x1.getD x0 []).getD 9 0)) 3262119936)
                                              (cond (Nat.blt x0 x1.length)
                                               (cond (!(flt .f32 (Int.toNat ((x1.getD x0 []).getD 9 0)) 1153138688 || feq .f32 (Int.toNat ((x1.getD x0 []).getD 9 0)) 1153138688))
                                                (some (.bool false, ⟨[⟨true, (some (.tab sc0 x1))⟩], 1, []⟩))
                                                (cond (Nat.blt x0 x1.length)
                                                 (cond (!(r100 (Int.toNat ((x1.getD x0 []).getD 4 0))))
                                                  (some (.bool false, ⟨[⟨true, (some (.tab sc0 x1))⟩], 1, []⟩))
                                                  (cond (Nat.blt x0 x1.length)
                                                   (cond (fgt .f32 (Int.toNat ((x1.getD x0 []).getD 4 0)) 1092616192)
                                                    (some (.bool false, ⟨[⟨true, (some (.tab sc0 x1))⟩], 1, []⟩))
                                                    (cond (Nat.blt x0 x1.length)
                                                     (cond (!(r100 (Int.toNat ((x1.getD x0 []).getD 16 0))))
                                                      (some (.bool false, ⟨[⟨true, (some (.tab sc0 x1))⟩], 1, []⟩))
                                                      (cond (Nat.blt x0 x1.length)
                                                       (cond (fgt .f32 (Int.toNat ((x1.getD x0 []).getD 16 0)) 1092616192)
                                                        (some (.bool false, ⟨[⟨true, (some (.tab sc0 x1))⟩], 1, []⟩))
                                                        (cond (Nat.blt x0 x1.length)
                                                         (cond (fgt .f32 (Int.toNat ((x1.getD x0 []).getD 10 0)) 3262119936 || feq .f32 (Int.toNat ((x1.getD x0 []).getD 10 0)) 3262119936)
                                                          (cond (Nat.blt x0 x1.length)
                                                           (cond (!(flt .f32 (Int.toNat ((x1.getD x0 []).getD 10 0)) 1153138688 || feq .f32 (Int.toNat ((x1.getD x0 []).getD 10 0)) 1153138688))
                                                            (some (.bool false, ⟨[⟨true, (some (.tab sc0 x1))⟩], 1, []⟩))
                                                            (cond (Nat.blt x0 x1.length)
                                                             (cond (!(r100 (Int.toNat ((x1.getD x0 []).getD 5 0))))
                                                              (some (.bool false, ⟨[⟨true, (some (.tab sc0 x1))⟩], 1, []⟩))
                                                              (cond (Nat.blt x0 x1.length)
                                                               (cond (fgt .f32 (Int.toNat ((x1.getD x0 []).getD 5 0)) 1092616192)
                                                                (some (.bool false, ⟨[⟨true, (some (.tab sc0 x1))⟩], 1, []⟩))
                                                                (cond (Nat.blt x0 x1.length)
                                                                 (cond (!(r100 (Int.toNat ((x1.getD x0 []).getD 17 0))))
                                                                  (some (.bool false, ⟨[⟨true, (some (.tab sc0 x1))⟩], 1, []⟩))
                                                                  (cond (Nat.blt x0 x1.length)
                                                                   (cond (fgt .f32 (Int.toNat ((x1.getD x0 []).getD 17 0)) 1092616192)
                                                                    (some (.bool false, ⟨[⟨true, (some (.tab sc0 x1))⟩], 1, []⟩))
                                                                    (cond (Nat.blt x0 x1.length)
                                                                     (cond (fgt .f32 (Int.toNat ((x1.getD x0 []).getD 11 0)) 3262119936 || feq .f32 (Int.toNat ((x1.getD x0 []).getD 11 0)) 3262119936)
                                                                      (cond (Nat.blt x0 x1.length)
                                                                       (cond (!(flt .f32 (Int.toNat ((x1.getD x0 []).getD 11 0)) 1153138688 || feq .f32 (Int.toNat ((x1.getD x0 []).getD 11 0)) 1153138688))
                                                                        (some (.bool false, ⟨[⟨true, (some (.tab sc0 x1))⟩], 1, []⟩))
                                                                        (some (.bool true, ⟨[⟨true, (some (.tab sc0 x1))⟩], 1, []⟩)))
                                                                       none)
                                                                      (some (.bool false, ⟨[⟨true, (some (.tab sc0 x1))⟩], 1, []⟩)))
                                                                     none))
                                                                   none))
                                                                 none))
                                                               none))
                                                             none))
                                                           none)
                                                          (some (.bool false, ⟨[⟨true, (some (.tab sc0 x1))⟩], 1, []⟩)))
                                                         none))
                                                       none))
                                                     none))
                                                   none))
                                                 none))
                                               none)
                                              (some (.bool false, ⟨[⟨true, (some (.tab sc0 x1))⟩], 1, []⟩)))
                                             none))
                                           none))
                                         none))
                                       none))
                                     none))
                                   none)
                                  (some (.bool false, ⟨[⟨true, (some (.tab sc0 x1))⟩], 1, []⟩)))
                                 none))
                               none))
                             none))
                           none))
                         none))
                       none)
                      (some (.bool false, ⟨[⟨true, (some (.tab sc0 x1))⟩], 1, []⟩)))
                     none))
                   none))
                 none))
               none))
             none))
           none)
          (some (.bool false, ⟨[⟨true, (some (.tab sc0 x1))⟩], 1, []⟩)))
         none))
       none))
     none))
   none))
 none)
set_option maxRecDepth 100000 in
set_option maxHeartbeats 4000000 in
theorem e57 (x0 : Nat) (x1 : List (List Int)) : evFn Try.prog ext T10 noL 200 Try.f57 [.pointer (some ⟨0, x0, some 0⟩)] ⟨[⟨true, (some (.tab sc0 x1))⟩], 1, []⟩ = firstT [((Nat.beq ((r57 x0 x1).1) 0), .bool ((r57 x0 x1).2), ⟨[⟨true, (some (.tab sc0 x1))⟩], 1, []⟩)] :=
 (show evFn Try.prog ext T10 noL 200 Try.f57 [.pointer (some ⟨0, x0, some 0⟩)] ⟨[⟨true, (some (.tab sc0 x1))⟩], 1, []⟩ = w57 x0 x1 from by kernel_rfl).trans
 ((show w57 x0 x1 = t57 x0 x1 from (cond_cong _ (fun h0 => (cond_cong _ (fun h1 => rfl) (fun h1 => (cond_t h0 (cond_cong _ (fun h2 => rfl) (fun h2 => (cond_t h0 (cond_cong _ (fun h3 => rfl) (fun h3 => (cond_t h0 (cond_cong _ (fun h4 => rfl) (fun h4 => (cond_t h0 (cond_cong _ (fun h5 => (cond_t h0 (cond_cong _ (fun h6 => rfl) (fun h6 => (cond_t h0 (cond_cong _ (fun h7 => rfl) (fun h7 => (cond_t h0 (cond_cong _ (fun h8 => rfl) (fun h8 => (cond_t h0 (cond_cong _ (fun h9 => rfl) (fun h9 => (cond_t h0 (cond_cong _ (fun h10 => rfl) (fun h10 => (cond_t h0 (cond_cong _ (fun h11 => (cond_t h0 (cond_cong _ (fun h12 => rfl) (fun h12 => (cond_t h0 (cond_cong _ (fun h13 => rfl) (fun h13 => (cond_t h0 (cond_cong _ (fun h14 => rfl) (fun h14 => (cond_t h0 (cond_cong _ (fun h15 => rfl) (fun h15 => (cond_t h0 (cond_cong _ (fun h16 => rfl) (fun h16 => (cond_t h0 (cond_cong _ (fun h17 => (cond_t h0 (cond_cong _ (fun h18 => rfl) (fun h18 => (cond_t h0 (cond_cong _ (fun h19 => rfl) (fun h19 => (cond_t h0 (cond_cong _ (fun h20 => rfl) (fun h20 => (cond_t h0 (cond_cong _ (fun h21 => rfl) (fun h21 => (cond_t h0 (cond_cong _ (fun h22 => rfl) (fun h22 => (cond_t h0 (cond_cong _ (fun h23 => (cond_t h0 (cond_cong _ (fun h24 => rfl) (fun h24 => (cond_t h0 (cond_cong _ (fun h25 => rfl) (fun h25 => (cond_t h0 (cond_cong _ (fun h26 => rfl) (fun h26 => (cond_t h0 (cond_cong _ (fun h27 => rfl) (fun h27 => (cond_t h0 (cond_cong _ (fun h28 => rfl) (fun h28 => (cond_t h0 (cond_cong _ (fun h29 => (cond_t h0 (cond_cong _ (fun h30 => rfl) (fun h30 => (cond_t h0 (cond_cong _ (fun h31 => rfl) (fun h31 => (cond_t h0 (cond_cong _ (fun h32 => rfl) (fun h32 => (cond_t h0 (cond_cong _ (fun h33 => rfl) (fun h33 => (cond_t h0 (cond_cong _ (fun h34 => rfl) (fun h34 => (cond_t h0 (cond_cong _ (fun h35 => (cond_t h0 rfl)) (fun h35 => rfl))))))))))))))))))) (fun h29 => rfl))))))))))))))))))) (fun h23 => rfl))))))))))))))))))) (fun h17 => rfl))))))))))))))))))) (fun h11 => rfl))))))))))))))))))) (fun h5 => rfl))))))))))))))) (fun h0 => rfl))).trans
 (show t57 x0 x1 = a57 x0 x1 (r57 x0 x1) from (cond_app (a57 x0 x1) _ (cond_app (a57 x0 x1) _ rfl (cond_app (a57 x0 x1) _ rfl (cond_app (a57 x0 x1) _ rfl (cond_app (a57 x0 x1) _ rfl (cond_app (a57 x0 x1) _ (cond_app (a57 x0 x1) _ rfl (cond_app (a57 x0 x1) _ rfl (cond_app (a57 x0 x1) _ rfl (cond_app (a57 x0 x1) _ rfl (cond_app (a57 x0 x1) _ rfl (cond_app (a57 x0 x1) _ (cond_app (a57 x0 x1) _ rfl (cond_app (a57 x0 x1) _ rfl (cond_app (a57 x0 x1) _ rfl (cond_app (a57 x0 x1) _ rfl (cond_app (a57 x0 x1) _ rfl (cond_app (a57 x0 x1) _ (cond_app (a57 x0 x1) _ rfl (cond_app (a57 x0 x1) _ rfl (cond_app (a57 x0 x1) _ rfl (cond_app (a57 x0 x1) _ rfl (cond_app (a57 x0 x1) _ rfl (cond_app (a57 x0 x1) _ (cond_app (a57 x0 x1) _ rfl (cond_app (a57 x0 x1) _ rfl (cond_app (a57 x0 x1) _ rfl (cond_app (a57 x0 x1) _ rfl (cond_app (a57 x0 x1) _ rfl (cond_app (a57 x0 x1) _ (cond_app (a57 x0 x1) _ rfl (cond_app (a57 x0 x1) _ rfl (cond_app (a57 x0 x1) _ rfl (cond_app (a57 x0 x1) _ rfl (cond_app (a57 x0 x1) _ rfl (cond_app (a57 x0 x1) _ (cond_app (a57 x0 x1) _ rfl rfl) rfl)))))) rfl)))))) rfl)))))) rfl)))))) rfl)))))) rfl))))) rfl)))
noncomputable def s57 (args : List Value) (s : St) : List (Bool × Value × St) :=
 match args, s.h with
 | [.pointer (some ⟨f0, x0, some f1⟩)], [⟨true, some (.tab [.fl .f32, .fl .f32, .fl .f32, .fl .f32, .fl .f32, .fl .f32, .fl .f32, .fl .f32, .fl .f32, .fl .f32, .fl .f32, .fl .f32, .fl .f32, .fl .f32, .fl .f32, .fl .f32, .fl .f32, .fl .f32] x1)⟩] => if f0 = 0 ∧ f1 = 0 then [((Nat.beq ((r57 x0 x1).1) 0), .bool ((r57 x0 x1).2), ⟨[⟨true, (some (.tab sc0 x1))⟩], 1, []⟩)] else T10 57 args s
 | _, _ => T10 57 args s
noncomputable def T11 : CallF := addF T10 57 s57
set_option maxRecDepth 100000 in
set_option maxHeartbeats 4000000 in
theorem ok11 : CfOk Try.prog T11 := by
  refine cfOk_add ok10 fun args s r s' h1 h2 h3 => ?_
  unfold s57 at h3; split at h3
  · rename_i h; split at h3
    · rename_i hc; obtain ⟨rfl, rfl⟩ := hc; exact callOk ok10 Try.func57 h1 h2 h (lfOkF_no _ _).body (e57 _ _) rfl h3
    · exact ok10 _ _ _ _ _ h1 h2 h3
  · exact ok10 _ _ _ _ _ h1 h2 h3

/-- spec.l02Ok, loop 0: one round -/
noncomputable def b62l0 (ih : Int → Nat → Nat → Int → Int → Nat → List (List Int) → Nat) (x0 : Int) (x1 x2 : Nat) (x3 x4 : Int) (x5 : Nat) (x6 : List (List Int)) : Nat :=
 cond (decide ((x0 : Int) < ((x6.length : Nat) : Int)))
  (cond ((decide ((0 : Int) ≤ x0)) && (Nat.blt (Int.toNat x0) x6.length))
   (cond (Nat.beq ((r57 (Int.toNat x0) x6).1) 0)
    (cond (!((r57 (Int.toNat x0) x6).2))
     (0)
     (ih (IntKind.i64.wrap (x0 + 1)) x1 x2 x3 x4 x5 x6))
    (2))
   (2))
  (1)
noncomputable def r62l0 : Nat → Int → Nat → Nat → Int → Int → Nat → List (List Int) → Nat
 | 0, _, _, _, _, _, _, _ => (2)
 | m + 1, x0, x1, x2, x3, x4, x5, x6 => b62l0 (r62l0 m) x0 x1 x2 x3 x4 x5 x6
noncomputable def a62l0 (x0 : Int) (x1 x2 : Nat) (x3 x4 : Int) (x5 : Nat) (x6 : List (List Int)) (p : Nat) : Option (Fin' × List Value × St) := firstT ([((Nat.beq p 0), .ret, [.bool false], ⟨[⟨true, (some (.cells [wsl 1, .float .f32 x1, .float .f32 x2, .int .i8 x3, .int .i64 x4, .float .f32 x5]))⟩, ⟨true, (some (.tab sc0 x6))⟩], 2, []⟩), ((Nat.beq p 1), .exit 0, [anyV], ⟨[⟨true, (some (.cells [wsl 1, .float .f32 x1, .float .f32 x2, .int .i8 x3, .int .i64 x4, .float .f32 x5]))⟩, ⟨true, (some (.tab sc0 x6))⟩], 2, []⟩)].map fun (b, x) => (b, (x.1, frameOf 82 [2] x.2.1, x.2.2)))
theorem v62l0 (x0 : Int) (x1 x2 : Nat) (x3 x4 : Int) (x5 : Nat) (x6 : List (List Int)) (p : Nat) : alts ([((Nat.beq p 0), .ret, [.bool false], ⟨[⟨true, (some (.cells [wsl 1, .float .f32 x1, .float .f32 x2, .int .i8 x3, .int .i64 x4, .float .f32 x5]))⟩, ⟨true, (some (.tab sc0 x6))⟩], 2, []⟩), ((Nat.beq p 1), .exit 0, [anyV], ⟨[⟨true, (some (.cells [wsl 1, .float .f32 x1, .float .f32 x2, .int .i8 x3, .int .i64 x4, .float .f32 x5]))⟩, ⟨true, (some (.tab sc0 x6))⟩], 2, []⟩)].map fun (b, x) => (b, (x.1, frameOf 82 [2] x.2.1, x.2.2))) some = a62l0 x0 x1 x2 x3 x4 x5 x6 p := alts_first _
noncomputable def q62l0 (m : Nat) : SumK := fun vals s =>
 match vals, s.h with
 | [.pointer (some ⟨f0, f1, some f2⟩), .int .i64 x0], [⟨true, some (.cells [.iface f3 .nilIface, .float .f32 x1, .float .f32 x2, .int .i8 x3, .int .i64 x4, .float .f32 x5])⟩, ⟨true, some (.tab [.fl .f32, .fl .f32, .fl .f32, .fl .f32, .fl .f32, .fl .f32, .fl .f32, .fl .f32, .fl .f32, .fl .f32, .fl .f32, .fl .f32, .fl .f32, .fl .f32, .fl .f32, .fl .f32, .fl .f32, .fl .f32] x6)⟩] => if f0 = 0 ∧ f1 = 0 ∧ f2 = 0 ∧ f3 = 1 then [((Nat.beq (r62l0 m x0 x1 x2 x3 x4 x5 x6) 0), .ret, [.bool false], ⟨[⟨true, (some (.cells [wsl 1, .float .f32 x1, .float .f32 x2, .int .i8 x3, .int .i64 x4, .float .f32 x5]))⟩, ⟨true, (some (.tab sc0 x6))⟩], 2, []⟩), ((Nat.beq (r62l0 m x0 x1 x2 x3 x4 x5 x6) 1), .exit 0, [anyV], ⟨[⟨true, (some (.cells [wsl 1, .float .f32 x1, .float .f32 x2, .int .i8 x3, .int .i64 x4, .float .f32 x5]))⟩, ⟨true, (some (.tab sc0 x6))⟩], 2, []⟩)] else noQ vals s
 | _, _ => noQ vals s
noncomputable def t62l0 (ih : Int → Nat → Nat → Int → Int → Nat → List (List Int) → Nat) (x0 : Int) (x1 x2 : Nat) (x3 x4 : Int) (x5 : Nat) (x6 : List (List Int)) : Option (Fin' × List Value × St) :=
 (cond (decide ((x0 : Int) < ((x6.length : Nat) : Int)))
 (cond ((decide ((0 : Int) ≤ x0)) && (Nat.blt (Int.toNat x0) x6.length))
  (cond (Nat.beq ((r57 (Int.toNat x0) x6).1) 0)
   (cond (!((r57 (Int.toNat x0) x6).2))
    (some (.ret, frameOf 82 [2] [.bool false], ⟨[⟨true, (some (.cells [wsl 1, .float .f32 x1, .float .f32 x2, .int .i8 x3, .int .i64 x4, .float .f32 x5]))⟩, ⟨true, (some (.tab sc0 x6))⟩], 2, []⟩))
    (cond (Nat.beq (ih (IntKind.i64.wrap (x0 + 1)) x1 x2 x3 x4 x5 x6) 0)
     (some (.ret, frameOf 82 [2] [.bool false], ⟨[⟨true, (some (.cells [wsl 1, .float .f32 x1, .float .f32 x2, .int .i8 x3, .int .i64 x4, .float .f32 x5]))⟩, ⟨true, (some (.tab sc0 x6))⟩], 2, []⟩))
     (cond (Nat.beq (ih (IntKind.i64.wrap (x0 + 1)) x1 x2 x3 x4 x5 x6) 1)
      (some (.exit 0, frameOf 82 [2] [anyV], ⟨[⟨true, (some (.cells [wsl 1, .float .f32 x1, .float .f32 x2, .int .i8 x3, .int .i64 x4, .float .f32 x5]))⟩, ⟨true, (some (.tab sc0 x6))⟩], 2, []⟩))
      none)))
   none)
  none)
 (some (.exit 0, frameOf 82 [2] [anyV], ⟨[⟨true, (some (.cells [wsl 1, .float .f32 x1, .float .f32 x2, .int .i8 x3, .int .i64 x4, .float .f32 x5]))⟩, ⟨true, (some (.tab sc0 x6))⟩], 2, []⟩)))
set_option maxRecDepth 100000 in
set_option maxHeartbeats 4000000 in
theorem e62l0 (m : Nat) (x0 : Int) (x1 x2 : Nat) (x3 x4 : Int) (x5 : Nat) (x6 : List (List Int)) : evC Try.prog ext T11 noL 200 (loopN Try.f62 0) (loopTail [0, 3] [2] [] (sumK 82 [0, 3] [2] (q62l0 m))) (frameOf 82 [0, 3] [.pointer (some ⟨0, 0, some 0⟩), .int .i64 x0]) ⟨[⟨true, (some (.cells [wsl 1, .float .f32 x1, .float .f32 x2, .int .i8 x3, .int .i64 x4, .float .f32 x5]))⟩, ⟨true, (some (.tab sc0 x6))⟩], 2, []⟩ = firstT ([((Nat.beq (r62l0 (m + 1) x0 x1 x2 x3 x4 x5 x6) 0), .ret, [.bool false], ⟨[⟨true, (some (.cells [wsl 1, .float .f32 x1, .float .f32 x2, .int .i8 x3, .int .i64 x4, .float .f32 x5]))⟩, ⟨true, (some (.tab sc0 x6))⟩], 2, []⟩), ((Nat.beq (r62l0 (m + 1) x0 x1 x2 x3 x4 x5 x6) 1), .exit 0, [anyV], ⟨[⟨true, (some (.cells [wsl 1, .float .f32 x1, .float .f32 x2, .int .i8 x3, .int .i64 x4, .float .f32 x5]))⟩, ⟨true, (some (.tab sc0 x6))⟩], 2, []⟩)].map fun (b, x) => (b, (x.1, frameOf 82 [2] x.2.1, x.2.2))) :=
 (show evC Try.prog ext T11 noL 200 (loopN Try.f62 0) (loopTail [0, 3] [2] [] (sumK 82 [0, 3] [2] (q62l0 m))) (frameOf 82 [0, 3] [.pointer (some ⟨0, 0, some 0⟩), .int .i64 x0]) ⟨[⟨true, (some (.cells [wsl 1, .float .f32 x1, .float .f32 x2, .int .i8 x3, .int .i64 x4, .float .f32 x5]))⟩, ⟨true, (some (.tab sc0 x6))⟩], 2, []⟩ = t62l0 (r62l0 m) x0 x1 x2 x3 x4 x5 x6 from by kernel_rfl).trans
 (show t62l0 (r62l0 m) x0 x1 x2 x3 x4 x5 x6 = a62l0 x0 x1 x2 x3 x4 x5 x6 (r62l0 (m + 1) x0 x1 x2 x3 x4 x5 x6) from (cond_app (a62l0 x0 x1 x2 x3 x4 x5 x6) _ (cond_app (a62l0 x0 x1 x2 x3 x4 x5 x6) _ (cond_app (a62l0 x0 x1 x2 x3 x4 x5 x6) _ (cond_app (a62l0 x0 x1 x2 x3 x4 x5 x6) _ rfl (v62l0 x0 x1 x2 x3 x4 x5 x6 ((r62l0 m) (IntKind.i64.wrap (x0 + 1)) x1 x2 x3 x4 x5 x6))) rfl) rfl) rfl))
set_option maxRecDepth 100000 in
set_option maxHeartbeats 4000000 in
theorem qm62l0 : ∀ m, SumKOk Try.prog (loopN Try.f62 0) 82 [0, 3] [2] (q62l0 m) := by
  intro m
  induction m with
  | zero =>
    intro vals s x h1 h2 h3
    unfold q62l0 at h3; split at h3
    · rename_i h; split at h3
      · rename_i hc; obtain ⟨rfl, rfl, rfl, rfl⟩ := hc; exact absurd h3 (by simp [r62l0, firstT, Nat.beq])
      · exact noQ_ok _ _ _ h1 h2 h3
    · exact noQ_ok _ _ _ h1 h2 h3
  | succ m ih =>
    intro vals s x h1 h2 h3
    unfold q62l0 at h3; split at h3
    · rename_i h; split at h3
      · rename_i hc; obtain ⟨rfl, rfl, rfl, rfl⟩ := hc; exact sum_step ok11 extOk mixed ((lfOkF_no _ _).inner (by kernel_rfl)) ih h1 h2 h (e62l0 m _ _ _ _ _ _ _) rfl h3
      · exact noQ_ok _ _ _ h1 h2 h3
    · exact noQ_ok _ _ _ h1 h2 h3
noncomputable def Q62l0 : SumK := fun vals s => q62l0 (fuelOf vals s.h) vals s
theorem qok62l0 : SumKOk Try.prog (loopN Try.f62 0) 82 [0, 3] [2] Q62l0 := fuel_ok qm62l0 fuelOf
noncomputable def L62_1 : LoopT := addL noL 5 [0, 3] (sumK 82 [0, 3] [2] Q62l0)
theorem lok62_1 : LfOkF Try.prog L62_1 Try.f62 := lfOkF_add (lfOkF_no _ _) qok62l0 (by kernel_rfl) (by kernel_rfl) (by kernel_rfl)

/-- spec.l02Ok -/
noncomputable def r62 (x0 x1 : Nat) (x2 x3 : Int) (x4 : Nat) (x5 : List (List Int)) : Nat × Bool :=
 cond (decide ((((x5.length : Nat) : Int) : Int) > 6))
  (0, false)
  (cond (fgt .f32 x0 3262119936 || feq .f32 x0 3262119936)
   (cond (!(flt .f32 x0 1153138688 || feq .f32 x0 1153138688))
    (0, false)
    (cond (!(r82 x1))
     (0, false)
     (cond (!(r71 (IntKind.i64.wrap x2) 0 3))
      (0, false)
      (cond (!(r71 x3 0 1000000))
       (0, false)
       (cond (!(r100 x4))
        (0, false)
        (cond (fgt .f32 x4 1065353216 || feq .f32 x4 1065353216)
         (0, false)
         (cond (Nat.beq (r62l0 (1000 + x5.length) 0 x0 x1 x2 x3 x4 x5) 0)
          (0, false)
          (cond (Nat.beq (r62l0 (1000 + x5.length) 0 x0 x1 x2 x3 x4 x5) 1)
           (0, true)
           (1, false)))))))))
   (0, false))
noncomputable def a62 (x0 x1 : Nat) (x2 x3 : Int) (x4 : Nat) (x5 : List (List Int)) (p : Nat × Bool) : Res := firstT [((Nat.beq (p.1) 0), .bool (p.2), ⟨[⟨true, (some (.cells [wsl 1, .float .f32 x0, .float .f32 x1, .int .i8 x2, .int .i64 x3, .float .f32 x4]))⟩, ⟨true, (some (.tab sc0 x5))⟩], 2, []⟩)]
noncomputable def t62 (x0 x1 : Nat) (x2 x3 : Int) (x4 : Nat) (x5 : List (List Int)) : Res :=
 (cond (decide ((((x5.length : Nat) : Int) : Int) > 6))
 (some (.bool false, ⟨[⟨true, (some (.cells [wsl 1, .float .f32 x0, .float .f32 x1, .int .i8 x2, .int .i64 x3, .float .f32 x4]))⟩, ⟨true, (some (.tab sc0 x5))⟩], 2, []⟩))
 (cond (fgt .f32 x0 3262119936 || feq .f32 x0 3262119936)
  (cond (!(flt .f32 x0 1153138688 || feq .f32 x0 1153138688))
   (some (.bool false, ⟨[⟨true, (some (.cells [wsl 1, .float .f32 x0, .float .f32 x1, .int .i8 x2, .int .i64 x3, .float .f32 x4]))⟩, ⟨true, (some (.tab sc0 x5))⟩], 2, []⟩))
   (cond (!(r82 x1))
    (some (.bool false, ⟨[⟨true, (some (.cells [wsl 1, .float .f32 x0, .float .f32 x1, .int .i8 x2, .int .i64 x3, .float .f32 x4]))⟩, ⟨true, (some (.tab sc0 x5))⟩], 2, []⟩))
    (cond (!(r71 (IntKind.i64.wrap x2) 0 3))
     (some (.bool false, ⟨[⟨true, (some (.cells [wsl 1, .float .f32 x0, .float .f32 x1, .int .i8 x2, .int .i64 x3, .float .f32 x4]))⟩, ⟨true, (some (.tab sc0 x5))⟩], 2, []⟩))
     (cond (!(r71 x3 0 1000000))
      (some (.bool false, ⟨[⟨true, (some (.cells [wsl 1, .float .f32 x0, .float .f32 x1, .int .i8 x2, .int .i64 x3, .float .f32 x4]))⟩, ⟨true, (some (.tab sc0 x5))⟩], 2, []⟩))
      (cond (!(r100 x4))
       (some (.bool false, ⟨[⟨true, (some (.cells [wsl 1, .float .f32 x0, .float .f32 x1, .int .i8 x2, .int .i64 x3, .float .f32 x4]))⟩, ⟨true, (some (.tab sc0 x5))⟩], 2, []⟩))
       (cond (fgt .f32 x4 1065353216 || feq .f32 x4 1065353216)
        (some (.bool false, ⟨[⟨true, (some (.cells [wsl 1, .float .f32 x0, .float .f32 x1, .int .i8 x2, .int .i64 x3, .float .f32 x4]))⟩, ⟨true, (some (.tab sc0 x5))⟩], 2, []⟩))
        (cond (Nat.beq (r62l0 (1000 + x5.length) 0 x0 x1 x2 x3 x4 x5) 0)
         (some (.bool false, ⟨[⟨true, (some (.cells [wsl 1, .float .f32 x0, .float .f32 x1, .int .i8 x2, .int .i64 x3, .float .f32 x4]))⟩, ⟨true, (some (.tab sc0 x5))⟩], 2, []⟩))
         (cond (Nat.beq (r62l0 (1000 + x5.length) 0 x0 x1 x2 x3 x4 x5) 1)
          (some (.bool true, ⟨[⟨true, (some (.cells [wsl 1, .float .f32 x0, .float .f32 x1, .int .i8 x2, .int .i64 x3, .float .f32 x4]))⟩, ⟨true, (some (.tab sc0 x5))⟩], 2, []⟩))
          none))))))))
  (some (.bool false, ⟨[⟨true, (some (.cells [wsl 1, .float .f32 x0, .float .f32 x1, .int .i8 x2, .int .i64 x3, .float .f32 x4]))⟩, ⟨true, (some (.tab sc0 x5))⟩], 2, []⟩))))
set_option maxRecDepth 100000 in
set_option maxHeartbeats 4000000 in
theorem e62 (x0 x1 : Nat) (x2 x3 : Int) (x4 : Nat) (x5 : List (List Int)) : evFn Try.prog ext T11 L62_1 200 Try.f62 [.pointer (some ⟨0, 0, some 0⟩)] ⟨[⟨true, (some (.cells [wsl 1, .float .f32 x0, .float .f32 x1, .int .i8 x2, .int .i64 x3, .float .f32 x4]))⟩, ⟨true, (some (.tab sc0 x5))⟩], 2, []⟩ = firstT [((Nat.beq ((r62 x0 x1 x2 x3 x4 x5).1) 0), .bool ((r62 x0 x1 x2 x3 x4 x5).2), ⟨[⟨true, (some (.cells [wsl 1, .float .f32 x0, .float .f32 x1, .int .i8 x2, .int .i64 x3, .float .f32 x4]))⟩, ⟨true, (some (.tab sc0 x5))⟩], 2, []⟩)] :=
 (show evFn Try.prog ext T11 L62_1 200 Try.f62 [.pointer (some ⟨0, 0, some 0⟩)] ⟨[⟨true, (some (.cells [wsl 1, .float .f32 x0, .float .f32 x1, .int .i8 x2, .int .i64 x3, .float .f32 x4]))⟩, ⟨true, (some (.tab sc0 x5))⟩], 2, []⟩ = t62 x0 x1 x2 x3 x4 x5 from by kernel_rfl).trans
 (show t62 x0 x1 x2 x3 x4 x5 = a62 x0 x1 x2 x3 x4 x5 (r62 x0 x1 x2 x3 x4 x5) from (cond_app (a62 x0 x1 x2 x3 x4 x5) _ rfl (cond_app (a62 x0 x1 x2 x3 x4 x5) _ (cond_app (a62 x0 x1 x2 x3 x4 x5) _ rfl (cond_app (a62 x0 x1 x2 x3 x4 x5) _ rfl (cond_app (a62 x0 x1 x2 x3 x4 x5) _ rfl (cond_app (a62 x0 x1 x2 x3 x4 x5) _ rfl (cond_app (a62 x0 x1 x2 x3 x4 x5) _ rfl (cond_app (a62 x0 x1 x2 x3 x4 x5) _ rfl (cond_app (a62 x0 x1 x2 x3 x4 x5) _ rfl (cond_app (a62 x0 x1 x2 x3 x4 x5) _ rfl rfl)))))))) rfl)))
noncomputable def s62 (args : List Value) (s : St) : List (Bool × Value × St) :=
 match args, s.h with
 | [.pointer (some ⟨f0, f1, some f2⟩)], [⟨true, some (.cells [.iface f3 .nilIface, .float .f32 x0, .float .f32 x1, .int .i8 x2, .int .i64 x3, .float .f32 x4])⟩, ⟨true, some (.tab [.fl .f32, .fl .f32, .fl .f32, .fl .f32, .fl .f32, .fl .f32, .fl .f32, .fl .f32, .fl .f32, .fl .f32, .fl .f32, .fl .f32, .fl .f32, .fl .f32, .fl .f32, .fl .f32, .fl .f32, .fl .f32] x5)⟩] => if f0 = 0 ∧ f1 = 0 ∧ f2 = 0 ∧ f3 = 1 then [((Nat.beq ((r62 x0 x1 x2 x3 x4 x5).1) 0), .bool ((r62 x0 x1 x2 x3 x4 x5).2), ⟨[⟨true, (some (.cells [wsl 1, .float .f32 x0, .float .f32 x1, .int .i8 x2, .int .i64 x3, .float .f32 x4]))⟩, ⟨true, (some (.tab sc0 x5))⟩], 2, []⟩)] else T11 62 args s
 | _, _ => T11 62 args s
noncomputable def T12 : CallF := addF T11 62 s62
set_option maxRecDepth 100000 in
set_option maxHeartbeats 4000000 in
theorem ok12 : CfOk Try.prog T12 := by
  refine cfOk_add ok11 fun args s r s' h1 h2 h3 => ?_
  unfold s62 at h3; split at h3
  · rename_i h; split at h3
    · rename_i hc; obtain ⟨rfl, rfl, rfl, rfl⟩ := hc; exact callOk ok11 Try.func62 h1 h2 h lok62_1.body (e62 _ _ _ _ _ _) rfl h3
    · exact ok11 _ _ _ _ _ h1 h2 h3
  · exact ok11 _ _ _ _ _ h1 h2 h3

/-- spec.l02Copy -/
noncomputable def r67 (x0 x1 : Nat) (x2 x3 : Int) (x4 : Nat) (x5 : List (List Int)) : Nat × List (List Int) :=
 cond (Nat.ble ((0 + x5.length) * 73) 140737488355328)
  (0, (([] : List (List Int)) ++ x5))
  (1, [])
noncomputable def a67 (x0 x1 : Nat) (x2 x3 : Int) (x4 : Nat) (x5 : List (List Int)) (p : Nat × List (List Int)) : Res := firstT [((Nat.beq (p.1) 0), .agg #[wsl 2, .float .f32 x0, .float .f32 x1, .int .i8 x2, .int .i64 x3, .float .f32 x4], ⟨[⟨true, (some (.cells [wsl 1, .float .f32 x0, .float .f32 x1, .int .i8 x2, .int .i64 x3, .float .f32 x4]))⟩, ⟨true, (some (.tab sc0 x5))⟩, ⟨true, (some (.tab sc0 (p.2)))⟩], 2, []⟩)]
noncomputable def t67 (x0 x1 : Nat) (x2 x3 : Int) (x4 : Nat) (x5 : List (List Int)) : Res :=
 (cond (Nat.ble ((0 + x5.length) * 73) 140737488355328)
 (some (.agg #[wsl 2, .float .f32 x0, .float .f32 x1, .int .i8 x2, .int .i64 x3, .float .f32 x4], ⟨[⟨true, (some (.cells [wsl 1, .float .f32 x0, .float .f32 x1, .int .i8 x2, .int .i64 x3, .float .f32 x4]))⟩, ⟨true, (some (.tab sc0 x5))⟩, ⟨true, (some (.tab sc0 (([] : List (List Int)) ++ x5)))⟩], 2, []⟩))
 none)
set_option maxRecDepth 100000 in
set_option maxHeartbeats 4000000 in
theorem e67 (x0 x1 : Nat) (x2 x3 : Int) (x4 : Nat) (x5 : List (List Int)) : evFn Try.prog ext T12 noL 200 Try.f67 [.pointer (some ⟨0, 0, some 0⟩)] ⟨[⟨true, (some (.cells [wsl 1, .float .f32 x0, .float .f32 x1, .int .i8 x2, .int .i64 x3, .float .f32 x4]))⟩, ⟨true, (some (.tab sc0 x5))⟩], 2, []⟩ = firstT [((Nat.beq ((r67 x0 x1 x2 x3 x4 x5).1) 0), .agg #[wsl 2, .float .f32 x0, .float .f32 x1, .int .i8 x2, .int .i64 x3, .float .f32 x4], ⟨[⟨true, (some (.cells [wsl 1, .float .f32 x0, .float .f32 x1, .int .i8 x2, .int .i64 x3, .float .f32 x4]))⟩, ⟨true, (some (.tab sc0 x5))⟩, ⟨true, (some (.tab sc0 ((r67 x0 x1 x2 x3 x4 x5).2)))⟩], 2, []⟩)] :=
 (show evFn Try.prog ext T12 noL 200 Try.f67 [.pointer (some ⟨0, 0, some 0⟩)] ⟨[⟨true, (some (.cells [wsl 1, .float .f32 x0, .float .f32 x1, .int .i8 x2, .int .i64 x3, .float .f32 x4]))⟩, ⟨true, (some (.tab sc0 x5))⟩], 2, []⟩ = t67 x0 x1 x2 x3 x4 x5 from by kernel_rfl).trans
 (show t67 x0 x1 x2 x3 x4 x5 = a67 x0 x1 x2 x3 x4 x5 (r67 x0 x1 x2 x3 x4 x5) from (cond_app (a67 x0 x1 x2 x3 x4 x5) _ rfl rfl))
noncomputable def s67 (args : List Value) (s : St) : List (Bool × Value × St) :=
 match args, s.h with
 | [.pointer (some ⟨f0, f1, some f2⟩)], [⟨true, some (.cells [.iface f3 .nilIface, .float .f32 x0, .float .f32 x1, .int .i8 x2, .int .i64 x3, .float .f32 x4])⟩, ⟨true, some (.tab [.fl .f32, .fl .f32, .fl .f32, .fl .f32, .fl .f32, .fl .f32, .fl .f32, .fl .f32, .fl .f32, .fl .f32, .fl .f32, .fl .f32, .fl .f32, .fl .f32, .fl .f32, .fl .f32, .fl .f32, .fl .f32] x5)⟩] => if f0 = 0 ∧ f1 = 0 ∧ f2 = 0 ∧ f3 = 1 then [((Nat.beq ((r67 x0 x1 x2 x3 x4 x5).1) 0), .agg #[wsl 2, .float .f32 x0, .float .f32 x1, .int .i8 x2, .int .i64 x3, .float .f32 x4], ⟨[⟨true, (some (.cells [wsl 1, .float .f32 x0, .float .f32 x1, .int .i8 x2, .int .i64 x3, .float .f32 x4]))⟩, ⟨true, (some (.tab sc0 x5))⟩, ⟨true, (some (.tab sc0 ((r67 x0 x1 x2 x3 x4 x5).2)))⟩], 2, []⟩)] else T12 67 args s
 | _, _ => T12 67 args s
noncomputable def T13 : CallF := addF T12 67 s67
set_option maxRecDepth 100000 in
set_option maxHeartbeats 4000000 in
theorem ok13 : CfOk Try.prog T13 := by
  refine cfOk_add ok12 fun args s r s' h1 h2 h3 => ?_
  unfold s67 at h3; split at h3
  · rename_i h; split at h3
    · rename_i hc; obtain ⟨rfl, rfl, rfl, rfl⟩ := hc; exact callOk ok12 Try.func67 h1 h2 h (lfOkF_no _ _).body (e67 _ _ _ _ _ _) rfl h3
    · exact ok12 _ _ _ _ _ h1 h2 h3
  · exact ok12 _ _ _ _ _ h1 h2 h3

/-- spec.l01Sum -/
noncomputable def r58 (x0 : Nat) (x1 : List (List Int)) : Nat × Nat :=
 cond (Nat.blt x0 x1.length)
  (0, (fadd .f32 (fadd .f32 (fadd .f32 (fadd .f32 (fadd .f32 (Int.toNat ((x1.getD x0 []).getD 12 0)) (Int.toNat ((x1.getD x0 []).getD 13 0))) (Int.toNat ((x1.getD x0 []).getD 14 0))) (Int.toNat ((x1.getD x0 []).getD 15 0))) (Int.toNat ((x1.getD x0 []).getD 16 0))) (Int.toNat ((x1.getD x0 []).getD 17 0))))
  (1, 0)
noncomputable def a58 (x0 : Nat) (x1 : List (List Int)) (p : Nat × Nat) : Res := firstT [((Nat.beq (p.1) 0), .float .f32 (p.2), ⟨[⟨true, (some (.tab sc0 x1))⟩], 1, []⟩)]
noncomputable def t58 (x0 : Nat) (x1 : List (List Int)) : Res :=
 (cond (Nat.blt x0 x1.length)
 (some (.float .f32 (fadd .f32 (fadd .f32 (fadd .f32 (fadd .f32 (fadd .f32 (Int.toNat ((x1.getD x0 []).getD 12 0)) (Int.toNat ((x1.getD x0 []).getD 13 0))) (Int.toNat ((x1.getD x0 []).getD 14 0))) (Int.toNat ((x1.getD x0 []).getD 15 0))) (Int.toNat ((x1.getD x0 []).getD 16 0))) (Int.toNat ((x1.getD x0 []).getD 17 0))), ⟨[⟨true, (some (.tab sc0 x1))⟩], 1, []⟩))
 none)
noncomputable def w58 (x0 : Nat) (x1 : List (List Int)) : Res :=
 (cond (Nat.blt x0 x1.length)
 (cond (Nat.blt x0 x1.length)
  (cond (Nat.blt x0 x1.length)
   (cond (Nat.blt x0 x1.length)
    (cond (Nat.blt x0 x1.length)
     (cond (Nat.blt x0 x1.length)
      (some (.float .f32 (fadd .f32 (fadd .f32 (fadd .f32 (fadd .f32 (fadd .f32 (Int.toNat ((x1.getD x0 []).getD 12 0)) (Int.toNat ((x1.getD x0 []).getD 13 0))) (Int.toNat ((x1.getD x0 []).getD 14 0))) (Int.toNat ((x1.getD x0 []).getD 15 0))) (Int.toNat ((x1.getD x0 []).getD 16 0))) (Int.toNat ((x1.getD x0 []).getD 17 0))), ⟨[⟨true, (some (.tab sc0 x1))⟩], 1, []⟩))
      none)
     none)
    none)
   none)
  none)
 none)
set_option maxRecDepth 100000 in
set_option maxHeartbeats 4000000 in
theorem e58 (x0 : Nat) (x1 : List (List Int)) : evFn Try.prog ext T13 noL 200 Try.f58 [.pointer (some ⟨0, x0, some 12⟩)] ⟨[⟨true, (some (.tab sc0 x1))⟩], 1, []⟩ = firstT [((Nat.beq ((r58 x0 x1).1) 0), .float .f32 ((r58 x0 x1).2), ⟨[⟨true, (some (.tab sc0 x1))⟩], 1, []⟩)] :=
 (show evFn Try.prog ext T13 noL 200 Try.f58 [.pointer (some ⟨0, x0, some 12⟩)] ⟨[⟨true, (some (.tab sc0 x1))⟩], 1, []⟩ = w58 x0 x1 from by kernel_rfl).trans
 ((show w58 x0 x1 = t58 x0 x1 from (cond_cong _ (fun h0 => (cond_t h0 (cond_t h0 (cond_t h0 (cond_t h0 (cond_t h0 rfl)))))) (fun h0 => rfl))).trans
 (show t58 x0 x1 = a58 x0 x1 (r58 x0 x1) from (cond_app (a58 x0 x1) _ rfl rfl)))
noncomputable def s58 (args : List Value) (s : St) : List (Bool × Value × St) :=
 match args, s.h with
 | [.pointer (some ⟨f0, x0, some f1⟩)], [⟨true, some (.tab [.fl .f32, .fl .f32, .fl .f32, .fl .f32, .fl .f32, .fl .f32, .fl .f32, .fl .f32, .fl .f32, .fl .f32, .fl .f32, .fl .f32, .fl .f32, .fl .f32, .fl .f32, .fl .f32, .fl .f32, .fl .f32] x1)⟩] => if f0 = 0 ∧ f1 = 12 then [((Nat.beq ((r58 x0 x1).1) 0), .float .f32 ((r58 x0 x1).2), ⟨[⟨true, (some (.tab sc0 x1))⟩], 1, []⟩)] else T13 58 args s
 | _, _ => T13 58 args s
noncomputable def T14 : CallF := addF T13 58 s58
set_option maxRecDepth 100000 in
set_option maxHeartbeats 4000000 in
theorem ok14 : CfOk Try.prog T14 := by
  refine cfOk_add ok13 fun args s r s' h1 h2 h3 => ?_
  unfold s58 at h3; split at h3
  · rename_i h; split at h3
    · rename_i hc; obtain ⟨rfl, rfl⟩ := hc; exact callOk ok13 Try.func58 h1 h2 h (lfOkF_no _ _).body (e58 _ _) rfl h3
    · exact ok13 _ _ _ _ _ h1 h2 h3
  · exact ok13 _ _ _ _ _ h1 h2 h3
end Go.Proofs.Ytbmagccjcccnaaa
