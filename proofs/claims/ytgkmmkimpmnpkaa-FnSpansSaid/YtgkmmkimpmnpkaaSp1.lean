/- What the functions that the statements reach answer, part 1. -/
import Derived.Test.YtgkmmkimpmnpkaaA23
import Derived.KernelRfl
import Derived.Test.YtgkmmkimpmnpkaaChecked
namespace Go.Proofs.Ytgkmmkimpmnpkaa
open Go.Ab
set_option maxHeartbeats 4000000
set_option maxRecDepth 100000

def ext : FuncId → Option Ext := fun g => (cond (Nat.beq g 25) (some .f32bits) (cond (Nat.beq g 27) (some .f32from) (cond (Nat.beq g 53) (some .f64from) (cond (Nat.beq g 54) (some .f64bits) none))))
theorem ext_case {g : FuncId} {e : Ext} (h : ext g = some e) : g = 25 ∧ e = .f32bits ∨ g = 27 ∧ e = .f32from ∨ g = 53 ∧ e = .f64from ∨ g = 54 ∧ e = .f64bits := by
  unfold ext at h
  cases h0 : Nat.beq g 25 with
  | true => rw [h0] at h; cases h; exact .inl ⟨Nat.eq_of_beq_eq_true h0, rfl⟩
  | false =>
    rw [h0] at h
    cases h1 : Nat.beq g 27 with
    | true => rw [h1] at h; cases h; exact .inr (.inl ⟨Nat.eq_of_beq_eq_true h1, rfl⟩)
    | false =>
      rw [h1] at h
      cases h2 : Nat.beq g 53 with
      | true => rw [h2] at h; cases h; exact .inr (.inr (.inl ⟨Nat.eq_of_beq_eq_true h2, rfl⟩))
      | false =>
        rw [h2] at h
        cases h3 : Nat.beq g 54 with
        | true => rw [h3] at h; cases h; exact .inr (.inr (.inr (⟨Nat.eq_of_beq_eq_true h3, rfl⟩)))
        | false =>
          rw [h3] at h
          cases h
theorem extOk : ExtOk Try.prog ext := by
  intro g e h
  rcases ext_case h with ⟨rfl, rfl⟩ | ⟨rfl, rfl⟩ | ⟨rfl, rfl⟩ | ⟨rfl, rfl⟩
  · exact ⟨Try.f25, Try.func25, by kernel_rfl, by kernel_rfl, by kernel_rfl, by kernel_rfl⟩
  · exact ⟨Try.f27, Try.func27, by kernel_rfl, by kernel_rfl, by kernel_rfl, by kernel_rfl⟩
  · exact ⟨Try.f53, Try.func53, by kernel_rfl, by kernel_rfl, by kernel_rfl, by kernel_rfl⟩
  · exact ⟨Try.f54, Try.func54, by kernel_rfl, by kernel_rfl, by kernel_rfl, by kernel_rfl⟩
theorem mixed : Try.prog.follows .mixedOrders = true := by kernel_rfl
theorem callOk {cf : CallF} (hcf : CfOk Try.prog cf) {lf : LoopT} {N : Nat} {f : FuncId} {fn : Func} (hf : Try.prog.funcs[f]? = some fn) {args : List Value} {s : St} {l : List Blk} {n : Nat} {L : List (Bool × Value × St)} {r' : Value} {s' : St} (h1 : s.lo = s.h.length) (h2 : s.wr = []) (h : s.h = l) (hl : ∀ c, fn.body = some c → LfOk Try.prog lf (loopsOf c)) (he : evFn Try.prog ext cf lf N fn args ⟨l, n, []⟩ = firstT L) (hn : n = l.length) (h3 : firstT L = some (r', s')) : CallsOK Try.prog f args s r' s' :=
  call_ok extOk mixed hcf hf h1 h2 h hl he hn h3
def T0 : CallF := noF
theorem ok0 : CfOk Try.prog T0 := cfOk_no _

/-- laws.a2Long -/
noncomputable def r4 (x0 x1 : List (List Int)) : Bool :=
 cond (decide ((((x0.length : Nat) : Int) : Int) > 3000))
  (true)
  ((decide ((((x1.length : Nat) : Int) : Int) > 3000)))
noncomputable def a4 (x0 x1 : List (List Int)) (p : Bool) : Res := firstT [(true, .bool p, ⟨[⟨false, (some (.tab [.int .u8] x0))⟩, ⟨false, (some (.tab [.int .u8] x1))⟩], 2, []⟩)]
noncomputable def w4 (x0 x1 : List (List Int)) : Res :=
 (cond (decide ((((x0.length : Nat) : Int) : Int) > 3000))
 (a4 x0 x1 (true))
 (a4 x0 x1 ((decide ((((x1.length : Nat) : Int) : Int) > 3000)))))
set_option maxRecDepth 100000 in
set_option maxHeartbeats 4000000 in
theorem e4 (x0 x1 : List (List Int)) : evFn Try.prog ext T0 noL 200 Try.f4 [wsl 0, wsl 1] ⟨[⟨false, (some (.tab [.int .u8] x0))⟩, ⟨false, (some (.tab [.int .u8] x1))⟩], 2, []⟩ = firstT [(true, .bool (r4 x0 x1), ⟨[⟨false, (some (.tab [.int .u8] x0))⟩, ⟨false, (some (.tab [.int .u8] x1))⟩], 2, []⟩)] :=
 (show evFn Try.prog ext T0 noL 200 Try.f4 [wsl 0, wsl 1] ⟨[⟨false, (some (.tab [.int .u8] x0))⟩, ⟨false, (some (.tab [.int .u8] x1))⟩], 2, []⟩ = w4 x0 x1 from by kernel_rfl).trans
 (show w4 x0 x1 = a4 x0 x1 (r4 x0 x1) from by unfold w4 r4; exact (cond_app (a4 x0 x1) _ rfl rfl))
noncomputable def s4 (args : List Value) (s : St) : List (Bool × Value × St) :=
 match args, s.h with
 | [.iface f0 .nilIface, .iface f1 .nilIface], [⟨false, some (.tab [.int .u8] x0)⟩, ⟨false, some (.tab [.int .u8] x1)⟩] => if f0 = 0 ∧ f1 = 1 then [(true, .bool (r4 x0 x1), ⟨[⟨false, (some (.tab [.int .u8] x0))⟩, ⟨false, (some (.tab [.int .u8] x1))⟩], 2, []⟩)] else T0 4 args s
 | _, _ => T0 4 args s
noncomputable def T1 : CallF := addF T0 4 s4
set_option maxRecDepth 100000 in
set_option maxHeartbeats 4000000 in
theorem ok1 : CfOk Try.prog T1 := by
  refine cfOk_add ok0 fun args s r s' h1 h2 h3 => ?_
  unfold s4 at h3; split at h3
  · rename_i h; split at h3
    · rename_i hc; obtain ⟨rfl, rfl⟩ := hc; exact callOk ok0 Try.func4 h1 h2 h (lfOkF_no _ _).body (e4 _ _) rfl h3
    · exact ok0 _ _ _ _ _ h1 h2 h3
  · exact ok0 _ _ _ _ _ h1 h2 h3

/-- spec.l00From -/
noncomputable def r24 (x0 : List (List Int)) : Int × Int :=
 (0, 0)
noncomputable def a24 (x0 : List (List Int)) (p : Int × Int) : Res := firstT [(true, .pointer (some ⟨1, 0, some 0⟩), ⟨[⟨false, (some (.tab [.int .u8] x0))⟩, ⟨true, (some (.cells [wsl 0, .int .i64 (p.1), .int .u64 (p.2)]))⟩], 1, []⟩)]
noncomputable def w24 (x0 : List (List Int)) : Res :=
 (a24 x0 (0, 0))
set_option maxRecDepth 100000 in
set_option maxHeartbeats 4000000 in
theorem e24 (x0 : List (List Int)) : evFn Try.prog ext T1 noL 200 Try.f24 [wsl 0] ⟨[⟨false, (some (.tab [.int .u8] x0))⟩], 1, []⟩ = firstT [(true, .pointer (some ⟨1, 0, some 0⟩), ⟨[⟨false, (some (.tab [.int .u8] x0))⟩, ⟨true, (some (.cells [wsl 0, .int .i64 ((r24 x0).1), .int .u64 ((r24 x0).2)]))⟩], 1, []⟩)] :=
 (show evFn Try.prog ext T1 noL 200 Try.f24 [wsl 0] ⟨[⟨false, (some (.tab [.int .u8] x0))⟩], 1, []⟩ = w24 x0 from by kernel_rfl).trans
 (show w24 x0 = a24 x0 (r24 x0) from by unfold w24 r24; exact rfl)
noncomputable def s24 (args : List Value) (s : St) : List (Bool × Value × St) :=
 match args, s.h with
 | [.iface f0 .nilIface], [⟨false, some (.tab [.int .u8] x0)⟩] => if f0 = 0 then [(true, .pointer (some ⟨1, 0, some 0⟩), ⟨[⟨false, (some (.tab [.int .u8] x0))⟩, ⟨true, (some (.cells [wsl 0, .int .i64 ((r24 x0).1), .int .u64 ((r24 x0).2)]))⟩], 1, []⟩)] else T1 24 args s
 | _, _ => T1 24 args s
noncomputable def T2 : CallF := addF T1 24 s24
set_option maxRecDepth 100000 in
set_option maxHeartbeats 4000000 in
theorem ok2 : CfOk Try.prog T2 := by
  refine cfOk_add ok1 fun args s r s' h1 h2 h3 => ?_
  unfold s24 at h3; split at h3
  · rename_i h; split at h3
    · rename_i hc; obtain ⟨rfl⟩ := hc; exact callOk ok1 Try.func24 h1 h2 h (lfOkF_no _ _).body (e24 _) rfl h3
    · exact ok1 _ _ _ _ _ h1 h2 h3
  · exact ok1 _ _ _ _ _ h1 h2 h3

/-- (*spec.l00Src).next -/
noncomputable def r47 (x0 x1 : Int) (x2 : List (List Int)) : Nat × Int × Int × Int :=
 cond (decide ((x0 : Int) < ((x2.length : Nat) : Int)))
  (cond ((decide ((0 : Int) ≤ x0)) && (Nat.blt (Int.toNat x0) x2.length))
   (cond (decide (((IntKind.i64.wrap (x0 + 1)) : Int) ≤ ((x2.length : Nat) : Int)))
    (0, (IntKind.i64.wrap ((x2.getD (Int.toNat x0) []).getD 0 0)), (IntKind.i64.wrap (x0 + 1)), (IntKind.u64.wrap ((IntKind.u64.wrap ((IntKind.u64.wrap (x1 * 6364136223846793005)) + (IntKind.u64.wrap (IntKind.i64.wrap ((x2.getD (Int.toNat x0) []).getD 0 0))))) + 1442695040888963407)))
    (0, (IntKind.i64.wrap (bits .and .u64 (Int.fdiv (IntKind.u64.wrap ((IntKind.u64.wrap ((IntKind.u64.wrap (x1 * 6364136223846793005)) + (IntKind.u64.wrap (IntKind.i64.wrap ((x2.getD (Int.toNat x0) []).getD 0 0))))) + 1442695040888963407)) (2 ^ (min (40 : Int).toNat (IntKind.bits .u64)))) 255)), (IntKind.i64.wrap (x0 + 1)), (IntKind.u64.wrap ((IntKind.u64.wrap ((IntKind.u64.wrap (x1 * 6364136223846793005)) + (IntKind.u64.wrap (IntKind.i64.wrap ((x2.getD (Int.toNat x0) []).getD 0 0))))) + 1442695040888963407))))
   (1, 0, 0, 0))
  (cond (decide (((IntKind.i64.wrap (x0 + 1)) : Int) ≤ ((x2.length : Nat) : Int)))
   (0, 0, (IntKind.i64.wrap (x0 + 1)), (IntKind.u64.wrap ((IntKind.u64.wrap ((IntKind.u64.wrap (x1 * 6364136223846793005)) + 0)) + 1442695040888963407)))
   (0, (IntKind.i64.wrap (bits .and .u64 (Int.fdiv (IntKind.u64.wrap ((IntKind.u64.wrap ((IntKind.u64.wrap (x1 * 6364136223846793005)) + 0)) + 1442695040888963407)) (2 ^ (min (40 : Int).toNat (IntKind.bits .u64)))) 255)), (IntKind.i64.wrap (x0 + 1)), (IntKind.u64.wrap ((IntKind.u64.wrap ((IntKind.u64.wrap (x1 * 6364136223846793005)) + 0)) + 1442695040888963407))))
noncomputable def a47 (x0 x1 : Int) (x2 : List (List Int)) (p : Nat × Int × Int × Int) : Res := firstT [((Nat.beq (p.1) 0), .int .i64 (p.2.1), ⟨[⟨true, (some (.cells [wsl 1, .int .i64 (p.2.2.1), .int .u64 (p.2.2.2)]))⟩, ⟨false, (some (.tab [.int .u8] x2))⟩], 2, [0]⟩)]
noncomputable def w47 (x0 x1 : Int) (x2 : List (List Int)) : Res :=
 (cond (decide ((x0 : Int) < ((x2.length : Nat) : Int)))
 (cond ((decide ((0 : Int) ≤ x0)) && (Nat.blt (Int.toNat x0) x2.length))
  (cond (Nat.blt (Int.toNat x0) x2.length)
   (cond (decide (((IntKind.i64.wrap (x0 + 1)) : Int) ≤ ((x2.length : Nat) : Int)))
    (a47 x0 x1 x2 (0, (IntKind.i64.wrap ((x2.getD (Int.toNat x0) []).getD 0 0)), (IntKind.i64.wrap (x0 + 1)), (IntKind.u64.wrap ((IntKind.u64.wrap ((IntKind.u64.wrap (x1 * 6364136223846793005)) + (IntKind.u64.wrap (IntKind.i64.wrap ((x2.getD (Int.toNat x0) []).getD 0 0))))) + 1442695040888963407))))
    (a47 x0 x1 x2 (0, (IntKind.i64.wrap (bits .and .u64 (Int.fdiv (IntKind.u64.wrap ((IntKind.u64.wrap ((IntKind.u64.wrap (x1 * 6364136223846793005)) + (IntKind.u64.wrap (IntKind.i64.wrap ((x2.getD (Int.toNat x0) []).getD 0 0))))) + 1442695040888963407)) (2 ^ (min (40 : Int).toNat (IntKind.bits .u64)))) 255)), (IntKind.i64.wrap (x0 + 1)), (IntKind.u64.wrap ((IntKind.u64.wrap ((IntKind.u64.wrap (x1 * 6364136223846793005)) + (IntKind.u64.wrap (IntKind.i64.wrap ((x2.getD (Int.toNat x0) []).getD 0 0))))) + 1442695040888963407)))))
   none)
  none)
 (cond (decide (((IntKind.i64.wrap (x0 + 1)) : Int) ≤ ((x2.length : Nat) : Int)))
  (a47 x0 x1 x2 (0, 0, (IntKind.i64.wrap (x0 + 1)), (IntKind.u64.wrap ((IntKind.u64.wrap ((IntKind.u64.wrap (x1 * 6364136223846793005)) + 0)) + 1442695040888963407))))
  (a47 x0 x1 x2 (0, (IntKind.i64.wrap (bits .and .u64 (Int.fdiv (IntKind.u64.wrap ((IntKind.u64.wrap ((IntKind.u64.wrap (x1 * 6364136223846793005)) + 0)) + 1442695040888963407)) (2 ^ (min (40 : Int).toNat (IntKind.bits .u64)))) 255)), (IntKind.i64.wrap (x0 + 1)), (IntKind.u64.wrap ((IntKind.u64.wrap ((IntKind.u64.wrap (x1 * 6364136223846793005)) + 0)) + 1442695040888963407))))))
set_option maxRecDepth 100000 in
set_option maxHeartbeats 4000000 in
theorem e47 (x0 x1 : Int) (x2 : List (List Int)) : evFn Try.prog ext T2 noL 200 Try.f47 [.pointer (some ⟨0, 0, some 0⟩)] ⟨[⟨true, (some (.cells [wsl 1, .int .i64 x0, .int .u64 x1]))⟩, ⟨false, (some (.tab [.int .u8] x2))⟩], 2, []⟩ = firstT [((Nat.beq ((r47 x0 x1 x2).1) 0), .int .i64 ((r47 x0 x1 x2).2.1), ⟨[⟨true, (some (.cells [wsl 1, .int .i64 ((r47 x0 x1 x2).2.2.1), .int .u64 ((r47 x0 x1 x2).2.2.2)]))⟩, ⟨false, (some (.tab [.int .u8] x2))⟩], 2, [0]⟩)] :=
 (show evFn Try.prog ext T2 noL 200 Try.f47 [.pointer (some ⟨0, 0, some 0⟩)] ⟨[⟨true, (some (.cells [wsl 1, .int .i64 x0, .int .u64 x1]))⟩, ⟨false, (some (.tab [.int .u8] x2))⟩], 2, []⟩ = w47 x0 x1 x2 from by kernel_rfl).trans
 (show w47 x0 x1 x2 = a47 x0 x1 x2 (r47 x0 x1 x2) from by unfold w47 r47; exact (cond_both (a47 x0 x1 x2) _ (fun h0 => (cond_both (a47 x0 x1 x2) _ (fun h1 => (cond_t (ev_and2 h1) (cond_app (a47 x0 x1 x2) _ rfl rfl))) (fun h1 => rfl))) (fun h0 => (cond_app (a47 x0 x1 x2) _ rfl rfl))))
noncomputable def s47 (args : List Value) (s : St) : List (Bool × Value × St) :=
 match args, s.h with
 | [.pointer (some ⟨f0, f1, some f2⟩)], [⟨true, some (.cells [.iface f3 .nilIface, .int .i64 x0, .int .u64 x1])⟩, ⟨false, some (.tab [.int .u8] x2)⟩] => if f0 = 0 ∧ f1 = 0 ∧ f2 = 0 ∧ f3 = 1 then [((Nat.beq ((r47 x0 x1 x2).1) 0), .int .i64 ((r47 x0 x1 x2).2.1), ⟨[⟨true, (some (.cells [wsl 1, .int .i64 ((r47 x0 x1 x2).2.2.1), .int .u64 ((r47 x0 x1 x2).2.2.2)]))⟩, ⟨false, (some (.tab [.int .u8] x2))⟩], 2, [0]⟩)] else T2 47 args s
 | _, _ => T2 47 args s
noncomputable def T3 : CallF := addF T2 47 s47
set_option maxRecDepth 100000 in
set_option maxHeartbeats 4000000 in
theorem ok3 : CfOk Try.prog T3 := by
  refine cfOk_add ok2 fun args s r s' h1 h2 h3 => ?_
  unfold s47 at h3; split at h3
  · rename_i h; split at h3
    · rename_i hc; obtain ⟨rfl, rfl, rfl, rfl⟩ := hc; exact callOk ok2 Try.func47 h1 h2 h (lfOkF_no _ _).body (e47 _ _ _) rfl h3
    · exact ok2 _ _ _ _ _ h1 h2 h3
  · exact ok2 _ _ _ _ _ h1 h2 h3

/-- (*spec.l00Src).pick -/
noncomputable def r30 (x0 x1 : Int) (x2 : List (List Int)) : Nat × Int × Int × Int :=
 cond (Nat.beq ((r47 x0 x1 x2).1) 0)
  (0, (Int.tmod ((r47 x0 x1 x2).2.1) 16), ((r47 x0 x1 x2).2.2.1), ((r47 x0 x1 x2).2.2.2))
  (1, 0, 0, 0)
noncomputable def a30 (x0 x1 : Int) (x2 : List (List Int)) (p : Nat × Int × Int × Int) : Res := firstT [((Nat.beq (p.1) 0), .int .i64 (p.2.1), ⟨[⟨true, (some (.cells [wsl 1, .int .i64 (p.2.2.1), .int .u64 (p.2.2.2)]))⟩, ⟨false, (some (.tab [.int .u8] x2))⟩], 2, [0]⟩)]
noncomputable def w30 (x0 x1 : Int) (x2 : List (List Int)) : Res :=
 (cond (Nat.beq ((r47 x0 x1 x2).1) 0)
 (a30 x0 x1 x2 (0, (Int.tmod ((r47 x0 x1 x2).2.1) 16), ((r47 x0 x1 x2).2.2.1), ((r47 x0 x1 x2).2.2.2)))
 none)
set_option maxRecDepth 100000 in
set_option maxHeartbeats 4000000 in
theorem e30 (x0 x1 : Int) (x2 : List (List Int)) : evFn Try.prog ext T3 noL 200 Try.f30 [.pointer (some ⟨0, 0, some 0⟩), .int .i64 16] ⟨[⟨true, (some (.cells [wsl 1, .int .i64 x0, .int .u64 x1]))⟩, ⟨false, (some (.tab [.int .u8] x2))⟩], 2, []⟩ = firstT [((Nat.beq ((r30 x0 x1 x2).1) 0), .int .i64 ((r30 x0 x1 x2).2.1), ⟨[⟨true, (some (.cells [wsl 1, .int .i64 ((r30 x0 x1 x2).2.2.1), .int .u64 ((r30 x0 x1 x2).2.2.2)]))⟩, ⟨false, (some (.tab [.int .u8] x2))⟩], 2, [0]⟩)] :=
 (show evFn Try.prog ext T3 noL 200 Try.f30 [.pointer (some ⟨0, 0, some 0⟩), .int .i64 16] ⟨[⟨true, (some (.cells [wsl 1, .int .i64 x0, .int .u64 x1]))⟩, ⟨false, (some (.tab [.int .u8] x2))⟩], 2, []⟩ = w30 x0 x1 x2 from by kernel_rfl).trans
 (show w30 x0 x1 x2 = a30 x0 x1 x2 (r30 x0 x1 x2) from by unfold w30 r30; exact (cond_app (a30 x0 x1 x2) _ rfl rfl))
noncomputable def s30 (args : List Value) (s : St) : List (Bool × Value × St) :=
 match args, s.h with
 | [.pointer (some ⟨f0, f1, some f2⟩), .int .i64 f3], [⟨true, some (.cells [.iface f4 .nilIface, .int .i64 x0, .int .u64 x1])⟩, ⟨false, some (.tab [.int .u8] x2)⟩] => if f0 = 0 ∧ f1 = 0 ∧ f2 = 0 ∧ f3 = 16 ∧ f4 = 1 then [((Nat.beq ((r30 x0 x1 x2).1) 0), .int .i64 ((r30 x0 x1 x2).2.1), ⟨[⟨true, (some (.cells [wsl 1, .int .i64 ((r30 x0 x1 x2).2.2.1), .int .u64 ((r30 x0 x1 x2).2.2.2)]))⟩, ⟨false, (some (.tab [.int .u8] x2))⟩], 2, [0]⟩)] else T3 30 args s
 | _, _ => T3 30 args s
noncomputable def T4 : CallF := addF T3 30 s30
set_option maxRecDepth 100000 in
set_option maxHeartbeats 4000000 in
theorem ok4 : CfOk Try.prog T4 := by
  refine cfOk_add ok3 fun args s r s' h1 h2 h3 => ?_
  unfold s30 at h3; split at h3
  · rename_i h; split at h3
    · rename_i hc; obtain ⟨rfl, rfl, rfl, rfl, rfl⟩ := hc; exact callOk ok3 Try.func30 h1 h2 h (lfOkF_no _ _).body (e30 _ _ _) rfl h3
    · exact ok3 _ _ _ _ _ h1 h2 h3
  · exact ok3 _ _ _ _ _ h1 h2 h3

/-- math.NaN -/
noncomputable def r43 : Unit :=
 ()
noncomputable def a43 (p : Unit) : Res := firstT [(true, .float .f64 9221120237041090561, st0)]
noncomputable def w43 : Res :=
 (a43 ())
set_option maxRecDepth 100000 in
set_option maxHeartbeats 4000000 in
theorem e43 : evFn Try.prog ext T4 noL 200 Try.f43 [] st0 = firstT [(true, .float .f64 9221120237041090561, st0)] :=
 (show evFn Try.prog ext T4 noL 200 Try.f43 [] st0 = w43 from by kernel_rfl).trans
 (show w43 = a43 r43 from by unfold w43 r43; exact rfl)
noncomputable def s43 (args : List Value) (s : St) : List (Bool × Value × St) :=
 match args, s.h with
 | [], [] => [(true, .float .f64 9221120237041090561, st0)]
 | _, _ => T4 43 args s
noncomputable def T5 : CallF := addF T4 43 s43
set_option maxRecDepth 100000 in
set_option maxHeartbeats 4000000 in
theorem ok5 : CfOk Try.prog T5 := by
  refine cfOk_add ok4 fun args s r s' h1 h2 h3 => ?_
  unfold s43 at h3; split at h3
  · rename_i h; exact callOk ok4 Try.func43 h1 h2 h (lfOkF_no _ _).body (e43) rfl h3
  · exact ok4 _ _ _ _ _ h1 h2 h3

/-- math.Inf -/
noncomputable def r44 (x0 : Int) : Nat :=
 cond (decide ((x0 : Int) ≥ 0))
  (9218868437227405312)
  (18442240474082181120)
noncomputable def a44 (x0 : Int) (p : Nat) : Res := firstT [(true, .float .f64 p, st0)]
noncomputable def w44 (x0 : Int) : Res :=
 (cond (decide ((x0 : Int) ≥ 0))
 (a44 x0 (9218868437227405312))
 (a44 x0 (18442240474082181120)))
set_option maxRecDepth 100000 in
set_option maxHeartbeats 4000000 in
theorem e44 (x0 : Int) : evFn Try.prog ext T5 noL 200 Try.f44 [.int .i64 x0] st0 = firstT [(true, .float .f64 (r44 x0), st0)] :=
 (show evFn Try.prog ext T5 noL 200 Try.f44 [.int .i64 x0] st0 = w44 x0 from by kernel_rfl).trans
 (show w44 x0 = a44 x0 (r44 x0) from by unfold w44 r44; exact (cond_app (a44 x0) _ rfl rfl))
noncomputable def s44 (args : List Value) (s : St) : List (Bool × Value × St) :=
 match args, s.h with
 | [.int .i64 x0], [] => [(true, .float .f64 (r44 x0), st0)]
 | _, _ => T5 44 args s
noncomputable def T6 : CallF := addF T5 44 s44
set_option maxRecDepth 100000 in
set_option maxHeartbeats 4000000 in
theorem ok6 : CfOk Try.prog T6 := by
  refine cfOk_add ok5 fun args s r s' h1 h2 h3 => ?_
  unfold s44 at h3; split at h3
  · rename_i h; exact callOk ok5 Try.func44 h1 h2 h (lfOkF_no _ _).body (e44 _) rfl h3
  · exact ok5 _ _ _ _ _ h1 h2 h3

/-- (*spec.l00Src).pick -/
noncomputable def r30b (x0 x1 : Int) (x2 : List (List Int)) : Nat × Int × Int × Int :=
 cond (Nat.beq ((r47 x0 x1 x2).1) 0)
  (cond (Nat.beq ((r47 ((r47 x0 x1 x2).2.2.1) ((r47 x0 x1 x2).2.2.2) x2).1) 0)
   (0, (Int.tmod (IntKind.i64.wrap ((IntKind.i64.wrap (((r47 x0 x1 x2).2.1) * 256)) + ((r47 ((r47 x0 x1 x2).2.2.1) ((r47 x0 x1 x2).2.2.2) x2).2.1))) 16777220), ((r47 ((r47 x0 x1 x2).2.2.1) ((r47 x0 x1 x2).2.2.2) x2).2.2.1), ((r47 ((r47 x0 x1 x2).2.2.1) ((r47 x0 x1 x2).2.2.2) x2).2.2.2))
   (1, 0, 0, 0))
  (1, 0, 0, 0)
noncomputable def a30b (x0 x1 : Int) (x2 : List (List Int)) (p : Nat × Int × Int × Int) : Res := firstT [((Nat.beq (p.1) 0), .int .i64 (p.2.1), ⟨[⟨true, (some (.cells [wsl 1, .int .i64 (p.2.2.1), .int .u64 (p.2.2.2)]))⟩, ⟨false, (some (.tab [.int .u8] x2))⟩], 2, [0]⟩)]
noncomputable def w30b (x0 x1 : Int) (x2 : List (List Int)) : Res :=
 (cond (Nat.beq ((r47 x0 x1 x2).1) 0)
 (cond (Nat.beq ((r47 ((r47 x0 x1 x2).2.2.1) ((r47 x0 x1 x2).2.2.2) x2).1) 0)
  (a30b x0 x1 x2 (0, (Int.tmod (IntKind.i64.wrap ((IntKind.i64.wrap (((r47 x0 x1 x2).2.1) * 256)) + ((r47 ((r47 x0 x1 x2).2.2.1) ((r47 x0 x1 x2).2.2.2) x2).2.1))) 16777220), ((r47 ((r47 x0 x1 x2).2.2.1) ((r47 x0 x1 x2).2.2.2) x2).2.2.1), ((r47 ((r47 x0 x1 x2).2.2.1) ((r47 x0 x1 x2).2.2.2) x2).2.2.2)))
  none)
 none)
set_option maxRecDepth 100000 in
set_option maxHeartbeats 4000000 in
theorem e30b (x0 x1 : Int) (x2 : List (List Int)) : evFn Try.prog ext T6 noL 200 Try.f30 [.pointer (some ⟨0, 0, some 0⟩), .int .i64 16777220] ⟨[⟨true, (some (.cells [wsl 1, .int .i64 x0, .int .u64 x1]))⟩, ⟨false, (some (.tab [.int .u8] x2))⟩], 2, []⟩ = firstT [((Nat.beq ((r30b x0 x1 x2).1) 0), .int .i64 ((r30b x0 x1 x2).2.1), ⟨[⟨true, (some (.cells [wsl 1, .int .i64 ((r30b x0 x1 x2).2.2.1), .int .u64 ((r30b x0 x1 x2).2.2.2)]))⟩, ⟨false, (some (.tab [.int .u8] x2))⟩], 2, [0]⟩)] :=
 (show evFn Try.prog ext T6 noL 200 Try.f30 [.pointer (some ⟨0, 0, some 0⟩), .int .i64 16777220] ⟨[⟨true, (some (.cells [wsl 1, .int .i64 x0, .int .u64 x1]))⟩, ⟨false, (some (.tab [.int .u8] x2))⟩], 2, []⟩ = w30b x0 x1 x2 from by kernel_rfl).trans
 (show w30b x0 x1 x2 = a30b x0 x1 x2 (r30b x0 x1 x2) from by unfold w30b r30b; exact (cond_app (a30b x0 x1 x2) _ (cond_app (a30b x0 x1 x2) _ rfl rfl) rfl))
noncomputable def s30b (args : List Value) (s : St) : List (Bool × Value × St) :=
 match args, s.h with
 | [.pointer (some ⟨f0, f1, some f2⟩), .int .i64 f3], [⟨true, some (.cells [.iface f4 .nilIface, .int .i64 x0, .int .u64 x1])⟩, ⟨false, some (.tab [.int .u8] x2)⟩] => if f0 = 0 ∧ f1 = 0 ∧ f2 = 0 ∧ f3 = 16777220 ∧ f4 = 1 then [((Nat.beq ((r30b x0 x1 x2).1) 0), .int .i64 ((r30b x0 x1 x2).2.1), ⟨[⟨true, (some (.cells [wsl 1, .int .i64 ((r30b x0 x1 x2).2.2.1), .int .u64 ((r30b x0 x1 x2).2.2.2)]))⟩, ⟨false, (some (.tab [.int .u8] x2))⟩], 2, [0]⟩)] else T6 30 args s
 | _, _ => T6 30 args s
noncomputable def T7 : CallF := addF T6 30 s30b
set_option maxRecDepth 100000 in
set_option maxHeartbeats 4000000 in
theorem ok7 : CfOk Try.prog T7 := by
  refine cfOk_add ok6 fun args s r s' h1 h2 h3 => ?_
  unfold s30b at h3; split at h3
  · rename_i h; split at h3
    · rename_i hc; obtain ⟨rfl, rfl, rfl, rfl, rfl⟩ := hc; exact callOk ok6 Try.func30 h1 h2 h (lfOkF_no _ _).body (e30b _ _ _) rfl h3
    · exact ok6 _ _ _ _ _ h1 h2 h3
  · exact ok6 _ _ _ _ _ h1 h2 h3

/-- (*spec.l00Src).pick -/
noncomputable def r30c (x0 x1 : Int) (x2 : List (List Int)) : Nat × Int × Int × Int :=
 cond (Nat.beq ((r47 x0 x1 x2).1) 0)
  (cond (Nat.beq ((r47 ((r47 x0 x1 x2).2.2.1) ((r47 x0 x1 x2).2.2.2) x2).1) 0)
   (0, (Int.tmod (IntKind.i64.wrap ((IntKind.i64.wrap (((r47 x0 x1 x2).2.1) * 256)) + ((r47 ((r47 x0 x1 x2).2.2.1) ((r47 x0 x1 x2).2.2.2) x2).2.1))) 1073741824), ((r47 ((r47 x0 x1 x2).2.2.1) ((r47 x0 x1 x2).2.2.2) x2).2.2.1), ((r47 ((r47 x0 x1 x2).2.2.1) ((r47 x0 x1 x2).2.2.2) x2).2.2.2))
   (1, 0, 0, 0))
  (1, 0, 0, 0)
noncomputable def a30c (x0 x1 : Int) (x2 : List (List Int)) (p : Nat × Int × Int × Int) : Res := firstT [((Nat.beq (p.1) 0), .int .i64 (p.2.1), ⟨[⟨true, (some (.cells [wsl 1, .int .i64 (p.2.2.1), .int .u64 (p.2.2.2)]))⟩, ⟨false, (some (.tab [.int .u8] x2))⟩], 2, [0]⟩)]
noncomputable def w30c (x0 x1 : Int) (x2 : List (List Int)) : Res :=
 (cond (Nat.beq ((r47 x0 x1 x2).1) 0)
 (cond (Nat.beq ((r47 ((r47 x0 x1 x2).2.2.1) ((r47 x0 x1 x2).2.2.2) x2).1) 0)
  (a30c x0 x1 x2 (0, (Int.tmod (IntKind.i64.wrap ((IntKind.i64.wrap (((r47 x0 x1 x2).2.1) * 256)) + ((r47 ((r47 x0 x1 x2).2.2.1) ((r47 x0 x1 x2).2.2.2) x2).2.1))) 1073741824), ((r47 ((r47 x0 x1 x2).2.2.1) ((r47 x0 x1 x2).2.2.2) x2).2.2.1), ((r47 ((r47 x0 x1 x2).2.2.1) ((r47 x0 x1 x2).2.2.2) x2).2.2.2)))
  none)
 none)
set_option maxRecDepth 100000 in
set_option maxHeartbeats 4000000 in
theorem e30c (x0 x1 : Int) (x2 : List (List Int)) : evFn Try.prog ext T7 noL 200 Try.f30 [.pointer (some ⟨0, 0, some 0⟩), .int .i64 1073741824] ⟨[⟨true, (some (.cells [wsl 1, .int .i64 x0, .int .u64 x1]))⟩, ⟨false, (some (.tab [.int .u8] x2))⟩], 2, []⟩ = firstT [((Nat.beq ((r30c x0 x1 x2).1) 0), .int .i64 ((r30c x0 x1 x2).2.1), ⟨[⟨true, (some (.cells [wsl 1, .int .i64 ((r30c x0 x1 x2).2.2.1), .int .u64 ((r30c x0 x1 x2).2.2.2)]))⟩, ⟨false, (some (.tab [.int .u8] x2))⟩], 2, [0]⟩)] :=
 (show evFn Try.prog ext T7 noL 200 Try.f30 [.pointer (some ⟨0, 0, some 0⟩), .int .i64 1073741824] ⟨[⟨true, (some (.cells [wsl 1, .int .i64 x0, .int .u64 x1]))⟩, ⟨false, (some (.tab [.int .u8] x2))⟩], 2, []⟩ = w30c x0 x1 x2 from by kernel_rfl).trans
 (show w30c x0 x1 x2 = a30c x0 x1 x2 (r30c x0 x1 x2) from by unfold w30c r30c; exact (cond_app (a30c x0 x1 x2) _ (cond_app (a30c x0 x1 x2) _ rfl rfl) rfl))
noncomputable def s30c (args : List Value) (s : St) : List (Bool × Value × St) :=
 match args, s.h with
 | [.pointer (some ⟨f0, f1, some f2⟩), .int .i64 f3], [⟨true, some (.cells [.iface f4 .nilIface, .int .i64 x0, .int .u64 x1])⟩, ⟨false, some (.tab [.int .u8] x2)⟩] => if f0 = 0 ∧ f1 = 0 ∧ f2 = 0 ∧ f3 = 1073741824 ∧ f4 = 1 then [((Nat.beq ((r30c x0 x1 x2).1) 0), .int .i64 ((r30c x0 x1 x2).2.1), ⟨[⟨true, (some (.cells [wsl 1, .int .i64 ((r30c x0 x1 x2).2.2.1), .int .u64 ((r30c x0 x1 x2).2.2.2)]))⟩, ⟨false, (some (.tab [.int .u8] x2))⟩], 2, [0]⟩)] else T7 30 args s
 | _, _ => T7 30 args s
noncomputable def T8 : CallF := addF T7 30 s30c
set_option maxRecDepth 100000 in
set_option maxHeartbeats 4000000 in
theorem ok8 : CfOk Try.prog T8 := by
  refine cfOk_add ok7 fun args s r s' h1 h2 h3 => ?_
  unfold s30c at h3; split at h3
  · rename_i h; split at h3
    · rename_i hc; obtain ⟨rfl, rfl, rfl, rfl, rfl⟩ := hc; exact callOk ok7 Try.func30 h1 h2 h (lfOkF_no _ _).body (e30c _ _ _) rfl h3
    · exact ok7 _ _ _ _ _ h1 h2 h3
  · exact ok7 _ _ _ _ _ h1 h2 h3

/-- (*spec.l00Src).pick -/
noncomputable def r30d (x0 x1 : Int) (x2 : List (List Int)) : Nat × Int × Int × Int :=
 cond (Nat.beq ((r47 x0 x1 x2).1) 0)
  (0, (Int.tmod ((r47 x0 x1 x2).2.1) 4), ((r47 x0 x1 x2).2.2.1), ((r47 x0 x1 x2).2.2.2))
  (1, 0, 0, 0)
noncomputable def a30d (x0 x1 : Int) (x2 : List (List Int)) (p : Nat × Int × Int × Int) : Res := firstT [((Nat.beq (p.1) 0), .int .i64 (p.2.1), ⟨[⟨true, (some (.cells [wsl 1, .int .i64 (p.2.2.1), .int .u64 (p.2.2.2)]))⟩, ⟨false, (some (.tab [.int .u8] x2))⟩], 2, [0]⟩)]
noncomputable def w30d (x0 x1 : Int) (x2 : List (List Int)) : Res :=
 (cond (Nat.beq ((r47 x0 x1 x2).1) 0)
 (a30d x0 x1 x2 (0, (Int.tmod ((r47 x0 x1 x2).2.1) 4), ((r47 x0 x1 x2).2.2.1), ((r47 x0 x1 x2).2.2.2)))
 none)
set_option maxRecDepth 100000 in
set_option maxHeartbeats 4000000 in
theorem e30d (x0 x1 : Int) (x2 : List (List Int)) : evFn Try.prog ext T8 noL 200 Try.f30 [.pointer (some ⟨0, 0, some 0⟩), .int .i64 4] ⟨[⟨true, (some (.cells [wsl 1, .int .i64 x0, .int .u64 x1]))⟩, ⟨false, (some (.tab [.int .u8] x2))⟩], 2, []⟩ = firstT [((Nat.beq ((r30d x0 x1 x2).1) 0), .int .i64 ((r30d x0 x1 x2).2.1), ⟨[⟨true, (some (.cells [wsl 1, .int .i64 ((r30d x0 x1 x2).2.2.1), .int .u64 ((r30d x0 x1 x2).2.2.2)]))⟩, ⟨false, (some (.tab [.int .u8] x2))⟩], 2, [0]⟩)] :=
 (show evFn Try.prog ext T8 noL 200 Try.f30 [.pointer (some ⟨0, 0, some 0⟩), .int .i64 4] ⟨[⟨true, (some (.cells [wsl 1, .int .i64 x0, .int .u64 x1]))⟩, ⟨false, (some (.tab [.int .u8] x2))⟩], 2, []⟩ = w30d x0 x1 x2 from by kernel_rfl).trans
 (show w30d x0 x1 x2 = a30d x0 x1 x2 (r30d x0 x1 x2) from by unfold w30d r30d; exact (cond_app (a30d x0 x1 x2) _ rfl rfl))
noncomputable def s30d (args : List Value) (s : St) : List (Bool × Value × St) :=
 match args, s.h with
 | [.pointer (some ⟨f0, f1, some f2⟩), .int .i64 f3], [⟨true, some (.cells [.iface f4 .nilIface, .int .i64 x0, .int .u64 x1])⟩, ⟨false, some (.tab [.int .u8] x2)⟩] => if f0 = 0 ∧ f1 = 0 ∧ f2 = 0 ∧ f3 = 4 ∧ f4 = 1 then [((Nat.beq ((r30d x0 x1 x2).1) 0), .int .i64 ((r30d x0 x1 x2).2.1), ⟨[⟨true, (some (.cells [wsl 1, .int .i64 ((r30d x0 x1 x2).2.2.1), .int .u64 ((r30d x0 x1 x2).2.2.2)]))⟩, ⟨false, (some (.tab [.int .u8] x2))⟩], 2, [0]⟩)] else T8 30 args s
 | _, _ => T8 30 args s
noncomputable def T9 : CallF := addF T8 30 s30d
set_option maxRecDepth 100000 in
set_option maxHeartbeats 4000000 in
theorem ok9 : CfOk Try.prog T9 := by
  refine cfOk_add ok8 fun args s r s' h1 h2 h3 => ?_
  unfold s30d at h3; split at h3
  · rename_i h; split at h3
    · rename_i hc; obtain ⟨rfl, rfl, rfl, rfl, rfl⟩ := hc; exact callOk ok8 Try.func30 h1 h2 h (lfOkF_no _ _).body (e30d _ _ _) rfl h3
    · exact ok8 _ _ _ _ _ h1 h2 h3
  · exact ok8 _ _ _ _ _ h1 h2 h3

/-- (*spec.l00Src).pick -/
noncomputable def r30e (x0 x1 : Int) (x2 : List (List Int)) : Nat × Int × Int × Int :=
 cond (Nat.beq ((r47 x0 x1 x2).1) 0)
  (cond (Nat.beq ((r47 ((r47 x0 x1 x2).2.2.1) ((r47 x0 x1 x2).2.2.2) x2).1) 0)
   (0, (Int.tmod (IntKind.i64.wrap ((IntKind.i64.wrap (((r47 x0 x1 x2).2.1) * 256)) + ((r47 ((r47 x0 x1 x2).2.2.1) ((r47 x0 x1 x2).2.2.2) x2).2.1))) 2000000), ((r47 ((r47 x0 x1 x2).2.2.1) ((r47 x0 x1 x2).2.2.2) x2).2.2.1), ((r47 ((r47 x0 x1 x2).2.2.1) ((r47 x0 x1 x2).2.2.2) x2).2.2.2))
   (1, 0, 0, 0))
  (1, 0, 0, 0)
noncomputable def a30e (x0 x1 : Int) (x2 : List (List Int)) (p : Nat × Int × Int × Int) : Res := firstT [((Nat.beq (p.1) 0), .int .i64 (p.2.1), ⟨[⟨true, (some (.cells [wsl 1, .int .i64 (p.2.2.1), .int .u64 (p.2.2.2)]))⟩, ⟨false, (some (.tab [.int .u8] x2))⟩], 2, [0]⟩)]
noncomputable def w30e (x0 x1 : Int) (x2 : List (List Int)) : Res :=
 (cond (Nat.beq ((r47 x0 x1 x2).1) 0)
 (cond (Nat.beq ((r47 ((r47 x0 x1 x2).2.2.1) ((r47 x0 x1 x2).2.2.2) x2).1) 0)
  (a30e x0 x1 x2 (0, (Int.tmod (IntKind.i64.wrap ((IntKind.i64.wrap (((r47 x0 x1 x2).2.1) * 256)) + ((r47 ((r47 x0 x1 x2).2.2.1) ((r47 x0 x1 x2).2.2.2) x2).2.1))) 2000000), ((r47 ((r47 x0 x1 x2).2.2.1) ((r47 x0 x1 x2).2.2.2) x2).2.2.1), ((r47 ((r47 x0 x1 x2).2.2.1) ((r47 x0 x1 x2).2.2.2) x2).2.2.2)))
  none)
 none)
set_option maxRecDepth 100000 in
set_option maxHeartbeats 4000000 in
theorem e30e (x0 x1 : Int) (x2 : List (List Int)) : evFn Try.prog ext T9 noL 200 Try.f30 [.pointer (some ⟨0, 0, some 0⟩), .int .i64 2000000] ⟨[⟨true, (some (.cells [wsl 1, .int .i64 x0, .int .u64 x1]))⟩, ⟨false, (some (.tab [.int .u8] x2))⟩], 2, []⟩ = firstT [((Nat.beq ((r30e x0 x1 x2).1) 0), .int .i64 ((r30e x0 x1 x2).2.1), ⟨[⟨true, (some (.cells [wsl 1, .int .i64 ((r30e x0 x1 x2).2.2.1), .int .u64 ((r30e x0 x1 x2).2.2.2)]))⟩, ⟨false, (some (.tab [.int .u8] x2))⟩], 2, [0]⟩)] :=
 (show evFn Try.prog ext T9 noL 200 Try.f30 [.pointer (some ⟨0, 0, some 0⟩), .int .i64 2000000] ⟨[⟨true, (some (.cells [wsl 1, .int .i64 x0, .int .u64 x1]))⟩, ⟨false, (some (.tab [.int .u8] x2))⟩], 2, []⟩ = w30e x0 x1 x2 from by kernel_rfl).trans
 (show w30e x0 x1 x2 = a30e x0 x1 x2 (r30e x0 x1 x2) from by unfold w30e r30e; exact (cond_app (a30e x0 x1 x2) _ (cond_app (a30e x0 x1 x2) _ rfl rfl) rfl))
noncomputable def s30e (args : List Value) (s : St) : List (Bool × Value × St) :=
 match args, s.h with
 | [.pointer (some ⟨f0, f1, some f2⟩), .int .i64 f3], [⟨true, some (.cells [.iface f4 .nilIface, .int .i64 x0, .int .u64 x1])⟩, ⟨false, some (.tab [.int .u8] x2)⟩] => if f0 = 0 ∧ f1 = 0 ∧ f2 = 0 ∧ f3 = 2000000 ∧ f4 = 1 then [((Nat.beq ((r30e x0 x1 x2).1) 0), .int .i64 ((r30e x0 x1 x2).2.1), ⟨[⟨true, (some (.cells [wsl 1, .int .i64 ((r30e x0 x1 x2).2.2.1), .int .u64 ((r30e x0 x1 x2).2.2.2)]))⟩, ⟨false, (some (.tab [.int .u8] x2))⟩], 2, [0]⟩)] else T9 30 args s
 | _, _ => T9 30 args s
noncomputable def T10 : CallF := addF T9 30 s30e
set_option maxRecDepth 100000 in
set_option maxHeartbeats 4000000 in
theorem ok10 : CfOk Try.prog T10 := by
  refine cfOk_add ok9 fun args s r s' h1 h2 h3 => ?_
  unfold s30e at h3; split at h3
  · rename_i h; split at h3
    · rename_i hc; obtain ⟨rfl, rfl, rfl, rfl, rfl⟩ := hc; exact callOk ok9 Try.func30 h1 h2 h (lfOkF_no _ _).body (e30e _ _ _) rfl h3
    · exact ok9 _ _ _ _ _ h1 h2 h3
  · exact ok9 _ _ _ _ _ h1 h2 h3

/-- (*spec.l00Src).pick -/
noncomputable def r30f (x0 x1 : Int) (x2 : List (List Int)) : Nat × Int × Int × Int :=
 cond (Nat.beq ((r47 x0 x1 x2).1) 0)
  (0, (Int.tmod ((r47 x0 x1 x2).2.1) 33), ((r47 x0 x1 x2).2.2.1), ((r47 x0 x1 x2).2.2.2))
  (1, 0, 0, 0)
noncomputable def a30f (x0 x1 : Int) (x2 : List (List Int)) (p : Nat × Int × Int × Int) : Res := firstT [((Nat.beq (p.1) 0), .int .i64 (p.2.1), ⟨[⟨true, (some (.cells [wsl 1, .int .i64 (p.2.2.1), .int .u64 (p.2.2.2)]))⟩, ⟨false, (some (.tab [.int .u8] x2))⟩], 2, [0]⟩)]
noncomputable def w30f (x0 x1 : Int) (x2 : List (List Int)) : Res :=
 (cond (Nat.beq ((r47 x0 x1 x2).1) 0)
 (a30f x0 x1 x2 (0, (Int.tmod ((r47 x0 x1 x2).2.1) 33), ((r47 x0 x1 x2).2.2.1), ((r47 x0 x1 x2).2.2.2)))
 none)
set_option maxRecDepth 100000 in
set_option maxHeartbeats 4000000 in
theorem e30f (x0 x1 : Int) (x2 : List (List Int)) : evFn Try.prog ext T10 noL 200 Try.f30 [.pointer (some ⟨0, 0, some 0⟩), .int .i64 33] ⟨[⟨true, (some (.cells [wsl 1, .int .i64 x0, .int .u64 x1]))⟩, ⟨false, (some (.tab [.int .u8] x2))⟩], 2, []⟩ = firstT [((Nat.beq ((r30f x0 x1 x2).1) 0), .int .i64 ((r30f x0 x1 x2).2.1), ⟨[⟨true, (some (.cells [wsl 1, .int .i64 ((r30f x0 x1 x2).2.2.1), .int .u64 ((r30f x0 x1 x2).2.2.2)]))⟩, ⟨false, (some (.tab [.int .u8] x2))⟩], 2, [0]⟩)] :=
 (show evFn Try.prog ext T10 noL 200 Try.f30 [.pointer (some ⟨0, 0, some 0⟩), .int .i64 33] ⟨[⟨true, (some (.cells [wsl 1, .int .i64 x0, .int .u64 x1]))⟩, ⟨false, (some (.tab [.int .u8] x2))⟩], 2, []⟩ = w30f x0 x1 x2 from by kernel_rfl).trans
 (show w30f x0 x1 x2 = a30f x0 x1 x2 (r30f x0 x1 x2) from by unfold w30f r30f; exact (cond_app (a30f x0 x1 x2) _ rfl rfl))
noncomputable def s30f (args : List Value) (s : St) : List (Bool × Value × St) :=
 match args, s.h with
 | [.pointer (some ⟨f0, f1, some f2⟩), .int .i64 f3], [⟨true, some (.cells [.iface f4 .nilIface, .int .i64 x0, .int .u64 x1])⟩, ⟨false, some (.tab [.int .u8] x2)⟩] => if f0 = 0 ∧ f1 = 0 ∧ f2 = 0 ∧ f3 = 33 ∧ f4 = 1 then [((Nat.beq ((r30f x0 x1 x2).1) 0), .int .i64 ((r30f x0 x1 x2).2.1), ⟨[⟨true, (some (.cells [wsl 1, .int .i64 ((r30f x0 x1 x2).2.2.1), .int .u64 ((r30f x0 x1 x2).2.2.2)]))⟩, ⟨false, (some (.tab [.int .u8] x2))⟩], 2, [0]⟩)] else T10 30 args s
 | _, _ => T10 30 args s
noncomputable def T11 : CallF := addF T10 30 s30f
set_option maxRecDepth 100000 in
set_option maxHeartbeats 4000000 in
theorem ok11 : CfOk Try.prog T11 := by
  refine cfOk_add ok10 fun args s r s' h1 h2 h3 => ?_
  unfold s30f at h3; split at h3
  · rename_i h; split at h3
    · rename_i hc; obtain ⟨rfl, rfl, rfl, rfl, rfl⟩ := hc; exact callOk ok10 Try.func30 h1 h2 h (lfOkF_no _ _).body (e30f _ _ _) rfl h3
    · exact ok10 _ _ _ _ _ h1 h2 h3
  · exact ok10 _ _ _ _ _ h1 h2 h3

/-- spec.l01Plain -/
noncomputable def r45 (x0 x1 : Int) (x2 : List (List Int)) : Nat × Nat × Int × Int :=
 cond (Nat.beq ((r30f x0 x1 x2).1) 0)
  (0, (fdiv .f32 (ofInt .f32 ((r30f x0 x1 x2).2.1)) 1107296256), ((r30f x0 x1 x2).2.2.1), ((r30f x0 x1 x2).2.2.2))
  (1, 0, 0, 0)
noncomputable def a45 (x0 x1 : Int) (x2 : List (List Int)) (p : Nat × Nat × Int × Int) : Res := firstT [((Nat.beq (p.1) 0), .float .f32 (p.2.1), ⟨[⟨true, (some (.cells [wsl 1, .int .i64 (p.2.2.1), .int .u64 (p.2.2.2)]))⟩, ⟨false, (some (.tab [.int .u8] x2))⟩], 2, [0]⟩)]
noncomputable def w45 (x0 x1 : Int) (x2 : List (List Int)) : Res :=
 (cond (Nat.beq ((r30f x0 x1 x2).1) 0)
 (a45 x0 x1 x2 (0, (fdiv .f32 (ofInt .f32 ((r30f x0 x1 x2).2.1)) 1107296256), ((r30f x0 x1 x2).2.2.1), ((r30f x0 x1 x2).2.2.2)))
 none)
set_option maxRecDepth 100000 in
set_option maxHeartbeats 4000000 in
theorem e45 (x0 x1 : Int) (x2 : List (List Int)) : evFn Try.prog ext T11 noL 200 Try.f45 [.pointer (some ⟨0, 0, some 0⟩)] ⟨[⟨true, (some (.cells [wsl 1, .int .i64 x0, .int .u64 x1]))⟩, ⟨false, (some (.tab [.int .u8] x2))⟩], 2, []⟩ = firstT [((Nat.beq ((r45 x0 x1 x2).1) 0), .float .f32 ((r45 x0 x1 x2).2.1), ⟨[⟨true, (some (.cells [wsl 1, .int .i64 ((r45 x0 x1 x2).2.2.1), .int .u64 ((r45 x0 x1 x2).2.2.2)]))⟩, ⟨false, (some (.tab [.int .u8] x2))⟩], 2, [0]⟩)] :=
 (show evFn Try.prog ext T11 noL 200 Try.f45 [.pointer (some ⟨0, 0, some 0⟩)] ⟨[⟨true, (some (.cells [wsl 1, .int .i64 x0, .int .u64 x1]))⟩, ⟨false, (some (.tab [.int .u8] x2))⟩], 2, []⟩ = w45 x0 x1 x2 from by kernel_rfl).trans
 (show w45 x0 x1 x2 = a45 x0 x1 x2 (r45 x0 x1 x2) from by unfold w45 r45; exact (cond_app (a45 x0 x1 x2) _ rfl rfl))
noncomputable def s45 (args : List Value) (s : St) : List (Bool × Value × St) :=
 match args, s.h with
 | [.pointer (some ⟨f0, f1, some f2⟩)], [⟨true, some (.cells [.iface f3 .nilIface, .int .i64 x0, .int .u64 x1])⟩, ⟨false, some (.tab [.int .u8] x2)⟩] => if f0 = 0 ∧ f1 = 0 ∧ f2 = 0 ∧ f3 = 1 then [((Nat.beq ((r45 x0 x1 x2).1) 0), .float .f32 ((r45 x0 x1 x2).2.1), ⟨[⟨true, (some (.cells [wsl 1, .int .i64 ((r45 x0 x1 x2).2.2.1), .int .u64 ((r45 x0 x1 x2).2.2.2)]))⟩, ⟨false, (some (.tab [.int .u8] x2))⟩], 2, [0]⟩)] else T11 45 args s
 | _, _ => T11 45 args s
noncomputable def T12 : CallF := addF T11 45 s45
set_option maxRecDepth 100000 in
set_option maxHeartbeats 4000000 in
theorem ok12 : CfOk Try.prog T12 := by
  refine cfOk_add ok11 fun args s r s' h1 h2 h3 => ?_
  unfold s45 at h3; split at h3
  · rename_i h; split at h3
    · rename_i hc; obtain ⟨rfl, rfl, rfl, rfl⟩ := hc; exact callOk ok11 Try.func45 h1 h2 h (lfOkF_no _ _).body (e45 _ _ _) rfl h3
    · exact ok11 _ _ _ _ _ h1 h2 h3
  · exact ok11 _ _ _ _ _ h1 h2 h3

/-- spec.l01Any -/
noncomputable def r23 (x0 x1 : Int) (x2 : List (List Int)) : Nat × Nat × Int × Int :=
 let c0 := (r30d ((r30c ((r30 x0 x1 x2).2.2.1) ((r30 x0 x1 x2).2.2.2) x2).2.2.1) ((r30c ((r30 x0 x1 x2).2.2.1) ((r30 x0 x1 x2).2.2.2) x2).2.2.2) x2)
 cond (Nat.beq ((r30 x0 x1 x2).1) 0)
  (cond ((((r30 x0 x1 x2).2.1) : Int) == 0)
   (0, 2143289344, ((r30 x0 x1 x2).2.2.1), ((r30 x0 x1 x2).2.2.2))
   (cond ((((r30 x0 x1 x2).2.1) : Int) == 1)
    (cond (narrowOk (r44 1))
     (0, (narrow (r44 1)), ((r30 x0 x1 x2).2.2.1), ((r30 x0 x1 x2).2.2.2))
     (1, 0, 0, 0))
    (cond ((((r30 x0 x1 x2).2.1) : Int) == 2)
     (cond (narrowOk (r44 (-1)))
      (0, (narrow (r44 (-1))), ((r30 x0 x1 x2).2.2.1), ((r30 x0 x1 x2).2.2.2))
      (1, 0, 0, 0))
     (cond ((((r30 x0 x1 x2).2.1) : Int) == 3)
      (0, 2147483648, ((r30 x0 x1 x2).2.2.1), ((r30 x0 x1 x2).2.2.2))
      (cond ((((r30 x0 x1 x2).2.1) : Int) == 4)
       (cond (Nat.beq ((r30b ((r30 x0 x1 x2).2.2.1) ((r30 x0 x1 x2).2.2.2) x2).1) 0)
        (0, (Int.toNat (IntKind.u32.wrap ((r30b ((r30 x0 x1 x2).2.2.1) ((r30 x0 x1 x2).2.2.2) x2).2.1))), ((r30b ((r30 x0 x1 x2).2.2.1) ((r30 x0 x1 x2).2.2.2) x2).2.2.1), ((r30b ((r30 x0 x1 x2).2.2.1) ((r30 x0 x1 x2).2.2.2) x2).2.2.2))
        (1, 0, 0, 0))
       (cond ((((r30 x0 x1 x2).2.1) : Int) == 5)
        (cond (Nat.beq ((r30c ((r30 x0 x1 x2).2.2.1) ((r30 x0 x1 x2).2.2.2) x2).1) 0)
         (cond (Nat.beq (c0.1) 0)
          (0, (Int.toNat (IntKind.u32.wrap ((IntKind.u32.wrap ((IntKind.u32.wrap ((r30c ((r30 x0 x1 x2).2.2.1) ((r30 x0 x1 x2).2.2.2) x2).2.1)) * 4)) + (IntKind.u32.wrap (c0.2.1))))), (c0.2.2.1), (c0.2.2.2))
          (1, 0, 0, 0))
         (1, 0, 0, 0))
        (cond ((((r30 x0 x1 x2).2.1) : Int) == 6)
         (cond (Nat.beq ((r30e ((r30 x0 x1 x2).2.2.1) ((r30 x0 x1 x2).2.2.2) x2).1) 0)
          (0, (fdiv .f32 (ofInt .f32 (IntKind.i64.wrap (((r30e ((r30 x0 x1 x2).2.2.1) ((r30 x0 x1 x2).2.2.2) x2).2.1) - 1000000))) 1148846080), ((r30e ((r30 x0 x1 x2).2.2.1) ((r30 x0 x1 x2).2.2.2) x2).2.2.1), ((r30e ((r30 x0 x1 x2).2.2.1) ((r30 x0 x1 x2).2.2.2) x2).2.2.2))
          (1, 0, 0, 0))
         (cond ((((r30 x0 x1 x2).2.1) : Int) == 7)
          (cond (Nat.beq ((r45 ((r30 x0 x1 x2).2.2.1) ((r30 x0 x1 x2).2.2.2) x2).1) 0)
           (0, (fneg .f32 ((r45 ((r30 x0 x1 x2).2.2.1) ((r30 x0 x1 x2).2.2.2) x2).2.1)), ((r45 ((r30 x0 x1 x2).2.2.1) ((r30 x0 x1 x2).2.2.2) x2).2.2.1), ((r45 ((r30 x0 x1 x2).2.2.1) ((r30 x0 x1 x2).2.2.2) x2).2.2.2))
           (1, 0, 0, 0))
          (cond ((((r30 x0 x1 x2).2.1) : Int) == 8)
           (cond (Nat.beq ((r45 ((r30 x0 x1 x2).2.2.1) ((r30 x0 x1 x2).2.2.2) x2).1) 0)
            (0, (fmul .f32 ((r45 ((r30 x0 x1 x2).2.2.1) ((r30 x0 x1 x2).2.2.2) x2).2.1) 1073741824), ((r45 ((r30 x0 x1 x2).2.2.1) ((r30 x0 x1 x2).2.2.2) x2).2.2.1), ((r45 ((r30 x0 x1 x2).2.2.1) ((r30 x0 x1 x2).2.2.2) x2).2.2.2))
            (1, 0, 0, 0))
           (cond (Nat.beq ((r45 ((r30 x0 x1 x2).2.2.1) ((r30 x0 x1 x2).2.2.2) x2).1) 0)
            (0, ((r45 ((r30 x0 x1 x2).2.2.1) ((r30 x0 x1 x2).2.2.2) x2).2.1), ((r45 ((r30 x0 x1 x2).2.2.1) ((r30 x0 x1 x2).2.2.2) x2).2.2.1), ((r45 ((r30 x0 x1 x2).2.2.1) ((r30 x0 x1 x2).2.2.2) x2).2.2.2))
            (1, 0, 0, 0)))))))))))
  (1, 0, 0, 0)
noncomputable def a23 (x0 x1 : Int) (x2 : List (List Int)) (p : Nat × Nat × Int × Int) : Res := firstT [((Nat.beq (p.1) 0), .float .f32 (p.2.1), ⟨[⟨true, (some (.cells [wsl 1, .int .i64 (p.2.2.1), .int .u64 (p.2.2.2)]))⟩, ⟨false, (some (.tab [.int .u8] x2))⟩], 2, [0]⟩)]
noncomputable def w23 (x0 x1 : Int) (x2 : List (List Int)) : Res :=
 let c0 := (r30d ((r30c ((r30 x0 x1 x2).2.2.1) ((r30 x0 x1 x2).2.2.2) x2).2.2.1) ((r30c ((r30 x0 x1 x2).2.2.1) ((r30 x0 x1 x2).2.2.2) x2).2.2.2) x2)
 (cond (Nat.beq ((r30 x0 x1 x2).1) 0)
 (cond ((((r30 x0 x1 x2).2.1) : Int) == 0)
  (a23 x0 x1 x2 (0, 2143289344, ((r30 x0 x1 x2).2.2.1), ((r30 x0 x1 x2).2.2.2)))
  (cond ((((r30 x0 x1 x2).2.1) : Int) == 1)
   (cond (narrowOk (r44 1))
    (a23 x0 x1 x2 (0, (narrow (r44 1)), ((r30 x0 x1 x2).2.2.1), ((r30 x0 x1 x2).2.2.2)))
    none)
   (cond ((((r30 x0 x1 x2).2.1) : Int) == 2)
    (cond (narrowOk (r44 (-1)))
     (a23 x0 x1 x2 (0, (narrow (r44 (-1))), ((r30 x0 x1 x2).2.2.1), ((r30 x0 x1 x2).2.2.2)))
     none)
    (cond ((((r30 x0 x1 x2).2.1) : Int) == 3)
     (a23 x0 x1 x2 (0, 2147483648, ((r30 x0 x1 x2).2.2.1), ((r30 x0 x1 x2).2.2.2)))
     (cond ((((r30 x0 x1 x2).2.1) : Int) == 4)
      (cond (Nat.beq ((r30b ((r30 x0 x1 x2).2.2.1) ((r30 x0 x1 x2).2.2.2) x2).1) 0)
       (a23 x0 x1 x2 (0, (Int.toNat (IntKind.u32.wrap ((r30b ((r30 x0 x1 x2).2.2.1) ((r30 x0 x1 x2).2.2.2) x2).2.1))), ((r30b ((r30 x0 x1 x2).2.2.1) ((r30 x0 x1 x2).2.2.2) x2).2.2.1), ((r30b ((r30 x0 x1 x2).2.2.1) ((r30 x0 x1 x2).2.2.2) x2).2.2.2)))
       none)
      (cond ((((r30 x0 x1 x2).2.1) : Int) == 5)
       (cond (Nat.beq ((r30c ((r30 x0 x1 x2).2.2.1) ((r30 x0 x1 x2).2.2.2) x2).1) 0)
        (cond (Nat.beq (c0.1) 0)
         (a23 x0 x1 x2 (0, (Int.toNat (IntKind.u32.wrap ((IntKind.u32.wrap ((IntKind.u32.wrap ((r30c ((r30 x0 x1 x2).2.2.1) ((r30 x0 x1 x2).2.2.2) x2).2.1)) * 4)) + (IntKind.u32.wrap (c0.2.1))))), (c0.2.2.1), (c0.2.2.2)))
         none)
        none)
       (cond ((((r30 x0 x1 x2).2.1) : Int) == 6)
        (cond (Nat.beq ((r30e ((r30 x0 x1 x2).2.2.1) ((r30 x0 x1 x2).2.2.2) x2).1) 0)
         (a23 x0 x1 x2 (0, (fdiv .f32 (ofInt .f32 (IntKind.i64.wrap (((r30e ((r30 x0 x1 x2).2.2.1) ((r30 x0 x1 x2).2.2.2) x2).2.1) - 1000000))) 1148846080), ((r30e ((r30 x0 x1 x2).2.2.1) ((r30 x0 x1 x2).2.2.2) x2).2.2.1), ((r30e ((r30 x0 x1 x2).2.2.1) ((r30 x0 x1 x2).2.2.2) x2).2.2.2)))
         none)
        (cond ((((r30 x0 x1 x2).2.1) : Int) == 7)
         (cond (Nat.beq ((r45 ((r30 x0 x1 x2).2.2.1) ((r30 x0 x1 x2).2.2.2) x2).1) 0)
          (a23 x0 x1 x2 (0, (fneg .f32 ((r45 ((r30 x0 x1 x2).2.2.1) ((r30 x0 x1 x2).2.2.2) x2).2.1)), ((r45 ((r30 x0 x1 x2).2.2.1) ((r30 x0 x1 x2).2.2.2) x2).2.2.1), ((r45 ((r30 x0 x1 x2).2.2.1) ((r30 x0 x1 x2).2.2.2) x2).2.2.2)))
          none)
         (cond ((((r30 x0 x1 x2).2.1) : Int) == 8)
          (cond (Nat.beq ((r45 ((r30 x0 x1 x2).2.2.1) ((r30 x0 x1 x2).2.2.2) x2).1) 0)
           (a23 x0 x1 x2 (0, (fmul .f32 ((r45 ((r30 x0 x1 x2).2.2.1) ((r30 x0 x1 x2).2.2.2) x2).2.1) 1073741824), ((r45 ((r30 x0 x1 x2).2.2.1) ((r30 x0 x1 x2).2.2.2) x2).2.2.1), ((r45 ((r30 x0 x1 x2).2.2.1) ((r30 x0 x1 x2).2.2.2) x2).2.2.2)))
           none)
          (cond (Nat.beq ((r45 ((r30 x0 x1 x2).2.2.1) ((r30 x0 x1 x2).2.2.2) x2).1) 0)
           (a23 x0 x1 x2 (0, ((r45 ((r30 x0 x1 x2).2.2.1) ((r30 x0 x1 x2).2.2.2) x2).2.1), ((r45 ((r30 x0 x1 x2).2.2.1) ((r30 x0 x1 x2).2.2.2) x2).2.2.1), ((r45 ((r30 x0 x1 x2).2.2.1) ((r30 x0 x1 x2).2.2.2) x2).2.2.2)))
           none))))))))))
 none)
set_option maxRecDepth 100000 in
set_option maxHeartbeats 4000000 in
theorem e23 (x0 x1 : Int) (x2 : List (List Int)) : evFn Try.prog ext T12 noL 200 Try.f23 [.pointer (some ⟨0, 0, some 0⟩)] ⟨[⟨true, (some (.cells [wsl 1, .int .i64 x0, .int .u64 x1]))⟩, ⟨false, (some (.tab [.int .u8] x2))⟩], 2, []⟩ = firstT [((Nat.beq ((r23 x0 x1 x2).1) 0), .float .f32 ((r23 x0 x1 x2).2.1), ⟨[⟨true, (some (.cells [wsl 1, .int .i64 ((r23 x0 x1 x2).2.2.1), .int .u64 ((r23 x0 x1 x2).2.2.2)]))⟩, ⟨false, (some (.tab [.int .u8] x2))⟩], 2, [0]⟩)] :=
 (show evFn Try.prog ext T12 noL 200 Try.f23 [.pointer (some ⟨0, 0, some 0⟩)] ⟨[⟨true, (some (.cells [wsl 1, .int .i64 x0, .int .u64 x1]))⟩, ⟨false, (some (.tab [.int .u8] x2))⟩], 2, []⟩ = w23 x0 x1 x2 from by kernel_rfl).trans
 (show w23 x0 x1 x2 = a23 x0 x1 x2 (r23 x0 x1 x2) from by unfold w23 r23; exact (cond_app (a23 x0 x1 x2) _ (cond_app (a23 x0 x1 x2) _ rfl (cond_app (a23 x0 x1 x2) _ (cond_app (a23 x0 x1 x2) _ rfl rfl) (cond_app (a23 x0 x1 x2) _ (cond_app (a23 x0 x1 x2) _ rfl rfl) (cond_app (a23 x0 x1 x2) _ rfl (cond_app (a23 x0 x1 x2) _ (cond_app (a23 x0 x1 x2) _ rfl rfl) (cond_app (a23 x0 x1 x2) _ (cond_app (a23 x0 x1 x2) _ (cond_app (a23 x0 x1 x2) _ rfl rfl) rfl) (cond_app (a23 x0 x1 x2) _ (cond_app (a23 x0 x1 x2) _ rfl rfl) (cond_app (a23 x0 x1 x2) _ (cond_app (a23 x0 x1 x2) _ rfl rfl) (cond_app (a23 x0 x1 x2) _ (cond_app (a23 x0 x1 x2) _ rfl rfl) (cond_app (a23 x0 x1 x2) _ rfl rfl)))))))))) rfl))
noncomputable def s23 (args : List Value) (s : St) : List (Bool × Value × St) :=
 match args, s.h with
 | [.pointer (some ⟨f0, f1, some f2⟩)], [⟨true, some (.cells [.iface f3 .nilIface, .int .i64 x0, .int .u64 x1])⟩, ⟨false, some (.tab [.int .u8] x2)⟩] => if f0 = 0 ∧ f1 = 0 ∧ f2 = 0 ∧ f3 = 1 then [((Nat.beq ((r23 x0 x1 x2).1) 0), .float .f32 ((r23 x0 x1 x2).2.1), ⟨[⟨true, (some (.cells [wsl 1, .int .i64 ((r23 x0 x1 x2).2.2.1), .int .u64 ((r23 x0 x1 x2).2.2.2)]))⟩, ⟨false, (some (.tab [.int .u8] x2))⟩], 2, [0]⟩)] else T12 23 args s
 | _, _ => T12 23 args s
noncomputable def T13 : CallF := addF T12 23 s23
set_option maxRecDepth 100000 in
set_option maxHeartbeats 4000000 in
theorem ok13 : CfOk Try.prog T13 := by
  refine cfOk_add ok12 fun args s r s' h1 h2 h3 => ?_
  unfold s23 at h3; split at h3
  · rename_i h; split at h3
    · rename_i hc; obtain ⟨rfl, rfl, rfl, rfl⟩ := hc; exact callOk ok12 Try.func23 h1 h2 h (lfOkF_no _ _).body (e23 _ _ _) rfl h3
    · exact ok12 _ _ _ _ _ h1 h2 h3
  · exact ok12 _ _ _ _ _ h1 h2 h3

/-- spec.A2Any -/
noncomputable def r5 (x0 : List (List Int)) : Nat × Nat :=
 cond (Nat.beq ((r23 ((r24 x0).1) ((r24 x0).2) x0).1) 0)
  (0, ((r23 ((r24 x0).1) ((r24 x0).2) x0).2.1))
  (1, 0)
noncomputable def a5 (x0 : List (List Int)) (p : Nat × Nat) : Res := firstT [((Nat.beq (p.1) 0), .float .f32 (p.2), ⟨[⟨false, (some (.tab [.int .u8] x0))⟩], 1, []⟩)]
noncomputable def w5 (x0 : List (List Int)) : Res :=
 (cond (Nat.beq ((r23 ((r24 x0).1) ((r24 x0).2) x0).1) 0)
 (a5 x0 (0, ((r23 ((r24 x0).1) ((r24 x0).2) x0).2.1)))
 none)
set_option maxRecDepth 100000 in
set_option maxHeartbeats 4000000 in
theorem e5 (x0 : List (List Int)) : evFn Try.prog ext T13 noL 200 Try.f5 [wsl 0] ⟨[⟨false, (some (.tab [.int .u8] x0))⟩], 1, []⟩ = firstT [((Nat.beq ((r5 x0).1) 0), .float .f32 ((r5 x0).2), ⟨[⟨false, (some (.tab [.int .u8] x0))⟩], 1, []⟩)] :=
 (show evFn Try.prog ext T13 noL 200 Try.f5 [wsl 0] ⟨[⟨false, (some (.tab [.int .u8] x0))⟩], 1, []⟩ = w5 x0 from by kernel_rfl).trans
 (show w5 x0 = a5 x0 (r5 x0) from by unfold w5 r5; exact (cond_app (a5 x0) _ rfl rfl))
noncomputable def s5 (args : List Value) (s : St) : List (Bool × Value × St) :=
 match args, s.h with
 | [.iface f0 .nilIface], [⟨false, some (.tab [.int .u8] x0)⟩] => if f0 = 0 then [((Nat.beq ((r5 x0).1) 0), .float .f32 ((r5 x0).2), ⟨[⟨false, (some (.tab [.int .u8] x0))⟩], 1, []⟩)] else T13 5 args s
 | _, _ => T13 5 args s
noncomputable def T14 : CallF := addF T13 5 s5
set_option maxRecDepth 100000 in
set_option maxHeartbeats 4000000 in
theorem ok14 : CfOk Try.prog T14 := by
  refine cfOk_add ok13 fun args s r s' h1 h2 h3 => ?_
  unfold s5 at h3; split at h3
  · rename_i h; split at h3
    · rename_i hc; obtain ⟨rfl⟩ := hc; exact callOk ok13 Try.func5 h1 h2 h (lfOkF_no _ _).body (e5 _) rfl h3
    · exact ok13 _ _ _ _ _ h1 h2 h3
  · exact ok13 _ _ _ _ _ h1 h2 h3

/-- math.Abs -/
noncomputable def r46 (x0 : Nat) : Nat :=
 cond (!isN .f64 x0)
  ((Int.toNat (bits .andNot .u64 ((x0 : Nat) : Int) 9223372036854775808)))
  (9221120237041090560)
noncomputable def a46 (x0 : Nat) (p : Nat) : Res := firstT [(true, .float .f64 p, st0)]
noncomputable def w46 (x0 : Nat) : Res :=
 (cond (!isN .f64 x0)
 (a46 x0 ((Int.toNat (bits .andNot .u64 ((x0 : Nat) : Int) 9223372036854775808))))
 (a46 x0 (9221120237041090560)))
set_option maxRecDepth 100000 in
set_option maxHeartbeats 4000000 in
theorem e46 (x0 : Nat) : evFn Try.prog ext T14 noL 200 Try.f46 [.float .f64 x0] st0 = firstT [(true, .float .f64 (r46 x0), st0)] :=
 (show evFn Try.prog ext T14 noL 200 Try.f46 [.float .f64 x0] st0 = w46 x0 from by kernel_rfl).trans
 (show w46 x0 = a46 x0 (r46 x0) from by unfold w46 r46; exact (cond_app (a46 x0) _ rfl rfl))
noncomputable def s46 (args : List Value) (s : St) : List (Bool × Value × St) :=
 match args, s.h with
 | [.float .f64 x0], [] => [(true, .float .f64 (r46 x0), st0)]
 | _, _ => T14 46 args s
noncomputable def T15 : CallF := addF T14 46 s46
set_option maxRecDepth 100000 in
set_option maxHeartbeats 4000000 in
theorem ok15 : CfOk Try.prog T15 := by
  refine cfOk_add ok14 fun args s r s' h1 h2 h3 => ?_
  unfold s46 at h3; split at h3
  · rename_i h; exact callOk ok14 Try.func46 h1 h2 h (lfOkF_no _ _).body (e46 _) rfl h3
  · exact ok14 _ _ _ _ _ h1 h2 h3

/-- math.IsInf -/
noncomputable def r26 (x0 : Nat) (x1 : Int) : Bool :=
 cond ((x1 : Int) == 0)
  ((fgt .f64 (r46 x0) 9218868437227405311))
  (cond (decide ((x1 : Int) < 0))
   ((fgt .f64 (fneg .f64 x0) 9218868437227405311))
   ((fgt .f64 x0 9218868437227405311)))
noncomputable def a26 (x0 : Nat) (x1 : Int) (p : Bool) : Res := firstT [(true, .bool p, st0)]
noncomputable def w26 (x0 : Nat) (x1 : Int) : Res :=
 (cond ((x1 : Int) == 0)
 (a26 x0 x1 ((fgt .f64 (r46 x0) 9218868437227405311)))
 (cond (decide ((x1 : Int) < 0))
  (a26 x0 x1 ((fgt .f64 (fneg .f64 x0) 9218868437227405311)))
  (a26 x0 x1 ((fgt .f64 x0 9218868437227405311)))))
set_option maxRecDepth 100000 in
set_option maxHeartbeats 4000000 in
theorem e26 (x0 : Nat) (x1 : Int) : evFn Try.prog ext T15 noL 200 Try.f26 [.float .f64 x0, .int .i64 x1] st0 = firstT [(true, .bool (r26 x0 x1), st0)] :=
 (show evFn Try.prog ext T15 noL 200 Try.f26 [.float .f64 x0, .int .i64 x1] st0 = w26 x0 x1 from by kernel_rfl).trans
 (show w26 x0 x1 = a26 x0 x1 (r26 x0 x1) from by unfold w26 r26; exact (cond_app (a26 x0 x1) _ rfl (cond_app (a26 x0 x1) _ rfl rfl)))
noncomputable def s26 (args : List Value) (s : St) : List (Bool × Value × St) :=
 match args, s.h with
 | [.float .f64 x0, .int .i64 x1], [] => [(true, .bool (r26 x0 x1), st0)]
 | _, _ => T15 26 args s
noncomputable def T16 : CallF := addF T15 26 s26
set_option maxRecDepth 100000 in
set_option maxHeartbeats 4000000 in
theorem ok16 : CfOk Try.prog T16 := by
  refine cfOk_add ok15 fun args s r s' h1 h2 h3 => ?_
  unfold s26 at h3; split at h3
  · rename_i h; exact callOk ok15 Try.func26 h1 h2 h (lfOkF_no _ _).body (e26 _ _) rfl h3
  · exact ok15 _ _ _ _ _ h1 h2 h3

/-- impl.NextUp -/
noncomputable def r6 (x0 : Nat) : Nat :=
 cond (!isN .f32 x0)
  (cond (!feq .f32 x0 x0)
   (x0)
   (cond (r26 (widen x0) 1)
    (x0)
    (cond ((((x0 : Nat) : Int) : Int) == 2147483648)
     (1)
     (cond (((Int.fdiv ((x0 : Nat) : Int) (2 ^ (min (31 : Int).toNat (IntKind.bits .u32)))) : Int) != 0)
      ((Int.toNat (IntKind.u32.wrap (((x0 : Nat) : Int) - 1))))
      ((Int.toNat (IntKind.u32.wrap (((x0 : Nat) : Int) + 1))))))))
  (x0)
noncomputable def a6 (x0 : Nat) (p : Nat) : Res := firstT [(true, .float .f32 p, st0)]
noncomputable def w6 (x0 : Nat) : Res :=
 (cond (!isN .f32 x0)
 (cond (!feq .f32 x0 x0)
  (a6 x0 (x0))
  (cond (r26 (widen x0) 1)
   (a6 x0 (x0))
   (cond ((((x0 : Nat) : Int) : Int) == 2147483648)
    (a6 x0 (1))
    (cond (((Int.fdiv ((x0 : Nat) : Int) (2 ^ (min (31 : Int).toNat (IntKind.bits .u32)))) : Int) != 0)
     (a6 x0 ((Int.toNat (IntKind.u32.wrap (((x0 : Nat) : Int) - 1)))))
     (a6 x0 ((Int.toNat (IntKind.u32.wrap (((x0 : Nat) : Int) + 1)))))))))
 (cond (!feq .f32 x0 x0)
  (a6 x0 (x0))
  (cond (r26 (widen x0) 1)
   (some (.float .f32 x0, st0))
   none)))
set_option maxRecDepth 100000 in
set_option maxHeartbeats 4000000 in
theorem e6 (x0 : Nat) : evFn Try.prog ext T16 noL 200 Try.f6 [.float .f32 x0] st0 = firstT [(true, .float .f32 (r6 x0), st0)] :=
 (show evFn Try.prog ext T16 noL 200 Try.f6 [.float .f32 x0] st0 = w6 x0 from by kernel_rfl).trans
 (show w6 x0 = a6 x0 (r6 x0) from by unfold w6 r6; exact (cond_both (a6 x0) _ (fun h0 => (cond_app (a6 x0) _ rfl (cond_app (a6 x0) _ rfl (cond_app (a6 x0) _ rfl (cond_app (a6 x0) _ rfl rfl))))) (fun h0 => (cond_t (ev_not1 (feq_nanl _ (ev_notf h0))) rfl))))
noncomputable def s6 (args : List Value) (s : St) : List (Bool × Value × St) :=
 match args, s.h with
 | [.float .f32 x0], [] => [(true, .float .f32 (r6 x0), st0)]
 | _, _ => T16 6 args s
noncomputable def T17 : CallF := addF T16 6 s6
set_option maxRecDepth 100000 in
set_option maxHeartbeats 4000000 in
theorem ok17 : CfOk Try.prog T17 := by
  refine cfOk_add ok16 fun args s r s' h1 h2 h3 => ?_
  unfold s6 at h3; split at h3
  · rename_i h; exact callOk ok16 Try.func6 h1 h2 h (lfOkF_no _ _).body (e6 _) rfl h3
  · exact ok16 _ _ _ _ _ h1 h2 h3

/-- impl.NextDown -/
noncomputable def r7 (x0 : Nat) : Nat :=
 ((fneg .f32 (r6 (fneg .f32 x0))))
noncomputable def a7 (x0 : Nat) (p : Nat) : Res := firstT [(true, .float .f32 p, st0)]
noncomputable def w7 (x0 : Nat) : Res :=
 (a7 x0 ((fneg .f32 (r6 (fneg .f32 x0)))))
set_option maxRecDepth 100000 in
set_option maxHeartbeats 4000000 in
theorem e7 (x0 : Nat) : evFn Try.prog ext T17 noL 200 Try.f7 [.float .f32 x0] st0 = firstT [(true, .float .f32 (r7 x0), st0)] :=
 (show evFn Try.prog ext T17 noL 200 Try.f7 [.float .f32 x0] st0 = w7 x0 from by kernel_rfl).trans
 (show w7 x0 = a7 x0 (r7 x0) from by unfold w7 r7; exact rfl)
noncomputable def s7 (args : List Value) (s : St) : List (Bool × Value × St) :=
 match args, s.h with
 | [.float .f32 x0], [] => [(true, .float .f32 (r7 x0), st0)]
 | _, _ => T17 7 args s
noncomputable def T18 : CallF := addF T17 7 s7
set_option maxRecDepth 100000 in
set_option maxHeartbeats 4000000 in
theorem ok18 : CfOk Try.prog T18 := by
  refine cfOk_add ok17 fun args s r s' h1 h2 h3 => ?_
  unfold s7 at h3; split at h3
  · rename_i h; exact callOk ok17 Try.func7 h1 h2 h (lfOkF_no _ _).body (e7 _) rfl h3
  · exact ok17 _ _ _ _ _ h1 h2 h3

/-- spec.l05Up -/
noncomputable def r28 (x0 : Nat) : Nat :=
 cond (!feq .f32 x0 x0)
  (x0)
  (cond (fgt .f32 x0 2139095039)
   (x0)
   (cond (feq .f32 x0 0)
    (1)
    (cond (fgt .f32 x0 0)
     ((Int.toNat (IntKind.u32.wrap (((x0 : Nat) : Int) + 1))))
     ((Int.toNat (IntKind.u32.wrap (((x0 : Nat) : Int) - 1)))))))
noncomputable def a28 (x0 : Nat) (p : Nat) : Res := firstT [(true, .float .f32 p, st0)]
noncomputable def w28 (x0 : Nat) : Res :=
 (cond (!feq .f32 x0 x0)
 (a28 x0 (x0))
 (cond (fgt .f32 x0 2139095039)
  (a28 x0 (x0))
  (cond (!isN .f32 x0)
   (cond (feq .f32 x0 0)
    (a28 x0 (1))
    (cond (fgt .f32 x0 0)
     (a28 x0 ((Int.toNat (IntKind.u32.wrap (((x0 : Nat) : Int) + 1)))))
     (a28 x0 ((Int.toNat (IntKind.u32.wrap (((x0 : Nat) : Int) - 1)))))))
   (cond (feq .f32 x0 0)
    (some (.float .f32 1, st0))
    (cond (fgt .f32 x0 0)
     none
     none)))))
set_option maxRecDepth 100000 in
set_option maxHeartbeats 4000000 in
theorem e28 (x0 : Nat) : evFn Try.prog ext T18 noL 200 Try.f28 [.float .f32 x0] st0 = firstT [(true, .float .f32 (r28 x0), st0)] :=
 (show evFn Try.prog ext T18 noL 200 Try.f28 [.float .f32 x0] st0 = w28 x0 from by kernel_rfl).trans
 (show w28 x0 = a28 x0 (r28 x0) from by unfold w28 r28; exact (cond_both (a28 x0) _ (fun h0 => rfl) (fun h0 => (cond_both (a28 x0) _ (fun h1 => rfl) (fun h1 => (cond_t (ev_not1 (ev_eq1 (ev_notf h0))) (cond_app (a28 x0) _ rfl (cond_app (a28 x0) _ rfl rfl))))))))
noncomputable def s28 (args : List Value) (s : St) : List (Bool × Value × St) :=
 match args, s.h with
 | [.float .f32 x0], [] => [(true, .float .f32 (r28 x0), st0)]
 | _, _ => T18 28 args s
noncomputable def T19 : CallF := addF T18 28 s28
set_option maxRecDepth 100000 in
set_option maxHeartbeats 4000000 in
theorem ok19 : CfOk Try.prog T19 := by
  refine cfOk_add ok18 fun args s r s' h1 h2 h3 => ?_
  unfold s28 at h3; split at h3
  · rename_i h; exact callOk ok18 Try.func28 h1 h2 h (lfOkF_no _ _).body (e28 _) rfl h3
  · exact ok18 _ _ _ _ _ h1 h2 h3

/-- spec.NextUp -/
noncomputable def r9 (x0 : Nat) : Nat :=
 ((r28 x0))
noncomputable def a9 (x0 : Nat) (p : Nat) : Res := firstT [(true, .float .f32 p, st0)]
noncomputable def w9 (x0 : Nat) : Res :=
 (a9 x0 ((r28 x0)))
set_option maxRecDepth 100000 in
set_option maxHeartbeats 4000000 in
theorem e9 (x0 : Nat) : evFn Try.prog ext T19 noL 200 Try.f9 [.float .f32 x0] st0 = firstT [(true, .float .f32 (r9 x0), st0)] :=
 (show evFn Try.prog ext T19 noL 200 Try.f9 [.float .f32 x0] st0 = w9 x0 from by kernel_rfl).trans
 (show w9 x0 = a9 x0 (r9 x0) from by unfold w9 r9; exact rfl)
noncomputable def s9 (args : List Value) (s : St) : List (Bool × Value × St) :=
 match args, s.h with
 | [.float .f32 x0], [] => [(true, .float .f32 (r9 x0), st0)]
 | _, _ => T19 9 args s
noncomputable def T20 : CallF := addF T19 9 s9
set_option maxRecDepth 100000 in
set_option maxHeartbeats 4000000 in
theorem ok20 : CfOk Try.prog T20 := by
  refine cfOk_add ok19 fun args s r s' h1 h2 h3 => ?_
  unfold s9 at h3; split at h3
  · rename_i h; exact callOk ok19 Try.func9 h1 h2 h (lfOkF_no _ _).body (e9 _) rfl h3
  · exact ok19 _ _ _ _ _ h1 h2 h3

/-- impl.SameNumber -/
noncomputable def r8 (x0 x1 : Nat) : Bool :=
 cond (!feq .f32 x0 x0)
  ((!feq .f32 x1 x1))
  (cond (!feq .f32 x1 x1)
   (false)
   (((((x0 : Nat) : Int) : Int) == ((x1 : Nat) : Int))))
noncomputable def a8 (x0 x1 : Nat) (p : Bool) : Res := firstT [(true, .bool p, st0)]
noncomputable def w8 (x0 x1 : Nat) : Res :=
 (cond (!feq .f32 x0 x0)
 (cond (!feq .f32 x0 x0)
  (a8 x0 x1 ((!feq .f32 x1 x1)))
  (some (.bool false, st0)))
 (cond (!feq .f32 x1 x1)
  (cond (!feq .f32 x0 x0)
   (some (.bool (!feq .f32 x1 x1), st0))
   (a8 x0 x1 (false)))
  (cond (!isN .f32 x0)
   (cond (!isN .f32 x1)
    (a8 x0 x1 (((((x0 : Nat) : Int) : Int) == ((x1 : Nat) : Int))))
    none)
   (cond (!isN .f32 x1)
    (cond (decide ((0 : Int) ≤ ((x1 : Nat) : Int)) && (!isN .f32 x1))
     (some (.bool false, st0))
     none)
    none))))
set_option maxRecDepth 100000 in
set_option maxHeartbeats 4000000 in
theorem e8 (x0 x1 : Nat) : evFn Try.prog ext T20 noL 200 Try.f8 [.float .f32 x0, .float .f32 x1] st0 = firstT [(true, .bool (r8 x0 x1), st0)] :=
 (show evFn Try.prog ext T20 noL 200 Try.f8 [.float .f32 x0, .float .f32 x1] st0 = w8 x0 x1 from by kernel_rfl).trans
 (show w8 x0 x1 = a8 x0 x1 (r8 x0 x1) from by unfold w8 r8; exact (cond_both (a8 x0 x1) _ (fun h0 => (cond_t (ev_not1 (ev_nott h0)) rfl)) (fun h0 => (cond_both (a8 x0 x1) _ (fun h1 => (cond_f (ev_not0 (ev_notf h0)) rfl)) (fun h1 => (cond_t (ev_not1 (ev_eq1 (ev_notf h0))) (cond_t (ev_not1 (ev_eq1 (ev_notf h1))) rfl)))))))
noncomputable def s8 (args : List Value) (s : St) : List (Bool × Value × St) :=
 match args, s.h with
 | [.float .f32 x0, .float .f32 x1], [] => [(true, .bool (r8 x0 x1), st0)]
 | _, _ => T20 8 args s
noncomputable def T21 : CallF := addF T20 8 s8
set_option maxRecDepth 100000 in
set_option maxHeartbeats 4000000 in
theorem ok21 : CfOk Try.prog T21 := by
  refine cfOk_add ok20 fun args s r s' h1 h2 h3 => ?_
  unfold s8 at h3; split at h3
  · rename_i h; exact callOk ok20 Try.func8 h1 h2 h (lfOkF_no _ _).body (e8 _ _) rfl h3
  · exact ok20 _ _ _ _ _ h1 h2 h3

/-- spec.l05Down -/
noncomputable def r29 (x0 : Nat) : Nat :=
 ((fneg .f32 (r28 (fneg .f32 x0))))
noncomputable def a29 (x0 : Nat) (p : Nat) : Res := firstT [(true, .float .f32 p, st0)]
noncomputable def w29 (x0 : Nat) : Res :=
 (a29 x0 ((fneg .f32 (r28 (fneg .f32 x0)))))
set_option maxRecDepth 100000 in
set_option maxHeartbeats 4000000 in
theorem e29 (x0 : Nat) : evFn Try.prog ext T21 noL 200 Try.f29 [.float .f32 x0] st0 = firstT [(true, .float .f32 (r29 x0), st0)] :=
 (show evFn Try.prog ext T21 noL 200 Try.f29 [.float .f32 x0] st0 = w29 x0 from by kernel_rfl).trans
 (show w29 x0 = a29 x0 (r29 x0) from by unfold w29 r29; exact rfl)
noncomputable def s29 (args : List Value) (s : St) : List (Bool × Value × St) :=
 match args, s.h with
 | [.float .f32 x0], [] => [(true, .float .f32 (r29 x0), st0)]
 | _, _ => T21 29 args s
noncomputable def T22 : CallF := addF T21 29 s29
set_option maxRecDepth 100000 in
set_option maxHeartbeats 4000000 in
theorem ok22 : CfOk Try.prog T22 := by
  refine cfOk_add ok21 fun args s r s' h1 h2 h3 => ?_
  unfold s29 at h3; split at h3
  · rename_i h; exact callOk ok21 Try.func29 h1 h2 h (lfOkF_no _ _).body (e29 _) rfl h3
  · exact ok21 _ _ _ _ _ h1 h2 h3

/-- spec.NextDown -/
noncomputable def r10 (x0 : Nat) : Nat :=
 ((r29 x0))
noncomputable def a10 (x0 : Nat) (p : Nat) : Res := firstT [(true, .float .f32 p, st0)]
noncomputable def w10 (x0 : Nat) : Res :=
 (a10 x0 ((r29 x0)))
set_option maxRecDepth 100000 in
set_option maxHeartbeats 4000000 in
theorem e10 (x0 : Nat) : evFn Try.prog ext T22 noL 200 Try.f10 [.float .f32 x0] st0 = firstT [(true, .float .f32 (r10 x0), st0)] :=
 (show evFn Try.prog ext T22 noL 200 Try.f10 [.float .f32 x0] st0 = w10 x0 from by kernel_rfl).trans
 (show w10 x0 = a10 x0 (r10 x0) from by unfold w10 r10; exact rfl)
noncomputable def s10 (args : List Value) (s : St) : List (Bool × Value × St) :=
 match args, s.h with
 | [.float .f32 x0], [] => [(true, .float .f32 (r10 x0), st0)]
 | _, _ => T22 10 args s
noncomputable def T23 : CallF := addF T22 10 s10
set_option maxRecDepth 100000 in
set_option maxHeartbeats 4000000 in
theorem ok23 : CfOk Try.prog T23 := by
  refine cfOk_add ok22 fun args s r s' h1 h2 h3 => ?_
  unfold s10 at h3; split at h3
  · rename_i h; exact callOk ok22 Try.func10 h1 h2 h (lfOkF_no _ _).body (e10 _) rfl h3
  · exact ok22 _ _ _ _ _ h1 h2 h3

/-- (*spec.l00Src).pick -/
noncomputable def r30g (x0 x1 : Int) (x2 : List (List Int)) : Nat × Int × Int × Int :=
 cond (Nat.beq ((r47 x0 x1 x2).1) 0)
  (0, (Int.tmod ((r47 x0 x1 x2).2.1) 65), ((r47 x0 x1 x2).2.2.1), ((r47 x0 x1 x2).2.2.2))
  (1, 0, 0, 0)
noncomputable def a30g (x0 x1 : Int) (x2 : List (List Int)) (p : Nat × Int × Int × Int) : Res := firstT [((Nat.beq (p.1) 0), .int .i64 (p.2.1), ⟨[⟨true, (some (.cells [wsl 1, .int .i64 (p.2.2.1), .int .u64 (p.2.2.2)]))⟩, ⟨false, (some (.tab [.int .u8] x2))⟩], 2, [0]⟩)]
noncomputable def w30g (x0 x1 : Int) (x2 : List (List Int)) : Res :=
 (cond (Nat.beq ((r47 x0 x1 x2).1) 0)
 (a30g x0 x1 x2 (0, (Int.tmod ((r47 x0 x1 x2).2.1) 65), ((r47 x0 x1 x2).2.2.1), ((r47 x0 x1 x2).2.2.2)))
 none)
set_option maxRecDepth 100000 in
set_option maxHeartbeats 4000000 in
theorem e30g (x0 x1 : Int) (x2 : List (List Int)) : evFn Try.prog ext T23 noL 200 Try.f30 [.pointer (some ⟨0, 0, some 0⟩), .int .i64 65] ⟨[⟨true, (some (.cells [wsl 1, .int .i64 x0, .int .u64 x1]))⟩, ⟨false, (some (.tab [.int .u8] x2))⟩], 2, []⟩ = firstT [((Nat.beq ((r30g x0 x1 x2).1) 0), .int .i64 ((r30g x0 x1 x2).2.1), ⟨[⟨true, (some (.cells [wsl 1, .int .i64 ((r30g x0 x1 x2).2.2.1), .int .u64 ((r30g x0 x1 x2).2.2.2)]))⟩, ⟨false, (some (.tab [.int .u8] x2))⟩], 2, [0]⟩)] :=
 (show evFn Try.prog ext T23 noL 200 Try.f30 [.pointer (some ⟨0, 0, some 0⟩), .int .i64 65] ⟨[⟨true, (some (.cells [wsl 1, .int .i64 x0, .int .u64 x1]))⟩, ⟨false, (some (.tab [.int .u8] x2))⟩], 2, []⟩ = w30g x0 x1 x2 from by kernel_rfl).trans
 (show w30g x0 x1 x2 = a30g x0 x1 x2 (r30g x0 x1 x2) from by unfold w30g r30g; exact (cond_app (a30g x0 x1 x2) _ rfl rfl))
noncomputable def s30g (args : List Value) (s : St) : List (Bool × Value × St) :=
 match args, s.h with
 | [.pointer (some ⟨f0, f1, some f2⟩), .int .i64 f3], [⟨true, some (.cells [.iface f4 .nilIface, .int .i64 x0, .int .u64 x1])⟩, ⟨false, some (.tab [.int .u8] x2)⟩] => if f0 = 0 ∧ f1 = 0 ∧ f2 = 0 ∧ f3 = 65 ∧ f4 = 1 then [((Nat.beq ((r30g x0 x1 x2).1) 0), .int .i64 ((r30g x0 x1 x2).2.1), ⟨[⟨true, (some (.cells [wsl 1, .int .i64 ((r30g x0 x1 x2).2.2.1), .int .u64 ((r30g x0 x1 x2).2.2.2)]))⟩, ⟨false, (some (.tab [.int .u8] x2))⟩], 2, [0]⟩)] else T23 30 args s
 | _, _ => T23 30 args s
noncomputable def T24 : CallF := addF T23 30 s30g
set_option maxRecDepth 100000 in
set_option maxHeartbeats 4000000 in
theorem ok24 : CfOk Try.prog T24 := by
  refine cfOk_add ok23 fun args s r s' h1 h2 h3 => ?_
  unfold s30g at h3; split at h3
  · rename_i h; split at h3
    · rename_i hc; obtain ⟨rfl, rfl, rfl, rfl, rfl⟩ := hc; exact callOk ok23 Try.func30 h1 h2 h (lfOkF_no _ _).body (e30g _ _ _) rfl h3
    · exact ok23 _ _ _ _ _ h1 h2 h3
  · exact ok23 _ _ _ _ _ h1 h2 h3

/-- spec.A2Span -/
noncomputable def r11 (x0 : List (List Int)) : Nat × Nat × Nat :=
 cond (Nat.beq ((r30g ((r24 x0).1) ((r24 x0).2) x0).1) 0)
  (cond (Nat.beq ((r30f ((r30g ((r24 x0).1) ((r24 x0).2) x0).2.2.1) ((r30g ((r24 x0).1) ((r24 x0).2) x0).2.2.2) x0).1) 0)
   (0, (fdiv .f32 (ofInt .f32 (IntKind.i64.wrap (((r30g ((r24 x0).1) ((r24 x0).2) x0).2.1) - 32))) 1082130432), (fadd .f32 (fdiv .f32 (ofInt .f32 (IntKind.i64.wrap (((r30g ((r24 x0).1) ((r24 x0).2) x0).2.1) - 32))) 1082130432) (fdiv .f32 (ofInt .f32 ((r30f ((r30g ((r24 x0).1) ((r24 x0).2) x0).2.2.1) ((r30g ((r24 x0).1) ((r24 x0).2) x0).2.2.2) x0).2.1)) 1090519040)))
   (1, 0, 0))
  (1, 0, 0)
noncomputable def a11 (x0 : List (List Int)) (p : Nat × Nat × Nat) : Res := firstT [((Nat.beq (p.1) 0), .agg #[.float .f32 (p.2.1), .float .f32 (p.2.2)], ⟨[⟨false, (some (.tab [.int .u8] x0))⟩], 1, []⟩)]
noncomputable def w11 (x0 : List (List Int)) : Res :=
 (cond (Nat.beq ((r30g ((r24 x0).1) ((r24 x0).2) x0).1) 0)
 (cond (Nat.beq ((r30f ((r30g ((r24 x0).1) ((r24 x0).2) x0).2.2.1) ((r30g ((r24 x0).1) ((r24 x0).2) x0).2.2.2) x0).1) 0)
  (a11 x0 (0, (fdiv .f32 (ofInt .f32 (IntKind.i64.wrap (((r30g ((r24 x0).1) ((r24 x0).2) x0).2.1) - 32))) 1082130432), (fadd .f32 (fdiv .f32 (ofInt .f32 (IntKind.i64.wrap (((r30g ((r24 x0).1) ((r24 x0).2) x0).2.1) - 32))) 1082130432) (fdiv .f32 (ofInt .f32 ((r30f ((r30g ((r24 x0).1) ((r24 x0).2) x0).2.2.1) ((r30g ((r24 x0).1) ((r24 x0).2) x0).2.2.2) x0).2.1)) 1090519040))))
  none)
 none)
set_option maxRecDepth 100000 in
set_option maxHeartbeats 4000000 in
theorem e11 (x0 : List (List Int)) : evFn Try.prog ext T24 noL 200 Try.f11 [wsl 0] ⟨[⟨false, (some (.tab [.int .u8] x0))⟩], 1, []⟩ = firstT [((Nat.beq ((r11 x0).1) 0), .agg #[.float .f32 ((r11 x0).2.1), .float .f32 ((r11 x0).2.2)], ⟨[⟨false, (some (.tab [.int .u8] x0))⟩], 1, []⟩)] :=
 (show evFn Try.prog ext T24 noL 200 Try.f11 [wsl 0] ⟨[⟨false, (some (.tab [.int .u8] x0))⟩], 1, []⟩ = w11 x0 from by kernel_rfl).trans
 (show w11 x0 = a11 x0 (r11 x0) from by unfold w11 r11; exact (cond_app (a11 x0) _ (cond_app (a11 x0) _ rfl rfl) rfl))
noncomputable def s11 (args : List Value) (s : St) : List (Bool × Value × St) :=
 match args, s.h with
 | [.iface f0 .nilIface], [⟨false, some (.tab [.int .u8] x0)⟩] => if f0 = 0 then [((Nat.beq ((r11 x0).1) 0), .agg #[.float .f32 ((r11 x0).2.1), .float .f32 ((r11 x0).2.2)], ⟨[⟨false, (some (.tab [.int .u8] x0))⟩], 1, []⟩)] else T24 11 args s
 | _, _ => T24 11 args s
noncomputable def T25 : CallF := addF T24 11 s11
set_option maxRecDepth 100000 in
set_option maxHeartbeats 4000000 in
theorem ok25 : CfOk Try.prog T25 := by
  refine cfOk_add ok24 fun args s r s' h1 h2 h3 => ?_
  unfold s11 at h3; split at h3
  · rename_i h; split at h3
    · rename_i hc; obtain ⟨rfl⟩ := hc; exact callOk ok24 Try.func11 h1 h2 h (lfOkF_no _ _).body (e11 _) rfl h3
    · exact ok24 _ _ _ _ _ h1 h2 h3
  · exact ok24 _ _ _ _ _ h1 h2 h3

/-- laws.a2At -/
noncomputable def r12 (x0 x1 : Int) (x2 : List (List Int)) : Nat × Int :=
 cond (decide ((x0 : Int) ≥ ((x2.length : Nat) : Int)))
  (0, 0)
  (cond (decide ((x1 : Int) < 1))
   (0, 0)
   (cond ((decide ((0 : Int) ≤ x0)) && (Nat.blt (Int.toNat x0) x2.length))
    (cond (!decide (x1 = 0))
     (0, (Int.tmod (IntKind.i64.wrap ((x2.getD (Int.toNat x0) []).getD 0 0)) x1))
     (1, 0))
    (1, 0)))
noncomputable def a12 (x0 x1 : Int) (x2 : List (List Int)) (p : Nat × Int) : Res := firstT [((Nat.beq (p.1) 0), .int .i64 (p.2), ⟨[⟨false, (some (.tab [.int .u8] x2))⟩], 1, []⟩)]
noncomputable def w12 (x0 x1 : Int) (x2 : List (List Int)) : Res :=
 (cond (decide ((x0 : Int) ≥ ((x2.length : Nat) : Int)))
 (a12 x0 x1 x2 (0, 0))
 (cond (decide ((x1 : Int) < 1))
  (a12 x0 x1 x2 (0, 0))
  (cond ((decide ((0 : Int) ≤ x0)) && (Nat.blt (Int.toNat x0) x2.length))
   (cond (Nat.blt (Int.toNat x0) x2.length)
    (cond (!decide (x1 = 0))
     (a12 x0 x1 x2 (0, (Int.tmod (IntKind.i64.wrap ((x2.getD (Int.toNat x0) []).getD 0 0)) x1)))
     none)
    none)
   none)))
set_option maxRecDepth 100000 in
set_option maxHeartbeats 4000000 in
theorem e12 (x0 x1 : Int) (x2 : List (List Int)) : evFn Try.prog ext T25 noL 200 Try.f12 [wsl 0, .int .i64 x0, .int .i64 x1] ⟨[⟨false, (some (.tab [.int .u8] x2))⟩], 1, []⟩ = firstT [((Nat.beq ((r12 x0 x1 x2).1) 0), .int .i64 ((r12 x0 x1 x2).2), ⟨[⟨false, (some (.tab [.int .u8] x2))⟩], 1, []⟩)] :=
 (show evFn Try.prog ext T25 noL 200 Try.f12 [wsl 0, .int .i64 x0, .int .i64 x1] ⟨[⟨false, (some (.tab [.int .u8] x2))⟩], 1, []⟩ = w12 x0 x1 x2 from by kernel_rfl).trans
 (show w12 x0 x1 x2 = a12 x0 x1 x2 (r12 x0 x1 x2) from by unfold w12 r12; exact (cond_both (a12 x0 x1 x2) _ (fun h0 => rfl) (fun h0 => (cond_both (a12 x0 x1 x2) _ (fun h1 => rfl) (fun h1 => (cond_both (a12 x0 x1 x2) _ (fun h2 => (cond_t (ev_and2 h2) (cond_app (a12 x0 x1 x2) _ rfl rfl))) (fun h2 => rfl)))))))
noncomputable def s12 (args : List Value) (s : St) : List (Bool × Value × St) :=
 match args, s.h with
 | [.iface f0 .nilIface, .int .i64 x0, .int .i64 x1], [⟨false, some (.tab [.int .u8] x2)⟩] => if f0 = 0 then [((Nat.beq ((r12 x0 x1 x2).1) 0), .int .i64 ((r12 x0 x1 x2).2), ⟨[⟨false, (some (.tab [.int .u8] x2))⟩], 1, []⟩)] else T25 12 args s
 | _, _ => T25 12 args s
noncomputable def T26 : CallF := addF T25 12 s12
set_option maxRecDepth 100000 in
set_option maxHeartbeats 4000000 in
theorem ok26 : CfOk Try.prog T26 := by
  refine cfOk_add ok25 fun args s r s' h1 h2 h3 => ?_
  unfold s12 at h3; split at h3
  · rename_i h; split at h3
    · rename_i hc; obtain ⟨rfl⟩ := hc; exact callOk ok25 Try.func12 h1 h2 h (lfOkF_no _ _).body (e12 _ _ _) rfl h3
    · exact ok25 _ _ _ _ _ h1 h2 h3
  · exact ok25 _ _ _ _ _ h1 h2 h3

/-- impl.ValidSpan -/
noncomputable def r16 (x0 x1 : Nat) : Bool :=
 ((flt .f32 x0 x1 || feq .f32 x0 x1))
noncomputable def a16 (x0 x1 : Nat) (p : Bool) : Res := firstT [(true, .bool p, st0)]
noncomputable def w16 (x0 x1 : Nat) : Res :=
 (a16 x0 x1 ((flt .f32 x0 x1 || feq .f32 x0 x1)))
set_option maxRecDepth 100000 in
set_option maxHeartbeats 4000000 in
theorem e16 (x0 x1 : Nat) : evFn Try.prog ext T26 noL 200 Try.f16 [.agg #[.float .f32 x0, .float .f32 x1]] st0 = firstT [(true, .bool (r16 x0 x1), st0)] :=
 (show evFn Try.prog ext T26 noL 200 Try.f16 [.agg #[.float .f32 x0, .float .f32 x1]] st0 = w16 x0 x1 from by kernel_rfl).trans
 (show w16 x0 x1 = a16 x0 x1 (r16 x0 x1) from by unfold w16 r16; exact rfl)
noncomputable def s16 (args : List Value) (s : St) : List (Bool × Value × St) :=
 match args, s.h with
 | [.agg ⟨[.float .f32 x0, .float .f32 x1]⟩], [] => [(true, .bool (r16 x0 x1), st0)]
 | _, _ => T26 16 args s
noncomputable def T27 : CallF := addF T26 16 s16
set_option maxRecDepth 100000 in
set_option maxHeartbeats 4000000 in
theorem ok27 : CfOk Try.prog T27 := by
  refine cfOk_add ok26 fun args s r s' h1 h2 h3 => ?_
  unfold s16 at h3; split at h3
  · rename_i h; exact callOk ok26 Try.func16 h1 h2 h (lfOkF_no _ _).body (e16 _ _) rfl h3
  · exact ok26 _ _ _ _ _ h1 h2 h3

/-- impl.areSpans -/
noncomputable def r39 (x0 x1 x2 x3 : Nat) : Bool :=
 cond (!(r16 x0 x1))
  (false)
  (cond (!(r16 x2 x3))
   (false)
   (true))
noncomputable def a39 (x0 x1 x2 x3 : Nat) (p : Bool) : Res := firstT [(true, .bool p, ⟨[⟨true, (some (.tab [.fl .f32, .fl .f32] ([[((x0 : Nat) : Int), ((x1 : Nat) : Int)], [((x2 : Nat) : Int), ((x3 : Nat) : Int)]] : List (List Int))))⟩], 1, []⟩)]
noncomputable def w39 (x0 x1 x2 x3 : Nat) : Res :=
 (cond (!(r16 x0 x1))
 (a39 x0 x1 x2 x3 (false))
 (cond (!(r16 x2 x3))
  (a39 x0 x1 x2 x3 (false))
  (a39 x0 x1 x2 x3 (true))))
set_option maxRecDepth 100000 in
set_option maxHeartbeats 4000000 in
theorem e39 (x0 x1 x2 x3 : Nat) : evFn Try.prog ext T27 noL 200 Try.f39 [.slice (some ⟨0, 0, some 0⟩) 2 2] ⟨[⟨true, (some (.tab [.fl .f32, .fl .f32] ([[((x0 : Nat) : Int), ((x1 : Nat) : Int)], [((x2 : Nat) : Int), ((x3 : Nat) : Int)]] : List (List Int))))⟩], 1, []⟩ = firstT [(true, .bool (r39 x0 x1 x2 x3), ⟨[⟨true, (some (.tab [.fl .f32, .fl .f32] ([[((x0 : Nat) : Int), ((x1 : Nat) : Int)], [((x2 : Nat) : Int), ((x3 : Nat) : Int)]] : List (List Int))))⟩], 1, []⟩)] :=
 (show evFn Try.prog ext T27 noL 200 Try.f39 [.slice (some ⟨0, 0, some 0⟩) 2 2] ⟨[⟨true, (some (.tab [.fl .f32, .fl .f32] ([[((x0 : Nat) : Int), ((x1 : Nat) : Int)], [((x2 : Nat) : Int), ((x3 : Nat) : Int)]] : List (List Int))))⟩], 1, []⟩ = w39 x0 x1 x2 x3 from by kernel_rfl).trans
 (show w39 x0 x1 x2 x3 = a39 x0 x1 x2 x3 (r39 x0 x1 x2 x3) from by unfold w39 r39; exact (cond_app (a39 x0 x1 x2 x3) _ rfl (cond_app (a39 x0 x1 x2 x3) _ rfl rfl)))
noncomputable def s39 (args : List Value) (s : St) : List (Bool × Value × St) :=
 match args, s.h with
 | [.slice (some ⟨f0, f1, some f2⟩) f3 f4], [⟨true, some (.tab [.fl .f32, .fl .f32] [[.ofNat x0, .ofNat x1], [.ofNat x2, .ofNat x3]])⟩] => if f0 = 0 ∧ f1 = 0 ∧ f2 = 0 ∧ f3 = 2 ∧ f4 = 2 then [(true, .bool (r39 x0 x1 x2 x3), ⟨[⟨true, (some (.tab [.fl .f32, .fl .f32] ([[((x0 : Nat) : Int), ((x1 : Nat) : Int)], [((x2 : Nat) : Int), ((x3 : Nat) : Int)]] : List (List Int))))⟩], 1, []⟩)] else T27 39 args s
 | _, _ => T27 39 args s
noncomputable def T28 : CallF := addF T27 39 s39
set_option maxRecDepth 100000 in
set_option maxHeartbeats 4000000 in
theorem ok28 : CfOk Try.prog T28 := by
  refine cfOk_add ok27 fun args s r s' h1 h2 h3 => ?_
  unfold s39 at h3; split at h3
  · rename_i h; split at h3
    · rename_i hc; obtain ⟨rfl, rfl, rfl, rfl, rfl⟩ := hc; exact callOk ok27 Try.func39 h1 h2 h (lfOkF_no _ _).body (e39 _ _ _ _) rfl h3
    · exact ok27 _ _ _ _ _ h1 h2 h3
  · exact ok27 _ _ _ _ _ h1 h2 h3

/-- impl.infinity -/
noncomputable def r50 (x0 : Int) : Nat × Nat :=
 cond (narrowOk (r44 x0))
  (0, (narrow (r44 x0)))
  (1, 0)
noncomputable def a50 (x0 : Int) (p : Nat × Nat) : Res := firstT [((Nat.beq (p.1) 0), .float .f32 (p.2), st0)]
noncomputable def w50 (x0 : Int) : Res :=
 (cond (narrowOk (r44 x0))
 (a50 x0 (0, (narrow (r44 x0))))
 none)
set_option maxRecDepth 100000 in
set_option maxHeartbeats 4000000 in
theorem e50 (x0 : Int) : evFn Try.prog ext T28 noL 200 Try.f50 [.int .i64 x0] st0 = firstT [((Nat.beq ((r50 x0).1) 0), .float .f32 ((r50 x0).2), st0)] :=
 (show evFn Try.prog ext T28 noL 200 Try.f50 [.int .i64 x0] st0 = w50 x0 from by kernel_rfl).trans
 (show w50 x0 = a50 x0 (r50 x0) from by unfold w50 r50; exact (cond_app (a50 x0) _ rfl rfl))
noncomputable def s50 (args : List Value) (s : St) : List (Bool × Value × St) :=
 match args, s.h with
 | [.int .i64 x0], [] => [((Nat.beq ((r50 x0).1) 0), .float .f32 ((r50 x0).2), st0)]
 | _, _ => T28 50 args s
noncomputable def T29 : CallF := addF T28 50 s50
set_option maxRecDepth 100000 in
set_option maxHeartbeats 4000000 in
theorem ok29 : CfOk Try.prog T29 := by
  refine cfOk_add ok28 fun args s r s' h1 h2 h3 => ?_
  unfold s50 at h3; split at h3
  · rename_i h; exact callOk ok28 Try.func50 h1 h2 h (lfOkF_no _ _).body (e50 _) rfl h3
  · exact ok28 _ _ _ _ _ h1 h2 h3

/-- impl.lowEnd -/
noncomputable def r48 (x0 : Nat) : Nat × Nat :=
 cond (!feq .f32 x0 x0)
  (cond (Nat.beq ((r50 (-1)).1) 0)
   (0, ((r50 (-1)).2))
   (1, 0))
  (0, (r7 x0))
noncomputable def a48 (x0 : Nat) (p : Nat × Nat) : Res := firstT [((Nat.beq (p.1) 0), .float .f32 (p.2), st0)]
noncomputable def w48 (x0 : Nat) : Res :=
 (cond (!feq .f32 x0 x0)
 (cond (Nat.beq ((r50 (-1)).1) 0)
  (a48 x0 (0, ((r50 (-1)).2)))
  none)
 (a48 x0 (0, (r7 x0))))
set_option maxRecDepth 100000 in
set_option maxHeartbeats 4000000 in
theorem e48 (x0 : Nat) : evFn Try.prog ext T29 noL 200 Try.f48 [.float .f32 x0] st0 = firstT [((Nat.beq ((r48 x0).1) 0), .float .f32 ((r48 x0).2), st0)] :=
 (show evFn Try.prog ext T29 noL 200 Try.f48 [.float .f32 x0] st0 = w48 x0 from by kernel_rfl).trans
 (show w48 x0 = a48 x0 (r48 x0) from by unfold w48 r48; exact (cond_app (a48 x0) _ (cond_app (a48 x0) _ rfl rfl) rfl))
noncomputable def s48 (args : List Value) (s : St) : List (Bool × Value × St) :=
 match args, s.h with
 | [.float .f32 x0], [] => [((Nat.beq ((r48 x0).1) 0), .float .f32 ((r48 x0).2), st0)]
 | _, _ => T29 48 args s
noncomputable def T30 : CallF := addF T29 48 s48
set_option maxRecDepth 100000 in
set_option maxHeartbeats 4000000 in
theorem ok30 : CfOk Try.prog T30 := by
  refine cfOk_add ok29 fun args s r s' h1 h2 h3 => ?_
  unfold s48 at h3; split at h3
  · rename_i h; exact callOk ok29 Try.func48 h1 h2 h (lfOkF_no _ _).body (e48 _) rfl h3
  · exact ok29 _ _ _ _ _ h1 h2 h3

/-- impl.highEnd -/
noncomputable def r49 (x0 : Nat) : Nat × Nat :=
 cond (!feq .f32 x0 x0)
  (cond (Nat.beq ((r50 1).1) 0)
   (0, ((r50 1).2))
   (1, 0))
  (0, (r6 x0))
noncomputable def a49 (x0 : Nat) (p : Nat × Nat) : Res := firstT [((Nat.beq (p.1) 0), .float .f32 (p.2), st0)]
noncomputable def w49 (x0 : Nat) : Res :=
 (cond (!feq .f32 x0 x0)
 (cond (Nat.beq ((r50 1).1) 0)
  (a49 x0 (0, ((r50 1).2)))
  none)
 (a49 x0 (0, (r6 x0))))
set_option maxRecDepth 100000 in
set_option maxHeartbeats 4000000 in
theorem e49 (x0 : Nat) : evFn Try.prog ext T30 noL 200 Try.f49 [.float .f32 x0] st0 = firstT [((Nat.beq ((r49 x0).1) 0), .float .f32 ((r49 x0).2), st0)] :=
 (show evFn Try.prog ext T30 noL 200 Try.f49 [.float .f32 x0] st0 = w49 x0 from by kernel_rfl).trans
 (show w49 x0 = a49 x0 (r49 x0) from by unfold w49 r49; exact (cond_app (a49 x0) _ (cond_app (a49 x0) _ rfl rfl) rfl))
noncomputable def s49 (args : List Value) (s : St) : List (Bool × Value × St) :=
 match args, s.h with
 | [.float .f32 x0], [] => [((Nat.beq ((r49 x0).1) 0), .float .f32 ((r49 x0).2), st0)]
 | _, _ => T30 49 args s
noncomputable def T31 : CallF := addF T30 49 s49
set_option maxRecDepth 100000 in
set_option maxHeartbeats 4000000 in
theorem ok31 : CfOk Try.prog T31 := by
  refine cfOk_add ok30 fun args s r s' h1 h2 h3 => ?_
  unfold s49 at h3; split at h3
  · rename_i h; exact callOk ok30 Try.func49 h1 h2 h (lfOkF_no _ _).body (e49 _) rfl h3
  · exact ok30 _ _ _ _ _ h1 h2 h3

/-- impl.addSpans -/
noncomputable def r32 (x0 x1 x2 x3 : Nat) : Nat × Nat × Nat :=
 cond (Nat.beq ((r48 (fadd .f32 x0 x2)).1) 0)
  (cond (Nat.beq ((r49 (fadd .f32 x1 x3)).1) 0)
   (0, ((r48 (fadd .f32 x0 x2)).2), ((r49 (fadd .f32 x1 x3)).2))
   (1, 0, 0))
  (1, 0, 0)
noncomputable def a32 (x0 x1 x2 x3 : Nat) (p : Nat × Nat × Nat) : Res := firstT [((Nat.beq (p.1) 0), .agg #[.float .f32 (p.2.1), .float .f32 (p.2.2)], st0)]
noncomputable def w32 (x0 x1 x2 x3 : Nat) : Res :=
 (cond (Nat.beq ((r48 (fadd .f32 x0 x2)).1) 0)
 (cond (Nat.beq ((r49 (fadd .f32 x1 x3)).1) 0)
  (a32 x0 x1 x2 x3 (0, ((r48 (fadd .f32 x0 x2)).2), ((r49 (fadd .f32 x1 x3)).2)))
  none)
 none)
set_option maxRecDepth 100000 in
set_option maxHeartbeats 4000000 in
theorem e32 (x0 x1 x2 x3 : Nat) : evFn Try.prog ext T31 noL 200 Try.f32 [.agg #[.float .f32 x0, .float .f32 x1], .agg #[.float .f32 x2, .float .f32 x3]] st0 = firstT [((Nat.beq ((r32 x0 x1 x2 x3).1) 0), .agg #[.float .f32 ((r32 x0 x1 x2 x3).2.1), .float .f32 ((r32 x0 x1 x2 x3).2.2)], st0)] :=
 (show evFn Try.prog ext T31 noL 200 Try.f32 [.agg #[.float .f32 x0, .float .f32 x1], .agg #[.float .f32 x2, .float .f32 x3]] st0 = w32 x0 x1 x2 x3 from by kernel_rfl).trans
 (show w32 x0 x1 x2 x3 = a32 x0 x1 x2 x3 (r32 x0 x1 x2 x3) from by unfold w32 r32; exact (cond_app (a32 x0 x1 x2 x3) _ (cond_app (a32 x0 x1 x2 x3) _ rfl rfl) rfl))
noncomputable def s32 (args : List Value) (s : St) : List (Bool × Value × St) :=
 match args, s.h with
 | [.agg ⟨[.float .f32 x0, .float .f32 x1]⟩, .agg ⟨[.float .f32 x2, .float .f32 x3]⟩], [] => [((Nat.beq ((r32 x0 x1 x2 x3).1) 0), .agg #[.float .f32 ((r32 x0 x1 x2 x3).2.1), .float .f32 ((r32 x0 x1 x2 x3).2.2)], st0)]
 | _, _ => T31 32 args s
noncomputable def T32 : CallF := addF T31 32 s32
set_option maxRecDepth 100000 in
set_option maxHeartbeats 4000000 in
theorem ok32 : CfOk Try.prog T32 := by
  refine cfOk_add ok31 fun args s r s' h1 h2 h3 => ?_
  unfold s32 at h3; split at h3
  · rename_i h; exact callOk ok31 Try.func32 h1 h2 h (lfOkF_no _ _).body (e32 _ _ _ _) rfl h3
  · exact ok31 _ _ _ _ _ h1 h2 h3

/-- impl.onSpans -/
noncomputable def r31 (x0 x1 x2 x3 : Nat) : Nat × Nat × Nat × Int :=
 cond (!(r39 x0 x1 x2 x3))
  (0, 0, 0, 1)
  (cond (Nat.beq ((r32 x0 x1 x2 x3).1) 0)
   (0, ((r32 x0 x1 x2 x3).2.1), ((r32 x0 x1 x2 x3).2.2), 0)
   (1, 0, 0, 0))
noncomputable def a31 (x0 x1 x2 x3 : Nat) (p : Nat × Nat × Nat × Int) : Res := firstT [((Nat.beq (p.1) 0), .tuple #[.agg #[.float .f32 (p.2.1), .float .f32 (p.2.2.1)], .int .i64 (p.2.2.2)], st0)]
noncomputable def w31 (x0 x1 x2 x3 : Nat) : Res :=
 (cond (!(r39 x0 x1 x2 x3))
 (a31 x0 x1 x2 x3 (0, 0, 0, 1))
 (cond (Nat.beq ((r32 x0 x1 x2 x3).1) 0)
  (a31 x0 x1 x2 x3 (0, ((r32 x0 x1 x2 x3).2.1), ((r32 x0 x1 x2 x3).2.2), 0))
  none))
set_option maxRecDepth 100000 in
set_option maxHeartbeats 4000000 in
theorem e31 (x0 x1 x2 x3 : Nat) : evFn Try.prog ext T32 noL 200 Try.f31 [.agg #[.float .f32 x0, .float .f32 x1], .agg #[.float .f32 x2, .float .f32 x3], .func (.func 32) #[] #[]] st0 = firstT [((Nat.beq ((r31 x0 x1 x2 x3).1) 0), .tuple #[.agg #[.float .f32 ((r31 x0 x1 x2 x3).2.1), .float .f32 ((r31 x0 x1 x2 x3).2.2.1)], .int .i64 ((r31 x0 x1 x2 x3).2.2.2)], st0)] :=
 (show evFn Try.prog ext T32 noL 200 Try.f31 [.agg #[.float .f32 x0, .float .f32 x1], .agg #[.float .f32 x2, .float .f32 x3], .func (.func 32) #[] #[]] st0 = w31 x0 x1 x2 x3 from by kernel_rfl).trans
 (show w31 x0 x1 x2 x3 = a31 x0 x1 x2 x3 (r31 x0 x1 x2 x3) from by unfold w31 r31; exact (cond_app (a31 x0 x1 x2 x3) _ rfl (cond_app (a31 x0 x1 x2 x3) _ rfl rfl)))
noncomputable def s31 (args : List Value) (s : St) : List (Bool × Value × St) :=
 match args, s.h with
 | [.agg ⟨[.float .f32 x0, .float .f32 x1]⟩, .agg ⟨[.float .f32 x2, .float .f32 x3]⟩, .func (.func f0) ⟨[]⟩ ⟨[]⟩], [] => if f0 = 32 then [((Nat.beq ((r31 x0 x1 x2 x3).1) 0), .tuple #[.agg #[.float .f32 ((r31 x0 x1 x2 x3).2.1), .float .f32 ((r31 x0 x1 x2 x3).2.2.1)], .int .i64 ((r31 x0 x1 x2 x3).2.2.2)], st0)] else T32 31 args s
 | _, _ => T32 31 args s
noncomputable def T33 : CallF := addF T32 31 s31
set_option maxRecDepth 100000 in
set_option maxHeartbeats 4000000 in
theorem ok33 : CfOk Try.prog T33 := by
  refine cfOk_add ok32 fun args s r s' h1 h2 h3 => ?_
  unfold s31 at h3; split at h3
  · rename_i h; split at h3
    · rename_i hc; obtain ⟨rfl⟩ := hc; exact callOk ok32 Try.func31 h1 h2 h (lfOkF_no _ _).body (e31 _ _ _ _) rfl h3
    · exact ok32 _ _ _ _ _ h1 h2 h3
  · exact ok32 _ _ _ _ _ h1 h2 h3

/-- impl.AddSpans -/
noncomputable def r13 (x0 x1 x2 x3 : Nat) : Nat × Nat × Nat × Int :=
 cond (Nat.beq ((r31 x0 x1 x2 x3).1) 0)
  (0, ((r31 x0 x1 x2 x3).2.1), ((r31 x0 x1 x2 x3).2.2.1), ((r31 x0 x1 x2 x3).2.2.2))
  (1, 0, 0, 0)
noncomputable def a13 (x0 x1 x2 x3 : Nat) (p : Nat × Nat × Nat × Int) : Res := firstT [((Nat.beq (p.1) 0), .tuple #[.agg #[.float .f32 (p.2.1), .float .f32 (p.2.2.1)], .int .i64 (p.2.2.2)], st0)]
noncomputable def w13 (x0 x1 x2 x3 : Nat) : Res :=
 (cond (Nat.beq ((r31 x0 x1 x2 x3).1) 0)
 (a13 x0 x1 x2 x3 (0, ((r31 x0 x1 x2 x3).2.1), ((r31 x0 x1 x2 x3).2.2.1), ((r31 x0 x1 x2 x3).2.2.2)))
 none)
set_option maxRecDepth 100000 in
set_option maxHeartbeats 4000000 in
theorem e13 (x0 x1 x2 x3 : Nat) : evFn Try.prog ext T33 noL 200 Try.f13 [.agg #[.float .f32 x0, .float .f32 x1], .agg #[.float .f32 x2, .float .f32 x3]] st0 = firstT [((Nat.beq ((r13 x0 x1 x2 x3).1) 0), .tuple #[.agg #[.float .f32 ((r13 x0 x1 x2 x3).2.1), .float .f32 ((r13 x0 x1 x2 x3).2.2.1)], .int .i64 ((r13 x0 x1 x2 x3).2.2.2)], st0)] :=
 (show evFn Try.prog ext T33 noL 200 Try.f13 [.agg #[.float .f32 x0, .float .f32 x1], .agg #[.float .f32 x2, .float .f32 x3]] st0 = w13 x0 x1 x2 x3 from by kernel_rfl).trans
 (show w13 x0 x1 x2 x3 = a13 x0 x1 x2 x3 (r13 x0 x1 x2 x3) from by unfold w13 r13; exact (cond_app (a13 x0 x1 x2 x3) _ rfl rfl))
noncomputable def s13 (args : List Value) (s : St) : List (Bool × Value × St) :=
 match args, s.h with
 | [.agg ⟨[.float .f32 x0, .float .f32 x1]⟩, .agg ⟨[.float .f32 x2, .float .f32 x3]⟩], [] => [((Nat.beq ((r13 x0 x1 x2 x3).1) 0), .tuple #[.agg #[.float .f32 ((r13 x0 x1 x2 x3).2.1), .float .f32 ((r13 x0 x1 x2 x3).2.2.1)], .int .i64 ((r13 x0 x1 x2 x3).2.2.2)], st0)]
 | _, _ => T33 13 args s
noncomputable def T34 : CallF := addF T33 13 s13
set_option maxRecDepth 100000 in
set_option maxHeartbeats 4000000 in
theorem ok34 : CfOk Try.prog T34 := by
  refine cfOk_add ok33 fun args s r s' h1 h2 h3 => ?_
  unfold s13 at h3; split at h3
  · rename_i h; exact callOk ok33 Try.func13 h1 h2 h (lfOkF_no _ _).body (e13 _ _ _ _) rfl h3
  · exact ok33 _ _ _ _ _ h1 h2 h3

/-- impl.subSpans -/
noncomputable def r33 (x0 x1 x2 x3 : Nat) : Nat × Nat × Nat :=
 cond (Nat.beq ((r48 (fsub .f32 x0 x3)).1) 0)
  (cond (Nat.beq ((r49 (fsub .f32 x1 x2)).1) 0)
   (0, ((r48 (fsub .f32 x0 x3)).2), ((r49 (fsub .f32 x1 x2)).2))
   (1, 0, 0))
  (1, 0, 0)
noncomputable def a33 (x0 x1 x2 x3 : Nat) (p : Nat × Nat × Nat) : Res := firstT [((Nat.beq (p.1) 0), .agg #[.float .f32 (p.2.1), .float .f32 (p.2.2)], st0)]
noncomputable def w33 (x0 x1 x2 x3 : Nat) : Res :=
 (cond (Nat.beq ((r48 (fsub .f32 x0 x3)).1) 0)
 (cond (Nat.beq ((r49 (fsub .f32 x1 x2)).1) 0)
  (a33 x0 x1 x2 x3 (0, ((r48 (fsub .f32 x0 x3)).2), ((r49 (fsub .f32 x1 x2)).2)))
  none)
 none)
set_option maxRecDepth 100000 in
set_option maxHeartbeats 4000000 in
theorem e33 (x0 x1 x2 x3 : Nat) : evFn Try.prog ext T34 noL 200 Try.f33 [.agg #[.float .f32 x0, .float .f32 x1], .agg #[.float .f32 x2, .float .f32 x3]] st0 = firstT [((Nat.beq ((r33 x0 x1 x2 x3).1) 0), .agg #[.float .f32 ((r33 x0 x1 x2 x3).2.1), .float .f32 ((r33 x0 x1 x2 x3).2.2)], st0)] :=
 (show evFn Try.prog ext T34 noL 200 Try.f33 [.agg #[.float .f32 x0, .float .f32 x1], .agg #[.float .f32 x2, .float .f32 x3]] st0 = w33 x0 x1 x2 x3 from by kernel_rfl).trans
 (show w33 x0 x1 x2 x3 = a33 x0 x1 x2 x3 (r33 x0 x1 x2 x3) from by unfold w33 r33; exact (cond_app (a33 x0 x1 x2 x3) _ (cond_app (a33 x0 x1 x2 x3) _ rfl rfl) rfl))
noncomputable def s33 (args : List Value) (s : St) : List (Bool × Value × St) :=
 match args, s.h with
 | [.agg ⟨[.float .f32 x0, .float .f32 x1]⟩, .agg ⟨[.float .f32 x2, .float .f32 x3]⟩], [] => [((Nat.beq ((r33 x0 x1 x2 x3).1) 0), .agg #[.float .f32 ((r33 x0 x1 x2 x3).2.1), .float .f32 ((r33 x0 x1 x2 x3).2.2)], st0)]
 | _, _ => T34 33 args s
noncomputable def T35 : CallF := addF T34 33 s33
set_option maxRecDepth 100000 in
set_option maxHeartbeats 4000000 in
theorem ok35 : CfOk Try.prog T35 := by
  refine cfOk_add ok34 fun args s r s' h1 h2 h3 => ?_
  unfold s33 at h3; split at h3
  · rename_i h; exact callOk ok34 Try.func33 h1 h2 h (lfOkF_no _ _).body (e33 _ _ _ _) rfl h3
  · exact ok34 _ _ _ _ _ h1 h2 h3

/-- impl.onSpans -/
noncomputable def r31b (x0 x1 x2 x3 : Nat) : Nat × Nat × Nat × Int :=
 cond (!(r39 x0 x1 x2 x3))
  (0, 0, 0, 1)
  (cond (Nat.beq ((r33 x0 x1 x2 x3).1) 0)
   (0, ((r33 x0 x1 x2 x3).2.1), ((r33 x0 x1 x2 x3).2.2), 0)
   (1, 0, 0, 0))
noncomputable def a31b (x0 x1 x2 x3 : Nat) (p : Nat × Nat × Nat × Int) : Res := firstT [((Nat.beq (p.1) 0), .tuple #[.agg #[.float .f32 (p.2.1), .float .f32 (p.2.2.1)], .int .i64 (p.2.2.2)], st0)]
noncomputable def w31b (x0 x1 x2 x3 : Nat) : Res :=
 (cond (!(r39 x0 x1 x2 x3))
 (a31b x0 x1 x2 x3 (0, 0, 0, 1))
 (cond (Nat.beq ((r33 x0 x1 x2 x3).1) 0)
  (a31b x0 x1 x2 x3 (0, ((r33 x0 x1 x2 x3).2.1), ((r33 x0 x1 x2 x3).2.2), 0))
  none))
set_option maxRecDepth 100000 in
set_option maxHeartbeats 4000000 in
theorem e31b (x0 x1 x2 x3 : Nat) : evFn Try.prog ext T35 noL 200 Try.f31 [.agg #[.float .f32 x0, .float .f32 x1], .agg #[.float .f32 x2, .float .f32 x3], .func (.func 33) #[] #[]] st0 = firstT [((Nat.beq ((r31b x0 x1 x2 x3).1) 0), .tuple #[.agg #[.float .f32 ((r31b x0 x1 x2 x3).2.1), .float .f32 ((r31b x0 x1 x2 x3).2.2.1)], .int .i64 ((r31b x0 x1 x2 x3).2.2.2)], st0)] :=
 (show evFn Try.prog ext T35 noL 200 Try.f31 [.agg #[.float .f32 x0, .float .f32 x1], .agg #[.float .f32 x2, .float .f32 x3], .func (.func 33) #[] #[]] st0 = w31b x0 x1 x2 x3 from by kernel_rfl).trans
 (show w31b x0 x1 x2 x3 = a31b x0 x1 x2 x3 (r31b x0 x1 x2 x3) from by unfold w31b r31b; exact (cond_app (a31b x0 x1 x2 x3) _ rfl (cond_app (a31b x0 x1 x2 x3) _ rfl rfl)))
noncomputable def s31b (args : List Value) (s : St) : List (Bool × Value × St) :=
 match args, s.h with
 | [.agg ⟨[.float .f32 x0, .float .f32 x1]⟩, .agg ⟨[.float .f32 x2, .float .f32 x3]⟩, .func (.func f0) ⟨[]⟩ ⟨[]⟩], [] => if f0 = 33 then [((Nat.beq ((r31b x0 x1 x2 x3).1) 0), .tuple #[.agg #[.float .f32 ((r31b x0 x1 x2 x3).2.1), .float .f32 ((r31b x0 x1 x2 x3).2.2.1)], .int .i64 ((r31b x0 x1 x2 x3).2.2.2)], st0)] else T35 31 args s
 | _, _ => T35 31 args s
noncomputable def T36 : CallF := addF T35 31 s31b
set_option maxRecDepth 100000 in
set_option maxHeartbeats 4000000 in
theorem ok36 : CfOk Try.prog T36 := by
  refine cfOk_add ok35 fun args s r s' h1 h2 h3 => ?_
  unfold s31b at h3; split at h3
  · rename_i h; split at h3
    · rename_i hc; obtain ⟨rfl⟩ := hc; exact callOk ok35 Try.func31 h1 h2 h (lfOkF_no _ _).body (e31b _ _ _ _) rfl h3
    · exact ok35 _ _ _ _ _ h1 h2 h3
  · exact ok35 _ _ _ _ _ h1 h2 h3

/-- impl.SubSpans -/
noncomputable def r14 (x0 x1 x2 x3 : Nat) : Nat × Nat × Nat × Int :=
 cond (Nat.beq ((r31b x0 x1 x2 x3).1) 0)
  (0, ((r31b x0 x1 x2 x3).2.1), ((r31b x0 x1 x2 x3).2.2.1), ((r31b x0 x1 x2 x3).2.2.2))
  (1, 0, 0, 0)
noncomputable def a14 (x0 x1 x2 x3 : Nat) (p : Nat × Nat × Nat × Int) : Res := firstT [((Nat.beq (p.1) 0), .tuple #[.agg #[.float .f32 (p.2.1), .float .f32 (p.2.2.1)], .int .i64 (p.2.2.2)], st0)]
noncomputable def w14 (x0 x1 x2 x3 : Nat) : Res :=
 (cond (Nat.beq ((r31b x0 x1 x2 x3).1) 0)
 (a14 x0 x1 x2 x3 (0, ((r31b x0 x1 x2 x3).2.1), ((r31b x0 x1 x2 x3).2.2.1), ((r31b x0 x1 x2 x3).2.2.2)))
 none)
set_option maxRecDepth 100000 in
set_option maxHeartbeats 4000000 in
theorem e14 (x0 x1 x2 x3 : Nat) : evFn Try.prog ext T36 noL 200 Try.f14 [.agg #[.float .f32 x0, .float .f32 x1], .agg #[.float .f32 x2, .float .f32 x3]] st0 = firstT [((Nat.beq ((r14 x0 x1 x2 x3).1) 0), .tuple #[.agg #[.float .f32 ((r14 x0 x1 x2 x3).2.1), .float .f32 ((r14 x0 x1 x2 x3).2.2.1)], .int .i64 ((r14 x0 x1 x2 x3).2.2.2)], st0)] :=
 (show evFn Try.prog ext T36 noL 200 Try.f14 [.agg #[.float .f32 x0, .float .f32 x1], .agg #[.float .f32 x2, .float .f32 x3]] st0 = w14 x0 x1 x2 x3 from by kernel_rfl).trans
 (show w14 x0 x1 x2 x3 = a14 x0 x1 x2 x3 (r14 x0 x1 x2 x3) from by unfold w14 r14; exact (cond_app (a14 x0 x1 x2 x3) _ rfl rfl))
noncomputable def s14 (args : List Value) (s : St) : List (Bool × Value × St) :=
 match args, s.h with
 | [.agg ⟨[.float .f32 x0, .float .f32 x1]⟩, .agg ⟨[.float .f32 x2, .float .f32 x3]⟩], [] => [((Nat.beq ((r14 x0 x1 x2 x3).1) 0), .tuple #[.agg #[.float .f32 ((r14 x0 x1 x2 x3).2.1), .float .f32 ((r14 x0 x1 x2 x3).2.2.1)], .int .i64 ((r14 x0 x1 x2 x3).2.2.2)], st0)]
 | _, _ => T36 14 args s
noncomputable def T37 : CallF := addF T36 14 s14
set_option maxRecDepth 100000 in
set_option maxHeartbeats 4000000 in
theorem ok37 : CfOk Try.prog T37 := by
  refine cfOk_add ok36 fun args s r s' h1 h2 h3 => ?_
  unfold s14 at h3; split at h3
  · rename_i h; exact callOk ok36 Try.func14 h1 h2 h (lfOkF_no _ _).body (e14 _ _ _ _) rfl h3
  · exact ok36 _ _ _ _ _ h1 h2 h3

/-- impl.lesser -/
noncomputable def r41 (x0 x1 : Nat) : Nat :=
 cond (flt .f32 x1 x0)
  (x1)
  (x0)
noncomputable def a41 (x0 x1 : Nat) (p : Nat) : Res := firstT [(true, .float .f32 p, st0)]
noncomputable def w41 (x0 x1 : Nat) : Res :=
 (cond (flt .f32 x1 x0)
 (a41 x0 x1 (x1))
 (a41 x0 x1 (x0)))
set_option maxRecDepth 100000 in
set_option maxHeartbeats 4000000 in
theorem e41 (x0 x1 : Nat) : evFn Try.prog ext T37 noL 200 Try.f41 [.float .f32 x0, .float .f32 x1] st0 = firstT [(true, .float .f32 (r41 x0 x1), st0)] :=
 (show evFn Try.prog ext T37 noL 200 Try.f41 [.float .f32 x0, .float .f32 x1] st0 = w41 x0 x1 from by kernel_rfl).trans
 (show w41 x0 x1 = a41 x0 x1 (r41 x0 x1) from by unfold w41 r41; exact (cond_app (a41 x0 x1) _ rfl rfl))
noncomputable def s41 (args : List Value) (s : St) : List (Bool × Value × St) :=
 match args, s.h with
 | [.float .f32 x0, .float .f32 x1], [] => [(true, .float .f32 (r41 x0 x1), st0)]
 | _, _ => T37 41 args s
noncomputable def T38 : CallF := addF T37 41 s41
set_option maxRecDepth 100000 in
set_option maxHeartbeats 4000000 in
theorem ok38 : CfOk Try.prog T38 := by
  refine cfOk_add ok37 fun args s r s' h1 h2 h3 => ?_
  unfold s41 at h3; split at h3
  · rename_i h; exact callOk ok37 Try.func41 h1 h2 h (lfOkF_no _ _).body (e41 _ _) rfl h3
  · exact ok37 _ _ _ _ _ h1 h2 h3

/-- impl.greater -/
noncomputable def r40 (x0 x1 : Nat) : Nat :=
 cond (fgt .f32 x1 x0)
  (x1)
  (x0)
noncomputable def a40 (x0 x1 : Nat) (p : Nat) : Res := firstT [(true, .float .f32 p, st0)]
noncomputable def w40 (x0 x1 : Nat) : Res :=
 (cond (fgt .f32 x1 x0)
 (a40 x0 x1 (x1))
 (a40 x0 x1 (x0)))
set_option maxRecDepth 100000 in
set_option maxHeartbeats 4000000 in
theorem e40 (x0 x1 : Nat) : evFn Try.prog ext T38 noL 200 Try.f40 [.float .f32 x0, .float .f32 x1] st0 = firstT [(true, .float .f32 (r40 x0 x1), st0)] :=
 (show evFn Try.prog ext T38 noL 200 Try.f40 [.float .f32 x0, .float .f32 x1] st0 = w40 x0 x1 from by kernel_rfl).trans
 (show w40 x0 x1 = a40 x0 x1 (r40 x0 x1) from by unfold w40 r40; exact (cond_app (a40 x0 x1) _ rfl rfl))
noncomputable def s40 (args : List Value) (s : St) : List (Bool × Value × St) :=
 match args, s.h with
 | [.float .f32 x0, .float .f32 x1], [] => [(true, .float .f32 (r40 x0 x1), st0)]
 | _, _ => T38 40 args s
noncomputable def T39 : CallF := addF T38 40 s40
set_option maxRecDepth 100000 in
set_option maxHeartbeats 4000000 in
theorem ok39 : CfOk Try.prog T39 := by
  refine cfOk_add ok38 fun args s r s' h1 h2 h3 => ?_
  unfold s40 at h3; split at h3
  · rename_i h; exact callOk ok38 Try.func40 h1 h2 h (lfOkF_no _ _).body (e40 _ _) rfl h3
  · exact ok38 _ _ _ _ _ h1 h2 h3

/-- impl.mulSpans -/
noncomputable def r34 (x0 x1 x2 x3 : Nat) : Nat × Nat × Nat :=
 cond (!feq .f32 (fmul .f32 x0 x2) (fmul .f32 x0 x2))
  (cond (Nat.beq ((r50 (-1)).1) 0)
   (cond (Nat.beq ((r50 1).1) 0)
    (0, ((r50 (-1)).2), ((r50 1).2))
    (1, 0, 0))
   (1, 0, 0))
  (cond (!feq .f32 (fmul .f32 x0 x3) (fmul .f32 x0 x3))
   (cond (Nat.beq ((r50 (-1)).1) 0)
    (cond (Nat.beq ((r50 1).1) 0)
     (0, ((r50 (-1)).2), ((r50 1).2))
     (1, 0, 0))
    (1, 0, 0))
   (cond (!feq .f32 (fmul .f32 x1 x2) (fmul .f32 x1 x2))
    (cond (Nat.beq ((r50 (-1)).1) 0)
     (cond (Nat.beq ((r50 1).1) 0)
      (0, ((r50 (-1)).2), ((r50 1).2))
      (1, 0, 0))
     (1, 0, 0))
    (cond (!feq .f32 (fmul .f32 x1 x3) (fmul .f32 x1 x3))
     (cond (Nat.beq ((r50 (-1)).1) 0)
      (cond (Nat.beq ((r50 1).1) 0)
       (0, ((r50 (-1)).2), ((r50 1).2))
       (1, 0, 0))
      (1, 0, 0))
     (0, (r7 (r41 (r41 (r41 (r41 (fmul .f32 x0 x2) (fmul .f32 x0 x2)) (fmul .f32 x0 x3)) (fmul .f32 x1 x2)) (fmul .f32 x1 x3))), (r6 (r40 (r40 (r40 (r40 (fmul .f32 x0 x2) (fmul .f32 x0 x2)) (fmul .f32 x0 x3)) (fmul .f32 x1 x2)) (fmul .f32 x1 x3)))))))
noncomputable def a34 (x0 x1 x2 x3 : Nat) (p : Nat × Nat × Nat) : Res := firstT [((Nat.beq (p.1) 0), .agg #[.float .f32 (p.2.1), .float .f32 (p.2.2)], st0)]
noncomputable def w34 (x0 x1 x2 x3 : Nat) : Res :=
 (cond (!feq .f32 (fmul .f32 x0 x2) (fmul .f32 x0 x2))
 (cond (Nat.beq ((r50 (-1)).1) 0)
  (cond (Nat.beq ((r50 1).1) 0)
   (a34 x0 x1 x2 x3 (0, ((r50 (-1)).2), ((r50 1).2)))
   none)
  none)
 (cond (!feq .f32 (fmul .f32 x0 x3) (fmul .f32 x0 x3))
  (cond (Nat.beq ((r50 (-1)).1) 0)
   (cond (Nat.beq ((r50 1).1) 0)
    (a34 x0 x1 x2 x3 (0, ((r50 (-1)).2), ((r50 1).2)))
    none)
   none)
  (cond (!feq .f32 (fmul .f32 x1 x2) (fmul .f32 x1 x2))
   (cond (Nat.beq ((r50 (-1)).1) 0)
    (cond (Nat.beq ((r50 1).1) 0)
     (a34 x0 x1 x2 x3 (0, ((r50 (-1)).2), ((r50 1).2)))
     none)
    none)
   (cond (!feq .f32 (fmul .f32 x1 x3) (fmul .f32 x1 x3))
    (cond (Nat.beq ((r50 (-1)).1) 0)
     (cond (Nat.beq ((r50 1).1) 0)
      (a34 x0 x1 x2 x3 (0, ((r50 (-1)).2), ((r50 1).2)))
      none)
     none)
    (a34 x0 x1 x2 x3 (0, (r7 (r41 (r41 (r41 (r41 (fmul .f32 x0 x2) (fmul .f32 x0 x2)) (fmul .f32 x0 x3)) (fmul .f32 x1 x2)) (fmul .f32 x1 x3))), (r6 (r40 (r40 (r40 (r40 (fmul .f32 x0 x2) (fmul .f32 x0 x2)) (fmul .f32 x0 x3)) (fmul .f32 x1 x2)) (fmul .f32 x1 x3)))))))))
set_option maxRecDepth 100000 in
set_option maxHeartbeats 4000000 in
theorem e34 (x0 x1 x2 x3 : Nat) : evFn Try.prog ext T39 noL 200 Try.f34 [.agg #[.float .f32 x0, .float .f32 x1], .agg #[.float .f32 x2, .float .f32 x3]] st0 = firstT [((Nat.beq ((r34 x0 x1 x2 x3).1) 0), .agg #[.float .f32 ((r34 x0 x1 x2 x3).2.1), .float .f32 ((r34 x0 x1 x2 x3).2.2)], st0)] :=
 (show evFn Try.prog ext T39 noL 200 Try.f34 [.agg #[.float .f32 x0, .float .f32 x1], .agg #[.float .f32 x2, .float .f32 x3]] st0 = w34 x0 x1 x2 x3 from by kernel_rfl).trans
 (show w34 x0 x1 x2 x3 = a34 x0 x1 x2 x3 (r34 x0 x1 x2 x3) from by unfold w34 r34; exact (cond_app (a34 x0 x1 x2 x3) _ (cond_app (a34 x0 x1 x2 x3) _ (cond_app (a34 x0 x1 x2 x3) _ rfl rfl) rfl) (cond_app (a34 x0 x1 x2 x3) _ (cond_app (a34 x0 x1 x2 x3) _ (cond_app (a34 x0 x1 x2 x3) _ rfl rfl) rfl) (cond_app (a34 x0 x1 x2 x3) _ (cond_app (a34 x0 x1 x2 x3) _ (cond_app (a34 x0 x1 x2 x3) _ rfl rfl) rfl) (cond_app (a34 x0 x1 x2 x3) _ (cond_app (a34 x0 x1 x2 x3) _ (cond_app (a34 x0 x1 x2 x3) _ rfl rfl) rfl) rfl)))))
noncomputable def s34 (args : List Value) (s : St) : List (Bool × Value × St) :=
 match args, s.h with
 | [.agg ⟨[.float .f32 x0, .float .f32 x1]⟩, .agg ⟨[.float .f32 x2, .float .f32 x3]⟩], [] => [((Nat.beq ((r34 x0 x1 x2 x3).1) 0), .agg #[.float .f32 ((r34 x0 x1 x2 x3).2.1), .float .f32 ((r34 x0 x1 x2 x3).2.2)], st0)]
 | _, _ => T39 34 args s
noncomputable def T40 : CallF := addF T39 34 s34
set_option maxRecDepth 100000 in
set_option maxHeartbeats 4000000 in
theorem ok40 : CfOk Try.prog T40 := by
  refine cfOk_add ok39 fun args s r s' h1 h2 h3 => ?_
  unfold s34 at h3; split at h3
  · rename_i h; exact callOk ok39 Try.func34 h1 h2 h (lfOkF_no _ _).body (e34 _ _ _ _) rfl h3
  · exact ok39 _ _ _ _ _ h1 h2 h3

/-- impl.onSpans -/
noncomputable def r31c (x0 x1 x2 x3 : Nat) : Nat × Nat × Nat × Int :=
 cond (!(r39 x0 x1 x2 x3))
  (0, 0, 0, 1)
  (cond (Nat.beq ((r34 x0 x1 x2 x3).1) 0)
   (0, ((r34 x0 x1 x2 x3).2.1), ((r34 x0 x1 x2 x3).2.2), 0)
   (1, 0, 0, 0))
noncomputable def a31c (x0 x1 x2 x3 : Nat) (p : Nat × Nat × Nat × Int) : Res := firstT [((Nat.beq (p.1) 0), .tuple #[.agg #[.float .f32 (p.2.1), .float .f32 (p.2.2.1)], .int .i64 (p.2.2.2)], st0)]
noncomputable def w31c (x0 x1 x2 x3 : Nat) : Res :=
 (cond (!(r39 x0 x1 x2 x3))
 (a31c x0 x1 x2 x3 (0, 0, 0, 1))
 (cond (Nat.beq ((r34 x0 x1 x2 x3).1) 0)
  (a31c x0 x1 x2 x3 (0, ((r34 x0 x1 x2 x3).2.1), ((r34 x0 x1 x2 x3).2.2), 0))
  none))
set_option maxRecDepth 100000 in
set_option maxHeartbeats 4000000 in
theorem e31c (x0 x1 x2 x3 : Nat) : evFn Try.prog ext T40 noL 200 Try.f31 [.agg #[.float .f32 x0, .float .f32 x1], .agg #[.float .f32 x2, .float .f32 x3], .func (.func 34) #[] #[]] st0 = firstT [((Nat.beq ((r31c x0 x1 x2 x3).1) 0), .tuple #[.agg #[.float .f32 ((r31c x0 x1 x2 x3).2.1), .float .f32 ((r31c x0 x1 x2 x3).2.2.1)], .int .i64 ((r31c x0 x1 x2 x3).2.2.2)], st0)] :=
 (show evFn Try.prog ext T40 noL 200 Try.f31 [.agg #[.float .f32 x0, .float .f32 x1], .agg #[.float .f32 x2, .float .f32 x3], .func (.func 34) #[] #[]] st0 = w31c x0 x1 x2 x3 from by kernel_rfl).trans
 (show w31c x0 x1 x2 x3 = a31c x0 x1 x2 x3 (r31c x0 x1 x2 x3) from by unfold w31c r31c; exact (cond_app (a31c x0 x1 x2 x3) _ rfl (cond_app (a31c x0 x1 x2 x3) _ rfl rfl)))
noncomputable def s31c (args : List Value) (s : St) : List (Bool × Value × St) :=
 match args, s.h with
 | [.agg ⟨[.float .f32 x0, .float .f32 x1]⟩, .agg ⟨[.float .f32 x2, .float .f32 x3]⟩, .func (.func f0) ⟨[]⟩ ⟨[]⟩], [] => if f0 = 34 then [((Nat.beq ((r31c x0 x1 x2 x3).1) 0), .tuple #[.agg #[.float .f32 ((r31c x0 x1 x2 x3).2.1), .float .f32 ((r31c x0 x1 x2 x3).2.2.1)], .int .i64 ((r31c x0 x1 x2 x3).2.2.2)], st0)] else T40 31 args s
 | _, _ => T40 31 args s
noncomputable def T41 : CallF := addF T40 31 s31c
set_option maxRecDepth 100000 in
set_option maxHeartbeats 4000000 in
theorem ok41 : CfOk Try.prog T41 := by
  refine cfOk_add ok40 fun args s r s' h1 h2 h3 => ?_
  unfold s31c at h3; split at h3
  · rename_i h; split at h3
    · rename_i hc; obtain ⟨rfl⟩ := hc; exact callOk ok40 Try.func31 h1 h2 h (lfOkF_no _ _).body (e31c _ _ _ _) rfl h3
    · exact ok40 _ _ _ _ _ h1 h2 h3
  · exact ok40 _ _ _ _ _ h1 h2 h3

/-- impl.MulSpans -/
noncomputable def r15 (x0 x1 x2 x3 : Nat) : Nat × Nat × Nat × Int :=
 cond (Nat.beq ((r31c x0 x1 x2 x3).1) 0)
  (0, ((r31c x0 x1 x2 x3).2.1), ((r31c x0 x1 x2 x3).2.2.1), ((r31c x0 x1 x2 x3).2.2.2))
  (1, 0, 0, 0)
noncomputable def a15 (x0 x1 x2 x3 : Nat) (p : Nat × Nat × Nat × Int) : Res := firstT [((Nat.beq (p.1) 0), .tuple #[.agg #[.float .f32 (p.2.1), .float .f32 (p.2.2.1)], .int .i64 (p.2.2.2)], st0)]
noncomputable def w15 (x0 x1 x2 x3 : Nat) : Res :=
 (cond (Nat.beq ((r31c x0 x1 x2 x3).1) 0)
 (a15 x0 x1 x2 x3 (0, ((r31c x0 x1 x2 x3).2.1), ((r31c x0 x1 x2 x3).2.2.1), ((r31c x0 x1 x2 x3).2.2.2)))
 none)
set_option maxRecDepth 100000 in
set_option maxHeartbeats 4000000 in
theorem e15 (x0 x1 x2 x3 : Nat) : evFn Try.prog ext T41 noL 200 Try.f15 [.agg #[.float .f32 x0, .float .f32 x1], .agg #[.float .f32 x2, .float .f32 x3]] st0 = firstT [((Nat.beq ((r15 x0 x1 x2 x3).1) 0), .tuple #[.agg #[.float .f32 ((r15 x0 x1 x2 x3).2.1), .float .f32 ((r15 x0 x1 x2 x3).2.2.1)], .int .i64 ((r15 x0 x1 x2 x3).2.2.2)], st0)] :=
 (show evFn Try.prog ext T41 noL 200 Try.f15 [.agg #[.float .f32 x0, .float .f32 x1], .agg #[.float .f32 x2, .float .f32 x3]] st0 = w15 x0 x1 x2 x3 from by kernel_rfl).trans
 (show w15 x0 x1 x2 x3 = a15 x0 x1 x2 x3 (r15 x0 x1 x2 x3) from by unfold w15 r15; exact (cond_app (a15 x0 x1 x2 x3) _ rfl rfl))
noncomputable def s15 (args : List Value) (s : St) : List (Bool × Value × St) :=
 match args, s.h with
 | [.agg ⟨[.float .f32 x0, .float .f32 x1]⟩, .agg ⟨[.float .f32 x2, .float .f32 x3]⟩], [] => [((Nat.beq ((r15 x0 x1 x2 x3).1) 0), .tuple #[.agg #[.float .f32 ((r15 x0 x1 x2 x3).2.1), .float .f32 ((r15 x0 x1 x2 x3).2.2.1)], .int .i64 ((r15 x0 x1 x2 x3).2.2.2)], st0)]
 | _, _ => T41 15 args s
noncomputable def T42 : CallF := addF T41 15 s15
set_option maxRecDepth 100000 in
set_option maxHeartbeats 4000000 in
theorem ok42 : CfOk Try.prog T42 := by
  refine cfOk_add ok41 fun args s r s' h1 h2 h3 => ?_
  unfold s15 at h3; split at h3
  · rename_i h; exact callOk ok41 Try.func15 h1 h2 h (lfOkF_no _ _).body (e15 _ _ _ _) rfl h3
  · exact ok41 _ _ _ _ _ h1 h2 h3

/-- impl.InSpan -/
noncomputable def r17 (x0 x1 x2 : Nat) : Bool :=
 cond (r16 x0 x1)
  (cond (flt .f32 x0 x2 || feq .f32 x0 x2)
   ((flt .f32 x2 x1 || feq .f32 x2 x1))
   (false))
  (false)
noncomputable def a17 (x0 x1 x2 : Nat) (p : Bool) : Res := firstT [(true, .bool p, st0)]
noncomputable def w17 (x0 x1 x2 : Nat) : Res :=
 (cond (r16 x0 x1)
 (cond (flt .f32 x0 x2 || feq .f32 x0 x2)
  (a17 x0 x1 x2 ((flt .f32 x2 x1 || feq .f32 x2 x1)))
  (a17 x0 x1 x2 (false)))
 (a17 x0 x1 x2 (false)))
set_option maxRecDepth 100000 in
set_option maxHeartbeats 4000000 in
theorem e17 (x0 x1 x2 : Nat) : evFn Try.prog ext T42 noL 200 Try.f17 [.agg #[.float .f32 x0, .float .f32 x1], .float .f32 x2] st0 = firstT [(true, .bool (r17 x0 x1 x2), st0)] :=
 (show evFn Try.prog ext T42 noL 200 Try.f17 [.agg #[.float .f32 x0, .float .f32 x1], .float .f32 x2] st0 = w17 x0 x1 x2 from by kernel_rfl).trans
 (show w17 x0 x1 x2 = a17 x0 x1 x2 (r17 x0 x1 x2) from by unfold w17 r17; exact (cond_app (a17 x0 x1 x2) _ (cond_app (a17 x0 x1 x2) _ rfl rfl) rfl))
noncomputable def s17 (args : List Value) (s : St) : List (Bool × Value × St) :=
 match args, s.h with
 | [.agg ⟨[.float .f32 x0, .float .f32 x1]⟩, .float .f32 x2], [] => [(true, .bool (r17 x0 x1 x2), st0)]
 | _, _ => T42 17 args s
noncomputable def T43 : CallF := addF T42 17 s17
set_option maxRecDepth 100000 in
set_option maxHeartbeats 4000000 in
theorem ok43 : CfOk Try.prog T43 := by
  refine cfOk_add ok42 fun args s r s' h1 h2 h3 => ?_
  unfold s17 at h3; split at h3
  · rename_i h; exact callOk ok42 Try.func17 h1 h2 h (lfOkF_no _ _).body (e17 _ _ _) rfl h3
  · exact ok42 _ _ _ _ _ h1 h2 h3

/-- spec.l05Ok -/
noncomputable def r51 (x0 x1 : Nat) : Bool :=
 ((flt .f32 x0 x1 || feq .f32 x0 x1))
noncomputable def a51 (x0 x1 : Nat) (p : Bool) : Res := firstT [(true, .bool p, st0)]
noncomputable def w51 (x0 x1 : Nat) : Res :=
 (a51 x0 x1 ((flt .f32 x0 x1 || feq .f32 x0 x1)))
set_option maxRecDepth 100000 in
set_option maxHeartbeats 4000000 in
theorem e51 (x0 x1 : Nat) : evFn Try.prog ext T43 noL 200 Try.f51 [.agg #[.float .f32 x0, .float .f32 x1]] st0 = firstT [(true, .bool (r51 x0 x1), st0)] :=
 (show evFn Try.prog ext T43 noL 200 Try.f51 [.agg #[.float .f32 x0, .float .f32 x1]] st0 = w51 x0 x1 from by kernel_rfl).trans
 (show w51 x0 x1 = a51 x0 x1 (r51 x0 x1) from by unfold w51 r51; exact rfl)
noncomputable def s51 (args : List Value) (s : St) : List (Bool × Value × St) :=
 match args, s.h with
 | [.agg ⟨[.float .f32 x0, .float .f32 x1]⟩], [] => [(true, .bool (r51 x0 x1), st0)]
 | _, _ => T43 51 args s
noncomputable def T44 : CallF := addF T43 51 s51
set_option maxRecDepth 100000 in
set_option maxHeartbeats 4000000 in
theorem ok44 : CfOk Try.prog T44 := by
  refine cfOk_add ok43 fun args s r s' h1 h2 h3 => ?_
  unfold s51 at h3; split at h3
  · rename_i h; exact callOk ok43 Try.func51 h1 h2 h (lfOkF_no _ _).body (e51 _ _) rfl h3
  · exact ok43 _ _ _ _ _ h1 h2 h3

/-- spec.l05Two -/
noncomputable def r35 (x0 x1 x2 x3 : Nat) : Int :=
 cond (!(r51 x0 x1))
  (1)
  (cond (!(r51 x2 x3))
   (1)
   (0))
noncomputable def a35 (x0 x1 x2 x3 : Nat) (p : Int) : Res := firstT [(true, .int .i64 p, st0)]
noncomputable def w35 (x0 x1 x2 x3 : Nat) : Res :=
 (cond (!(r51 x0 x1))
 (a35 x0 x1 x2 x3 (1))
 (cond (!(r51 x2 x3))
  (a35 x0 x1 x2 x3 (1))
  (a35 x0 x1 x2 x3 (0))))
set_option maxRecDepth 100000 in
set_option maxHeartbeats 4000000 in
theorem e35 (x0 x1 x2 x3 : Nat) : evFn Try.prog ext T44 noL 200 Try.f35 [.agg #[.float .f32 x0, .float .f32 x1], .agg #[.float .f32 x2, .float .f32 x3]] st0 = firstT [(true, .int .i64 (r35 x0 x1 x2 x3), st0)] :=
 (show evFn Try.prog ext T44 noL 200 Try.f35 [.agg #[.float .f32 x0, .float .f32 x1], .agg #[.float .f32 x2, .float .f32 x3]] st0 = w35 x0 x1 x2 x3 from by kernel_rfl).trans
 (show w35 x0 x1 x2 x3 = a35 x0 x1 x2 x3 (r35 x0 x1 x2 x3) from by unfold w35 r35; exact (cond_app (a35 x0 x1 x2 x3) _ rfl (cond_app (a35 x0 x1 x2 x3) _ rfl rfl)))
noncomputable def s35 (args : List Value) (s : St) : List (Bool × Value × St) :=
 match args, s.h with
 | [.agg ⟨[.float .f32 x0, .float .f32 x1]⟩, .agg ⟨[.float .f32 x2, .float .f32 x3]⟩], [] => [(true, .int .i64 (r35 x0 x1 x2 x3), st0)]
 | _, _ => T44 35 args s
noncomputable def T45 : CallF := addF T44 35 s35
set_option maxRecDepth 100000 in
set_option maxHeartbeats 4000000 in
theorem ok45 : CfOk Try.prog T45 := by
  refine cfOk_add ok44 fun args s r s' h1 h2 h3 => ?_
  unfold s35 at h3; split at h3
  · rename_i h; exact callOk ok44 Try.func35 h1 h2 h (lfOkF_no _ _).body (e35 _ _ _ _) rfl h3
  · exact ok44 _ _ _ _ _ h1 h2 h3

/-- spec.l05Mul, loop 0 -/
noncomputable def r36l0 (x0 x1 x2 x3 x4 x5 x6 x7 : Nat) : Unit :=
 ()
noncomputable def a36l0 (x0 x1 x2 x3 x4 x5 x6 x7 : Nat) (p : Unit) : Option (Fin' × List Value × St) := firstT ([(true, .exit 0, [.pointer (some ⟨0, 0, some 0⟩), .float .f32 x0, .float .f32 x1], ⟨[⟨true, (some (.cells [.float .f32 x2, .float .f32 x3]))⟩, ⟨true, (some (.cells [.float .f32 x4, .float .f32 x5, .float .f32 x6, .float .f32 x7]))⟩], 2, []⟩)].map fun (b, x) => (b, (x.1, frameOf 63 [4, 6, 7] x.2.1, x.2.2)))
noncomputable def w36l0 (x0 x1 x2 x3 x4 x5 x6 x7 : Nat) : Option (Fin' × List Value × St) :=
 (a36l0 x0 x1 x2 x3 x4 x5 x6 x7 ())
set_option maxRecDepth 100000 in
set_option maxHeartbeats 4000000 in
theorem e36l0 (x0 x1 x2 x3 x4 x5 x6 x7 : Nat) : evC Try.prog ext T45 noL 200 (loopN Try.f36 0) (loopTail ([4, 5, 6, 7, 8], []) [4, 6, 7] [] (sumK 63 [4, 5, 6, 7, 8] [4, 6, 7] noQ)) (frameOf 63 [4, 5, 6, 7, 8] [.pointer (some ⟨0, 0, some 0⟩), .pointer (some ⟨1, 0, some 0⟩), .float .f32 x0, .float .f32 x1, .int .i64 4]) ⟨[⟨true, (some (.cells [.float .f32 x2, .float .f32 x3]))⟩, ⟨true, (some (.cells [.float .f32 x4, .float .f32 x5, .float .f32 x6, .float .f32 x7]))⟩], 2, []⟩ = firstT ([(true, .exit 0, [.pointer (some ⟨0, 0, some 0⟩), .float .f32 x0, .float .f32 x1], ⟨[⟨true, (some (.cells [.float .f32 x2, .float .f32 x3]))⟩, ⟨true, (some (.cells [.float .f32 x4, .float .f32 x5, .float .f32 x6, .float .f32 x7]))⟩], 2, []⟩)].map fun (b, x) => (b, (x.1, frameOf 63 [4, 6, 7] x.2.1, x.2.2))) :=
 (show evC Try.prog ext T45 noL 200 (loopN Try.f36 0) (loopTail ([4, 5, 6, 7, 8], []) [4, 6, 7] [] (sumK 63 [4, 5, 6, 7, 8] [4, 6, 7] noQ)) (frameOf 63 [4, 5, 6, 7, 8] [.pointer (some ⟨0, 0, some 0⟩), .pointer (some ⟨1, 0, some 0⟩), .float .f32 x0, .float .f32 x1, .int .i64 4]) ⟨[⟨true, (some (.cells [.float .f32 x2, .float .f32 x3]))⟩, ⟨true, (some (.cells [.float .f32 x4, .float .f32 x5, .float .f32 x6, .float .f32 x7]))⟩], 2, []⟩ = w36l0 x0 x1 x2 x3 x4 x5 x6 x7 from by kernel_rfl).trans
 (show w36l0 x0 x1 x2 x3 x4 x5 x6 x7 = a36l0 x0 x1 x2 x3 x4 x5 x6 x7 (r36l0 x0 x1 x2 x3 x4 x5 x6 x7) from by unfold w36l0 r36l0; exact rfl)
noncomputable def Q36l0 : SumK := fun vals s =>
 match vals, s.h with
 | [.pointer (some ⟨f0, f1, some f2⟩), .pointer (some ⟨f3, f4, some f5⟩), .float .f32 x0, .float .f32 x1, .int .i64 f6], [⟨true, some (.cells [.float .f32 x2, .float .f32 x3])⟩, ⟨true, some (.cells [.float .f32 x4, .float .f32 x5, .float .f32 x6, .float .f32 x7])⟩] => if f0 = 0 ∧ f1 = 0 ∧ f2 = 0 ∧ f3 = 1 ∧ f4 = 0 ∧ f5 = 0 ∧ f6 = 4 then [(true, .exit 0, [.pointer (some ⟨0, 0, some 0⟩), .float .f32 x0, .float .f32 x1], ⟨[⟨true, (some (.cells [.float .f32 x2, .float .f32 x3]))⟩, ⟨true, (some (.cells [.float .f32 x4, .float .f32 x5, .float .f32 x6, .float .f32 x7]))⟩], 2, []⟩)] else noQ vals s
 | _, _ => noQ vals s
set_option maxRecDepth 100000 in
set_option maxHeartbeats 4000000 in
theorem qok36l0 : SumKOk Try.prog (loopN Try.f36 0) 63 [4, 5, 6, 7, 8] [4, 6, 7] Q36l0 := by
  intro vals s x h1 h2 h3
  unfold Q36l0 at h3; split at h3
  · rename_i h; split at h3
    · rename_i hc; obtain ⟨rfl, rfl, rfl, rfl, rfl, rfl, rfl⟩ := hc; exact sum_step ok45 extOk mixed ((lfOkF_no _ _).inner (by kernel_rfl)) noQ_ok h1 h2 h (e36l0 _ _ _ _ _ _ _ _) rfl h3
    · exact noQ_ok _ _ _ h1 h2 h3
  · exact noQ_ok _ _ _ h1 h2 h3
noncomputable def L36_1 : LoopT := addL noL 6 ([4, 5, 6, 7, 8], []) (sumK 63 [4, 5, 6, 7, 8] [4, 6, 7] Q36l0)
theorem lok36_1 : LfOkF Try.prog L36_1 Try.f36 := lfOkF_add (lfOkF_no _ _) qok36l0 (by kernel_rfl) (by kernel_rfl) (by kernel_rfl)

/-- spec.l05Mul, loop 0 -/
noncomputable def r36l0b (x0 x1 x2 x3 x4 x5 x6 x7 : Nat) : Nat × Nat × Nat × Nat × Nat :=
 cond (!feq .f32 x7 x7)
  (cond (narrowOk (r44 (-1)))
   (cond (narrowOk (r44 1))
    (0, (narrow (r44 (-1))), (narrow (r44 1)), 0, 0)
    (2, 0, 0, 0, 0))
   (2, 0, 0, 0, 0))
  (cond (flt .f32 x7 x0)
   (cond (fgt .f32 x7 x1)
    (1, 0, 0, x7, x7)
    (1, 0, 0, x7, x1))
   (cond (fgt .f32 x7 x1)
    (1, 0, 0, x0, x7)
    (1, 0, 0, x0, x1)))
noncomputable def a36l0b (x0 x1 x2 x3 x4 x5 x6 x7 : Nat) (p : Nat × Nat × Nat × Nat × Nat) : Option (Fin' × List Value × St) := firstT ([((Nat.beq (p.1) 0), .ret, [.pointer (some ⟨0, 0, some 0⟩), .float .f32 x0, .float .f32 x1], ⟨[⟨true, (some (.cells [.float .f32 (p.2.1), .float .f32 (p.2.2.1)]))⟩, ⟨true, (some (.cells [.float .f32 x4, .float .f32 x5, .float .f32 x6, .float .f32 x7]))⟩], 2, [0]⟩), ((Nat.beq (p.1) 1), .exit 0, [.pointer (some ⟨0, 0, some 0⟩), .float .f32 (p.2.2.2.1), .float .f32 (p.2.2.2.2)], ⟨[⟨true, (some (.cells [.float .f32 x2, .float .f32 x3]))⟩, ⟨true, (some (.cells [.float .f32 x4, .float .f32 x5, .float .f32 x6, .float .f32 x7]))⟩], 2, [0]⟩)].map fun (b, x) => (b, (x.1, frameOf 63 [4, 6, 7] x.2.1, x.2.2)))
noncomputable def w36l0b (x0 x1 x2 x3 x4 x5 x6 x7 : Nat) : Option (Fin' × List Value × St) :=
 (cond (!feq .f32 x7 x7)
 (cond (narrowOk (r44 (-1)))
  (cond (narrowOk (r44 1))
   (a36l0b x0 x1 x2 x3 x4 x5 x6 x7 (0, (narrow (r44 (-1))), (narrow (r44 1)), 0, 0))
   none)
  none)
 (cond (flt .f32 x7 x0)
  (cond (fgt .f32 x7 x1)
   (a36l0b x0 x1 x2 x3 x4 x5 x6 x7 (1, 0, 0, x7, x7))
   (a36l0b x0 x1 x2 x3 x4 x5 x6 x7 (1, 0, 0, x7, x1)))
  (cond (fgt .f32 x7 x1)
   (a36l0b x0 x1 x2 x3 x4 x5 x6 x7 (1, 0, 0, x0, x7))
   (a36l0b x0 x1 x2 x3 x4 x5 x6 x7 (1, 0, 0, x0, x1)))))
set_option maxRecDepth 100000 in
set_option maxHeartbeats 4000000 in
theorem e36l0b (x0 x1 x2 x3 x4 x5 x6 x7 : Nat) : evC Try.prog ext T45 L36_1 200 (loopN Try.f36 0) (loopTail ([4, 5, 6, 7, 8], []) [4, 6, 7] [0] (sumK 63 [4, 5, 6, 7, 8] [4, 6, 7] Q36l0)) (frameOf 63 [4, 5, 6, 7, 8] [.pointer (some ⟨0, 0, some 0⟩), .pointer (some ⟨1, 0, some 0⟩), .float .f32 x0, .float .f32 x1, .int .i64 3]) ⟨[⟨true, (some (.cells [.float .f32 x2, .float .f32 x3]))⟩, ⟨true, (some (.cells [.float .f32 x4, .float .f32 x5, .float .f32 x6, .float .f32 x7]))⟩], 2, []⟩ = firstT ([((Nat.beq ((r36l0b x0 x1 x2 x3 x4 x5 x6 x7).1) 0), .ret, [.pointer (some ⟨0, 0, some 0⟩), .float .f32 x0, .float .f32 x1], ⟨[⟨true, (some (.cells [.float .f32 ((r36l0b x0 x1 x2 x3 x4 x5 x6 x7).2.1), .float .f32 ((r36l0b x0 x1 x2 x3 x4 x5 x6 x7).2.2.1)]))⟩, ⟨true, (some (.cells [.float .f32 x4, .float .f32 x5, .float .f32 x6, .float .f32 x7]))⟩], 2, [0]⟩), ((Nat.beq ((r36l0b x0 x1 x2 x3 x4 x5 x6 x7).1) 1), .exit 0, [.pointer (some ⟨0, 0, some 0⟩), .float .f32 ((r36l0b x0 x1 x2 x3 x4 x5 x6 x7).2.2.2.1), .float .f32 ((r36l0b x0 x1 x2 x3 x4 x5 x6 x7).2.2.2.2)], ⟨[⟨true, (some (.cells [.float .f32 x2, .float .f32 x3]))⟩, ⟨true, (some (.cells [.float .f32 x4, .float .f32 x5, .float .f32 x6, .float .f32 x7]))⟩], 2, [0]⟩)].map fun (b, x) => (b, (x.1, frameOf 63 [4, 6, 7] x.2.1, x.2.2))) :=
 (show evC Try.prog ext T45 L36_1 200 (loopN Try.f36 0) (loopTail ([4, 5, 6, 7, 8], []) [4, 6, 7] [0] (sumK 63 [4, 5, 6, 7, 8] [4, 6, 7] Q36l0)) (frameOf 63 [4, 5, 6, 7, 8] [.pointer (some ⟨0, 0, some 0⟩), .pointer (some ⟨1, 0, some 0⟩), .float .f32 x0, .float .f32 x1, .int .i64 3]) ⟨[⟨true, (some (.cells [.float .f32 x2, .float .f32 x3]))⟩, ⟨true, (some (.cells [.float .f32 x4, .float .f32 x5, .float .f32 x6, .float .f32 x7]))⟩], 2, []⟩ = w36l0b x0 x1 x2 x3 x4 x5 x6 x7 from by kernel_rfl).trans
 (show w36l0b x0 x1 x2 x3 x4 x5 x6 x7 = a36l0b x0 x1 x2 x3 x4 x5 x6 x7 (r36l0b x0 x1 x2 x3 x4 x5 x6 x7) from by unfold w36l0b r36l0b; exact (cond_app (a36l0b x0 x1 x2 x3 x4 x5 x6 x7) _ (cond_app (a36l0b x0 x1 x2 x3 x4 x5 x6 x7) _ (cond_app (a36l0b x0 x1 x2 x3 x4 x5 x6 x7) _ rfl rfl) rfl) (cond_app (a36l0b x0 x1 x2 x3 x4 x5 x6 x7) _ (cond_app (a36l0b x0 x1 x2 x3 x4 x5 x6 x7) _ rfl rfl) (cond_app (a36l0b x0 x1 x2 x3 x4 x5 x6 x7) _ rfl rfl))))
noncomputable def Q36l0b : SumK := fun vals s =>
 match vals, s.h with
 | [.pointer (some ⟨f0, f1, some f2⟩), .pointer (some ⟨f3, f4, some f5⟩), .float .f32 x0, .float .f32 x1, .int .i64 f6], [⟨true, some (.cells [.float .f32 x2, .float .f32 x3])⟩, ⟨true, some (.cells [.float .f32 x4, .float .f32 x5, .float .f32 x6, .float .f32 x7])⟩] => if f0 = 0 ∧ f1 = 0 ∧ f2 = 0 ∧ f3 = 1 ∧ f4 = 0 ∧ f5 = 0 ∧ f6 = 3 then [((Nat.beq ((r36l0b x0 x1 x2 x3 x4 x5 x6 x7).1) 0), .ret, [.pointer (some ⟨0, 0, some 0⟩), .float .f32 x0, .float .f32 x1], ⟨[⟨true, (some (.cells [.float .f32 ((r36l0b x0 x1 x2 x3 x4 x5 x6 x7).2.1), .float .f32 ((r36l0b x0 x1 x2 x3 x4 x5 x6 x7).2.2.1)]))⟩, ⟨true, (some (.cells [.float .f32 x4, .float .f32 x5, .float .f32 x6, .float .f32 x7]))⟩], 2, [0]⟩), ((Nat.beq ((r36l0b x0 x1 x2 x3 x4 x5 x6 x7).1) 1), .exit 0, [.pointer (some ⟨0, 0, some 0⟩), .float .f32 ((r36l0b x0 x1 x2 x3 x4 x5 x6 x7).2.2.2.1), .float .f32 ((r36l0b x0 x1 x2 x3 x4 x5 x6 x7).2.2.2.2)], ⟨[⟨true, (some (.cells [.float .f32 x2, .float .f32 x3]))⟩, ⟨true, (some (.cells [.float .f32 x4, .float .f32 x5, .float .f32 x6, .float .f32 x7]))⟩], 2, [0]⟩)] else Q36l0 vals s
 | _, _ => Q36l0 vals s
set_option maxRecDepth 100000 in
set_option maxHeartbeats 4000000 in
theorem qok36l0b : SumKOk Try.prog (loopN Try.f36 0) 63 [4, 5, 6, 7, 8] [4, 6, 7] Q36l0b := by
  intro vals s x h1 h2 h3
  unfold Q36l0b at h3; split at h3
  · rename_i h; split at h3
    · rename_i hc; obtain ⟨rfl, rfl, rfl, rfl, rfl, rfl, rfl⟩ := hc; exact sum_step ok45 extOk mixed (lok36_1.inner (by kernel_rfl)) qok36l0 h1 h2 h (e36l0b _ _ _ _ _ _ _ _) rfl h3
    · exact qok36l0 _ _ _ h1 h2 h3
  · exact qok36l0 _ _ _ h1 h2 h3
noncomputable def L36_2 : LoopT := addL L36_1 6 ([4, 5, 6, 7, 8], []) (sumK 63 [4, 5, 6, 7, 8] [4, 6, 7] Q36l0b)
theorem lok36_2 : LfOkF Try.prog L36_2 Try.f36 := lfOkF_add lok36_1 qok36l0b (by kernel_rfl) (by kernel_rfl) (by kernel_rfl)
end Go.Proofs.Ytgkmmkimpmnpkaa
