/- What the functions that the statements reach answer, part 1. -/
import Derived.Test.YtmknfenjnladeaaA23
import Derived.Test.YtmknfenjnladeaaA45
import Derived.KernelRfl
import Derived.Test.YtmknfenjnladeaaChecked
namespace Go.Proofs.Ytmknfenjnladeaa
open Go.Ab
set_option maxHeartbeats 4000000
set_option maxRecDepth 100000

def ext : FuncId → Option Ext := fun g => (cond (Nat.beq g 130) (some .f32bits) (cond (Nat.beq g 171) (some .f64from) (cond (Nat.beq g 172) (some .f64bits) (cond (Nat.beq g 174) (some .sqrt) none))))
theorem ext_case {g : FuncId} {e : Ext} (h : ext g = some e) : g = 130 ∧ e = .f32bits ∨ g = 171 ∧ e = .f64from ∨ g = 172 ∧ e = .f64bits ∨ g = 174 ∧ e = .sqrt := by
  unfold ext at h
  cases h0 : Nat.beq g 130 with
  | true => rw [h0] at h; cases h; exact .inl ⟨Nat.eq_of_beq_eq_true h0, rfl⟩
  | false =>
    rw [h0] at h
    cases h1 : Nat.beq g 171 with
    | true => rw [h1] at h; cases h; exact .inr (.inl ⟨Nat.eq_of_beq_eq_true h1, rfl⟩)
    | false =>
      rw [h1] at h
      cases h2 : Nat.beq g 172 with
      | true => rw [h2] at h; cases h; exact .inr (.inr (.inl ⟨Nat.eq_of_beq_eq_true h2, rfl⟩))
      | false =>
        rw [h2] at h
        cases h3 : Nat.beq g 174 with
        | true => rw [h3] at h; cases h; exact .inr (.inr (.inr (⟨Nat.eq_of_beq_eq_true h3, rfl⟩)))
        | false =>
          rw [h3] at h
          cases h
theorem extOk : ExtOk Try.prog ext := by
  intro g e h
  rcases ext_case h with ⟨rfl, rfl⟩ | ⟨rfl, rfl⟩ | ⟨rfl, rfl⟩ | ⟨rfl, rfl⟩
  · exact ⟨Try.f130, Try.func130, by kernel_rfl, by kernel_rfl, by kernel_rfl, by kernel_rfl⟩
  · exact ⟨Try.f171, Try.func171, by kernel_rfl, by kernel_rfl, by kernel_rfl, by kernel_rfl⟩
  · exact ⟨Try.f172, Try.func172, by kernel_rfl, by kernel_rfl, by kernel_rfl, by kernel_rfl⟩
  · exact ⟨Try.f174, Try.func174, by kernel_rfl, by kernel_rfl, by kernel_rfl, by kernel_rfl⟩
theorem mixed : Try.prog.follows .mixedOrders = true := by kernel_rfl
theorem callOk {cf : CallF} (hcf : CfOk Try.prog cf) {lf : LoopT} {N : Nat} {f : FuncId} {fn : Func} (hf : Try.prog.funcs[f]? = some fn) {args : List Value} {s : St} {l : List Blk} {n : Nat} {L : List (Bool × Value × St)} {r' : Value} {s' : St} (h1 : s.lo = s.h.length) (h2 : s.wr = []) (h : s.h = l) (hl : ∀ c, fn.body = some c → LfOk Try.prog lf (loopsOf c)) (he : evFn Try.prog ext cf lf N fn args ⟨l, n, []⟩ = firstT L) (hn : n = l.length) (h3 : firstT L = some (r', s')) : CallsOK Try.prog f args s r' s' :=
  call_ok extOk mixed hcf hf h1 h2 h hl he hn h3
def T0 : CallF := noF
theorem ok0 : CfOk Try.prog T0 := cfOk_no _
def sc0 : List CT := [.fl .f32, .fl .f32, .fl .f32, .fl .f32, .int .i64]

/-- laws.f6big -/
noncomputable def r8 (x0 : List (List Int)) : Bool :=
 ((decide ((((x0.length : Nat) : Int) : Int) > 4096)))
noncomputable def a8 (x0 : List (List Int)) (p : Bool) : Res := firstT [(true, .bool p, ⟨[⟨false, (some (.tab [.int .u8] x0))⟩], 1, []⟩)]
noncomputable def w8 (x0 : List (List Int)) : Res :=
 (a8 x0 ((decide ((((x0.length : Nat) : Int) : Int) > 4096))))
set_option maxRecDepth 100000 in
set_option maxHeartbeats 4000000 in
theorem e8 (x0 : List (List Int)) : evFn Try.prog ext T0 noL 200 Try.f8 [wsl 0] ⟨[⟨false, (some (.tab [.int .u8] x0))⟩], 1, []⟩ = firstT [(true, .bool (r8 x0), ⟨[⟨false, (some (.tab [.int .u8] x0))⟩], 1, []⟩)] :=
 (show _ = w8 x0 from by kernel_rfl).trans
 (show w8 x0 = a8 x0 (r8 x0) from by unfold w8 r8; exact rfl)
noncomputable def s8 (args : List Value) (s : St) : List (Bool × Value × St) :=
 match args, s.h with
 | [.iface f0 .nilIface], [⟨false, some (.tab [.int .u8] x0)⟩] => if f0 = 0 then [(true, .bool (r8 x0), ⟨[⟨false, (some (.tab [.int .u8] x0))⟩], 1, []⟩)] else T0 8 args s
 | _, _ => T0 8 args s
noncomputable def T1 : CallF := addF T0 8 s8
set_option maxRecDepth 100000 in
set_option maxHeartbeats 4000000 in
theorem ok1 : CfOk Try.prog T1 := by
  refine cfOk_add ok0 fun args s r s' h1 h2 h3 => ?_
  unfold s8 at h3; split at h3
  · rename_i h; split at h3
    · rename_i hc; obtain ⟨rfl⟩ := hc; exact callOk ok0 Try.func8 h1 h2 h (lfOkF_no _ _).body (e8 _) rfl h3
    · exact ok0 _ _ _ _ _ h1 h2 h3
  · exact ok0 _ _ _ _ _ h1 h2 h3

/-- spec.l00From -/
noncomputable def r55 (x0 : List (List Int)) : Int × Int :=
 (0, 0)
noncomputable def a55 (x0 : List (List Int)) (p : Int × Int) : Res := firstT [(true, vp 1, ⟨[⟨false, (some (.tab [.int .u8] x0))⟩, ⟨true, (some (.cells [wsl 0, vi (p.1), .int .u64 (p.2)]))⟩], 1, []⟩)]
noncomputable def w55 (x0 : List (List Int)) : Res :=
 (a55 x0 (0, 0))
set_option maxRecDepth 100000 in
set_option maxHeartbeats 4000000 in
theorem e55 (x0 : List (List Int)) : evFn Try.prog ext T1 noL 200 Try.f55 [wsl 0] ⟨[⟨false, (some (.tab [.int .u8] x0))⟩], 1, []⟩ = firstT [(true, vp 1, ⟨[⟨false, (some (.tab [.int .u8] x0))⟩, ⟨true, (some (.cells [wsl 0, vi ((r55 x0).1), .int .u64 ((r55 x0).2)]))⟩], 1, []⟩)] :=
 (show _ = w55 x0 from by kernel_rfl).trans
 (show w55 x0 = a55 x0 (r55 x0) from by unfold w55 r55; exact rfl)
noncomputable def s55 (args : List Value) (s : St) : List (Bool × Value × St) :=
 match args, s.h with
 | [.iface f0 .nilIface], [⟨false, some (.tab [.int .u8] x0)⟩] => if f0 = 0 then [(true, vp 1, ⟨[⟨false, (some (.tab [.int .u8] x0))⟩, ⟨true, (some (.cells [wsl 0, vi ((r55 x0).1), .int .u64 ((r55 x0).2)]))⟩], 1, []⟩)] else T1 55 args s
 | _, _ => T1 55 args s
noncomputable def T2 : CallF := addF T1 55 s55
set_option maxRecDepth 100000 in
set_option maxHeartbeats 4000000 in
theorem ok2 : CfOk Try.prog T2 := by
  refine cfOk_add ok1 fun args s r s' h1 h2 h3 => ?_
  unfold s55 at h3; split at h3
  · rename_i h; split at h3
    · rename_i hc; obtain ⟨rfl⟩ := hc; exact callOk ok1 Try.func55 h1 h2 h (lfOkF_no _ _).body (e55 _) rfl h3
    · exact ok1 _ _ _ _ _ h1 h2 h3
  · exact ok1 _ _ _ _ _ h1 h2 h3

/-- (*spec.l00Src).next -/
noncomputable def r123 (x0 x1 : Int) (x2 : List (List Int)) : Nat × Int × Int × Int :=
 cond (decide ((x0 : Int) < ((x2.length : Nat) : Int))) (cond ((decide ((0 : Int) ≤ x0)) && (Nat.blt (Int.toNat x0) x2.length)) (cond (decide (((IntKind.i64.wrap (x0 + 1)) : Int) ≤ ((x2.length : Nat) : Int))) (0, (IntKind.i64.wrap ((x2.getD (Int.toNat x0) []).getD 0 0)), (IntKind.i64.wrap (x0 + 1)), (IntKind.u64.wrap ((IntKind.u64.wrap ((IntKind.u64.wrap (x1 * 6364136223846793005)) + (IntKind.u64.wrap (IntKind.i64.wrap ((x2.getD (Int.toNat x0) []).getD 0 0))))) + 1442695040888963407))) (0, (IntKind.i64.wrap (bits .and .u64 (Int.fdiv (IntKind.u64.wrap ((IntKind.u64.wrap ((IntKind.u64.wrap (x1 * 6364136223846793005)) + (IntKind.u64.wrap (IntKind.i64.wrap ((x2.getD (Int.toNat x0) []).getD 0 0))))) + 1442695040888963407)) (2 ^ (min (40 : Int).toNat (IntKind.bits .u64)))) 255)), (IntKind.i64.wrap (x0 + 1)), (IntKind.u64.wrap ((IntKind.u64.wrap ((IntKind.u64.wrap (x1 * 6364136223846793005)) + (IntKind.u64.wrap (IntKind.i64.wrap ((x2.getD (Int.toNat x0) []).getD 0 0))))) + 1442695040888963407)))) (1, 0, 0, 0)) (cond (decide (((IntKind.i64.wrap (x0 + 1)) : Int) ≤ ((x2.length : Nat) : Int))) (0, 0, (IntKind.i64.wrap (x0 + 1)), (IntKind.u64.wrap ((IntKind.u64.wrap ((IntKind.u64.wrap (x1 * 6364136223846793005)) + 0)) + 1442695040888963407))) (0, (IntKind.i64.wrap (bits .and .u64 (Int.fdiv (IntKind.u64.wrap ((IntKind.u64.wrap ((IntKind.u64.wrap (x1 * 6364136223846793005)) + 0)) + 1442695040888963407)) (2 ^ (min (40 : Int).toNat (IntKind.bits .u64)))) 255)), (IntKind.i64.wrap (x0 + 1)), (IntKind.u64.wrap ((IntKind.u64.wrap ((IntKind.u64.wrap (x1 * 6364136223846793005)) + 0)) + 1442695040888963407))))
noncomputable def a123 (x0 x1 : Int) (x2 : List (List Int)) (p : Nat × Int × Int × Int) : Res := firstT [((Nat.beq (p.1) 0), vi (p.2.1), ⟨[⟨true, (some (.cells [wsl 1, vi (p.2.2.1), .int .u64 (p.2.2.2)]))⟩, ⟨false, (some (.tab [.int .u8] x2))⟩], 2, [0]⟩)]
noncomputable def w123 (x0 x1 : Int) (x2 : List (List Int)) : Res :=
 (cond (decide ((x0 : Int) < ((x2.length : Nat) : Int)))
 (cond ((decide ((0 : Int) ≤ x0)) && (Nat.blt (Int.toNat x0) x2.length)) (cond (Nat.blt (Int.toNat x0) x2.length) (cond (decide (((IntKind.i64.wrap (x0 + 1)) : Int) ≤ ((x2.length : Nat) : Int))) (a123 x0 x1 x2 (0, (IntKind.i64.wrap ((x2.getD (Int.toNat x0) []).getD 0 0)), (IntKind.i64.wrap (x0 + 1)), (IntKind.u64.wrap ((IntKind.u64.wrap ((IntKind.u64.wrap (x1 * 6364136223846793005)) + (IntKind.u64.wrap (IntKind.i64.wrap ((x2.getD (Int.toNat x0) []).getD 0 0))))) + 1442695040888963407)))) (a123 x0 x1 x2 (0, (IntKind.i64.wrap (bits .and .u64 (Int.fdiv (IntKind.u64.wrap ((IntKind.u64.wrap ((IntKind.u64.wrap (x1 * 6364136223846793005)) + (IntKind.u64.wrap (IntKind.i64.wrap ((x2.getD (Int.toNat x0) []).getD 0 0))))) + 1442695040888963407)) (2 ^ (min (40 : Int).toNat (IntKind.bits .u64)))) 255)), (IntKind.i64.wrap (x0 + 1)), (IntKind.u64.wrap ((IntKind.u64.wrap ((IntKind.u64.wrap (x1 * 6364136223846793005)) + (IntKind.u64.wrap (IntKind.i64.wrap ((x2.getD (Int.toNat x0) []).getD 0 0))))) + 1442695040888963407))))) none) none)
 (cond (decide (((IntKind.i64.wrap (x0 + 1)) : Int) ≤ ((x2.length : Nat) : Int))) (a123 x0 x1 x2 (0, 0, (IntKind.i64.wrap (x0 + 1)), (IntKind.u64.wrap ((IntKind.u64.wrap ((IntKind.u64.wrap (x1 * 6364136223846793005)) + 0)) + 1442695040888963407)))) (a123 x0 x1 x2 (0, (IntKind.i64.wrap (bits .and .u64 (Int.fdiv (IntKind.u64.wrap ((IntKind.u64.wrap ((IntKind.u64.wrap (x1 * 6364136223846793005)) + 0)) + 1442695040888963407)) (2 ^ (min (40 : Int).toNat (IntKind.bits .u64)))) 255)), (IntKind.i64.wrap (x0 + 1)), (IntKind.u64.wrap ((IntKind.u64.wrap ((IntKind.u64.wrap (x1 * 6364136223846793005)) + 0)) + 1442695040888963407))))))
set_option maxRecDepth 100000 in
set_option maxHeartbeats 4000000 in
theorem e123 (x0 x1 : Int) (x2 : List (List Int)) : evFn Try.prog ext T2 noL 200 Try.f123 [vp 0] ⟨[⟨true, (some (.cells [wsl 1, vi x0, .int .u64 x1]))⟩, ⟨false, (some (.tab [.int .u8] x2))⟩], 2, []⟩ = firstT [((Nat.beq ((r123 x0 x1 x2).1) 0), vi ((r123 x0 x1 x2).2.1), ⟨[⟨true, (some (.cells [wsl 1, vi ((r123 x0 x1 x2).2.2.1), .int .u64 ((r123 x0 x1 x2).2.2.2)]))⟩, ⟨false, (some (.tab [.int .u8] x2))⟩], 2, [0]⟩)] :=
 (show _ = w123 x0 x1 x2 from by kernel_rfl).trans
 (show w123 x0 x1 x2 = a123 x0 x1 x2 (r123 x0 x1 x2) from by unfold w123 r123; exact (cond_both (a123 x0 x1 x2) _ (fun h0 => (cond_both (a123 x0 x1 x2) _ (fun h1 => (cond_t (ev_and2 h1) (cond_app (a123 x0 x1 x2) _ rfl rfl))) (fun h1 => rfl))) (fun h0 => (cond_app (a123 x0 x1 x2) _ rfl rfl))))
noncomputable def s123 (args : List Value) (s : St) : List (Bool × Value × St) :=
 match args, s.h with
 | [.pointer (some ⟨f0, f1, some f2⟩)], [⟨true, some (.cells [.iface f3 .nilIface, .int .i64 x0, .int .u64 x1])⟩, ⟨false, some (.tab [.int .u8] x2)⟩] => if f0 = 0 ∧ f1 = 0 ∧ f2 = 0 ∧ f3 = 1 then [((Nat.beq ((r123 x0 x1 x2).1) 0), vi ((r123 x0 x1 x2).2.1), ⟨[⟨true, (some (.cells [wsl 1, vi ((r123 x0 x1 x2).2.2.1), .int .u64 ((r123 x0 x1 x2).2.2.2)]))⟩, ⟨false, (some (.tab [.int .u8] x2))⟩], 2, [0]⟩)] else T2 123 args s
 | _, _ => T2 123 args s
noncomputable def T3 : CallF := addF T2 123 s123
set_option maxRecDepth 100000 in
set_option maxHeartbeats 4000000 in
theorem ok3 : CfOk Try.prog T3 := by
  refine cfOk_add ok2 fun args s r s' h1 h2 h3 => ?_
  unfold s123 at h3; split at h3
  · rename_i h; split at h3
    · rename_i hc; obtain ⟨rfl, rfl, rfl, rfl⟩ := hc; exact callOk ok2 Try.func123 h1 h2 h (lfOkF_no _ _).body (e123 _ _ _) rfl h3
    · exact ok2 _ _ _ _ _ h1 h2 h3
  · exact ok2 _ _ _ _ _ h1 h2 h3

/-- (*spec.l00Src).pick -/
noncomputable def r56 (x0 x1 x2 : Int) (x3 : List (List Int)) : Nat × Int × Int × Int :=
 cond (decide ((x0 : Int) ≤ 1)) (0, 0, x1, x2) (cond (Nat.beq ((r123 x1 x2 x3).1) 0) (cond (decide ((x0 : Int) > 200)) (cond (Nat.beq ((r123 ((r123 x1 x2 x3).2.2.1) ((r123 x1 x2 x3).2.2.2) x3).1) 0) (cond (!decide (x0 = 0)) (0, (Int.tmod (IntKind.i64.wrap ((IntKind.i64.wrap (((r123 x1 x2 x3).2.1) * 256)) + ((r123 ((r123 x1 x2 x3).2.2.1) ((r123 x1 x2 x3).2.2.2) x3).2.1))) x0), ((r123 ((r123 x1 x2 x3).2.2.1) ((r123 x1 x2 x3).2.2.2) x3).2.2.1), ((r123 ((r123 x1 x2 x3).2.2.1) ((r123 x1 x2 x3).2.2.2) x3).2.2.2)) (1, 0, 0, 0)) (1, 0, 0, 0)) (cond (!decide (x0 = 0)) (0, (Int.tmod ((r123 x1 x2 x3).2.1) x0), ((r123 x1 x2 x3).2.2.1), ((r123 x1 x2 x3).2.2.2)) (1, 0, 0, 0))) (1, 0, 0, 0))
noncomputable def a56 (x0 x1 x2 : Int) (x3 : List (List Int)) (p : Nat × Int × Int × Int) : Res := firstT [((Nat.beq (p.1) 0), vi (p.2.1), ⟨[⟨true, (some (.cells [wsl 1, vi (p.2.2.1), .int .u64 (p.2.2.2)]))⟩, ⟨false, (some (.tab [.int .u8] x3))⟩], 2, [0]⟩)]
noncomputable def w56 (x0 x1 x2 : Int) (x3 : List (List Int)) : Res :=
 (cond (decide ((x0 : Int) ≤ 1))
 (a56 x0 x1 x2 x3 (0, 0, x1, x2))
 (cond (Nat.beq ((r123 x1 x2 x3).1) 0) (cond (decide ((x0 : Int) > 200)) (cond (Nat.beq ((r123 ((r123 x1 x2 x3).2.2.1) ((r123 x1 x2 x3).2.2.2) x3).1) 0) (cond (!decide (x0 = 0)) (a56 x0 x1 x2 x3 (0, (Int.tmod (IntKind.i64.wrap ((IntKind.i64.wrap (((r123 x1 x2 x3).2.1) * 256)) + ((r123 ((r123 x1 x2 x3).2.2.1) ((r123 x1 x2 x3).2.2.2) x3).2.1))) x0), ((r123 ((r123 x1 x2 x3).2.2.1) ((r123 x1 x2 x3).2.2.2) x3).2.2.1), ((r123 ((r123 x1 x2 x3).2.2.1) ((r123 x1 x2 x3).2.2.2) x3).2.2.2))) none) none) (cond (!decide (x0 = 0)) (a56 x0 x1 x2 x3 (0, (Int.tmod ((r123 x1 x2 x3).2.1) x0), ((r123 x1 x2 x3).2.2.1), ((r123 x1 x2 x3).2.2.2))) none)) none))
set_option maxRecDepth 100000 in
set_option maxHeartbeats 4000000 in
theorem e56 (x0 x1 x2 : Int) (x3 : List (List Int)) : evFnW Try.prog ext T3 noL 200 [0] Try.f56 [vp 0, vi x0] ⟨[⟨true, (some (.cells [wsl 1, vi x1, .int .u64 x2]))⟩, ⟨false, (some (.tab [.int .u8] x3))⟩], 2, []⟩ = firstT [((Nat.beq ((r56 x0 x1 x2 x3).1) 0), vi ((r56 x0 x1 x2 x3).2.1), ⟨[⟨true, (some (.cells [wsl 1, vi ((r56 x0 x1 x2 x3).2.2.1), .int .u64 ((r56 x0 x1 x2 x3).2.2.2)]))⟩, ⟨false, (some (.tab [.int .u8] x3))⟩], 2, [0]⟩)] :=
 (show _ = w56 x0 x1 x2 x3 from by kernel_rfl).trans
 (show w56 x0 x1 x2 x3 = a56 x0 x1 x2 x3 (r56 x0 x1 x2 x3) from by unfold w56 r56; exact (cond_app (a56 x0 x1 x2 x3) _ rfl (cond_app (a56 x0 x1 x2 x3) _ (cond_app (a56 x0 x1 x2 x3) _ (cond_app (a56 x0 x1 x2 x3) _ (cond_app (a56 x0 x1 x2 x3) _ rfl rfl) rfl) (cond_app (a56 x0 x1 x2 x3) _ rfl rfl)) rfl)))
noncomputable def s56 (args : List Value) (s : St) : List (Bool × Value × St) :=
 match args, s.h with
 | [.pointer (some ⟨f0, f1, some f2⟩), .int .i64 x0], [⟨true, some (.cells [.iface f3 .nilIface, .int .i64 x1, .int .u64 x2])⟩, ⟨false, some (.tab [.int .u8] x3)⟩] => if f0 = 0 ∧ f1 = 0 ∧ f2 = 0 ∧ f3 = 1 then [((Nat.beq ((r56 x0 x1 x2 x3).1) 0), vi ((r56 x0 x1 x2 x3).2.1), ⟨[⟨true, (some (.cells [wsl 1, vi ((r56 x0 x1 x2 x3).2.2.1), .int .u64 ((r56 x0 x1 x2 x3).2.2.2)]))⟩, ⟨false, (some (.tab [.int .u8] x3))⟩], 2, [0]⟩)] else T3 56 args s
 | _, _ => T3 56 args s
noncomputable def T4 : CallF := addF T3 56 s56
set_option maxRecDepth 100000 in
set_option maxHeartbeats 4000000 in
theorem ok4 : CfOk Try.prog T4 := by
  refine cfOk_add ok3 fun args s r s' h1 h2 h3 => ?_
  unfold s56 at h3; split at h3
  · rename_i h; split at h3
    · rename_i hc; obtain ⟨rfl, rfl, rfl, rfl⟩ := hc; exact call_okW extOk mixed ok3 Try.func56 h1 h2 h (lfOkF_no _ _).body (e56 _ _ _ _) rfl h3
    · exact ok3 _ _ _ _ _ h1 h2 h3
  · exact ok3 _ _ _ _ _ h1 h2 h3

/-- spec.l03FlueDrawn -/
noncomputable def r121 (x0 x1 : Int) (x2 : List (List Int)) : Nat × Nat × Nat × Nat × Nat × Int × Int × Int :=
 let c0 := (r56 300 ((r56 16 ((r56 32 x0 x1 x2).2.2.1) ((r56 32 x0 x1 x2).2.2.2) x2).2.2.1) ((r56 16 ((r56 32 x0 x1 x2).2.2.1) ((r56 32 x0 x1 x2).2.2.2) x2).2.2.2) x2)
 cond (Nat.beq ((r56 32 x0 x1 x2).1) 0) (cond (Nat.beq ((r56 16 ((r56 32 x0 x1 x2).2.2.1) ((r56 32 x0 x1 x2).2.2.2) x2).1) 0) (cond (Nat.beq (c0.1) 0) (cond (Nat.beq ((r56 9 (c0.2.2.1) (c0.2.2.2) x2).1) 0) (0, (fdiv .f32 (ofInt .f32 (IntKind.i64.wrap (1 + ((r56 32 x0 x1 x2).2.1)))) 1082130432), (fdiv .f32 (ofInt .f32 (IntKind.i64.wrap (1 + ((r56 16 ((r56 32 x0 x1 x2).2.2.1) ((r56 32 x0 x1 x2).2.2.2) x2).2.1)))) 1098907648), (ofInt .f32 (IntKind.i64.wrap ((c0.2.1) - 10))), (fdiv .f32 (ofInt .f32 ((r56 9 (c0.2.2.1) (c0.2.2.2) x2).2.1)) 1090519040), (-1), ((r56 9 (c0.2.2.1) (c0.2.2.2) x2).2.2.1), ((r56 9 (c0.2.2.1) (c0.2.2.2) x2).2.2.2)) (1, 0, 0, 0, 0, 0, 0, 0)) (1, 0, 0, 0, 0, 0, 0, 0)) (1, 0, 0, 0, 0, 0, 0, 0)) (1, 0, 0, 0, 0, 0, 0, 0)
noncomputable def a121 (x0 x1 : Int) (x2 : List (List Int)) (p : Nat × Nat × Nat × Nat × Nat × Int × Int × Int) : Res := firstT [((Nat.beq (p.1) 0), .agg #[vf (p.2.1), vf (p.2.2.1), vf (p.2.2.2.1), vf (p.2.2.2.2.1), vi (p.2.2.2.2.2.1)], ⟨[⟨true, (some (.cells [wsl 1, vi (p.2.2.2.2.2.2.1), .int .u64 (p.2.2.2.2.2.2.2)]))⟩, ⟨false, (some (.tab [.int .u8] x2))⟩], 2, [0]⟩)]
noncomputable def w121 (x0 x1 : Int) (x2 : List (List Int)) : Res :=
 let c0 := (r56 300 ((r56 16 ((r56 32 x0 x1 x2).2.2.1) ((r56 32 x0 x1 x2).2.2.2) x2).2.2.1) ((r56 16 ((r56 32 x0 x1 x2).2.2.1) ((r56 32 x0 x1 x2).2.2.2) x2).2.2.2) x2)
 (cond (Nat.beq ((r56 32 x0 x1 x2).1) 0)
 (cond (Nat.beq ((r56 16 ((r56 32 x0 x1 x2).2.2.1) ((r56 32 x0 x1 x2).2.2.2) x2).1) 0) (cond (Nat.beq (c0.1) 0) (cond (Nat.beq ((r56 9 (c0.2.2.1) (c0.2.2.2) x2).1) 0) (a121 x0 x1 x2 (0, (fdiv .f32 (ofInt .f32 (IntKind.i64.wrap (1 + ((r56 32 x0 x1 x2).2.1)))) 1082130432), (fdiv .f32 (ofInt .f32 (IntKind.i64.wrap (1 + ((r56 16 ((r56 32 x0 x1 x2).2.2.1) ((r56 32 x0 x1 x2).2.2.2) x2).2.1)))) 1098907648), (ofInt .f32 (IntKind.i64.wrap ((c0.2.1) - 10))), (fdiv .f32 (ofInt .f32 ((r56 9 (c0.2.2.1) (c0.2.2.2) x2).2.1)) 1090519040), (-1), ((r56 9 (c0.2.2.1) (c0.2.2.2) x2).2.2.1), ((r56 9 (c0.2.2.1) (c0.2.2.2) x2).2.2.2))) none) none) none)
 none)
set_option maxRecDepth 100000 in
set_option maxHeartbeats 4000000 in
theorem e121 (x0 x1 : Int) (x2 : List (List Int)) : evFn Try.prog ext T4 noL 200 Try.f121 [vp 0] ⟨[⟨true, (some (.cells [wsl 1, vi x0, .int .u64 x1]))⟩, ⟨false, (some (.tab [.int .u8] x2))⟩], 2, []⟩ = firstT [((Nat.beq ((r121 x0 x1 x2).1) 0), .agg #[vf ((r121 x0 x1 x2).2.1), vf ((r121 x0 x1 x2).2.2.1), vf ((r121 x0 x1 x2).2.2.2.1), vf ((r121 x0 x1 x2).2.2.2.2.1), vi ((r121 x0 x1 x2).2.2.2.2.2.1)], ⟨[⟨true, (some (.cells [wsl 1, vi ((r121 x0 x1 x2).2.2.2.2.2.2.1), .int .u64 ((r121 x0 x1 x2).2.2.2.2.2.2.2)]))⟩, ⟨false, (some (.tab [.int .u8] x2))⟩], 2, [0]⟩)] :=
 (show _ = w121 x0 x1 x2 from by kernel_rfl).trans
 (show w121 x0 x1 x2 = a121 x0 x1 x2 (r121 x0 x1 x2) from by unfold w121 r121; exact (cond_app (a121 x0 x1 x2) _ (cond_app (a121 x0 x1 x2) _ (cond_app (a121 x0 x1 x2) _ (cond_app (a121 x0 x1 x2) _ rfl rfl) rfl) rfl) rfl))
noncomputable def s121 (args : List Value) (s : St) : List (Bool × Value × St) :=
 match args, s.h with
 | [.pointer (some ⟨f0, f1, some f2⟩)], [⟨true, some (.cells [.iface f3 .nilIface, .int .i64 x0, .int .u64 x1])⟩, ⟨false, some (.tab [.int .u8] x2)⟩] => if f0 = 0 ∧ f1 = 0 ∧ f2 = 0 ∧ f3 = 1 then [((Nat.beq ((r121 x0 x1 x2).1) 0), .agg #[vf ((r121 x0 x1 x2).2.1), vf ((r121 x0 x1 x2).2.2.1), vf ((r121 x0 x1 x2).2.2.2.1), vf ((r121 x0 x1 x2).2.2.2.2.1), vi ((r121 x0 x1 x2).2.2.2.2.2.1)], ⟨[⟨true, (some (.cells [wsl 1, vi ((r121 x0 x1 x2).2.2.2.2.2.2.1), .int .u64 ((r121 x0 x1 x2).2.2.2.2.2.2.2)]))⟩, ⟨false, (some (.tab [.int .u8] x2))⟩], 2, [0]⟩)] else T4 121 args s
 | _, _ => T4 121 args s
noncomputable def T5 : CallF := addF T4 121 s121
set_option maxRecDepth 100000 in
set_option maxHeartbeats 4000000 in
theorem ok5 : CfOk Try.prog T5 := by
  refine cfOk_add ok4 fun args s r s' h1 h2 h3 => ?_
  unfold s121 at h3; split at h3
  · rename_i h; split at h3
    · rename_i hc; obtain ⟨rfl, rfl, rfl, rfl⟩ := hc; exact callOk ok4 Try.func121 h1 h2 h (lfOkF_no _ _).body (e121 _ _ _) rfl h3
    · exact ok4 _ _ _ _ _ h1 h2 h3
  · exact ok4 _ _ _ _ _ h1 h2 h3

/-- spec.l03Drawn, loop 0: one round -/
noncomputable def b54l0 (ih : Int → Int → Int → List (List Int) → List (List Int) → (Nat × Int × Int × List (List Int))) (x0 x1 x2 : Int) (x3 x4 : List (List Int)) : Nat × Int × Int × List (List Int) :=
 cond (decide ((x0 : Int) > 0)) (cond (Nat.beq ((r121 x1 x2 x4).1) 0) (cond (Nat.ble ((x3.length + 1) * 25) 140737488355328) (cond (Nat.beq ((ih (IntKind.i64.wrap (x0 - 1)) ((r121 x1 x2 x4).2.2.2.2.2.2.1) ((r121 x1 x2 x4).2.2.2.2.2.2.2) (((x3.drop 0).take x3.length) ++ ([[((((r121 x1 x2 x4).2.1) : Nat) : Int), ((((r121 x1 x2 x4).2.2.1) : Nat) : Int), ((((r121 x1 x2 x4).2.2.2.1) : Nat) : Int), ((((r121 x1 x2 x4).2.2.2.2.1) : Nat) : Int), ((r121 x1 x2 x4).2.2.2.2.2.1)]] : List (List Int))) x4).1) 0) (0, ((ih (IntKind.i64.wrap (x0 - 1)) ((r121 x1 x2 x4).2.2.2.2.2.2.1) ((r121 x1 x2 x4).2.2.2.2.2.2.2) (((x3.drop 0).take x3.length) ++ ([[((((r121 x1 x2 x4).2.1) : Nat) : Int), ((((r121 x1 x2 x4).2.2.1) : Nat) : Int), ((((r121 x1 x2 x4).2.2.2.1) : Nat) : Int), ((((r121 x1 x2 x4).2.2.2.2.1) : Nat) : Int), ((r121 x1 x2 x4).2.2.2.2.2.1)]] : List (List Int))) x4).2.1), ((ih (IntKind.i64.wrap (x0 - 1)) ((r121 x1 x2 x4).2.2.2.2.2.2.1) ((r121 x1 x2 x4).2.2.2.2.2.2.2) (((x3.drop 0).take x3.length) ++ ([[((((r121 x1 x2 x4).2.1) : Nat) : Int), ((((r121 x1 x2 x4).2.2.1) : Nat) : Int), ((((r121 x1 x2 x4).2.2.2.1) : Nat) : Int), ((((r121 x1 x2 x4).2.2.2.2.1) : Nat) : Int), ((r121 x1 x2 x4).2.2.2.2.2.1)]] : List (List Int))) x4).2.2.1), ((ih (IntKind.i64.wrap (x0 - 1)) ((r121 x1 x2 x4).2.2.2.2.2.2.1) ((r121 x1 x2 x4).2.2.2.2.2.2.2) (((x3.drop 0).take x3.length) ++ ([[((((r121 x1 x2 x4).2.1) : Nat) : Int), ((((r121 x1 x2 x4).2.2.1) : Nat) : Int), ((((r121 x1 x2 x4).2.2.2.1) : Nat) : Int), ((((r121 x1 x2 x4).2.2.2.2.1) : Nat) : Int), ((r121 x1 x2 x4).2.2.2.2.2.1)]] : List (List Int))) x4).2.2.2)) (cond (Nat.beq ((ih (IntKind.i64.wrap (x0 - 1)) ((r121 x1 x2 x4).2.2.2.2.2.2.1) ((r121 x1 x2 x4).2.2.2.2.2.2.2) (((x3.drop 0).take x3.length) ++ ([[((((r121 x1 x2 x4).2.1) : Nat) : Int), ((((r121 x1 x2 x4).2.2.1) : Nat) : Int), ((((r121 x1 x2 x4).2.2.2.1) : Nat) : Int), ((((r121 x1 x2 x4).2.2.2.2.1) : Nat) : Int), ((r121 x1 x2 x4).2.2.2.2.2.1)]] : List (List Int))) x4).1) 1) (0, ((r121 x1 x2 x4).2.2.2.2.2.2.1), ((r121 x1 x2 x4).2.2.2.2.2.2.2), (((x3.drop 0).take x3.length) ++ ([[((((r121 x1 x2 x4).2.1) : Nat) : Int), ((((r121 x1 x2 x4).2.2.1) : Nat) : Int), ((((r121 x1 x2 x4).2.2.2.1) : Nat) : Int), ((((r121 x1 x2 x4).2.2.2.2.1) : Nat) : Int), ((r121 x1 x2 x4).2.2.2.2.2.1)]] : List (List Int)))) (2, 0, 0, []))) (2, 0, 0, [])) (2, 0, 0, [])) (1, 0, 0, [])
noncomputable def r54l0 : Nat → Int → Int → Int → List (List Int) → List (List Int) → (Nat × Int × Int × List (List Int))
 | 0 => fun _ _ _ _ _ => (2, 0, 0, [])
 | m + 1 => b54l0 (r54l0 m)
noncomputable def a54l0 (x0 x1 x2 : Int) (x3 x4 : List (List Int)) (p : Nat × Int × Int × List (List Int)) : Option (Fin' × List Value × St) := firstT ([((Nat.beq (p.1) 0), .exit 0, [vp 0, wsl 3], ⟨[⟨true, (some (.cells [wsl 2, vi (p.2.1), .int .u64 (p.2.2.1)]))⟩, ⟨true, none⟩, ⟨false, (some (.tab [.int .u8] x4))⟩, ⟨true, (some (.tab sc0 (p.2.2.2)))⟩], 3, [0, 1]⟩), ((Nat.beq (p.1) 1), .exit 0, [vp 0, wsl 1], ⟨[⟨true, (some (.cells [wsl 2, vi x1, .int .u64 x2]))⟩, ⟨true, (some (.tab sc0 x3))⟩, ⟨false, (some (.tab [.int .u8] x4))⟩], 3, [0, 1]⟩)].map fun (b, x) => (b, (x.1, frameOf 45 [0, 3] x.2.1, x.2.2)))
noncomputable def u54l0 (x0 x1 x2 : Int) (x3 x4 : List (List Int)) (p : Nat × Int × Int × List (List Int)) : Option (Fin' × List Value × St) := alts ([((Nat.beq (p.1) 0), .exit 0, [vp 0, wsl 3], ⟨[⟨true, (some (.cells [wsl 2, vi (p.2.1), .int .u64 (p.2.2.1)]))⟩, ⟨true, none⟩, ⟨false, (some (.tab [.int .u8] x4))⟩, ⟨true, (some (.tab sc0 (p.2.2.2)))⟩], 3, [0, 1]⟩), ((Nat.beq (p.1) 1), .exit 0, [vp 0, wsl 1], ⟨[⟨true, (some (.cells [wsl 2, vi x1, .int .u64 x2]))⟩, ⟨true, (some (.tab sc0 x3))⟩, ⟨false, (some (.tab [.int .u8] x4))⟩], 3, [0, 1]⟩)].map fun (b, x) => (b, (x.1, frameOf 45 [0, 3] x.2.1, x.2.2))) some
theorem v54l0 (x0 x1 x2 : Int) (x3 x4 : List (List Int)) (p : Nat × Int × Int × List (List Int)) : u54l0 x0 x1 x2 x3 x4 p = a54l0 x0 x1 x2 x3 x4 p := alts_first _
noncomputable def q54l0 (m : Nat) : SumK := fun vals s =>
 match vals, s.h with
 | [.pointer (some ⟨f0, f1, some f2⟩), .iface f3 .nilIface, .int .i64 x0], [⟨true, some (.cells [.iface f4 .nilIface, .int .i64 x1, .int .u64 x2])⟩, ⟨true, some (.tab [.fl .f32, .fl .f32, .fl .f32, .fl .f32, .int .i64] x3)⟩, ⟨false, some (.tab [.int .u8] x4)⟩] => if f0 = 0 ∧ f1 = 0 ∧ f2 = 0 ∧ f3 = 1 ∧ f4 = 2 then [((Nat.beq ((r54l0 m x0 x1 x2 x3 x4).1) 0), .exit 0, [vp 0, wsl 3], ⟨[⟨true, (some (.cells [wsl 2, vi ((r54l0 m x0 x1 x2 x3 x4).2.1), .int .u64 ((r54l0 m x0 x1 x2 x3 x4).2.2.1)]))⟩, ⟨true, none⟩, ⟨false, (some (.tab [.int .u8] x4))⟩, ⟨true, (some (.tab sc0 ((r54l0 m x0 x1 x2 x3 x4).2.2.2)))⟩], 3, [0, 1]⟩), ((Nat.beq ((r54l0 m x0 x1 x2 x3 x4).1) 1), .exit 0, [vp 0, wsl 1], ⟨[⟨true, (some (.cells [wsl 2, vi x1, .int .u64 x2]))⟩, ⟨true, (some (.tab sc0 x3))⟩, ⟨false, (some (.tab [.int .u8] x4))⟩], 3, [0, 1]⟩)] else noQ vals s
 | _, _ => noQ vals s
noncomputable def w54l0 (ih : Int → Int → Int → List (List Int) → List (List Int) → (Nat × Int × Int × List (List Int))) (x0 x1 x2 : Int) (x3 x4 : List (List Int)) : Option (Fin' × List Value × St) :=
 (cond (decide ((x0 : Int) > 0))
 (cond (Nat.beq ((r121 x1 x2 x4).1) 0) (cond (Nat.ble ((x3.length + 1) * 25) 140737488355328) (cond (Nat.beq ((ih (IntKind.i64.wrap (x0 - 1)) ((r121 x1 x2 x4).2.2.2.2.2.2.1) ((r121 x1 x2 x4).2.2.2.2.2.2.2) (((x3.drop 0).take x3.length) ++ ([[((((r121 x1 x2 x4).2.1) : Nat) : Int), ((((r121 x1 x2 x4).2.2.1) : Nat) : Int), ((((r121 x1 x2 x4).2.2.2.1) : Nat) : Int), ((((r121 x1 x2 x4).2.2.2.2.1) : Nat) : Int), ((r121 x1 x2 x4).2.2.2.2.2.1)]] : List (List Int))) x4).1) 0) (a54l0 x0 x1 x2 x3 x4 (0, ((ih (IntKind.i64.wrap (x0 - 1)) ((r121 x1 x2 x4).2.2.2.2.2.2.1) ((r121 x1 x2 x4).2.2.2.2.2.2.2) (((x3.drop 0).take x3.length) ++ ([[((((r121 x1 x2 x4).2.1) : Nat) : Int), ((((r121 x1 x2 x4).2.2.1) : Nat) : Int), ((((r121 x1 x2 x4).2.2.2.1) : Nat) : Int), ((((r121 x1 x2 x4).2.2.2.2.1) : Nat) : Int), ((r121 x1 x2 x4).2.2.2.2.2.1)]] : List (List Int))) x4).2.1), ((ih (IntKind.i64.wrap (x0 - 1)) ((r121 x1 x2 x4).2.2.2.2.2.2.1) ((r121 x1 x2 x4).2.2.2.2.2.2.2) (((x3.drop 0).take x3.length) ++ ([[((((r121 x1 x2 x4).2.1) : Nat) : Int), ((((r121 x1 x2 x4).2.2.1) : Nat) : Int), ((((r121 x1 x2 x4).2.2.2.1) : Nat) : Int), ((((r121 x1 x2 x4).2.2.2.2.1) : Nat) : Int), ((r121 x1 x2 x4).2.2.2.2.2.1)]] : List (List Int))) x4).2.2.1), ((ih (IntKind.i64.wrap (x0 - 1)) ((r121 x1 x2 x4).2.2.2.2.2.2.1) ((r121 x1 x2 x4).2.2.2.2.2.2.2) (((x3.drop 0).take x3.length) ++ ([[((((r121 x1 x2 x4).2.1) : Nat) : Int), ((((r121 x1 x2 x4).2.2.1) : Nat) : Int), ((((r121 x1 x2 x4).2.2.2.1) : Nat) : Int), ((((r121 x1 x2 x4).2.2.2.2.1) : Nat) : Int), ((r121 x1 x2 x4).2.2.2.2.2.1)]] : List (List Int))) x4).2.2.2))) (cond (Nat.beq ((ih (IntKind.i64.wrap (x0 - 1)) ((r121 x1 x2 x4).2.2.2.2.2.2.1) ((r121 x1 x2 x4).2.2.2.2.2.2.2) (((x3.drop 0).take x3.length) ++ ([[((((r121 x1 x2 x4).2.1) : Nat) : Int), ((((r121 x1 x2 x4).2.2.1) : Nat) : Int), ((((r121 x1 x2 x4).2.2.2.1) : Nat) : Int), ((((r121 x1 x2 x4).2.2.2.2.1) : Nat) : Int), ((r121 x1 x2 x4).2.2.2.2.2.1)]] : List (List Int))) x4).1) 1) (a54l0 x0 x1 x2 x3 x4 (0, ((r121 x1 x2 x4).2.2.2.2.2.2.1), ((r121 x1 x2 x4).2.2.2.2.2.2.2), (((x3.drop 0).take x3.length) ++ ([[((((r121 x1 x2 x4).2.1) : Nat) : Int), ((((r121 x1 x2 x4).2.2.1) : Nat) : Int), ((((r121 x1 x2 x4).2.2.2.1) : Nat) : Int), ((((r121 x1 x2 x4).2.2.2.2.1) : Nat) : Int), ((r121 x1 x2 x4).2.2.2.2.2.1)]] : List (List Int))))) none)) none) none)
 (a54l0 x0 x1 x2 x3 x4 (1, 0, 0, [])))
set_option maxRecDepth 100000 in
set_option maxHeartbeats 4000000 in
theorem e54l0 (m : Nat) (x0 x1 x2 : Int) (x3 x4 : List (List Int)) : evC Try.prog ext T5 noL 200 (loopN Try.f54 0) (loopTail ([0, 3, 4], []) [0, 3] [0, 1] (sumK 45 [0, 3, 4] [0, 3] (q54l0 m))) (frameOf 45 [0, 3, 4] [vp 0, wsl 1, vi x0]) ⟨[⟨true, (some (.cells [wsl 2, vi x1, .int .u64 x2]))⟩, ⟨true, (some (.tab sc0 x3))⟩, ⟨false, (some (.tab [.int .u8] x4))⟩], 3, []⟩ = firstT ([((Nat.beq ((r54l0 (m + 1) x0 x1 x2 x3 x4).1) 0), .exit 0, [vp 0, wsl 3], ⟨[⟨true, (some (.cells [wsl 2, vi ((r54l0 (m + 1) x0 x1 x2 x3 x4).2.1), .int .u64 ((r54l0 (m + 1) x0 x1 x2 x3 x4).2.2.1)]))⟩, ⟨true, none⟩, ⟨false, (some (.tab [.int .u8] x4))⟩, ⟨true, (some (.tab sc0 ((r54l0 (m + 1) x0 x1 x2 x3 x4).2.2.2)))⟩], 3, [0, 1]⟩), ((Nat.beq ((r54l0 (m + 1) x0 x1 x2 x3 x4).1) 1), .exit 0, [vp 0, wsl 1], ⟨[⟨true, (some (.cells [wsl 2, vi x1, .int .u64 x2]))⟩, ⟨true, (some (.tab sc0 x3))⟩, ⟨false, (some (.tab [.int .u8] x4))⟩], 3, [0, 1]⟩)].map fun (b, x) => (b, (x.1, frameOf 45 [0, 3] x.2.1, x.2.2))) :=
 (show _ = w54l0 (r54l0 m) x0 x1 x2 x3 x4 from by kernel_rfl).trans
 (show w54l0 (r54l0 m) x0 x1 x2 x3 x4 = a54l0 x0 x1 x2 x3 x4 (r54l0 (m + 1) x0 x1 x2 x3 x4) from by unfold w54l0; show _ = a54l0 x0 x1 x2 x3 x4 (b54l0 (r54l0 m) x0 x1 x2 x3 x4); unfold b54l0; exact (cond_app (a54l0 x0 x1 x2 x3 x4) _ (cond_app (a54l0 x0 x1 x2 x3 x4) _ (cond_app (a54l0 x0 x1 x2 x3 x4) _ (cond_app (a54l0 x0 x1 x2 x3 x4) _ rfl (cond_app (a54l0 x0 x1 x2 x3 x4) _ rfl rfl)) rfl) rfl) rfl))
set_option maxRecDepth 100000 in
set_option maxHeartbeats 4000000 in
theorem qm54l0 : ∀ m, SumKOk Try.prog (loopN Try.f54 0) 45 [0, 3, 4] [0, 3] (q54l0 m) := by
  intro m
  induction m with
  | zero =>
    intro vals s x h1 h2 h3
    unfold q54l0 at h3; split at h3
    · rename_i h; split at h3
      · rename_i hc; obtain ⟨rfl, rfl, rfl, rfl, rfl⟩ := hc; exact absurd h3 (by simp [r54l0, firstT, Nat.beq])
      · exact noQ_ok _ _ _ h1 h2 h3
    · exact noQ_ok _ _ _ h1 h2 h3
  | succ m ih =>
    intro vals s x h1 h2 h3
    unfold q54l0 at h3; split at h3
    · rename_i h; split at h3
      · rename_i hc; obtain ⟨rfl, rfl, rfl, rfl, rfl⟩ := hc; exact sum_step ok5 extOk mixed ((lfOkF_no _ _).inner (by kernel_rfl)) ih h1 h2 h (e54l0 m _ _ _ _ _) rfl h3
      · exact noQ_ok _ _ _ h1 h2 h3
    · exact noQ_ok _ _ _ h1 h2 h3
noncomputable def Q54l0 : SumK := fun vals s => q54l0 (fuelOf vals s.h) vals s
theorem qok54l0 : SumKOk Try.prog (loopN Try.f54 0) 45 [0, 3, 4] [0, 3] Q54l0 := fuel_ok qm54l0 fuelOf
noncomputable def L54_1 : LoopT := addL noL 4 ([0, 3, 4], []) (sumK 45 [0, 3, 4] [0, 3] Q54l0)
theorem lok54_1 : LfOkF Try.prog L54_1 Try.f54 := lfOkF_add (lfOkF_no _ _) qok54l0 (by kernel_rfl) (by kernel_rfl) (by kernel_rfl)

/-- (*spec.l00Src).one -/
noncomputable def r122 (x0 x1 : Int) (x2 : List (List Int)) : Nat × Bool × Int × Int :=
 cond (Nat.beq ((r56 3 x0 x1 x2).1) 0) (0, ((((r56 3 x0 x1 x2).2.1) : Int) == 0), ((r56 3 x0 x1 x2).2.2.1), ((r56 3 x0 x1 x2).2.2.2)) (1, false, 0, 0)
noncomputable def a122 (x0 x1 : Int) (x2 : List (List Int)) (p : Nat × Bool × Int × Int) : Res := firstT [((Nat.beq (p.1) 0), .bool (p.2.1), ⟨[⟨true, (some (.cells [wsl 1, vi (p.2.2.1), .int .u64 (p.2.2.2)]))⟩, ⟨false, (some (.tab [.int .u8] x2))⟩], 2, [0]⟩)]
noncomputable def w122 (x0 x1 : Int) (x2 : List (List Int)) : Res :=
 (cond (Nat.beq ((r56 3 x0 x1 x2).1) 0)
 (a122 x0 x1 x2 (0, ((((r56 3 x0 x1 x2).2.1) : Int) == 0), ((r56 3 x0 x1 x2).2.2.1), ((r56 3 x0 x1 x2).2.2.2)))
 none)
set_option maxRecDepth 100000 in
set_option maxHeartbeats 4000000 in
theorem e122 (x0 x1 : Int) (x2 : List (List Int)) : evFn Try.prog ext T5 noL 200 Try.f122 [vp 0, vi 3] ⟨[⟨true, (some (.cells [wsl 1, vi x0, .int .u64 x1]))⟩, ⟨false, (some (.tab [.int .u8] x2))⟩], 2, []⟩ = firstT [((Nat.beq ((r122 x0 x1 x2).1) 0), .bool ((r122 x0 x1 x2).2.1), ⟨[⟨true, (some (.cells [wsl 1, vi ((r122 x0 x1 x2).2.2.1), .int .u64 ((r122 x0 x1 x2).2.2.2)]))⟩, ⟨false, (some (.tab [.int .u8] x2))⟩], 2, [0]⟩)] :=
 (show _ = w122 x0 x1 x2 from by kernel_rfl).trans
 (show w122 x0 x1 x2 = a122 x0 x1 x2 (r122 x0 x1 x2) from by unfold w122 r122; exact (cond_app (a122 x0 x1 x2) _ rfl rfl))
noncomputable def s122 (args : List Value) (s : St) : List (Bool × Value × St) :=
 match args, s.h with
 | [.pointer (some ⟨f0, f1, some f2⟩), .int .i64 f3], [⟨true, some (.cells [.iface f4 .nilIface, .int .i64 x0, .int .u64 x1])⟩, ⟨false, some (.tab [.int .u8] x2)⟩] => if f0 = 0 ∧ f1 = 0 ∧ f2 = 0 ∧ f3 = 3 ∧ f4 = 1 then [((Nat.beq ((r122 x0 x1 x2).1) 0), .bool ((r122 x0 x1 x2).2.1), ⟨[⟨true, (some (.cells [wsl 1, vi ((r122 x0 x1 x2).2.2.1), .int .u64 ((r122 x0 x1 x2).2.2.2)]))⟩, ⟨false, (some (.tab [.int .u8] x2))⟩], 2, [0]⟩)] else T5 122 args s
 | _, _ => T5 122 args s
noncomputable def T6 : CallF := addF T5 122 s122
set_option maxRecDepth 100000 in
set_option maxHeartbeats 4000000 in
theorem ok6 : CfOk Try.prog T6 := by
  refine cfOk_add ok5 fun args s r s' h1 h2 h3 => ?_
  unfold s122 at h3; split at h3
  · rename_i h; split at h3
    · rename_i hc; obtain ⟨rfl, rfl, rfl, rfl, rfl⟩ := hc; exact callOk ok5 Try.func122 h1 h2 h (lfOkF_no _ _).body (e122 _ _ _) rfl h3
    · exact ok5 _ _ _ _ _ h1 h2 h3
  · exact ok5 _ _ _ _ _ h1 h2 h3

/-- spec.l03Drawn, loop 1: one round -/
noncomputable def b54l1 (ih : Int → Int → Int → Int → Int → List (List Int) → List (List Int) → (Nat × Int × Int × List (List Int))) (x0 x1 x2 x3 x4 : Int) (x5 x6 : List (List Int)) : Nat × Int × Int × List (List Int) :=
 cond (decide ((x2 : Int) < x0)) (cond ((x2 : Int) != x1) (cond (Nat.beq ((r122 x3 x4 x6).1) 0) (cond (!((r122 x3 x4 x6).2.1)) (cond ((decide ((0 : Int) ≤ x2)) && (Nat.blt (Int.toNat x2) x5.length)) (ih x0 x1 (IntKind.i64.wrap (x2 + 1)) ((r122 x3 x4 x6).2.2.1) ((r122 x3 x4 x6).2.2.2) (x5.modify (Int.toNat x2) (fun r => spl 5 r 4 [x1])) x6) (1, 0, 0, [])) (ih x0 x1 (IntKind.i64.wrap (x2 + 1)) ((r122 x3 x4 x6).2.2.1) ((r122 x3 x4 x6).2.2.2) x5 x6)) (1, 0, 0, [])) (ih x0 x1 (IntKind.i64.wrap (x2 + 1)) x3 x4 x5 x6)) (0, x3, x4, x5)
noncomputable def r54l1 : Nat → Int → Int → Int → Int → Int → List (List Int) → List (List Int) → (Nat × Int × Int × List (List Int))
 | 0 => fun _ _ _ _ _ _ _ => (1, 0, 0, [])
 | m + 1 => b54l1 (r54l1 m)
noncomputable def a54l1 (x0 x1 x2 x3 x4 : Int) (x5 x6 : List (List Int)) (p : Nat × Int × Int × List (List Int)) : Option (Fin' × List Value × St) := firstT ([((Nat.beq (p.1) 0), .exit 2, [wsl 1], ⟨[⟨true, (some (.cells [wsl 2, vi (p.2.1), .int .u64 (p.2.2.1)]))⟩, ⟨true, (some (.tab sc0 (p.2.2.2)))⟩, ⟨false, (some (.tab [.int .u8] x6))⟩], 3, [0, 1]⟩)].map fun (b, x) => (b, (x.1, frameOf 45 [3] x.2.1, x.2.2)))
noncomputable def u54l1 (x0 x1 x2 x3 x4 : Int) (x5 x6 : List (List Int)) (p : Nat × Int × Int × List (List Int)) : Option (Fin' × List Value × St) := alts ([((Nat.beq (p.1) 0), .exit 2, [wsl 1], ⟨[⟨true, (some (.cells [wsl 2, vi (p.2.1), .int .u64 (p.2.2.1)]))⟩, ⟨true, (some (.tab sc0 (p.2.2.2)))⟩, ⟨false, (some (.tab [.int .u8] x6))⟩], 3, [0, 1]⟩)].map fun (b, x) => (b, (x.1, frameOf 45 [3] x.2.1, x.2.2))) some
theorem v54l1 (x0 x1 x2 x3 x4 : Int) (x5 x6 : List (List Int)) (p : Nat × Int × Int × List (List Int)) : u54l1 x0 x1 x2 x3 x4 x5 x6 p = a54l1 x0 x1 x2 x3 x4 x5 x6 p := alts_first _
noncomputable def q54l1 (m : Nat) : SumK := fun vals s =>
 match vals, s.h with
 | [.pointer (some ⟨f0, f1, some f2⟩), .iface f3 .nilIface, .int .i64 x0, .int .i64 x1, .int .i64 x2], [⟨true, some (.cells [.iface f4 .nilIface, .int .i64 x3, .int .u64 x4])⟩, ⟨true, some (.tab [.fl .f32, .fl .f32, .fl .f32, .fl .f32, .int .i64] x5)⟩, ⟨false, some (.tab [.int .u8] x6)⟩] => if f0 = 0 ∧ f1 = 0 ∧ f2 = 0 ∧ f3 = 1 ∧ f4 = 2 then [((Nat.beq ((r54l1 m x0 x1 x2 x3 x4 x5 x6).1) 0), .exit 2, [wsl 1], ⟨[⟨true, (some (.cells [wsl 2, vi ((r54l1 m x0 x1 x2 x3 x4 x5 x6).2.1), .int .u64 ((r54l1 m x0 x1 x2 x3 x4 x5 x6).2.2.1)]))⟩, ⟨true, (some (.tab sc0 ((r54l1 m x0 x1 x2 x3 x4 x5 x6).2.2.2)))⟩, ⟨false, (some (.tab [.int .u8] x6))⟩], 3, [0, 1]⟩)] else noQ vals s
 | _, _ => noQ vals s
noncomputable def w54l1 (ih : Int → Int → Int → Int → Int → List (List Int) → List (List Int) → (Nat × Int × Int × List (List Int))) (x0 x1 x2 x3 x4 : Int) (x5 x6 : List (List Int)) : Option (Fin' × List Value × St) :=
 (cond (decide ((x2 : Int) < x0))
 (cond ((x2 : Int) != x1) (cond (Nat.beq ((r122 x3 x4 x6).1) 0) (cond (!((r122 x3 x4 x6).2.1)) (cond ((decide ((0 : Int) ≤ x2)) && (Nat.blt (Int.toNat x2) x5.length)) (cond (Nat.blt (Int.toNat x2) x5.length) (u54l1 x0 x1 x2 x3 x4 x5 x6 (ih x0 x1 (IntKind.i64.wrap (x2 + 1)) ((r122 x3 x4 x6).2.2.1) ((r122 x3 x4 x6).2.2.2) (x5.modify (Int.toNat x2) (fun r => spl 5 r 4 [x1])) x6)) none) none) (u54l1 x0 x1 x2 x3 x4 x5 x6 (ih x0 x1 (IntKind.i64.wrap (x2 + 1)) ((r122 x3 x4 x6).2.2.1) ((r122 x3 x4 x6).2.2.2) x5 x6))) none) (u54l1 x0 x1 x2 x3 x4 x5 x6 (ih x0 x1 (IntKind.i64.wrap (x2 + 1)) x3 x4 x5 x6)))
 (a54l1 x0 x1 x2 x3 x4 x5 x6 (0, x3, x4, x5)))
set_option maxRecDepth 100000 in
set_option maxHeartbeats 4000000 in
theorem e54l1 (m : Nat) (x0 x1 x2 x3 x4 : Int) (x5 x6 : List (List Int)) : evC Try.prog ext T6 L54_1 200 (loopN Try.f54 1) (loopTail ([0, 3, 5, 6, 7], []) [3] [0, 1] (sumK 45 [0, 3, 5, 6, 7] [3] (q54l1 m))) (frameOf 45 [0, 3, 5, 6, 7] [vp 0, wsl 1, vi x0, vi x1, vi x2]) ⟨[⟨true, (some (.cells [wsl 2, vi x3, .int .u64 x4]))⟩, ⟨true, (some (.tab sc0 x5))⟩, ⟨false, (some (.tab [.int .u8] x6))⟩], 3, []⟩ = firstT ([((Nat.beq ((r54l1 (m + 1) x0 x1 x2 x3 x4 x5 x6).1) 0), .exit 2, [wsl 1], ⟨[⟨true, (some (.cells [wsl 2, vi ((r54l1 (m + 1) x0 x1 x2 x3 x4 x5 x6).2.1), .int .u64 ((r54l1 (m + 1) x0 x1 x2 x3 x4 x5 x6).2.2.1)]))⟩, ⟨true, (some (.tab sc0 ((r54l1 (m + 1) x0 x1 x2 x3 x4 x5 x6).2.2.2)))⟩, ⟨false, (some (.tab [.int .u8] x6))⟩], 3, [0, 1]⟩)].map fun (b, x) => (b, (x.1, frameOf 45 [3] x.2.1, x.2.2))) :=
 (show _ = w54l1 (r54l1 m) x0 x1 x2 x3 x4 x5 x6 from by kernel_rfl).trans
 (show w54l1 (r54l1 m) x0 x1 x2 x3 x4 x5 x6 = a54l1 x0 x1 x2 x3 x4 x5 x6 (r54l1 (m + 1) x0 x1 x2 x3 x4 x5 x6) from by unfold w54l1; show _ = a54l1 x0 x1 x2 x3 x4 x5 x6 (b54l1 (r54l1 m) x0 x1 x2 x3 x4 x5 x6); unfold b54l1; exact (cond_both (a54l1 x0 x1 x2 x3 x4 x5 x6) _ (fun h0 => (cond_both (a54l1 x0 x1 x2 x3 x4 x5 x6) _ (fun h1 => (cond_both (a54l1 x0 x1 x2 x3 x4 x5 x6) _ (fun h2 => (cond_both (a54l1 x0 x1 x2 x3 x4 x5 x6) _ (fun h3 => (cond_both (a54l1 x0 x1 x2 x3 x4 x5 x6) _ (fun h4 => (cond_t (ev_and2 h4) (v54l1 x0 x1 x2 x3 x4 x5 x6 ((r54l1 m) x0 x1 (IntKind.i64.wrap (x2 + 1)) ((r122 x3 x4 x6).2.2.1) ((r122 x3 x4 x6).2.2.2) (x5.modify (Int.toNat x2) (fun r => spl 5 r 4 [x1])) x6)))) (fun h4 => rfl))) (fun h3 => (v54l1 x0 x1 x2 x3 x4 x5 x6 ((r54l1 m) x0 x1 (IntKind.i64.wrap (x2 + 1)) ((r122 x3 x4 x6).2.2.1) ((r122 x3 x4 x6).2.2.2) x5 x6))))) (fun h2 => rfl))) (fun h1 => (v54l1 x0 x1 x2 x3 x4 x5 x6 ((r54l1 m) x0 x1 (IntKind.i64.wrap (x2 + 1)) x3 x4 x5 x6))))) (fun h0 => rfl)))
set_option maxRecDepth 100000 in
set_option maxHeartbeats 4000000 in
theorem qm54l1 : ∀ m, SumKOk Try.prog (loopN Try.f54 1) 45 [0, 3, 5, 6, 7] [3] (q54l1 m) := by
  intro m
  induction m with
  | zero =>
    intro vals s x h1 h2 h3
    unfold q54l1 at h3; split at h3
    · rename_i h; split at h3
      · rename_i hc; obtain ⟨rfl, rfl, rfl, rfl, rfl⟩ := hc; exact absurd h3 (by simp [r54l1, firstT, Nat.beq])
      · exact noQ_ok _ _ _ h1 h2 h3
    · exact noQ_ok _ _ _ h1 h2 h3
  | succ m ih =>
    intro vals s x h1 h2 h3
    unfold q54l1 at h3; split at h3
    · rename_i h; split at h3
      · rename_i hc; obtain ⟨rfl, rfl, rfl, rfl, rfl⟩ := hc; exact sum_step ok6 extOk mixed (lok54_1.inner (by kernel_rfl)) ih h1 h2 h (e54l1 m _ _ _ _ _ _ _) rfl h3
      · exact noQ_ok _ _ _ h1 h2 h3
    · exact noQ_ok _ _ _ h1 h2 h3
noncomputable def Q54l1 : SumK := fun vals s => q54l1 (fuelOf vals s.h) vals s
theorem qok54l1 : SumKOk Try.prog (loopN Try.f54 1) 45 [0, 3, 5, 6, 7] [3] Q54l1 := fuel_ok qm54l1 fuelOf
noncomputable def L54_2 : LoopT := addL L54_1 10 ([0, 3, 5, 6, 7], []) (sumK 45 [0, 3, 5, 6, 7] [3] Q54l1)
theorem lok54_2 : LfOkF Try.prog L54_2 Try.f54 := lfOkF_add lok54_1 qok54l1 (by kernel_rfl) (by kernel_rfl) (by kernel_rfl)

/-- spec.l03Drawn -/
noncomputable def r54 (x0 x1 : Int) (x2 : List (List Int)) : Nat × Int × Int × List (List Int) :=
 let c1 := (r54l0 (1000 + x2.length + 0) (IntKind.i64.wrap (1 + ((r56 5 x0 x1 x2).2.1))) ((r56 5 x0 x1 x2).2.2.1) ((r56 5 x0 x1 x2).2.2.2) ([] : List (List Int)) x2)
 let c3 := (r54l1 (1000 + x2.length + (c1.2.2.2).length) (((c1.2.2.2).length : Nat) : Int) ((r56 (((c1.2.2.2).length : Nat) : Int) (c1.2.1) (c1.2.2.1) x2).2.1) 0 ((r56 (((c1.2.2.2).length : Nat) : Int) (c1.2.1) (c1.2.2.1) x2).2.2.1) ((r56 (((c1.2.2.2).length : Nat) : Int) (c1.2.1) (c1.2.2.1) x2).2.2.2) (c1.2.2.2) x2)
 let c4 := (r54l1 (1000 + x2.length + 0) 0 ((r56 0 ((r56 5 x0 x1 x2).2.2.1) ((r56 5 x0 x1 x2).2.2.2) x2).2.1) 0 ((r56 0 ((r56 5 x0 x1 x2).2.2.1) ((r56 5 x0 x1 x2).2.2.2) x2).2.2.1) ((r56 0 ((r56 5 x0 x1 x2).2.2.1) ((r56 5 x0 x1 x2).2.2.2) x2).2.2.2) ([] : List (List Int)) x2)
 cond (Nat.beq ((r56 5 x0 x1 x2).1) 0) (cond (Nat.beq (c1.1) 0) (cond (Nat.beq ((r56 (((c1.2.2.2).length : Nat) : Int) (c1.2.1) (c1.2.2.1) x2).1) 0) (cond (Nat.beq (c3.1) 0) (0, (c3.2.1), (c3.2.2.1), (c3.2.2.2)) (1, 0, 0, [])) (1, 0, 0, [])) (cond (Nat.beq (c1.1) 1) (cond (Nat.beq ((r56 0 ((r56 5 x0 x1 x2).2.2.1) ((r56 5 x0 x1 x2).2.2.2) x2).1) 0) (cond (Nat.beq (c4.1) 0) (0, (c4.2.1), (c4.2.2.1), (c4.2.2.2)) (1, 0, 0, [])) (1, 0, 0, [])) (1, 0, 0, []))) (1, 0, 0, [])
noncomputable def a54 (x0 x1 : Int) (x2 : List (List Int)) (p : Nat × Int × Int × List (List Int)) : Res := firstT [((Nat.beq (p.1) 0), wsl 2, ⟨[⟨true, (some (.cells [wsl 1, vi (p.2.1), .int .u64 (p.2.2.1)]))⟩, ⟨false, (some (.tab [.int .u8] x2))⟩, ⟨true, (some (.tab sc0 (p.2.2.2)))⟩], 2, [0]⟩)]
noncomputable def w54 (x0 x1 : Int) (x2 : List (List Int)) : Res :=
 let c1 := (r54l0 (1000 + x2.length + 0) (IntKind.i64.wrap (1 + ((r56 5 x0 x1 x2).2.1))) ((r56 5 x0 x1 x2).2.2.1) ((r56 5 x0 x1 x2).2.2.2) ([] : List (List Int)) x2)
 let c3 := (r54l1 (1000 + x2.length + (c1.2.2.2).length) (((c1.2.2.2).length : Nat) : Int) ((r56 (((c1.2.2.2).length : Nat) : Int) (c1.2.1) (c1.2.2.1) x2).2.1) 0 ((r56 (((c1.2.2.2).length : Nat) : Int) (c1.2.1) (c1.2.2.1) x2).2.2.1) ((r56 (((c1.2.2.2).length : Nat) : Int) (c1.2.1) (c1.2.2.1) x2).2.2.2) (c1.2.2.2) x2)
 let c4 := (r54l1 (1000 + x2.length + 0) 0 ((r56 0 ((r56 5 x0 x1 x2).2.2.1) ((r56 5 x0 x1 x2).2.2.2) x2).2.1) 0 ((r56 0 ((r56 5 x0 x1 x2).2.2.1) ((r56 5 x0 x1 x2).2.2.2) x2).2.2.1) ((r56 0 ((r56 5 x0 x1 x2).2.2.1) ((r56 5 x0 x1 x2).2.2.2) x2).2.2.2) ([] : List (List Int)) x2)
 (cond (Nat.beq ((r56 5 x0 x1 x2).1) 0)
 (cond (Nat.beq (c1.1) 0) (cond (Nat.beq ((r56 (((c1.2.2.2).length : Nat) : Int) (c1.2.1) (c1.2.2.1) x2).1) 0) (cond (Nat.beq (c3.1) 0) (a54 x0 x1 x2 (0, (c3.2.1), (c3.2.2.1), (c3.2.2.2))) none) none) (cond (Nat.beq (c1.1) 1) (cond (Nat.beq ((r56 0 ((r56 5 x0 x1 x2).2.2.1) ((r56 5 x0 x1 x2).2.2.2) x2).1) 0) (cond (Nat.beq (c4.1) 0) (a54 x0 x1 x2 (0, (c4.2.1), (c4.2.2.1), (c4.2.2.2))) none) none) none))
 none)
set_option maxRecDepth 100000 in
set_option maxHeartbeats 4000000 in
theorem e54 (x0 x1 : Int) (x2 : List (List Int)) : evFn Try.prog ext T6 L54_2 200 Try.f54 [vp 0] ⟨[⟨true, (some (.cells [wsl 1, vi x0, .int .u64 x1]))⟩, ⟨false, (some (.tab [.int .u8] x2))⟩], 2, []⟩ = firstT [((Nat.beq ((r54 x0 x1 x2).1) 0), wsl 2, ⟨[⟨true, (some (.cells [wsl 1, vi ((r54 x0 x1 x2).2.1), .int .u64 ((r54 x0 x1 x2).2.2.1)]))⟩, ⟨false, (some (.tab [.int .u8] x2))⟩, ⟨true, (some (.tab sc0 ((r54 x0 x1 x2).2.2.2)))⟩], 2, [0]⟩)] :=
 (show _ = w54 x0 x1 x2 from by kernel_rfl).trans
 (show w54 x0 x1 x2 = a54 x0 x1 x2 (r54 x0 x1 x2) from by unfold w54 r54; exact (cond_app (a54 x0 x1 x2) _ (cond_app (a54 x0 x1 x2) _ (cond_app (a54 x0 x1 x2) _ (cond_app (a54 x0 x1 x2) _ rfl rfl) rfl) (cond_app (a54 x0 x1 x2) _ (cond_app (a54 x0 x1 x2) _ (cond_app (a54 x0 x1 x2) _ rfl rfl) rfl) rfl)) rfl))
noncomputable def s54 (args : List Value) (s : St) : List (Bool × Value × St) :=
 match args, s.h with
 | [.pointer (some ⟨f0, f1, some f2⟩)], [⟨true, some (.cells [.iface f3 .nilIface, .int .i64 x0, .int .u64 x1])⟩, ⟨false, some (.tab [.int .u8] x2)⟩] => if f0 = 0 ∧ f1 = 0 ∧ f2 = 0 ∧ f3 = 1 then [((Nat.beq ((r54 x0 x1 x2).1) 0), wsl 2, ⟨[⟨true, (some (.cells [wsl 1, vi ((r54 x0 x1 x2).2.1), .int .u64 ((r54 x0 x1 x2).2.2.1)]))⟩, ⟨false, (some (.tab [.int .u8] x2))⟩, ⟨true, (some (.tab sc0 ((r54 x0 x1 x2).2.2.2)))⟩], 2, [0]⟩)] else T6 54 args s
 | _, _ => T6 54 args s
noncomputable def T7 : CallF := addF T6 54 s54
set_option maxRecDepth 100000 in
set_option maxHeartbeats 4000000 in
theorem ok7 : CfOk Try.prog T7 := by
  refine cfOk_add ok6 fun args s r s' h1 h2 h3 => ?_
  unfold s54 at h3; split at h3
  · rename_i h; split at h3
    · rename_i hc; obtain ⟨rfl, rfl, rfl, rfl⟩ := hc; exact callOk ok6 Try.func54 h1 h2 h lok54_2.body (e54 _ _ _) rfl h3
    · exact ok6 _ _ _ _ _ h1 h2 h3
  · exact ok6 _ _ _ _ _ h1 h2 h3

/-- spec.P6Chimney -/
noncomputable def r9 (x0 : List (List Int)) : Nat × List (List Int) :=
 cond (Nat.beq ((r54 ((r55 x0).1) ((r55 x0).2) x0).1) 0) (0, ((r54 ((r55 x0).1) ((r55 x0).2) x0).2.2.2)) (1, [])
noncomputable def a9 (x0 : List (List Int)) (p : Nat × List (List Int)) : Res := firstT [((Nat.beq (p.1) 0), wsl 1, ⟨[⟨false, (some (.tab [.int .u8] x0))⟩, ⟨true, (some (.tab sc0 (p.2)))⟩], 1, []⟩)]
noncomputable def w9 (x0 : List (List Int)) : Res :=
 (cond (Nat.beq ((r54 ((r55 x0).1) ((r55 x0).2) x0).1) 0)
 (a9 x0 (0, ((r54 ((r55 x0).1) ((r55 x0).2) x0).2.2.2)))
 none)
set_option maxRecDepth 100000 in
set_option maxHeartbeats 4000000 in
theorem e9 (x0 : List (List Int)) : evFn Try.prog ext T7 noL 200 Try.f9 [wsl 0] ⟨[⟨false, (some (.tab [.int .u8] x0))⟩], 1, []⟩ = firstT [((Nat.beq ((r9 x0).1) 0), wsl 1, ⟨[⟨false, (some (.tab [.int .u8] x0))⟩, ⟨true, (some (.tab sc0 ((r9 x0).2)))⟩], 1, []⟩)] :=
 (show _ = w9 x0 from by kernel_rfl).trans
 (show w9 x0 = a9 x0 (r9 x0) from by unfold w9 r9; exact (cond_app (a9 x0) _ rfl rfl))
noncomputable def s9 (args : List Value) (s : St) : List (Bool × Value × St) :=
 match args, s.h with
 | [.iface f0 .nilIface], [⟨false, some (.tab [.int .u8] x0)⟩] => if f0 = 0 then [((Nat.beq ((r9 x0).1) 0), wsl 1, ⟨[⟨false, (some (.tab [.int .u8] x0))⟩, ⟨true, (some (.tab sc0 ((r9 x0).2)))⟩], 1, []⟩)] else T7 9 args s
 | _, _ => T7 9 args s
noncomputable def T8 : CallF := addF T7 9 s9
set_option maxRecDepth 100000 in
set_option maxHeartbeats 4000000 in
theorem ok8 : CfOk Try.prog T8 := by
  refine cfOk_add ok7 fun args s r s' h1 h2 h3 => ?_
  unfold s9 at h3; split at h3
  · rename_i h; split at h3
    · rename_i hc; obtain ⟨rfl⟩ := hc; exact callOk ok7 Try.func9 h1 h2 h (lfOkF_no _ _).body (e9 _) rfl h3
    · exact ok7 _ _ _ _ _ h1 h2 h3
  · exact ok7 _ _ _ _ _ h1 h2 h3

/-- spec.P6Pick -/
noncomputable def r10 (x0 : Int) (x1 : List (List Int)) : Nat × Int :=
 cond (Nat.beq ((r56 x0 ((r55 x1).1) ((r55 x1).2) x1).1) 0) (0, ((r56 x0 ((r55 x1).1) ((r55 x1).2) x1).2.1)) (1, 0)
noncomputable def a10 (x0 : Int) (x1 : List (List Int)) (p : Nat × Int) : Res := firstT [((Nat.beq (p.1) 0), vi (p.2), ⟨[⟨false, (some (.tab [.int .u8] x1))⟩], 1, []⟩)]
noncomputable def w10 (x0 : Int) (x1 : List (List Int)) : Res :=
 (cond (Nat.beq ((r56 x0 ((r55 x1).1) ((r55 x1).2) x1).1) 0)
 (a10 x0 x1 (0, ((r56 x0 ((r55 x1).1) ((r55 x1).2) x1).2.1)))
 none)
set_option maxRecDepth 100000 in
set_option maxHeartbeats 4000000 in
theorem e10 (x0 : Int) (x1 : List (List Int)) : evFn Try.prog ext T8 noL 200 Try.f10 [wsl 0, vi x0] ⟨[⟨false, (some (.tab [.int .u8] x1))⟩], 1, []⟩ = firstT [((Nat.beq ((r10 x0 x1).1) 0), vi ((r10 x0 x1).2), ⟨[⟨false, (some (.tab [.int .u8] x1))⟩], 1, []⟩)] :=
 (show _ = w10 x0 x1 from by kernel_rfl).trans
 (show w10 x0 x1 = a10 x0 x1 (r10 x0 x1) from by unfold w10 r10; exact (cond_app (a10 x0 x1) _ rfl rfl))
noncomputable def s10 (args : List Value) (s : St) : List (Bool × Value × St) :=
 match args, s.h with
 | [.iface f0 .nilIface, .int .i64 x0], [⟨false, some (.tab [.int .u8] x1)⟩] => if f0 = 0 then [((Nat.beq ((r10 x0 x1).1) 0), vi ((r10 x0 x1).2), ⟨[⟨false, (some (.tab [.int .u8] x1))⟩], 1, []⟩)] else T8 10 args s
 | _, _ => T8 10 args s
noncomputable def T9 : CallF := addF T8 10 s10
set_option maxRecDepth 100000 in
set_option maxHeartbeats 4000000 in
theorem ok9 : CfOk Try.prog T9 := by
  refine cfOk_add ok8 fun args s r s' h1 h2 h3 => ?_
  unfold s10 at h3; split at h3
  · rename_i h; split at h3
    · rename_i hc; obtain ⟨rfl⟩ := hc; exact callOk ok8 Try.func10 h1 h2 h (lfOkF_no _ _).body (e10 _ _) rfl h3
    · exact ok8 _ _ _ _ _ h1 h2 h3
  · exact ok8 _ _ _ _ _ h1 h2 h3

/-- math.IsNaN -/
noncomputable def r126 (x0 : Nat) : Bool :=
 ((!feq .f64 x0 x0))
noncomputable def a126 (x0 : Nat) (p : Bool) : Res := firstT [(true, .bool p, st0)]
noncomputable def w126 (x0 : Nat) : Res :=
 (a126 x0 ((!feq .f64 x0 x0)))
set_option maxRecDepth 100000 in
set_option maxHeartbeats 4000000 in
theorem e126 (x0 : Nat) : evFn Try.prog ext T9 noL 200 Try.f126 [.float .f64 x0] st0 = firstT [(true, .bool (r126 x0), st0)] :=
 (show _ = w126 x0 from by kernel_rfl).trans
 (show w126 x0 = a126 x0 (r126 x0) from by unfold w126 r126; exact rfl)
noncomputable def s126 (args : List Value) (s : St) : List (Bool × Value × St) :=
 match args, s.h with
 | [.float .f64 x0], [] => [(true, .bool (r126 x0), st0)]
 | _, _ => T9 126 args s
noncomputable def T10 : CallF := addF T9 126 s126
set_option maxRecDepth 100000 in
set_option maxHeartbeats 4000000 in
theorem ok10 : CfOk Try.prog T10 := by
  refine cfOk_add ok9 fun args s r s' h1 h2 h3 => ?_
  unfold s126 at h3; split at h3
  · rename_i h; exact callOk ok9 Try.func126 h1 h2 h (lfOkF_no _ _).body (e126 _) rfl h3
  · exact ok9 _ _ _ _ _ h1 h2 h3

/-- math.Abs -/
noncomputable def r162 (x0 : Nat) : Nat :=
 cond (!isN .f64 x0) ((Int.toNat (bits .andNot .u64 ((x0 : Nat) : Int) 9223372036854775808))) (9221120237041090560)
noncomputable def a162 (x0 : Nat) (p : Nat) : Res := firstT [(true, .float .f64 p, st0)]
noncomputable def w162 (x0 : Nat) : Res :=
 (cond (!isN .f64 x0)
 (a162 x0 ((Int.toNat (bits .andNot .u64 ((x0 : Nat) : Int) 9223372036854775808))))
 (a162 x0 (9221120237041090560)))
set_option maxRecDepth 100000 in
set_option maxHeartbeats 4000000 in
theorem e162 (x0 : Nat) : evFn Try.prog ext T10 noL 200 Try.f162 [.float .f64 x0] st0 = firstT [(true, .float .f64 (r162 x0), st0)] :=
 (show _ = w162 x0 from by kernel_rfl).trans
 (show w162 x0 = a162 x0 (r162 x0) from by unfold w162 r162; exact (cond_app (a162 x0) _ rfl rfl))
noncomputable def s162 (args : List Value) (s : St) : List (Bool × Value × St) :=
 match args, s.h with
 | [.float .f64 x0], [] => [(true, .float .f64 (r162 x0), st0)]
 | _, _ => T10 162 args s
noncomputable def T11 : CallF := addF T10 162 s162
set_option maxRecDepth 100000 in
set_option maxHeartbeats 4000000 in
theorem ok11 : CfOk Try.prog T11 := by
  refine cfOk_add ok10 fun args s r s' h1 h2 h3 => ?_
  unfold s162 at h3; split at h3
  · rename_i h; exact callOk ok10 Try.func162 h1 h2 h (lfOkF_no _ _).body (e162 _) rfl h3
  · exact ok10 _ _ _ _ _ h1 h2 h3

/-- math.IsInf -/
noncomputable def r127 (x0 : Nat) (x1 : Int) : Bool :=
 cond ((x1 : Int) == 0) ((fgt .f64 (r162 x0) 9218868437227405311)) (cond (decide ((x1 : Int) < 0)) ((fgt .f64 (fneg .f64 x0) 9218868437227405311)) ((fgt .f64 x0 9218868437227405311)))
noncomputable def a127 (x0 : Nat) (x1 : Int) (p : Bool) : Res := firstT [(true, .bool p, st0)]
noncomputable def w127 (x0 : Nat) (x1 : Int) : Res :=
 (cond ((x1 : Int) == 0)
 (a127 x0 x1 ((fgt .f64 (r162 x0) 9218868437227405311)))
 (cond (decide ((x1 : Int) < 0)) (a127 x0 x1 ((fgt .f64 (fneg .f64 x0) 9218868437227405311))) (a127 x0 x1 ((fgt .f64 x0 9218868437227405311)))))
set_option maxRecDepth 100000 in
set_option maxHeartbeats 4000000 in
theorem e127 (x0 : Nat) (x1 : Int) : evFn Try.prog ext T11 noL 200 Try.f127 [.float .f64 x0, vi x1] st0 = firstT [(true, .bool (r127 x0 x1), st0)] :=
 (show _ = w127 x0 x1 from by kernel_rfl).trans
 (show w127 x0 x1 = a127 x0 x1 (r127 x0 x1) from by unfold w127 r127; exact (cond_app (a127 x0 x1) _ rfl (cond_app (a127 x0 x1) _ rfl rfl)))
noncomputable def s127 (args : List Value) (s : St) : List (Bool × Value × St) :=
 match args, s.h with
 | [.float .f64 x0, .int .i64 x1], [] => [(true, .bool (r127 x0 x1), st0)]
 | _, _ => T11 127 args s
noncomputable def T12 : CallF := addF T11 127 s127
set_option maxRecDepth 100000 in
set_option maxHeartbeats 4000000 in
theorem ok12 : CfOk Try.prog T12 := by
  refine cfOk_add ok11 fun args s r s' h1 h2 h3 => ?_
  unfold s127 at h3; split at h3
  · rename_i h; exact callOk ok11 Try.func127 h1 h2 h (lfOkF_no _ _).body (e127 _ _) rfl h3
  · exact ok11 _ _ _ _ _ h1 h2 h3

/-- impl.isFinite, loop 0 -/
noncomputable def r59l0 (x0 : Nat) : Unit :=
 ()
noncomputable def a59l0 (x0 : Nat) (p : Unit) : Option (Fin' × List Value × St) := firstT ([(true, .exit 0, [anyV], ⟨[⟨true, (some (.tab [.fl .f32] ([[((x0 : Nat) : Int)]] : List (List Int))))⟩], 1, []⟩)].map fun (b, x) => (b, (x.1, frameOf 20 [2] x.2.1, x.2.2)))
noncomputable def w59l0 (x0 : Nat) : Option (Fin' × List Value × St) :=
 (a59l0 x0 ())
set_option maxRecDepth 100000 in
set_option maxHeartbeats 4000000 in
theorem e59l0 (x0 : Nat) : evC Try.prog ext T12 noL 200 (loopN Try.f59 0) (loopTail ([5, 6, 7], []) [2] [] (sumK 20 [5, 6, 7] [2] noQ)) (frameOf 20 [5, 6, 7] [.slice (some ⟨0, 0, some 0⟩) 1 1, vi 1, vi 1]) ⟨[⟨true, (some (.tab [.fl .f32] ([[((x0 : Nat) : Int)]] : List (List Int))))⟩], 1, []⟩ = firstT ([(true, .exit 0, [anyV], ⟨[⟨true, (some (.tab [.fl .f32] ([[((x0 : Nat) : Int)]] : List (List Int))))⟩], 1, []⟩)].map fun (b, x) => (b, (x.1, frameOf 20 [2] x.2.1, x.2.2))) :=
 (show _ = w59l0 x0 from by kernel_rfl).trans
 (show w59l0 x0 = a59l0 x0 (r59l0 x0) from by unfold w59l0 r59l0; exact rfl)
noncomputable def Q59l0 : SumK := fun vals s =>
 match vals, s.h with
 | [.slice (some ⟨f0, f1, some f2⟩) f3 f4, .int .i64 f5, .int .i64 f6], [⟨true, some (.tab [.fl .f32] [[.ofNat x0]])⟩] => if f0 = 0 ∧ f1 = 0 ∧ f2 = 0 ∧ f3 = 1 ∧ f4 = 1 ∧ f5 = 1 ∧ f6 = 1 then [(true, .exit 0, [anyV], ⟨[⟨true, (some (.tab [.fl .f32] ([[((x0 : Nat) : Int)]] : List (List Int))))⟩], 1, []⟩)] else noQ vals s
 | _, _ => noQ vals s
set_option maxRecDepth 100000 in
set_option maxHeartbeats 4000000 in
theorem qok59l0 : SumKOk Try.prog (loopN Try.f59 0) 20 [5, 6, 7] [2] Q59l0 := by
  intro vals s x h1 h2 h3
  unfold Q59l0 at h3; split at h3
  · rename_i h; split at h3
    · rename_i hc; obtain ⟨rfl, rfl, rfl, rfl, rfl, rfl, rfl⟩ := hc; exact sum_step ok12 extOk mixed ((lfOkF_no _ _).inner (by kernel_rfl)) noQ_ok h1 h2 h (e59l0 _) rfl h3
    · exact noQ_ok _ _ _ h1 h2 h3
  · exact noQ_ok _ _ _ h1 h2 h3
noncomputable def L59_1 : LoopT := addL noL 3 ([5, 6, 7], []) (sumK 20 [5, 6, 7] [2] Q59l0)
theorem lok59_1 : LfOkF Try.prog L59_1 Try.f59 := lfOkF_add (lfOkF_no _ _) qok59l0 (by kernel_rfl) (by kernel_rfl) (by kernel_rfl)

/-- impl.isFinite, loop 0 -/
noncomputable def r59l0b (x0 : Nat) : Nat :=
 cond (r126 (widen x0)) (0) (cond (r127 (widen x0) 0) (0) (1))
noncomputable def a59l0b (x0 : Nat) (p : Nat) : Option (Fin' × List Value × St) := firstT ([((Nat.beq p 0), .ret, [.bool false], ⟨[⟨true, (some (.tab [.fl .f32] ([[((x0 : Nat) : Int)]] : List (List Int))))⟩], 1, []⟩), (true, .exit 0, [anyV], ⟨[⟨true, (some (.tab [.fl .f32] ([[((x0 : Nat) : Int)]] : List (List Int))))⟩], 1, []⟩)].map fun (b, x) => (b, (x.1, frameOf 20 [2] x.2.1, x.2.2)))
noncomputable def w59l0b (x0 : Nat) : Option (Fin' × List Value × St) :=
 (cond (r126 (widen x0))
 (a59l0b x0 (0))
 (cond (r127 (widen x0) 0) (a59l0b x0 (0)) (a59l0b x0 (1))))
set_option maxRecDepth 100000 in
set_option maxHeartbeats 4000000 in
theorem e59l0b (x0 : Nat) : evC Try.prog ext T12 L59_1 200 (loopN Try.f59 0) (loopTail ([5, 6, 7], []) [2] [] (sumK 20 [5, 6, 7] [2] Q59l0)) (frameOf 20 [5, 6, 7] [.slice (some ⟨0, 0, some 0⟩) 1 1, vi 1, vi 0]) ⟨[⟨true, (some (.tab [.fl .f32] ([[((x0 : Nat) : Int)]] : List (List Int))))⟩], 1, []⟩ = firstT ([((Nat.beq (r59l0b x0) 0), .ret, [.bool false], ⟨[⟨true, (some (.tab [.fl .f32] ([[((x0 : Nat) : Int)]] : List (List Int))))⟩], 1, []⟩), (true, .exit 0, [anyV], ⟨[⟨true, (some (.tab [.fl .f32] ([[((x0 : Nat) : Int)]] : List (List Int))))⟩], 1, []⟩)].map fun (b, x) => (b, (x.1, frameOf 20 [2] x.2.1, x.2.2))) :=
 (show _ = w59l0b x0 from by kernel_rfl).trans
 (show w59l0b x0 = a59l0b x0 (r59l0b x0) from by unfold w59l0b r59l0b; exact (cond_app (a59l0b x0) _ rfl (cond_app (a59l0b x0) _ rfl rfl)))
noncomputable def Q59l0b : SumK := fun vals s =>
 match vals, s.h with
 | [.slice (some ⟨f0, f1, some f2⟩) f3 f4, .int .i64 f5, .int .i64 f6], [⟨true, some (.tab [.fl .f32] [[.ofNat x0]])⟩] => if f0 = 0 ∧ f1 = 0 ∧ f2 = 0 ∧ f3 = 1 ∧ f4 = 1 ∧ f5 = 1 ∧ f6 = 0 then [((Nat.beq (r59l0b x0) 0), .ret, [.bool false], ⟨[⟨true, (some (.tab [.fl .f32] ([[((x0 : Nat) : Int)]] : List (List Int))))⟩], 1, []⟩), (true, .exit 0, [anyV], ⟨[⟨true, (some (.tab [.fl .f32] ([[((x0 : Nat) : Int)]] : List (List Int))))⟩], 1, []⟩)] else Q59l0 vals s
 | _, _ => Q59l0 vals s
set_option maxRecDepth 100000 in
set_option maxHeartbeats 4000000 in
theorem qok59l0b : SumKOk Try.prog (loopN Try.f59 0) 20 [5, 6, 7] [2] Q59l0b := by
  intro vals s x h1 h2 h3
  unfold Q59l0b at h3; split at h3
  · rename_i h; split at h3
    · rename_i hc; obtain ⟨rfl, rfl, rfl, rfl, rfl, rfl, rfl⟩ := hc; exact sum_step ok12 extOk mixed (lok59_1.inner (by kernel_rfl)) qok59l0 h1 h2 h (e59l0b _) rfl h3
    · exact qok59l0 _ _ _ h1 h2 h3
  · exact qok59l0 _ _ _ h1 h2 h3
noncomputable def L59_2 : LoopT := addL L59_1 3 ([5, 6, 7], []) (sumK 20 [5, 6, 7] [2] Q59l0b)
theorem lok59_2 : LfOkF Try.prog L59_2 Try.f59 := lfOkF_add lok59_1 qok59l0b (by kernel_rfl) (by kernel_rfl) (by kernel_rfl)

/-- impl.isFinite -/
noncomputable def r59 (x0 : Nat) : Bool :=
 cond (Nat.beq (r59l0b x0) 0) (false) (true)
noncomputable def a59 (x0 : Nat) (p : Bool) : Res := firstT [(true, .bool p, ⟨[⟨true, (some (.tab [.fl .f32] ([[((x0 : Nat) : Int)]] : List (List Int))))⟩], 1, []⟩)]
noncomputable def w59 (x0 : Nat) : Res :=
 (cond (Nat.beq (r59l0b x0) 0)
 (a59 x0 (false))
 (a59 x0 (true)))
set_option maxRecDepth 100000 in
set_option maxHeartbeats 4000000 in
theorem e59 (x0 : Nat) : evFn Try.prog ext T12 L59_2 200 Try.f59 [.slice (some ⟨0, 0, some 0⟩) 1 1] ⟨[⟨true, (some (.tab [.fl .f32] ([[((x0 : Nat) : Int)]] : List (List Int))))⟩], 1, []⟩ = firstT [(true, .bool (r59 x0), ⟨[⟨true, (some (.tab [.fl .f32] ([[((x0 : Nat) : Int)]] : List (List Int))))⟩], 1, []⟩)] :=
 (show _ = w59 x0 from by kernel_rfl).trans
 (show w59 x0 = a59 x0 (r59 x0) from by unfold w59 r59; exact (cond_app (a59 x0) _ rfl rfl))
noncomputable def s59 (args : List Value) (s : St) : List (Bool × Value × St) :=
 match args, s.h with
 | [.slice (some ⟨f0, f1, some f2⟩) f3 f4], [⟨true, some (.tab [.fl .f32] [[.ofNat x0]])⟩] => if f0 = 0 ∧ f1 = 0 ∧ f2 = 0 ∧ f3 = 1 ∧ f4 = 1 then [(true, .bool (r59 x0), ⟨[⟨true, (some (.tab [.fl .f32] ([[((x0 : Nat) : Int)]] : List (List Int))))⟩], 1, []⟩)] else T12 59 args s
 | _, _ => T12 59 args s
noncomputable def T13 : CallF := addF T12 59 s59
set_option maxRecDepth 100000 in
set_option maxHeartbeats 4000000 in
theorem ok13 : CfOk Try.prog T13 := by
  refine cfOk_add ok12 fun args s r s' h1 h2 h3 => ?_
  unfold s59 at h3; split at h3
  · rename_i h; split at h3
    · rename_i hc; obtain ⟨rfl, rfl, rfl, rfl, rfl⟩ := hc; exact callOk ok12 Try.func59 h1 h2 h lok59_2.body (e59 _) rfl h3
    · exact ok12 _ _ _ _ _ h1 h2 h3
  · exact ok12 _ _ _ _ _ h1 h2 h3

/-- impl.IsAmount -/
noncomputable def r142 (x0 : Nat) : Bool :=
 cond (r59 x0) (cond (fgt .f32 x0 0 || feq .f32 x0 0) ((((Int.fdiv ((x0 : Nat) : Int) (2 ^ (min (31 : Int).toNat (IntKind.bits .u32)))) : Int) == 0)) (false)) (false)
noncomputable def a142 (x0 : Nat) (p : Bool) : Res := firstT [(true, .bool p, st0)]
noncomputable def w142 (x0 : Nat) : Res :=
 (cond (r59 x0)
 (cond (fgt .f32 x0 0 || feq .f32 x0 0) (cond (!isN .f32 x0) (a142 x0 ((((Int.fdiv ((x0 : Nat) : Int) (2 ^ (min (31 : Int).toNat (IntKind.bits .u32)))) : Int) == 0))) none) (a142 x0 (false)))
 (a142 x0 (false)))
set_option maxRecDepth 100000 in
set_option maxHeartbeats 4000000 in
theorem e142 (x0 : Nat) : evFn Try.prog ext T13 noL 200 Try.f142 [vf x0] st0 = firstT [(true, .bool (r142 x0), st0)] :=
 (show _ = w142 x0 from by kernel_rfl).trans
 (show w142 x0 = a142 x0 (r142 x0) from by unfold w142 r142; exact (cond_both (a142 x0) _ (fun h0 => (cond_both (a142 x0) _ (fun h1 => (cond_t (ev_not1 (ev_or h1 (fun hq0 => (ev_gt1 hq0)) (fun hq0 => (ev_eq1 hq0)))) rfl)) (fun h1 => rfl))) (fun h0 => rfl)))
noncomputable def s142 (args : List Value) (s : St) : List (Bool × Value × St) :=
 match args, s.h with
 | [.float .f32 x0], [] => [(true, .bool (r142 x0), st0)]
 | _, _ => T13 142 args s
noncomputable def T14 : CallF := addF T13 142 s142
set_option maxRecDepth 100000 in
set_option maxHeartbeats 4000000 in
theorem ok14 : CfOk Try.prog T14 := by
  refine cfOk_add ok13 fun args s r s' h1 h2 h3 => ?_
  unfold s142 at h3; split at h3
  · rename_i h; exact callOk ok13 Try.func142 h1 h2 h (lfOkF_no _ _).body (e142 _) rfl h3
  · exact ok13 _ _ _ _ _ h1 h2 h3

/-- impl.between -/
noncomputable def r146 (x0 x1 x2 : Nat) : Bool :=
 cond (fgt .f32 x0 x1 || feq .f32 x0 x1) ((flt .f32 x0 x2 || feq .f32 x0 x2)) (false)
noncomputable def a146 (x0 x1 x2 : Nat) (p : Bool) : Res := firstT [(true, .bool p, st0)]
noncomputable def w146 (x0 x1 x2 : Nat) : Res :=
 (cond (fgt .f32 x0 x1 || feq .f32 x0 x1)
 (a146 x0 x1 x2 ((flt .f32 x0 x2 || feq .f32 x0 x2)))
 (a146 x0 x1 x2 (false)))
set_option maxRecDepth 100000 in
set_option maxHeartbeats 4000000 in
theorem e146 (x0 x1 x2 : Nat) : evFn Try.prog ext T14 noL 200 Try.f146 [vf x0, vf x1, vf x2] st0 = firstT [(true, .bool (r146 x0 x1 x2), st0)] :=
 (show _ = w146 x0 x1 x2 from by kernel_rfl).trans
 (show w146 x0 x1 x2 = a146 x0 x1 x2 (r146 x0 x1 x2) from by unfold w146 r146; exact (cond_app (a146 x0 x1 x2) _ rfl rfl))
noncomputable def s146 (args : List Value) (s : St) : List (Bool × Value × St) :=
 match args, s.h with
 | [.float .f32 x0, .float .f32 x1, .float .f32 x2], [] => [(true, .bool (r146 x0 x1 x2), st0)]
 | _, _ => T14 146 args s
noncomputable def T15 : CallF := addF T14 146 s146
set_option maxRecDepth 100000 in
set_option maxHeartbeats 4000000 in
theorem ok15 : CfOk Try.prog T15 := by
  refine cfOk_add ok14 fun args s r s' h1 h2 h3 => ?_
  unfold s146 at h3; split at h3
  · rename_i h; exact callOk ok14 Try.func146 h1 h2 h (lfOkF_no _ _).body (e146 _ _ _) rfl h3
  · exact ok14 _ _ _ _ _ h1 h2 h3

/-- impl.IsShare -/
noncomputable def r78 (x0 : Nat) : Bool :=
 cond (r142 x0) ((flt .f32 x0 1065353216 || feq .f32 x0 1065353216)) (false)
noncomputable def a78 (x0 : Nat) (p : Bool) : Res := firstT [(true, .bool p, st0)]
noncomputable def w78 (x0 : Nat) : Res :=
 (cond (r142 x0)
 (a78 x0 ((flt .f32 x0 1065353216 || feq .f32 x0 1065353216)))
 (a78 x0 (false)))
set_option maxRecDepth 100000 in
set_option maxHeartbeats 4000000 in
theorem e78 (x0 : Nat) : evFn Try.prog ext T15 noL 200 Try.f78 [vf x0] st0 = firstT [(true, .bool (r78 x0), st0)] :=
 (show _ = w78 x0 from by kernel_rfl).trans
 (show w78 x0 = a78 x0 (r78 x0) from by unfold w78 r78; exact (cond_app (a78 x0) _ rfl rfl))
noncomputable def s78 (args : List Value) (s : St) : List (Bool × Value × St) :=
 match args, s.h with
 | [.float .f32 x0], [] => [(true, .bool (r78 x0), st0)]
 | _, _ => T15 78 args s
noncomputable def T16 : CallF := addF T15 78 s78
set_option maxRecDepth 100000 in
set_option maxHeartbeats 4000000 in
theorem ok16 : CfOk Try.prog T16 := by
  refine cfOk_add ok15 fun args s r s' h1 h2 h3 => ?_
  unfold s78 at h3; split at h3
  · rename_i h; exact callOk ok15 Try.func78 h1 h2 h (lfOkF_no _ _).body (e78 _) rfl h3
  · exact ok15 _ _ _ _ _ h1 h2 h3

/-- impl.validFlue -/
noncomputable def r107 (x0 x1 x2 x3 : Nat) (x4 : Int) : Bool :=
 cond (r142 x0) (cond (r146 x0 1031798784 1106247680) (cond (r142 x1) (cond (r146 x1 1015021568 1082130432) (cond (r146 x2 3262119936 1153138688) ((r78 x3)) (false)) (false)) (false)) (false)) (false)
noncomputable def a107 (x0 x1 x2 x3 : Nat) (x4 : Int) (p : Bool) : Res := firstT [(true, .bool p, st0)]
noncomputable def w107 (x0 x1 x2 x3 : Nat) (x4 : Int) : Res :=
 (cond (r142 x0)
 (cond (r146 x0 1031798784 1106247680) (cond (r142 x1) (cond (r146 x1 1015021568 1082130432) (cond (r146 x2 3262119936 1153138688) (a107 x0 x1 x2 x3 x4 ((r78 x3))) (a107 x0 x1 x2 x3 x4 (false))) (a107 x0 x1 x2 x3 x4 (false))) (a107 x0 x1 x2 x3 x4 (false))) (a107 x0 x1 x2 x3 x4 (false)))
 (a107 x0 x1 x2 x3 x4 (false)))
set_option maxRecDepth 100000 in
set_option maxHeartbeats 4000000 in
theorem e107 (x0 x1 x2 x3 : Nat) (x4 : Int) : evFn Try.prog ext T16 noL 200 Try.f107 [.agg #[vf x0, vf x1, vf x2, vf x3, vi x4]] st0 = firstT [(true, .bool (r107 x0 x1 x2 x3 x4), st0)] :=
 (show _ = w107 x0 x1 x2 x3 x4 from by kernel_rfl).trans
 (show w107 x0 x1 x2 x3 x4 = a107 x0 x1 x2 x3 x4 (r107 x0 x1 x2 x3 x4) from by unfold w107 r107; exact (cond_app (a107 x0 x1 x2 x3 x4) _ (cond_app (a107 x0 x1 x2 x3 x4) _ (cond_app (a107 x0 x1 x2 x3 x4) _ (cond_app (a107 x0 x1 x2 x3 x4) _ (cond_app (a107 x0 x1 x2 x3 x4) _ rfl rfl) rfl) rfl) rfl) rfl))
noncomputable def s107 (args : List Value) (s : St) : List (Bool × Value × St) :=
 match args, s.h with
 | [.agg ⟨[.float .f32 x0, .float .f32 x1, .float .f32 x2, .float .f32 x3, .int .i64 x4]⟩], [] => [(true, .bool (r107 x0 x1 x2 x3 x4), st0)]
 | _, _ => T16 107 args s
noncomputable def T17 : CallF := addF T16 107 s107
set_option maxRecDepth 100000 in
set_option maxHeartbeats 4000000 in
theorem ok17 : CfOk Try.prog T17 := by
  refine cfOk_add ok16 fun args s r s' h1 h2 h3 => ?_
  unfold s107 at h3; split at h3
  · rename_i h; exact callOk ok16 Try.func107 h1 h2 h (lfOkF_no _ _).body (e107 _ _ _ _ _) rfl h3
  · exact ok16 _ _ _ _ _ h1 h2 h3

/-- impl.ValidChimney, loop 0: one round -/
noncomputable def b45l0 (ih : Int → Int → List (List Int) → Nat) (x0 x1 : Int) (x2 : List (List Int)) : Nat :=
 let c21 := (r107 (Int.toNat ((x2.getD (Int.toNat x1) []).getD 0 0)) (Int.toNat ((x2.getD (Int.toNat x1) []).getD 1 0)) (Int.toNat ((x2.getD (Int.toNat x1) []).getD 2 0)) (Int.toNat ((x2.getD (Int.toNat x1) []).getD 3 0)) ((x2.getD (Int.toNat x1) []).getD 4 0))
 cond (decide ((x1 : Int) < x0)) (cond ((decide ((0 : Int) ≤ x1)) && (Nat.blt (Int.toNat x1) x2.length)) (cond (!c21) (0) (cond ((((x2.getD (Int.toNat x1) []).getD 4 0) : Int) == (-1)) (ih x0 (IntKind.i64.wrap (x1 + 1)) x2) (cond (decide ((((x2.getD (Int.toNat x1) []).getD 4 0) : Int) < 0)) (0) (cond (decide ((((x2.getD (Int.toNat x1) []).getD 4 0) : Int) ≥ ((x2.length : Nat) : Int))) (0) (cond ((((x2.getD (Int.toNat x1) []).getD 4 0) : Int) == x1) (0) (cond ((decide ((0 : Int) ≤ ((x2.getD (Int.toNat x1) []).getD 4 0))) && (Nat.blt (Int.toNat ((x2.getD (Int.toNat x1) []).getD 4 0)) x2.length)) (cond ((((x2.getD (Int.toNat ((x2.getD (Int.toNat x1) []).getD 4 0)) []).getD 4 0) : Int) != (-1)) (0) (ih x0 (IntKind.i64.wrap (x1 + 1)) x2)) (2))))))) (2)) (1)
noncomputable def r45l0 : Nat → Int → Int → List (List Int) → Nat
 | 0 => fun _ _ _ => (2)
 | m + 1 => b45l0 (r45l0 m)
noncomputable def a45l0 (x0 x1 : Int) (x2 : List (List Int)) (p : Nat) : Option (Fin' × List Value × St) := firstT ([((Nat.beq p 0), .ret, [.bool false], ⟨[⟨true, (some (.tab sc0 x2))⟩], 1, []⟩), ((Nat.beq p 1), .exit 0, [anyV], ⟨[⟨true, (some (.tab sc0 x2))⟩], 1, []⟩)].map fun (b, x) => (b, (x.1, frameOf 52 [2] x.2.1, x.2.2)))
noncomputable def u45l0 (x0 x1 : Int) (x2 : List (List Int)) (p : Nat) : Option (Fin' × List Value × St) := alts ([((Nat.beq p 0), .ret, [.bool false], ⟨[⟨true, (some (.tab sc0 x2))⟩], 1, []⟩), ((Nat.beq p 1), .exit 0, [anyV], ⟨[⟨true, (some (.tab sc0 x2))⟩], 1, []⟩)].map fun (b, x) => (b, (x.1, frameOf 52 [2] x.2.1, x.2.2))) some
theorem v45l0 (x0 x1 : Int) (x2 : List (List Int)) (p : Nat) : u45l0 x0 x1 x2 p = a45l0 x0 x1 x2 p := alts_first _
noncomputable def q45l0 (m : Nat) : SumK := fun vals s =>
 match vals, s.h with
 | [.iface f0 .nilIface, .iface f1 .nilIface, .int .i64 x0, .int .i64 x1], [⟨true, some (.tab [.fl .f32, .fl .f32, .fl .f32, .fl .f32, .int .i64] x2)⟩] => if f0 = 0 ∧ f1 = 0 then [((Nat.beq (r45l0 m x0 x1 x2) 0), .ret, [.bool false], ⟨[⟨true, (some (.tab sc0 x2))⟩], 1, []⟩), ((Nat.beq (r45l0 m x0 x1 x2) 1), .exit 0, [anyV], ⟨[⟨true, (some (.tab sc0 x2))⟩], 1, []⟩)] else noQ vals s
 | _, _ => noQ vals s
noncomputable def w45l0 (ih : Int → Int → List (List Int) → Nat) (x0 x1 : Int) (x2 : List (List Int)) : Option (Fin' × List Value × St) :=
 let c21 := (r107 (Int.toNat ((x2.getD (Int.toNat x1) []).getD 0 0)) (Int.toNat ((x2.getD (Int.toNat x1) []).getD 1 0)) (Int.toNat ((x2.getD (Int.toNat x1) []).getD 2 0)) (Int.toNat ((x2.getD (Int.toNat x1) []).getD 3 0)) ((x2.getD (Int.toNat x1) []).getD 4 0))
 (cond (decide ((x1 : Int) < x0))
 (cond ((decide ((0 : Int) ≤ x1)) && (Nat.blt (Int.toNat x1) x2.length)) (cond (Nat.blt (Int.toNat x1) x2.length) (cond (!c21) (a45l0 x0 x1 x2 (0)) (cond ((((x2.getD (Int.toNat x1) []).getD 4 0) : Int) == (-1)) (u45l0 x0 x1 x2 (ih x0 (IntKind.i64.wrap (x1 + 1)) x2)) (cond (decide ((((x2.getD (Int.toNat x1) []).getD 4 0) : Int) < 0)) (a45l0 x0 x1 x2 (0)) (cond (decide ((((x2.getD (Int.toNat x1) []).getD 4 0) : Int) ≥ ((x2.length : Nat) : Int))) (a45l0 x0 x1 x2 (0)) (cond ((((x2.getD (Int.toNat x1) []).getD 4 0) : Int) == x1) (a45l0 x0 x1 x2 (0)) (cond ((decide ((0 : Int) ≤ ((x2.getD (Int.toNat x1) []).getD 4 0))) && (Nat.blt (Int.toNat ((x2.getD (Int.toNat x1) []).getD 4 0)) x2.length)) (cond (Nat.blt (Int.toNat ((x2.getD (Int.toNat x1) []).getD 4 0)) x2.length) (cond ((((x2.getD (Int.toNat ((x2.getD (Int.toNat x1) []).getD 4 0)) []).getD 4 0) : Int) != (-1)) (a45l0 x0 x1 x2 (0)) (u45l0 x0 x1 x2 (ih x0 (IntKind.i64.wrap (x1 + 1)) x2))) none) none)))))) none) none)
 (a45l0 x0 x1 x2 (1)))
set_option maxRecDepth 100000 in
set_option maxHeartbeats 4000000 in
theorem e45l0 (m : Nat) (x0 x1 : Int) (x2 : List (List Int)) : evC Try.prog ext T17 noL 200 (loopN Try.f45 0) (loopTail ([0, 13, 14, 15], []) [2] [] (sumK 52 [0, 13, 14, 15] [2] (q45l0 m))) (frameOf 52 [0, 13, 14, 15] [wsl 0, wsl 0, vi x0, vi x1]) ⟨[⟨true, (some (.tab sc0 x2))⟩], 1, []⟩ = firstT ([((Nat.beq (r45l0 (m + 1) x0 x1 x2) 0), .ret, [.bool false], ⟨[⟨true, (some (.tab sc0 x2))⟩], 1, []⟩), ((Nat.beq (r45l0 (m + 1) x0 x1 x2) 1), .exit 0, [anyV], ⟨[⟨true, (some (.tab sc0 x2))⟩], 1, []⟩)].map fun (b, x) => (b, (x.1, frameOf 52 [2] x.2.1, x.2.2))) :=
 (show _ = w45l0 (r45l0 m) x0 x1 x2 from by kernel_rfl).trans
 (show w45l0 (r45l0 m) x0 x1 x2 = a45l0 x0 x1 x2 (r45l0 (m + 1) x0 x1 x2) from by unfold w45l0; show _ = a45l0 x0 x1 x2 (b45l0 (r45l0 m) x0 x1 x2); unfold b45l0; exact (cond_both (a45l0 x0 x1 x2) _ (fun h0 => (cond_both (a45l0 x0 x1 x2) _ (fun h1 => (cond_t (ev_and2 h1) (cond_both (a45l0 x0 x1 x2) _ (fun h2 => rfl) (fun h2 => (cond_both (a45l0 x0 x1 x2) _ (fun h3 => (v45l0 x0 x1 x2 ((r45l0 m) x0 (IntKind.i64.wrap (x1 + 1)) x2))) (fun h3 => (cond_both (a45l0 x0 x1 x2) _ (fun h4 => rfl) (fun h4 => (cond_both (a45l0 x0 x1 x2) _ (fun h5 => rfl) (fun h5 => (cond_both (a45l0 x0 x1 x2) _ (fun h6 => rfl) (fun h6 => (cond_both (a45l0 x0 x1 x2) _ (fun h7 => (cond_t (ev_and2 h7) (cond_app (a45l0 x0 x1 x2) _ rfl (v45l0 x0 x1 x2 ((r45l0 m) x0 (IntKind.i64.wrap (x1 + 1)) x2))))) (fun h7 => rfl)))))))))))))) (fun h1 => rfl))) (fun h0 => rfl)))
set_option maxRecDepth 100000 in
set_option maxHeartbeats 4000000 in
theorem qm45l0 : ∀ m, SumKOk Try.prog (loopN Try.f45 0) 52 [0, 13, 14, 15] [2] (q45l0 m) := by
  intro m
  induction m with
  | zero =>
    intro vals s x h1 h2 h3
    unfold q45l0 at h3; split at h3
    · rename_i h; split at h3
      · rename_i hc; obtain ⟨rfl, rfl⟩ := hc; exact absurd h3 (by simp [r45l0, firstT, Nat.beq])
      · exact noQ_ok _ _ _ h1 h2 h3
    · exact noQ_ok _ _ _ h1 h2 h3
  | succ m ih =>
    intro vals s x h1 h2 h3
    unfold q45l0 at h3; split at h3
    · rename_i h; split at h3
      · rename_i hc; obtain ⟨rfl, rfl⟩ := hc; exact sum_step ok17 extOk mixed ((lfOkF_no _ _).inner (by kernel_rfl)) ih h1 h2 h (e45l0 m _ _ _) rfl h3
      · exact noQ_ok _ _ _ h1 h2 h3
    · exact noQ_ok _ _ _ h1 h2 h3
noncomputable def Q45l0 : SumK := fun vals s => q45l0 (fuelOf vals s.h) vals s
theorem qok45l0 : SumKOk Try.prog (loopN Try.f45 0) 52 [0, 13, 14, 15] [2] Q45l0 := fuel_ok qm45l0 fuelOf
noncomputable def L45_1 : LoopT := addL noL 5 ([0, 13, 14, 15], []) (sumK 52 [0, 13, 14, 15] [2] Q45l0)
theorem lok45_1 : LfOkF Try.prog L45_1 Try.f45 := lfOkF_add (lfOkF_no _ _) qok45l0 (by kernel_rfl) (by kernel_rfl) (by kernel_rfl)

/-- impl.ValidChimney -/
noncomputable def r45 (x0 : List (List Int)) : Nat × Bool :=
 cond (decide ((((x0.length : Nat) : Int) : Int) < 1)) (0, false) (cond (decide ((((x0.length : Nat) : Int) : Int) > 6)) (0, false) (cond (Nat.beq (r45l0 (1000 + x0.length) ((x0.length : Nat) : Int) 0 x0) 0) (0, false) (cond (Nat.beq (r45l0 (1000 + x0.length) ((x0.length : Nat) : Int) 0 x0) 1) (0, true) (1, false))))
noncomputable def a45 (x0 : List (List Int)) (p : Nat × Bool) : Res := firstT [((Nat.beq (p.1) 0), .bool (p.2), ⟨[⟨true, (some (.tab sc0 x0))⟩], 1, []⟩)]
noncomputable def w45 (x0 : List (List Int)) : Res :=
 (cond (decide ((((x0.length : Nat) : Int) : Int) < 1))
 (a45 x0 (0, false))
 (cond (decide ((((x0.length : Nat) : Int) : Int) > 6)) (a45 x0 (0, false)) (cond (Nat.beq (r45l0 (1000 + x0.length) ((x0.length : Nat) : Int) 0 x0) 0) (a45 x0 (0, false)) (cond (Nat.beq (r45l0 (1000 + x0.length) ((x0.length : Nat) : Int) 0 x0) 1) (a45 x0 (0, true)) none))))
set_option maxRecDepth 100000 in
set_option maxHeartbeats 4000000 in
theorem e45 (x0 : List (List Int)) : evFn Try.prog ext T17 L45_1 200 Try.f45 [wsl 0] ⟨[⟨true, (some (.tab sc0 x0))⟩], 1, []⟩ = firstT [((Nat.beq ((r45 x0).1) 0), .bool ((r45 x0).2), ⟨[⟨true, (some (.tab sc0 x0))⟩], 1, []⟩)] :=
 (show _ = w45 x0 from by kernel_rfl).trans
 (show w45 x0 = a45 x0 (r45 x0) from by unfold w45 r45; exact (cond_app (a45 x0) _ rfl (cond_app (a45 x0) _ rfl (cond_app (a45 x0) _ rfl (cond_app (a45 x0) _ rfl rfl)))))
noncomputable def s45 (args : List Value) (s : St) : List (Bool × Value × St) :=
 match args, s.h with
 | [.iface f0 .nilIface], [⟨true, some (.tab [.fl .f32, .fl .f32, .fl .f32, .fl .f32, .int .i64] x0)⟩] => if f0 = 0 then [((Nat.beq ((r45 x0).1) 0), .bool ((r45 x0).2), ⟨[⟨true, (some (.tab sc0 x0))⟩], 1, []⟩)] else T17 45 args s
 | _, _ => T17 45 args s
noncomputable def T18 : CallF := addF T17 45 s45
set_option maxRecDepth 100000 in
set_option maxHeartbeats 4000000 in
theorem ok18 : CfOk Try.prog T18 := by
  refine cfOk_add ok17 fun args s r s' h1 h2 h3 => ?_
  unfold s45 at h3; split at h3
  · rename_i h; split at h3
    · rename_i hc; obtain ⟨rfl⟩ := hc; exact callOk ok17 Try.func45 h1 h2 h lok45_1.body (e45 _) rfl h3
    · exact ok17 _ _ _ _ _ h1 h2 h3
  · exact ok17 _ _ _ _ _ h1 h2 h3

/-- impl.isOutside -/
noncomputable def r81 (x0 : Nat) : Bool :=
 ((r146 x0 3262119936 1114636288))
noncomputable def a81 (x0 : Nat) (p : Bool) : Res := firstT [(true, .bool p, st0)]
noncomputable def w81 (x0 : Nat) : Res :=
 (a81 x0 ((r146 x0 3262119936 1114636288)))
set_option maxRecDepth 100000 in
set_option maxHeartbeats 4000000 in
theorem e81 (x0 : Nat) : evFn Try.prog ext T18 noL 200 Try.f81 [vf x0] st0 = firstT [(true, .bool (r81 x0), st0)] :=
 (show _ = w81 x0 from by kernel_rfl).trans
 (show w81 x0 = a81 x0 (r81 x0) from by unfold w81 r81; exact rfl)
noncomputable def s81 (args : List Value) (s : St) : List (Bool × Value × St) :=
 match args, s.h with
 | [.float .f32 x0], [] => [(true, .bool (r81 x0), st0)]
 | _, _ => T18 81 args s
noncomputable def T19 : CallF := addF T18 81 s81
set_option maxRecDepth 100000 in
set_option maxHeartbeats 4000000 in
theorem ok19 : CfOk Try.prog T19 := by
  refine cfOk_add ok18 fun args s r s' h1 h2 h3 => ?_
  unfold s81 at h3; split at h3
  · rename_i h; exact callOk ok18 Try.func81 h1 h2 h (lfOkF_no _ _).body (e81 _) rfl h3
  · exact ok18 _ _ _ _ _ h1 h2 h3

/-- impl.isPush -/
noncomputable def r124 (x0 : Nat) : Bool :=
 ((r146 x0 3296329728 1148846080))
noncomputable def a124 (x0 : Nat) (p : Bool) : Res := firstT [(true, .bool p, st0)]
noncomputable def w124 (x0 : Nat) : Res :=
 (a124 x0 ((r146 x0 3296329728 1148846080)))
set_option maxRecDepth 100000 in
set_option maxHeartbeats 4000000 in
theorem e124 (x0 : Nat) : evFn Try.prog ext T19 noL 200 Try.f124 [vf x0] st0 = firstT [(true, .bool (r124 x0), st0)] :=
 (show _ = w124 x0 from by kernel_rfl).trans
 (show w124 x0 = a124 x0 (r124 x0) from by unfold w124 r124; exact rfl)
noncomputable def s124 (args : List Value) (s : St) : List (Bool × Value × St) :=
 match args, s.h with
 | [.float .f32 x0], [] => [(true, .bool (r124 x0), st0)]
 | _, _ => T19 124 args s
noncomputable def T20 : CallF := addF T19 124 s124
set_option maxRecDepth 100000 in
set_option maxHeartbeats 4000000 in
theorem ok20 : CfOk Try.prog T20 := by
  refine cfOk_add ok19 fun args s r s' h1 h2 h3 => ?_
  unfold s124 at h3; split at h3
  · rename_i h; exact callOk ok19 Try.func124 h1 h2 h (lfOkF_no _ _).body (e124 _) rfl h3
  · exact ok19 _ _ _ _ _ h1 h2 h3

/-- impl.weatherCode -/
noncomputable def r57 (x0 x1 : Nat) (x2 : List (List Int)) : Nat × Int :=
 cond (Nat.beq ((r45 x2).1) 0) (cond (!((r45 x2).2)) (0, 1) (cond (!(r81 x0)) (0, 2) (cond (!(r124 x1)) (0, 2) (0, 0)))) (1, 0)
noncomputable def a57 (x0 x1 : Nat) (x2 : List (List Int)) (p : Nat × Int) : Res := firstT [((Nat.beq (p.1) 0), vi (p.2), ⟨[⟨true, (some (.tab sc0 x2))⟩], 1, []⟩)]
noncomputable def w57 (x0 x1 : Nat) (x2 : List (List Int)) : Res :=
 (cond (Nat.beq ((r45 x2).1) 0)
 (cond (!((r45 x2).2)) (a57 x0 x1 x2 (0, 1)) (cond (!(r81 x0)) (a57 x0 x1 x2 (0, 2)) (cond (!(r124 x1)) (a57 x0 x1 x2 (0, 2)) (a57 x0 x1 x2 (0, 0)))))
 none)
set_option maxRecDepth 100000 in
set_option maxHeartbeats 4000000 in
theorem e57 (x0 x1 : Nat) (x2 : List (List Int)) : evFn Try.prog ext T20 noL 200 Try.f57 [wsl 0, vf x0, vf x1] ⟨[⟨true, (some (.tab sc0 x2))⟩], 1, []⟩ = firstT [((Nat.beq ((r57 x0 x1 x2).1) 0), vi ((r57 x0 x1 x2).2), ⟨[⟨true, (some (.tab sc0 x2))⟩], 1, []⟩)] :=
 (show _ = w57 x0 x1 x2 from by kernel_rfl).trans
 (show w57 x0 x1 x2 = a57 x0 x1 x2 (r57 x0 x1 x2) from by unfold w57 r57; exact (cond_app (a57 x0 x1 x2) _ (cond_app (a57 x0 x1 x2) _ rfl (cond_app (a57 x0 x1 x2) _ rfl (cond_app (a57 x0 x1 x2) _ rfl rfl))) rfl))
noncomputable def s57 (args : List Value) (s : St) : List (Bool × Value × St) :=
 match args, s.h with
 | [.iface f0 .nilIface, .float .f32 x0, .float .f32 x1], [⟨true, some (.tab [.fl .f32, .fl .f32, .fl .f32, .fl .f32, .int .i64] x2)⟩] => if f0 = 0 then [((Nat.beq ((r57 x0 x1 x2).1) 0), vi ((r57 x0 x1 x2).2), ⟨[⟨true, (some (.tab sc0 x2))⟩], 1, []⟩)] else T20 57 args s
 | _, _ => T20 57 args s
noncomputable def T21 : CallF := addF T20 57 s57
set_option maxRecDepth 100000 in
set_option maxHeartbeats 4000000 in
theorem ok21 : CfOk Try.prog T21 := by
  refine cfOk_add ok20 fun args s r s' h1 h2 h3 => ?_
  unfold s57 at h3; split at h3
  · rename_i h; split at h3
    · rename_i hc; obtain ⟨rfl⟩ := hc; exact callOk ok20 Try.func57 h1 h2 h (lfOkF_no _ _).body (e57 _ _ _) rfl h3
    · exact ok20 _ _ _ _ _ h1 h2 h3
  · exact ok20 _ _ _ _ _ h1 h2 h3

/-- impl.branches, loop 0: one round -/
noncomputable def b131l0 (ih : Int → Int → Int → List (List Int) → List (List Int) → (Nat × List (List Int))) (x0 x1 x2 : Int) (x3 x4 : List (List Int)) : Nat × List (List Int) :=
 cond (decide ((x2 : Int) < x1)) (cond ((decide ((0 : Int) ≤ x2)) && (Nat.blt (Int.toNat x2) x4.length)) (cond ((((x4.getD (Int.toNat x2) []).getD 4 0) : Int) == x0) (cond (Nat.ble ((x3.length + 1) * 9) 140737488355328) (cond (Nat.beq ((ih x0 x1 (IntKind.i64.wrap (x2 + 1)) (((x3.drop 0).take x3.length) ++ ([[x2]] : List (List Int))) x4).1) 0) (0, ((ih x0 x1 (IntKind.i64.wrap (x2 + 1)) (((x3.drop 0).take x3.length) ++ ([[x2]] : List (List Int))) x4).2)) (cond (Nat.beq ((ih x0 x1 (IntKind.i64.wrap (x2 + 1)) (((x3.drop 0).take x3.length) ++ ([[x2]] : List (List Int))) x4).1) 1) (0, (((x3.drop 0).take x3.length) ++ ([[x2]] : List (List Int)))) (2, []))) (2, [])) (ih x0 x1 (IntKind.i64.wrap (x2 + 1)) x3 x4)) (2, [])) (1, [])
noncomputable def r131l0 : Nat → Int → Int → Int → List (List Int) → List (List Int) → (Nat × List (List Int))
 | 0 => fun _ _ _ _ _ => (2, [])
 | m + 1 => b131l0 (r131l0 m)
noncomputable def a131l0 (x0 x1 x2 : Int) (x3 x4 : List (List Int)) (p : Nat × List (List Int)) : Option (Fin' × List Value × St) := firstT ([((Nat.beq (p.1) 0), .exit 0, [wsl 2], ⟨[⟨true, none⟩, ⟨true, (some (.tab sc0 x4))⟩, ⟨true, (some (.tab [.int .i64] (p.2)))⟩], 2, [0]⟩), ((Nat.beq (p.1) 1), .exit 0, [wsl 0], ⟨[⟨true, (some (.tab [.int .i64] x3))⟩, ⟨true, (some (.tab sc0 x4))⟩], 2, [0]⟩)].map fun (b, x) => (b, (x.1, frameOf 26 [5] x.2.1, x.2.2)))
noncomputable def u131l0 (x0 x1 x2 : Int) (x3 x4 : List (List Int)) (p : Nat × List (List Int)) : Option (Fin' × List Value × St) := alts ([((Nat.beq (p.1) 0), .exit 0, [wsl 2], ⟨[⟨true, none⟩, ⟨true, (some (.tab sc0 x4))⟩, ⟨true, (some (.tab [.int .i64] (p.2)))⟩], 2, [0]⟩), ((Nat.beq (p.1) 1), .exit 0, [wsl 0], ⟨[⟨true, (some (.tab [.int .i64] x3))⟩, ⟨true, (some (.tab sc0 x4))⟩], 2, [0]⟩)].map fun (b, x) => (b, (x.1, frameOf 26 [5] x.2.1, x.2.2))) some
theorem v131l0 (x0 x1 x2 : Int) (x3 x4 : List (List Int)) (p : Nat × List (List Int)) : u131l0 x0 x1 x2 x3 x4 p = a131l0 x0 x1 x2 x3 x4 p := alts_first _
noncomputable def q131l0 (m : Nat) : SumK := fun vals s =>
 match vals, s.h with
 | [.int .i64 x0, .iface f0 .nilIface, .iface f1 .nilIface, .int .i64 x1, .int .i64 x2], [⟨true, some (.tab [.int .i64] x3)⟩, ⟨true, some (.tab [.fl .f32, .fl .f32, .fl .f32, .fl .f32, .int .i64] x4)⟩] => if f0 = 0 ∧ f1 = 1 then [((Nat.beq ((r131l0 m x0 x1 x2 x3 x4).1) 0), .exit 0, [wsl 2], ⟨[⟨true, none⟩, ⟨true, (some (.tab sc0 x4))⟩, ⟨true, (some (.tab [.int .i64] ((r131l0 m x0 x1 x2 x3 x4).2)))⟩], 2, [0]⟩), ((Nat.beq ((r131l0 m x0 x1 x2 x3 x4).1) 1), .exit 0, [wsl 0], ⟨[⟨true, (some (.tab [.int .i64] x3))⟩, ⟨true, (some (.tab sc0 x4))⟩], 2, [0]⟩)] else noQ vals s
 | _, _ => noQ vals s
noncomputable def w131l0 (ih : Int → Int → Int → List (List Int) → List (List Int) → (Nat × List (List Int))) (x0 x1 x2 : Int) (x3 x4 : List (List Int)) : Option (Fin' × List Value × St) :=
 (cond (decide ((x2 : Int) < x1))
 (cond ((decide ((0 : Int) ≤ x2)) && (Nat.blt (Int.toNat x2) x4.length)) (cond (Nat.blt (Int.toNat x2) x4.length) (cond ((((x4.getD (Int.toNat x2) []).getD 4 0) : Int) == x0) (cond (Nat.ble ((x3.length + 1) * 9) 140737488355328) (cond (Nat.beq ((ih x0 x1 (IntKind.i64.wrap (x2 + 1)) (((x3.drop 0).take x3.length) ++ ([[x2]] : List (List Int))) x4).1) 0) (a131l0 x0 x1 x2 x3 x4 (0, ((ih x0 x1 (IntKind.i64.wrap (x2 + 1)) (((x3.drop 0).take x3.length) ++ ([[x2]] : List (List Int))) x4).2))) (cond (Nat.beq ((ih x0 x1 (IntKind.i64.wrap (x2 + 1)) (((x3.drop 0).take x3.length) ++ ([[x2]] : List (List Int))) x4).1) 1) (a131l0 x0 x1 x2 x3 x4 (0, (((x3.drop 0).take x3.length) ++ ([[x2]] : List (List Int))))) none)) none) (u131l0 x0 x1 x2 x3 x4 (ih x0 x1 (IntKind.i64.wrap (x2 + 1)) x3 x4))) none) none)
 (a131l0 x0 x1 x2 x3 x4 (1, [])))
set_option maxRecDepth 100000 in
set_option maxHeartbeats 4000000 in
theorem e131l0 (m : Nat) (x0 x1 x2 : Int) (x3 x4 : List (List Int)) : evC Try.prog ext T21 noL 200 (loopN Try.f131 0) (loopTail ([1, 5, 9, 10, 11], []) [5] [0] (sumK 26 [1, 5, 9, 10, 11] [5] (q131l0 m))) (frameOf 26 [1, 5, 9, 10, 11] [vi x0, wsl 0, wsl 1, vi x1, vi x2]) ⟨[⟨true, (some (.tab [.int .i64] x3))⟩, ⟨true, (some (.tab sc0 x4))⟩], 2, []⟩ = firstT ([((Nat.beq ((r131l0 (m + 1) x0 x1 x2 x3 x4).1) 0), .exit 0, [wsl 2], ⟨[⟨true, none⟩, ⟨true, (some (.tab sc0 x4))⟩, ⟨true, (some (.tab [.int .i64] ((r131l0 (m + 1) x0 x1 x2 x3 x4).2)))⟩], 2, [0]⟩), ((Nat.beq ((r131l0 (m + 1) x0 x1 x2 x3 x4).1) 1), .exit 0, [wsl 0], ⟨[⟨true, (some (.tab [.int .i64] x3))⟩, ⟨true, (some (.tab sc0 x4))⟩], 2, [0]⟩)].map fun (b, x) => (b, (x.1, frameOf 26 [5] x.2.1, x.2.2))) :=
 (show _ = w131l0 (r131l0 m) x0 x1 x2 x3 x4 from by kernel_rfl).trans
 (show w131l0 (r131l0 m) x0 x1 x2 x3 x4 = a131l0 x0 x1 x2 x3 x4 (r131l0 (m + 1) x0 x1 x2 x3 x4) from by unfold w131l0; show _ = a131l0 x0 x1 x2 x3 x4 (b131l0 (r131l0 m) x0 x1 x2 x3 x4); unfold b131l0; exact (cond_both (a131l0 x0 x1 x2 x3 x4) _ (fun h0 => (cond_both (a131l0 x0 x1 x2 x3 x4) _ (fun h1 => (cond_t (ev_and2 h1) (cond_app (a131l0 x0 x1 x2 x3 x4) _ (cond_app (a131l0 x0 x1 x2 x3 x4) _ (cond_app (a131l0 x0 x1 x2 x3 x4) _ rfl (cond_app (a131l0 x0 x1 x2 x3 x4) _ rfl rfl)) rfl) (v131l0 x0 x1 x2 x3 x4 ((r131l0 m) x0 x1 (IntKind.i64.wrap (x2 + 1)) x3 x4))))) (fun h1 => rfl))) (fun h0 => rfl)))
set_option maxRecDepth 100000 in
set_option maxHeartbeats 4000000 in
theorem qm131l0 : ∀ m, SumKOk Try.prog (loopN Try.f131 0) 26 [1, 5, 9, 10, 11] [5] (q131l0 m) := by
  intro m
  induction m with
  | zero =>
    intro vals s x h1 h2 h3
    unfold q131l0 at h3; split at h3
    · rename_i h; split at h3
      · rename_i hc; obtain ⟨rfl, rfl⟩ := hc; exact absurd h3 (by simp [r131l0, firstT, Nat.beq])
      · exact noQ_ok _ _ _ h1 h2 h3
    · exact noQ_ok _ _ _ h1 h2 h3
  | succ m ih =>
    intro vals s x h1 h2 h3
    unfold q131l0 at h3; split at h3
    · rename_i h; split at h3
      · rename_i hc; obtain ⟨rfl, rfl⟩ := hc; exact sum_step ok21 extOk mixed ((lfOkF_no _ _).inner (by kernel_rfl)) ih h1 h2 h (e131l0 m _ _ _ _ _) rfl h3
      · exact noQ_ok _ _ _ h1 h2 h3
    · exact noQ_ok _ _ _ h1 h2 h3
noncomputable def Q131l0 : SumK := fun vals s => q131l0 (fuelOf vals s.h) vals s
theorem qok131l0 : SumKOk Try.prog (loopN Try.f131 0) 26 [1, 5, 9, 10, 11] [5] Q131l0 := fuel_ok qm131l0 fuelOf
noncomputable def L131_1 : LoopT := addL noL 4 ([1, 5, 9, 10, 11], []) (sumK 26 [1, 5, 9, 10, 11] [5] Q131l0)
theorem lok131_1 : LfOkF Try.prog L131_1 Try.f131 := lfOkF_add (lfOkF_no _ _) qok131l0 (by kernel_rfl) (by kernel_rfl) (by kernel_rfl)

/-- impl.branches -/
noncomputable def r131 (x0 : Int) (x1 : List (List Int)) : Nat × List (List Int) :=
 cond (Nat.beq ((r131l0 (1000 + x1.length + 0) x0 ((x1.length : Nat) : Int) 0 ([] : List (List Int)) x1).1) 0) (0, ((r131l0 (1000 + x1.length + 0) x0 ((x1.length : Nat) : Int) 0 ([] : List (List Int)) x1).2)) (cond (Nat.beq ((r131l0 (1000 + x1.length + 0) x0 ((x1.length : Nat) : Int) 0 ([] : List (List Int)) x1).1) 1) (0, ([] : List (List Int))) (1, []))
noncomputable def a131 (x0 : Int) (x1 : List (List Int)) (p : Nat × List (List Int)) : Res := firstT [((Nat.beq (p.1) 0), wsl 1, ⟨[⟨true, (some (.tab sc0 x1))⟩, ⟨true, (some (.tab [.int .i64] (p.2)))⟩], 1, []⟩)]
noncomputable def w131 (x0 : Int) (x1 : List (List Int)) : Res :=
 (cond (Nat.beq ((r131l0 (1000 + x1.length + 0) x0 ((x1.length : Nat) : Int) 0 ([] : List (List Int)) x1).1) 0)
 (a131 x0 x1 (0, ((r131l0 (1000 + x1.length + 0) x0 ((x1.length : Nat) : Int) 0 ([] : List (List Int)) x1).2)))
 (cond (Nat.beq ((r131l0 (1000 + x1.length + 0) x0 ((x1.length : Nat) : Int) 0 ([] : List (List Int)) x1).1) 1) (a131 x0 x1 (0, ([] : List (List Int)))) none))
set_option maxRecDepth 100000 in
set_option maxHeartbeats 4000000 in
theorem e131 (x0 : Int) (x1 : List (List Int)) : evFn Try.prog ext T21 L131_1 200 Try.f131 [wsl 0, vi x0] ⟨[⟨true, (some (.tab sc0 x1))⟩], 1, []⟩ = firstT [((Nat.beq ((r131 x0 x1).1) 0), wsl 1, ⟨[⟨true, (some (.tab sc0 x1))⟩, ⟨true, (some (.tab [.int .i64] ((r131 x0 x1).2)))⟩], 1, []⟩)] :=
 (show _ = w131 x0 x1 from by kernel_rfl).trans
 (show w131 x0 x1 = a131 x0 x1 (r131 x0 x1) from by unfold w131 r131; exact (cond_app (a131 x0 x1) _ rfl (cond_app (a131 x0 x1) _ rfl rfl)))
noncomputable def s131 (args : List Value) (s : St) : List (Bool × Value × St) :=
 match args, s.h with
 | [.iface f0 .nilIface, .int .i64 x0], [⟨true, some (.tab [.fl .f32, .fl .f32, .fl .f32, .fl .f32, .int .i64] x1)⟩] => if f0 = 0 then [((Nat.beq ((r131 x0 x1).1) 0), wsl 1, ⟨[⟨true, (some (.tab sc0 x1))⟩, ⟨true, (some (.tab [.int .i64] ((r131 x0 x1).2)))⟩], 1, []⟩)] else T21 131 args s
 | _, _ => T21 131 args s
noncomputable def T22 : CallF := addF T21 131 s131
set_option maxRecDepth 100000 in
set_option maxHeartbeats 4000000 in
theorem ok22 : CfOk Try.prog T22 := by
  refine cfOk_add ok21 fun args s r s' h1 h2 h3 => ?_
  unfold s131 at h3; split at h3
  · rename_i h; split at h3
    · rename_i hc; obtain ⟨rfl⟩ := hc; exact callOk ok21 Try.func131 h1 h2 h lok131_1.body (e131 _ _) rfl h3
    · exact ok21 _ _ _ _ _ h1 h2 h3
  · exact ok21 _ _ _ _ _ h1 h2 h3

/-- impl.dense -/
noncomputable def r170 (x0 : Nat) : Nat :=
 ((fdiv .f32 1135640576 (fadd .f32 x0 1133019136)))
noncomputable def a170 (x0 : Nat) (p : Nat) : Res := firstT [(true, vf p, st0)]
noncomputable def w170 (x0 : Nat) : Res :=
 (a170 x0 ((fdiv .f32 1135640576 (fadd .f32 x0 1133019136))))
set_option maxRecDepth 100000 in
set_option maxHeartbeats 4000000 in
theorem e170 (x0 : Nat) : evFn Try.prog ext T22 noL 200 Try.f170 [vf x0] st0 = firstT [(true, vf (r170 x0), st0)] :=
 (show _ = w170 x0 from by kernel_rfl).trans
 (show w170 x0 = a170 x0 (r170 x0) from by unfold w170 r170; exact rfl)
noncomputable def s170 (args : List Value) (s : St) : List (Bool × Value × St) :=
 match args, s.h with
 | [.float .f32 x0], [] => [(true, vf (r170 x0), st0)]
 | _, _ => T22 170 args s
noncomputable def T23 : CallF := addF T22 170 s170
set_option maxRecDepth 100000 in
set_option maxHeartbeats 4000000 in
theorem ok23 : CfOk Try.prog T23 := by
  refine cfOk_add ok22 fun args s r s' h1 h2 h3 => ?_
  unfold s170 at h3; split at h3
  · rename_i h; exact callOk ok22 Try.func170 h1 h2 h (lfOkF_no _ _).body (e170 _) rfl h3
  · exact ok22 _ _ _ _ _ h1 h2 h3

/-- impl.draft -/
noncomputable def r159 (x0 x1 x2 x3 : Nat) (x4 : Int) (x5 : Nat) : Nat :=
 ((fmul .f32 (fmul .f32 1092354048 x0) (fsub .f32 (r170 x5) (r170 x2))))
noncomputable def a159 (x0 x1 x2 x3 : Nat) (x4 : Int) (x5 : Nat) (p : Nat) : Res := firstT [(true, vf p, st0)]
noncomputable def w159 (x0 x1 x2 x3 : Nat) (x4 : Int) (x5 : Nat) : Res :=
 (a159 x0 x1 x2 x3 x4 x5 ((fmul .f32 (fmul .f32 1092354048 x0) (fsub .f32 (r170 x5) (r170 x2)))))
set_option maxRecDepth 100000 in
set_option maxHeartbeats 4000000 in
theorem e159 (x0 x1 x2 x3 : Nat) (x4 : Int) (x5 : Nat) : evFn Try.prog ext T23 noL 200 Try.f159 [.agg #[vf x0, vf x1, vf x2, vf x3, vi x4], vf x5] st0 = firstT [(true, vf (r159 x0 x1 x2 x3 x4 x5), st0)] :=
 (show _ = w159 x0 x1 x2 x3 x4 x5 from by kernel_rfl).trans
 (show w159 x0 x1 x2 x3 x4 x5 = a159 x0 x1 x2 x3 x4 x5 (r159 x0 x1 x2 x3 x4 x5) from by unfold w159 r159; exact rfl)
noncomputable def s159 (args : List Value) (s : St) : List (Bool × Value × St) :=
 match args, s.h with
 | [.agg ⟨[.float .f32 x0, .float .f32 x1, .float .f32 x2, .float .f32 x3, .int .i64 x4]⟩, .float .f32 x5], [] => [(true, vf (r159 x0 x1 x2 x3 x4 x5), st0)]
 | _, _ => T23 159 args s
noncomputable def T24 : CallF := addF T23 159 s159
set_option maxRecDepth 100000 in
set_option maxHeartbeats 4000000 in
theorem ok24 : CfOk Try.prog T24 := by
  refine cfOk_add ok23 fun args s r s' h1 h2 h3 => ?_
  unfold s159 at h3; split at h3
  · rename_i h; exact callOk ok23 Try.func159 h1 h2 h (lfOkF_no _ _).body (e159 _ _ _ _ _ _) rfl h3
  · exact ok23 _ _ _ _ _ h1 h2 h3

/-- impl.resist -/
noncomputable def r160 (x0 x1 x2 x3 : Nat) (x4 : Int) : Nat :=
 ((fdiv .f32 (fadd .f32 1065353216 (fmul .f32 1048576000 x0)) (fmul .f32 (fmul .f32 x1 x3) (fmul .f32 x1 x3))))
noncomputable def a160 (x0 x1 x2 x3 : Nat) (x4 : Int) (p : Nat) : Res := firstT [(true, vf p, st0)]
noncomputable def w160 (x0 x1 x2 x3 : Nat) (x4 : Int) : Res :=
 (a160 x0 x1 x2 x3 x4 ((fdiv .f32 (fadd .f32 1065353216 (fmul .f32 1048576000 x0)) (fmul .f32 (fmul .f32 x1 x3) (fmul .f32 x1 x3)))))
set_option maxRecDepth 100000 in
set_option maxHeartbeats 4000000 in
theorem e160 (x0 x1 x2 x3 : Nat) (x4 : Int) : evFn Try.prog ext T24 noL 200 Try.f160 [.agg #[vf x0, vf x1, vf x2, vf x3, vi x4]] st0 = firstT [(true, vf (r160 x0 x1 x2 x3 x4), st0)] :=
 (show _ = w160 x0 x1 x2 x3 x4 from by kernel_rfl).trans
 (show w160 x0 x1 x2 x3 x4 = a160 x0 x1 x2 x3 x4 (r160 x0 x1 x2 x3 x4) from by unfold w160 r160; exact rfl)
noncomputable def s160 (args : List Value) (s : St) : List (Bool × Value × St) :=
 match args, s.h with
 | [.agg ⟨[.float .f32 x0, .float .f32 x1, .float .f32 x2, .float .f32 x3, .int .i64 x4]⟩], [] => [(true, vf (r160 x0 x1 x2 x3 x4), st0)]
 | _, _ => T24 160 args s
noncomputable def T25 : CallF := addF T24 160 s160
set_option maxRecDepth 100000 in
set_option maxHeartbeats 4000000 in
theorem ok25 : CfOk Try.prog T25 := by
  refine cfOk_add ok24 fun args s r s' h1 h2 h3 => ?_
  unfold s160 at h3; split at h3
  · rename_i h; exact callOk ok24 Try.func160 h1 h2 h (lfOkF_no _ _).body (e160 _ _ _ _ _) rfl h3
  · exact ok24 _ _ _ _ _ h1 h2 h3

/-- math.Sqrt -/
noncomputable def r165 (x0 : Nat) : Nat :=
 ((fsqrt .f64 x0))
noncomputable def a165 (x0 : Nat) (p : Nat) : Res := firstT [(true, .float .f64 p, st0)]
noncomputable def w165 (x0 : Nat) : Res :=
 (a165 x0 ((fsqrt .f64 x0)))
set_option maxRecDepth 100000 in
set_option maxHeartbeats 4000000 in
theorem e165 (x0 : Nat) : evFn Try.prog ext T25 noL 200 Try.f165 [.float .f64 x0] st0 = firstT [(true, .float .f64 (r165 x0), st0)] :=
 (show _ = w165 x0 from by kernel_rfl).trans
 (show w165 x0 = a165 x0 (r165 x0) from by unfold w165 r165; exact rfl)
noncomputable def s165 (args : List Value) (s : St) : List (Bool × Value × St) :=
 match args, s.h with
 | [.float .f64 x0], [] => [(true, .float .f64 (r165 x0), st0)]
 | _, _ => T25 165 args s
noncomputable def T26 : CallF := addF T25 165 s165
set_option maxRecDepth 100000 in
set_option maxHeartbeats 4000000 in
theorem ok26 : CfOk Try.prog T26 := by
  refine cfOk_add ok25 fun args s r s' h1 h2 h3 => ?_
  unfold s165 at h3; split at h3
  · rename_i h; exact callOk ok25 Try.func165 h1 h2 h (lfOkF_no _ _).body (e165 _) rfl h3
  · exact ok25 _ _ _ _ _ h1 h2 h3

/-- impl.root -/
noncomputable def r161 (x0 : Nat) : Nat × Nat :=
 cond (narrowOk (r165 (widen x0))) (0, (narrow (r165 (widen x0)))) (1, 0)
noncomputable def a161 (x0 : Nat) (p : Nat × Nat) : Res := firstT [((Nat.beq (p.1) 0), vf (p.2), st0)]
noncomputable def w161 (x0 : Nat) : Res :=
 (cond (narrowOk (r165 (widen x0)))
 (a161 x0 (0, (narrow (r165 (widen x0)))))
 none)
set_option maxRecDepth 100000 in
set_option maxHeartbeats 4000000 in
theorem e161 (x0 : Nat) : evFn Try.prog ext T26 noL 200 Try.f161 [vf x0] st0 = firstT [((Nat.beq ((r161 x0).1) 0), vf ((r161 x0).2), st0)] :=
 (show _ = w161 x0 from by kernel_rfl).trans
 (show w161 x0 = a161 x0 (r161 x0) from by unfold w161 r161; exact (cond_app (a161 x0) _ rfl rfl))
noncomputable def s161 (args : List Value) (s : St) : List (Bool × Value × St) :=
 match args, s.h with
 | [.float .f32 x0], [] => [((Nat.beq ((r161 x0).1) 0), vf ((r161 x0).2), st0)]
 | _, _ => T26 161 args s
noncomputable def T27 : CallF := addF T26 161 s161
set_option maxRecDepth 100000 in
set_option maxHeartbeats 4000000 in
theorem ok27 : CfOk Try.prog T27 := by
  refine cfOk_add ok26 fun args s r s' h1 h2 h3 => ?_
  unfold s161 at h3; split at h3
  · rename_i h; exact callOk ok26 Try.func161 h1 h2 h (lfOkF_no _ _).body (e161 _) rfl h3
  · exact ok26 _ _ _ _ _ h1 h2 h3

/-- impl.through -/
noncomputable def r125 (x0 x1 x2 x3 : Nat) (x4 : Int) (x5 x6 : Nat) : Nat × Nat :=
 cond (feq .f32 x3 0) (0, 0) (cond (flt .f32 (fdiv .f32 (fadd .f32 (r159 x0 x1 x2 x3 x4 x5) x6) (r160 x0 x1 x2 x3 x4)) 0) (cond (Nat.beq ((r161 (fneg .f32 (fdiv .f32 (fadd .f32 (r159 x0 x1 x2 x3 x4 x5) x6) (r160 x0 x1 x2 x3 x4)))).1) 0) (0, (fneg .f32 ((r161 (fneg .f32 (fdiv .f32 (fadd .f32 (r159 x0 x1 x2 x3 x4 x5) x6) (r160 x0 x1 x2 x3 x4)))).2))) (1, 0)) (cond (Nat.beq ((r161 (fdiv .f32 (fadd .f32 (r159 x0 x1 x2 x3 x4 x5) x6) (r160 x0 x1 x2 x3 x4))).1) 0) (0, ((r161 (fdiv .f32 (fadd .f32 (r159 x0 x1 x2 x3 x4 x5) x6) (r160 x0 x1 x2 x3 x4))).2)) (1, 0)))
noncomputable def a125 (x0 x1 x2 x3 : Nat) (x4 : Int) (x5 x6 : Nat) (p : Nat × Nat) : Res := firstT [((Nat.beq (p.1) 0), vf (p.2), st0)]
noncomputable def w125 (x0 x1 x2 x3 : Nat) (x4 : Int) (x5 x6 : Nat) : Res :=
 (cond (feq .f32 x3 0)
 (a125 x0 x1 x2 x3 x4 x5 x6 (0, 0))
 (cond (flt .f32 (fdiv .f32 (fadd .f32 (r159 x0 x1 x2 x3 x4 x5) x6) (r160 x0 x1 x2 x3 x4)) 0) (cond (Nat.beq ((r161 (fneg .f32 (fdiv .f32 (fadd .f32 (r159 x0 x1 x2 x3 x4 x5) x6) (r160 x0 x1 x2 x3 x4)))).1) 0) (a125 x0 x1 x2 x3 x4 x5 x6 (0, (fneg .f32 ((r161 (fneg .f32 (fdiv .f32 (fadd .f32 (r159 x0 x1 x2 x3 x4 x5) x6) (r160 x0 x1 x2 x3 x4)))).2)))) none) (cond (Nat.beq ((r161 (fdiv .f32 (fadd .f32 (r159 x0 x1 x2 x3 x4 x5) x6) (r160 x0 x1 x2 x3 x4))).1) 0) (a125 x0 x1 x2 x3 x4 x5 x6 (0, ((r161 (fdiv .f32 (fadd .f32 (r159 x0 x1 x2 x3 x4 x5) x6) (r160 x0 x1 x2 x3 x4))).2))) none)))
set_option maxRecDepth 100000 in
set_option maxHeartbeats 4000000 in
theorem e125 (x0 x1 x2 x3 : Nat) (x4 : Int) (x5 x6 : Nat) : evFn Try.prog ext T27 noL 200 Try.f125 [.agg #[vf x0, vf x1, vf x2, vf x3, vi x4], vf x5, vf x6] st0 = firstT [((Nat.beq ((r125 x0 x1 x2 x3 x4 x5 x6).1) 0), vf ((r125 x0 x1 x2 x3 x4 x5 x6).2), st0)] :=
 (show _ = w125 x0 x1 x2 x3 x4 x5 x6 from by kernel_rfl).trans
 (show w125 x0 x1 x2 x3 x4 x5 x6 = a125 x0 x1 x2 x3 x4 x5 x6 (r125 x0 x1 x2 x3 x4 x5 x6) from by unfold w125 r125; exact (cond_app (a125 x0 x1 x2 x3 x4 x5 x6) _ rfl (cond_app (a125 x0 x1 x2 x3 x4 x5 x6) _ (cond_app (a125 x0 x1 x2 x3 x4 x5 x6) _ rfl rfl) (cond_app (a125 x0 x1 x2 x3 x4 x5 x6) _ rfl rfl))))
noncomputable def s125 (args : List Value) (s : St) : List (Bool × Value × St) :=
 match args, s.h with
 | [.agg ⟨[.float .f32 x0, .float .f32 x1, .float .f32 x2, .float .f32 x3, .int .i64 x4]⟩, .float .f32 x5, .float .f32 x6], [] => [((Nat.beq ((r125 x0 x1 x2 x3 x4 x5 x6).1) 0), vf ((r125 x0 x1 x2 x3 x4 x5 x6).2), st0)]
 | _, _ => T27 125 args s
noncomputable def T28 : CallF := addF T27 125 s125
set_option maxRecDepth 100000 in
set_option maxHeartbeats 4000000 in
theorem ok28 : CfOk Try.prog T28 := by
  refine cfOk_add ok27 fun args s r s' h1 h2 h3 => ?_
  unfold s125 at h3; split at h3
  · rename_i h; exact callOk ok27 Try.func125 h1 h2 h (lfOkF_no _ _).body (e125 _ _ _ _ _ _ _) rfl h3
  · exact ok27 _ _ _ _ _ h1 h2 h3

/-- impl.sum, loop 0: one round -/
noncomputable def b132l0 (ih : Nat → Nat → Nat → Int → Int → List (List Int) → (Nat × Nat)) (x0 x1 x2 : Nat) (x3 x4 : Int) (x5 : List (List Int)) : Nat × Nat :=
 cond (decide ((x4 : Int) < x3)) (cond ((decide ((0 : Int) ≤ x4)) && (Nat.blt (Int.toNat x4) x1)) (cond (Nat.blt (1 + (Int.toNat x4)) x5.length) (ih (fadd .f32 x0 (Int.toNat ((x5.getD (1 + (Int.toNat x4)) []).getD 0 0))) x1 x2 x3 (IntKind.i64.wrap (x4 + 1)) x5) (1, 0)) (1, 0)) (0, x0)
noncomputable def r132l0 : Nat → Nat → Nat → Nat → Int → Int → List (List Int) → (Nat × Nat)
 | 0 => fun _ _ _ _ _ _ => (1, 0)
 | m + 1 => b132l0 (r132l0 m)
noncomputable def a132l0 (x0 x1 x2 : Nat) (x3 x4 : Int) (x5 : List (List Int)) (p : Nat × Nat) : Option (Fin' × List Value × St) := firstT ([((Nat.beq (p.1) 0), .exit 0, [vf (p.2)], ⟨[⟨true, (some (.tab [.fl .f32] x5))⟩], 1, []⟩)].map fun (b, x) => (b, (x.1, frameOf 21 [3] x.2.1, x.2.2)))
noncomputable def u132l0 (x0 x1 x2 : Nat) (x3 x4 : Int) (x5 : List (List Int)) (p : Nat × Nat) : Option (Fin' × List Value × St) := alts ([((Nat.beq (p.1) 0), .exit 0, [vf (p.2)], ⟨[⟨true, (some (.tab [.fl .f32] x5))⟩], 1, []⟩)].map fun (b, x) => (b, (x.1, frameOf 21 [3] x.2.1, x.2.2))) some
theorem v132l0 (x0 x1 x2 : Nat) (x3 x4 : Int) (x5 : List (List Int)) (p : Nat × Nat) : u132l0 x0 x1 x2 x3 x4 x5 p = a132l0 x0 x1 x2 x3 x4 x5 p := alts_first _
noncomputable def q132l0 (m : Nat) : SumK := fun vals s =>
 match vals, s.h with
 | [.float .f32 x0, .slice (some ⟨f0, f1, some f2⟩) x1 x2, .int .i64 x3, .int .i64 x4], [⟨true, some (.tab [.fl .f32] x5)⟩] => if f0 = 0 ∧ f1 = 1 ∧ f2 = 0 then [((Nat.beq ((r132l0 m x0 x1 x2 x3 x4 x5).1) 0), .exit 0, [vf ((r132l0 m x0 x1 x2 x3 x4 x5).2)], ⟨[⟨true, (some (.tab [.fl .f32] x5))⟩], 1, []⟩)] else noQ vals s
 | _, _ => noQ vals s
noncomputable def w132l0 (ih : Nat → Nat → Nat → Int → Int → List (List Int) → (Nat × Nat)) (x0 x1 x2 : Nat) (x3 x4 : Int) (x5 : List (List Int)) : Option (Fin' × List Value × St) :=
 (cond (decide ((x4 : Int) < x3))
 (cond ((decide ((0 : Int) ≤ x4)) && (Nat.blt (Int.toNat x4) x1)) (cond (Nat.blt (1 + (Int.toNat x4)) x5.length) (u132l0 x0 x1 x2 x3 x4 x5 (ih (fadd .f32 x0 (Int.toNat ((x5.getD (1 + (Int.toNat x4)) []).getD 0 0))) x1 x2 x3 (IntKind.i64.wrap (x4 + 1)) x5)) none) none)
 (a132l0 x0 x1 x2 x3 x4 x5 (0, x0)))
set_option maxRecDepth 100000 in
set_option maxHeartbeats 4000000 in
theorem e132l0 (m : Nat) (x0 x1 x2 : Nat) (x3 x4 : Int) (x5 : List (List Int)) : evC Try.prog ext T28 noL 200 (loopN Try.f132 0) (loopTail ([3, 10, 11, 12], []) [3] [] (sumK 21 [3, 10, 11, 12] [3] (q132l0 m))) (frameOf 21 [3, 10, 11, 12] [vf x0, .slice (some ⟨0, 1, some 0⟩) x1 x2, vi x3, vi x4]) ⟨[⟨true, (some (.tab [.fl .f32] x5))⟩], 1, []⟩ = firstT ([((Nat.beq ((r132l0 (m + 1) x0 x1 x2 x3 x4 x5).1) 0), .exit 0, [vf ((r132l0 (m + 1) x0 x1 x2 x3 x4 x5).2)], ⟨[⟨true, (some (.tab [.fl .f32] x5))⟩], 1, []⟩)].map fun (b, x) => (b, (x.1, frameOf 21 [3] x.2.1, x.2.2))) :=
 (show _ = w132l0 (r132l0 m) x0 x1 x2 x3 x4 x5 from by kernel_rfl).trans
 (show w132l0 (r132l0 m) x0 x1 x2 x3 x4 x5 = a132l0 x0 x1 x2 x3 x4 x5 (r132l0 (m + 1) x0 x1 x2 x3 x4 x5) from by unfold w132l0; show _ = a132l0 x0 x1 x2 x3 x4 x5 (b132l0 (r132l0 m) x0 x1 x2 x3 x4 x5); unfold b132l0; exact (cond_app (a132l0 x0 x1 x2 x3 x4 x5) _ (cond_app (a132l0 x0 x1 x2 x3 x4 x5) _ (cond_app (a132l0 x0 x1 x2 x3 x4 x5) _ (v132l0 x0 x1 x2 x3 x4 x5 ((r132l0 m) (fadd .f32 x0 (Int.toNat ((x5.getD (1 + (Int.toNat x4)) []).getD 0 0))) x1 x2 x3 (IntKind.i64.wrap (x4 + 1)) x5)) rfl) rfl) rfl))
set_option maxRecDepth 100000 in
set_option maxHeartbeats 4000000 in
theorem qm132l0 : ∀ m, SumKOk Try.prog (loopN Try.f132 0) 21 [3, 10, 11, 12] [3] (q132l0 m) := by
  intro m
  induction m with
  | zero =>
    intro vals s x h1 h2 h3
    unfold q132l0 at h3; split at h3
    · rename_i h; split at h3
      · rename_i hc; obtain ⟨rfl, rfl, rfl⟩ := hc; exact absurd h3 (by simp [r132l0, firstT, Nat.beq])
      · exact noQ_ok _ _ _ h1 h2 h3
    · exact noQ_ok _ _ _ h1 h2 h3
  | succ m ih =>
    intro vals s x h1 h2 h3
    unfold q132l0 at h3; split at h3
    · rename_i h; split at h3
      · rename_i hc; obtain ⟨rfl, rfl, rfl⟩ := hc; exact sum_step ok28 extOk mixed ((lfOkF_no _ _).inner (by kernel_rfl)) ih h1 h2 h (e132l0 m _ _ _ _ _ _) rfl h3
      · exact noQ_ok _ _ _ h1 h2 h3
    · exact noQ_ok _ _ _ h1 h2 h3
noncomputable def Q132l0 : SumK := fun vals s => q132l0 (fuelOf vals s.h) vals s
theorem qok132l0 : SumKOk Try.prog (loopN Try.f132 0) 21 [3, 10, 11, 12] [3] Q132l0 := fuel_ok qm132l0 fuelOf
noncomputable def L132_1 : LoopT := addL noL 4 ([3, 10, 11, 12], []) (sumK 21 [3, 10, 11, 12] [3] Q132l0)
theorem lok132_1 : LfOkF Try.prog L132_1 Try.f132 := lfOkF_add (lfOkF_no _ _) qok132l0 (by kernel_rfl) (by kernel_rfl) (by kernel_rfl)

/-- impl.sum, loop 0 -/
noncomputable def r132l0b (x0 : Nat) : Unit :=
 ()
noncomputable def a132l0b (x0 : Nat) (p : Unit) : Option (Fin' × List Value × St) := firstT ([(true, .exit 0, [vf x0], st0)].map fun (b, x) => (b, (x.1, frameOf 21 [3] x.2.1, x.2.2)))
noncomputable def w132l0b (x0 : Nat) : Option (Fin' × List Value × St) :=
 (a132l0b x0 ())
set_option maxRecDepth 100000 in
set_option maxHeartbeats 4000000 in
theorem e132l0b (x0 : Nat) : evC Try.prog ext T28 L132_1 200 (loopN Try.f132 0) (loopTail ([3, 10, 11, 12], []) [3] [] (sumK 21 [3, 10, 11, 12] [3] Q132l0)) (frameOf 21 [3, 10, 11, 12] [vf x0, .iface 0 (.slice none 0 0), vi 0, vi 0]) ⟨[], 0, []⟩ = firstT ([(true, .exit 0, [vf x0], st0)].map fun (b, x) => (b, (x.1, frameOf 21 [3] x.2.1, x.2.2))) :=
 (show _ = w132l0b x0 from by kernel_rfl).trans
 (show w132l0b x0 = a132l0b x0 (r132l0b x0) from by unfold w132l0b r132l0b; exact rfl)
noncomputable def Q132l0b : SumK := fun vals s =>
 match vals, s.h with
 | [.float .f32 x0, .iface f0 (.slice none f1 f2), .int .i64 f3, .int .i64 f4], [] => if f0 = 0 ∧ f1 = 0 ∧ f2 = 0 ∧ f3 = 0 ∧ f4 = 0 then [(true, .exit 0, [vf x0], st0)] else Q132l0 vals s
 | _, _ => Q132l0 vals s
set_option maxRecDepth 100000 in
set_option maxHeartbeats 4000000 in
theorem qok132l0b : SumKOk Try.prog (loopN Try.f132 0) 21 [3, 10, 11, 12] [3] Q132l0b := by
  intro vals s x h1 h2 h3
  unfold Q132l0b at h3; split at h3
  · rename_i h; split at h3
    · rename_i hc; obtain ⟨rfl, rfl, rfl, rfl, rfl⟩ := hc; exact sum_step ok28 extOk mixed (lok132_1.inner (by kernel_rfl)) qok132l0 h1 h2 h (e132l0b _) rfl h3
    · exact qok132l0 _ _ _ h1 h2 h3
  · exact qok132l0 _ _ _ h1 h2 h3
noncomputable def L132_2 : LoopT := addL L132_1 4 ([3, 10, 11, 12], []) (sumK 21 [3, 10, 11, 12] [3] Q132l0b)
theorem lok132_2 : LfOkF Try.prog L132_2 Try.f132 := lfOkF_add lok132_1 qok132l0b (by kernel_rfl) (by kernel_rfl) (by kernel_rfl)

/-- impl.sum -/
noncomputable def r132 (x0 : List (List Int)) : Nat × Nat :=
 let c40 := (r132l0 (1000 + x0.length) (Int.toNat ((x0.getD 0 []).getD 0 0)) (x0.length - 1) (x0.length - 1) (((x0.length - 1) : Nat) : Int) 0 x0)
 cond (Nat.blt 0 x0.length) (cond ((Nat.blt 1 x0.length) && ((Nat.ble 1 x0.length) && (Nat.ble x0.length x0.length))) (cond (Nat.beq (c40.1) 0) (0, (c40.2)) (1, 0)) (cond ((Nat.beq 1 x0.length) && ((Nat.ble 1 x0.length) && (Nat.ble x0.length x0.length))) (0, (Int.toNat ((x0.getD 0 []).getD 0 0))) (1, 0))) (1, 0)
noncomputable def a132 (x0 : List (List Int)) (p : Nat × Nat) : Res := firstT [((Nat.beq (p.1) 0), vf (p.2), ⟨[⟨true, (some (.tab [.fl .f32] x0))⟩], 1, []⟩)]
noncomputable def w132 (x0 : List (List Int)) : Res :=
 let c40 := (r132l0 (1000 + x0.length) (Int.toNat ((x0.getD 0 []).getD 0 0)) (x0.length - 1) (x0.length - 1) (((x0.length - 1) : Nat) : Int) 0 x0)
 (cond (Nat.blt 0 x0.length)
 (cond (Nat.blt 0 x0.length) (cond ((Nat.blt 1 x0.length) && ((Nat.ble 1 x0.length) && (Nat.ble x0.length x0.length))) (cond (Nat.beq (c40.1) 0) (a132 x0 (0, (c40.2))) none) (cond ((Nat.beq 1 x0.length) && ((Nat.ble 1 x0.length) && (Nat.ble x0.length x0.length))) (a132 x0 (0, (Int.toNat ((x0.getD 0 []).getD 0 0)))) none)) none)
 none)
set_option maxRecDepth 100000 in
set_option maxHeartbeats 4000000 in
theorem e132 (x0 : List (List Int)) : evFn Try.prog ext T28 L132_2 200 Try.f132 [wsl 0] ⟨[⟨true, (some (.tab [.fl .f32] x0))⟩], 1, []⟩ = firstT [((Nat.beq ((r132 x0).1) 0), vf ((r132 x0).2), ⟨[⟨true, (some (.tab [.fl .f32] x0))⟩], 1, []⟩)] :=
 (show _ = w132 x0 from by kernel_rfl).trans
 (show w132 x0 = a132 x0 (r132 x0) from by unfold w132 r132; exact (cond_both (a132 x0) _ (fun h0 => (cond_t h0 (cond_app (a132 x0) _ (cond_app (a132 x0) _ rfl rfl) (cond_app (a132 x0) _ rfl rfl)))) (fun h0 => rfl)))
noncomputable def s132 (args : List Value) (s : St) : List (Bool × Value × St) :=
 match args, s.h with
 | [.iface f0 .nilIface], [⟨true, some (.tab [.fl .f32] x0)⟩] => if f0 = 0 then [((Nat.beq ((r132 x0).1) 0), vf ((r132 x0).2), ⟨[⟨true, (some (.tab [.fl .f32] x0))⟩], 1, []⟩)] else T28 132 args s
 | _, _ => T28 132 args s
noncomputable def T29 : CallF := addF T28 132 s132
set_option maxRecDepth 100000 in
set_option maxHeartbeats 4000000 in
theorem ok29 : CfOk Try.prog T29 := by
  refine cfOk_add ok28 fun args s r s' h1 h2 h3 => ?_
  unfold s132 at h3; split at h3
  · rename_i h; split at h3
    · rename_i hc; obtain ⟨rfl⟩ := hc; exact callOk ok28 Try.func132 h1 h2 h lok132_2.body (e132 _) rfl h3
    · exact ok28 _ _ _ _ _ h1 h2 h3
  · exact ok28 _ _ _ _ _ h1 h2 h3
end Go.Proofs.Ytmknfenjnladeaa
