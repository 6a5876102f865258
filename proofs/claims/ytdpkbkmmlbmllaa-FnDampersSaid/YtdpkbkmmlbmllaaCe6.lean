/- What the functions that the statements reach answer, part 6. -/
import Derived.Test.YtdpkbkmmlbmllaaCd5
import Derived.Test.YtdpkbkmmlbmllaaA34
namespace Go.Proofs.Ytdpkbkmmlbmllaa
open Go.Ab
set_option maxHeartbeats 4000000
set_option maxRecDepth 100000

/-- laws.f6big -/
noncomputable def r12 (x0 : List (List Int)) : Bool :=
 ((decide ((((x0.length : Nat) : Int) : Int) > 4096)))
noncomputable def a12 (x0 : List (List Int)) (p : Bool) : Res := firstT [(true, .bool p, ⟨[⟨false, (some (.tab [.int .u8] x0))⟩], 1, []⟩)]
noncomputable def w12 (x0 : List (List Int)) : Res :=
 (a12 x0 ((decide ((((x0.length : Nat) : Int) : Int) > 4096))))
set_option maxRecDepth 100000 in
set_option maxHeartbeats 4000000 in
theorem e12 (x0 : List (List Int)) : evFn Try.prog ext T76 noL 200 Try.f12 [wsl 0] ⟨[⟨false, (some (.tab [.int .u8] x0))⟩], 1, []⟩ = firstT [(true, .bool (r12 x0), ⟨[⟨false, (some (.tab [.int .u8] x0))⟩], 1, []⟩)] :=
 (show evFn Try.prog ext T76 noL 200 Try.f12 [wsl 0] ⟨[⟨false, (some (.tab [.int .u8] x0))⟩], 1, []⟩ = w12 x0 from by kernel_rfl).trans
 (show w12 x0 = a12 x0 (r12 x0) from by unfold w12 r12; exact rfl)
noncomputable def s12 (args : List Value) (s : St) : List (Bool × Value × St) :=
 match args, s.h with
 | [.iface f0 .nilIface], [⟨false, some (.tab [.int .u8] x0)⟩] => if f0 = 0 then [(true, .bool (r12 x0), ⟨[⟨false, (some (.tab [.int .u8] x0))⟩], 1, []⟩)] else T76 12 args s
 | _, _ => T76 12 args s
noncomputable def T77 : CallF := addF T76 12 s12
set_option maxRecDepth 100000 in
set_option maxHeartbeats 4000000 in
theorem ok77 : CfOk Try.prog T77 := by
  refine cfOk_add ok76 fun args s r s' h1 h2 h3 => ?_
  unfold s12 at h3; split at h3
  · rename_i h; split at h3
    · rename_i hc; obtain ⟨rfl⟩ := hc; exact callOk ok76 Try.func12 h1 h2 h (lfOkF_no _ _).body (e12 _) rfl h3
    · exact ok76 _ _ _ _ _ h1 h2 h3
  · exact ok76 _ _ _ _ _ h1 h2 h3

/-- spec.l00From -/
noncomputable def r52 (x0 : List (List Int)) : Int × Int :=
 (0, 0)
noncomputable def a52 (x0 : List (List Int)) (p : Int × Int) : Res := firstT [(true, .pointer (some ⟨1, 0, some 0⟩), ⟨[⟨false, (some (.tab [.int .u8] x0))⟩, ⟨true, (some (.cells [wsl 0, .int .i64 (p.1), .int .u64 (p.2)]))⟩], 1, []⟩)]
noncomputable def w52 (x0 : List (List Int)) : Res :=
 (a52 x0 (0, 0))
set_option maxRecDepth 100000 in
set_option maxHeartbeats 4000000 in
theorem e52 (x0 : List (List Int)) : evFn Try.prog ext T77 noL 200 Try.f52 [wsl 0] ⟨[⟨false, (some (.tab [.int .u8] x0))⟩], 1, []⟩ = firstT [(true, .pointer (some ⟨1, 0, some 0⟩), ⟨[⟨false, (some (.tab [.int .u8] x0))⟩, ⟨true, (some (.cells [wsl 0, .int .i64 ((r52 x0).1), .int .u64 ((r52 x0).2)]))⟩], 1, []⟩)] :=
 (show evFn Try.prog ext T77 noL 200 Try.f52 [wsl 0] ⟨[⟨false, (some (.tab [.int .u8] x0))⟩], 1, []⟩ = w52 x0 from by kernel_rfl).trans
 (show w52 x0 = a52 x0 (r52 x0) from by unfold w52 r52; exact rfl)
noncomputable def s52 (args : List Value) (s : St) : List (Bool × Value × St) :=
 match args, s.h with
 | [.iface f0 .nilIface], [⟨false, some (.tab [.int .u8] x0)⟩] => if f0 = 0 then [(true, .pointer (some ⟨1, 0, some 0⟩), ⟨[⟨false, (some (.tab [.int .u8] x0))⟩, ⟨true, (some (.cells [wsl 0, .int .i64 ((r52 x0).1), .int .u64 ((r52 x0).2)]))⟩], 1, []⟩)] else T77 52 args s
 | _, _ => T77 52 args s
noncomputable def T78 : CallF := addF T77 52 s52
set_option maxRecDepth 100000 in
set_option maxHeartbeats 4000000 in
theorem ok78 : CfOk Try.prog T78 := by
  refine cfOk_add ok77 fun args s r s' h1 h2 h3 => ?_
  unfold s52 at h3; split at h3
  · rename_i h; split at h3
    · rename_i hc; obtain ⟨rfl⟩ := hc; exact callOk ok77 Try.func52 h1 h2 h (lfOkF_no _ _).body (e52 _) rfl h3
    · exact ok77 _ _ _ _ _ h1 h2 h3
  · exact ok77 _ _ _ _ _ h1 h2 h3

/-- (*spec.l00Src).next -/
noncomputable def r90 (x0 x1 : Int) (x2 : List (List Int)) : Nat × Int × Int × Int :=
 cond (decide ((x0 : Int) < ((x2.length : Nat) : Int)))
  (cond ((decide ((0 : Int) ≤ x0)) && (Nat.blt (Int.toNat x0) x2.length))
   (cond (decide (((IntKind.i64.wrap (x0 + 1)) : Int) ≤ ((x2.length : Nat) : Int)))
    (0, (IntKind.i64.wrap ((x2.getD (Int.toNat x0) []).getD 0 0)), (IntKind.i64.wrap (x0 + 1)), (IntKind.u64.wrap ((IntKind.u64.wrap ((IntKind.u64.wrap (x1 * 6364136223846793005)) + (IntKind.u64.wrap (IntKind.i64.wrap ((x2.getD (Int.toNat x0) []).getD 0 0))))) + 1442695040888963407)))
    (0, (IntKind.i64.wrap (bits .and .u64 (Int.fdiv (IntKind.u64.wrap ((IntKind.u64.wrap ((IntKind.u64.wrap (x1 * 6364136223846793005)) + (IntKind.u64.wrap (IntKind.i64.wrap ((x2.getD (Int.toNat x0) []).getD 0 0))))) + 1442695040888963407)) (2 ^ (min (40 : Int).toNat (IntKind.bits .u64)))) 255)), (IntKind.i64.wrap (x0 + 1)), (IntKind.u64.wrap ((IntKind.u64.wrap ((IntKind.u64.wrap (x1 * 6364136223846793005)) + (IntKind.u64.wrap (IntKind.i64.wrap ((x2.getD (Int.toNat x0) []).getD 0 0))))) + 1442695040888963407))))
   (1, 0, 0, 0))
  (cond (decide (((IntKind.i64.wrap (x0 + 1)) : Int) ≤ ((x2.length : Nat) : Int)))
   (0, 0, (IntKind.i64.wrap (x0 + 1)), (IntKind.u64.wrap ((IntKind.u64.wrap ((IntKind.u64.wrap (x1 * 6364136223846793005)) + 0)) + 1442695040888963407)))
   (0, (IntKind.i64.wrap (bits .and .u64 (Int.fdiv (IntKind.u64.wrap ((IntKind.u64.wrap ((IntKind.u64.wrap (x1 * 6364136223846793005)) + 0)) + 1442695040888963407)) (2 ^ (min (40 : Int).toNat (IntKind.bits .u64)))) 255)), (IntKind.i64.wrap (x0 + 1)), (IntKind.u64.wrap ((IntKind.u64.wrap ((IntKind.u64.wrap (x1 * 6364136223846793005)) + 0)) + 1442695040888963407))))
noncomputable def a90 (x0 x1 : Int) (x2 : List (List Int)) (p : Nat × Int × Int × Int) : Res := firstT [((Nat.beq (p.1) 0), .int .i64 (p.2.1), ⟨[⟨true, (some (.cells [wsl 1, .int .i64 (p.2.2.1), .int .u64 (p.2.2.2)]))⟩, ⟨false, (some (.tab [.int .u8] x2))⟩], 2, [0]⟩)]
noncomputable def w90 (x0 x1 : Int) (x2 : List (List Int)) : Res :=
 (cond (decide ((x0 : Int) < ((x2.length : Nat) : Int)))
 (cond ((decide ((0 : Int) ≤ x0)) && (Nat.blt (Int.toNat x0) x2.length))
  (cond (Nat.blt (Int.toNat x0) x2.length)
   (cond (decide (((IntKind.i64.wrap (x0 + 1)) : Int) ≤ ((x2.length : Nat) : Int)))
    (a90 x0 x1 x2 (0, (IntKind.i64.wrap ((x2.getD (Int.toNat x0) []).getD 0 0)), (IntKind.i64.wrap (x0 + 1)), (IntKind.u64.wrap ((IntKind.u64.wrap ((IntKind.u64.wrap (x1 * 6364136223846793005)) + (IntKind.u64.wrap (IntKind.i64.wrap ((x2.getD (Int.toNat x0) []).getD 0 0))))) + 1442695040888963407))))
    (a90 x0 x1 x2 (0, (IntKind.i64.wrap (bits .and .u64 (Int.fdiv (IntKind.u64.wrap ((IntKind.u64.wrap ((IntKind.u64.wrap (x1 * 6364136223846793005)) + (IntKind.u64.wrap (IntKind.i64.wrap ((x2.getD (Int.toNat x0) []).getD 0 0))))) + 1442695040888963407)) (2 ^ (min (40 : Int).toNat (IntKind.bits .u64)))) 255)), (IntKind.i64.wrap (x0 + 1)), (IntKind.u64.wrap ((IntKind.u64.wrap ((IntKind.u64.wrap (x1 * 6364136223846793005)) + (IntKind.u64.wrap (IntKind.i64.wrap ((x2.getD (Int.toNat x0) []).getD 0 0))))) + 1442695040888963407)))))
   none)
  none)
 (cond (decide (((IntKind.i64.wrap (x0 + 1)) : Int) ≤ ((x2.length : Nat) : Int)))
  (a90 x0 x1 x2 (0, 0, (IntKind.i64.wrap (x0 + 1)), (IntKind.u64.wrap ((IntKind.u64.wrap ((IntKind.u64.wrap (x1 * 6364136223846793005)) + 0)) + 1442695040888963407))))
  (a90 x0 x1 x2 (0, (IntKind.i64.wrap (bits .and .u64 (Int.fdiv (IntKind.u64.wrap ((IntKind.u64.wrap ((IntKind.u64.wrap (x1 * 6364136223846793005)) + 0)) + 1442695040888963407)) (2 ^ (min (40 : Int).toNat (IntKind.bits .u64)))) 255)), (IntKind.i64.wrap (x0 + 1)), (IntKind.u64.wrap ((IntKind.u64.wrap ((IntKind.u64.wrap (x1 * 6364136223846793005)) + 0)) + 1442695040888963407))))))
set_option maxRecDepth 100000 in
set_option maxHeartbeats 4000000 in
theorem e90 (x0 x1 : Int) (x2 : List (List Int)) : evFn Try.prog ext T78 noL 200 Try.f90 [.pointer (some ⟨0, 0, some 0⟩)] ⟨[⟨true, (some (.cells [wsl 1, .int .i64 x0, .int .u64 x1]))⟩, ⟨false, (some (.tab [.int .u8] x2))⟩], 2, []⟩ = firstT [((Nat.beq ((r90 x0 x1 x2).1) 0), .int .i64 ((r90 x0 x1 x2).2.1), ⟨[⟨true, (some (.cells [wsl 1, .int .i64 ((r90 x0 x1 x2).2.2.1), .int .u64 ((r90 x0 x1 x2).2.2.2)]))⟩, ⟨false, (some (.tab [.int .u8] x2))⟩], 2, [0]⟩)] :=
 (show evFn Try.prog ext T78 noL 200 Try.f90 [.pointer (some ⟨0, 0, some 0⟩)] ⟨[⟨true, (some (.cells [wsl 1, .int .i64 x0, .int .u64 x1]))⟩, ⟨false, (some (.tab [.int .u8] x2))⟩], 2, []⟩ = w90 x0 x1 x2 from by kernel_rfl).trans
 (show w90 x0 x1 x2 = a90 x0 x1 x2 (r90 x0 x1 x2) from by unfold w90 r90; exact (cond_both (a90 x0 x1 x2) _ (fun h0 => (cond_both (a90 x0 x1 x2) _ (fun h1 => (cond_t (ev_and2 h1) (cond_app (a90 x0 x1 x2) _ rfl rfl))) (fun h1 => rfl))) (fun h0 => (cond_app (a90 x0 x1 x2) _ rfl rfl))))
noncomputable def s90 (args : List Value) (s : St) : List (Bool × Value × St) :=
 match args, s.h with
 | [.pointer (some ⟨f0, f1, some f2⟩)], [⟨true, some (.cells [.iface f3 .nilIface, .int .i64 x0, .int .u64 x1])⟩, ⟨false, some (.tab [.int .u8] x2)⟩] => if f0 = 0 ∧ f1 = 0 ∧ f2 = 0 ∧ f3 = 1 then [((Nat.beq ((r90 x0 x1 x2).1) 0), .int .i64 ((r90 x0 x1 x2).2.1), ⟨[⟨true, (some (.cells [wsl 1, .int .i64 ((r90 x0 x1 x2).2.2.1), .int .u64 ((r90 x0 x1 x2).2.2.2)]))⟩, ⟨false, (some (.tab [.int .u8] x2))⟩], 2, [0]⟩)] else T78 90 args s
 | _, _ => T78 90 args s
noncomputable def T79 : CallF := addF T78 90 s90
set_option maxRecDepth 100000 in
set_option maxHeartbeats 4000000 in
theorem ok79 : CfOk Try.prog T79 := by
  refine cfOk_add ok78 fun args s r s' h1 h2 h3 => ?_
  unfold s90 at h3; split at h3
  · rename_i h; split at h3
    · rename_i hc; obtain ⟨rfl, rfl, rfl, rfl⟩ := hc; exact callOk ok78 Try.func90 h1 h2 h (lfOkF_no _ _).body (e90 _ _ _) rfl h3
    · exact ok78 _ _ _ _ _ h1 h2 h3
  · exact ok78 _ _ _ _ _ h1 h2 h3

/-- (*spec.l00Src).pick -/
noncomputable def r53 (x0 x1 x2 : Int) (x3 : List (List Int)) : Nat × Int × Int × Int :=
 cond (decide ((x0 : Int) ≤ 1))
  (0, 0, x1, x2)
  (cond (Nat.beq ((r90 x1 x2 x3).1) 0)
   (cond (decide ((x0 : Int) > 200))
    (cond (Nat.beq ((r90 ((r90 x1 x2 x3).2.2.1) ((r90 x1 x2 x3).2.2.2) x3).1) 0)
     (cond (!decide (x0 = 0))
      (0, (Int.tmod (IntKind.i64.wrap ((IntKind.i64.wrap (((r90 x1 x2 x3).2.1) * 256)) + ((r90 ((r90 x1 x2 x3).2.2.1) ((r90 x1 x2 x3).2.2.2) x3).2.1))) x0), ((r90 ((r90 x1 x2 x3).2.2.1) ((r90 x1 x2 x3).2.2.2) x3).2.2.1), ((r90 ((r90 x1 x2 x3).2.2.1) ((r90 x1 x2 x3).2.2.2) x3).2.2.2))
      (1, 0, 0, 0))
     (1, 0, 0, 0))
    (cond (!decide (x0 = 0))
     (0, (Int.tmod ((r90 x1 x2 x3).2.1) x0), ((r90 x1 x2 x3).2.2.1), ((r90 x1 x2 x3).2.2.2))
     (1, 0, 0, 0)))
   (1, 0, 0, 0))
noncomputable def a53 (x0 x1 x2 : Int) (x3 : List (List Int)) (p : Nat × Int × Int × Int) : Res := firstT [((Nat.beq (p.1) 0), .int .i64 (p.2.1), ⟨[⟨true, (some (.cells [wsl 1, .int .i64 (p.2.2.1), .int .u64 (p.2.2.2)]))⟩, ⟨false, (some (.tab [.int .u8] x3))⟩], 2, [0]⟩)]
noncomputable def w53 (x0 x1 x2 : Int) (x3 : List (List Int)) : Res :=
 (cond (decide ((x0 : Int) ≤ 1))
 (a53 x0 x1 x2 x3 (0, 0, x1, x2))
 (cond (Nat.beq ((r90 x1 x2 x3).1) 0)
  (cond (decide ((x0 : Int) > 200))
   (cond (Nat.beq ((r90 ((r90 x1 x2 x3).2.2.1) ((r90 x1 x2 x3).2.2.2) x3).1) 0)
    (cond (!decide (x0 = 0))
     (a53 x0 x1 x2 x3 (0, (Int.tmod (IntKind.i64.wrap ((IntKind.i64.wrap (((r90 x1 x2 x3).2.1) * 256)) + ((r90 ((r90 x1 x2 x3).2.2.1) ((r90 x1 x2 x3).2.2.2) x3).2.1))) x0), ((r90 ((r90 x1 x2 x3).2.2.1) ((r90 x1 x2 x3).2.2.2) x3).2.2.1), ((r90 ((r90 x1 x2 x3).2.2.1) ((r90 x1 x2 x3).2.2.2) x3).2.2.2)))
     none)
    none)
   (cond (!decide (x0 = 0))
    (a53 x0 x1 x2 x3 (0, (Int.tmod ((r90 x1 x2 x3).2.1) x0), ((r90 x1 x2 x3).2.2.1), ((r90 x1 x2 x3).2.2.2)))
    none))
  none))
set_option maxRecDepth 100000 in
set_option maxHeartbeats 4000000 in
theorem e53 (x0 x1 x2 : Int) (x3 : List (List Int)) : evFnW Try.prog ext T79 noL 200 [0] Try.f53 [.pointer (some ⟨0, 0, some 0⟩), .int .i64 x0] ⟨[⟨true, (some (.cells [wsl 1, .int .i64 x1, .int .u64 x2]))⟩, ⟨false, (some (.tab [.int .u8] x3))⟩], 2, []⟩ = firstT [((Nat.beq ((r53 x0 x1 x2 x3).1) 0), .int .i64 ((r53 x0 x1 x2 x3).2.1), ⟨[⟨true, (some (.cells [wsl 1, .int .i64 ((r53 x0 x1 x2 x3).2.2.1), .int .u64 ((r53 x0 x1 x2 x3).2.2.2)]))⟩, ⟨false, (some (.tab [.int .u8] x3))⟩], 2, [0]⟩)] :=
 (show evFnW Try.prog ext T79 noL 200 [0] Try.f53 [.pointer (some ⟨0, 0, some 0⟩), .int .i64 x0] ⟨[⟨true, (some (.cells [wsl 1, .int .i64 x1, .int .u64 x2]))⟩, ⟨false, (some (.tab [.int .u8] x3))⟩], 2, []⟩ = w53 x0 x1 x2 x3 from by kernel_rfl).trans
 (show w53 x0 x1 x2 x3 = a53 x0 x1 x2 x3 (r53 x0 x1 x2 x3) from by unfold w53 r53; exact (cond_app (a53 x0 x1 x2 x3) _ rfl (cond_app (a53 x0 x1 x2 x3) _ (cond_app (a53 x0 x1 x2 x3) _ (cond_app (a53 x0 x1 x2 x3) _ (cond_app (a53 x0 x1 x2 x3) _ rfl rfl) rfl) (cond_app (a53 x0 x1 x2 x3) _ rfl rfl)) rfl)))
noncomputable def s53 (args : List Value) (s : St) : List (Bool × Value × St) :=
 match args, s.h with
 | [.pointer (some ⟨f0, f1, some f2⟩), .int .i64 x0], [⟨true, some (.cells [.iface f3 .nilIface, .int .i64 x1, .int .u64 x2])⟩, ⟨false, some (.tab [.int .u8] x3)⟩] => if f0 = 0 ∧ f1 = 0 ∧ f2 = 0 ∧ f3 = 1 then [((Nat.beq ((r53 x0 x1 x2 x3).1) 0), .int .i64 ((r53 x0 x1 x2 x3).2.1), ⟨[⟨true, (some (.cells [wsl 1, .int .i64 ((r53 x0 x1 x2 x3).2.2.1), .int .u64 ((r53 x0 x1 x2 x3).2.2.2)]))⟩, ⟨false, (some (.tab [.int .u8] x3))⟩], 2, [0]⟩)] else T79 53 args s
 | _, _ => T79 53 args s
noncomputable def T80 : CallF := addF T79 53 s53
set_option maxRecDepth 100000 in
set_option maxHeartbeats 4000000 in
theorem ok80 : CfOk Try.prog T80 := by
  refine cfOk_add ok79 fun args s r s' h1 h2 h3 => ?_
  unfold s53 at h3; split at h3
  · rename_i h; split at h3
    · rename_i hc; obtain ⟨rfl, rfl, rfl, rfl⟩ := hc; exact call_okW extOk mixed ok79 Try.func53 h1 h2 h (lfOkF_no _ _).body (e53 _ _ _ _) rfl h3
    · exact ok79 _ _ _ _ _ h1 h2 h3
  · exact ok79 _ _ _ _ _ h1 h2 h3

/-- spec.l03FlueDrawn -/
noncomputable def r88 (x0 x1 : Int) (x2 : List (List Int)) : Nat × Nat × Nat × Nat × Nat × Int × Int × Int :=
 let c497 := (r53 300 ((r53 16 ((r53 32 x0 x1 x2).2.2.1) ((r53 32 x0 x1 x2).2.2.2) x2).2.2.1) ((r53 16 ((r53 32 x0 x1 x2).2.2.1) ((r53 32 x0 x1 x2).2.2.2) x2).2.2.2) x2)
 cond (Nat.beq ((r53 32 x0 x1 x2).1) 0)
  (cond (Nat.beq ((r53 16 ((r53 32 x0 x1 x2).2.2.1) ((r53 32 x0 x1 x2).2.2.2) x2).1) 0)
   (cond (Nat.beq (c497.1) 0)
    (cond (Nat.beq ((r53 9 (c497.2.2.1) (c497.2.2.2) x2).1) 0)
     (0, (fdiv .f32 (ofInt .f32 (IntKind.i64.wrap (1 + ((r53 32 x0 x1 x2).2.1)))) 1082130432), (fdiv .f32 (ofInt .f32 (IntKind.i64.wrap (1 + ((r53 16 ((r53 32 x0 x1 x2).2.2.1) ((r53 32 x0 x1 x2).2.2.2) x2).2.1)))) 1098907648), (ofInt .f32 (IntKind.i64.wrap ((c497.2.1) - 10))), (fdiv .f32 (ofInt .f32 ((r53 9 (c497.2.2.1) (c497.2.2.2) x2).2.1)) 1090519040), (-1), ((r53 9 (c497.2.2.1) (c497.2.2.2) x2).2.2.1), ((r53 9 (c497.2.2.1) (c497.2.2.2) x2).2.2.2))
     (1, 0, 0, 0, 0, 0, 0, 0))
    (1, 0, 0, 0, 0, 0, 0, 0))
   (1, 0, 0, 0, 0, 0, 0, 0))
  (1, 0, 0, 0, 0, 0, 0, 0)
noncomputable def a88 (x0 x1 : Int) (x2 : List (List Int)) (p : Nat × Nat × Nat × Nat × Nat × Int × Int × Int) : Res := firstT [((Nat.beq (p.1) 0), .agg #[.float .f32 (p.2.1), .float .f32 (p.2.2.1), .float .f32 (p.2.2.2.1), .float .f32 (p.2.2.2.2.1), .int .i64 (p.2.2.2.2.2.1)], ⟨[⟨true, (some (.cells [wsl 1, .int .i64 (p.2.2.2.2.2.2.1), .int .u64 (p.2.2.2.2.2.2.2)]))⟩, ⟨false, (some (.tab [.int .u8] x2))⟩], 2, [0]⟩)]
noncomputable def w88 (x0 x1 : Int) (x2 : List (List Int)) : Res :=
 let c497 := (r53 300 ((r53 16 ((r53 32 x0 x1 x2).2.2.1) ((r53 32 x0 x1 x2).2.2.2) x2).2.2.1) ((r53 16 ((r53 32 x0 x1 x2).2.2.1) ((r53 32 x0 x1 x2).2.2.2) x2).2.2.2) x2)
 (cond (Nat.beq ((r53 32 x0 x1 x2).1) 0)
 (cond (Nat.beq ((r53 16 ((r53 32 x0 x1 x2).2.2.1) ((r53 32 x0 x1 x2).2.2.2) x2).1) 0)
  (cond (Nat.beq (c497.1) 0)
   (cond (Nat.beq ((r53 9 (c497.2.2.1) (c497.2.2.2) x2).1) 0)
    (a88 x0 x1 x2 (0, (fdiv .f32 (ofInt .f32 (IntKind.i64.wrap (1 + ((r53 32 x0 x1 x2).2.1)))) 1082130432), (fdiv .f32 (ofInt .f32 (IntKind.i64.wrap (1 + ((r53 16 ((r53 32 x0 x1 x2).2.2.1) ((r53 32 x0 x1 x2).2.2.2) x2).2.1)))) 1098907648), (ofInt .f32 (IntKind.i64.wrap ((c497.2.1) - 10))), (fdiv .f32 (ofInt .f32 ((r53 9 (c497.2.2.1) (c497.2.2.2) x2).2.1)) 1090519040), (-1), ((r53 9 (c497.2.2.1) (c497.2.2.2) x2).2.2.1), ((r53 9 (c497.2.2.1) (c497.2.2.2) x2).2.2.2)))
    none)
   none)
  none)
 none)
set_option maxRecDepth 100000 in
set_option maxHeartbeats 4000000 in
theorem e88 (x0 x1 : Int) (x2 : List (List Int)) : evFn Try.prog ext T80 noL 200 Try.f88 [.pointer (some ⟨0, 0, some 0⟩)] ⟨[⟨true, (some (.cells [wsl 1, .int .i64 x0, .int .u64 x1]))⟩, ⟨false, (some (.tab [.int .u8] x2))⟩], 2, []⟩ = firstT [((Nat.beq ((r88 x0 x1 x2).1) 0), .agg #[.float .f32 ((r88 x0 x1 x2).2.1), .float .f32 ((r88 x0 x1 x2).2.2.1), .float .f32 ((r88 x0 x1 x2).2.2.2.1), .float .f32 ((r88 x0 x1 x2).2.2.2.2.1), .int .i64 ((r88 x0 x1 x2).2.2.2.2.2.1)], ⟨[⟨true, (some (.cells [wsl 1, .int .i64 ((r88 x0 x1 x2).2.2.2.2.2.2.1), .int .u64 ((r88 x0 x1 x2).2.2.2.2.2.2.2)]))⟩, ⟨false, (some (.tab [.int .u8] x2))⟩], 2, [0]⟩)] :=
 (show evFn Try.prog ext T80 noL 200 Try.f88 [.pointer (some ⟨0, 0, some 0⟩)] ⟨[⟨true, (some (.cells [wsl 1, .int .i64 x0, .int .u64 x1]))⟩, ⟨false, (some (.tab [.int .u8] x2))⟩], 2, []⟩ = w88 x0 x1 x2 from by kernel_rfl).trans
 (show w88 x0 x1 x2 = a88 x0 x1 x2 (r88 x0 x1 x2) from by unfold w88 r88; exact (cond_app (a88 x0 x1 x2) _ (cond_app (a88 x0 x1 x2) _ (cond_app (a88 x0 x1 x2) _ (cond_app (a88 x0 x1 x2) _ rfl rfl) rfl) rfl) rfl))
noncomputable def s88 (args : List Value) (s : St) : List (Bool × Value × St) :=
 match args, s.h with
 | [.pointer (some ⟨f0, f1, some f2⟩)], [⟨true, some (.cells [.iface f3 .nilIface, .int .i64 x0, .int .u64 x1])⟩, ⟨false, some (.tab [.int .u8] x2)⟩] => if f0 = 0 ∧ f1 = 0 ∧ f2 = 0 ∧ f3 = 1 then [((Nat.beq ((r88 x0 x1 x2).1) 0), .agg #[.float .f32 ((r88 x0 x1 x2).2.1), .float .f32 ((r88 x0 x1 x2).2.2.1), .float .f32 ((r88 x0 x1 x2).2.2.2.1), .float .f32 ((r88 x0 x1 x2).2.2.2.2.1), .int .i64 ((r88 x0 x1 x2).2.2.2.2.2.1)], ⟨[⟨true, (some (.cells [wsl 1, .int .i64 ((r88 x0 x1 x2).2.2.2.2.2.2.1), .int .u64 ((r88 x0 x1 x2).2.2.2.2.2.2.2)]))⟩, ⟨false, (some (.tab [.int .u8] x2))⟩], 2, [0]⟩)] else T80 88 args s
 | _, _ => T80 88 args s
noncomputable def T81 : CallF := addF T80 88 s88
set_option maxRecDepth 100000 in
set_option maxHeartbeats 4000000 in
theorem ok81 : CfOk Try.prog T81 := by
  refine cfOk_add ok80 fun args s r s' h1 h2 h3 => ?_
  unfold s88 at h3; split at h3
  · rename_i h; split at h3
    · rename_i hc; obtain ⟨rfl, rfl, rfl, rfl⟩ := hc; exact callOk ok80 Try.func88 h1 h2 h (lfOkF_no _ _).body (e88 _ _ _) rfl h3
    · exact ok80 _ _ _ _ _ h1 h2 h3
  · exact ok80 _ _ _ _ _ h1 h2 h3

/-- spec.l03Drawn, loop 0: one round -/
noncomputable def b51l0 (ih : Int → Int → Int → List (List Int) → List (List Int) → (Nat × Int × Int × List (List Int))) (x0 x1 x2 : Int) (x3 x4 : List (List Int)) : Nat × Int × Int × List (List Int) :=
 cond (decide ((x0 : Int) > 0))
  (cond (Nat.beq ((r88 x1 x2 x4).1) 0)
   (cond (Nat.ble ((x3.length + 1) * 25) 140737488355328)
    (cond (Nat.beq ((ih (IntKind.i64.wrap (x0 - 1)) ((r88 x1 x2 x4).2.2.2.2.2.2.1) ((r88 x1 x2 x4).2.2.2.2.2.2.2) (((x3.drop 0).take x3.length) ++ ([[((((r88 x1 x2 x4).2.1) : Nat) : Int), ((((r88 x1 x2 x4).2.2.1) : Nat) : Int), ((((r88 x1 x2 x4).2.2.2.1) : Nat) : Int), ((((r88 x1 x2 x4).2.2.2.2.1) : Nat) : Int), ((r88 x1 x2 x4).2.2.2.2.2.1)]] : List (List Int))) x4).1) 0)
     (0, ((ih (IntKind.i64.wrap (x0 - 1)) ((r88 x1 x2 x4).2.2.2.2.2.2.1) ((r88 x1 x2 x4).2.2.2.2.2.2.2) (((x3.drop 0).take x3.length) ++ ([[((((r88 x1 x2 x4).2.1) : Nat) : Int), ((((r88 x1 x2 x4).2.2.1) : Nat) : Int), ((((r88 x1 x2 x4).2.2.2.1) : Nat) : Int), ((((r88 x1 x2 x4).2.2.2.2.1) : Nat) : Int), ((r88 x1 x2 x4).2.2.2.2.2.1)]] : List (List Int))) x4).2.1), ((ih (IntKind.i64.wrap (x0 - 1)) ((r88 x1 x2 x4).2.2.2.2.2.2.1) ((r88 x1 x2 x4).2.2.2.2.2.2.2) (((x3.drop 0).take x3.length) ++ ([[((((r88 x1 x2 x4).2.1) : Nat) : Int), ((((r88 x1 x2 x4).2.2.1) : Nat) : Int), ((((r88 x1 x2 x4).2.2.2.1) : Nat) : Int), ((((r88 x1 x2 x4).2.2.2.2.1) : Nat) : Int), ((r88 x1 x2 x4).2.2.2.2.2.1)]] : List (List Int))) x4).2.2.1), ((ih (IntKind.i64.wrap (x0 - 1)) ((r88 x1 x2 x4).2.2.2.2.2.2.1) ((r88 x1 x2 x4).2.2.2.2.2.2.2) (((x3.drop 0).take x3.length) ++ ([[((((r88 x1 x2 x4).2.1) : Nat) : Int), ((((r88 x1 x2 x4).2.2.1) : Nat) : Int), ((((r88 x1 x2 x4).2.2.2.1) : Nat) : Int), ((((r88 x1 x2 x4).2.2.2.2.1) : Nat) : Int), ((r88 x1 x2 x4).2.2.2.2.2.1)]] : List (List Int))) x4).2.2.2))
     (cond (Nat.beq ((ih (IntKind.i64.wrap (x0 - 1)) ((r88 x1 x2 x4).2.2.2.2.2.2.1) ((r88 x1 x2 x4).2.2.2.2.2.2.2) (((x3.drop 0).take x3.length) ++ ([[((((r88 x1 x2 x4).2.1) : Nat) : Int), ((((r88 x1 x2 x4).2.2.1) : Nat) : Int), ((((r88 x1 x2 x4).2.2.2.1) : Nat) : Int), ((((r88 x1 x2 x4).2.2.2.2.1) : Nat) : Int), ((r88 x1 x2 x4).2.2.2.2.2.1)]] : List (List Int))) x4).1) 1)
      (0, ((r88 x1 x2 x4).2.2.2.2.2.2.1), ((r88 x1 x2 x4).2.2.2.2.2.2.2), (((x3.drop 0).take x3.length) ++ ([[((((r88 x1 x2 x4).2.1) : Nat) : Int), ((((r88 x1 x2 x4).2.2.1) : Nat) : Int), ((((r88 x1 x2 x4).2.2.2.1) : Nat) : Int), ((((r88 x1 x2 x4).2.2.2.2.1) : Nat) : Int), ((r88 x1 x2 x4).2.2.2.2.2.1)]] : List (List Int))))
      (2, 0, 0, [])))
    (2, 0, 0, []))
   (2, 0, 0, []))
  (1, 0, 0, [])
noncomputable def r51l0 : Nat → Int → Int → Int → List (List Int) → List (List Int) → (Nat × Int × Int × List (List Int))
 | 0 => fun _ _ _ _ _ => (2, 0, 0, [])
 | m + 1 => b51l0 (r51l0 m)
noncomputable def a51l0 (x0 x1 x2 : Int) (x3 x4 : List (List Int)) (p : Nat × Int × Int × List (List Int)) : Option (Fin' × List Value × St) := firstT ([((Nat.beq (p.1) 0), .exit 0, [.pointer (some ⟨0, 0, some 0⟩), wsl 3], ⟨[⟨true, (some (.cells [wsl 2, .int .i64 (p.2.1), .int .u64 (p.2.2.1)]))⟩, ⟨true, none⟩, ⟨false, (some (.tab [.int .u8] x4))⟩, ⟨true, (some (.tab sc0 (p.2.2.2)))⟩], 3, [0, 1]⟩), ((Nat.beq (p.1) 1), .exit 0, [.pointer (some ⟨0, 0, some 0⟩), wsl 1], ⟨[⟨true, (some (.cells [wsl 2, .int .i64 x1, .int .u64 x2]))⟩, ⟨true, (some (.tab sc0 x3))⟩, ⟨false, (some (.tab [.int .u8] x4))⟩], 3, [0, 1]⟩)].map fun (b, x) => (b, (x.1, frameOf 45 [0, 3] x.2.1, x.2.2)))
noncomputable def u51l0 (x0 x1 x2 : Int) (x3 x4 : List (List Int)) (p : Nat × Int × Int × List (List Int)) : Option (Fin' × List Value × St) := alts ([((Nat.beq (p.1) 0), .exit 0, [.pointer (some ⟨0, 0, some 0⟩), wsl 3], ⟨[⟨true, (some (.cells [wsl 2, .int .i64 (p.2.1), .int .u64 (p.2.2.1)]))⟩, ⟨true, none⟩, ⟨false, (some (.tab [.int .u8] x4))⟩, ⟨true, (some (.tab sc0 (p.2.2.2)))⟩], 3, [0, 1]⟩), ((Nat.beq (p.1) 1), .exit 0, [.pointer (some ⟨0, 0, some 0⟩), wsl 1], ⟨[⟨true, (some (.cells [wsl 2, .int .i64 x1, .int .u64 x2]))⟩, ⟨true, (some (.tab sc0 x3))⟩, ⟨false, (some (.tab [.int .u8] x4))⟩], 3, [0, 1]⟩)].map fun (b, x) => (b, (x.1, frameOf 45 [0, 3] x.2.1, x.2.2))) some
theorem v51l0 (x0 x1 x2 : Int) (x3 x4 : List (List Int)) (p : Nat × Int × Int × List (List Int)) : u51l0 x0 x1 x2 x3 x4 p = a51l0 x0 x1 x2 x3 x4 p := alts_first _
noncomputable def q51l0 (m : Nat) : SumK := fun vals s =>
 match vals, s.h with
 | [.pointer (some ⟨f0, f1, some f2⟩), .iface f3 .nilIface, .int .i64 x0], [⟨true, some (.cells [.iface f4 .nilIface, .int .i64 x1, .int .u64 x2])⟩, ⟨true, some (.tab [.fl .f32, .fl .f32, .fl .f32, .fl .f32, .int .i64] x3)⟩, ⟨false, some (.tab [.int .u8] x4)⟩] => if f0 = 0 ∧ f1 = 0 ∧ f2 = 0 ∧ f3 = 1 ∧ f4 = 2 then [((Nat.beq ((r51l0 m x0 x1 x2 x3 x4).1) 0), .exit 0, [.pointer (some ⟨0, 0, some 0⟩), wsl 3], ⟨[⟨true, (some (.cells [wsl 2, .int .i64 ((r51l0 m x0 x1 x2 x3 x4).2.1), .int .u64 ((r51l0 m x0 x1 x2 x3 x4).2.2.1)]))⟩, ⟨true, none⟩, ⟨false, (some (.tab [.int .u8] x4))⟩, ⟨true, (some (.tab sc0 ((r51l0 m x0 x1 x2 x3 x4).2.2.2)))⟩], 3, [0, 1]⟩), ((Nat.beq ((r51l0 m x0 x1 x2 x3 x4).1) 1), .exit 0, [.pointer (some ⟨0, 0, some 0⟩), wsl 1], ⟨[⟨true, (some (.cells [wsl 2, .int .i64 x1, .int .u64 x2]))⟩, ⟨true, (some (.tab sc0 x3))⟩, ⟨false, (some (.tab [.int .u8] x4))⟩], 3, [0, 1]⟩)] else noQ vals s
 | _, _ => noQ vals s
noncomputable def w51l0 (ih : Int → Int → Int → List (List Int) → List (List Int) → (Nat × Int × Int × List (List Int))) (x0 x1 x2 : Int) (x3 x4 : List (List Int)) : Option (Fin' × List Value × St) :=
 (cond (decide ((x0 : Int) > 0))
 (cond (Nat.beq ((r88 x1 x2 x4).1) 0)
  (cond (Nat.ble ((x3.length + 1) * 25) 140737488355328)
   (cond (Nat.beq ((ih (IntKind.i64.wrap (x0 - 1)) ((r88 x1 x2 x4).2.2.2.2.2.2.1) ((r88 x1 x2 x4).2.2.2.2.2.2.2) (((x3.drop 0).take x3.length) ++ ([[((((r88 x1 x2 x4).2.1) : Nat) : Int), ((((r88 x1 x2 x4).2.2.1) : Nat) : Int), ((((r88 x1 x2 x4).2.2.2.1) : Nat) : Int), ((((r88 x1 x2 x4).2.2.2.2.1) : Nat) : Int), ((r88 x1 x2 x4).2.2.2.2.2.1)]] : List (List Int))) x4).1) 0)
    (a51l0 x0 x1 x2 x3 x4 (0, ((ih (IntKind.i64.wrap (x0 - 1)) ((r88 x1 x2 x4).2.2.2.2.2.2.1) ((r88 x1 x2 x4).2.2.2.2.2.2.2) (((x3.drop 0).take x3.length) ++ ([[((((r88 x1 x2 x4).2.1) : Nat) : Int), ((((r88 x1 x2 x4).2.2.1) : Nat) : Int), ((((r88 x1 x2 x4).2.2.2.1) : Nat) : Int), ((((r88 x1 x2 x4).2.2.2.2.1) : Nat) : Int), ((r88 x1 x2 x4).2.2.2.2.2.1)]] : List (List Int))) x4).2.1), ((ih (IntKind.i64.wrap (x0 - 1)) ((r88 x1 x2 x4).2.2.2.2.2.2.1) ((r88 x1 x2 x4).2.2.2.2.2.2.2) (((x3.drop 0).take x3.length) ++ ([[((((r88 x1 x2 x4).2.1) : Nat) : Int), ((((r88 x1 x2 x4).2.2.1) : Nat) : Int), ((((r88 x1 x2 x4).2.2.2.1) : Nat) : Int), ((((r88 x1 x2 x4).2.2.2.2.1) : Nat) : Int), ((r88 x1 x2 x4).2.2.2.2.2.1)]] : List (List Int))) x4).2.2.1), ((ih (IntKind.i64.wrap (x0 - 1)) ((r88 x1 x2 x4).2.2.2.2.2.2.1) ((r88 x1 x2 x4).2.2.2.2.2.2.2) (((x3.drop 0).take x3.length) ++ ([[((((r88 x1 x2 x4).2.1) : Nat) : Int), ((((r88 x1 x2 x4).2.2.1) : Nat) : Int), ((((r88 x1 x2 x4).2.2.2.1) : Nat) : Int), ((((r88 x1 x2 x4).2.2.2.2.1) : Nat) : Int), ((r88 x1 x2 x4).2.2.2.2.2.1)]] : List (List Int))) x4).2.2.2)))
    (cond (Nat.beq ((ih (IntKind.i64.wrap (x0 - 1)) ((r88 x1 x2 x4).2.2.2.2.2.2.1) ((r88 x1 x2 x4).2.2.2.2.2.2.2) (((x3.drop 0).take x3.length) ++ ([[((((r88 x1 x2 x4).2.1) : Nat) : Int), ((((r88 x1 x2 x4).2.2.1) : Nat) : Int), ((((r88 x1 x2 x4).2.2.2.1) : Nat) : Int), ((((r88 x1 x2 x4).2.2.2.2.1) : Nat) : Int), ((r88 x1 x2 x4).2.2.2.2.2.1)]] : List (List Int))) x4).1) 1)
     (a51l0 x0 x1 x2 x3 x4 (0, ((r88 x1 x2 x4).2.2.2.2.2.2.1), ((r88 x1 x2 x4).2.2.2.2.2.2.2), (((x3.drop 0).take x3.length) ++ ([[((((r88 x1 x2 x4).2.1) : Nat) : Int), ((((r88 x1 x2 x4).2.2.1) : Nat) : Int), ((((r88 x1 x2 x4).2.2.2.1) : Nat) : Int), ((((r88 x1 x2 x4).2.2.2.2.1) : Nat) : Int), ((r88 x1 x2 x4).2.2.2.2.2.1)]] : List (List Int)))))
     none))
   none)
  none)
 (a51l0 x0 x1 x2 x3 x4 (1, 0, 0, [])))
set_option maxRecDepth 100000 in
set_option maxHeartbeats 4000000 in
theorem e51l0 (m : Nat) (x0 x1 x2 : Int) (x3 x4 : List (List Int)) : evC Try.prog ext T81 noL 200 (loopN Try.f51 0) (loopTail ([0, 3, 4], []) [0, 3] [0, 1] (sumK 45 [0, 3, 4] [0, 3] (q51l0 m))) (frameOf 45 [0, 3, 4] [.pointer (some ⟨0, 0, some 0⟩), wsl 1, .int .i64 x0]) ⟨[⟨true, (some (.cells [wsl 2, .int .i64 x1, .int .u64 x2]))⟩, ⟨true, (some (.tab sc0 x3))⟩, ⟨false, (some (.tab [.int .u8] x4))⟩], 3, []⟩ = firstT ([((Nat.beq ((r51l0 (m + 1) x0 x1 x2 x3 x4).1) 0), .exit 0, [.pointer (some ⟨0, 0, some 0⟩), wsl 3], ⟨[⟨true, (some (.cells [wsl 2, .int .i64 ((r51l0 (m + 1) x0 x1 x2 x3 x4).2.1), .int .u64 ((r51l0 (m + 1) x0 x1 x2 x3 x4).2.2.1)]))⟩, ⟨true, none⟩, ⟨false, (some (.tab [.int .u8] x4))⟩, ⟨true, (some (.tab sc0 ((r51l0 (m + 1) x0 x1 x2 x3 x4).2.2.2)))⟩], 3, [0, 1]⟩), ((Nat.beq ((r51l0 (m + 1) x0 x1 x2 x3 x4).1) 1), .exit 0, [.pointer (some ⟨0, 0, some 0⟩), wsl 1], ⟨[⟨true, (some (.cells [wsl 2, .int .i64 x1, .int .u64 x2]))⟩, ⟨true, (some (.tab sc0 x3))⟩, ⟨false, (some (.tab [.int .u8] x4))⟩], 3, [0, 1]⟩)].map fun (b, x) => (b, (x.1, frameOf 45 [0, 3] x.2.1, x.2.2))) :=
 (show evC Try.prog ext T81 noL 200 (loopN Try.f51 0) (loopTail ([0, 3, 4], []) [0, 3] [0, 1] (sumK 45 [0, 3, 4] [0, 3] (q51l0 m))) (frameOf 45 [0, 3, 4] [.pointer (some ⟨0, 0, some 0⟩), wsl 1, .int .i64 x0]) ⟨[⟨true, (some (.cells [wsl 2, .int .i64 x1, .int .u64 x2]))⟩, ⟨true, (some (.tab sc0 x3))⟩, ⟨false, (some (.tab [.int .u8] x4))⟩], 3, []⟩ = w51l0 (r51l0 m) x0 x1 x2 x3 x4 from by kernel_rfl).trans
 (show w51l0 (r51l0 m) x0 x1 x2 x3 x4 = a51l0 x0 x1 x2 x3 x4 (r51l0 (m + 1) x0 x1 x2 x3 x4) from by unfold w51l0; show _ = a51l0 x0 x1 x2 x3 x4 (b51l0 (r51l0 m) x0 x1 x2 x3 x4); unfold b51l0; exact (cond_app (a51l0 x0 x1 x2 x3 x4) _ (cond_app (a51l0 x0 x1 x2 x3 x4) _ (cond_app (a51l0 x0 x1 x2 x3 x4) _ (cond_app (a51l0 x0 x1 x2 x3 x4) _ rfl (cond_app (a51l0 x0 x1 x2 x3 x4) _ rfl rfl)) rfl) rfl) rfl))
set_option maxRecDepth 100000 in
set_option maxHeartbeats 4000000 in
theorem qm51l0 : ∀ m, SumKOk Try.prog (loopN Try.f51 0) 45 [0, 3, 4] [0, 3] (q51l0 m) := by
  intro m
  induction m with
  | zero =>
    intro vals s x h1 h2 h3
    unfold q51l0 at h3; split at h3
    · rename_i h; split at h3
      · rename_i hc; obtain ⟨rfl, rfl, rfl, rfl, rfl⟩ := hc; exact absurd h3 (by simp [r51l0, firstT, Nat.beq])
      · exact noQ_ok _ _ _ h1 h2 h3
    · exact noQ_ok _ _ _ h1 h2 h3
  | succ m ih =>
    intro vals s x h1 h2 h3
    unfold q51l0 at h3; split at h3
    · rename_i h; split at h3
      · rename_i hc; obtain ⟨rfl, rfl, rfl, rfl, rfl⟩ := hc; exact sum_step ok81 extOk mixed ((lfOkF_no _ _).inner (by kernel_rfl)) ih h1 h2 h (e51l0 m _ _ _ _ _) rfl h3
      · exact noQ_ok _ _ _ h1 h2 h3
    · exact noQ_ok _ _ _ h1 h2 h3
noncomputable def Q51l0 : SumK := fun vals s => q51l0 (fuelOf vals s.h) vals s
theorem qok51l0 : SumKOk Try.prog (loopN Try.f51 0) 45 [0, 3, 4] [0, 3] Q51l0 := fuel_ok qm51l0 fuelOf
noncomputable def L51_1 : LoopT := addL noL 4 ([0, 3, 4], []) (sumK 45 [0, 3, 4] [0, 3] Q51l0)
theorem lok51_1 : LfOkF Try.prog L51_1 Try.f51 := lfOkF_add (lfOkF_no _ _) qok51l0 (by kernel_rfl) (by kernel_rfl) (by kernel_rfl)

/-- (*spec.l00Src).one -/
noncomputable def r89 (x0 x1 : Int) (x2 : List (List Int)) : Nat × Bool × Int × Int :=
 cond (Nat.beq ((r53 3 x0 x1 x2).1) 0)
  (0, ((((r53 3 x0 x1 x2).2.1) : Int) == 0), ((r53 3 x0 x1 x2).2.2.1), ((r53 3 x0 x1 x2).2.2.2))
  (1, false, 0, 0)
noncomputable def a89 (x0 x1 : Int) (x2 : List (List Int)) (p : Nat × Bool × Int × Int) : Res := firstT [((Nat.beq (p.1) 0), .bool (p.2.1), ⟨[⟨true, (some (.cells [wsl 1, .int .i64 (p.2.2.1), .int .u64 (p.2.2.2)]))⟩, ⟨false, (some (.tab [.int .u8] x2))⟩], 2, [0]⟩)]
noncomputable def w89 (x0 x1 : Int) (x2 : List (List Int)) : Res :=
 (cond (Nat.beq ((r53 3 x0 x1 x2).1) 0)
 (a89 x0 x1 x2 (0, ((((r53 3 x0 x1 x2).2.1) : Int) == 0), ((r53 3 x0 x1 x2).2.2.1), ((r53 3 x0 x1 x2).2.2.2)))
 none)
set_option maxRecDepth 100000 in
set_option maxHeartbeats 4000000 in
theorem e89 (x0 x1 : Int) (x2 : List (List Int)) : evFn Try.prog ext T81 noL 200 Try.f89 [.pointer (some ⟨0, 0, some 0⟩), .int .i64 3] ⟨[⟨true, (some (.cells [wsl 1, .int .i64 x0, .int .u64 x1]))⟩, ⟨false, (some (.tab [.int .u8] x2))⟩], 2, []⟩ = firstT [((Nat.beq ((r89 x0 x1 x2).1) 0), .bool ((r89 x0 x1 x2).2.1), ⟨[⟨true, (some (.cells [wsl 1, .int .i64 ((r89 x0 x1 x2).2.2.1), .int .u64 ((r89 x0 x1 x2).2.2.2)]))⟩, ⟨false, (some (.tab [.int .u8] x2))⟩], 2, [0]⟩)] :=
 (show evFn Try.prog ext T81 noL 200 Try.f89 [.pointer (some ⟨0, 0, some 0⟩), .int .i64 3] ⟨[⟨true, (some (.cells [wsl 1, .int .i64 x0, .int .u64 x1]))⟩, ⟨false, (some (.tab [.int .u8] x2))⟩], 2, []⟩ = w89 x0 x1 x2 from by kernel_rfl).trans
 (show w89 x0 x1 x2 = a89 x0 x1 x2 (r89 x0 x1 x2) from by unfold w89 r89; exact (cond_app (a89 x0 x1 x2) _ rfl rfl))
noncomputable def s89 (args : List Value) (s : St) : List (Bool × Value × St) :=
 match args, s.h with
 | [.pointer (some ⟨f0, f1, some f2⟩), .int .i64 f3], [⟨true, some (.cells [.iface f4 .nilIface, .int .i64 x0, .int .u64 x1])⟩, ⟨false, some (.tab [.int .u8] x2)⟩] => if f0 = 0 ∧ f1 = 0 ∧ f2 = 0 ∧ f3 = 3 ∧ f4 = 1 then [((Nat.beq ((r89 x0 x1 x2).1) 0), .bool ((r89 x0 x1 x2).2.1), ⟨[⟨true, (some (.cells [wsl 1, .int .i64 ((r89 x0 x1 x2).2.2.1), .int .u64 ((r89 x0 x1 x2).2.2.2)]))⟩, ⟨false, (some (.tab [.int .u8] x2))⟩], 2, [0]⟩)] else T81 89 args s
 | _, _ => T81 89 args s
noncomputable def T82 : CallF := addF T81 89 s89
set_option maxRecDepth 100000 in
set_option maxHeartbeats 4000000 in
theorem ok82 : CfOk Try.prog T82 := by
  refine cfOk_add ok81 fun args s r s' h1 h2 h3 => ?_
  unfold s89 at h3; split at h3
  · rename_i h; split at h3
    · rename_i hc; obtain ⟨rfl, rfl, rfl, rfl, rfl⟩ := hc; exact callOk ok81 Try.func89 h1 h2 h (lfOkF_no _ _).body (e89 _ _ _) rfl h3
    · exact ok81 _ _ _ _ _ h1 h2 h3
  · exact ok81 _ _ _ _ _ h1 h2 h3

/-- spec.l03Drawn, loop 1: one round -/
noncomputable def b51l1 (ih : Int → Int → Int → Int → Int → List (List Int) → List (List Int) → (Nat × Int × Int × List (List Int))) (x0 x1 x2 x3 x4 : Int) (x5 x6 : List (List Int)) : Nat × Int × Int × List (List Int) :=
 cond (decide ((x2 : Int) < x0))
  (cond ((x2 : Int) != x1)
   (cond (Nat.beq ((r89 x3 x4 x6).1) 0)
    (cond (!((r89 x3 x4 x6).2.1))
     (cond ((decide ((0 : Int) ≤ x2)) && (Nat.blt (Int.toNat x2) x5.length))
      (ih x0 x1 (IntKind.i64.wrap (x2 + 1)) ((r89 x3 x4 x6).2.2.1) ((r89 x3 x4 x6).2.2.2) (x5.modify (Int.toNat x2) (fun r => spl 5 r 4 [x1])) x6)
      (1, 0, 0, []))
     (ih x0 x1 (IntKind.i64.wrap (x2 + 1)) ((r89 x3 x4 x6).2.2.1) ((r89 x3 x4 x6).2.2.2) x5 x6))
    (1, 0, 0, []))
   (ih x0 x1 (IntKind.i64.wrap (x2 + 1)) x3 x4 x5 x6))
  (0, x3, x4, x5)
noncomputable def r51l1 : Nat → Int → Int → Int → Int → Int → List (List Int) → List (List Int) → (Nat × Int × Int × List (List Int))
 | 0 => fun _ _ _ _ _ _ _ => (1, 0, 0, [])
 | m + 1 => b51l1 (r51l1 m)
noncomputable def a51l1 (x0 x1 x2 x3 x4 : Int) (x5 x6 : List (List Int)) (p : Nat × Int × Int × List (List Int)) : Option (Fin' × List Value × St) := firstT ([((Nat.beq (p.1) 0), .exit 2, [wsl 1], ⟨[⟨true, (some (.cells [wsl 2, .int .i64 (p.2.1), .int .u64 (p.2.2.1)]))⟩, ⟨true, (some (.tab sc0 (p.2.2.2)))⟩, ⟨false, (some (.tab [.int .u8] x6))⟩], 3, [0, 1]⟩)].map fun (b, x) => (b, (x.1, frameOf 45 [3] x.2.1, x.2.2)))
noncomputable def u51l1 (x0 x1 x2 x3 x4 : Int) (x5 x6 : List (List Int)) (p : Nat × Int × Int × List (List Int)) : Option (Fin' × List Value × St) := alts ([((Nat.beq (p.1) 0), .exit 2, [wsl 1], ⟨[⟨true, (some (.cells [wsl 2, .int .i64 (p.2.1), .int .u64 (p.2.2.1)]))⟩, ⟨true, (some (.tab sc0 (p.2.2.2)))⟩, ⟨false, (some (.tab [.int .u8] x6))⟩], 3, [0, 1]⟩)].map fun (b, x) => (b, (x.1, frameOf 45 [3] x.2.1, x.2.2))) some
theorem v51l1 (x0 x1 x2 x3 x4 : Int) (x5 x6 : List (List Int)) (p : Nat × Int × Int × List (List Int)) : u51l1 x0 x1 x2 x3 x4 x5 x6 p = a51l1 x0 x1 x2 x3 x4 x5 x6 p := alts_first _
noncomputable def q51l1 (m : Nat) : SumK := fun vals s =>
 match vals, s.h with
 | [.pointer (some ⟨f0, f1, some f2⟩), .iface f3 .nilIface, .int .i64 x0, .int .i64 x1, .int .i64 x2], [⟨true, some (.cells [.iface f4 .nilIface, .int .i64 x3, .int .u64 x4])⟩, ⟨true, some (.tab [.fl .f32, .fl .f32, .fl .f32, .fl .f32, .int .i64] x5)⟩, ⟨false, some (.tab [.int .u8] x6)⟩] => if f0 = 0 ∧ f1 = 0 ∧ f2 = 0 ∧ f3 = 1 ∧ f4 = 2 then [((Nat.beq ((r51l1 m x0 x1 x2 x3 x4 x5 x6).1) 0), .exit 2, [wsl 1], ⟨[⟨true, (some (.cells [wsl 2, .int .i64 ((r51l1 m x0 x1 x2 x3 x4 x5 x6).2.1), .int .u64 ((r51l1 m x0 x1 x2 x3 x4 x5 x6).2.2.1)]))⟩, ⟨true, (some (.tab sc0 ((r51l1 m x0 x1 x2 x3 x4 x5 x6).2.2.2)))⟩, ⟨false, (some (.tab [.int .u8] x6))⟩], 3, [0, 1]⟩)] else noQ vals s
 | _, _ => noQ vals s
noncomputable def w51l1 (ih : Int → Int → Int → Int → Int → List (List Int) → List (List Int) → (Nat × Int × Int × List (List Int))) (x0 x1 x2 x3 x4 : Int) (x5 x6 : List (List Int)) : Option (Fin' × List Value × St) :=
 (cond (decide ((x2 : Int) < x0))
 (cond ((x2 : Int) != x1)
  (cond (Nat.beq ((r89 x3 x4 x6).1) 0)
   (cond (!((r89 x3 x4 x6).2.1))
    (cond ((decide ((0 : Int) ≤ x2)) && (Nat.blt (Int.toNat x2) x5.length))
     (cond (Nat.blt (Int.toNat x2) x5.length)
      (u51l1 x0 x1 x2 x3 x4 x5 x6 (ih x0 x1 (IntKind.i64.wrap (x2 + 1)) ((r89 x3 x4 x6).2.2.1) ((r89 x3 x4 x6).2.2.2) (x5.modify (Int.toNat x2) (fun r => spl 5 r 4 [x1])) x6))
      none)
     none)
    (u51l1 x0 x1 x2 x3 x4 x5 x6 (ih x0 x1 (IntKind.i64.wrap (x2 + 1)) ((r89 x3 x4 x6).2.2.1) ((r89 x3 x4 x6).2.2.2) x5 x6)))
   none)
  (u51l1 x0 x1 x2 x3 x4 x5 x6 (ih x0 x1 (IntKind.i64.wrap (x2 + 1)) x3 x4 x5 x6)))
 (a51l1 x0 x1 x2 x3 x4 x5 x6 (0, x3, x4, x5)))
set_option maxRecDepth 100000 in
set_option maxHeartbeats 4000000 in
theorem e51l1 (m : Nat) (x0 x1 x2 x3 x4 : Int) (x5 x6 : List (List Int)) : evC Try.prog ext T82 L51_1 200 (loopN Try.f51 1) (loopTail ([0, 3, 5, 6, 7], []) [3] [0, 1] (sumK 45 [0, 3, 5, 6, 7] [3] (q51l1 m))) (frameOf 45 [0, 3, 5, 6, 7] [.pointer (some ⟨0, 0, some 0⟩), wsl 1, .int .i64 x0, .int .i64 x1, .int .i64 x2]) ⟨[⟨true, (some (.cells [wsl 2, .int .i64 x3, .int .u64 x4]))⟩, ⟨true, (some (.tab sc0 x5))⟩, ⟨false, (some (.tab [.int .u8] x6))⟩], 3, []⟩ = firstT ([((Nat.beq ((r51l1 (m + 1) x0 x1 x2 x3 x4 x5 x6).1) 0), .exit 2, [wsl 1], ⟨[⟨true, (some (.cells [wsl 2, .int .i64 ((r51l1 (m + 1) x0 x1 x2 x3 x4 x5 x6).2.1), .int .u64 ((r51l1 (m + 1) x0 x1 x2 x3 x4 x5 x6).2.2.1)]))⟩, ⟨true, (some (.tab sc0 ((r51l1 (m + 1) x0 x1 x2 x3 x4 x5 x6).2.2.2)))⟩, ⟨false, (some (.tab [.int .u8] x6))⟩], 3, [0, 1]⟩)].map fun (b, x) => (b, (x.1, frameOf 45 [3] x.2.1, x.2.2))) :=
 (show evC Try.prog ext T82 L51_1 200 (loopN Try.f51 1) (loopTail ([0, 3, 5, 6, 7], []) [3] [0, 1] (sumK 45 [0, 3, 5, 6, 7] [3] (q51l1 m))) (frameOf 45 [0, 3, 5, 6, 7] [.pointer (some ⟨0, 0, some 0⟩), wsl 1, .int .i64 x0, .int .i64 x1, .int .i64 x2]) ⟨[⟨true, (some (.cells [wsl 2, .int .i64 x3, .int .u64 x4]))⟩, ⟨true, (some (.tab sc0 x5))⟩, ⟨false, (some (.tab [.int .u8] x6))⟩], 3, []⟩ = w51l1 (r51l1 m) x0 x1 x2 x3 x4 x5 x6 from by kernel_rfl).trans
 (show w51l1 (r51l1 m) x0 x1 x2 x3 x4 x5 x6 = a51l1 x0 x1 x2 x3 x4 x5 x6 (r51l1 (m + 1) x0 x1 x2 x3 x4 x5 x6) from by unfold w51l1; show _ = a51l1 x0 x1 x2 x3 x4 x5 x6 (b51l1 (r51l1 m) x0 x1 x2 x3 x4 x5 x6); unfold b51l1; exact (cond_both (a51l1 x0 x1 x2 x3 x4 x5 x6) _ (fun h0 => (cond_both (a51l1 x0 x1 x2 x3 x4 x5 x6) _ (fun h1 => (cond_both (a51l1 x0 x1 x2 x3 x4 x5 x6) _ (fun h2 => (cond_both (a51l1 x0 x1 x2 x3 x4 x5 x6) _ (fun h3 => (cond_both (a51l1 x0 x1 x2 x3 x4 x5 x6) _ (fun h4 => (cond_t (ev_and2 h4) (v51l1 x0 x1 x2 x3 x4 x5 x6 ((r51l1 m) x0 x1 (IntKind.i64.wrap (x2 + 1)) ((r89 x3 x4 x6).2.2.1) ((r89 x3 x4 x6).2.2.2) (x5.modify (Int.toNat x2) (fun r => spl 5 r 4 [x1])) x6)))) (fun h4 => rfl))) (fun h3 => (v51l1 x0 x1 x2 x3 x4 x5 x6 ((r51l1 m) x0 x1 (IntKind.i64.wrap (x2 + 1)) ((r89 x3 x4 x6).2.2.1) ((r89 x3 x4 x6).2.2.2) x5 x6))))) (fun h2 => rfl))) (fun h1 => (v51l1 x0 x1 x2 x3 x4 x5 x6 ((r51l1 m) x0 x1 (IntKind.i64.wrap (x2 + 1)) x3 x4 x5 x6))))) (fun h0 => rfl)))
set_option maxRecDepth 100000 in
set_option maxHeartbeats 4000000 in
theorem qm51l1 : ∀ m, SumKOk Try.prog (loopN Try.f51 1) 45 [0, 3, 5, 6, 7] [3] (q51l1 m) := by
  intro m
  induction m with
  | zero =>
    intro vals s x h1 h2 h3
    unfold q51l1 at h3; split at h3
    · rename_i h; split at h3
      · rename_i hc; obtain ⟨rfl, rfl, rfl, rfl, rfl⟩ := hc; exact absurd h3 (by simp [r51l1, firstT, Nat.beq])
      · exact noQ_ok _ _ _ h1 h2 h3
    · exact noQ_ok _ _ _ h1 h2 h3
  | succ m ih =>
    intro vals s x h1 h2 h3
    unfold q51l1 at h3; split at h3
    · rename_i h; split at h3
      · rename_i hc; obtain ⟨rfl, rfl, rfl, rfl, rfl⟩ := hc; exact sum_step ok82 extOk mixed (lok51_1.inner (by kernel_rfl)) ih h1 h2 h (e51l1 m _ _ _ _ _ _ _) rfl h3
      · exact noQ_ok _ _ _ h1 h2 h3
    · exact noQ_ok _ _ _ h1 h2 h3
noncomputable def Q51l1 : SumK := fun vals s => q51l1 (fuelOf vals s.h) vals s
theorem qok51l1 : SumKOk Try.prog (loopN Try.f51 1) 45 [0, 3, 5, 6, 7] [3] Q51l1 := fuel_ok qm51l1 fuelOf
noncomputable def L51_2 : LoopT := addL L51_1 10 ([0, 3, 5, 6, 7], []) (sumK 45 [0, 3, 5, 6, 7] [3] Q51l1)
theorem lok51_2 : LfOkF Try.prog L51_2 Try.f51 := lfOkF_add lok51_1 qok51l1 (by kernel_rfl) (by kernel_rfl) (by kernel_rfl)

/-- spec.l03Drawn -/
noncomputable def r51 (x0 x1 : Int) (x2 : List (List Int)) : Nat × Int × Int × List (List Int) :=
 let c498 := (r51l0 (1000 + x2.length + 0) (IntKind.i64.wrap (1 + ((r53 5 x0 x1 x2).2.1))) ((r53 5 x0 x1 x2).2.2.1) ((r53 5 x0 x1 x2).2.2.2) ([] : List (List Int)) x2)
 let c500 := (r51l1 (1000 + x2.length + (c498.2.2.2).length) (((c498.2.2.2).length : Nat) : Int) ((r53 (((c498.2.2.2).length : Nat) : Int) (c498.2.1) (c498.2.2.1) x2).2.1) 0 ((r53 (((c498.2.2.2).length : Nat) : Int) (c498.2.1) (c498.2.2.1) x2).2.2.1) ((r53 (((c498.2.2.2).length : Nat) : Int) (c498.2.1) (c498.2.2.1) x2).2.2.2) (c498.2.2.2) x2)
 let c501 := (r51l1 (1000 + x2.length + 0) 0 ((r53 0 ((r53 5 x0 x1 x2).2.2.1) ((r53 5 x0 x1 x2).2.2.2) x2).2.1) 0 ((r53 0 ((r53 5 x0 x1 x2).2.2.1) ((r53 5 x0 x1 x2).2.2.2) x2).2.2.1) ((r53 0 ((r53 5 x0 x1 x2).2.2.1) ((r53 5 x0 x1 x2).2.2.2) x2).2.2.2) ([] : List (List Int)) x2)
 cond (Nat.beq ((r53 5 x0 x1 x2).1) 0)
  (cond (Nat.beq (c498.1) 0)
   (cond (Nat.beq ((r53 (((c498.2.2.2).length : Nat) : Int) (c498.2.1) (c498.2.2.1) x2).1) 0)
    (cond (Nat.beq (c500.1) 0)
     (0, (c500.2.1), (c500.2.2.1), (c500.2.2.2))
     (1, 0, 0, []))
    (1, 0, 0, []))
   (cond (Nat.beq (c498.1) 1)
    (cond (Nat.beq ((r53 0 ((r53 5 x0 x1 x2).2.2.1) ((r53 5 x0 x1 x2).2.2.2) x2).1) 0)
     (cond (Nat.beq (c501.1) 0)
      (0, (c501.2.1), (c501.2.2.1), (c501.2.2.2))
      (1, 0, 0, []))
     (1, 0, 0, []))
    (1, 0, 0, [])))
  (1, 0, 0, [])
noncomputable def a51 (x0 x1 : Int) (x2 : List (List Int)) (p : Nat × Int × Int × List (List Int)) : Res := firstT [((Nat.beq (p.1) 0), wsl 2, ⟨[⟨true, (some (.cells [wsl 1, .int .i64 (p.2.1), .int .u64 (p.2.2.1)]))⟩, ⟨false, (some (.tab [.int .u8] x2))⟩, ⟨true, (some (.tab sc0 (p.2.2.2)))⟩], 2, [0]⟩)]
noncomputable def w51 (x0 x1 : Int) (x2 : List (List Int)) : Res :=
 let c498 := (r51l0 (1000 + x2.length + 0) (IntKind.i64.wrap (1 + ((r53 5 x0 x1 x2).2.1))) ((r53 5 x0 x1 x2).2.2.1) ((r53 5 x0 x1 x2).2.2.2) ([] : List (List Int)) x2)
 let c500 := (r51l1 (1000 + x2.length + (c498.2.2.2).length) (((c498.2.2.2).length : Nat) : Int) ((r53 (((c498.2.2.2).length : Nat) : Int) (c498.2.1) (c498.2.2.1) x2).2.1) 0 ((r53 (((c498.2.2.2).length : Nat) : Int) (c498.2.1) (c498.2.2.1) x2).2.2.1) ((r53 (((c498.2.2.2).length : Nat) : Int) (c498.2.1) (c498.2.2.1) x2).2.2.2) (c498.2.2.2) x2)
 let c501 := (r51l1 (1000 + x2.length + 0) 0 ((r53 0 ((r53 5 x0 x1 x2).2.2.1) ((r53 5 x0 x1 x2).2.2.2) x2).2.1) 0 ((r53 0 ((r53 5 x0 x1 x2).2.2.1) ((r53 5 x0 x1 x2).2.2.2) x2).2.2.1) ((r53 0 ((r53 5 x0 x1 x2).2.2.1) ((r53 5 x0 x1 x2).2.2.2) x2).2.2.2) ([] : List (List Int)) x2)
 (cond (Nat.beq ((r53 5 x0 x1 x2).1) 0)
 (cond (Nat.beq (c498.1) 0)
  (cond (Nat.beq ((r53 (((c498.2.2.2).length : Nat) : Int) (c498.2.1) (c498.2.2.1) x2).1) 0)
   (cond (Nat.beq (c500.1) 0)
    (a51 x0 x1 x2 (0, (c500.2.1), (c500.2.2.1), (c500.2.2.2)))
    none)
   none)
  (cond (Nat.beq (c498.1) 1)
   (cond (Nat.beq ((r53 0 ((r53 5 x0 x1 x2).2.2.1) ((r53 5 x0 x1 x2).2.2.2) x2).1) 0)
    (cond (Nat.beq (c501.1) 0)
     (a51 x0 x1 x2 (0, (c501.2.1), (c501.2.2.1), (c501.2.2.2)))
     none)
    none)
   none))
 none)
set_option maxRecDepth 100000 in
set_option maxHeartbeats 4000000 in
theorem e51 (x0 x1 : Int) (x2 : List (List Int)) : evFn Try.prog ext T82 L51_2 200 Try.f51 [.pointer (some ⟨0, 0, some 0⟩)] ⟨[⟨true, (some (.cells [wsl 1, .int .i64 x0, .int .u64 x1]))⟩, ⟨false, (some (.tab [.int .u8] x2))⟩], 2, []⟩ = firstT [((Nat.beq ((r51 x0 x1 x2).1) 0), wsl 2, ⟨[⟨true, (some (.cells [wsl 1, .int .i64 ((r51 x0 x1 x2).2.1), .int .u64 ((r51 x0 x1 x2).2.2.1)]))⟩, ⟨false, (some (.tab [.int .u8] x2))⟩, ⟨true, (some (.tab sc0 ((r51 x0 x1 x2).2.2.2)))⟩], 2, [0]⟩)] :=
 (show evFn Try.prog ext T82 L51_2 200 Try.f51 [.pointer (some ⟨0, 0, some 0⟩)] ⟨[⟨true, (some (.cells [wsl 1, .int .i64 x0, .int .u64 x1]))⟩, ⟨false, (some (.tab [.int .u8] x2))⟩], 2, []⟩ = w51 x0 x1 x2 from by kernel_rfl).trans
 (show w51 x0 x1 x2 = a51 x0 x1 x2 (r51 x0 x1 x2) from by unfold w51 r51; exact (cond_app (a51 x0 x1 x2) _ (cond_app (a51 x0 x1 x2) _ (cond_app (a51 x0 x1 x2) _ (cond_app (a51 x0 x1 x2) _ rfl rfl) rfl) (cond_app (a51 x0 x1 x2) _ (cond_app (a51 x0 x1 x2) _ (cond_app (a51 x0 x1 x2) _ rfl rfl) rfl) rfl)) rfl))
noncomputable def s51 (args : List Value) (s : St) : List (Bool × Value × St) :=
 match args, s.h with
 | [.pointer (some ⟨f0, f1, some f2⟩)], [⟨true, some (.cells [.iface f3 .nilIface, .int .i64 x0, .int .u64 x1])⟩, ⟨false, some (.tab [.int .u8] x2)⟩] => if f0 = 0 ∧ f1 = 0 ∧ f2 = 0 ∧ f3 = 1 then [((Nat.beq ((r51 x0 x1 x2).1) 0), wsl 2, ⟨[⟨true, (some (.cells [wsl 1, .int .i64 ((r51 x0 x1 x2).2.1), .int .u64 ((r51 x0 x1 x2).2.2.1)]))⟩, ⟨false, (some (.tab [.int .u8] x2))⟩, ⟨true, (some (.tab sc0 ((r51 x0 x1 x2).2.2.2)))⟩], 2, [0]⟩)] else T82 51 args s
 | _, _ => T82 51 args s
noncomputable def T83 : CallF := addF T82 51 s51
set_option maxRecDepth 100000 in
set_option maxHeartbeats 4000000 in
theorem ok83 : CfOk Try.prog T83 := by
  refine cfOk_add ok82 fun args s r s' h1 h2 h3 => ?_
  unfold s51 at h3; split at h3
  · rename_i h; split at h3
    · rename_i hc; obtain ⟨rfl, rfl, rfl, rfl⟩ := hc; exact callOk ok82 Try.func51 h1 h2 h lok51_2.body (e51 _ _ _) rfl h3
    · exact ok82 _ _ _ _ _ h1 h2 h3
  · exact ok82 _ _ _ _ _ h1 h2 h3

/-- spec.P6Chimney -/
noncomputable def r13 (x0 : List (List Int)) : Nat × List (List Int) :=
 cond (Nat.beq ((r51 ((r52 x0).1) ((r52 x0).2) x0).1) 0)
  (0, ((r51 ((r52 x0).1) ((r52 x0).2) x0).2.2.2))
  (1, [])
noncomputable def a13 (x0 : List (List Int)) (p : Nat × List (List Int)) : Res := firstT [((Nat.beq (p.1) 0), wsl 1, ⟨[⟨false, (some (.tab [.int .u8] x0))⟩, ⟨true, (some (.tab sc0 (p.2)))⟩], 1, []⟩)]
noncomputable def w13 (x0 : List (List Int)) : Res :=
 (cond (Nat.beq ((r51 ((r52 x0).1) ((r52 x0).2) x0).1) 0)
 (a13 x0 (0, ((r51 ((r52 x0).1) ((r52 x0).2) x0).2.2.2)))
 none)
set_option maxRecDepth 100000 in
set_option maxHeartbeats 4000000 in
theorem e13 (x0 : List (List Int)) : evFn Try.prog ext T83 noL 200 Try.f13 [wsl 0] ⟨[⟨false, (some (.tab [.int .u8] x0))⟩], 1, []⟩ = firstT [((Nat.beq ((r13 x0).1) 0), wsl 1, ⟨[⟨false, (some (.tab [.int .u8] x0))⟩, ⟨true, (some (.tab sc0 ((r13 x0).2)))⟩], 1, []⟩)] :=
 (show evFn Try.prog ext T83 noL 200 Try.f13 [wsl 0] ⟨[⟨false, (some (.tab [.int .u8] x0))⟩], 1, []⟩ = w13 x0 from by kernel_rfl).trans
 (show w13 x0 = a13 x0 (r13 x0) from by unfold w13 r13; exact (cond_app (a13 x0) _ rfl rfl))
noncomputable def s13 (args : List Value) (s : St) : List (Bool × Value × St) :=
 match args, s.h with
 | [.iface f0 .nilIface], [⟨false, some (.tab [.int .u8] x0)⟩] => if f0 = 0 then [((Nat.beq ((r13 x0).1) 0), wsl 1, ⟨[⟨false, (some (.tab [.int .u8] x0))⟩, ⟨true, (some (.tab sc0 ((r13 x0).2)))⟩], 1, []⟩)] else T83 13 args s
 | _, _ => T83 13 args s
noncomputable def T84 : CallF := addF T83 13 s13
set_option maxRecDepth 100000 in
set_option maxHeartbeats 4000000 in
theorem ok84 : CfOk Try.prog T84 := by
  refine cfOk_add ok83 fun args s r s' h1 h2 h3 => ?_
  unfold s13 at h3; split at h3
  · rename_i h; split at h3
    · rename_i hc; obtain ⟨rfl⟩ := hc; exact callOk ok83 Try.func13 h1 h2 h (lfOkF_no _ _).body (e13 _) rfl h3
    · exact ok83 _ _ _ _ _ h1 h2 h3
  · exact ok83 _ _ _ _ _ h1 h2 h3

/-- spec.P6Pick -/
noncomputable def r14 (x0 : Int) (x1 : List (List Int)) : Nat × Int :=
 cond (Nat.beq ((r53 x0 ((r52 x1).1) ((r52 x1).2) x1).1) 0)
  (0, ((r53 x0 ((r52 x1).1) ((r52 x1).2) x1).2.1))
  (1, 0)
noncomputable def a14 (x0 : Int) (x1 : List (List Int)) (p : Nat × Int) : Res := firstT [((Nat.beq (p.1) 0), .int .i64 (p.2), ⟨[⟨false, (some (.tab [.int .u8] x1))⟩], 1, []⟩)]
noncomputable def w14 (x0 : Int) (x1 : List (List Int)) : Res :=
 (cond (Nat.beq ((r53 x0 ((r52 x1).1) ((r52 x1).2) x1).1) 0)
 (a14 x0 x1 (0, ((r53 x0 ((r52 x1).1) ((r52 x1).2) x1).2.1)))
 none)
set_option maxRecDepth 100000 in
set_option maxHeartbeats 4000000 in
theorem e14 (x0 : Int) (x1 : List (List Int)) : evFn Try.prog ext T84 noL 200 Try.f14 [wsl 0, .int .i64 x0] ⟨[⟨false, (some (.tab [.int .u8] x1))⟩], 1, []⟩ = firstT [((Nat.beq ((r14 x0 x1).1) 0), .int .i64 ((r14 x0 x1).2), ⟨[⟨false, (some (.tab [.int .u8] x1))⟩], 1, []⟩)] :=
 (show evFn Try.prog ext T84 noL 200 Try.f14 [wsl 0, .int .i64 x0] ⟨[⟨false, (some (.tab [.int .u8] x1))⟩], 1, []⟩ = w14 x0 x1 from by kernel_rfl).trans
 (show w14 x0 x1 = a14 x0 x1 (r14 x0 x1) from by unfold w14 r14; exact (cond_app (a14 x0 x1) _ rfl rfl))
noncomputable def s14 (args : List Value) (s : St) : List (Bool × Value × St) :=
 match args, s.h with
 | [.iface f0 .nilIface, .int .i64 x0], [⟨false, some (.tab [.int .u8] x1)⟩] => if f0 = 0 then [((Nat.beq ((r14 x0 x1).1) 0), .int .i64 ((r14 x0 x1).2), ⟨[⟨false, (some (.tab [.int .u8] x1))⟩], 1, []⟩)] else T84 14 args s
 | _, _ => T84 14 args s
noncomputable def T85 : CallF := addF T84 14 s14
set_option maxRecDepth 100000 in
set_option maxHeartbeats 4000000 in
theorem ok85 : CfOk Try.prog T85 := by
  refine cfOk_add ok84 fun args s r s' h1 h2 h3 => ?_
  unfold s14 at h3; split at h3
  · rename_i h; split at h3
    · rename_i hc; obtain ⟨rfl⟩ := hc; exact callOk ok84 Try.func14 h1 h2 h (lfOkF_no _ _).body (e14 _ _) rfl h3
    · exact ok84 _ _ _ _ _ h1 h2 h3
  · exact ok84 _ _ _ _ _ h1 h2 h3

/-- impl.SetFlue -/
noncomputable def r34 (x0 : Int) (x1 : Nat) (x2 : List (List Int)) : Nat × Int × List (List Int) :=
 cond (Nat.beq ((r50 x2).1) 0)
  (cond (!((r50 x2).2))
   (0, 1, [])
   (cond (decide ((x0 : Int) < 0))
    (0, 2, [])
    (cond (decide ((x0 : Int) ≥ ((x2.length : Nat) : Int)))
     (0, 2, [])
     (cond (!(r72 x1))
      (0, 2, [])
      (cond (Nat.beq ((r71 x2).1) 0)
       (cond ((decide ((0 : Int) ≤ x0)) && (Nat.blt (Int.toNat x0) (((r71 x2).2).length)))
        (1, 0, (((r71 x2).2).modify (Int.toNat x0) (fun r => spl 5 r 3 [((x1 : Nat) : Int)])))
        (2, 0, []))
       (2, 0, []))))))
  (2, 0, [])
noncomputable def a34 (x0 : Int) (x1 : Nat) (x2 : List (List Int)) (p : Nat × Int × List (List Int)) : Res := firstT [((Nat.beq (p.1) 0), .tuple #[.slice none 0 0, .int .i64 (p.2.1)], ⟨[⟨true, (some (.tab sc0 x2))⟩], 1, []⟩), ((Nat.beq (p.1) 1), .tuple #[wsl 1, .int .i64 0], ⟨[⟨true, (some (.tab sc0 x2))⟩, ⟨true, (some (.tab sc0 (p.2.2)))⟩], 1, []⟩)]
noncomputable def w34 (x0 : Int) (x1 : Nat) (x2 : List (List Int)) : Res :=
 (cond (Nat.beq ((r50 x2).1) 0)
 (cond (!((r50 x2).2))
  (a34 x0 x1 x2 (0, 1, []))
  (cond (decide ((x0 : Int) < 0))
   (a34 x0 x1 x2 (0, 2, []))
   (cond (decide ((x0 : Int) ≥ ((x2.length : Nat) : Int)))
    (a34 x0 x1 x2 (0, 2, []))
    (cond (!(r72 x1))
     (a34 x0 x1 x2 (0, 2, []))
     (cond (Nat.beq ((r71 x2).1) 0)
      (cond ((decide ((0 : Int) ≤ x0)) && (Nat.blt (Int.toNat x0) (((r71 x2).2).length)))
       (cond (Nat.blt (Int.toNat x0) (((r71 x2).2).length))
        (a34 x0 x1 x2 (1, 0, (((r71 x2).2).modify (Int.toNat x0) (fun r => spl 5 r 3 [((x1 : Nat) : Int)]))))
        none)
       none)
      none)))))
 none)
set_option maxRecDepth 100000 in
set_option maxHeartbeats 4000000 in
theorem e34 (x0 : Int) (x1 : Nat) (x2 : List (List Int)) : evFn Try.prog ext T85 noL 200 Try.f34 [wsl 0, .int .i64 x0, .float .f32 x1] ⟨[⟨true, (some (.tab sc0 x2))⟩], 1, []⟩ = firstT [((Nat.beq ((r34 x0 x1 x2).1) 0), .tuple #[.slice none 0 0, .int .i64 ((r34 x0 x1 x2).2.1)], ⟨[⟨true, (some (.tab sc0 x2))⟩], 1, []⟩), ((Nat.beq ((r34 x0 x1 x2).1) 1), .tuple #[wsl 1, .int .i64 0], ⟨[⟨true, (some (.tab sc0 x2))⟩, ⟨true, (some (.tab sc0 ((r34 x0 x1 x2).2.2)))⟩], 1, []⟩)] :=
 (show evFn Try.prog ext T85 noL 200 Try.f34 [wsl 0, .int .i64 x0, .float .f32 x1] ⟨[⟨true, (some (.tab sc0 x2))⟩], 1, []⟩ = w34 x0 x1 x2 from by kernel_rfl).trans
 (show w34 x0 x1 x2 = a34 x0 x1 x2 (r34 x0 x1 x2) from by unfold w34 r34; exact (cond_both (a34 x0 x1 x2) _ (fun h0 => (cond_both (a34 x0 x1 x2) _ (fun h1 => rfl) (fun h1 => (cond_both (a34 x0 x1 x2) _ (fun h2 => rfl) (fun h2 => (cond_both (a34 x0 x1 x2) _ (fun h3 => rfl) (fun h3 => (cond_both (a34 x0 x1 x2) _ (fun h4 => rfl) (fun h4 => (cond_both (a34 x0 x1 x2) _ (fun h5 => (cond_both (a34 x0 x1 x2) _ (fun h6 => (cond_t (ev_and2 h6) rfl)) (fun h6 => rfl))) (fun h5 => rfl))))))))))) (fun h0 => rfl)))
noncomputable def s34 (args : List Value) (s : St) : List (Bool × Value × St) :=
 match args, s.h with
 | [.iface f0 .nilIface, .int .i64 x0, .float .f32 x1], [⟨true, some (.tab [.fl .f32, .fl .f32, .fl .f32, .fl .f32, .int .i64] x2)⟩] => if f0 = 0 then [((Nat.beq ((r34 x0 x1 x2).1) 0), .tuple #[.slice none 0 0, .int .i64 ((r34 x0 x1 x2).2.1)], ⟨[⟨true, (some (.tab sc0 x2))⟩], 1, []⟩), ((Nat.beq ((r34 x0 x1 x2).1) 1), .tuple #[wsl 1, .int .i64 0], ⟨[⟨true, (some (.tab sc0 x2))⟩, ⟨true, (some (.tab sc0 ((r34 x0 x1 x2).2.2)))⟩], 1, []⟩)] else T85 34 args s
 | _, _ => T85 34 args s
noncomputable def T86 : CallF := addF T85 34 s34
set_option maxRecDepth 100000 in
set_option maxHeartbeats 4000000 in
theorem ok86 : CfOk Try.prog T86 := by
  refine cfOk_add ok85 fun args s r s' h1 h2 h3 => ?_
  unfold s34 at h3; split at h3
  · rename_i h; split at h3
    · rename_i hc; obtain ⟨rfl⟩ := hc; exact callOk ok85 Try.func34 h1 h2 h (lfOkF_no _ _).body (e34 _ _ _) rfl h3
    · exact ok85 _ _ _ _ _ h1 h2 h3
  · exact ok85 _ _ _ _ _ h1 h2 h3

/-- spec.SetFlue -/
noncomputable def r35 (x0 : Int) (x1 : Nat) (x2 : List (List Int)) : Nat × Int × List (List Int) :=
 cond (Nat.beq ((r73 x2).1) 0)
  (cond (!((r73 x2).2))
   (0, 1, ([] : List (List Int)))
   (cond (!(r63 x0 0 (IntKind.i64.wrap (((x2.length : Nat) : Int) - 1))))
    (0, 2, ([] : List (List Int)))
    (cond (!(r74 x1))
     (0, 2, ([] : List (List Int)))
     (cond (Nat.beq ((r69 x0 x1 x2).1) 0)
      (0, 0, ((r69 x0 x1 x2).2))
      (1, 0, [])))))
  (1, 0, [])
noncomputable def a35 (x0 : Int) (x1 : Nat) (x2 : List (List Int)) (p : Nat × Int × List (List Int)) : Res := firstT [((Nat.beq (p.1) 0), .tuple #[wsl 1, .int .i64 (p.2.1)], ⟨[⟨true, (some (.tab sc0 x2))⟩, ⟨true, (some (.tab sc0 (p.2.2)))⟩], 1, []⟩)]
noncomputable def w35 (x0 : Int) (x1 : Nat) (x2 : List (List Int)) : Res :=
 (cond (Nat.beq ((r73 x2).1) 0)
 (cond (!((r73 x2).2))
  (a35 x0 x1 x2 (0, 1, ([] : List (List Int))))
  (cond (!(r63 x0 0 (IntKind.i64.wrap (((x2.length : Nat) : Int) - 1))))
   (a35 x0 x1 x2 (0, 2, ([] : List (List Int))))
   (cond (!(r74 x1))
    (a35 x0 x1 x2 (0, 2, ([] : List (List Int))))
    (cond (Nat.beq ((r69 x0 x1 x2).1) 0)
     (a35 x0 x1 x2 (0, 0, ((r69 x0 x1 x2).2)))
     none))))
 none)
set_option maxRecDepth 100000 in
set_option maxHeartbeats 4000000 in
theorem e35 (x0 : Int) (x1 : Nat) (x2 : List (List Int)) : evFn Try.prog ext T86 noL 200 Try.f35 [wsl 0, .int .i64 x0, .float .f32 x1] ⟨[⟨true, (some (.tab sc0 x2))⟩], 1, []⟩ = firstT [((Nat.beq ((r35 x0 x1 x2).1) 0), .tuple #[wsl 1, .int .i64 ((r35 x0 x1 x2).2.1)], ⟨[⟨true, (some (.tab sc0 x2))⟩, ⟨true, (some (.tab sc0 ((r35 x0 x1 x2).2.2)))⟩], 1, []⟩)] :=
 (show evFn Try.prog ext T86 noL 200 Try.f35 [wsl 0, .int .i64 x0, .float .f32 x1] ⟨[⟨true, (some (.tab sc0 x2))⟩], 1, []⟩ = w35 x0 x1 x2 from by kernel_rfl).trans
 (show w35 x0 x1 x2 = a35 x0 x1 x2 (r35 x0 x1 x2) from by unfold w35 r35; exact (cond_app (a35 x0 x1 x2) _ (cond_app (a35 x0 x1 x2) _ rfl (cond_app (a35 x0 x1 x2) _ rfl (cond_app (a35 x0 x1 x2) _ rfl (cond_app (a35 x0 x1 x2) _ rfl rfl)))) rfl))
noncomputable def s35 (args : List Value) (s : St) : List (Bool × Value × St) :=
 match args, s.h with
 | [.iface f0 .nilIface, .int .i64 x0, .float .f32 x1], [⟨true, some (.tab [.fl .f32, .fl .f32, .fl .f32, .fl .f32, .int .i64] x2)⟩] => if f0 = 0 then [((Nat.beq ((r35 x0 x1 x2).1) 0), .tuple #[wsl 1, .int .i64 ((r35 x0 x1 x2).2.1)], ⟨[⟨true, (some (.tab sc0 x2))⟩, ⟨true, (some (.tab sc0 ((r35 x0 x1 x2).2.2)))⟩], 1, []⟩)] else T86 35 args s
 | _, _ => T86 35 args s
noncomputable def T87 : CallF := addF T86 35 s35
set_option maxRecDepth 100000 in
set_option maxHeartbeats 4000000 in
theorem ok87 : CfOk Try.prog T87 := by
  refine cfOk_add ok86 fun args s r s' h1 h2 h3 => ?_
  unfold s35 at h3; split at h3
  · rename_i h; split at h3
    · rename_i hc; obtain ⟨rfl⟩ := hc; exact callOk ok86 Try.func35 h1 h2 h (lfOkF_no _ _).body (e35 _ _ _) rfl h3
    · exact ok86 _ _ _ _ _ h1 h2 h3
  · exact ok86 _ _ _ _ _ h1 h2 h3

/-- spec.l03Same, loop 0 -/
noncomputable def r75l0 (x0 : List (List Int)) : Unit :=
 ()
noncomputable def a75l0 (x0 : List (List Int)) (p : Unit) : Option (Fin' × List Value × St) := firstT ([(true, .exit 0, [anyV], ⟨[⟨true, (some (.tab sc0 x0))⟩], 1, []⟩)].map fun (b, x) => (b, (x.1, frameOf 84 [4] x.2.1, x.2.2)))
noncomputable def w75l0 (x0 : List (List Int)) : Option (Fin' × List Value × St) :=
 (a75l0 x0 ())
set_option maxRecDepth 100000 in
set_option maxHeartbeats 4000000 in
theorem e75l0 (x0 : List (List Int)) : evC Try.prog ext T87 noL 200 (loopN Try.f75 0) (loopTail ([0, 1, 5], []) [4] [] (sumK 84 [0, 1, 5] [4] noQ)) (frameOf 84 [0, 1, 5] [.slice none 0 0, wsl 0, .int .i64 0]) ⟨[⟨true, (some (.tab sc0 x0))⟩], 1, []⟩ = firstT ([(true, .exit 0, [anyV], ⟨[⟨true, (some (.tab sc0 x0))⟩], 1, []⟩)].map fun (b, x) => (b, (x.1, frameOf 84 [4] x.2.1, x.2.2))) :=
 (show evC Try.prog ext T87 noL 200 (loopN Try.f75 0) (loopTail ([0, 1, 5], []) [4] [] (sumK 84 [0, 1, 5] [4] noQ)) (frameOf 84 [0, 1, 5] [.slice none 0 0, wsl 0, .int .i64 0]) ⟨[⟨true, (some (.tab sc0 x0))⟩], 1, []⟩ = w75l0 x0 from by kernel_rfl).trans
 (show w75l0 x0 = a75l0 x0 (r75l0 x0) from by unfold w75l0 r75l0; exact rfl)
noncomputable def Q75l0 : SumK := fun vals s =>
 match vals, s.h with
 | [.slice none f0 f1, .iface f2 .nilIface, .int .i64 f3], [⟨true, some (.tab [.fl .f32, .fl .f32, .fl .f32, .fl .f32, .int .i64] x0)⟩] => if f0 = 0 ∧ f1 = 0 ∧ f2 = 0 ∧ f3 = 0 then [(true, .exit 0, [anyV], ⟨[⟨true, (some (.tab sc0 x0))⟩], 1, []⟩)] else noQ vals s
 | _, _ => noQ vals s
set_option maxRecDepth 100000 in
set_option maxHeartbeats 4000000 in
theorem qok75l0 : SumKOk Try.prog (loopN Try.f75 0) 84 [0, 1, 5] [4] Q75l0 := by
  intro vals s x h1 h2 h3
  unfold Q75l0 at h3; split at h3
  · rename_i h; split at h3
    · rename_i hc; obtain ⟨rfl, rfl, rfl, rfl⟩ := hc; exact sum_step ok87 extOk mixed ((lfOkF_no _ _).inner (by kernel_rfl)) noQ_ok h1 h2 h (e75l0 _) rfl h3
    · exact noQ_ok _ _ _ h1 h2 h3
  · exact noQ_ok _ _ _ h1 h2 h3
noncomputable def L75_1 : LoopT := addL noL 5 ([0, 1, 5], []) (sumK 84 [0, 1, 5] [4] Q75l0)
theorem lok75_1 : LfOkF Try.prog L75_1 Try.f75 := lfOkF_add (lfOkF_no _ _) qok75l0 (by kernel_rfl) (by kernel_rfl) (by kernel_rfl)

/-- spec.l03Same -/
noncomputable def r75 (x0 : List (List Int)) : Bool :=
 cond ((0 : Int) != ((x0.length : Nat) : Int))
  (false)
  (true)
noncomputable def a75 (x0 : List (List Int)) (p : Bool) : Res := firstT [(true, .bool p, ⟨[⟨true, (some (.tab sc0 x0))⟩], 1, []⟩)]
noncomputable def w75 (x0 : List (List Int)) : Res :=
 (cond ((0 : Int) != ((x0.length : Nat) : Int))
 (a75 x0 (false))
 (a75 x0 (true)))
set_option maxRecDepth 100000 in
set_option maxHeartbeats 4000000 in
theorem e75 (x0 : List (List Int)) : evFn Try.prog ext T87 L75_1 200 Try.f75 [.slice none 0 0, wsl 0] ⟨[⟨true, (some (.tab sc0 x0))⟩], 1, []⟩ = firstT [(true, .bool (r75 x0), ⟨[⟨true, (some (.tab sc0 x0))⟩], 1, []⟩)] :=
 (show evFn Try.prog ext T87 L75_1 200 Try.f75 [.slice none 0 0, wsl 0] ⟨[⟨true, (some (.tab sc0 x0))⟩], 1, []⟩ = w75 x0 from by kernel_rfl).trans
 (show w75 x0 = a75 x0 (r75 x0) from by unfold w75 r75; exact (cond_app (a75 x0) _ rfl rfl))
noncomputable def s75 (args : List Value) (s : St) : List (Bool × Value × St) :=
 match args, s.h with
 | [.slice none f0 f1, .iface f2 .nilIface], [⟨true, some (.tab [.fl .f32, .fl .f32, .fl .f32, .fl .f32, .int .i64] x0)⟩] => if f0 = 0 ∧ f1 = 0 ∧ f2 = 0 then [(true, .bool (r75 x0), ⟨[⟨true, (some (.tab sc0 x0))⟩], 1, []⟩)] else T87 75 args s
 | _, _ => T87 75 args s
noncomputable def T88 : CallF := addF T87 75 s75
set_option maxRecDepth 100000 in
set_option maxHeartbeats 4000000 in
theorem ok88 : CfOk Try.prog T88 := by
  refine cfOk_add ok87 fun args s r s' h1 h2 h3 => ?_
  unfold s75 at h3; split at h3
  · rename_i h; split at h3
    · rename_i hc; obtain ⟨rfl, rfl, rfl⟩ := hc; exact callOk ok87 Try.func75 h1 h2 h lok75_1.body (e75 _) rfl h3
    · exact ok87 _ _ _ _ _ h1 h2 h3
  · exact ok87 _ _ _ _ _ h1 h2 h3

/-- spec.SameChimney -/
noncomputable def r36 (x0 : List (List Int)) : Bool :=
 ((r75 x0))
noncomputable def a36 (x0 : List (List Int)) (p : Bool) : Res := firstT [(true, .bool p, ⟨[⟨true, (some (.tab sc0 x0))⟩], 1, []⟩)]
noncomputable def w36 (x0 : List (List Int)) : Res :=
 (a36 x0 ((r75 x0)))
set_option maxRecDepth 100000 in
set_option maxHeartbeats 4000000 in
theorem e36 (x0 : List (List Int)) : evFn Try.prog ext T88 noL 200 Try.f36 [.slice none 0 0, wsl 0] ⟨[⟨true, (some (.tab sc0 x0))⟩], 1, []⟩ = firstT [(true, .bool (r36 x0), ⟨[⟨true, (some (.tab sc0 x0))⟩], 1, []⟩)] :=
 (show evFn Try.prog ext T88 noL 200 Try.f36 [.slice none 0 0, wsl 0] ⟨[⟨true, (some (.tab sc0 x0))⟩], 1, []⟩ = w36 x0 from by kernel_rfl).trans
 (show w36 x0 = a36 x0 (r36 x0) from by unfold w36 r36; exact rfl)
noncomputable def s36 (args : List Value) (s : St) : List (Bool × Value × St) :=
 match args, s.h with
 | [.slice none f0 f1, .iface f2 .nilIface], [⟨true, some (.tab [.fl .f32, .fl .f32, .fl .f32, .fl .f32, .int .i64] x0)⟩] => if f0 = 0 ∧ f1 = 0 ∧ f2 = 0 then [(true, .bool (r36 x0), ⟨[⟨true, (some (.tab sc0 x0))⟩], 1, []⟩)] else T88 36 args s
 | _, _ => T88 36 args s
noncomputable def T89 : CallF := addF T88 36 s36
set_option maxRecDepth 100000 in
set_option maxHeartbeats 4000000 in
theorem ok89 : CfOk Try.prog T89 := by
  refine cfOk_add ok88 fun args s r s' h1 h2 h3 => ?_
  unfold s36 at h3; split at h3
  · rename_i h; split at h3
    · rename_i hc; obtain ⟨rfl, rfl, rfl⟩ := hc; exact callOk ok88 Try.func36 h1 h2 h (lfOkF_no _ _).body (e36 _) rfl h3
    · exact ok88 _ _ _ _ _ h1 h2 h3
  · exact ok88 _ _ _ _ _ h1 h2 h3

/-- spec.l01Same -/
noncomputable def r60 (x0 x1 : Nat) : Bool :=
 cond (!feq .f32 x0 x0)
  ((!feq .f32 x1 x1))
  (cond (!feq .f32 x1 x1)
   (false)
   (((((x0 : Nat) : Int) : Int) == ((x1 : Nat) : Int))))
noncomputable def a60 (x0 x1 : Nat) (p : Bool) : Res := firstT [(true, .bool p, st0)]
noncomputable def w60 (x0 x1 : Nat) : Res :=
 (cond (!feq .f32 x0 x0)
 (cond (!feq .f32 x0 x0)
  (a60 x0 x1 ((!feq .f32 x1 x1)))
  (some (.bool false, st0)))
 (cond (!feq .f32 x1 x1)
  (cond (!feq .f32 x0 x0)
   (some (.bool (!feq .f32 x1 x1), st0))
   (a60 x0 x1 (false)))
  (cond (!isN .f32 x0)
   (cond (!isN .f32 x1)
    (a60 x0 x1 (((((x0 : Nat) : Int) : Int) == ((x1 : Nat) : Int))))
    none)
   (cond (!isN .f32 x1)
    (cond (decide ((0 : Int) ≤ ((x1 : Nat) : Int)) && (!isN .f32 x1))
     (some (.bool false, st0))
     none)
    none))))
set_option maxRecDepth 100000 in
set_option maxHeartbeats 4000000 in
theorem e60 (x0 x1 : Nat) : evFn Try.prog ext T89 noL 200 Try.f60 [.float .f32 x0, .float .f32 x1] st0 = firstT [(true, .bool (r60 x0 x1), st0)] :=
 (show evFn Try.prog ext T89 noL 200 Try.f60 [.float .f32 x0, .float .f32 x1] st0 = w60 x0 x1 from by kernel_rfl).trans
 (show w60 x0 x1 = a60 x0 x1 (r60 x0 x1) from by unfold w60 r60; exact (cond_both (a60 x0 x1) _ (fun h0 => (cond_t (ev_not1 (ev_nott h0)) rfl)) (fun h0 => (cond_both (a60 x0 x1) _ (fun h1 => (cond_f (ev_not0 (ev_notf h0)) rfl)) (fun h1 => (cond_t (ev_not1 (ev_eq1 (ev_notf h0))) (cond_t (ev_not1 (ev_eq1 (ev_notf h1))) rfl)))))))
noncomputable def s60 (args : List Value) (s : St) : List (Bool × Value × St) :=
 match args, s.h with
 | [.float .f32 x0, .float .f32 x1], [] => [(true, .bool (r60 x0 x1), st0)]
 | _, _ => T89 60 args s
noncomputable def T90 : CallF := addF T89 60 s60
set_option maxRecDepth 100000 in
set_option maxHeartbeats 4000000 in
theorem ok90 : CfOk Try.prog T90 := by
  refine cfOk_add ok89 fun args s r s' h1 h2 h3 => ?_
  unfold s60 at h3; split at h3
  · rename_i h; exact callOk ok89 Try.func60 h1 h2 h (lfOkF_no _ _).body (e60 _ _) rfl h3
  · exact ok89 _ _ _ _ _ h1 h2 h3

/-- spec.l03Same, loop 0: one round -/
noncomputable def b75l0b (ih : Int → List (List Int) → List (List Int) → Nat) (x0 : Int) (x1 x2 : List (List Int)) : Nat :=
 cond (decide ((x0 : Int) < ((x1.length : Nat) : Int)))
  (cond ((decide ((0 : Int) ≤ x0)) && (Nat.blt (Int.toNat x0) x1.length))
   (cond ((decide ((0 : Int) ≤ x0)) && (Nat.blt (Int.toNat x0) x2.length))
    (cond (!(r60 (Int.toNat ((x1.getD (Int.toNat x0) []).getD 0 0)) (Int.toNat ((x2.getD (Int.toNat x0) []).getD 0 0))))
     (0)
     (cond (!(r60 (Int.toNat ((x1.getD (Int.toNat x0) []).getD 1 0)) (Int.toNat ((x2.getD (Int.toNat x0) []).getD 1 0))))
      (0)
      (cond (!(r60 (Int.toNat ((x1.getD (Int.toNat x0) []).getD 2 0)) (Int.toNat ((x2.getD (Int.toNat x0) []).getD 2 0))))
       (0)
       (cond (!(r60 (Int.toNat ((x1.getD (Int.toNat x0) []).getD 3 0)) (Int.toNat ((x2.getD (Int.toNat x0) []).getD 3 0))))
        (0)
        (cond ((((x1.getD (Int.toNat x0) []).getD 4 0) : Int) != ((x2.getD (Int.toNat x0) []).getD 4 0))
         (0)
         (ih (IntKind.i64.wrap (x0 + 1)) x1 x2))))))
    (2))
   (2))
  (1)
noncomputable def r75l0b : Nat → Int → List (List Int) → List (List Int) → Nat
 | 0 => fun _ _ _ => (2)
 | m + 1 => b75l0b (r75l0b m)
noncomputable def a75l0b (x0 : Int) (x1 x2 : List (List Int)) (p : Nat) : Option (Fin' × List Value × St) := firstT ([((Nat.beq p 0), .ret, [.bool false], ⟨[⟨true, (some (.tab sc0 x1))⟩, ⟨true, (some (.tab sc0 x2))⟩], 2, []⟩), ((Nat.beq p 1), .exit 0, [anyV], ⟨[⟨true, (some (.tab sc0 x1))⟩, ⟨true, (some (.tab sc0 x2))⟩], 2, []⟩)].map fun (b, x) => (b, (x.1, frameOf 84 [4] x.2.1, x.2.2)))
noncomputable def u75l0b (x0 : Int) (x1 x2 : List (List Int)) (p : Nat) : Option (Fin' × List Value × St) := alts ([((Nat.beq p 0), .ret, [.bool false], ⟨[⟨true, (some (.tab sc0 x1))⟩, ⟨true, (some (.tab sc0 x2))⟩], 2, []⟩), ((Nat.beq p 1), .exit 0, [anyV], ⟨[⟨true, (some (.tab sc0 x1))⟩, ⟨true, (some (.tab sc0 x2))⟩], 2, []⟩)].map fun (b, x) => (b, (x.1, frameOf 84 [4] x.2.1, x.2.2))) some
theorem v75l0b (x0 : Int) (x1 x2 : List (List Int)) (p : Nat) : u75l0b x0 x1 x2 p = a75l0b x0 x1 x2 p := alts_first _
noncomputable def q75l0b (m : Nat) : SumK := fun vals s =>
 match vals, s.h with
 | [.iface f0 .nilIface, .iface f1 .nilIface, .int .i64 x0], [⟨true, some (.tab [.fl .f32, .fl .f32, .fl .f32, .fl .f32, .int .i64] x1)⟩, ⟨true, some (.tab [.fl .f32, .fl .f32, .fl .f32, .fl .f32, .int .i64] x2)⟩] => if f0 = 0 ∧ f1 = 1 then [((Nat.beq (r75l0b m x0 x1 x2) 0), .ret, [.bool false], ⟨[⟨true, (some (.tab sc0 x1))⟩, ⟨true, (some (.tab sc0 x2))⟩], 2, []⟩), ((Nat.beq (r75l0b m x0 x1 x2) 1), .exit 0, [anyV], ⟨[⟨true, (some (.tab sc0 x1))⟩, ⟨true, (some (.tab sc0 x2))⟩], 2, []⟩)] else Q75l0 vals s
 | _, _ => Q75l0 vals s
noncomputable def w75l0b (ih : Int → List (List Int) → List (List Int) → Nat) (x0 : Int) (x1 x2 : List (List Int)) : Option (Fin' × List Value × St) :=
 (cond (decide ((x0 : Int) < ((x1.length : Nat) : Int)))
 (cond ((decide ((0 : Int) ≤ x0)) && (Nat.blt (Int.toNat x0) x1.length))
  (cond (Nat.blt (Int.toNat x0) x1.length)
   (cond ((decide ((0 : Int) ≤ x0)) && (Nat.blt (Int.toNat x0) x2.length))
    (cond (Nat.blt (Int.toNat x0) x2.length)
     (cond (!(r60 (Int.toNat ((x1.getD (Int.toNat x0) []).getD 0 0)) (Int.toNat ((x2.getD (Int.toNat x0) []).getD 0 0))))
      (a75l0b x0 x1 x2 (0))
      (cond ((decide ((0 : Int) ≤ x0)) && (Nat.blt (Int.toNat x0) x1.length))
       (cond (Nat.blt (Int.toNat x0) x1.length)
        (cond ((decide ((0 : Int) ≤ x0)) && (Nat.blt (Int.toNat x0) x2.length))
         (cond (Nat.blt (Int.toNat x0) x2.length)
          (cond (!(r60 (Int.toNat ((x1.getD (Int.toNat x0) []).getD 1 0)) (Int.toNat ((x2.getD (Int.toNat x0) []).getD 1 0))))
           (a75l0b x0 x1 x2 (0))
           (cond ((decide ((0 : Int) ≤ x0)) && (Nat.blt (Int.toNat x0) x1.length))
            (cond (Nat.blt (Int.toNat x0) x1.length)
             (cond ((decide ((0 : Int) ≤ x0)) && (Nat.blt (Int.toNat x0) x2.length))
              (cond (Nat.blt (Int.toNat x0) x2.length)
               (cond (!(r60 (Int.toNat ((x1.getD (Int.toNat x0) []).getD 2 0)) (Int.toNat ((x2.getD (Int.toNat x0) []).getD 2 0))))
                (a75l0b x0 x1 x2 (0))
                (cond ((decide ((0 : Int) ≤ x0)) && (Nat.blt (Int.toNat x0) x1.length))
                 (cond (Nat.blt (Int.toNat x0) x1.length)
                  (cond ((decide ((0 : Int) ≤ x0)) && (Nat.blt (Int.toNat x0) x2.length))
                   (cond (Nat.blt (Int.toNat x0) x2.length)
                    (cond (!(r60 (Int.toNat ((x1.getD (Int.toNat x0) []).getD 3 0)) (Int.toNat ((x2.getD (Int.toNat x0) []).getD 3 0))))
                     (a75l0b x0 x1 x2 (0))
                     (cond ((decide ((0 : Int) ≤ x0)) && (Nat.blt (Int.toNat x0) x1.length))
                      (cond (Nat.blt (Int.toNat x0) x1.length)
                       (cond ((decide ((0 : Int) ≤ x0)) && (Nat.blt (Int.toNat x0) x2.length))
                        (cond (Nat.blt (Int.toNat x0) x2.length)
                         (cond ((((x1.getD (Int.toNat x0) []).getD 4 0) : Int) != ((x2.getD (Int.toNat x0) []).getD 4 0))
                          (a75l0b x0 x1 x2 (0))
                          (u75l0b x0 x1 x2 (ih (IntKind.i64.wrap (x0 + 1)) x1 x2)))
                         none)
                        none)
                       none)
                      none))
                    none)
                   none)
                  none)
                 none))
               none)
              none)
             none)
            none))
          none)
         none)
        none)
       none))
     none)
    none)
   none)
  none)
 (a75l0b x0 x1 x2 (1)))
set_option maxRecDepth 100000 in
set_option maxHeartbeats 4000000 in
theorem e75l0b (m : Nat) (x0 : Int) (x1 x2 : List (List Int)) : evC Try.prog ext T90 L75_1 200 (loopN Try.f75 0) (loopTail ([0, 1, 5], []) [4] [] (sumK 84 [0, 1, 5] [4] (q75l0b m))) (frameOf 84 [0, 1, 5] [wsl 0, wsl 1, .int .i64 x0]) ⟨[⟨true, (some (.tab sc0 x1))⟩, ⟨true, (some (.tab sc0 x2))⟩], 2, []⟩ = firstT ([((Nat.beq (r75l0b (m + 1) x0 x1 x2) 0), .ret, [.bool false], ⟨[⟨true, (some (.tab sc0 x1))⟩, ⟨true, (some (.tab sc0 x2))⟩], 2, []⟩), ((Nat.beq (r75l0b (m + 1) x0 x1 x2) 1), .exit 0, [anyV], ⟨[⟨true, (some (.tab sc0 x1))⟩, ⟨true, (some (.tab sc0 x2))⟩], 2, []⟩)].map fun (b, x) => (b, (x.1, frameOf 84 [4] x.2.1, x.2.2))) :=
 (show evC Try.prog ext T90 L75_1 200 (loopN Try.f75 0) (loopTail ([0, 1, 5], []) [4] [] (sumK 84 [0, 1, 5] [4] (q75l0b m))) (frameOf 84 [0, 1, 5] [wsl 0, wsl 1, .int .i64 x0]) ⟨[⟨true, (some (.tab sc0 x1))⟩, ⟨true, (some (.tab sc0 x2))⟩], 2, []⟩ = w75l0b (r75l0b m) x0 x1 x2 from by kernel_rfl).trans
 (show w75l0b (r75l0b m) x0 x1 x2 = a75l0b x0 x1 x2 (r75l0b (m + 1) x0 x1 x2) from by unfold w75l0b; show _ = a75l0b x0 x1 x2 (b75l0b (r75l0b m) x0 x1 x2); unfold b75l0b; exact (cond_both (a75l0b x0 x1 x2) _ (fun h0 => (cond_both (a75l0b x0 x1 x2) _ (fun h1 => (cond_t (ev_and2 h1) (cond_both (a75l0b x0 x1 x2) _ (fun h2 => (cond_t (ev_and2 h2) (cond_both (a75l0b x0 x1 x2) _ (fun h3 => rfl) (fun h3 => (cond_t h1 (cond_t (ev_and2 h1) (cond_t h2 (cond_t (ev_and2 h2) (cond_both (a75l0b x0 x1 x2) _ (fun h4 => rfl) (fun h4 => (cond_t h1 (cond_t (ev_and2 h1) (cond_t h2 (cond_t (ev_and2 h2) (cond_both (a75l0b x0 x1 x2) _ (fun h5 => rfl) (fun h5 => (cond_t h1 (cond_t (ev_and2 h1) (cond_t h2 (cond_t (ev_and2 h2) (cond_both (a75l0b x0 x1 x2) _ (fun h6 => rfl) (fun h6 => (cond_t h1 (cond_t (ev_and2 h1) (cond_t h2 (cond_t (ev_and2 h2) (cond_app (a75l0b x0 x1 x2) _ rfl (v75l0b x0 x1 x2 ((r75l0b m) (IntKind.i64.wrap (x0 + 1)) x1 x2))))))))))))))))))))))))))))) (fun h2 => rfl)))) (fun h1 => rfl))) (fun h0 => rfl)))
set_option maxRecDepth 100000 in
set_option maxHeartbeats 4000000 in
theorem qm75l0b : ∀ m, SumKOk Try.prog (loopN Try.f75 0) 84 [0, 1, 5] [4] (q75l0b m) := by
  intro m
  induction m with
  | zero =>
    intro vals s x h1 h2 h3
    unfold q75l0b at h3; split at h3
    · rename_i h; split at h3
      · rename_i hc; obtain ⟨rfl, rfl⟩ := hc; exact absurd h3 (by simp [r75l0b, firstT, Nat.beq])
      · exact qok75l0 _ _ _ h1 h2 h3
    · exact qok75l0 _ _ _ h1 h2 h3
  | succ m ih =>
    intro vals s x h1 h2 h3
    unfold q75l0b at h3; split at h3
    · rename_i h; split at h3
      · rename_i hc; obtain ⟨rfl, rfl⟩ := hc; exact sum_step ok90 extOk mixed (lok75_1.inner (by kernel_rfl)) ih h1 h2 h (e75l0b m _ _ _) rfl h3
      · exact qok75l0 _ _ _ h1 h2 h3
    · exact qok75l0 _ _ _ h1 h2 h3
noncomputable def Q75l0b : SumK := fun vals s => q75l0b (fuelOf vals s.h) vals s
theorem qok75l0b : SumKOk Try.prog (loopN Try.f75 0) 84 [0, 1, 5] [4] Q75l0b := fuel_ok qm75l0b fuelOf
noncomputable def L75_2 : LoopT := addL L75_1 5 ([0, 1, 5], []) (sumK 84 [0, 1, 5] [4] Q75l0b)
theorem lok75_2 : LfOkF Try.prog L75_2 Try.f75 := lfOkF_add lok75_1 qok75l0b (by kernel_rfl) (by kernel_rfl) (by kernel_rfl)

/-- spec.l03Same -/
noncomputable def r75b (x0 x1 : List (List Int)) : Nat × Bool :=
 cond ((((x0.length : Nat) : Int) : Int) != ((x1.length : Nat) : Int))
  (0, false)
  (cond (Nat.beq (r75l0b (1000 + x1.length + x0.length) 0 x0 x1) 0)
   (0, false)
   (cond (Nat.beq (r75l0b (1000 + x1.length + x0.length) 0 x0 x1) 1)
    (0, true)
    (1, false)))
noncomputable def a75b (x0 x1 : List (List Int)) (p : Nat × Bool) : Res := firstT [((Nat.beq (p.1) 0), .bool (p.2), ⟨[⟨true, (some (.tab sc0 x0))⟩, ⟨true, (some (.tab sc0 x1))⟩], 2, []⟩)]
noncomputable def w75b (x0 x1 : List (List Int)) : Res :=
 (cond ((((x0.length : Nat) : Int) : Int) != ((x1.length : Nat) : Int))
 (a75b x0 x1 (0, false))
 (cond (Nat.beq (r75l0b (1000 + x1.length + x0.length) 0 x0 x1) 0)
  (a75b x0 x1 (0, false))
  (cond (Nat.beq (r75l0b (1000 + x1.length + x0.length) 0 x0 x1) 1)
   (a75b x0 x1 (0, true))
   none)))
set_option maxRecDepth 100000 in
set_option maxHeartbeats 4000000 in
theorem e75b (x0 x1 : List (List Int)) : evFn Try.prog ext T90 L75_2 200 Try.f75 [wsl 0, wsl 1] ⟨[⟨true, (some (.tab sc0 x0))⟩, ⟨true, (some (.tab sc0 x1))⟩], 2, []⟩ = firstT [((Nat.beq ((r75b x0 x1).1) 0), .bool ((r75b x0 x1).2), ⟨[⟨true, (some (.tab sc0 x0))⟩, ⟨true, (some (.tab sc0 x1))⟩], 2, []⟩)] :=
 (show evFn Try.prog ext T90 L75_2 200 Try.f75 [wsl 0, wsl 1] ⟨[⟨true, (some (.tab sc0 x0))⟩, ⟨true, (some (.tab sc0 x1))⟩], 2, []⟩ = w75b x0 x1 from by kernel_rfl).trans
 (show w75b x0 x1 = a75b x0 x1 (r75b x0 x1) from by unfold w75b r75b; exact (cond_app (a75b x0 x1) _ rfl (cond_app (a75b x0 x1) _ rfl (cond_app (a75b x0 x1) _ rfl rfl))))
noncomputable def s75b (args : List Value) (s : St) : List (Bool × Value × St) :=
 match args, s.h with
 | [.iface f0 .nilIface, .iface f1 .nilIface], [⟨true, some (.tab [.fl .f32, .fl .f32, .fl .f32, .fl .f32, .int .i64] x0)⟩, ⟨true, some (.tab [.fl .f32, .fl .f32, .fl .f32, .fl .f32, .int .i64] x1)⟩] => if f0 = 0 ∧ f1 = 1 then [((Nat.beq ((r75b x0 x1).1) 0), .bool ((r75b x0 x1).2), ⟨[⟨true, (some (.tab sc0 x0))⟩, ⟨true, (some (.tab sc0 x1))⟩], 2, []⟩)] else T90 75 args s
 | _, _ => T90 75 args s
noncomputable def T91 : CallF := addF T90 75 s75b
set_option maxRecDepth 100000 in
set_option maxHeartbeats 4000000 in
theorem ok91 : CfOk Try.prog T91 := by
  refine cfOk_add ok90 fun args s r s' h1 h2 h3 => ?_
  unfold s75b at h3; split at h3
  · rename_i h; split at h3
    · rename_i hc; obtain ⟨rfl, rfl⟩ := hc; exact callOk ok90 Try.func75 h1 h2 h lok75_2.body (e75b _ _) rfl h3
    · exact ok90 _ _ _ _ _ h1 h2 h3
  · exact ok90 _ _ _ _ _ h1 h2 h3

/-- spec.SameChimney -/
noncomputable def r36b (x0 x1 : List (List Int)) : Nat × Bool :=
 cond (Nat.beq ((r75b x0 x1).1) 0)
  (0, ((r75b x0 x1).2))
  (1, false)
noncomputable def a36b (x0 x1 : List (List Int)) (p : Nat × Bool) : Res := firstT [((Nat.beq (p.1) 0), .bool (p.2), ⟨[⟨true, (some (.tab sc0 x0))⟩, ⟨true, (some (.tab sc0 x1))⟩], 2, []⟩)]
noncomputable def w36b (x0 x1 : List (List Int)) : Res :=
 (cond (Nat.beq ((r75b x0 x1).1) 0)
 (a36b x0 x1 (0, ((r75b x0 x1).2)))
 none)
set_option maxRecDepth 100000 in
set_option maxHeartbeats 4000000 in
theorem e36b (x0 x1 : List (List Int)) : evFn Try.prog ext T91 noL 200 Try.f36 [wsl 0, wsl 1] ⟨[⟨true, (some (.tab sc0 x0))⟩, ⟨true, (some (.tab sc0 x1))⟩], 2, []⟩ = firstT [((Nat.beq ((r36b x0 x1).1) 0), .bool ((r36b x0 x1).2), ⟨[⟨true, (some (.tab sc0 x0))⟩, ⟨true, (some (.tab sc0 x1))⟩], 2, []⟩)] :=
 (show evFn Try.prog ext T91 noL 200 Try.f36 [wsl 0, wsl 1] ⟨[⟨true, (some (.tab sc0 x0))⟩, ⟨true, (some (.tab sc0 x1))⟩], 2, []⟩ = w36b x0 x1 from by kernel_rfl).trans
 (show w36b x0 x1 = a36b x0 x1 (r36b x0 x1) from by unfold w36b r36b; exact (cond_app (a36b x0 x1) _ rfl rfl))
noncomputable def s36b (args : List Value) (s : St) : List (Bool × Value × St) :=
 match args, s.h with
 | [.iface f0 .nilIface, .iface f1 .nilIface], [⟨true, some (.tab [.fl .f32, .fl .f32, .fl .f32, .fl .f32, .int .i64] x0)⟩, ⟨true, some (.tab [.fl .f32, .fl .f32, .fl .f32, .fl .f32, .int .i64] x1)⟩] => if f0 = 0 ∧ f1 = 1 then [((Nat.beq ((r36b x0 x1).1) 0), .bool ((r36b x0 x1).2), ⟨[⟨true, (some (.tab sc0 x0))⟩, ⟨true, (some (.tab sc0 x1))⟩], 2, []⟩)] else T91 36 args s
 | _, _ => T91 36 args s
noncomputable def T92 : CallF := addF T91 36 s36b
set_option maxRecDepth 100000 in
set_option maxHeartbeats 4000000 in
theorem ok92 : CfOk Try.prog T92 := by
  refine cfOk_add ok91 fun args s r s' h1 h2 h3 => ?_
  unfold s36b at h3; split at h3
  · rename_i h; split at h3
    · rename_i hc; obtain ⟨rfl, rfl⟩ := hc; exact callOk ok91 Try.func36 h1 h2 h (lfOkF_no _ _).body (e36b _ _) rfl h3
    · exact ok91 _ _ _ _ _ h1 h2 h3
  · exact ok91 _ _ _ _ _ h1 h2 h3

/-- laws.FnDampers -/
noncomputable def r7 (x0 x1 : List (List Int)) : Nat × Bool :=
 let c502 := (r36 ((r35 ((r14 ((((r13 x0).2).length : Nat) : Int) x1).2) (fdiv .f32 (ofInt .f32 ((r14 17 x1).2)) 1098907648) ((r13 x0).2)).2.2))
 let c503 := (r29 ((r14 ((((r13 x0).2).length : Nat) : Int) x1).2) (fdiv .f32 (ofInt .f32 (IntKind.i64.wrap (1 + ((r14 12 x0).2)))) 1098907648) 0 0 ((r13 x0).2))
 let c504 := (r28 ((r14 ((((r13 x0).2).length : Nat) : Int) x1).2) (fdiv .f32 (ofInt .f32 (IntKind.i64.wrap (1 + ((r14 12 x0).2)))) 1098907648) 0 0 ((r13 x0).2))
 let c505 := (r36b ((r34 ((r14 ((((r13 x0).2).length : Nat) : Int) x1).2) (fdiv .f32 (ofInt .f32 ((r14 17 x1).2)) 1098907648) ((r13 x0).2)).2.2) ((r35 ((r14 ((((r13 x0).2).length : Nat) : Int) x1).2) (fdiv .f32 (ofInt .f32 ((r14 17 x1).2)) 1098907648) ((r13 x0).2)).2.2))
 cond (r12 x0)
  (0, true)
  (cond (r12 x1)
   (0, true)
   (cond (Nat.beq ((r13 x0).1) 0)
    (cond (Nat.beq ((r14 ((((r13 x0).2).length : Nat) : Int) x1).1) 0)
     (cond (Nat.beq ((r14 17 x1).1) 0)
      (cond (Nat.beq ((r34 ((r14 ((((r13 x0).2).length : Nat) : Int) x1).2) (fdiv .f32 (ofInt .f32 ((r14 17 x1).2)) 1098907648) ((r13 x0).2)).1) 0)
       (cond (Nat.beq ((r35 ((r14 ((((r13 x0).2).length : Nat) : Int) x1).2) (fdiv .f32 (ofInt .f32 ((r14 17 x1).2)) 1098907648) ((r13 x0).2)).1) 0)
        (cond ((((r34 ((r14 ((((r13 x0).2).length : Nat) : Int) x1).2) (fdiv .f32 (ofInt .f32 ((r14 17 x1).2)) 1098907648) ((r13 x0).2)).2.1) : Int) != ((r35 ((r14 ((((r13 x0).2).length : Nat) : Int) x1).2) (fdiv .f32 (ofInt .f32 ((r14 17 x1).2)) 1098907648) ((r13 x0).2)).2.1))
         (0, false)
         (cond ((((r34 ((r14 ((((r13 x0).2).length : Nat) : Int) x1).2) (fdiv .f32 (ofInt .f32 ((r14 17 x1).2)) 1098907648) ((r13 x0).2)).2.1) : Int) != 0)
          (0, false)
          (cond (!c502)
           (0, false)
           (cond (Nat.beq ((r14 12 x0).1) 0)
            (cond (Nat.beq (c503.1) 0)
             (cond (Nat.beq (c504.1) 0)
              (cond (((c503.2.2) : Int) != (c504.2.2))
               (0, false)
               (cond (!feq .f32 (c503.2.1) (c504.2.1))
                (0, false)
                (cond (((c503.2.2) : Int) != 0)
                 (0, (((c503.2.2) : Int) == 6))
                 (cond (Nat.beq ((r35 ((r14 ((((r13 x0).2).length : Nat) : Int) x1).2) (c504.2.1) ((r13 x0).2)).1) 0)
                  (cond (Nat.beq ((r15 0 0 ((r35 ((r14 ((((r13 x0).2).length : Nat) : Int) x1).2) (c504.2.1) ((r13 x0).2)).2.2)).1) 0)
                   (cond ((((r35 ((r14 ((((r13 x0).2).length : Nat) : Int) x1).2) (c504.2.1) ((r13 x0).2)).2.1) : Int) != 0)
                    (0, false)
                    (cond ((((r15 0 0 ((r35 ((r14 ((((r13 x0).2).length : Nat) : Int) x1).2) (c504.2.1) ((r13 x0).2)).2.2)).2.1) : Int) != 0)
                     (0, false)
                     (cond ((0 : Int) != ((((r13 x0).2).length : Nat) : Int))
                      (0, false)
                      (1, false))))
                   (cond (Nat.beq ((r15 0 0 ((r35 ((r14 ((((r13 x0).2).length : Nat) : Int) x1).2) (c504.2.1) ((r13 x0).2)).2.2)).1) 1)
                    (cond ((((r35 ((r14 ((((r13 x0).2).length : Nat) : Int) x1).2) (c504.2.1) ((r13 x0).2)).2.1) : Int) != 0)
                     (0, false)
                     (cond ((((((r15 0 0 ((r35 ((r14 ((((r13 x0).2).length : Nat) : Int) x1).2) (c504.2.1) ((r13 x0).2)).2.2)).2.2).length : Nat) : Int) : Int) != ((((r13 x0).2).length : Nat) : Int))
                      (0, false)
                      (cond ((decide ((0 : Int) ≤ ((r14 ((((r13 x0).2).length : Nat) : Int) x1).2))) && (Nat.blt (Int.toNat ((r14 ((((r13 x0).2).length : Nat) : Int) x1).2)) (((r15 0 0 ((r35 ((r14 ((((r13 x0).2).length : Nat) : Int) x1).2) (c504.2.1) ((r13 x0).2)).2.2)).2.2).length)))
                       (cond (flt .f32 (Int.toNat ((((r15 0 0 ((r35 ((r14 ((((r13 x0).2).length : Nat) : Int) x1).2) (c504.2.1) ((r13 x0).2)).2.2)).2.2).getD (Int.toNat ((r14 ((((r13 x0).2).length : Nat) : Int) x1).2)) []).getD 0 0)) (fdiv .f32 (ofInt .f32 (IntKind.i64.wrap (1 + ((r14 12 x0).2)))) 1098907648))
                        (0, false)
                        (cond (flt .f32 (c504.2.1) 0 || feq .f32 (c504.2.1) 0)
                         (0, false)
                         (cond (Nat.beq ((r35 ((r14 ((((r13 x0).2).length : Nat) : Int) x1).2) (fsub .f32 (c504.2.1) 1015021568) ((r13 x0).2)).1) 0)
                          (cond (Nat.beq ((r15 0 0 ((r35 ((r14 ((((r13 x0).2).length : Nat) : Int) x1).2) (fsub .f32 (c504.2.1) 1015021568) ((r13 x0).2)).2.2)).1) 0)
                           (cond ((((r35 ((r14 ((((r13 x0).2).length : Nat) : Int) x1).2) (fsub .f32 (c504.2.1) 1015021568) ((r13 x0).2)).2.1) : Int) == 0)
                            (cond ((((r15 0 0 ((r35 ((r14 ((((r13 x0).2).length : Nat) : Int) x1).2) (fsub .f32 (c504.2.1) 1015021568) ((r13 x0).2)).2.2)).2.1) : Int) == 0)
                             (cond ((0 : Int) == ((((r13 x0).2).length : Nat) : Int))
                              (1, false)
                              (0, false))
                             (0, false))
                            (0, false))
                           (cond (Nat.beq ((r15 0 0 ((r35 ((r14 ((((r13 x0).2).length : Nat) : Int) x1).2) (fsub .f32 (c504.2.1) 1015021568) ((r13 x0).2)).2.2)).1) 1)
                            (cond ((((r35 ((r14 ((((r13 x0).2).length : Nat) : Int) x1).2) (fsub .f32 (c504.2.1) 1015021568) ((r13 x0).2)).2.1) : Int) == 0)
                             (cond ((((((r15 0 0 ((r35 ((r14 ((((r13 x0).2).length : Nat) : Int) x1).2) (fsub .f32 (c504.2.1) 1015021568) ((r13 x0).2)).2.2)).2.2).length : Nat) : Int) : Int) == ((((r13 x0).2).length : Nat) : Int))
                              (cond ((decide ((0 : Int) ≤ ((r14 ((((r13 x0).2).length : Nat) : Int) x1).2))) && (Nat.blt (Int.toNat ((r14 ((((r13 x0).2).length : Nat) : Int) x1).2)) (((r15 0 0 ((r35 ((r14 ((((r13 x0).2).length : Nat) : Int) x1).2) (fsub .f32 (c504.2.1) 1015021568) ((r13 x0).2)).2.2)).2.2).length)))
                               (0, (flt .f32 (Int.toNat ((((r15 0 0 ((r35 ((r14 ((((r13 x0).2).length : Nat) : Int) x1).2) (fsub .f32 (c504.2.1) 1015021568) ((r13 x0).2)).2.2)).2.2).getD (Int.toNat ((r14 ((((r13 x0).2).length : Nat) : Int) x1).2)) []).getD 0 0)) (fdiv .f32 (ofInt .f32 (IntKind.i64.wrap (1 + ((r14 12 x0).2)))) 1098907648)))
                               (1, false))
                              (0, false))
                             (0, false))
                            (1, false)))
                          (1, false))))
                       (1, false))))
                    (1, false)))
                  (1, false)))))
              (1, false))
             (1, false))
            (1, false)))))
        (1, false))
       (cond (Nat.beq ((r34 ((r14 ((((r13 x0).2).length : Nat) : Int) x1).2) (fdiv .f32 (ofInt .f32 ((r14 17 x1).2)) 1098907648) ((r13 x0).2)).1) 1)
        (cond (Nat.beq ((r35 ((r14 ((((r13 x0).2).length : Nat) : Int) x1).2) (fdiv .f32 (ofInt .f32 ((r14 17 x1).2)) 1098907648) ((r13 x0).2)).1) 0)
         (cond ((0 : Int) != ((r35 ((r14 ((((r13 x0).2).length : Nat) : Int) x1).2) (fdiv .f32 (ofInt .f32 ((r14 17 x1).2)) 1098907648) ((r13 x0).2)).2.1))
          (0, false)
          (cond (Nat.beq (c505.1) 0)
           (cond (!(c505.2))
            (0, false)
            (cond (Nat.beq ((r14 12 x0).1) 0)
             (cond (Nat.beq (c503.1) 0)
              (cond (Nat.beq (c504.1) 0)
               (cond (((c503.2.2) : Int) != (c504.2.2))
                (0, false)
                (cond (!feq .f32 (c503.2.1) (c504.2.1))
                 (0, false)
                 (cond (((c503.2.2) : Int) != 0)
                  (0, (((c503.2.2) : Int) == 6))
                  (cond (Nat.beq ((r35 ((r14 ((((r13 x0).2).length : Nat) : Int) x1).2) (c504.2.1) ((r13 x0).2)).1) 0)
                   (cond (Nat.beq ((r15 0 0 ((r35 ((r14 ((((r13 x0).2).length : Nat) : Int) x1).2) (c504.2.1) ((r13 x0).2)).2.2)).1) 0)
                    (cond ((((r35 ((r14 ((((r13 x0).2).length : Nat) : Int) x1).2) (c504.2.1) ((r13 x0).2)).2.1) : Int) != 0)
                     (0, false)
                     (cond ((((r15 0 0 ((r35 ((r14 ((((r13 x0).2).length : Nat) : Int) x1).2) (c504.2.1) ((r13 x0).2)).2.2)).2.1) : Int) != 0)
                      (0, false)
                      (cond ((0 : Int) != ((((r13 x0).2).length : Nat) : Int))
                       (0, false)
                       (1, false))))
                    (cond (Nat.beq ((r15 0 0 ((r35 ((r14 ((((r13 x0).2).length : Nat) : Int) x1).2) (c504.2.1) ((r13 x0).2)).2.2)).1) 1)
                     (cond ((((r35 ((r14 ((((r13 x0).2).length : Nat) : Int) x1).2) (c504.2.1) ((r13 x0).2)).2.1) : Int) != 0)
                      (0, false)
                      (cond ((((((r15 0 0 ((r35 ((r14 ((((r13 x0).2).length : Nat) : Int) x1).2) (c504.2.1) ((r13 x0).2)).2.2)).2.2).length : Nat) : Int) : Int) != ((((r13 x0).2).length : Nat) : Int))
                       (0, false)
                       (cond ((decide ((0 : Int) ≤ ((r14 ((((r13 x0).2).length : Nat) : Int) x1).2))) && (Nat.blt (Int.toNat ((r14 ((((r13 x0).2).length : Nat) : Int) x1).2)) (((r15 0 0 ((r35 ((r14 ((((r13 x0).2).length : Nat) : Int) x1).2) (c504.2.1) ((r13 x0).2)).2.2)).2.2).length)))
                        (cond (flt .f32 (Int.toNat ((((r15 0 0 ((r35 ((r14 ((((r13 x0).2).length : Nat) : Int) x1).2) (c504.2.1) ((r13 x0).2)).2.2)).2.2).getD (Int.toNat ((r14 ((((r13 x0).2).length : Nat) : Int) x1).2)) []).getD 0 0)) (fdiv .f32 (ofInt .f32 (IntKind.i64.wrap (1 + ((r14 12 x0).2)))) 1098907648))
                         (0, false)
                         (cond (flt .f32 (c504.2.1) 0 || feq .f32 (c504.2.1) 0)
                          (0, false)
                          (cond (Nat.beq ((r35 ((r14 ((((r13 x0).2).length : Nat) : Int) x1).2) (fsub .f32 (c504.2.1) 1015021568) ((r13 x0).2)).1) 0)
                           (cond (Nat.beq ((r15 0 0 ((r35 ((r14 ((((r13 x0).2).length : Nat) : Int) x1).2) (fsub .f32 (c504.2.1) 1015021568) ((r13 x0).2)).2.2)).1) 0)
                            (cond ((((r35 ((r14 ((((r13 x0).2).length : Nat) : Int) x1).2) (fsub .f32 (c504.2.1) 1015021568) ((r13 x0).2)).2.1) : Int) == 0)
                             (cond ((((r15 0 0 ((r35 ((r14 ((((r13 x0).2).length : Nat) : Int) x1).2) (fsub .f32 (c504.2.1) 1015021568) ((r13 x0).2)).2.2)).2.1) : Int) == 0)
                              (cond ((0 : Int) == ((((r13 x0).2).length : Nat) : Int))
                               (1, false)
                               (0, false))
                              (0, false))
                             (0, false))
                            (cond (Nat.beq ((r15 0 0 ((r35 ((r14 ((((r13 x0).2).length : Nat) : Int) x1).2) (fsub .f32 (c504.2.1) 1015021568) ((r13 x0).2)).2.2)).1) 1)
                             (cond ((((r35 ((r14 ((((r13 x0).2).length : Nat) : Int) x1).2) (fsub .f32 (c504.2.1) 1015021568) ((r13 x0).2)).2.1) : Int) == 0)
                              (cond ((((((r15 0 0 ((r35 ((r14 ((((r13 x0).2).length : Nat) : Int) x1).2) (fsub .f32 (c504.2.1) 1015021568) ((r13 x0).2)).2.2)).2.2).length : Nat) : Int) : Int) == ((((r13 x0).2).length : Nat) : Int))
                               (cond ((decide ((0 : Int) ≤ ((r14 ((((r13 x0).2).length : Nat) : Int) x1).2))) && (Nat.blt (Int.toNat ((r14 ((((r13 x0).2).length : Nat) : Int) x1).2)) (((r15 0 0 ((r35 ((r14 ((((r13 x0).2).length : Nat) : Int) x1).2) (fsub .f32 (c504.2.1) 1015021568) ((r13 x0).2)).2.2)).2.2).length)))
                                (0, (flt .f32 (Int.toNat ((((r15 0 0 ((r35 ((r14 ((((r13 x0).2).length : Nat) : Int) x1).2) (fsub .f32 (c504.2.1) 1015021568) ((r13 x0).2)).2.2)).2.2).getD (Int.toNat ((r14 ((((r13 x0).2).length : Nat) : Int) x1).2)) []).getD 0 0)) (fdiv .f32 (ofInt .f32 (IntKind.i64.wrap (1 + ((r14 12 x0).2)))) 1098907648)))
                                (1, false))
                               (0, false))
                              (0, false))
                             (1, false)))
                           (1, false))))
                        (1, false))))
                     (1, false)))
                   (1, false)))))
               (1, false))
              (1, false))
             (1, false)))
           (1, false)))
         (1, false))
        (1, false)))
      (1, false))
     (1, false))
    (1, false)))
noncomputable def a7 (x0 x1 : List (List Int)) (p : Nat × Bool) : Res := firstT [((Nat.beq (p.1) 0), .bool (p.2), ⟨[⟨false, (some (.tab [.int .u8] x0))⟩, ⟨false, (some (.tab [.int .u8] x1))⟩], 2, []⟩)]
noncomputable def w7 (x0 x1 : List (List Int)) : Res :=
 let c502 := (r36 ((r35 ((r14 ((((r13 x0).2).length : Nat) : Int) x1).2) (fdiv .f32 (ofInt .f32 ((r14 17 x1).2)) 1098907648) ((r13 x0).2)).2.2))
 let c503 := (r29 ((r14 ((((r13 x0).2).length : Nat) : Int) x1).2) (fdiv .f32 (ofInt .f32 (IntKind.i64.wrap (1 + ((r14 12 x0).2)))) 1098907648) 0 0 ((r13 x0).2))
 let c504 := (r28 ((r14 ((((r13 x0).2).length : Nat) : Int) x1).2) (fdiv .f32 (ofInt .f32 (IntKind.i64.wrap (1 + ((r14 12 x0).2)))) 1098907648) 0 0 ((r13 x0).2))
 let c505 := (r36b ((r34 ((r14 ((((r13 x0).2).length : Nat) : Int) x1).2) (fdiv .f32 (ofInt .f32 ((r14 17 x1).2)) 1098907648) ((r13 x0).2)).2.2) ((r35 ((r14 ((((r13 x0).2).length : Nat) : Int) x1).2) (fdiv .f32 (ofInt .f32 ((r14 17 x1).2)) 1098907648) ((r13 x0).2)).2.2))
 (cond (r12 x0)
 (a7 x0 x1 (0, true))
 (cond (r12 x1)
  (a7 x0 x1 (0, true))
  (cond (Nat.beq ((r13 x0).1) 0)
   (cond (Nat.beq ((r14 ((((r13 x0).2).length : Nat) : Int) x1).1) 0)
    (cond (Nat.beq ((r14 17 x1).1) 0)
     (cond (Nat.beq ((r34 ((r14 ((((r13 x0).2).length : Nat) : Int) x1).2) (fdiv .f32 (ofInt .f32 ((r14 17 x1).2)) 1098907648) ((r13 x0).2)).1) 0)
      (cond (Nat.beq ((r35 ((r14 ((((r13 x0).2).length : Nat) : Int) x1).2) (fdiv .f32 (ofInt .f32 ((r14 17 x1).2)) 1098907648) ((r13 x0).2)).1) 0)
       (cond ((((r34 ((r14 ((((r13 x0).2).length : Nat) : Int) x1).2) (fdiv .f32 (ofInt .f32 ((r14 17 x1).2)) 1098907648) ((r13 x0).2)).2.1) : Int) != ((r35 ((r14 ((((r13 x0).2).length : Nat) : Int) x1).2) (fdiv .f32 (ofInt .f32 ((r14 17 x1).2)) 1098907648) ((r13 x0).2)).2.1))
        (a7 x0 x1 (0, false))
        (cond ((((r34 ((r14 ((((r13 x0).2).length : Nat) : Int) x1).2) (fdiv .f32 (ofInt .f32 ((r14 17 x1).2)) 1098907648) ((r13 x0).2)).2.1) : Int) != 0)
         (a7 x0 x1 (0, false))
         (cond (!c502)
          (a7 x0 x1 (0, false))
          (cond (Nat.beq ((r14 12 x0).1) 0)
           (cond (Nat.beq (c503.1) 0)
            (cond (Nat.beq (c504.1) 0)
             (cond (((c503.2.2) : Int) != (c504.2.2))
              (a7 x0 x1 (0, false))
              (cond (!feq .f32 (c503.2.1) (c504.2.1))
               (a7 x0 x1 (0, false))
               (cond (((c503.2.2) : Int) != 0)
                (a7 x0 x1 (0, (((c503.2.2) : Int) == 6)))
                (cond (Nat.beq ((r35 ((r14 ((((r13 x0).2).length : Nat) : Int) x1).2) (c504.2.1) ((r13 x0).2)).1) 0)
                 (cond (Nat.beq ((r15 0 0 ((r35 ((r14 ((((r13 x0).2).length : Nat) : Int) x1).2) (c504.2.1) ((r13 x0).2)).2.2)).1) 0)
                  (cond ((((r35 ((r14 ((((r13 x0).2).length : Nat) : Int) x1).2) (c504.2.1) ((r13 x0).2)).2.1) : Int) != 0)
                   (a7 x0 x1 (0, false))
                   (cond ((((r15 0 0 ((r35 ((r14 ((((r13 x0).2).length : Nat) : Int) x1).2) (c504.2.1) ((r13 x0).2)).2.2)).2.1) : Int) != 0)
                    (a7 x0 x1 (0, false))
                    (cond ((0 : Int) != ((((r13 x0).2).length : Nat) : Int))
                     (a7 x0 x1 (0, false))
                     none)))
                  (cond (Nat.beq ((r15 0 0 ((r35 ((r14 ((((r13 x0).2).length : Nat) : Int) x1).2) (c504.2.1) ((r13 x0).2)).2.2)).1) 1)
                   (cond ((((r35 ((r14 ((((r13 x0).2).length : Nat) : Int) x1).2) (c504.2.1) ((r13 x0).2)).2.1) : Int) != 0)
                    (a7 x0 x1 (0, false))
                    (cond ((((((r15 0 0 ((r35 ((r14 ((((r13 x0).2).length : Nat) : Int) x1).2) (c504.2.1) ((r13 x0).2)).2.2)).2.2).length : Nat) : Int) : Int) != ((((r13 x0).2).length : Nat) : Int))
                     (a7 x0 x1 (0, false))
                     (cond ((decide ((0 : Int) ≤ ((r14 ((((r13 x0).2).length : Nat) : Int) x1).2))) && (Nat.blt (Int.toNat ((r14 ((((r13 x0).2).length : Nat) : Int) x1).2)) (((r15 0 0 ((r35 ((r14 ((((r13 x0).2).length : Nat) : Int) x1).2) (c504.2.1) ((r13 x0).2)).2.2)).2.2).length)))
                      (cond (Nat.blt (Int.toNat ((r14 ((((r13 x0).2).length : Nat) : Int) x1).2)) (((r15 0 0 ((r35 ((r14 ((((r13 x0).2).length : Nat) : Int) x1).2) (c504.2.1) ((r13 x0).2)).2.2)).2.2).length))
                       (cond (flt .f32 (Int.toNat ((((r15 0 0 ((r35 ((r14 ((((r13 x0).2).length : Nat) : Int) x1).2) (c504.2.1) ((r13 x0).2)).2.2)).2.2).getD (Int.toNat ((r14 ((((r13 x0).2).length : Nat) : Int) x1).2)) []).getD 0 0)) (fdiv .f32 (ofInt .f32 (IntKind.i64.wrap (1 + ((r14 12 x0).2)))) 1098907648))
                        (a7 x0 x1 (0, false))
                        (cond (flt .f32 (c504.2.1) 0 || feq .f32 (c504.2.1) 0)
                         (a7 x0 x1 (0, false))
                         (cond (Nat.beq ((r35 ((r14 ((((r13 x0).2).length : Nat) : Int) x1).2) (fsub .f32 (c504.2.1) 1015021568) ((r13 x0).2)).1) 0)
                          (cond (Nat.beq ((r15 0 0 ((r35 ((r14 ((((r13 x0).2).length : Nat) : Int) x1).2) (fsub .f32 (c504.2.1) 1015021568) ((r13 x0).2)).2.2)).1) 0)
                           (cond ((((r35 ((r14 ((((r13 x0).2).length : Nat) : Int) x1).2) (fsub .f32 (c504.2.1) 1015021568) ((r13 x0).2)).2.1) : Int) == 0)
                            (cond ((((r15 0 0 ((r35 ((r14 ((((r13 x0).2).length : Nat) : Int) x1).2) (fsub .f32 (c504.2.1) 1015021568) ((r13 x0).2)).2.2)).2.1) : Int) == 0)
                             (cond ((0 : Int) == ((((r13 x0).2).length : Nat) : Int))
                              none
                              (a7 x0 x1 (0, false)))
                             (a7 x0 x1 (0, false)))
                            (a7 x0 x1 (0, false)))
                           (cond (Nat.beq ((r15 0 0 ((r35 ((r14 ((((r13 x0).2).length : Nat) : Int) x1).2) (fsub .f32 (c504.2.1) 1015021568) ((r13 x0).2)).2.2)).1) 1)
                            (cond ((((r35 ((r14 ((((r13 x0).2).length : Nat) : Int) x1).2) (fsub .f32 (c504.2.1) 1015021568) ((r13 x0).2)).2.1) : Int) == 0)
                             (cond ((((((r15 0 0 ((r35 ((r14 ((((r13 x0).2).length : Nat) : Int) x1).2) (fsub .f32 (c504.2.1) 1015021568) ((r13 x0).2)).2.2)).2.2).length : Nat) : Int) : Int) == ((((r13 x0).2).length : Nat) : Int))
                              (cond ((decide ((0 : Int) ≤ ((r14 ((((r13 x0).2).length : Nat) : Int) x1).2))) && (Nat.blt (Int.toNat ((r14 ((((r13 x0).2).length : Nat) : Int) x1).2)) (((r15 0 0 ((r35 ((r14 ((((r13 x0).2).length : Nat) : Int) x1).2) (fsub .f32 (c504.2.1) 1015021568) ((r13 x0).2)).2.2)).2.2).length)))
                               (cond (Nat.blt (Int.toNat ((r14 ((((r13 x0).2).length : Nat) : Int) x1).2)) (((r15 0 0 ((r35 ((r14 ((((r13 x0).2).length : Nat) : Int) x1).2) (fsub .f32 (c504.2.1) 1015021568) ((r13 x0).2)).2.2)).2.2).length))
                                (a7 x0 x1 (0, (flt .f32 (Int.toNat ((((r15 0 0 ((r35 ((r14 ((((r13 x0).2).length : Nat) : Int) x1).2) (fsub .f32 (c504.2.1) 1015021568) ((r13 x0).2)).2.2)).2.2).getD (Int.toNat ((r14 ((((r13 x0).2).length : Nat) : Int) x1).2)) []).getD 0 0)) (fdiv .f32 (ofInt .f32 (IntKind.i64.wrap (1 + ((r14 12 x0).2)))) 1098907648))))
                                none)
                               none)
                              (a7 x0 x1 (0, false)))
                             (a7 x0 x1 (0, false)))
                            none))
                          none)))
                       none)
                      none)))
                   none))
                 none))))
             none)
            none)
           none))))
       none)
      (cond (Nat.beq ((r34 ((r14 ((((r13 x0).2).length : Nat) : Int) x1).2) (fdiv .f32 (ofInt .f32 ((r14 17 x1).2)) 1098907648) ((r13 x0).2)).1) 1)
       (cond (Nat.beq ((r35 ((r14 ((((r13 x0).2).length : Nat) : Int) x1).2) (fdiv .f32 (ofInt .f32 ((r14 17 x1).2)) 1098907648) ((r13 x0).2)).1) 0)
        (cond ((0 : Int) != ((r35 ((r14 ((((r13 x0).2).length : Nat) : Int) x1).2) (fdiv .f32 (ofInt .f32 ((r14 17 x1).2)) 1098907648) ((r13 x0).2)).2.1))
         (a7 x0 x1 (0, false))
         (cond (Nat.beq (c505.1) 0)
          (cond (!(c505.2))
           (a7 x0 x1 (0, false))
           (cond (Nat.beq ((r14 12 x0).1) 0)
            (cond (Nat.beq (c503.1) 0)
             (cond (Nat.beq (c504.1) 0)
              (cond (((c503.2.2) : Int) != (c504.2.2))
               (a7 x0 x1 (0, false))
               (cond (!feq .f32 (c503.2.1) (c504.2.1))
                (a7 x0 x1 (0, false))
                (cond (((c503.2.2) : Int) != 0)
                 (a7 x0 x1 (0, (((c503.2.2) : Int) == 6)))
                 (cond (Nat.beq ((r35 ((r14 ((((r13 x0).2).length : Nat) : Int) x1).2) (c504.2.1) ((r13 x0).2)).1) 0)
                  (cond (Nat.beq ((r15 0 0 ((r35 ((r14 ((((r13 x0).2).length : Nat) : Int) x1).2) (c504.2.1) ((r13 x0).2)).2.2)).1) 0)
                   (cond ((((r35 ((r14 ((((r13 x0).2).length : Nat) : Int) x1).2) (c504.2.1) ((r13 x0).2)).2.1) : Int) != 0)
                    (a7 x0 x1 (0, false))
                    (cond ((((r15 0 0 ((r35 ((r14 ((((r13 x0).2).length : Nat) : Int) x1).2) (c504.2.1) ((r13 x0).2)).2.2)).2.1) : Int) != 0)
                     (a7 x0 x1 (0, false))
                     (cond ((0 : Int) != ((((r13 x0).2).length : Nat) : Int))
                      (a7 x0 x1 (0, false))
                      none)))
                   (cond (Nat.beq ((r15 0 0 ((r35 ((r14 ((((r13 x0).2).length : Nat) : Int) x1).2) (c504.2.1) ((r13 x0).2)).2.2)).1) 1)
                    (cond ((((r35 ((r14 ((((r13 x0).2).length : Nat) : Int) x1).2) (c504.2.1) ((r13 x0).2)).2.1) : Int) != 0)
                     (a7 x0 x1 (0, false))
                     (cond ((((((r15 0 0 ((r35 ((r14 ((((r13 x0).2).length : Nat) : Int) x1).2) (c504.2.1) ((r13 x0).2)).2.2)).2.2).length : Nat) : Int) : Int) != ((((r13 x0).2).length : Nat) : Int))
                      (a7 x0 x1 (0, false))
                      (cond ((decide ((0 : Int) ≤ ((r14 ((((r13 x0).2).length : Nat) : Int) x1).2))) && (Nat.blt (Int.toNat ((r14 ((((r13 x0).2).length : Nat) : Int) x1).2)) (((r15 0 0 ((r35 ((r14 ((((r13 x0).2).length : Nat) : Int) x1).2) (c504.2.1) ((r13 x0).2)).2.2)).2.2).length)))
                       (cond (Nat.blt (Int.toNat ((r14 ((((r13 x0).2).length : Nat) : Int) x1).2)) (((r15 0 0 ((r35 ((r14 ((((r13 x0).2).length : Nat) : Int) x1).2) (c504.2.1) ((r13 x0).2)).2.2)).2.2).length))
                        (cond (flt .f32 (Int.toNat ((((r15 0 0 ((r35 ((r14 ((((r13 x0).2).length : Nat) : Int) x1).2) (c504.2.1) ((r13 x0).2)).2.2)).2.2).getD (Int.toNat ((r14 ((((r13 x0).2).length : Nat) : Int) x1).2)) []).getD 0 0)) (fdiv .f32 (ofInt .f32 (IntKind.i64.wrap (1 + ((r14 12 x0).2)))) 1098907648))
                         (a7 x0 x1 (0, false))
                         (cond (flt .f32 (c504.2.1) 0 || feq .f32 (c504.2.1) 0)
                          (a7 x0 x1 (0, false))
                          (cond (Nat.beq ((r35 ((r14 ((((r13 x0).2).length : Nat) : Int) x1).2) (fsub .f32 (c504.2.1) 1015021568) ((r13 x0).2)).1) 0)
                           (cond (Nat.beq ((r15 0 0 ((r35 ((r14 ((((r13 x0).2).length : Nat) : Int) x1).2) (fsub .f32 (c504.2.1) 1015021568) ((r13 x0).2)).2.2)).1) 0)
                            (cond ((((r35 ((r14 ((((r13 x0).2).length : Nat) : Int) x1).2) (fsub .f32 (c504.2.1) 1015021568) ((r13 x0).2)).2.1) : Int) == 0)
                             (cond ((((r15 0 0 ((r35 ((r14 ((((r13 x0).2).length : Nat) : Int) x1).2) (fsub .f32 (c504.2.1) 1015021568) ((r13 x0).2)).2.2)).2.1) : Int) == 0)
                              (cond ((0 : Int) == ((((r13 x0).2).length : Nat) : Int))
                               none
                               (a7 x0 x1 (0, false)))
                              (a7 x0 x1 (0, false)))
                             (a7 x0 x1 (0, false)))
                            (cond (Nat.beq ((r15 0 0 ((r35 ((r14 ((((r13 x0).2).length : Nat) : Int) x1).2) (fsub .f32 (c504.2.1) 1015021568) ((r13 x0).2)).2.2)).1) 1)
                             (cond ((((r35 ((r14 ((((r13 x0).2).length : Nat) : Int) x1).2) (fsub .f32 (c504.2.1) 1015021568) ((r13 x0).2)).2.1) : Int) == 0)
                              (cond ((((((r15 0 0 ((r35 ((r14 ((((r13 x0).2).length : Nat) : Int) x1).2) (fsub .f32 (c504.2.1) 1015021568) ((r13 x0).2)).2.2)).2.2).length : Nat) : Int) : Int) == ((((r13 x0).2).length : Nat) : Int))
                               (cond ((decide ((0 : Int) ≤ ((r14 ((((r13 x0).2).length : Nat) : Int) x1).2))) && (Nat.blt (Int.toNat ((r14 ((((r13 x0).2).length : Nat) : Int) x1).2)) (((r15 0 0 ((r35 ((r14 ((((r13 x0).2).length : Nat) : Int) x1).2) (fsub .f32 (c504.2.1) 1015021568) ((r13 x0).2)).2.2)).2.2).length)))
                                (cond (Nat.blt (Int.toNat ((r14 ((((r13 x0).2).length : Nat) : Int) x1).2)) (((r15 0 0 ((r35 ((r14 ((((r13 x0).2).length : Nat) : Int) x1).2) (fsub .f32 (c504.2.1) 1015021568) ((r13 x0).2)).2.2)).2.2).length))
                                 (a7 x0 x1 (0, (flt .f32 (Int.toNat ((((r15 0 0 ((r35 ((r14 ((((r13 x0).2).length : Nat) : Int) x1).2) (fsub .f32 (c504.2.1) 1015021568) ((r13 x0).2)).2.2)).2.2).getD (Int.toNat ((r14 ((((r13 x0).2).length : Nat) : Int) x1).2)) []).getD 0 0)) (fdiv .f32 (ofInt .f32 (IntKind.i64.wrap (1 + ((r14 12 x0).2)))) 1098907648))))
                                 none)
                                none)
                               (a7 x0 x1 (0, false)))
                              (a7 x0 x1 (0, false)))
                             none))
                           none)))
                        none)
                       none)))
                    none))
                  none))))
              none)
             none)
            none))
          none))
        none)
       none))
     none)
    none)
   none)))
set_option maxRecDepth 100000 in
set_option maxHeartbeats 4000000 in
theorem e7 (x0 x1 : List (List Int)) : evFn Try.prog ext T92 noL 200 Try.f7 [wsl 0, wsl 1] ⟨[⟨false, (some (.tab [.int .u8] x0))⟩, ⟨false, (some (.tab [.int .u8] x1))⟩], 2, []⟩ = firstT [((Nat.beq ((r7 x0 x1).1) 0), .bool ((r7 x0 x1).2), ⟨[⟨false, (some (.tab [.int .u8] x0))⟩, ⟨false, (some (.tab [.int .u8] x1))⟩], 2, []⟩)] :=
 (show evFn Try.prog ext T92 noL 200 Try.f7 [wsl 0, wsl 1] ⟨[⟨false, (some (.tab [.int .u8] x0))⟩, ⟨false, (some (.tab [.int .u8] x1))⟩], 2, []⟩ = w7 x0 x1 from by kernel_rfl).trans
 (show w7 x0 x1 = a7 x0 x1 (r7 x0 x1) from by unfold w7 r7; exact (cond_both (a7 x0 x1) _ (fun h0 => rfl) (fun h0 => (cond_both (a7 x0 x1) _ (fun h1 => rfl) (fun h1 => (cond_both (a7 x0 x1) _ (fun h2 => (cond_both (a7 x0 x1) _ (fun h3 => (cond_both (a7 x0 x1) _ (fun h4 => (cond_both (a7 x0 x1) _ (fun h5 => (cond_both (a7 x0 x1) _ (fun h6 => (cond_both (a7 x0 x1) _ (fun h7 => rfl) (fun h7 => (cond_both (a7 x0 x1) _ (fun h8 => rfl) (fun h8 => (cond_both (a7 x0 x1) _ (fun h9 => rfl) (fun h9 => (cond_both (a7 x0 x1) _ (fun h10 => (cond_both (a7 x0 x1) _ (fun h11 => (cond_both (a7 x0 x1) _ (fun h12 => (cond_both (a7 x0 x1) _ (fun h13 => rfl) (fun h13 => (cond_both (a7 x0 x1) _ (fun h14 => rfl) (fun h14 => (cond_both (a7 x0 x1) _ (fun h15 => rfl) (fun h15 => (cond_both (a7 x0 x1) _ (fun h16 => (cond_both (a7 x0 x1) _ (fun h17 => (cond_app (a7 x0 x1) _ rfl (cond_app (a7 x0 x1) _ rfl (cond_app (a7 x0 x1) _ rfl rfl)))) (fun h17 => (cond_both (a7 x0 x1) _ (fun h18 => (cond_both (a7 x0 x1) _ (fun h19 => rfl) (fun h19 => (cond_both (a7 x0 x1) _ (fun h20 => rfl) (fun h20 => (cond_both (a7 x0 x1) _ (fun h21 => (cond_t (ev_and2 h21) (cond_both (a7 x0 x1) _ (fun h22 => rfl) (fun h22 => (cond_both (a7 x0 x1) _ (fun h23 => rfl) (fun h23 => (cond_both (a7 x0 x1) _ (fun h24 => (cond_both (a7 x0 x1) _ (fun h25 => (cond_app (a7 x0 x1) _ (cond_app (a7 x0 x1) _ (cond_app (a7 x0 x1) _ rfl rfl) rfl) rfl)) (fun h25 => (cond_both (a7 x0 x1) _ (fun h26 => (cond_both (a7 x0 x1) _ (fun h27 => (cond_both (a7 x0 x1) _ (fun h28 => (cond_both (a7 x0 x1) _ (fun h29 => (cond_t (ev_and2 h29) rfl)) (fun h29 => rfl))) (fun h28 => rfl))) (fun h27 => rfl))) (fun h26 => rfl))))) (fun h24 => rfl)))))))) (fun h21 => rfl))))))) (fun h18 => rfl))))) (fun h16 => rfl))))))))) (fun h12 => rfl))) (fun h11 => rfl))) (fun h10 => rfl))))))))) (fun h6 => rfl))) (fun h5 => (cond_both (a7 x0 x1) _ (fun h6 => (cond_both (a7 x0 x1) _ (fun h7 => (cond_both (a7 x0 x1) _ (fun h8 => rfl) (fun h8 => (cond_both (a7 x0 x1) _ (fun h9 => (cond_both (a7 x0 x1) _ (fun h10 => rfl) (fun h10 => (cond_both (a7 x0 x1) _ (fun h11 => (cond_both (a7 x0 x1) _ (fun h12 => (cond_both (a7 x0 x1) _ (fun h13 => (cond_both (a7 x0 x1) _ (fun h14 => rfl) (fun h14 => (cond_both (a7 x0 x1) _ (fun h15 => rfl) (fun h15 => (cond_both (a7 x0 x1) _ (fun h16 => rfl) (fun h16 => (cond_both (a7 x0 x1) _ (fun h17 => (cond_both (a7 x0 x1) _ (fun h18 => (cond_app (a7 x0 x1) _ rfl (cond_app (a7 x0 x1) _ rfl (cond_app (a7 x0 x1) _ rfl rfl)))) (fun h18 => (cond_both (a7 x0 x1) _ (fun h19 => (cond_both (a7 x0 x1) _ (fun h20 => rfl) (fun h20 => (cond_both (a7 x0 x1) _ (fun h21 => rfl) (fun h21 => (cond_both (a7 x0 x1) _ (fun h22 => (cond_t (ev_and2 h22) (cond_both (a7 x0 x1) _ (fun h23 => rfl) (fun h23 => (cond_both (a7 x0 x1) _ (fun h24 => rfl) (fun h24 => (cond_both (a7 x0 x1) _ (fun h25 => (cond_both (a7 x0 x1) _ (fun h26 => (cond_app (a7 x0 x1) _ (cond_app (a7 x0 x1) _ (cond_app (a7 x0 x1) _ rfl rfl) rfl) rfl)) (fun h26 => (cond_both (a7 x0 x1) _ (fun h27 => (cond_both (a7 x0 x1) _ (fun h28 => (cond_both (a7 x0 x1) _ (fun h29 => (cond_both (a7 x0 x1) _ (fun h30 => (cond_t (ev_and2 h30) rfl)) (fun h30 => rfl))) (fun h29 => rfl))) (fun h28 => rfl))) (fun h27 => rfl))))) (fun h25 => rfl)))))))) (fun h22 => rfl))))))) (fun h19 => rfl))))) (fun h17 => rfl))))))))) (fun h13 => rfl))) (fun h12 => rfl))) (fun h11 => rfl))))) (fun h9 => rfl))))) (fun h7 => rfl))) (fun h6 => rfl))))) (fun h4 => rfl))) (fun h3 => rfl))) (fun h2 => rfl)))))))
noncomputable def s7 (args : List Value) (s : St) : List (Bool × Value × St) :=
 match args, s.h with
 | [.iface f0 .nilIface, .iface f1 .nilIface], [⟨false, some (.tab [.int .u8] x0)⟩, ⟨false, some (.tab [.int .u8] x1)⟩] => if f0 = 0 ∧ f1 = 1 then [((Nat.beq ((r7 x0 x1).1) 0), .bool ((r7 x0 x1).2), ⟨[⟨false, (some (.tab [.int .u8] x0))⟩, ⟨false, (some (.tab [.int .u8] x1))⟩], 2, []⟩)] else T92 7 args s
 | _, _ => T92 7 args s
noncomputable def T93 : CallF := addF T92 7 s7
set_option maxRecDepth 100000 in
set_option maxHeartbeats 4000000 in
theorem ok93 : CfOk Try.prog T93 := by
  refine cfOk_add ok92 fun args s r s' h1 h2 h3 => ?_
  unfold s7 at h3; split at h3
  · rename_i h; split at h3
    · rename_i hc; obtain ⟨rfl, rfl⟩ := hc; exact callOk ok92 Try.func7 h1 h2 h (lfOkF_no _ _).body (e7 _ _) rfl h3
    · exact ok92 _ _ _ _ _ h1 h2 h3
  · exact ok92 _ _ _ _ _ h1 h2 h3
end Go.Proofs.Ytdpkbkmmlbmllaa
