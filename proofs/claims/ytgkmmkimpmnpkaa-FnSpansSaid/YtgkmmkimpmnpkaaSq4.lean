/- What the functions that the statements reach answer, part 3. -/
import Derived.Test.YtgkmmkimpmnpkaaSq3
namespace Go.Proofs.Ytgkmmkimpmnpkaa
open Go.Ab
set_option maxHeartbeats 4000000
set_option maxRecDepth 100000

set_option maxRecDepth 100000 in
set_option maxHeartbeats 400000 in
theorem hb3 : Try.f3.body = some (postC (codeOf Try.f3) 0) := by kernel_rfl
set_option maxRecDepth 100000 in
set_option maxHeartbeats 400000 in
theorem hn3 : (Try.f3.name == "runtime.NumGoroutine") = false := by kernel_rfl
set_option maxRecDepth 100000 in
set_option maxHeartbeats 400000 in
theorem hf3 : ([wsl 0, wsl 1] : List Value) ++ List.replicate (Try.f3.ntmps - ([wsl 0, wsl 1] : List Value).length) undef = [wsl 0, wsl 1, .tuple #[], .tuple #[], .tuple #[], .tuple #[], .tuple #[], .tuple #[], .tuple #[], .tuple #[], .tuple #[], .tuple #[], .tuple #[], .tuple #[], .tuple #[], .tuple #[], .tuple #[], .tuple #[], .tuple #[], .tuple #[], .tuple #[], .tuple #[], .tuple #[], .tuple #[], .tuple #[], .tuple #[], .tuple #[], .tuple #[], .tuple #[], .tuple #[], .tuple #[], .tuple #[], .tuple #[], .tuple #[], .tuple #[], .tuple #[], .tuple #[], .tuple #[], .tuple #[], .tuple #[], .tuple #[], .tuple #[], .tuple #[], .tuple #[], .tuple #[], .tuple #[], .tuple #[], .tuple #[], .tuple #[], .tuple #[], .tuple #[], .tuple #[], .tuple #[], .tuple #[], .tuple #[], .tuple #[], .tuple #[], .tuple #[], .tuple #[], .tuple #[], .tuple #[], .tuple #[], .tuple #[], .tuple #[], .tuple #[], .tuple #[], .tuple #[], .tuple #[], .tuple #[], .tuple #[], .tuple #[], .tuple #[], .tuple #[], .tuple #[], .tuple #[], .tuple #[], .tuple #[], .tuple #[], .tuple #[], .tuple #[], .tuple #[], .tuple #[], .tuple #[], .tuple #[], .tuple #[], .tuple #[], .tuple #[], .tuple #[], .tuple #[], .tuple #[], .tuple #[], .tuple #[], .tuple #[], .tuple #[], .tuple #[], .tuple #[], .tuple #[], .tuple #[], .tuple #[], .tuple #[], .tuple #[], .tuple #[], .tuple #[], .tuple #[], .tuple #[], .tuple #[], .tuple #[], .tuple #[], .tuple #[], .tuple #[], .tuple #[], .tuple #[], .tuple #[], .tuple #[], .tuple #[], .tuple #[], .tuple #[], .tuple #[], .tuple #[], .tuple #[], .tuple #[], .tuple #[], .tuple #[], .tuple #[], .tuple #[], .tuple #[], .tuple #[], .tuple #[], .tuple #[], .tuple #[], .tuple #[], .tuple #[], .tuple #[], .tuple #[], .tuple #[], .tuple #[], .tuple #[], .tuple #[], .tuple #[], .tuple #[], .tuple #[], .tuple #[], .tuple #[], .tuple #[], .tuple #[], .tuple #[], .tuple #[], .tuple #[], .tuple #[], .tuple #[], .tuple #[], .tuple #[], .tuple #[], .tuple #[], .tuple #[], .tuple #[], .tuple #[], .tuple #[], .tuple #[], .tuple #[], .tuple #[], .tuple #[], .tuple #[], .tuple #[], .tuple #[], .tuple #[], .tuple #[], .tuple #[], .tuple #[], .tuple #[], .tuple #[], .tuple #[], .tuple #[], .tuple #[], .tuple #[], .tuple #[], .tuple #[], .tuple #[], .tuple #[], .tuple #[], .tuple #[], .tuple #[], .tuple #[], .tuple #[], .tuple #[], .tuple #[], .tuple #[], .tuple #[], .tuple #[], .tuple #[], .tuple #[], .tuple #[], .tuple #[], .tuple #[], .tuple #[], .tuple #[], .tuple #[], .tuple #[], .tuple #[], .tuple #[], .tuple #[], .tuple #[], .tuple #[], .tuple #[], .tuple #[], .tuple #[], .tuple #[], .tuple #[], .tuple #[], .tuple #[], .tuple #[], .tuple #[], .tuple #[], .tuple #[], .tuple #[], .tuple #[], .tuple #[], .tuple #[], .tuple #[], .tuple #[], .tuple #[], .tuple #[], .tuple #[], .tuple #[], .tuple #[], .tuple #[], .tuple #[], .tuple #[], .tuple #[], .tuple #[], .tuple #[], .tuple #[], .tuple #[], .tuple #[], .tuple #[], .tuple #[], .tuple #[], .tuple #[], .tuple #[], .tuple #[], .tuple #[], .tuple #[], .tuple #[], .tuple #[], .tuple #[], .tuple #[], .tuple #[], .tuple #[], .tuple #[], .tuple #[], .tuple #[], .tuple #[], .tuple #[], .tuple #[], .tuple #[], .tuple #[], .tuple #[], .tuple #[], .tuple #[], .tuple #[], .tuple #[], .tuple #[], .tuple #[], .tuple #[], .tuple #[], .tuple #[], .tuple #[], .tuple #[], .tuple #[], .tuple #[], .tuple #[], .tuple #[], .tuple #[], .tuple #[], .tuple #[], .tuple #[], .tuple #[], .tuple #[], .tuple #[], .tuple #[], .tuple #[], .tuple #[], .tuple #[], .tuple #[], .tuple #[], .tuple #[], .tuple #[], .tuple #[], .tuple #[], .tuple #[], .tuple #[], .tuple #[], .tuple #[], .tuple #[], .tuple #[], .tuple #[], .tuple #[], .tuple #[], .tuple #[], .tuple #[], .tuple #[], .tuple #[], .tuple #[], .tuple #[], .tuple #[], .tuple #[], .tuple #[], .tuple #[], .tuple #[], .tuple #[], .tuple #[], .tuple #[], .tuple #[], .tuple #[], .tuple #[], .tuple #[], .tuple #[], .tuple #[], .tuple #[], .tuple #[], .tuple #[], .tuple #[], .tuple #[], .tuple #[], .tuple #[], .tuple #[], .tuple #[], .tuple #[], .tuple #[], .tuple #[], .tuple #[], .tuple #[], .tuple #[], .tuple #[]] := by kernel_rfl
set_option maxRecDepth 100000 in
set_option maxHeartbeats 400000 in
theorem e3p (x0 x1 : List (List Int)) : evFn Try.prog ext T58 noL 200 Try.f3 [wsl 0, wsl 1] ⟨[⟨false, (some (.tab [.int .u8] x0))⟩, ⟨false, (some (.tab [.int .u8] x1))⟩], 2, []⟩ = a3 x0 x1 (r3 x0 x1) :=
 Eq.trans (evFn_eq hb3 hn3 hf3) (j0 x0 x1)
set_option maxRecDepth 100000 in
set_option maxHeartbeats 400000 in
theorem e3 (x0 x1 : List (List Int)) : evFn Try.prog ext T58 noL 200 Try.f3 [wsl 0, wsl 1] ⟨[⟨false, (some (.tab [.int .u8] x0))⟩, ⟨false, (some (.tab [.int .u8] x1))⟩], 2, []⟩ = firstT [((Nat.beq ((r3 x0 x1).1) 0), .bool ((r3 x0 x1).2), ⟨[⟨false, (some (.tab [.int .u8] x0))⟩, ⟨false, (some (.tab [.int .u8] x1))⟩], 2, []⟩)] := by
 rw [e3p]; unfold a3; exact Eq.refl _
noncomputable def s3 (args : List Value) (s : St) : List (Bool × Value × St) :=
 match args, s.h with
 | [.iface f0 .nilIface, .iface f1 .nilIface], [⟨false, some (.tab [.int .u8] x0)⟩, ⟨false, some (.tab [.int .u8] x1)⟩] => if f0 = 0 ∧ f1 = 1 then [((Nat.beq ((r3 x0 x1).1) 0), .bool ((r3 x0 x1).2), ⟨[⟨false, (some (.tab [.int .u8] x0))⟩, ⟨false, (some (.tab [.int .u8] x1))⟩], 2, []⟩)] else T58 3 args s
 | _, _ => T58 3 args s
noncomputable def T59 : CallF := addF T58 3 s3
set_option maxRecDepth 100000 in
set_option maxHeartbeats 4000000 in
theorem ok59 : CfOk Try.prog T59 := by
  refine cfOk_add ok58 fun args s r s' h1 h2 h3 => ?_
  unfold s3 at h3; split at h3
  · rename_i h; split at h3
    · rename_i hc; obtain ⟨rfl, rfl⟩ := hc; exact callOk ok58 Try.func3 h1 h2 h (lfOkF_no _ _).body (e3 _ _) rfl h3
    · exact ok58 _ _ _ _ _ h1 h2 h3
  · exact ok58 _ _ _ _ _ h1 h2 h3
end Go.Proofs.Ytgkmmkimpmnpkaa
