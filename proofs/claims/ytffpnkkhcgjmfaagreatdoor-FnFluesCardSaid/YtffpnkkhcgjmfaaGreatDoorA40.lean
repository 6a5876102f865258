/- strconv.Itoa of small numbers. -/
import Derived.Test.YtffpnkkhcgjmfaaGreatDoorA38
import Derived.Shelf.Strconv.Itoa3
namespace Go.Ab
open Go.RowKit (Below)
open Go.Proofs
def sItoaSmall (args : List Value) (s : St) : List (Bool × Value × St) :=
  match args with
  | [.int .i64 n] => [(decide (0 ≤ n) && decide (n < 100), .string (digB n), s)]
  | _ => []
theorem itoaSmall_calls {P : Program} {ρ : Go.Shelf.Ren} (L : Lays.n171 P ρ) (hfn : Fn? P (ρ.f 171)) (args : List Value) (s : St) (r : Value) (s' : St) (h : firstT (sItoaSmall args s) = some (r, s')) : CallsOK P (ρ.f 171) args s r s' := by
  unfold sItoaSmall at h
  split at h
  · rename_i n
    obtain ⟨hc, e⟩ := firstT_one h
    cases e
    simp only [Bool.and_eq_true, decide_eq_true_eq] at hc
    obtain ⟨h0, h1⟩ := hc
    refine calls_below hfn fun B ι D w args' H ha => ?_
    obtain ⟨x', rfl, hx⟩ : ∃ x', args' = #[x'] ∧ VRel ι D (.int .i64 n) x' := by
      obtain ⟨ar⟩ := args'
      match ar, ha with
      | [x'], ha => exact ⟨x', rfl, ha.1⟩
    obtain rfl : x' = _ := hx
    have := Any.strconv_Itoa_small L n.toNat (by omega) w
    rw [Int.toNat_of_nonneg h0] at this
    refine this.mono ?_
    rintro e w' ⟨rfl, rfl⟩
    exact ⟨_, rfl, Below.refl _ _, rfl⟩
  · cases h
end Go.Ab
