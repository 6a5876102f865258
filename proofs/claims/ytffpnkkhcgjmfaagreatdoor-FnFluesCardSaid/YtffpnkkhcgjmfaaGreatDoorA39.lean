/- The library's functions that read a table or make an error: strconv.FormatInt, strconv.ParseInt. -/
import Derived.Test.YtffpnkkhcgjmfaaGreatDoorA40
import Derived.Shelf.Strconv.ErrVarParseInt
import Derived.Lib.AppendIntMem
import Derived.Lib.SmallJoins
namespace Go.Ab
open Go.RowKit (Below)
open Go.Proofs

def itoaB (n : Int) : ByteArray := ⟨(Lib.itoa n).toArray⟩
def sFormat (args : List Value) (s : St) : List (Bool × Value × St) :=
  match args with
  | [.int .i64 n, .int .i64 b] => [(decide (b = 10) && (decide (-9223372036854775808 ≤ n) && decide (n ≤ 9223372036854775807)), .string (itoaB n), s)]
  | _ => []
def pInt (s : ByteArray) : Int :=
  match Lib.parseIntB 64 s.data.toList with
  | .ok v => v
  | .range => Lib.intSat 64 s.data.toList
  | _ => 0
def pOk (s : ByteArray) : Bool :=
  match Lib.parseIntB 64 s.data.toList with
  | .ok _ => true
  | _ => false
def sParse (args : List Value) (s : St) : List (Bool × Value × St) :=
  match args with
  | [.string x, .int .i64 b, .int .i64 k] => [(decide (b = 10) && (decide (k = 64) && Nat.ble x.size 281474976710656), .tuple #[.int .i64 (pInt x), errV (pOk x)], s)]
  | _ => []

section
variable {P : Program} {ρ : Go.Shelf.Ren}
theorem format_calls (L : LaysM.n173 P ρ) (hg : P.globalNamed nmPow ≠ none) (hfn : Fn? P (ρ.f 173)) (args : List Value) (s : St) (r : Value) (s' : St) (h : firstT (sFormat args s) = some (r, s')) : CallsOK P (ρ.f 173) args s r s' := by
  unfold sFormat at h
  split at h
  · rename_i n b
    obtain ⟨hc, e⟩ := firstT_one h
    cases e
    simp only [Bool.and_eq_true, decide_eq_true_eq] at hc
    obtain ⟨rfl, h0, h1⟩ := hc
    refine calls_below hfn fun B ι D w args' H ha => ?_
    obtain ⟨x', y', rfl, hx, hy⟩ : ∃ x' y', args' = #[x', y'] ∧ VRel ι D (.int .i64 n) x' ∧ VRel ι D (.int .i64 10) y' := by
      obtain ⟨ar⟩ := args'
      match ar, ha with
      | [x', y'], ha => exact ⟨x', y', rfl, ha.1, ha.2.1⟩
    obtain rfl : x' = _ := hx
    obtain rfl : y' = _ := hy
    have ht := H.gl.pow.resolve_left hg
    refine (Any.strconv_FormatInt_10 L n h0 h1 w (by
      have e : nmPow = "internal" ++ (String.singleton (Char.ofNat 47) ++ "strconv.uint64pow10") := rfl
      exact ht)).mono ?_
    rintro e w' ⟨rfl, k, os, rfl⟩
    exact ⟨_, rfl, Lib.below_grow _ w (Nat.le_refl _) k os, rfl⟩
  · cases h

theorem parse_calls (L : LaysC.n174 P ρ) (hs : P.globalNamed nmSyn ≠ none) (hr : P.globalNamed nmRan ≠ none) (hfn : Fn? P (ρ.f 174)) (args : List Value) (s : St) (r : Value) (s' : St) (h : firstT (sParse args s) = some (r, s')) : CallsOK P (ρ.f 174) args s r s' := by
  unfold sParse at h
  split at h
  · rename_i x b k
    obtain ⟨hc, e⟩ := firstT_one h
    cases e
    simp only [Bool.and_eq_true, decide_eq_true_eq] at hc
    obtain ⟨rfl, rfl, hsz⟩ := hc
    have hsz := Nat.le_of_ble_eq_true hsz
    refine calls_below hfn fun B ι D w args' H ha => ?_
    obtain ⟨x', y', z', rfl, hx, hy, hz⟩ : ∃ x' y' z', args' = #[x', y', z'] ∧ VRel ι D (.string x) x' ∧ VRel ι D (.int .i64 10) y' ∧ VRel ι D (.int .i64 64) z' := by
      obtain ⟨ar⟩ := args'
      match ar, ha with
      | [x', y', z'], ha => exact ⟨x', y', z', rfl, ha.1, ha.2.1, ha.2.2.1⟩
    obtain rfl : x' = _ := hx
    obtain rfl : y' = _ := hy
    obtain rfl : z' = _ := hz
    obtain ⟨te, pe, hsyn⟩ := H.gl.syn.resolve_left hs
    obtain ⟨tr, pr, hran⟩ := H.gl.ran.resolve_left hr
    unfold pInt pOk
    rcases hp : Lib.parseIntB 64 x.data.toList with v | _ | _
    · refine (Any.strconv_ParseInt_10_at64_ok L x (by omega) v hp w).mono ?_
      rintro e w' ⟨rfl, hw⟩
      refine ⟨_, rfl, ?_, ⟨_, rfl, ⟨rfl, .inl ⟨rfl, rfl⟩, trivial⟩⟩⟩
      rcases hw with rfl | ⟨t, rfl⟩
      · exact Below.refl _ _
      · exact Lib.bytesWorld_below _ _ _
    · refine (Any.strconv_ParseInt_10_at64_syntax_var L x hsz hp te pe w hsyn).mono ?_
      rintro e w' ⟨N, rfl, _, _, hb⟩
      exact ⟨_, rfl, hb, ⟨_, rfl, ⟨rfl, .inr ⟨rfl, _, _, rfl⟩, trivial⟩⟩⟩
    · refine (Any.strconv_ParseInt_10_at64_range_var L x hsz hp tr pr w hran).mono ?_
      rintro e w' ⟨N, rfl, _, _, hb⟩
      exact ⟨_, rfl, hb, ⟨_, rfl, ⟨rfl, .inr ⟨rfl, _, _, rfl⟩, trivial⟩⟩⟩
  · cases h
end
end Go.Ab
