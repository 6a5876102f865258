/- Decimal numerals: what a list of digits spells. -/
import Derived.Test.YtbmagccjcccnaaaGreatDoorA41
namespace Go.Ab
open Go.Lib (decDigits)

def isDg (c : UInt8) : Prop := 48 ≤ c.toNat ∧ c.toNat ≤ 57
instance (c : UInt8) : Decidable (isDg c) := by unfold isDg; infer_instance
def dvS (a : Nat) (c : UInt8) : Nat := a * 10 + (c.toNat - 48)
def dv (a : Nat) (l : List UInt8) : Nat := l.foldl dvS a
theorem dv_nil (a : Nat) : dv a [] = a := rfl
theorem dv_cons (a : Nat) (c : UInt8) (l : List UInt8) : dv a (c :: l) = dv (a * 10 + (c.toNat - 48)) l := by simp only [dv, List.foldl_cons, dvS]
theorem dec_small {n : Nat} (h : n < 10) : decDigits n = [UInt8.ofNat (48 + n)] := by rw [decDigits, dif_pos h]
theorem dec_big {n : Nat} (h : ¬ n < 10) : decDigits n = decDigits (n / 10) ++ [UInt8.ofNat (48 + n % 10)] := by rw [decDigits, dif_neg h]
theorem dg_byte_all : ∀ d : Fin 10, (UInt8.ofNat (48 + d.val)).toNat = 48 + d.val := by decide +kernel
theorem dg_byte {d : Nat} (h : d < 10) : (UInt8.ofNat (48 + d)).toNat = 48 + d := dg_byte_all ⟨d, h⟩
theorem byte_dg {c : UInt8} (h : isDg c) : UInt8.ofNat (48 + (c.toNat - 48)) = c := by
  unfold isDg at h
  rw [show 48 + (c.toNat - 48) = c.toNat by omega]; exact u8_of c
theorem dv_app (l : List UInt8) (a : Nat) (c : UInt8) : dv a (l ++ [c]) = dv a l * 10 + (c.toNat - 48) := by
  unfold dv
  simp only [List.foldl_append, List.foldl_cons, List.foldl_nil, dvS]
theorem dec_dv : ∀ (l : List UInt8) (m : Nat), 1 ≤ m → (∀ c ∈ l, isDg c) → decDigits (dv m l) = decDigits m ++ l
  | [], m, _, _ => by rw [dv_nil, List.append_nil]
  | c :: l, m, hm, h => by
    have hc := h c (List.mem_cons_self ..)
    have hc' := hc
    unfold isDg at hc'
    rw [dv_cons, dec_dv l _ (by omega) fun x hx => h x (List.mem_cons_of_mem _ hx), dec_big (by omega), show (m * 10 + (c.toNat - 48)) / 10 = m by omega, show (m * 10 + (c.toNat - 48)) % 10 = c.toNat - 48 by omega, byte_dg hc, List.append_assoc]; rfl
/-- a numeral as it should be is that of what it spells -/
theorem dec_of {l : List UInt8} (hne : l ≠ []) (h : ∀ c ∈ l, isDg c) (h0 : l.length = 1 ∨ l.head? ≠ some 48) : decDigits (dv 0 l) = l := by
  match l, hne with
  | c :: r, _ =>
    have hc := h c (List.mem_cons_self ..)
    have hc' := hc
    unfold isDg at hc'
    have e : dv 0 (c :: r) = dv (c.toNat - 48) r := by rw [dv_cons, Nat.zero_mul, Nat.zero_add]
    rw [e]
    by_cases hz : c.toNat - 48 = 0
    · have hr : r = [] := by
        rcases h0 with h0 | h0
        · simpa using h0
        · exfalso
          apply h0
          rw [List.head?_cons]
          congr 1
          exact UInt8.toNat_inj.1 (by show c.toNat = 48; omega)
      subst hr
      rw [dv_nil]
      rw [dec_small (by omega), byte_dg hc]
    · rw [dec_dv r _ (by omega) fun x hx => h x (List.mem_cons_of_mem _ hx), dec_small (by omega), byte_dg hc]; rfl
theorem dec_ne (n : Nat) : decDigits n ≠ [] := by
  by_cases h : n < 10
  · rw [dec_small h]; simp
  · rw [dec_big h]; simp
theorem dec_dg (n : Nat) : ∀ c ∈ decDigits n, isDg c := by
  induction n using Nat.strongRecOn with
  | _ n ih =>
    intro c hc
    by_cases h : n < 10
    · rw [dec_small h, List.mem_singleton] at hc
      subst hc
      unfold isDg
      rw [dg_byte h]; omega
    · rw [dec_big h, List.mem_append, List.mem_singleton] at hc
      rcases hc with hc | rfl
      · exact ih (n / 10) (by omega) c hc
      · unfold isDg
        rw [dg_byte (Nat.mod_lt _ (by decide))]; omega
theorem dec_head {n : Nat} (h1 : 1 ≤ n) : (decDigits n).head? ≠ some 48 := by
  induction n using Nat.strongRecOn with
  | _ n ih =>
    by_cases h : n < 10
    · rw [dec_small h, List.head?_cons]
      intro e
      have := congrArg UInt8.toNat (Option.some.inj e)
      rw [dg_byte h] at this
      have : 48 + n = 48 := this
      omega
    · rw [dec_big h]
      have hn := dec_ne (n / 10)
      cases hd : decDigits (n / 10) with
      | nil => exact absurd hd hn
      | cons a r =>
        have := ih (n / 10) (by omega) (by omega)
        rw [hd] at this
        exact this
theorem dv_dec (n : Nat) : dv 0 (decDigits n) = n := by
  induction n using Nat.strongRecOn with
  | _ n ih =>
    by_cases h : n < 10
    · rw [dec_small h]
      show 0 * 10 + ((UInt8.ofNat (48 + n)).toNat - 48) = n
      rw [dg_byte h]; omega
    · rw [dec_big h, dv_app, ih (n / 10) (by omega), dg_byte (Nat.mod_lt _ (by decide))]; omega
theorem dec_len : ∀ (k n : Nat), n < 10 ^ (k + 1) → (decDigits n).length ≤ k + 1
  | 0, n, h => by rw [dec_small (by simpa using h)]; simp
  | k + 1, n, h => by
    by_cases h' : n < 10
    · rw [dec_small h']; simp
    · rw [dec_big h', List.length_append, List.length_singleton]
      have := dec_len k (n / 10) (by rw [Nat.pow_succ] at h; omega)
      omega
theorem dec_no {n : Nat} {c : UInt8} (hc : c = 32 ∨ c = 10) : c ∉ decDigits n := by
  intro h
  have := dec_dg n c h
  unfold isDg at this
  rcases hc with rfl | rfl
  · have : 48 ≤ 32 := this.1; omega
  · have : 48 ≤ 10 := this.1; omega
/-- strconv.ParseInt reads it -/
theorem pu_dv : ∀ (l : List UInt8) (a : Nat), (∀ c ∈ l, isDg c) → dv a l ≤ 1000000000000000 → Lib.parseUintM 18446744073709551615 a l = .ok (dv a l) ∧ a ≤ dv a l
  | [], a, _, _ => ⟨rfl, Nat.le_refl _⟩
  | c :: l, a, h, hb => by
    have hc := h c (List.mem_cons_self ..)
    obtain ⟨e1, e2⟩ := pu_dv l (a * 10 + (c.toNat - 48)) (fun x hx => h x (List.mem_cons_of_mem _ hx)) (by rw [dv_cons] at hb; exact hb)
    have hb' : dv (a * 10 + (c.toNat - 48)) l ≤ 1000000000000000 := by rw [dv_cons] at hb; exact hb
    unfold isDg at hc
    refine ⟨?_, by rw [dv_cons]; omega⟩
    rw [dv_cons]
    unfold Lib.parseUintM
    rw [if_pos hc, if_neg (by omega), if_neg (by omega)]
    exact e1
theorem parse_dec {n : Nat} (h : n ≤ 1000000) : pInt (mkB (decDigits n)) = (n : Int) ∧ pOk (mkB (decDigits n)) = true := by
  have hv := dv_dec n
  obtain ⟨e1, _⟩ := pu_dv (decDigits n) 0 (dec_dg n) (by omega)
  have hp : Lib.parseIntB 64 (decDigits n) = .ok (n : Int) := by
    unfold Lib.parseIntB
    cases hd : decDigits n with
    | nil => exact absurd hd (dec_ne n)
    | cons c r =>
      have hc := dec_dg n c (by rw [hd]; exact List.mem_cons_self ..)
      unfold isDg at hc
      have h1 : ¬ (c.toNat = 43 ∨ c.toNat = 45) := by omega
      have h2 : ¬ c.toNat = 45 := by omega
      have e : Lib.parseUintB 64 (c :: r) = .ok n := by
        unfold Lib.parseUintB
        rw [if_neg (by simp), ← hd]
        have : (2 : Nat) ^ 64 - 1 = 18446744073709551615 := by decide
        rw [this, e1, hv]
      simp only [if_neg h1, e]
      have e6 : (2 : Nat) ^ (64 - 1) = 9223372036854775808 := by decide
      rw [e6, if_neg (by omega), if_neg (by omega), if_neg h2]
  unfold pInt pOk
  rw [mkB_data, hp]
  exact ⟨rfl, rfl⟩
theorem itoa_dec (n : Nat) : itoaB (n : Int) = mkB (decDigits n) := by
  unfold itoaB Lib.itoa
  rw [if_neg (by omega), Int.toNat_natCast]; rfl
end Go.Ab
