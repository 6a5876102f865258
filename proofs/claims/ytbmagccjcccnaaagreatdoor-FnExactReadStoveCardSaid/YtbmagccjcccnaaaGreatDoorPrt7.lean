/- Stoves: lines of logs, the header's words. -/
import Derived.Test.YtbmagccjcccnaaaGreatDoorPrt6
namespace Go.Proofs.YtbmagccjcccnaaaGreatDoor
open Go.Ab
open Go.Lib (decDigits)

/-! ### lines of logs -/
def rwI (p : Nat × Nat × Nat × Nat × Nat × Nat × Nat × Nat × Nat × Nat × Nat × Nat × Nat × Nat × Nat × Nat × Nat × Nat × Nat × Int) : List Int := [((p.2.1 : Nat) : Int), ((p.2.2.1 : Nat) : Int), ((p.2.2.2.1 : Nat) : Int), ((p.2.2.2.2.1 : Nat) : Int), ((p.2.2.2.2.2.1 : Nat) : Int), ((p.2.2.2.2.2.2.1 : Nat) : Int), ((p.2.2.2.2.2.2.2.1 : Nat) : Int), ((p.2.2.2.2.2.2.2.2.1 : Nat) : Int), ((p.2.2.2.2.2.2.2.2.2.1 : Nat) : Int), ((p.2.2.2.2.2.2.2.2.2.2.1 : Nat) : Int), ((p.2.2.2.2.2.2.2.2.2.2.2.1 : Nat) : Int), ((p.2.2.2.2.2.2.2.2.2.2.2.2.1 : Nat) : Int), ((p.2.2.2.2.2.2.2.2.2.2.2.2.2.1 : Nat) : Int), ((p.2.2.2.2.2.2.2.2.2.2.2.2.2.2.1 : Nat) : Int), ((p.2.2.2.2.2.2.2.2.2.2.2.2.2.2.2.1 : Nat) : Int), ((p.2.2.2.2.2.2.2.2.2.2.2.2.2.2.2.2.1 : Nat) : Int), ((p.2.2.2.2.2.2.2.2.2.2.2.2.2.2.2.2.2.1 : Nat) : Int), ((p.2.2.2.2.2.2.2.2.2.2.2.2.2.2.2.2.2.2.1 : Nat) : Int)]
def rwB (p : Nat × Nat × Nat × Nat × Nat × Nat × Nat × Nat × Nat × Nat × Nat × Nat × Nat × Nat × Nat × Nat × Nat × Nat × Nat × Bool) : List Int := [((p.2.1 : Nat) : Int), ((p.2.2.1 : Nat) : Int), ((p.2.2.2.1 : Nat) : Int), ((p.2.2.2.2.1 : Nat) : Int), ((p.2.2.2.2.2.1 : Nat) : Int), ((p.2.2.2.2.2.2.1 : Nat) : Int), ((p.2.2.2.2.2.2.2.1 : Nat) : Int), ((p.2.2.2.2.2.2.2.2.1 : Nat) : Int), ((p.2.2.2.2.2.2.2.2.2.1 : Nat) : Int), ((p.2.2.2.2.2.2.2.2.2.2.1 : Nat) : Int), ((p.2.2.2.2.2.2.2.2.2.2.2.1 : Nat) : Int), ((p.2.2.2.2.2.2.2.2.2.2.2.2.1 : Nat) : Int), ((p.2.2.2.2.2.2.2.2.2.2.2.2.2.1 : Nat) : Int), ((p.2.2.2.2.2.2.2.2.2.2.2.2.2.2.1 : Nat) : Int), ((p.2.2.2.2.2.2.2.2.2.2.2.2.2.2.2.1 : Nat) : Int), ((p.2.2.2.2.2.2.2.2.2.2.2.2.2.2.2.2.1 : Nat) : Int), ((p.2.2.2.2.2.2.2.2.2.2.2.2.2.2.2.2.2.1 : Nat) : Int), ((p.2.2.2.2.2.2.2.2.2.2.2.2.2.2.2.2.2.2.1 : Nat) : Int)]
noncomputable def lineW (s : ByteArray) : Option (List Int) := cond (((r7 s).2.2.2.2.2.2.2.2.2.2.2.2.2.2.2.2.2.2.2 : Int) != 0) none (some (rwI (r7 s)))
def wdR (r : List Int) : List UInt8 := joinL 32 [logL, numL (Int.toNat (r.getD 0 0)), numL (Int.toNat (r.getD 6 0)), numL (Int.toNat (r.getD 12 0)), numL (Int.toNat (r.getD 1 0)), numL (Int.toNat (r.getD 7 0)), numL (Int.toNat (r.getD 13 0)), numL (Int.toNat (r.getD 2 0)), numL (Int.toNat (r.getD 8 0)), numL (Int.toNat (r.getD 14 0)), numL (Int.toNat (r.getD 3 0)), numL (Int.toNat (r.getD 9 0)), numL (Int.toNat (r.getD 15 0)), numL (Int.toNat (r.getD 4 0)), numL (Int.toNat (r.getD 10 0)), numL (Int.toNat (r.getD 16 0)), numL (Int.toNat (r.getD 5 0)), numL (Int.toNat (r.getD 11 0)), numL (Int.toNat (r.getD 17 0))]
theorem wdR_length (r : List Int) : (wdR r).length ≤ 400 := by
  unfold wdR; simp only [joinL, logL, List.length_append, numL_length, List.length_cons, List.length_nil]; omega
theorem row_ok {v1 v2 v3 v4 v5 v6 v7 v8 v9 v10 v11 v12 v13 v14 v15 v16 v17 v18 : Nat} (h1 : v1 < 4294967296) (h2 : v2 < 4294967296) (h3 : v3 < 4294967296) (h4 : v4 < 4294967296) (h5 : v5 < 4294967296) (h6 : v6 < 4294967296) (h7 : v7 < 4294967296) (h8 : v8 < 4294967296) (h9 : v9 < 4294967296) (h10 : v10 < 4294967296) (h11 : v11 < 4294967296) (h12 : v12 < 4294967296) (h13 : v13 < 4294967296) (h14 : v14 < 4294967296) (h15 : v15 < 4294967296) (h16 : v16 < 4294967296) (h17 : v17 < 4294967296) (h18 : v18 < 4294967296) : RowOk Sh18 [((v1 : Nat) : Int), ((v4 : Nat) : Int), ((v7 : Nat) : Int), ((v10 : Nat) : Int), ((v13 : Nat) : Int), ((v16 : Nat) : Int), ((v2 : Nat) : Int), ((v5 : Nat) : Int), ((v8 : Nat) : Int), ((v11 : Nat) : Int), ((v14 : Nat) : Int), ((v17 : Nat) : Int), ((v3 : Nat) : Int), ((v6 : Nat) : Int), ((v9 : Nat) : Int), ((v12 : Nat) : Int), ((v15 : Nat) : Int), ((v18 : Nat) : Int)] :=
  ⟨⟨Int.natCast_nonneg _, by omega⟩, ⟨Int.natCast_nonneg _, by omega⟩, ⟨Int.natCast_nonneg _, by omega⟩, ⟨Int.natCast_nonneg _, by omega⟩, ⟨Int.natCast_nonneg _, by omega⟩, ⟨Int.natCast_nonneg _, by omega⟩, ⟨Int.natCast_nonneg _, by omega⟩, ⟨Int.natCast_nonneg _, by omega⟩, ⟨Int.natCast_nonneg _, by omega⟩, ⟨Int.natCast_nonneg _, by omega⟩, ⟨Int.natCast_nonneg _, by omega⟩, ⟨Int.natCast_nonneg _, by omega⟩, ⟨Int.natCast_nonneg _, by omega⟩, ⟨Int.natCast_nonneg _, by omega⟩, ⟨Int.natCast_nonneg _, by omega⟩, ⟨Int.natCast_nonneg _, by omega⟩, ⟨Int.natCast_nonneg _, by omega⟩, ⟨Int.natCast_nonneg _, by omega⟩, trivial⟩
theorem line_cases {s : ByteArray} (hs : s.size ≤ 1048576) : (r7 s).1 = 0 ∧ (r99 s).1 = 0 ∧
    ((∃ r, lineW s = some r ∧ rwB (r99 s) = r ∧ (r99 s).2.2.2.2.2.2.2.2.2.2.2.2.2.2.2.2.2.2.2 = true ∧ RowOk Sh18 r ∧ okR r = true ∧ s.data.toList = wdR r) ∨ (lineW s = none ∧ (r99 s).2.2.2.2.2.2.2.2.2.2.2.2.2.2.2.2.2.2.2 = false)) := by
  by_cases h : ∃ v1 v2 v3 v4 v5 v6 v7 v8 v9 v10 v11 v12 v13 v14 v15 v16 v17 v18, Good s v1 v2 v3 v4 v5 v6 v7 v8 v9 v10 v11 v12 v13 v14 v15 v16 v17 v18
  · obtain ⟨v1, v2, v3, v4, v5, v6, v7, v8, v9, v10, v11, v12, v13, v14, v15, v16, v17, v18, g⟩ := h
    have e1 := impl_good hs g
    have e2 := spec_good hs g
    have ev := valid_eq g.bv1 g.bv4 g.bv7 g.bv10 g.bv13 g.bv16 g.bv2 g.bv5 g.bv8 g.bv11 g.bv14 g.bv17 g.bv3 g.bv6 g.bv9 g.bv12 g.bv15 g.bv18
    unfold lineW
    rw [e1, e2, ev]
    cases hv : r14 v1 v4 v7 v10 v13 v16 v2 v5 v8 v11 v14 v17 v3 v6 v9 v12 v15 v18 with
    | false => exact ⟨rfl, rfl, .inr ⟨rfl, rfl⟩⟩
    | true =>
      refine ⟨rfl, rfl, .inl ⟨_, rfl, rfl, rfl, row_ok g.bv1 g.bv2 g.bv3 g.bv4 g.bv5 g.bv6 g.bv7 g.bv8 g.bv9 g.bv10 g.bv11 g.bv12 g.bv13 g.bv14 g.bv15 g.bv16 g.bv17 g.bv18, hv, ?_⟩⟩
      have hj := join_splitL 32 s.data.toList
      rw [g.cut] at hj
      exact hj.symm
  · have e1 := impl_bad hs h
    obtain ⟨u0, u1, u2, u3, u4, u5, u6, u7, u8, u9, u10, u11, u12, u13, u14, u15, u16, u17, e2⟩ := spec_bad hs h
    unfold lineW
    rw [e1, e2]
    exact ⟨rfl, rfl, .inr ⟨rfl, rfl⟩⟩
theorem upto_num {d m : Nat} (h : r52 d m = true) : isN .f32 d = false := by
  unfold r52 w52 r19 at h
  rw [fin_impl] at h
  rw [isN32, decide_eq_false_iff_not]
  by_cases h1 : d % 2147483648 < 2139095040
  · omega
  · rw [decide_eq_false h1] at h; cases h
theorem btw_num {d a b : Nat} (h : r53 d a b = true) : isN .f32 d = false := by
  cases e : isN .f32 d with
  | false => rfl
  | true =>
    unfold r53 w53 at h
    rw [fgt_nan_l e, feq_nan_l e] at h
    cases h
theorem okR_nums {r : List Int} (h : okR r = true) : isN .f32 (Int.toNat (r.getD 0 0)) = false ∧ isN .f32 (Int.toNat (r.getD 1 0)) = false ∧ isN .f32 (Int.toNat (r.getD 2 0)) = false ∧ isN .f32 (Int.toNat (r.getD 3 0)) = false ∧ isN .f32 (Int.toNat (r.getD 4 0)) = false ∧ isN .f32 (Int.toNat (r.getD 5 0)) = false ∧ isN .f32 (Int.toNat (r.getD 6 0)) = false ∧ isN .f32 (Int.toNat (r.getD 7 0)) = false ∧ isN .f32 (Int.toNat (r.getD 8 0)) = false ∧ isN .f32 (Int.toNat (r.getD 9 0)) = false ∧ isN .f32 (Int.toNat (r.getD 10 0)) = false ∧ isN .f32 (Int.toNat (r.getD 11 0)) = false ∧ isN .f32 (Int.toNat (r.getD 12 0)) = false ∧ isN .f32 (Int.toNat (r.getD 13 0)) = false ∧ isN .f32 (Int.toNat (r.getD 14 0)) = false ∧ isN .f32 (Int.toNat (r.getD 15 0)) = false ∧ isN .f32 (Int.toNat (r.getD 16 0)) = false ∧ isN .f32 (Int.toNat (r.getD 17 0)) = false := by
  unfold okR r14 w14 at h
  revert h
  
  cases q0 : r52 (Int.toNat (r.getD 0 0)) 1092616192
  · intro h; cases h
  cases q1 : r52 (Int.toNat (r.getD 12 0)) 1092616192
  · intro h; cases h
  cases q2 : r53 (Int.toNat (r.getD 6 0)) 3262119936 1153138688
  · intro h; cases h
  cases q3 : r52 (Int.toNat (r.getD 1 0)) 1092616192
  · intro h; cases h
  cases q4 : r52 (Int.toNat (r.getD 13 0)) 1092616192
  · intro h; cases h
  cases q5 : r53 (Int.toNat (r.getD 7 0)) 3262119936 1153138688
  · intro h; cases h
  cases q6 : r52 (Int.toNat (r.getD 2 0)) 1092616192
  · intro h; cases h
  cases q7 : r52 (Int.toNat (r.getD 14 0)) 1092616192
  · intro h; cases h
  cases q8 : r53 (Int.toNat (r.getD 8 0)) 3262119936 1153138688
  · intro h; cases h
  cases q9 : r52 (Int.toNat (r.getD 3 0)) 1092616192
  · intro h; cases h
  cases q10 : r52 (Int.toNat (r.getD 15 0)) 1092616192
  · intro h; cases h
  cases q11 : r53 (Int.toNat (r.getD 9 0)) 3262119936 1153138688
  · intro h; cases h
  cases q12 : r52 (Int.toNat (r.getD 4 0)) 1092616192
  · intro h; cases h
  cases q13 : r52 (Int.toNat (r.getD 16 0)) 1092616192
  · intro h; cases h
  cases q14 : r53 (Int.toNat (r.getD 10 0)) 3262119936 1153138688
  · intro h; cases h
  cases q15 : r52 (Int.toNat (r.getD 5 0)) 1092616192
  · intro h; cases h
  cases q16 : r52 (Int.toNat (r.getD 17 0)) 1092616192
  · intro h; cases h
  cases q17 : r53 (Int.toNat (r.getD 11 0)) 3262119936 1153138688
  · intro h; cases h
  intro _
  exact ⟨upto_num q0, upto_num q3, upto_num q6, upto_num q9, upto_num q12, upto_num q15, btw_num q2, btw_num q5, btw_num q8, btw_num q11, btw_num q14, btw_num q17, upto_num q1, upto_num q4, upto_num q7, upto_num q10, upto_num q13, upto_num q16⟩
theorem good_row {r : List Int} (hr : RowOk Sh18 r) (hv : okR r = true) : Good (mkB (wdR r)) (Int.toNat (r.getD 0 0)) (Int.toNat (r.getD 6 0)) (Int.toNat (r.getD 12 0)) (Int.toNat (r.getD 1 0)) (Int.toNat (r.getD 7 0)) (Int.toNat (r.getD 13 0)) (Int.toNat (r.getD 2 0)) (Int.toNat (r.getD 8 0)) (Int.toNat (r.getD 14 0)) (Int.toNat (r.getD 3 0)) (Int.toNat (r.getD 9 0)) (Int.toNat (r.getD 15 0)) (Int.toNat (r.getD 4 0)) (Int.toNat (r.getD 10 0)) (Int.toNat (r.getD 16 0)) (Int.toNat (r.getD 5 0)) (Int.toNat (r.getD 11 0)) (Int.toNat (r.getD 17 0)) := by
  have hn := okR_nums hv
  have lt : ∀ j, j < 18 → Int.toNat (r.getD j 0) < 4294967296 := fun j hj => by
    have : Sh18[j]? = some (.fl .f32) := by
      have : j = 0 ∨ j = 1 ∨ j = 2 ∨ j = 3 ∨ j = 4 ∨ j = 5 ∨ j = 6 ∨ j = 7 ∨ j = 8 ∨ j = 9 ∨ j = 10 ∨ j = 11 ∨ j = 12 ∨ j = 13 ∨ j = 14 ∨ j = 15 ∨ j = 16 ∨ j = 17 := by omega
      rcases this with rfl | rfl | rfl | rfl | rfl | rfl | rfl | rfl | rfl | rfl | rfl | rfl | rfl | rfl | rfl | rfl | rfl | rfl <;> rfl
    exact CTok.lt32 (hr.get this)
  obtain ⟨n0, n1, n2, n3, n4, n5, n6, n7, n8, n9, n10, n11, n12, n13, n14, n15, n16, n17⟩ := hn
  have rd : ∀ {v : Nat}, v < 4294967296 → isN .f32 v = false → rdL (numL v) = some v := fun h hn => by rw [rdL_numL h, hn]; rfl
  have hno : ∀ x ∈ [logL, numL (Int.toNat (r.getD 0 0)), numL (Int.toNat (r.getD 6 0)), numL (Int.toNat (r.getD 12 0)), numL (Int.toNat (r.getD 1 0)), numL (Int.toNat (r.getD 7 0)), numL (Int.toNat (r.getD 13 0)), numL (Int.toNat (r.getD 2 0)), numL (Int.toNat (r.getD 8 0)), numL (Int.toNat (r.getD 14 0)), numL (Int.toNat (r.getD 3 0)), numL (Int.toNat (r.getD 9 0)), numL (Int.toNat (r.getD 15 0)), numL (Int.toNat (r.getD 4 0)), numL (Int.toNat (r.getD 10 0)), numL (Int.toNat (r.getD 16 0)), numL (Int.toNat (r.getD 5 0)), numL (Int.toNat (r.getD 11 0)), numL (Int.toNat (r.getD 17 0))], (32 : UInt8) ∉ x := by
    intro x hx
    simp only [List.mem_cons, List.not_mem_nil, or_false] at hx
    rcases hx with rfl | rfl | rfl | rfl | rfl | rfl | rfl | rfl | rfl | rfl | rfl | rfl | rfl | rfl | rfl | rfl | rfl | rfl | rfl
    · decide
    all_goals exact numL_no (.inl rfl)
  exact { cut := split_joinL (by simp) hno,
           bv1 := lt 0 (by decide), rv1 := rd (lt 0 (by decide)) n0,
           bv2 := lt 6 (by decide), rv2 := rd (lt 6 (by decide)) n6,
           bv3 := lt 12 (by decide), rv3 := rd (lt 12 (by decide)) n12,
           bv4 := lt 1 (by decide), rv4 := rd (lt 1 (by decide)) n1,
           bv5 := lt 7 (by decide), rv5 := rd (lt 7 (by decide)) n7,
           bv6 := lt 13 (by decide), rv6 := rd (lt 13 (by decide)) n13,
           bv7 := lt 2 (by decide), rv7 := rd (lt 2 (by decide)) n2,
           bv8 := lt 8 (by decide), rv8 := rd (lt 8 (by decide)) n8,
           bv9 := lt 14 (by decide), rv9 := rd (lt 14 (by decide)) n14,
           bv10 := lt 3 (by decide), rv10 := rd (lt 3 (by decide)) n3,
           bv11 := lt 9 (by decide), rv11 := rd (lt 9 (by decide)) n9,
           bv12 := lt 15 (by decide), rv12 := rd (lt 15 (by decide)) n15,
           bv13 := lt 4 (by decide), rv13 := rd (lt 4 (by decide)) n4,
           bv14 := lt 10 (by decide), rv14 := rd (lt 10 (by decide)) n10,
           bv15 := lt 16 (by decide), rv15 := rd (lt 16 (by decide)) n16,
           bv16 := lt 5 (by decide), rv16 := rd (lt 5 (by decide)) n5,
           bv17 := lt 11 (by decide), rv17 := rd (lt 11 (by decide)) n11,
           bv18 := lt 17 (by decide), rv18 := rd (lt 17 (by decide)) n17 }
theorem line_of {r : List Int} (hr : RowOk Sh18 r) (hv : okR r = true) : lineW (mkB (wdR r)) = some r := by
  have hs : (mkB (wdR r)).size ≤ 1048576 := by rw [mkB_size]; have := wdR_length r; omega
  have g := good_row hr hv
  have e1 := impl_good hs g
  unfold lineW
  rw [e1]
  have hv' : r14 (Int.toNat (r.getD 0 0)) (Int.toNat (r.getD 1 0)) (Int.toNat (r.getD 2 0)) (Int.toNat (r.getD 3 0)) (Int.toNat (r.getD 4 0)) (Int.toNat (r.getD 5 0)) (Int.toNat (r.getD 6 0)) (Int.toNat (r.getD 7 0)) (Int.toNat (r.getD 8 0)) (Int.toNat (r.getD 9 0)) (Int.toNat (r.getD 10 0)) (Int.toNat (r.getD 11 0)) (Int.toNat (r.getD 12 0)) (Int.toNat (r.getD 13 0)) (Int.toNat (r.getD 14 0)) (Int.toNat (r.getD 15 0)) (Int.toNat (r.getD 16 0)) (Int.toNat (r.getD 17 0)) = true := hv
  rw [hv']
  exact congrArg some (reb_eq hr)
theorem wdR_no {r : List Int} : (10 : UInt8) ∉ wdR r := by
  unfold wdR
  have h0 := fun j => numL_no (n := Int.toNat (r.getD j 0)) (c := 10) (.inr rfl)
  simp only [joinL, List.mem_append, List.mem_cons, not_or]
  exact ⟨by decide, by decide, h0 0, by decide, h0 6, by decide, h0 12, by decide, h0 1, by decide, h0 7, by decide, h0 13, by decide, h0 2, by decide, h0 8, by decide, h0 14, by decide, h0 3, by decide, h0 9, by decide, h0 15, by decide, h0 4, by decide, h0 10, by decide, h0 16, by decide, h0 5, by decide, h0 11, by decide, h0 17⟩
end Go.Proofs.YtbmagccjcccnaaaGreatDoor
namespace Go.Proofs.YtbmagccjcccnaaaGreatDoor
open Go.Ab
open Go.Lib (decDigits)

/-! ### texts put together -/
theorem mk_app (a b : List UInt8) : mkB a ++ mkB b = mkB (a ++ b) := by
  apply ByteArray.ext
  simp [mkB, ByteArray.data_append]
theorem cs {α : Type} {c : Prop} [Decidable c] {a b r : α} (h : c) (e : a = r) : cond (decide c) a b = r := by rw [decide_eq_true h]; exact e
theorem cb {α : Type} {c : Bool} {a b r : α} (h : c = true) (e : a = r) : cond c a b = r := by rw [h]; exact e
theorem text_loop {G : Nat → ByteArray → Int → Nat × ByteArray} {n N : Nat} {line : Nat → List UInt8} (hN : N ≤ 10000000)
    (hl : ∀ i, i < n → (line i).length ≤ 1000)
    (hs : ∀ m t i, i < n → t.length ≤ N → G (m + 1) (mkB t) (i : Int) = G m (mkB (t ++ line i)) ((i + 1 : Nat) : Int))
    (he : ∀ m t, G (m + 1) (mkB t) (n : Int) = (0, mkB t)) :
    ∀ k i t fuel, i + k = n → k < fuel → t.length + 1000 * k ≤ N → G fuel (mkB t) (i : Int) = (0, mkB (t ++ ((List.range' i k).flatMap line))) := by
  intro k
  induction k with
  | zero =>
    intro i t fuel h hf _
    obtain ⟨m, rfl⟩ : ∃ m, fuel = m + 1 := ⟨fuel - 1, by omega⟩
    obtain rfl : i = n := by omega
    rw [he]; simp
  | succ k ih =>
    intro i t fuel h hf hb
    obtain ⟨m, rfl⟩ : ∃ m, fuel = m + 1 := ⟨fuel - 1, by omega⟩
    have := hl i (by omega)
    rw [hs m t i (by omega) (by omega), ih (i + 1) _ m (by omega) (by omega) (by rw [List.length_append]; omega)]
    rw [List.range'_succ, List.flatMap_cons, List.append_assoc]
theorem lines_length {line : Nat → List UInt8} {n : Nat} (hl : ∀ i, i < n → (line i).length ≤ 1000) : ((List.range' 0 n).flatMap line).length ≤ 1000 * n := by
  have key : ∀ k i, i + k ≤ n → ((List.range' i k).flatMap line).length ≤ 1000 * k := by
    intro k
    induction k with
    | zero => intro i _; simp
    | succ k ih =>
      intro i h
      rw [List.range'_succ, List.flatMap_cons, List.length_append]
      have := hl i (by omega); have := ih (i + 1) (by omega); omega
  exact key n 0 (by omega)
/-! ### the header's words -/
abbrev STV : ByteArray := ByteArray.mk #[115, 116, 111, 118, 101]
def stvL : List UInt8 := [115, 116, 111, 118, 101]
noncomputable def bs (W : List ByteArray) : Nat → Bool
  | 0 => !((W.getD 0 .empty).toList == STV.toList)
  | m + 1 => bs W m || nb W (m + 1)
theorem bs_false {W : List ByteArray} : ∀ {m : Nat}, bs W m = false → (W.getD 0 .empty).toList = STV.toList ∧ ∀ j, 1 ≤ j → j ≤ m → j < W.length ∧ (rdB (W.getD j .empty)).isSome = true
  | 0, h => by
    unfold bs at h
    refine ⟨by simpa using h, fun j h1 h2 => by omega⟩
  | m + 1, h => by
    unfold bs at h
    rw [Bool.or_eq_false_iff] at h
    obtain ⟨g1, g2⟩ := bs_false h.1
    refine ⟨g1, fun j h1 h2 => ?_⟩
    by_cases hj : j ≤ m
    · exact g2 j h1 hj
    · obtain rfl : j = m + 1 := by omega
      have := h.2
      unfold nb at this
      rw [Bool.not_eq_false', Bool.and_eq_true, decide_eq_true_eq] at this
      exact this
theorem bs_of {W : List ByteArray} (h0 : (W.getD 0 .empty).toList = STV.toList) : ∀ {m : Nat}, (∀ j, 1 ≤ j → j ≤ m → j < W.length ∧ (rdB (W.getD j .empty)).isSome = true) → bs W m = false
  | 0, _ => by unfold bs; rw [h0]; simp
  | m + 1, h => by
    unfold bs nb
    rw [bs_of h0 fun j h1 h2 => h j h1 (by omega), decide_eq_true (h (m + 1) (by omega) (Nat.le_refl _)).1, (h (m + 1) (by omega) (Nat.le_refl _)).2]
    rfl
section
variable {W : List ByteArray} {L : Nat} (hL : W.length = L)
include hL
theorem is_stove (h1L : 1 ≤ L) : r41 STV 0 L false W = (0, min 1 L, L - min 1 L, bs W 0) := by
  unfold r41 w41 bs
  rw [next_some (by omega) (by omega), show min 1 L = 1 by omega]
  show cond (!((W.getD 0 .empty).toList == STV.toList)) _ _ = _
  cases ((W.getD 0 .empty).toList == STV.toList) <;> rfl
theorem stove_number (m : Nat) : r42 (min (m + 1) L) (L - min (m + 1) L) (bs W m) W = (0, num W (m + 1), min (m + 2) L, L - min (m + 2) L, bs W (m + 1)) := by
  unfold r42 w42
  by_cases h : m + 1 < L
  · rw [show min (m + 1) L = m + 1 by omega, show min (m + 2) L = m + 2 by omega, next_some (by omega) (by omega), bs]
    simp only [read_impl]
    unfold nb num
    rw [decide_eq_true (show m + 1 < W.length by omega), if_pos (show m + 1 < W.length by omega)]
    unfold rdB
    rw [show L - (m + 1) - 1 = L - (m + 2) by omega]
    cases bs W m with
    | true => rfl
    | false =>
      cases rdL (W.getD (m + 1) .empty).data.toList with
      | none => rfl
      | some v => rfl
  · rw [show min (m + 1) L = L by omega, show min (m + 2) L = L by omega, Nat.sub_self, next_none, bs]
    simp only [read_impl]
    unfold nb num
    rw [decide_eq_false (show ¬ m + 1 < W.length by omega), if_neg (show ¬ m + 1 < W.length by omega)]
    cases bs W m <;> rfl
end
/-! ### the text of a stove -/
def snL (st : Int) : List UInt8 := (STATES.getD st.toNat .empty).data.toList
theorem sn_all : ∀ k : Fin 4, (STATES.getD k.val .empty).data.toList.length ≤ 8 ∧ (32 : UInt8) ∉ (STATES.getD k.val .empty).data.toList ∧ (10 : UInt8) ∉ (STATES.getD k.val .empty).data.toList := by decide
theorem sn_len {st : Int} (h : 0 ≤ st ∧ st ≤ 3) : (snL st).length ≤ 8 := by
  obtain ⟨n, rfl⟩ := Int.eq_ofNat_of_zero_le h.1
  exact (sn_all ⟨n, by omega⟩).1
theorem sn_no {st : Int} (h : 0 ≤ st ∧ st ≤ 3) {c : UInt8} (hc : c = 32 ∨ c = 10) : c ∉ snL st := by
  obtain ⟨n, rfl⟩ := Int.eq_ofNat_of_zero_le h.1
  have := sn_all ⟨n, by omega⟩
  rcases hc with rfl | rfl
  · exact this.2.1
  · exact this.2.2
theorem state_text {st : Int} (h : 0 ≤ st ∧ st ≤ 3) : r102 st = (0, mkB (snL st)) := by
  obtain ⟨n, rfl⟩ := Int.eq_ofNat_of_zero_le h.1
  unfold r102 w102
  rw [decide_eq_false (show ¬ ((n : Nat) : Int) < 0 by omega), wrap_i64 (by omega) (by omega), decide_eq_false (show ¬ ((n : Nat) : Int) ≥ 4 by omega), dle0, Int.toNat_natCast, blt_t (show n < 4 by omega), Nat.zero_add, blt_t (show n < 4 by omega)]
  rfl
def hdL (b d : Nat) (st a : Int) (u : Nat) : List UInt8 := joinL 32 [stvL, numL b, numL d, numL u, snL st, decDigits a.toNat]
def wdsL (L : List (List Int)) : List (List UInt8) := (List.range' 0 L.length).map fun i => wdR (L.getD i [])
def textS (b d : Nat) (st a : Int) (u : Nat) (L : List (List Int)) : List UInt8 := (hdL b d st a u :: wdsL L).flatMap (· ++ [10])
theorem hdL_len {b d u : Nat} {st a : Int} (h : 0 ≤ st ∧ st ≤ 3) (ha : 0 ≤ a ∧ a ≤ 1000000) : (hdL b d st a u).length ≤ 60 := by
  have := sn_len h
  have hd := dec_len 6 a.toNat (by omega)
  unfold hdL; simp only [joinL, stvL, List.length_append, numL_length, List.length_cons, List.length_nil]; omega
theorem map6 (a b c d e f : List UInt8) : [mkB a, mkB b, mkB c, mkB d, mkB e, mkB f] = List.map mkB [a, b, c, d, e, f] := rfl
section
variable {b d u : Nat} {st a : Int} (hb : b < 4294967296) (hd : d < 4294967296) (hu : u < 4294967296) (hs : 0 ≤ st ∧ st ≤ 3) (ha : 0 ≤ a ∧ a ≤ 1000000)
include hs ha in
theorem head_join : joinOk ([mkB stvL, mkB (numL b), mkB (numL d), mkB (numL u), mkB (snL st), mkB (decDigits a.toNat)] : List ByteArray) (ByteArray.mk #[32]) = true ∧ joinB ([mkB stvL, mkB (numL b), mkB (numL d), mkB (numL u), mkB (snL st), mkB (decDigits a.toNat)] : List ByteArray) (ByteArray.mk #[32]) = mkB (hdL b d st a u) := by
  have := sn_len hs
  have h2 := dec_len 6 a.toNat (by omega)
  rw [map6]
  refine ⟨joinOk_eq (by simp) (by simp only [stvL, List.map_cons, List.map_nil, List.sum_cons, List.sum_nil, numL_length, List.length_cons, List.length_nil]; omega), joinB_eq _ _⟩
include ha in
theorem ash_text : itoaB a = mkB (decDigits a.toNat) := by
  obtain ⟨n, rfl⟩ := Int.eq_ofNat_of_zero_le ha.1
  rw [itoa_dec, Int.toNat_natCast]
include hb hd hu hs ha
theorem text0 : r73b b d st a u = (0, mkB (textS b d st a u [])) := by
  have hl := hdL_len (b := b) (d := d) (u := u) hs ha
  have hj := head_join (b := b) (d := d) (u := u) hs ha
  have e : mkB (textS b d st a u []) = mkB (hdL b d st a u) ++ mkB [10] := by
    rw [mk_app]; unfold textS wdsL; simp
  unfold r73b w73b
  rw [text_eq hb, text_eq hd, text_eq hu, state_text hs, ash_text ha, show (ByteArray.mk #[115, 116, 111, 118, 101]) = mkB stvL from rfl, show (ByteArray.mk #[10]) = mkB [10] from rfl, e]
  simp only [hj.1, hj.2]
  rw [decide_eq_true (show (-9223372036854775808 : Int) ≤ a by omega), decide_eq_true (show a ≤ 9223372036854775807 by omega)]
  repeat' first | refine cs (by rw [mkB_size]; unfold strMax; omega) ?_ | refine cb rfl ?_
  rfl
omit hb hd hu hs ha in
theorem wood_row {r : List Int} (hr : RowOk Sh18 r) : r44 (Int.toNat (r.getD 0 0)) (Int.toNat (r.getD 1 0)) (Int.toNat (r.getD 2 0)) (Int.toNat (r.getD 3 0)) (Int.toNat (r.getD 4 0)) (Int.toNat (r.getD 5 0)) (Int.toNat (r.getD 6 0)) (Int.toNat (r.getD 7 0)) (Int.toNat (r.getD 8 0)) (Int.toNat (r.getD 9 0)) (Int.toNat (r.getD 10 0)) (Int.toNat (r.getD 11 0)) (Int.toNat (r.getD 12 0)) (Int.toNat (r.getD 13 0)) (Int.toNat (r.getD 14 0)) (Int.toNat (r.getD 15 0)) (Int.toNat (r.getD 16 0)) (Int.toNat (r.getD 17 0)) = (0, mkB (wdR r)) := by
  have lt : ∀ j, Sh18[j]? = some (.fl .f32) → Int.toNat (r.getD j 0) < 4294967296 := fun j h => CTok.lt32 (hr.get h)
  exact wood_text (lt 0 rfl) (lt 1 rfl) (lt 2 rfl) (lt 3 rfl) (lt 4 rfl) (lt 5 rfl) (lt 6 rfl) (lt 7 rfl) (lt 8 rfl) (lt 9 rfl) (lt 10 rfl) (lt 11 rfl) (lt 12 rfl) (lt 13 rfl) (lt 14 rfl) (lt 15 rfl) (lt 16 rfl) (lt 17 rfl)
theorem textN {L : List (List Int)} (hL : RowsOk Sh18 L) (h6 : L.length ≤ 6) : r73 b d st a u L = (0, mkB (textS b d st a u L)) := by
  have hl := hdL_len (b := b) (d := d) (u := u) hs ha
  have hj := head_join (b := b) (d := d) (u := u) hs ha
  have e0 : ∀ fuel, L.length < fuel → r73l0 fuel (mkB (hdL b d st a u ++ [10])) ((L.length : Nat) : Int) ((0 : Nat) : Int) L = (0, mkB ((hdL b d st a u ++ [10]) ++ (List.range' 0 L.length).flatMap fun i => wdR (L.getD i []) ++ [10])) := fun fuel hf =>
    text_loop (G := fun m x i => r73l0 m x ((L.length : Nat) : Int) i L) (n := L.length) (N := 100000) (line := fun i => wdR (L.getD i []) ++ [10]) (by omega) (fun i _ => by rw [List.length_append]; have := wdR_length (L.getD i []); show (wdR (L.getD i [])).length + 1 ≤ 1000; omega)
      (fun m t i hi ht => by
        have hw := wdR_length (L.getD i [])
        show b73l0 (r73l0 m) _ _ _ _ = _
        unfold b73l0
        rw [dlt_t hi, dle0, Int.toNat_natCast, blt_t hi, wrap_succ (by omega), wood_row (hL.get hi), show (ByteArray.mk #[10]) = mkB [10] from rfl]
        simp only [mk_app, mkB_size, List.length_append, List.length_cons, List.length_nil]
        repeat' first | refine cs (by unfold strMax; omega) ?_ | refine cb rfl ?_
        rfl)
      (fun m t => by show b73l0 _ _ _ _ _ = _; unfold b73l0; rw [dlt_f (Nat.lt_irrefl _)]; rfl) L.length 0 _ fuel (by omega) hf (by rw [List.length_append, List.length_singleton]; omega)
  unfold r73 w73
  rw [text_eq hb, text_eq hd, text_eq hu, state_text hs, ash_text ha, show (ByteArray.mk #[115, 116, 111, 118, 101]) = mkB stvL from rfl, show (ByteArray.mk #[10]) = mkB [10] from rfl]
  simp only [hj.1, hj.2, mk_app]
  rw [show (0 : Int) = ((0 : Nat) : Int) from rfl, e0 _ (by omega)]
  rw [decide_eq_true (show (-9223372036854775808 : Int) ≤ a by omega), decide_eq_true (show a ≤ 9223372036854775807 by omega)]
  repeat' first | refine cs (by rw [mkB_size]; unfold strMax; omega) ?_ | refine cb rfl ?_
  show (0, _) = (0, _)
  congr 2
  unfold textS wdsL
  rw [List.flatMap_cons, List.flatMap_map]
end
/-! ### cut and put together -/
theorem split_text : ∀ (L : List (List UInt8)), (∀ l ∈ L, (10 : UInt8) ∉ l) → splitL 10 (L.flatMap (· ++ [10])) = L ++ [[]]
  | [], _ => splitL_no (by simp)
  | a :: L, h => by
    rw [List.flatMap_cons, List.append_assoc, List.singleton_append, splitL_app (h a (List.mem_cons_self ..)), split_text L fun l hl => h l (List.mem_cons_of_mem _ hl)]; rfl
theorem join_text : ∀ (L : List (List UInt8)), joinL 10 (L ++ [[]]) = L.flatMap (· ++ [10])
  | [] => rfl
  | a :: L => by
    rw [List.cons_append, joinL_cons 10 a (by simp), join_text L, List.flatMap_cons, List.append_assoc, List.singleton_append]
theorem join_len (c : UInt8) : ∀ L : List (List UInt8), L.length ≤ (joinL c L).length + 1
  | [] => by simp
  | [x] => by simp
  | x :: y :: r => by
    rw [joinL_cons c x (by simp), List.length_append, List.length_cons]
    have := join_len c (y :: r)
    simp only [List.length_cons] at this ⊢
    omega
theorem splB_len {c : UInt8} {s : ByteArray} : (splB c s).length ≤ s.size + 1 := by
  rw [splB_eq, List.length_map]
  have := join_len c (splitL c s.data.toList)
  rw [join_splitL] at this
  rw [size_eq]; exact this
theorem splB_sizes {c : UInt8} {s : ByteArray} (hs : s.size ≤ 1048576) (j : Nat) : ((splB c s).getD j .empty).size ≤ 1048576 := by
  have key : ∀ x ∈ splB c s, x.size ≤ 1048576 := by
    intro x hx
    rw [splB_eq, List.mem_map] at hx
    obtain ⟨l, hl, rfl⟩ := hx
    rw [mkB_size]
    have hj := join_splitL c s.data.toList
    have : ∀ (L : List (List UInt8)), l ∈ L → l.length ≤ (joinL c L).length := by
      intro L
      induction L with
      | nil => intro h; cases h
      | cons y r ih =>
        intro h
        by_cases hr : r = []
        · subst hr
          rcases List.mem_cons.1 h with h | h
          · subst h; simp [joinL]
          · cases h
        · rw [joinL_cons c y hr, List.length_append, List.length_cons]
          rcases List.mem_cons.1 h with h | h
          · subst h; omega
          · have := ih h; omega
    have h2 := this _ hl
    rw [hj] at h2
    have := size_eq s
    omega
  by_cases hj : j < (splB c s).length
  · rw [List.getD_eq_getElem?_getD, List.getElem?_eq_getElem hj]
    exact key _ (List.getElem_mem hj)
  · rw [List.getD_eq_getElem?_getD, List.getElem?_eq_none (by omega)]
    show ByteArray.empty.size ≤ _
    decide
end Go.Proofs.YtbmagccjcccnaaaGreatDoor
