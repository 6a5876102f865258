/- The plain law of ReadStove. -/
import Derived.Test.YtbmagccjcccnaaaGreatDoorPrtb
namespace Go.Proofs.YtbmagccjcccnaaaGreatDoor
open Go.Ab
open Go.Lib (decDigits)

/-- a valid stove -/
structure V (b d : Nat) (st a : Int) (u : Nat) (L : List (List Int)) : Prop where
  hb : b < 4294967296
  hd : d < 4294967296
  hu : u < 4294967296
  rows : RowsOk Sh18 L
  logs : okL L = true
  rest : sc b d st a u = true
section
variable {b d u : Nat} {st a : Int} {L : List (List Int)}
theorem V.facts (h : V b d st a u L) : (0 ≤ st ∧ st ≤ 3) ∧ (0 ≤ a ∧ a ≤ 1000000) ∧ L.length ≤ 6 ∧ (∀ i, i < L.length → okR (L.getD i []) = true) ∧ isN .f32 b = false ∧ isN .f32 d = false ∧ isN .f32 u = false := by
  have h1 := h.logs
  have h2 := h.rest
  unfold okL at h1
  unfold sc at h2
  simp only [Bool.and_eq_true, decide_eq_true_eq] at h1 h2
  have am : ∀ {n : Nat}, n < 4294967296 → r19 n = true → isN .f32 n = false := fun hn e => by
    rw [(amount_eq _ hn).1, decide_eq_true_eq] at e
    rw [isN32, decide_eq_false_iff_not]; omega
  have hd17 : r19 d = true := by
    have := h2.2.1
    unfold r17 w17 at this
    cases e : r19 d with
    | true => rfl
    | false => rw [e] at this; cases this
  exact ⟨by omega, by omega, h1.1, allN_true.1 h1.2, btw_num h2.1, am h.hd hd17, am h.hu h2.2.2.2.2.2.2.1⟩
theorem hit_all : ∀ k i : Fin 4, ((STATES.getD i.val .empty).data.toList == (STATES.getD k.val .empty).data.toList) = decide (i = k) := by decide
theorem hit_at {k i : Nat} (hk : k < 4) (hi : i < 4) : hit (mkB (STATES.getD k .empty).data.toList) i = decide (i = k) := by
  unfold hit
  rw [toList_eq, toList_eq, mkB_data]
  have := hit_all ⟨k, hk⟩ ⟨i, hi⟩
  rw [this]
  by_cases e : i = k
  · subst e; simp
  · rw [decide_eq_false e, decide_eq_false (fun h => e (Fin.mk.inj h))]
theorem pk_name {k : Nat} (hk : k < 4) (s : Int) : pk (mkB (snL (k : Int))) s = (k : Int) := by
  unfold pk snL
  rw [Int.toNat_natCast, hit_at hk (by omega), hit_at hk (by omega), hit_at hk (by omega), hit_at hk (by omega)]
  have : k = 0 ∨ k = 1 ∨ k = 2 ∨ k = 3 := by omega
  rcases this with rfl | rfl | rfl | rfl <;> rfl
theorem name_of {w : ByteArray} (h : 0 ≤ pk w (-1)) : w.data.toList = snL (pk w (-1)) := by
  have key : ∀ i, hit w i = true → w.data.toList = (STATES.getD i .empty).data.toList := fun i e => by
    unfold hit at e
    have := eq_of_beq e
    rw [toList_eq, toList_eq] at this
    exact this.symm
  unfold pk at h ⊢
  cases h3 : hit w 3 with
  | true => exact key 3 h3
  | false =>
  cases h2 : hit w 2 with
  | true => exact key 2 h2
  | false =>
  cases h1 : hit w 1 with
  | true => exact key 1 h1
  | false =>
  cases h0 : hit w 0 with
  | true => exact key 0 h0
  | false =>
    rw [h3, h2, h1, h0] at h
    exact absurd h (by decide)
theorem hd_words (hs : 0 ≤ st ∧ st ≤ 3) : splB 32 (mkB (hdL b d st a u)) = [mkB stvL, mkB (numL b), mkB (numL d), mkB (numL u), mkB (snL st), mkB (decDigits a.toNat)] := by
  rw [splB_eq, mkB_data]
  unfold hdL
  rw [split_joinL (by simp) (by
    intro x hx
    simp only [List.mem_cons, List.not_mem_nil, or_false] at hx
    rcases hx with rfl | rfl | rfl | rfl | rfl | rfl
    · decide
    · exact numL_no (.inl rfl)
    · exact numL_no (.inl rfl)
    · exact numL_no (.inl rfl)
    · exact sn_no hs (.inl rfl)
    · exact dec_no (.inl rfl))]
  rfl
theorem hd_no (hs : 0 ≤ st ∧ st ≤ 3) : (10 : UInt8) ∉ hdL b d st a u := by
  unfold hdL
  have h1 := sn_no hs (c := 10) (.inr rfl)
  have h2 := dec_no (n := a.toNat) (c := 10) (.inr rfl)
  have h0 := fun n => numL_no (n := n) (c := 10) (.inr rfl)
  simp only [joinL, List.mem_append, List.mem_cons, not_or]
  exact ⟨by decide, by decide, h0 b, by decide, h0 d, by decide, h0 u, by decide, h1, by decide, h2⟩
theorem split_of (hs : 0 ≤ st ∧ st ≤ 3) : splB 10 (mkB (textS b d st a u L)) = ((hdL b d st a u :: wdsL L) ++ [[]]).map mkB := by
  rw [splB_eq, mkB_data]
  unfold textS
  rw [split_text]
  intro l hl
  rcases List.mem_cons.1 hl with rfl | hl
  · exact hd_no hs
  · unfold wdsL at hl
    rw [List.mem_map] at hl
    obtain ⟨i, _, rfl⟩ := hl
    exact wdR_no
theorem wds_len : (wdsL L).length = L.length := by unfold wdsL; simp
theorem wds_get {j : Nat} (hj : j < L.length) : (wdsL L)[j]? = some (wdR (L.getD j [])) := by
  unfold wdsL
  rw [List.getElem?_map, List.getElem?_range' hj]; simp
theorem rd_num {v : Nat} (h : v < 4294967296) (hn : isN .f32 v = false) : rdB (mkB (numL v)) = some v := by
  unfold rdB
  rw [mkB_data, rdL_numL h, hn]; rfl
/-- what is known of such a text -/
theorem text_facts (h : V b d st a u L) : Sh (mkB (textS b d st a u L)) (L.length + 1) ∧ hdW (mkB (textS b d st a u L)) = [mkB stvL, mkB (numL b), mkB (numL d), mkB (numL u), mkB (snL st), mkB (decDigits a.toNat)] ∧
    (∀ j, j < L.length → lineW ((splB 10 (mkB (textS b d st a u L))).getD (1 + j) .empty) = some (L.getD j [])) := by
  obtain ⟨hs, ha, h6, hr, _⟩ := h.facts
  have hsp := split_of (b := b) (d := d) (u := u) (a := a) (L := L) hs
  refine ⟨⟨?_, by omega, ?_⟩, ?_, fun j hj => ?_⟩
  · rw [hsp]; simp [wds_len]
  · rw [hsp, List.getD_eq_getElem?_getD, List.getElem?_map, List.getElem?_append_right (by simp [wds_len])]
    simp [wds_len]
    rw [toList_eq]; rfl
  · unfold hdW
    rw [hsp]
    exact hd_words hs
  · have e : (splB 10 (mkB (textS b d st a u L))).getD (1 + j) .empty = mkB (wdR (L.getD j [])) := by
      rw [hsp, List.getD_eq_getElem?_getD, List.getElem?_map, List.getElem?_append_left (by simp [wds_len]; omega), show 1 + j = j + 1 by omega, List.getElem?_cons_succ, wds_get hj]
      rfl
    rw [e]
    exact line_of (h.rows.get hj) (hr j hj)
theorem num_at {W : List ByteArray} {m v : Nat} (hm : m < W.length) (e : W.getD m .empty = mkB (numL v)) (h : v < 4294967296) (hn : isN .f32 v = false) : num W m = v := by
  unfold num
  rw [if_pos hm, e, rd_num h hn]; rfl
theorem words_facts (h : V b d st a u L) : let W := [mkB stvL, mkB (numL b), mkB (numL d), mkB (numL u), mkB (snL st), mkB (decDigits a.toNat)]
    goodH W = true ∧ goodS W = true ∧ num W 1 = b ∧ num W 2 = d ∧ num W 3 = u ∧ pk (W.getD 4 .empty) 0 = st ∧ pk (W.getD 4 .empty) (-1) = st ∧ pInt (W.getD 5 .empty) = a ∧ (r97 (W.getD 5 .empty)).2.1 = a := by
  obtain ⟨hs, ha, h6, hr, nb, nd, nu⟩ := h.facts
  intro W
  have hbs : bs W 3 = false := by
    refine bs_of rfl fun j h1 h2 => ?_
    have : j = 1 ∨ j = 2 ∨ j = 3 := by omega
    rcases this with rfl | rfl | rfl
    · exact ⟨by show 1 < 6; omega, congrArg Option.isSome (rd_num h.hb nb)⟩
    · exact ⟨by show 2 < 6; omega, congrArg Option.isSome (rd_num h.hd nd)⟩
    · exact ⟨by show 3 < 6; omega, congrArg Option.isSome (rd_num h.hu nu)⟩
  obtain ⟨n, rfl⟩ := Int.eq_ofNat_of_zero_le ha.1
  obtain ⟨k, rfl⟩ := Int.eq_ofNat_of_zero_le hs.1
  have p := parse_dec (n := n) (by omega)
  have q := number_dec (n := n) (by omega)
  have e5 : W.getD 5 .empty = mkB (decDigits n) := rfl
  have e4 : W.getD 4 .empty = mkB (snL (k : Int)) := rfl
  refine ⟨?_, ?_, num_at (by show 1 < 6; omega) rfl h.hb nb, num_at (by show 2 < 6; omega) rfl h.hd nd, num_at (by show 3 < 6; omega) rfl h.hu nu, ?_, ?_, ?_, ?_⟩
  · unfold goodH; rw [hbs, e5, p.2]; rfl
  · unfold goodS; rw [hbs, e5, q]; rfl
  · rw [e4]; exact pk_name (by omega) 0
  · rw [e4]; exact pk_name (by omega) (-1)
  · rw [e5]; exact p.1
  · rw [e5, q]
theorem uniq {f : Nat → Option (List Int)} {n : Nat} {c R : List (List Int)} (c1 : c.length = n) (c2 : ∀ j, j < n → f j = some (c.getD j [])) (g1 : R.length = n) (g2 : ∀ j, j < n → f j = some (R.getD j [])) : c = R := by
  apply List.ext_getElem (by omega)
  intro j hj1 hj2
  have e1 := c2 j (by omega)
  rw [g2 j (by omega)] at e1
  have e2 := Option.some.inj e1
  rw [List.getD_eq_getElem?_getD, List.getElem?_eq_getElem hj2, List.getD_eq_getElem?_getD, List.getElem?_eq_getElem hj1] at e2
  exact e2.symm
theorem good_both (h : V b d st a u L) (hx : (mkB (textS b d st a u L)).size ≤ 1048576) : r34 (mkB (textS b d st a u L)) = encS b d st a u L ∧ r33 (mkB (textS b d st a u L)) = encS b d st a u L := by
  obtain ⟨_, _, h6, _⟩ := h.facts
  obtain ⟨sh, hW, hl⟩ := text_facts h
  obtain ⟨w1, w2, w3, w4, w5, w6, w7, w8, w9⟩ := words_facts h
  rw [← hW] at w1 w2 w3 w4 w5 w6 w7 w8 w9
  refine ⟨?_, ?_⟩
  · rcases impl_flow hx sh (by omega) with ⟨g, _⟩ | ⟨_, ⟨R, q1, q2, _, q4⟩ | ⟨⟨j, q1, q2⟩, _⟩⟩
    · rw [w1] at g; cases g
    · have := uniq q1 q2 rfl (fun j hj => hl j hj)
      subst this
      rw [w3, w4, w5, w6, w8, h.logs, h.rest, beq_self_eq_true] at q4
      exact q4
    · rw [hl j q1] at q2; cases q2
  · rcases spec_flow hx sh with ⟨g, _⟩ | ⟨_, ⟨R, q1, q2, q4⟩ | ⟨⟨j, q1, q2⟩, _⟩⟩
    · rw [w2] at g; cases g
    · have := uniq q1 q2 rfl (fun j hj => hl j hj)
      subst this
      rw [w3, w4, w5, w7, w9, h.logs, h.rest] at q4
      exact q4
    · rw [hl j q1] at q2; cases q2
end
theorem six {l : List (List UInt8)} (h : l.length = 6) : ∃ a b c d e f, l = [a, b, c, d, e, f] := by
  match l, h with
  | [a, b, c, d, e, f], _ => exact ⟨a, b, c, d, e, f, rfl⟩
theorem text_of {x : ByteArray} (hx : x.size ≤ 1048576) {n : Nat} (sh : Sh x n) (hg : goodS (hdW x) = true) {R : List (List Int)} (q1 : R.length = n - 1) (q2 : ∀ j, j < n - 1 → lineW ((splB 10 x).getD (1 + j) .empty) = some (R.getD j []))
    (hst : 0 ≤ pk ((hdW x).getD 4 .empty) (-1)) : x = mkB (textS (num (hdW x) 1) (num (hdW x) 2) (pk ((hdW x).getD 4 .empty) (-1)) ((r97 ((hdW x).getD 5 .empty)).2.1) (num (hdW x) 3) R) := by
  have len := sh.len
  have n1 := sh.n1
  have last := empty_of sh.last
  unfold goodS at hg
  rw [Bool.and_eq_true, Bool.and_eq_true, decide_eq_true_eq, Bool.not_eq_true'] at hg
  obtain ⟨h6, hb, ho⟩ := hg
  obtain ⟨b0, bj⟩ := bs_false hb
  obtain ⟨v, bb, g5, _, g6⟩ := number_spec ((hdW x).getD 5 .empty)
  have hd0 : ((splB 10 x).getD 0 .empty).data.toList = hdL (num (hdW x) 1) (num (hdW x) 2) (pk ((hdW x).getD 4 .empty) (-1)) ((r97 ((hdW x).getD 5 .empty)).2.1) (num (hdW x) 3) := by
    have hj := join_splitL 32 ((splB 10 x).getD 0 .empty).data.toList
    have hws : hdW x = (splitL 32 ((splB 10 x).getD 0 .empty).data.toList).map mkB := rfl
    rw [g5] at ho ⊢
    have e5 := g6 ho
    have e4 := name_of hst
    have hn : ∀ j, 1 ≤ j → j ≤ 3 → ((hdW x).getD j .empty).data.toList = numL (num (hdW x) j) := fun j h1 h2 => by
      obtain ⟨p1, p2⟩ := bj j h1 h2
      unfold num
      rw [if_pos p1]
      cases hr : rdB ((hdW x).getD j .empty) with
      | none => rw [hr] at p2; cases p2
      | some v => exact (numL_rdL hr).2.symm
    have n1 := hn 1 (by omega) (by omega)
    have n2 := hn 2 (by omega) (by omega)
    have n3 := hn 3 (by omega) (by omega)
    rw [toList_eq, toList_eq] at b0
    have e5' : ((hdW x).getD 5 .empty).data.toList = decDigits v := by rw [e5]; rfl
    have h6' : (splitL 32 ((splB 10 x).getD 0 .empty).data.toList).length = 6 := by rw [hws, List.length_map] at h6; exact h6
    obtain ⟨l0, l1, l2, l3, l4, l5, hl⟩ := six h6'
    unfold hdL
    rw [← n1, ← n2, ← n3, ← e4, Int.toNat_natCast, ← e5', ← hj]
    rw [hws, hl] at b0 ⊢
    have b0' : l0 = stvL := b0
    rw [b0']
    rfl
  have hsp : splitL 10 x.data.toList = (hdL (num (hdW x) 1) (num (hdW x) 2) (pk ((hdW x).getD 4 .empty) (-1)) ((r97 ((hdW x).getD 5 .empty)).2.1) (num (hdW x) 3) :: wdsL R) ++ [[]] := by
    rw [splB_eq, List.length_map] at len
    apply List.ext_getElem (by simp [wds_len]; omega)
    intro j hj1 hj2
    have e : ((splB 10 x).getD j .empty).data.toList = (splitL 10 x.data.toList)[j] := by
      rw [splB_eq, List.getD_eq_getElem?_getD, List.getElem?_map, List.getElem?_eq_getElem hj1]; rfl
    rw [← e]
    cases j with
    | zero => exact hd0
    | succ j =>
      by_cases hj : j < R.length
      · rw [List.getElem_append_left (by simp [wds_len]; omega), List.getElem_cons_succ]
        have hq := q2 j (by omega)
        rw [show 1 + j = j + 1 by omega] at hq
        have hw := wds_get hj
        have hjw : j < (wdsL R).length := by rw [wds_len]; exact hj
        rw [List.getElem?_eq_getElem hjw] at hw
        rw [Option.some.inj hw]
        rcases (line_cases (splB_sizes (c := 10) hx (j + 1))).2.2 with ⟨r', p1, _, _, _, _, p6⟩ | ⟨p1, _⟩
        · rw [p1] at hq
          rw [p6, Option.some.inj hq]
        · rw [p1] at hq; cases hq
      · have hjn : n = j + 1 := by
          simp [wds_len] at hj2; omega
        subst hjn
        rw [last, List.getElem_append_right (by simp [wds_len]; omega)]
        simp
  have hj := join_splitL 10 x.data.toList
  rw [hsp, join_text] at hj
  exact (mkB_of x).symm.trans (congrArg mkB hj.symm)
theorem bad_impl {x : ByteArray} (hx : x.size ≤ 1048576) (H : ¬ ∃ b d st a u L, V b d st a u L ∧ x = mkB (textS b d st a u L)) : r34 x = encN := by
  by_cases hs : ∃ n, Sh x n ∧ n ≤ 7
  · obtain ⟨n, sh, n7⟩ := hs
    rcases impl_flow hx sh n7 with ⟨_, g⟩ | ⟨_, ⟨R, q1, q2, q3, q4⟩ | ⟨_, g⟩⟩
    · exact g
    · rw [q4]
      cases hv : okL R && sc (num (hdW x) 1) (num (hdW x) 2) (pk ((hdW x).getD 4 .empty) 0) (pInt ((hdW x).getD 5 .empty)) (num (hdW x) 3) with
      | false => rfl
      | true =>
        cases ht : (mkB (textS (num (hdW x) 1) (num (hdW x) 2) (pk ((hdW x).getD 4 .empty) 0) (pInt ((hdW x).getD 5 .empty)) (num (hdW x) 3) R)).toList == x.toList with
        | false => rfl
        | true =>
          exfalso
          rw [Bool.and_eq_true] at hv
          refine H ⟨_, _, _, _, _, R, ⟨num_lt _ 1, num_lt _ 2, num_lt _ 3, q3, hv.1, hv.2⟩, ?_⟩
          have := eq_of_beq ht
          rw [toList_eq, toList_eq, mkB_data] at this
          exact (mkB_of x).symm.trans (congrArg mkB this.symm)
    · exact g
  · exact impl_no hx hs
theorem bad_spec {x : ByteArray} (hx : x.size ≤ 1048576) (H : ¬ ∃ b d st a u L, V b d st a u L ∧ x = mkB (textS b d st a u L)) : r33 x = encN := by
  by_cases hs : ∃ n, Sh x n
  · obtain ⟨n, sh⟩ := hs
    rcases spec_flow hx sh with ⟨_, g⟩ | ⟨hg, ⟨R, q1, q2, q4⟩ | ⟨_, g⟩⟩
    · exact g
    · rw [q4]
      cases hv : okL R && sc (num (hdW x) 1) (num (hdW x) 2) (pk ((hdW x).getD 4 .empty) (-1)) ((r97 ((hdW x).getD 5 .empty)).2.1) (num (hdW x) 3) with
      | false => rfl
      | true =>
        exfalso
        rw [Bool.and_eq_true] at hv
        have hR : RowsOk Sh18 R := by
          intro r hr
          obtain ⟨j, hj, rfl⟩ := List.getElem_of_mem hr
          have e := q2 j (by omega)
          rcases (line_cases (splB_sizes (c := 10) hx (1 + j))).2.2 with ⟨r', p1, _, _, p4, _, _⟩ | ⟨p1, _⟩
          · rw [p1] at e
            have := Option.some.inj e
            rw [List.getD_eq_getElem?_getD, List.getElem?_eq_getElem hj] at this
            have e2 : r' = R[j] := this
            rw [← e2]; exact p4
          · rw [p1] at e; cases e
        have hst : 0 ≤ pk ((hdW x).getD 4 .empty) (-1) := by
          have := hv.2
          unfold sc at this
          simp only [Bool.and_eq_true, decide_eq_true_eq] at this
          exact this.2.2.1
        exact H ⟨_, _, _, _, _, R, ⟨num_lt _ 1, num_lt _ 2, num_lt _ 3, hR, hv.1, hv.2⟩, text_of hx sh hg q1 q2 hst⟩
    · exact g
  · exact spec_no hx hs
/-! ### the law -/
theorem eq_stove (b d : Nat) (st a : Int) (u : Nat) : r35 b d st a u b d st a u = true := by
  unfold r35 w35
  simp only [same_refl, bne_self_eq_false]; rfl
theorem logs_self {L : List (List Int)} (hl : L.length ≤ 1048576) : r74d L L = (0, true) := by
  have key : r74l0d (1000 + L.length + L.length) 0 L L = 1 := by
    refine Eq.trans (all_loop (n := L.length) (p := fun _ => true) (yes := 1) (no := 0) (G := fun m i => r74l0d m i L L) ?_ ?_ (by omega)) (by rw [show allN L.length (fun _ => true) = true from allN_true.2 (fun _ _ => rfl)]; rfl)
    · intro m
      show b74l0d (r74l0d m) _ _ _ = _
      unfold b74l0d
      rw [dlt_f (Nat.lt_irrefl _)]; rfl
    · intro m i hi
      show b74l0d (r74l0d m) _ _ _ = _
      unfold b74l0d
      simp only [wood_refl]
      rw [dlt_t hi, dle0, Int.toNat_natCast, blt_t hi, wrap_succ (by omega)]
      rfl
  unfold r74d w74d
  rw [key, bne_self_eq_false]; rfl
theorem eq_stoveL (b d : Nat) (st a : Int) (u : Nat) {L : List (List Int)} (hl : L.length ≤ 1048576) : r35d b d st a u b d st a u L L = (0, true) := by
  unfold r35d w35d
  rw [logs_self hl]
  simp only [same_refl, bne_self_eq_false]; rfl
theorem plain4 (x : ByteArray) : r4 x = (0, true) := by
  by_cases hx0 : x.size > 1048576
  · unfold r4
    rw [decide_eq_true (show ((x.size : Nat) : Int) > 1048576 by omega)]; rfl
  have hx : x.size ≤ 1048576 := by omega
  have same : ∃ b d st a u L, L.length ≤ 1048576 ∧ ((r34 x = encN ∧ r33 x = encN) ∨ (r34 x = encS b d st a u L ∧ r33 x = encS b d st a u L)) := by
    by_cases H : ∃ b d st a u L, V b d st a u L ∧ x = mkB (textS b d st a u L)
    · obtain ⟨b, d, st, a, u, L, hv, rfl⟩ := H
      have h6 := hv.facts.2.2.1
      exact ⟨b, d, st, a, u, L, by omega, .inr (good_both hv hx)⟩
    · exact ⟨0, 0, 0, 0, 0, [], by simp, .inl ⟨bad_impl hx H, bad_spec hx H⟩⟩
  obtain ⟨b, d, st, a, u, L, hL, h⟩ := same
  unfold r4
  rw [decide_eq_false (show ¬ ((x.size : Nat) : Int) > 1048576 by omega)]
  rcases h with ⟨e1, e2⟩ | ⟨e1, e2⟩
  · rw [e1, e2]
    unfold encN
    simp only [eq_stove]
    rfl
  · rw [e1, e2]
    cases L with
    | nil =>
      unfold encS
      simp only [eq_stove]
      rfl
    | cons r L =>
      have m1 := mark_eq (L := r :: L) hL
      have m2 := held_eq (L := r :: L) hL
      have k1 : r36b b d st a u 1 (r :: L) = (0, ((1 + 18 * (r :: L).length : Nat) : Int), marksN (r :: L).length 1 0 (r :: L)) := by unfold r36b w36b; rw [m1]; rfl
      have k2 : r37b b d st a u 1 (marksN (r :: L).length 1 0 (r :: L)) = (0, ((1 + 18 * (r :: L).length : Nat) : Int)) := by
        unfold r37b w37b
        rw [m2, decide_eq_false (by omega)]; rfl
      unfold encS
      have hdc : decide (((1 + 18 * (r :: L).length : Nat) : Int) < 0) = false := decide_eq_false (by omega)
      simp only [eq_stoveL b d st a u hL, k1, k2, hdc, bne_self_eq_false]
      rfl
end Go.Proofs.YtbmagccjcccnaaaGreatDoor
