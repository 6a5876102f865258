/- The library's functions, as the kit's shelf tells them: strings.Join, strings.Split at one byte, strings.IndexByte, strconv.FormatInt of small numbers. -/
import Derived.Test.YtffpnkkhcgjmfaaGreatDoorA23
import Derived.Test.YtffpnkkhcgjmfaaGreatDoorA34
import Derived.Shelf.Strings.Search3
import Derived.Shelf.Strings.Count
import Derived.Shelf.Strings.SplitCore
import Derived.Shelf.Strings.OnBuilder
import Derived.Shelf.Strconv.Itoa4
import Derived.Shelf.Small.Strs
import Derived.Lib.SplitLaws
namespace Go.Ab
open Go.RowKit (Below)
open Go.Proofs

/-! ### what a list of strings shows -/
def shownS (h : List Blk) : Value → Option (Bool × List ByteArray)
  | .iface k .nilIface => match (h[k]?).bind Blk.con with
    | some (.strs l) => some (true, l)
    | _ => none
  | .slice (some a) n _ => match (h[a.block]?).bind Blk.con, a.spot with
    | some (.strs l), some 0 => some (Nat.ble (a.off + n) l.length, (l.drop a.off).take n)
    | _, _ => none
  | .iface n (.pointer (some a)) => match (h[a.block]?).bind Blk.con, a.spot with
    | some (.strs l), some 0 => some (Nat.ble (a.off + n) l.length, (l.drop a.off).take n)
    | _, _ => none
  | _ => none
def joinB (l : List ByteArray) (sep : ByteArray) : ByteArray := ⟨(Lib.join (l.map (·.data.toList)) sep.data.toList).toArray⟩
def joinOk (l : List ByteArray) (sep : ByteArray) : Bool := decide (l.length ≤ 140737488355328 ∧ (Lib.join (l.map (·.data.toList)) sep.data.toList).length ≤ 140737488355328)
def sJoin (args : List Value) (s : St) : List (Bool × Value × St) :=
  match args with
  | [x, .string sep] => match shownS s.h x with
    | some (b, l) => [(b && joinOk l sep, .string (joinB l sep), s)]
    | none => []
  | _ => []
/-- a text, cut at a byte -/
def splitL (c : UInt8) : List UInt8 → List (List UInt8)
  | [] => [[]]
  | b :: l => if b = c then [] :: splitL c l else match splitL c l with
    | [] => [[b]]
    | x :: r => (b :: x) :: r
def splB (c : UInt8) (s : ByteArray) : List ByteArray := (splitL c s.data.toList).map fun l => ⟨l.toArray⟩
def sSplit (args : List Value) (s : St) : List (Bool × Value × St) :=
  match args with
  | [.string x, .string sep] => match sep.data.toList with
    | [c] => [(Nat.blt x.size 4294967281, rsl ⟨s.h.length, 0, some 0⟩ (splB c x).length, (evPush s (.strs (splB c x))).2)]
    | _ => []
  | _ => []
def ixB (s : ByteArray) (c : Int) : Int := Lib.indexByte s.data.toList c.toNat.toUInt8
def sIndexByte (args : List Value) (s : St) : List (Bool × Value × St) :=
  match args with
  | [.string x, .int .u8 c] => [(true, .int .i64 (ixB x c), s)]
  | _ => []
def digB (n : Int) : ByteArray := ⟨(Lib.decDigits n.toNat).toArray⟩
def sFormatSmall (args : List Value) (s : St) : List (Bool × Value × St) :=
  match args with
  | [.int .i64 n, .int .i64 b] => [(decide (b = 10) && (decide (0 ≤ n) && decide (n < 100)), .string (digB n), s)]
  | _ => []

/-! ### the contracts -/
section
variable {P : Program} {ρ : Go.Shelf.Ren} {g : FuncId}
def Fn? (P : Program) (g : FuncId) : Prop := ∃ fn, P.funcs[g]? = some fn ∧ fn.body.isNone = false ∧ (fn.name == "runtime.NumGoroutine") = false

theorem calls_below {args : List Value} {s : St} {r : Value} (hfn : Fn? P g)
    (h : ∀ (B : Bnd P) (ι : Nat → Info) (D : Nat → Prop) (w : World) (args' : Array Value), WRel B ι D s.h w → L2 (VRel ι D) args args'.toList →
      Calls P g args' w (fun e w' => ∃ v', e = .returned v' ∧ Below w.heap.size w w' ∧ VRel ι D r v')) : CallsOK P g args s r s := by
  refine ⟨hfn, fun B ι D w args' hD H ha => (h B ι D w args' H ha).mono ?_⟩
  rintro e w' ⟨v', rfl, hb, hv⟩
  refine ⟨v', rfl, ι, ⟨fun _ _ => rfl, ?_, ⟨hb.os, hb.tape, hb.output, hb.size, fun b hlt _ => hb.block b hlt⟩, ?_, Nat.le_refl _, rfl, fun _ hq => hq⟩, ?_⟩
  · rw [DomU_self]; exact H.of_below hb
  · rw [DomU_self]; exact fun t b _ h => .inr h
  · rw [DomU_self]; exact hv

theorem strs_cells {P : Program} {B : Bnd P} {ι : Nat → Info} {D : Nat → Prop} {h : List Blk} {w : World} (H : WRel B ι D h w) {k : Nat} (hk : D k) {l : List ByteArray} (hb : (h[k]?).bind Blk.con = some (.strs l)) :
    (0 < l.length → (ι k).blk < w.heap.size) ∧ (ι k).es = 1 ∧ (ι k).len = l.length ∧ ∀ (i : Nat) x, l[i]? = some x → w.cell? ((ι k).cell i 0) = some (.string x) := by
  cases hb1 : h[k]? with
  | none => rw [hb1] at hb; cases hb
  | some b =>
    rw [hb1] at hb
    have hb : b.con = some (.strs l) := hb
    obtain ⟨h1, h2, h3⟩ := H.both k b _ hk hb1 hb
    refine ⟨h1, h2, H.lens k b _ hk hb1 hb, fun i x hx => ?_⟩
    obtain ⟨v', q1, q2⟩ := h3 i 0 (.string x) (by simp [Con.at, hx])
    rw [q1, show v' = .string x from q2]

theorem cell_off (I : Info) (h : I.es = 1) (o j : Nat) : (⟨I.blk, I.base + o * I.es + 0 + j, none⟩ : Addr) = I.cell (o + j) 0 := by
  simp only [Info.cell, h, Addr.mk.injEq, and_true, true_and]
  omega
/-- a list of strings that is shown: where its cells stand -/
theorem shownS_rel {P : Program} {B : Bnd P} {ι : Nat → Info} {D : Nat → Prop} {h : List Blk} {w : World} (H : WRel B ι D h w) {x x' : Value} (hx : VRel ι D x x') {b : Bool} {l : List ByteArray} (hs : shownS h x = some (b, l)) (hb : b = true) :
    ∃ o c, x' = .slice o l.length c ∧ l.length ≤ c ∧ ((l = [] ∧ True) ∨ ∃ bk off, o = some ⟨bk, off, none⟩ ∧ bk < w.heap.size ∧ ∀ (j : Nat) y, l[j]? = some y → w.cell? ⟨bk, off + j, none⟩ = some (.string y)) ∨ (∃ c', x' = .slice o 0 c' ∧ l = []) := by
  unfold shownS at hs
  split at hs
  · rename_i k
    obtain ⟨hD, hx⟩ := hx
    split at hs
    · rename_i l' hc
      cases hs
      obtain ⟨g1, g2, g3, g4⟩ := strs_cells H hD hc
      rcases hx with ⟨c', rfl, q1, q2⟩ | ⟨rfl, q0⟩
      · refine ⟨_, c', .inl ⟨by rw [g3], by omega, ?_⟩⟩
        by_cases h0 : l = []
        · exact .inl ⟨h0, trivial⟩
        · have : 0 < l.length := List.length_pos_iff.2 h0
          refine .inr ⟨(ι k).blk, (ι k).base + 0 * (ι k).es + 0, rfl, g1 this, fun j y hy => ?_⟩
          have := g4 j y hy
          rw [← this]
          simp [Info.cell, g2]
      · refine ⟨none, 0, .inr ⟨0, rfl, ?_⟩⟩
        exact List.eq_nil_of_length_eq_zero (by omega)
    · cases hs
  · rename_i a n c
    obtain ⟨a', c', rfl, ⟨hD, j0, hj0, rfl⟩, hs0, q1, q2, q3⟩ := hx
    split at hs
    · rename_i l' hc hsp
      cases hs
      rw [hj0] at hsp; cases hsp
      obtain ⟨g1, g2, g3, g4⟩ := strs_cells H hD hc
      have hle := Nat.le_of_ble_eq_true hb
      have hlen : ((l'.drop a.off).take n).length = n := by rw [List.length_take, List.length_drop]; omega
      refine ⟨_, c', .inl ⟨by rw [hlen], by rw [hlen]; omega, ?_⟩⟩
      by_cases h0 : (l'.drop a.off).take n = []
      · exact .inl ⟨h0, trivial⟩
      · have : 0 < n := by rw [← hlen]; exact List.length_pos_iff.2 h0
        refine .inr ⟨_, _, rfl, g1 (by omega), fun j y hy => ?_⟩
        rw [List.getElem?_take] at hy
        split at hy
        · rw [List.getElem?_drop] at hy
          rw [← g4 _ y hy]
          exact congrArg _ (cell_off (ι a.block) g2 a.off j)
        · cases hy
    · cases hs
  · rename_i n a
    split at hs
    · rename_i l' hc hsp
      cases hs
      have hle := Nat.le_of_ble_eq_true hb
      have hlen : ((l'.drop a.off).take n).length = n := by rw [List.length_take, List.length_drop]; omega
      rcases hx with ⟨hn0, o, c', rfl⟩ | ⟨a', c', rfl, ⟨hD, j0, hj0, rfl⟩, q1⟩
      · have hn0 : (n : Nat) = 0 := hn0
        exact ⟨o, c', .inr ⟨c', rfl, by rw [hn0]; rfl⟩⟩
      · rw [hj0] at hsp; cases hsp
        obtain ⟨g1, g2, g3, g4⟩ := strs_cells H hD hc
        refine ⟨_, c', .inl ⟨by rw [hlen], by rw [hlen]; exact q1, ?_⟩⟩
        by_cases h0 : (l'.drop a.off).take n = []
        · exact .inl ⟨h0, trivial⟩
        · have : 0 < n := by rw [← hlen]; exact List.length_pos_iff.2 h0
          refine .inr ⟨_, _, rfl, g1 (Nat.lt_of_lt_of_le (Nat.lt_of_lt_of_le this (Nat.le_add_left ..)) hle), fun j y hy => ?_⟩
          rw [List.getElem?_take] at hy
          split at hy
          · rw [List.getElem?_drop] at hy
            rw [← g4 _ y hy]
            exact congrArg _ (cell_off (ι a.block) g2 a.off j)
          · cases hy
    · cases hs
  · cases hs
theorem join_nil (sep : ByteArray) : joinB [] sep = ⟨#[]⟩ := rfl
theorem join_calls (L : Lays.n156 P ρ) (X : Builder.Extra P ρ) (hfn : Fn? P (ρ.f 156)) (args : List Value) (s : St) (r : Value) (s' : St) (h : firstT (sJoin args s) = some (r, s')) : CallsOK P (ρ.f 156) args s r s' := by
  unfold sJoin at h
  split at h
  · rename_i x sep
    split at h
    · rename_i b l hs
      obtain ⟨hc, e⟩ := firstT_one h
      cases e
      rw [Bool.and_eq_true] at hc
      obtain ⟨hb, hok⟩ := hc
      obtain ⟨hn, hl⟩ := of_decide_eq_true hok
      refine calls_below hfn fun B ι D w args' H ha => ?_
      obtain ⟨x', y', rfl, hx, hy⟩ : ∃ x' y', args' = #[x', y'] ∧ VRel ι D x x' ∧ VRel ι D (.string sep) y' := by
        obtain ⟨ar⟩ := args'
        match ar, ha with
        | [x', y'], ha => exact ⟨x', y', rfl, ha.1, ha.2.1⟩
      obtain rfl : y' = _ := hy
      obtain ⟨o, c, ⟨rfl, hc, hcells⟩ | ⟨c', rfl, rfl⟩⟩ := shownS_rel H hx hs hb
      · rcases hcells with ⟨rfl, _⟩ | ⟨bk, off, rfl, hbk, hcells⟩
        · refine (Any.strings_Join_none L X o c sep w).mono ?_
          rintro e w' ⟨rfl, rfl⟩
          exact ⟨_, rfl, Below.refl _ _, rfl⟩
        · refine (Any.strings_Join L X bk off c l sep w hcells hbk hn hc hl).mono ?_
          rintro e w' ⟨rfl, hb⟩
          exact ⟨_, rfl, hb, rfl⟩
      · refine (Any.strings_Join_none L X o c' sep w).mono ?_
        rintro e w' ⟨rfl, rfl⟩
        exact ⟨_, rfl, Below.refl _ _, rfl⟩
    · cases h
  · cases h

theorem indexByte_calls (L : Lays.n137 P ρ) (hfn : Fn? P (ρ.f 137)) (args : List Value) (s : St) (r : Value) (s' : St) (h : firstT (sIndexByte args s) = some (r, s')) : CallsOK P (ρ.f 137) args s r s' := by
  unfold sIndexByte at h
  split at h
  · rename_i x c
    obtain ⟨_, e⟩ := firstT_one h
    cases e
    refine calls_below hfn fun B ι D w args' H ha => ?_
    obtain ⟨x', y', rfl, hx, hy⟩ : ∃ x' y', args' = #[x', y'] ∧ VRel ι D (.string x) x' ∧ VRel ι D (.int .u8 c) y' := by
      obtain ⟨ar⟩ := args'
      match ar, ha with
      | [x', y'], ha => exact ⟨x', y', rfl, ha.1, ha.2.1⟩
    obtain rfl : x' = _ := hx
    obtain rfl : y' = _ := hy
    refine (Any.strings_IndexByte L x c w).mono ?_
    rintro e w' ⟨rfl, rfl⟩
    exact ⟨_, rfl, Below.refl _ _, rfl⟩
  · cases h

theorem formatSmall_calls (L : Lays.n173 P ρ) (hfn : Fn? P (ρ.f 173)) (args : List Value) (s : St) (r : Value) (s' : St) (h : firstT (sFormatSmall args s) = some (r, s')) : CallsOK P (ρ.f 173) args s r s' := by
  unfold sFormatSmall at h
  split at h
  · rename_i n b
    obtain ⟨hc, e⟩ := firstT_one h
    cases e
    simp only [Bool.and_eq_true, decide_eq_true_eq] at hc
    obtain ⟨rfl, h0, h1⟩ := hc
    refine calls_below hfn fun B ι D w args' H ha => ?_
    obtain ⟨x', y', rfl, hx, hy⟩ : ∃ x' y', args' = #[x', y'] ∧ VRel ι D (.int .i64 n) x' ∧ VRel ι D (.int .i64 10) y' := by
      obtain ⟨ar⟩ := args'
      match ar, ha with
      | [x', y'], ha => exact ⟨x', y', rfl, ha.1, ha.2.1⟩
    obtain rfl : x' = _ := hx
    obtain rfl : y' = _ := hy
    have := Any.strconv_FormatInt_10_small L n.toNat (by omega) w
    rw [Int.toNat_of_nonneg h0] at this
    refine this.mono ?_
    rintro e w' ⟨rfl, rfl⟩
    exact ⟨_, rfl, Below.refl _ _, rfl⟩
  · cases h
/-! ### strings.Split -/
theorem splitL_ne (c : UInt8) : ∀ l, splitL c l ≠ []
  | [] => by simp [splitL]
  | b :: l => by
    unfold splitL
    split
    · simp
    · split <;> simp
theorem splitL_miss (c : UInt8) : ∀ l, Lib.indexByte l c = -1 → splitL c l = [l] ∧ l.count c = 0
  | [], _ => ⟨rfl, rfl⟩
  | b :: l, h => by
    unfold Lib.indexByte at h
    by_cases hb : b = c
    · subst hb; simp at h
    · rw [if_neg (by simpa using hb)] at h
      have hl : Lib.indexByte l c = -1 := by
        by_cases h1 : Lib.indexByte l c = -1
        · exact h1
        · rw [if_neg (by simpa using h1)] at h
          have := Lib.indexByte_ge l c
          omega
      obtain ⟨e1, e2⟩ := splitL_miss c l hl
      unfold splitL
      rw [if_neg hb, e1]
      exact ⟨rfl, by rw [List.count_cons, e2, if_neg (by simpa using hb)]⟩
theorem splitL_cons_eq (c : UInt8) (l : List UInt8) : splitL c (c :: l) = [] :: splitL c l := by
  rw [splitL, if_pos rfl]
theorem splitL_cons_ne {c b : UInt8} (h : b ≠ c) {l x : List UInt8} {r : List (List UInt8)} (hl : splitL c l = x :: r) : splitL c (b :: l) = (b :: x) :: r := by
  rw [splitL, if_neg h, hl]
theorem splitL_hit (c : UInt8) : ∀ (l : List UInt8) (i : Nat), Lib.indexByte l c = i → splitL c l = l.take i :: splitL c (l.drop (i + 1)) ∧ l.count c = (l.drop (i + 1)).count c + 1
  | [], i, h => by simp [Lib.indexByte] at h
  | b :: l, i, h => by
    unfold Lib.indexByte at h
    by_cases hb : b = c
    · subst hb
      simp at h
      obtain rfl : i = 0 := by omega
      exact ⟨splitL_cons_eq b l, by simp⟩
    · rw [if_neg (by simpa using hb)] at h
      by_cases h1 : Lib.indexByte l c = -1
      · rw [if_pos (by simpa using h1)] at h; omega
      · rw [if_neg (by simpa using h1)] at h
        obtain ⟨j, rfl⟩ : ∃ j, i = j + 1 := ⟨i - 1, by have := Lib.indexByte_ge l c; omega⟩
        obtain ⟨e1, e2⟩ := splitL_hit c l j (by omega)
        exact ⟨splitL_cons_ne hb e1, by rw [List.count_cons, e2, if_neg (by simpa using hb)]; rfl⟩
theorem splitK_one (c : UInt8) : ∀ (k : Nat) (l : List UInt8), l.count c = k → Lib.splitK [c] 0 k l = splitL c l
  | 0, l, h => by
    have hm : Lib.indexByte l c = -1 := by
      by_cases h1 : Lib.indexByte l c = -1
      · exact h1
      · have := Lib.indexByte_ge l c
        have := (splitL_hit c l (Lib.indexByte l c).toNat (by omega)).2
        omega
    rw [(splitL_miss c l hm).1]; rfl
  | k + 1, l, h => by
    unfold Lib.splitK
    rw [Lib.index_one]
    by_cases h1 : Lib.indexByte l c = -1
    · have := (splitL_miss c l h1).2
      omega
    · have := Lib.indexByte_ge l c
      obtain ⟨e1, e2⟩ := splitL_hit c l (Lib.indexByte l c).toNat (by omega)
      rw [if_neg (by simpa using h1), e1]
      exact congrArg _ (splitK_one c k _ (by show (l.drop ((Lib.indexByte l c).toNat + 1)).count c = k; omega))
theorem splitB_one (c : UInt8) (s : ByteArray) : Lib.splitB ⟨#[c]⟩ 0 (Lib.countB s ⟨#[c]⟩) s = splB c s := by
  have h := Lib.splitB_data ⟨#[c]⟩ 0 (Lib.countB s ⟨#[c]⟩) s
  have hc : Lib.countB s ⟨#[c]⟩ = s.data.toList.count c := Lib.count_one c s.data.toList
  rw [hc] at h ⊢
  rw [show (⟨#[c]⟩ : ByteArray).data.toList = [c] from rfl, splitK_one c _ _ rfl] at h
  unfold splB
  rw [← h, List.map_map]
  conv => lhs; rw [← List.map_id (Lib.splitB _ _ _ _)]
  refine List.map_congr_left fun x _ => ?_
  rfl

set_option maxHeartbeats 1000000 in
theorem split_run (L : Lays.n146 P ρ) (hi9 : (P.info? (ρ.t 9)).map (fun i => (i.zero, i.size, i.bytes)) = some (some (.string ByteArray.empty), 1, 16)) (s : ByteArray) (c : UInt8) (w : World) (hs : s.size < 4294967281) :
    Calls P (ρ.f 146) #[.string s, .string ⟨#[c]⟩] w fun e w' =>
      e = .returned (.slice (some ⟨w.heap.size, 0, none⟩) (splB c s).length (splB c s).length) ∧ w' = w.alloc (.cells ((splB c s).map Value.string).toArray (ρ.t 9)) := by
  have h1 : 1 ≤ (⟨#[c]⟩ : ByteArray).size := Nat.le_refl 1
  have hle := Lib.countB_le ⟨#[c]⟩ h1 s.size s (Nat.le_refl _)
  have hlen := Lib.splitB_all ⟨#[c]⟩ h1 0 _ s rfl
  have cc := Any.strings_genSplit_core { L with } hi9 s ⟨#[c]⟩ 0 (-1) (Lib.countB s ⟨#[c]⟩ + 1) w hs h1 (Nat.zero_le _)
    (fun x cs hx => by
      have := Any.strings_Index_one (P := P) (ρ := ρ) { L with } x c (w.alloc (.cells cs (ρ.t 9)))
      rw [← Lib.index_one] at this
      exact this)
    (by
      have := Any.strings_Count_one (P := P) (ρ := ρ) { L with } s c w
      rw [show Lib.countByte s.data.toList c = Lib.countB s ⟨#[c]⟩ from (Lib.count_one c s.data.toList).symm] at this
      exact this) (by decide) (by decide) (by rw [if_pos (by decide)]; omega)
  rw [Nat.add_sub_cancel, hlen] at cc
  have e2 : Lib.cellsOf (Lib.splitB ⟨#[c]⟩ 0 (Lib.countB s ⟨#[c]⟩) s) (Lib.countB s ⟨#[c]⟩ + 1) = ((Lib.splitB ⟨#[c]⟩ 0 (Lib.countB s ⟨#[c]⟩) s).map Value.string).toArray := by rw [← hlen]; exact Lib.cellsOf_full _
  rw [e2, splitB_one] at cc
  rw [splitB_one] at hlen
  rw [← hlen] at cc
  have t3 := L.t3; have t9 := L.t9; have t31 := L.t31
  have a3 := L.a3; have a9 := L.a9; have a31 := L.a31
  have z3 := L.z3; have v3 := L.v3; have z9 := L.z9; have v9 := L.v9; have z31 := L.z31; have v31 := L.v31
  have e221 : ∀ args w, (callFunc (ρ.f 221) args).run P w = .ok (.enter (ρ.f 221) args) w := enters_of L.f221 (by kernel_rfl) rfl
  go_enter L.f146, Body.n146_ntmps ρ
  go_wp2_with (go_at_fn (ρ.f 221); refine cc.mono ?_; rintro e w' ⟨rfl, hw⟩; rw [hw])
  go_ret
  exact ⟨by first | rfl | (rw [hlen]; rfl), rfl⟩
theorem split_calls (L : Lays.n146 P ρ) (hi9 : (P.info? (ρ.t 9)).map (fun i => (i.zero, i.size, i.bytes)) = some (some (.string ByteArray.empty), 1, 16)) (hfn : Fn? P (ρ.f 146)) (args : List Value) (s : St) (r : Value) (s' : St) (h : firstT (sSplit args s) = some (r, s')) : CallsOK P (ρ.f 146) args s r s' := by
  unfold sSplit at h
  split at h
  · rename_i x sep
    split at h
    case h_2 => cases h
    rename_i c hsep
    obtain ⟨hsz, e⟩ := firstT_one h
    cases e
    replace hsz := blt_true hsz
    refine ⟨hfn, fun B ι D w args' hD H ha => ?_⟩
    obtain ⟨x', y', rfl, hx, hy⟩ : ∃ x' y', args' = #[x', y'] ∧ VRel ι D (.string x) x' ∧ VRel ι D (.string sep) y' := by
      obtain ⟨ar⟩ := args'
      match ar, ha with
      | [x', y'], ha => exact ⟨x', y', rfl, ha.1, ha.2.1⟩
    obtain rfl : x' = _ := hx
    obtain rfl : y' = _ := hy
    obtain rfl : sep = ⟨#[c]⟩ := by
      obtain ⟨⟨d⟩⟩ := sep
      simp only at hsep
      subst hsep; rfl
    refine (split_run L hi9 x c w hsz).mono ?_
    rintro e w' ⟨rfl, rfl⟩
    have hp := push_post H hD (.strs (splB c x)) ((splB c x).map Value.string).toArray (ρ.t 9) (splB c x).length (Nat.le_refl _) (by simp [Con.es]) (fun i j v hv => by
      simp only [Con.at] at hv
      split at hv
      · subst j
        rw [Option.map_eq_some_iff] at hv
        obtain ⟨y, hy, rfl⟩ := hv
        refine ⟨.string y, ?_, rfl⟩
        simp [Con.es, hy]
      · cases hv) (splB c x).length (splB c x).length (splB c x).length true (Nat.le_refl _) (Nat.le_refl _) (Nat.le_refl _)
    obtain ⟨ι', I⟩ := hp
    refine ⟨_, rfl, ι', ⟨I.toRunI, ?_⟩⟩
    obtain ⟨a', c', e, hA, _, g1, g2, _⟩ := I.val
    exact .inr ⟨a', c', e, hA, Nat.le_trans g1 g2⟩
  · cases h
end
end Go.Ab
