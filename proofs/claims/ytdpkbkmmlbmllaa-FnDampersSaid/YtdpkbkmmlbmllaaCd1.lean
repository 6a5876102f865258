/- What the functions that the statements reach answer, part 1. -/
import Derived.Test.YtdpkbkmmlbmllaaA23
import Derived.KernelRfl
import Derived.Test.YtdpkbkmmlbmllaaChecked
namespace Go.Proofs.Ytdpkbkmmlbmllaa
open Go.Ab
set_option maxHeartbeats 4000000
set_option maxRecDepth 100000

def ext : FuncId → Option Ext := fun g => (cond (Nat.beq g 99) (some .f32bits) (cond (Nat.beq g 118) (some .f64from) (cond (Nat.beq g 119) (some .f64bits) (cond (Nat.beq g 121) (some .sqrt) none))))
theorem ext_case {g : FuncId} {e : Ext} (h : ext g = some e) : g = 99 ∧ e = .f32bits ∨ g = 118 ∧ e = .f64from ∨ g = 119 ∧ e = .f64bits ∨ g = 121 ∧ e = .sqrt := by
  unfold ext at h
  cases h0 : Nat.beq g 99 with
  | true => rw [h0] at h; cases h; exact .inl ⟨Nat.eq_of_beq_eq_true h0, rfl⟩
  | false =>
    rw [h0] at h
    cases h1 : Nat.beq g 118 with
    | true => rw [h1] at h; cases h; exact .inr (.inl ⟨Nat.eq_of_beq_eq_true h1, rfl⟩)
    | false =>
      rw [h1] at h
      cases h2 : Nat.beq g 119 with
      | true => rw [h2] at h; cases h; exact .inr (.inr (.inl ⟨Nat.eq_of_beq_eq_true h2, rfl⟩))
      | false =>
        rw [h2] at h
        cases h3 : Nat.beq g 121 with
        | true => rw [h3] at h; cases h; exact .inr (.inr (.inr (⟨Nat.eq_of_beq_eq_true h3, rfl⟩)))
        | false =>
          rw [h3] at h
          cases h
theorem extOk : ExtOk Try.prog ext := by
  intro g e h
  rcases ext_case h with ⟨rfl, rfl⟩ | ⟨rfl, rfl⟩ | ⟨rfl, rfl⟩ | ⟨rfl, rfl⟩
  · exact ⟨Try.f99, Try.func99, by kernel_rfl, by kernel_rfl, by kernel_rfl, by kernel_rfl⟩
  · exact ⟨Try.f118, Try.func118, by kernel_rfl, by kernel_rfl, by kernel_rfl, by kernel_rfl⟩
  · exact ⟨Try.f119, Try.func119, by kernel_rfl, by kernel_rfl, by kernel_rfl, by kernel_rfl⟩
  · exact ⟨Try.f121, Try.func121, by kernel_rfl, by kernel_rfl, by kernel_rfl, by kernel_rfl⟩
theorem mixed : Try.prog.follows .mixedOrders = true := by kernel_rfl
theorem callOk {cf : CallF} (hcf : CfOk Try.prog cf) {lf : LoopT} {N : Nat} {f : FuncId} {fn : Func} (hf : Try.prog.funcs[f]? = some fn) {args : List Value} {s : St} {l : List Blk} {n : Nat} {L : List (Bool × Value × St)} {r' : Value} {s' : St} (h1 : s.lo = s.h.length) (h2 : s.wr = []) (h : s.h = l) (hl : ∀ c, fn.body = some c → LfOk Try.prog lf (loopsOf c)) (he : evFn Try.prog ext cf lf N fn args ⟨l, n, []⟩ = firstT L) (hn : n = l.length) (h3 : firstT L = some (r', s')) : CallsOK Try.prog f args s r' s' :=
  call_ok extOk mixed hcf hf h1 h2 h hl he hn h3
def T0 : CallF := noF
theorem ok0 : CfOk Try.prog T0 := cfOk_no _
def sc0 : List CT := [.fl .f32, .fl .f32, .fl .f32, .fl .f32, .int .i64]

/-- laws.szFlueS -/
noncomputable def r24 (x0 : Int) (x1 : List (List Int)) : Int :=
 cond (decide (((IntKind.i64.wrap (x0 - ((x1.length : Nat) : Int))) : Int) < 0))
  ((-1))
  ((IntKind.i64.wrap (x0 - ((x1.length : Nat) : Int))))
noncomputable def a24 (x0 : Int) (x1 : List (List Int)) (p : Int) : Res := firstT [(true, .int .i64 p, ⟨[⟨false, (some (.tab sc0 x1))⟩], 1, []⟩)]
noncomputable def w24 (x0 : Int) (x1 : List (List Int)) : Res :=
 (cond (decide (((IntKind.i64.wrap (x0 - ((x1.length : Nat) : Int))) : Int) < 0))
 (a24 x0 x1 ((-1)))
 (a24 x0 x1 ((IntKind.i64.wrap (x0 - ((x1.length : Nat) : Int))))))
set_option maxRecDepth 100000 in
set_option maxHeartbeats 4000000 in
theorem e24 (x0 : Int) (x1 : List (List Int)) : evFn Try.prog ext T0 noL 200 Try.f24 [wsl 0, .int .i64 x0] ⟨[⟨false, (some (.tab sc0 x1))⟩], 1, []⟩ = firstT [(true, .int .i64 (r24 x0 x1), ⟨[⟨false, (some (.tab sc0 x1))⟩], 1, []⟩)] :=
 (show evFn Try.prog ext T0 noL 200 Try.f24 [wsl 0, .int .i64 x0] ⟨[⟨false, (some (.tab sc0 x1))⟩], 1, []⟩ = w24 x0 x1 from by kernel_rfl).trans
 (show w24 x0 x1 = a24 x0 x1 (r24 x0 x1) from by unfold w24 r24; exact (cond_app (a24 x0 x1) _ rfl rfl))
noncomputable def s24 (args : List Value) (s : St) : List (Bool × Value × St) :=
 match args, s.h with
 | [.iface f0 .nilIface, .int .i64 x0], [⟨false, some (.tab [.fl .f32, .fl .f32, .fl .f32, .fl .f32, .int .i64] x1)⟩] => if f0 = 0 then [(true, .int .i64 (r24 x0 x1), ⟨[⟨false, (some (.tab sc0 x1))⟩], 1, []⟩)] else T0 24 args s
 | _, _ => T0 24 args s
noncomputable def T1 : CallF := addF T0 24 s24
set_option maxRecDepth 100000 in
set_option maxHeartbeats 4000000 in
theorem ok1 : CfOk Try.prog T1 := by
  refine cfOk_add ok0 fun args s r s' h1 h2 h3 => ?_
  unfold s24 at h3; split at h3
  · rename_i h; split at h3
    · rename_i hc; obtain ⟨rfl⟩ := hc; exact callOk ok0 Try.func24 h1 h2 h (lfOkF_no _ _).body (e24 _ _) rfl h3
    · exact ok0 _ _ _ _ _ h1 h2 h3
  · exact ok0 _ _ _ _ _ h1 h2 h3

/-- laws.toFlue -/
noncomputable def r66 (x0 x1 x2 x3 : Nat) (x4 : Int) : Unit :=
 ()
noncomputable def a66 (x0 x1 x2 x3 : Nat) (x4 : Int) (p : Unit) : Res := firstT [(true, .agg #[.float .f32 x0, .float .f32 x1, .float .f32 x2, .float .f32 x3, .int .i64 x4], st0)]
noncomputable def w66 (x0 x1 x2 x3 : Nat) (x4 : Int) : Res :=
 (a66 x0 x1 x2 x3 x4 ())
set_option maxRecDepth 100000 in
set_option maxHeartbeats 4000000 in
theorem e66 (x0 x1 x2 x3 : Nat) (x4 : Int) : evFn Try.prog ext T1 noL 200 Try.f66 [.agg #[.float .f32 x0, .float .f32 x1, .float .f32 x2, .float .f32 x3, .int .i64 x4]] st0 = firstT [(true, .agg #[.float .f32 x0, .float .f32 x1, .float .f32 x2, .float .f32 x3, .int .i64 x4], st0)] :=
 (show evFn Try.prog ext T1 noL 200 Try.f66 [.agg #[.float .f32 x0, .float .f32 x1, .float .f32 x2, .float .f32 x3, .int .i64 x4]] st0 = w66 x0 x1 x2 x3 x4 from by kernel_rfl).trans
 (show w66 x0 x1 x2 x3 x4 = a66 x0 x1 x2 x3 x4 (r66 x0 x1 x2 x3 x4) from by unfold w66 r66; exact rfl)
noncomputable def s66 (args : List Value) (s : St) : List (Bool × Value × St) :=
 match args, s.h with
 | [.agg ⟨[.float .f32 x0, .float .f32 x1, .float .f32 x2, .float .f32 x3, .int .i64 x4]⟩], [] => [(true, .agg #[.float .f32 x0, .float .f32 x1, .float .f32 x2, .float .f32 x3, .int .i64 x4], st0)]
 | _, _ => T1 66 args s
noncomputable def T2 : CallF := addF T1 66 s66
set_option maxRecDepth 100000 in
set_option maxHeartbeats 4000000 in
theorem ok2 : CfOk Try.prog T2 := by
  refine cfOk_add ok1 fun args s r s' h1 h2 h3 => ?_
  unfold s66 at h3; split at h3
  · rename_i h; exact callOk ok1 Try.func66 h1 h2 h (lfOkF_no _ _).body (e66 _ _ _ _ _) rfl h3
  · exact ok1 _ _ _ _ _ h1 h2 h3

/-- laws.toFlueS, loop 0: one round -/
noncomputable def b25l0 (ih : Int → List (List Int) → List (List Int) → (Nat × List (List Int))) (x0 : Int) (x1 x2 : List (List Int)) : Nat × List (List Int) :=
 cond (decide ((x0 : Int) < ((x1.length : Nat) : Int)))
  (cond ((decide ((0 : Int) ≤ x0)) && (Nat.blt (Int.toNat x0) x1.length))
   (cond ((decide ((0 : Int) ≤ x0)) && (Nat.blt (Int.toNat x0) x2.length))
    (ih (IntKind.i64.wrap (x0 + 1)) x1 (x2.set (Int.toNat x0) [(((Int.toNat ((x1.getD (Int.toNat x0) []).getD 0 0)) : Nat) : Int), (((Int.toNat ((x1.getD (Int.toNat x0) []).getD 1 0)) : Nat) : Int), (((Int.toNat ((x1.getD (Int.toNat x0) []).getD 2 0)) : Nat) : Int), (((Int.toNat ((x1.getD (Int.toNat x0) []).getD 3 0)) : Nat) : Int), ((x1.getD (Int.toNat x0) []).getD 4 0)]))
    (1, []))
   (1, []))
  (0, x2)
noncomputable def r25l0 : Nat → Int → List (List Int) → List (List Int) → (Nat × List (List Int))
 | 0 => fun _ _ _ => (1, [])
 | m + 1 => b25l0 (r25l0 m)
noncomputable def a25l0 (x0 : Int) (x1 x2 : List (List Int)) (p : Nat × List (List Int)) : Option (Fin' × List Value × St) := firstT ([((Nat.beq (p.1) 0), .exit 0, [wsl 1], ⟨[⟨false, (some (.tab sc0 x1))⟩, ⟨true, (some (.tab sc0 (p.2)))⟩], 2, [1]⟩)].map fun (b, x) => (b, (x.1, frameOf 23 [3] x.2.1, x.2.2)))
noncomputable def u25l0 (x0 : Int) (x1 x2 : List (List Int)) (p : Nat × List (List Int)) : Option (Fin' × List Value × St) := alts ([((Nat.beq (p.1) 0), .exit 0, [wsl 1], ⟨[⟨false, (some (.tab sc0 x1))⟩, ⟨true, (some (.tab sc0 (p.2)))⟩], 2, [1]⟩)].map fun (b, x) => (b, (x.1, frameOf 23 [3] x.2.1, x.2.2))) some
theorem v25l0 (x0 : Int) (x1 x2 : List (List Int)) (p : Nat × List (List Int)) : u25l0 x0 x1 x2 p = a25l0 x0 x1 x2 p := alts_first _
noncomputable def q25l0 (m : Nat) : SumK := fun vals s =>
 match vals, s.h with
 | [.iface f0 .nilIface, .iface f1 .nilIface, .int .i64 x0], [⟨false, some (.tab [.fl .f32, .fl .f32, .fl .f32, .fl .f32, .int .i64] x1)⟩, ⟨true, some (.tab [.fl .f32, .fl .f32, .fl .f32, .fl .f32, .int .i64] x2)⟩] => if f0 = 0 ∧ f1 = 1 then [((Nat.beq ((r25l0 m x0 x1 x2).1) 0), .exit 0, [wsl 1], ⟨[⟨false, (some (.tab sc0 x1))⟩, ⟨true, (some (.tab sc0 ((r25l0 m x0 x1 x2).2)))⟩], 2, [1]⟩)] else noQ vals s
 | _, _ => noQ vals s
noncomputable def w25l0 (ih : Int → List (List Int) → List (List Int) → (Nat × List (List Int))) (x0 : Int) (x1 x2 : List (List Int)) : Option (Fin' × List Value × St) :=
 (cond (decide ((x0 : Int) < ((x1.length : Nat) : Int)))
 (cond ((decide ((0 : Int) ≤ x0)) && (Nat.blt (Int.toNat x0) x1.length))
  (cond (Nat.blt (Int.toNat x0) x1.length)
   (cond ((decide ((0 : Int) ≤ x0)) && (Nat.blt (Int.toNat x0) x2.length))
    (cond (Nat.blt (Int.toNat x0) x2.length)
     (u25l0 x0 x1 x2 (ih (IntKind.i64.wrap (x0 + 1)) x1 (x2.set (Int.toNat x0) [(((Int.toNat ((x1.getD (Int.toNat x0) []).getD 0 0)) : Nat) : Int), (((Int.toNat ((x1.getD (Int.toNat x0) []).getD 1 0)) : Nat) : Int), (((Int.toNat ((x1.getD (Int.toNat x0) []).getD 2 0)) : Nat) : Int), (((Int.toNat ((x1.getD (Int.toNat x0) []).getD 3 0)) : Nat) : Int), ((x1.getD (Int.toNat x0) []).getD 4 0)])))
     none)
    none)
   none)
  none)
 (a25l0 x0 x1 x2 (0, x2)))
set_option maxRecDepth 100000 in
set_option maxHeartbeats 4000000 in
theorem e25l0 (m : Nat) (x0 : Int) (x1 x2 : List (List Int)) : evC Try.prog ext T2 noL 200 (loopN Try.f25 0) (loopTail ([0, 3, 4], []) [3] [1] (sumK 23 [0, 3, 4] [3] (q25l0 m))) (frameOf 23 [0, 3, 4] [wsl 0, wsl 1, .int .i64 x0]) ⟨[⟨false, (some (.tab sc0 x1))⟩, ⟨true, (some (.tab sc0 x2))⟩], 2, []⟩ = firstT ([((Nat.beq ((r25l0 (m + 1) x0 x1 x2).1) 0), .exit 0, [wsl 1], ⟨[⟨false, (some (.tab sc0 x1))⟩, ⟨true, (some (.tab sc0 ((r25l0 (m + 1) x0 x1 x2).2)))⟩], 2, [1]⟩)].map fun (b, x) => (b, (x.1, frameOf 23 [3] x.2.1, x.2.2))) :=
 (show evC Try.prog ext T2 noL 200 (loopN Try.f25 0) (loopTail ([0, 3, 4], []) [3] [1] (sumK 23 [0, 3, 4] [3] (q25l0 m))) (frameOf 23 [0, 3, 4] [wsl 0, wsl 1, .int .i64 x0]) ⟨[⟨false, (some (.tab sc0 x1))⟩, ⟨true, (some (.tab sc0 x2))⟩], 2, []⟩ = w25l0 (r25l0 m) x0 x1 x2 from by kernel_rfl).trans
 (show w25l0 (r25l0 m) x0 x1 x2 = a25l0 x0 x1 x2 (r25l0 (m + 1) x0 x1 x2) from by unfold w25l0; show _ = a25l0 x0 x1 x2 (b25l0 (r25l0 m) x0 x1 x2); unfold b25l0; exact (cond_both (a25l0 x0 x1 x2) _ (fun h0 => (cond_both (a25l0 x0 x1 x2) _ (fun h1 => (cond_t (ev_and2 h1) (cond_both (a25l0 x0 x1 x2) _ (fun h2 => (cond_t (ev_and2 h2) (v25l0 x0 x1 x2 ((r25l0 m) (IntKind.i64.wrap (x0 + 1)) x1 (x2.set (Int.toNat x0) [(((Int.toNat ((x1.getD (Int.toNat x0) []).getD 0 0)) : Nat) : Int), (((Int.toNat ((x1.getD (Int.toNat x0) []).getD 1 0)) : Nat) : Int), (((Int.toNat ((x1.getD (Int.toNat x0) []).getD 2 0)) : Nat) : Int), (((Int.toNat ((x1.getD (Int.toNat x0) []).getD 3 0)) : Nat) : Int), ((x1.getD (Int.toNat x0) []).getD 4 0)]))))) (fun h2 => rfl)))) (fun h1 => rfl))) (fun h0 => rfl)))
set_option maxRecDepth 100000 in
set_option maxHeartbeats 4000000 in
theorem qm25l0 : ∀ m, SumKOk Try.prog (loopN Try.f25 0) 23 [0, 3, 4] [3] (q25l0 m) := by
  intro m
  induction m with
  | zero =>
    intro vals s x h1 h2 h3
    unfold q25l0 at h3; split at h3
    · rename_i h; split at h3
      · rename_i hc; obtain ⟨rfl, rfl⟩ := hc; exact absurd h3 (by simp [r25l0, firstT, Nat.beq])
      · exact noQ_ok _ _ _ h1 h2 h3
    · exact noQ_ok _ _ _ h1 h2 h3
  | succ m ih =>
    intro vals s x h1 h2 h3
    unfold q25l0 at h3; split at h3
    · rename_i h; split at h3
      · rename_i hc; obtain ⟨rfl, rfl⟩ := hc; exact sum_step ok2 extOk mixed ((lfOkF_no _ _).inner (by kernel_rfl)) ih h1 h2 h (e25l0 m _ _ _) rfl h3
      · exact noQ_ok _ _ _ h1 h2 h3
    · exact noQ_ok _ _ _ h1 h2 h3
noncomputable def Q25l0 : SumK := fun vals s => q25l0 (fuelOf vals s.h) vals s
theorem qok25l0 : SumKOk Try.prog (loopN Try.f25 0) 23 [0, 3, 4] [3] Q25l0 := fuel_ok qm25l0 fuelOf
noncomputable def L25_1 : LoopT := addL noL 4 ([0, 3, 4], []) (sumK 23 [0, 3, 4] [3] Q25l0)
theorem lok25_1 : LfOkF Try.prog L25_1 Try.f25 := lfOkF_add (lfOkF_no _ _) qok25l0 (by kernel_rfl) (by kernel_rfl) (by kernel_rfl)

/-- laws.toFlueS -/
noncomputable def r25 (x0 : List (List Int)) : Nat × List (List Int) :=
 let c17 := (r25l0 (1000 + (List.replicate x0.length ([0, 0, 0, 0, 0] : List Int)).length + x0.length) 0 x0 (List.replicate x0.length ([0, 0, 0, 0, 0] : List Int)))
 cond (((decide ((0 : Int) ≤ ((x0.length : Nat) : Int)) && decide ((((x0.length : Nat) : Int) : Int) ≤ ((x0.length : Nat) : Int))) && decide (((24 : Nat) : Int) * ((x0.length : Nat) : Int) ≤ 281474976710656)) && decide (((x0.length : Nat) : Int) ≤ 9223372036854775807))
  (cond (Nat.beq (c17.1) 0)
   (0, (c17.2))
   (1, []))
  (1, [])
noncomputable def a25 (x0 : List (List Int)) (p : Nat × List (List Int)) : Res := firstT [((Nat.beq (p.1) 0), wsl 1, ⟨[⟨false, (some (.tab sc0 x0))⟩, ⟨true, (some (.tab sc0 (p.2)))⟩], 1, []⟩)]
noncomputable def w25 (x0 : List (List Int)) : Res :=
 let c17 := (r25l0 (1000 + (List.replicate x0.length ([0, 0, 0, 0, 0] : List Int)).length + x0.length) 0 x0 (List.replicate x0.length ([0, 0, 0, 0, 0] : List Int)))
 (cond (((decide ((0 : Int) ≤ ((x0.length : Nat) : Int)) && decide ((((x0.length : Nat) : Int) : Int) ≤ ((x0.length : Nat) : Int))) && decide (((24 : Nat) : Int) * ((x0.length : Nat) : Int) ≤ 281474976710656)) && decide (((x0.length : Nat) : Int) ≤ 9223372036854775807))
 (cond (Nat.beq (c17.1) 0)
  (a25 x0 (0, (c17.2)))
  none)
 none)
set_option maxRecDepth 100000 in
set_option maxHeartbeats 4000000 in
theorem e25 (x0 : List (List Int)) : evFn Try.prog ext T2 L25_1 200 Try.f25 [wsl 0] ⟨[⟨false, (some (.tab sc0 x0))⟩], 1, []⟩ = firstT [((Nat.beq ((r25 x0).1) 0), wsl 1, ⟨[⟨false, (some (.tab sc0 x0))⟩, ⟨true, (some (.tab sc0 ((r25 x0).2)))⟩], 1, []⟩)] :=
 (show evFn Try.prog ext T2 L25_1 200 Try.f25 [wsl 0] ⟨[⟨false, (some (.tab sc0 x0))⟩], 1, []⟩ = w25 x0 from by kernel_rfl).trans
 (show w25 x0 = a25 x0 (r25 x0) from by unfold w25 r25; exact (cond_app (a25 x0) _ (cond_app (a25 x0) _ rfl rfl) rfl))
noncomputable def s25 (args : List Value) (s : St) : List (Bool × Value × St) :=
 match args, s.h with
 | [.iface f0 .nilIface], [⟨false, some (.tab [.fl .f32, .fl .f32, .fl .f32, .fl .f32, .int .i64] x0)⟩] => if f0 = 0 then [((Nat.beq ((r25 x0).1) 0), wsl 1, ⟨[⟨false, (some (.tab sc0 x0))⟩, ⟨true, (some (.tab sc0 ((r25 x0).2)))⟩], 1, []⟩)] else T2 25 args s
 | _, _ => T2 25 args s
noncomputable def T3 : CallF := addF T2 25 s25
set_option maxRecDepth 100000 in
set_option maxHeartbeats 4000000 in
theorem ok3 : CfOk Try.prog T3 := by
  refine cfOk_add ok2 fun args s r s' h1 h2 h3 => ?_
  unfold s25 at h3; split at h3
  · rename_i h; split at h3
    · rename_i hc; obtain ⟨rfl⟩ := hc; exact callOk ok2 Try.func25 h1 h2 h lok25_1.body (e25 _) rfl h3
    · exact ok2 _ _ _ _ _ h1 h2 h3
  · exact ok2 _ _ _ _ _ h1 h2 h3

/-- spec.l00In -/
noncomputable def r63 (x0 x1 x2 : Int) : Bool :=
 cond (decide ((x0 : Int) ≥ x1))
  ((decide ((x0 : Int) ≤ x2)))
  (false)
noncomputable def a63 (x0 x1 x2 : Int) (p : Bool) : Res := firstT [(true, .bool p, st0)]
noncomputable def w63 (x0 x1 x2 : Int) : Res :=
 (cond (decide ((x0 : Int) ≥ x1))
 (a63 x0 x1 x2 ((decide ((x0 : Int) ≤ x2))))
 (a63 x0 x1 x2 (false)))
set_option maxRecDepth 100000 in
set_option maxHeartbeats 4000000 in
theorem e63 (x0 x1 x2 : Int) : evFn Try.prog ext T3 noL 200 Try.f63 [.int .i64 x0, .int .i64 x1, .int .i64 x2] st0 = firstT [(true, .bool (r63 x0 x1 x2), st0)] :=
 (show evFn Try.prog ext T3 noL 200 Try.f63 [.int .i64 x0, .int .i64 x1, .int .i64 x2] st0 = w63 x0 x1 x2 from by kernel_rfl).trans
 (show w63 x0 x1 x2 = a63 x0 x1 x2 (r63 x0 x1 x2) from by unfold w63 r63; exact (cond_app (a63 x0 x1 x2) _ rfl rfl))
noncomputable def s63 (args : List Value) (s : St) : List (Bool × Value × St) :=
 match args, s.h with
 | [.int .i64 x0, .int .i64 x1, .int .i64 x2], [] => [(true, .bool (r63 x0 x1 x2), st0)]
 | _, _ => T3 63 args s
noncomputable def T4 : CallF := addF T3 63 s63
set_option maxRecDepth 100000 in
set_option maxHeartbeats 4000000 in
theorem ok4 : CfOk Try.prog T4 := by
  refine cfOk_add ok3 fun args s r s' h1 h2 h3 => ?_
  unfold s63 at h3; split at h3
  · rename_i h; exact callOk ok3 Try.func63 h1 h2 h (lfOkF_no _ _).body (e63 _ _ _) rfl h3
  · exact ok3 _ _ _ _ _ h1 h2 h3

/-- spec.l01Finite -/
noncomputable def r103 (x0 : Nat) : Bool :=
 ((feq .f32 (fsub .f32 x0 x0) 0))
noncomputable def a103 (x0 : Nat) (p : Bool) : Res := firstT [(true, .bool p, st0)]
noncomputable def w103 (x0 : Nat) : Res :=
 (a103 x0 ((feq .f32 (fsub .f32 x0 x0) 0)))
set_option maxRecDepth 100000 in
set_option maxHeartbeats 4000000 in
theorem e103 (x0 : Nat) : evFn Try.prog ext T4 noL 200 Try.f103 [.float .f32 x0] st0 = firstT [(true, .bool (r103 x0), st0)] :=
 (show evFn Try.prog ext T4 noL 200 Try.f103 [.float .f32 x0] st0 = w103 x0 from by kernel_rfl).trans
 (show w103 x0 = a103 x0 (r103 x0) from by unfold w103 r103; exact rfl)
noncomputable def s103 (args : List Value) (s : St) : List (Bool × Value × St) :=
 match args, s.h with
 | [.float .f32 x0], [] => [(true, .bool (r103 x0), st0)]
 | _, _ => T4 103 args s
noncomputable def T5 : CallF := addF T4 103 s103
set_option maxRecDepth 100000 in
set_option maxHeartbeats 4000000 in
theorem ok5 : CfOk Try.prog T5 := by
  refine cfOk_add ok4 fun args s r s' h1 h2 h3 => ?_
  unfold s103 at h3; split at h3
  · rename_i h; exact callOk ok4 Try.func103 h1 h2 h (lfOkF_no _ _).body (e103 _) rfl h3
  · exact ok4 _ _ _ _ _ h1 h2 h3

/-- spec.l01Amount -/
noncomputable def r68 (x0 : Nat) : Bool :=
 cond (r103 x0)
  (cond (fgt .f32 x0 0)
   (true)
   (cond (!isN .f32 x0)
    (((((x0 : Nat) : Int) : Int) == 0))
    (false)))
  (false)
noncomputable def a68 (x0 : Nat) (p : Bool) : Res := firstT [(true, .bool p, st0)]
noncomputable def w68 (x0 : Nat) : Res :=
 (cond (r103 x0)
 (cond (fgt .f32 x0 0)
  (a68 x0 (true))
  (cond (!isN .f32 x0)
   (a68 x0 (((((x0 : Nat) : Int) : Int) == 0)))
   (a68 x0 (false))))
 (a68 x0 (false)))
set_option maxRecDepth 100000 in
set_option maxHeartbeats 4000000 in
theorem e68 (x0 : Nat) : evFn Try.prog ext T5 noL 200 Try.f68 [.float .f32 x0] st0 = firstT [(true, .bool (r68 x0), st0)] :=
 (show evFn Try.prog ext T5 noL 200 Try.f68 [.float .f32 x0] st0 = w68 x0 from by kernel_rfl).trans
 (show w68 x0 = a68 x0 (r68 x0) from by unfold w68 r68; exact (cond_app (a68 x0) _ (cond_app (a68 x0) _ rfl (cond_app (a68 x0) _ rfl rfl)) rfl))
noncomputable def s68 (args : List Value) (s : St) : List (Bool × Value × St) :=
 match args, s.h with
 | [.float .f32 x0], [] => [(true, .bool (r68 x0), st0)]
 | _, _ => T5 68 args s
noncomputable def T6 : CallF := addF T5 68 s68
set_option maxRecDepth 100000 in
set_option maxHeartbeats 4000000 in
theorem ok6 : CfOk Try.prog T6 := by
  refine cfOk_add ok5 fun args s r s' h1 h2 h3 => ?_
  unfold s68 at h3; split at h3
  · rename_i h; exact callOk ok5 Try.func68 h1 h2 h (lfOkF_no _ _).body (e68 _) rfl h3
  · exact ok5 _ _ _ _ _ h1 h2 h3

/-- spec.l03Hot -/
noncomputable def r109 (x0 : Nat) : Bool :=
 cond (fgt .f32 x0 3262119936 || feq .f32 x0 3262119936)
  ((flt .f32 x0 1153138688 || feq .f32 x0 1153138688))
  (false)
noncomputable def a109 (x0 : Nat) (p : Bool) : Res := firstT [(true, .bool p, st0)]
noncomputable def w109 (x0 : Nat) : Res :=
 (cond (fgt .f32 x0 3262119936 || feq .f32 x0 3262119936)
 (a109 x0 ((flt .f32 x0 1153138688 || feq .f32 x0 1153138688)))
 (a109 x0 (false)))
set_option maxRecDepth 100000 in
set_option maxHeartbeats 4000000 in
theorem e109 (x0 : Nat) : evFn Try.prog ext T6 noL 200 Try.f109 [.float .f32 x0] st0 = firstT [(true, .bool (r109 x0), st0)] :=
 (show evFn Try.prog ext T6 noL 200 Try.f109 [.float .f32 x0] st0 = w109 x0 from by kernel_rfl).trans
 (show w109 x0 = a109 x0 (r109 x0) from by unfold w109 r109; exact (cond_app (a109 x0) _ rfl rfl))
noncomputable def s109 (args : List Value) (s : St) : List (Bool × Value × St) :=
 match args, s.h with
 | [.float .f32 x0], [] => [(true, .bool (r109 x0), st0)]
 | _, _ => T6 109 args s
noncomputable def T7 : CallF := addF T6 109 s109
set_option maxRecDepth 100000 in
set_option maxHeartbeats 4000000 in
theorem ok7 : CfOk Try.prog T7 := by
  refine cfOk_add ok6 fun args s r s' h1 h2 h3 => ?_
  unfold s109 at h3; split at h3
  · rename_i h; exact callOk ok6 Try.func109 h1 h2 h (lfOkF_no _ _).body (e109 _) rfl h3
  · exact ok6 _ _ _ _ _ h1 h2 h3

/-- spec.l01Share -/
noncomputable def r74 (x0 : Nat) : Bool :=
 cond (r68 x0)
  ((flt .f32 x0 1065353216 || feq .f32 x0 1065353216))
  (false)
noncomputable def a74 (x0 : Nat) (p : Bool) : Res := firstT [(true, .bool p, st0)]
noncomputable def w74 (x0 : Nat) : Res :=
 (cond (r68 x0)
 (a74 x0 ((flt .f32 x0 1065353216 || feq .f32 x0 1065353216)))
 (a74 x0 (false)))
set_option maxRecDepth 100000 in
set_option maxHeartbeats 4000000 in
theorem e74 (x0 : Nat) : evFn Try.prog ext T7 noL 200 Try.f74 [.float .f32 x0] st0 = firstT [(true, .bool (r74 x0), st0)] :=
 (show evFn Try.prog ext T7 noL 200 Try.f74 [.float .f32 x0] st0 = w74 x0 from by kernel_rfl).trans
 (show w74 x0 = a74 x0 (r74 x0) from by unfold w74 r74; exact (cond_app (a74 x0) _ rfl rfl))
noncomputable def s74 (args : List Value) (s : St) : List (Bool × Value × St) :=
 match args, s.h with
 | [.float .f32 x0], [] => [(true, .bool (r74 x0), st0)]
 | _, _ => T7 74 args s
noncomputable def T8 : CallF := addF T7 74 s74
set_option maxRecDepth 100000 in
set_option maxHeartbeats 4000000 in
theorem ok8 : CfOk Try.prog T8 := by
  refine cfOk_add ok7 fun args s r s' h1 h2 h3 => ?_
  unfold s74 at h3; split at h3
  · rename_i h; exact callOk ok7 Try.func74 h1 h2 h (lfOkF_no _ _).body (e74 _) rfl h3
  · exact ok7 _ _ _ _ _ h1 h2 h3

/-- spec.l03Flue -/
noncomputable def r104 (x0 : Nat) (x1 : List (List Int)) : Nat × Bool :=
 cond (Nat.blt x0 x1.length)
  (cond (r68 (Int.toNat ((x1.getD x0 []).getD 0 0)))
   (cond (fgt .f32 (Int.toNat ((x1.getD x0 []).getD 0 0)) 1031798784 || feq .f32 (Int.toNat ((x1.getD x0 []).getD 0 0)) 1031798784)
    (cond (flt .f32 (Int.toNat ((x1.getD x0 []).getD 0 0)) 1106247680 || feq .f32 (Int.toNat ((x1.getD x0 []).getD 0 0)) 1106247680)
     (cond (r68 (Int.toNat ((x1.getD x0 []).getD 1 0)))
      (cond (fgt .f32 (Int.toNat ((x1.getD x0 []).getD 1 0)) 1015021568 || feq .f32 (Int.toNat ((x1.getD x0 []).getD 1 0)) 1015021568)
       (cond (flt .f32 (Int.toNat ((x1.getD x0 []).getD 1 0)) 1082130432 || feq .f32 (Int.toNat ((x1.getD x0 []).getD 1 0)) 1082130432)
        (cond (r109 (Int.toNat ((x1.getD x0 []).getD 2 0)))
         (0, (r74 (Int.toNat ((x1.getD x0 []).getD 3 0))))
         (0, false))
        (0, false))
       (0, false))
      (0, false))
     (0, false))
    (0, false))
   (0, false))
  (1, false)
noncomputable def a104 (x0 : Nat) (x1 : List (List Int)) (p : Nat × Bool) : Res := firstT [((Nat.beq (p.1) 0), .bool (p.2), ⟨[⟨true, (some (.tab sc0 x1))⟩], 1, []⟩)]
noncomputable def w104 (x0 : Nat) (x1 : List (List Int)) : Res :=
 (cond (Nat.blt x0 x1.length)
 (cond (r68 (Int.toNat ((x1.getD x0 []).getD 0 0)))
  (cond (Nat.blt x0 x1.length)
   (cond (fgt .f32 (Int.toNat ((x1.getD x0 []).getD 0 0)) 1031798784 || feq .f32 (Int.toNat ((x1.getD x0 []).getD 0 0)) 1031798784)
    (cond (Nat.blt x0 x1.length)
     (cond (flt .f32 (Int.toNat ((x1.getD x0 []).getD 0 0)) 1106247680 || feq .f32 (Int.toNat ((x1.getD x0 []).getD 0 0)) 1106247680)
      (cond (Nat.blt x0 x1.length)
       (cond (r68 (Int.toNat ((x1.getD x0 []).getD 1 0)))
        (cond (Nat.blt x0 x1.length)
         (cond (fgt .f32 (Int.toNat ((x1.getD x0 []).getD 1 0)) 1015021568 || feq .f32 (Int.toNat ((x1.getD x0 []).getD 1 0)) 1015021568)
          (cond (Nat.blt x0 x1.length)
           (cond (flt .f32 (Int.toNat ((x1.getD x0 []).getD 1 0)) 1082130432 || feq .f32 (Int.toNat ((x1.getD x0 []).getD 1 0)) 1082130432)
            (cond (Nat.blt x0 x1.length)
             (cond (r109 (Int.toNat ((x1.getD x0 []).getD 2 0)))
              (cond (Nat.blt x0 x1.length)
               (a104 x0 x1 (0, (r74 (Int.toNat ((x1.getD x0 []).getD 3 0)))))
               none)
              (a104 x0 x1 (0, false)))
             none)
            (a104 x0 x1 (0, false)))
           none)
          (a104 x0 x1 (0, false)))
         none)
        (a104 x0 x1 (0, false)))
       none)
      (a104 x0 x1 (0, false)))
     none)
    (a104 x0 x1 (0, false)))
   none)
  (a104 x0 x1 (0, false)))
 none)
set_option maxRecDepth 100000 in
set_option maxHeartbeats 4000000 in
theorem e104 (x0 : Nat) (x1 : List (List Int)) : evFn Try.prog ext T8 noL 200 Try.f104 [.pointer (some ⟨0, x0, some 0⟩)] ⟨[⟨true, (some (.tab sc0 x1))⟩], 1, []⟩ = firstT [((Nat.beq ((r104 x0 x1).1) 0), .bool ((r104 x0 x1).2), ⟨[⟨true, (some (.tab sc0 x1))⟩], 1, []⟩)] :=
 (show evFn Try.prog ext T8 noL 200 Try.f104 [.pointer (some ⟨0, x0, some 0⟩)] ⟨[⟨true, (some (.tab sc0 x1))⟩], 1, []⟩ = w104 x0 x1 from by kernel_rfl).trans
 (show w104 x0 x1 = a104 x0 x1 (r104 x0 x1) from by unfold w104 r104; exact (cond_both (a104 x0 x1) _ (fun h0 => (cond_both (a104 x0 x1) _ (fun h1 => (cond_t h0 (cond_both (a104 x0 x1) _ (fun h2 => (cond_t h0 (cond_both (a104 x0 x1) _ (fun h3 => (cond_t h0 (cond_both (a104 x0 x1) _ (fun h4 => (cond_t h0 (cond_both (a104 x0 x1) _ (fun h5 => (cond_t h0 (cond_both (a104 x0 x1) _ (fun h6 => (cond_t h0 (cond_both (a104 x0 x1) _ (fun h7 => (cond_t h0 rfl)) (fun h7 => rfl)))) (fun h6 => rfl)))) (fun h5 => rfl)))) (fun h4 => rfl)))) (fun h3 => rfl)))) (fun h2 => rfl)))) (fun h1 => rfl))) (fun h0 => rfl)))
noncomputable def s104 (args : List Value) (s : St) : List (Bool × Value × St) :=
 match args, s.h with
 | [.pointer (some ⟨f0, x0, some f1⟩)], [⟨true, some (.tab [.fl .f32, .fl .f32, .fl .f32, .fl .f32, .int .i64] x1)⟩] => if f0 = 0 ∧ f1 = 0 then [((Nat.beq ((r104 x0 x1).1) 0), .bool ((r104 x0 x1).2), ⟨[⟨true, (some (.tab sc0 x1))⟩], 1, []⟩)] else T8 104 args s
 | _, _ => T8 104 args s
noncomputable def T9 : CallF := addF T8 104 s104
set_option maxRecDepth 100000 in
set_option maxHeartbeats 4000000 in
theorem ok9 : CfOk Try.prog T9 := by
  refine cfOk_add ok8 fun args s r s' h1 h2 h3 => ?_
  unfold s104 at h3; split at h3
  · rename_i h; split at h3
    · rename_i hc; obtain ⟨rfl, rfl⟩ := hc; exact callOk ok8 Try.func104 h1 h2 h (lfOkF_no _ _).body (e104 _ _) rfl h3
    · exact ok8 _ _ _ _ _ h1 h2 h3
  · exact ok8 _ _ _ _ _ h1 h2 h3

/-- spec.l03Ok, loop 0: one round -/
noncomputable def b73l0 (ih : Int → Int → List (List Int) → Nat) (x0 x1 : Int) (x2 : List (List Int)) : Nat :=
 cond (decide ((x1 : Int) < x0))
  (cond ((decide ((0 : Int) ≤ x1)) && (Nat.blt (Int.toNat x1) x2.length))
   (cond (Nat.beq ((r104 (Int.toNat x1) x2).1) 0)
    (cond (!((r104 (Int.toNat x1) x2).2))
     (0)
     (cond ((((x2.getD (Int.toNat x1) []).getD 4 0) : Int) == (-1))
      (ih x0 (IntKind.i64.wrap (x1 + 1)) x2)
      (cond (!(r63 ((x2.getD (Int.toNat x1) []).getD 4 0) 0 (IntKind.i64.wrap (x0 - 1))))
       (0)
       (cond ((((x2.getD (Int.toNat x1) []).getD 4 0) : Int) == x1)
        (0)
        (cond ((decide ((0 : Int) ≤ ((x2.getD (Int.toNat x1) []).getD 4 0))) && (Nat.blt (Int.toNat ((x2.getD (Int.toNat x1) []).getD 4 0)) x2.length))
         (cond ((((x2.getD (Int.toNat ((x2.getD (Int.toNat x1) []).getD 4 0)) []).getD 4 0) : Int) != (-1))
          (0)
          (ih x0 (IntKind.i64.wrap (x1 + 1)) x2))
         (2))))))
    (2))
   (2))
  (1)
noncomputable def r73l0 : Nat → Int → Int → List (List Int) → Nat
 | 0 => fun _ _ _ => (2)
 | m + 1 => b73l0 (r73l0 m)
noncomputable def a73l0 (x0 x1 : Int) (x2 : List (List Int)) (p : Nat) : Option (Fin' × List Value × St) := firstT ([((Nat.beq p 0), .ret, [.bool false], ⟨[⟨true, (some (.tab sc0 x2))⟩], 1, []⟩), ((Nat.beq p 1), .exit 0, [anyV], ⟨[⟨true, (some (.tab sc0 x2))⟩], 1, []⟩)].map fun (b, x) => (b, (x.1, frameOf 56 [2] x.2.1, x.2.2)))
noncomputable def u73l0 (x0 x1 : Int) (x2 : List (List Int)) (p : Nat) : Option (Fin' × List Value × St) := alts ([((Nat.beq p 0), .ret, [.bool false], ⟨[⟨true, (some (.tab sc0 x2))⟩], 1, []⟩), ((Nat.beq p 1), .exit 0, [anyV], ⟨[⟨true, (some (.tab sc0 x2))⟩], 1, []⟩)].map fun (b, x) => (b, (x.1, frameOf 56 [2] x.2.1, x.2.2))) some
theorem v73l0 (x0 x1 : Int) (x2 : List (List Int)) (p : Nat) : u73l0 x0 x1 x2 p = a73l0 x0 x1 x2 p := alts_first _
noncomputable def q73l0 (m : Nat) : SumK := fun vals s =>
 match vals, s.h with
 | [.iface f0 .nilIface, .int .i64 x0, .int .i64 x1], [⟨true, some (.tab [.fl .f32, .fl .f32, .fl .f32, .fl .f32, .int .i64] x2)⟩] => if f0 = 0 then [((Nat.beq (r73l0 m x0 x1 x2) 0), .ret, [.bool false], ⟨[⟨true, (some (.tab sc0 x2))⟩], 1, []⟩), ((Nat.beq (r73l0 m x0 x1 x2) 1), .exit 0, [anyV], ⟨[⟨true, (some (.tab sc0 x2))⟩], 1, []⟩)] else noQ vals s
 | _, _ => noQ vals s
noncomputable def w73l0 (ih : Int → Int → List (List Int) → Nat) (x0 x1 : Int) (x2 : List (List Int)) : Option (Fin' × List Value × St) :=
 (cond (decide ((x1 : Int) < x0))
 (cond ((decide ((0 : Int) ≤ x1)) && (Nat.blt (Int.toNat x1) x2.length))
  (cond (Nat.beq ((r104 (Int.toNat x1) x2).1) 0)
   (cond (!((r104 (Int.toNat x1) x2).2))
    (a73l0 x0 x1 x2 (0))
    (cond ((decide ((0 : Int) ≤ x1)) && (Nat.blt (Int.toNat x1) x2.length))
     (cond (Nat.blt (Int.toNat x1) x2.length)
      (cond ((((x2.getD (Int.toNat x1) []).getD 4 0) : Int) == (-1))
       (u73l0 x0 x1 x2 (ih x0 (IntKind.i64.wrap (x1 + 1)) x2))
       (cond ((decide ((0 : Int) ≤ x1)) && (Nat.blt (Int.toNat x1) x2.length))
        (cond (Nat.blt (Int.toNat x1) x2.length)
         (cond (!(r63 ((x2.getD (Int.toNat x1) []).getD 4 0) 0 (IntKind.i64.wrap (x0 - 1))))
          (a73l0 x0 x1 x2 (0))
          (cond ((decide ((0 : Int) ≤ x1)) && (Nat.blt (Int.toNat x1) x2.length))
           (cond (Nat.blt (Int.toNat x1) x2.length)
            (cond ((((x2.getD (Int.toNat x1) []).getD 4 0) : Int) == x1)
             (a73l0 x0 x1 x2 (0))
             (cond ((decide ((0 : Int) ≤ x1)) && (Nat.blt (Int.toNat x1) x2.length))
              (cond (Nat.blt (Int.toNat x1) x2.length)
               (cond ((decide ((0 : Int) ≤ ((x2.getD (Int.toNat x1) []).getD 4 0))) && (Nat.blt (Int.toNat ((x2.getD (Int.toNat x1) []).getD 4 0)) x2.length))
                (cond (Nat.blt (Int.toNat ((x2.getD (Int.toNat x1) []).getD 4 0)) x2.length)
                 (cond ((((x2.getD (Int.toNat ((x2.getD (Int.toNat x1) []).getD 4 0)) []).getD 4 0) : Int) != (-1))
                  (a73l0 x0 x1 x2 (0))
                  (u73l0 x0 x1 x2 (ih x0 (IntKind.i64.wrap (x1 + 1)) x2)))
                 none)
                none)
               none)
              none))
            none)
           none))
         none)
        none))
      none)
     none))
   none)
  none)
 (a73l0 x0 x1 x2 (1)))
set_option maxRecDepth 100000 in
set_option maxHeartbeats 4000000 in
theorem e73l0 (m : Nat) (x0 x1 : Int) (x2 : List (List Int)) : evC Try.prog ext T9 noL 200 (loopN Try.f73 0) (loopTail ([0, 3, 4], []) [2] [] (sumK 56 [0, 3, 4] [2] (q73l0 m))) (frameOf 56 [0, 3, 4] [wsl 0, .int .i64 x0, .int .i64 x1]) ⟨[⟨true, (some (.tab sc0 x2))⟩], 1, []⟩ = firstT ([((Nat.beq (r73l0 (m + 1) x0 x1 x2) 0), .ret, [.bool false], ⟨[⟨true, (some (.tab sc0 x2))⟩], 1, []⟩), ((Nat.beq (r73l0 (m + 1) x0 x1 x2) 1), .exit 0, [anyV], ⟨[⟨true, (some (.tab sc0 x2))⟩], 1, []⟩)].map fun (b, x) => (b, (x.1, frameOf 56 [2] x.2.1, x.2.2))) :=
 (show evC Try.prog ext T9 noL 200 (loopN Try.f73 0) (loopTail ([0, 3, 4], []) [2] [] (sumK 56 [0, 3, 4] [2] (q73l0 m))) (frameOf 56 [0, 3, 4] [wsl 0, .int .i64 x0, .int .i64 x1]) ⟨[⟨true, (some (.tab sc0 x2))⟩], 1, []⟩ = w73l0 (r73l0 m) x0 x1 x2 from by kernel_rfl).trans
 (show w73l0 (r73l0 m) x0 x1 x2 = a73l0 x0 x1 x2 (r73l0 (m + 1) x0 x1 x2) from by unfold w73l0; show _ = a73l0 x0 x1 x2 (b73l0 (r73l0 m) x0 x1 x2); unfold b73l0; exact (cond_both (a73l0 x0 x1 x2) _ (fun h0 => (cond_both (a73l0 x0 x1 x2) _ (fun h1 => (cond_both (a73l0 x0 x1 x2) _ (fun h2 => (cond_both (a73l0 x0 x1 x2) _ (fun h3 => rfl) (fun h3 => (cond_t h1 (cond_t (ev_and2 h1) (cond_both (a73l0 x0 x1 x2) _ (fun h4 => (v73l0 x0 x1 x2 ((r73l0 m) x0 (IntKind.i64.wrap (x1 + 1)) x2))) (fun h4 => (cond_t h1 (cond_t (ev_and2 h1) (cond_both (a73l0 x0 x1 x2) _ (fun h5 => rfl) (fun h5 => (cond_t h1 (cond_t (ev_and2 h1) (cond_both (a73l0 x0 x1 x2) _ (fun h6 => rfl) (fun h6 => (cond_t h1 (cond_t (ev_and2 h1) (cond_both (a73l0 x0 x1 x2) _ (fun h7 => (cond_t (ev_and2 h7) (cond_app (a73l0 x0 x1 x2) _ rfl (v73l0 x0 x1 x2 ((r73l0 m) x0 (IntKind.i64.wrap (x1 + 1)) x2))))) (fun h7 => rfl))))))))))))))))))) (fun h2 => rfl))) (fun h1 => rfl))) (fun h0 => rfl)))
set_option maxRecDepth 100000 in
set_option maxHeartbeats 4000000 in
theorem qm73l0 : ∀ m, SumKOk Try.prog (loopN Try.f73 0) 56 [0, 3, 4] [2] (q73l0 m) := by
  intro m
  induction m with
  | zero =>
    intro vals s x h1 h2 h3
    unfold q73l0 at h3; split at h3
    · rename_i h; split at h3
      · rename_i hc; obtain ⟨rfl⟩ := hc; exact absurd h3 (by simp [r73l0, firstT, Nat.beq])
      · exact noQ_ok _ _ _ h1 h2 h3
    · exact noQ_ok _ _ _ h1 h2 h3
  | succ m ih =>
    intro vals s x h1 h2 h3
    unfold q73l0 at h3; split at h3
    · rename_i h; split at h3
      · rename_i hc; obtain ⟨rfl⟩ := hc; exact sum_step ok9 extOk mixed ((lfOkF_no _ _).inner (by kernel_rfl)) ih h1 h2 h (e73l0 m _ _ _) rfl h3
      · exact noQ_ok _ _ _ h1 h2 h3
    · exact noQ_ok _ _ _ h1 h2 h3
noncomputable def Q73l0 : SumK := fun vals s => q73l0 (fuelOf vals s.h) vals s
theorem qok73l0 : SumKOk Try.prog (loopN Try.f73 0) 56 [0, 3, 4] [2] Q73l0 := fuel_ok qm73l0 fuelOf
noncomputable def L73_1 : LoopT := addL noL 6 ([0, 3, 4], []) (sumK 56 [0, 3, 4] [2] Q73l0)
theorem lok73_1 : LfOkF Try.prog L73_1 Try.f73 := lfOkF_add (lfOkF_no _ _) qok73l0 (by kernel_rfl) (by kernel_rfl) (by kernel_rfl)

/-- spec.l03Ok -/
noncomputable def r73 (x0 : List (List Int)) : Nat × Bool :=
 cond (!(r63 ((x0.length : Nat) : Int) 1 6))
  (0, false)
  (cond (Nat.beq (r73l0 (1000 + x0.length) ((x0.length : Nat) : Int) 0 x0) 0)
   (0, false)
   (cond (Nat.beq (r73l0 (1000 + x0.length) ((x0.length : Nat) : Int) 0 x0) 1)
    (0, true)
    (1, false)))
noncomputable def a73 (x0 : List (List Int)) (p : Nat × Bool) : Res := firstT [((Nat.beq (p.1) 0), .bool (p.2), ⟨[⟨true, (some (.tab sc0 x0))⟩], 1, []⟩)]
noncomputable def w73 (x0 : List (List Int)) : Res :=
 (cond (!(r63 ((x0.length : Nat) : Int) 1 6))
 (a73 x0 (0, false))
 (cond (Nat.beq (r73l0 (1000 + x0.length) ((x0.length : Nat) : Int) 0 x0) 0)
  (a73 x0 (0, false))
  (cond (Nat.beq (r73l0 (1000 + x0.length) ((x0.length : Nat) : Int) 0 x0) 1)
   (a73 x0 (0, true))
   none)))
set_option maxRecDepth 100000 in
set_option maxHeartbeats 4000000 in
theorem e73 (x0 : List (List Int)) : evFn Try.prog ext T9 L73_1 200 Try.f73 [wsl 0] ⟨[⟨true, (some (.tab sc0 x0))⟩], 1, []⟩ = firstT [((Nat.beq ((r73 x0).1) 0), .bool ((r73 x0).2), ⟨[⟨true, (some (.tab sc0 x0))⟩], 1, []⟩)] :=
 (show evFn Try.prog ext T9 L73_1 200 Try.f73 [wsl 0] ⟨[⟨true, (some (.tab sc0 x0))⟩], 1, []⟩ = w73 x0 from by kernel_rfl).trans
 (show w73 x0 = a73 x0 (r73 x0) from by unfold w73 r73; exact (cond_app (a73 x0) _ rfl (cond_app (a73 x0) _ rfl (cond_app (a73 x0) _ rfl rfl))))
noncomputable def s73 (args : List Value) (s : St) : List (Bool × Value × St) :=
 match args, s.h with
 | [.iface f0 .nilIface], [⟨true, some (.tab [.fl .f32, .fl .f32, .fl .f32, .fl .f32, .int .i64] x0)⟩] => if f0 = 0 then [((Nat.beq ((r73 x0).1) 0), .bool ((r73 x0).2), ⟨[⟨true, (some (.tab sc0 x0))⟩], 1, []⟩)] else T9 73 args s
 | _, _ => T9 73 args s
noncomputable def T10 : CallF := addF T9 73 s73
set_option maxRecDepth 100000 in
set_option maxHeartbeats 4000000 in
theorem ok10 : CfOk Try.prog T10 := by
  refine cfOk_add ok9 fun args s r s' h1 h2 h3 => ?_
  unfold s73 at h3; split at h3
  · rename_i h; split at h3
    · rename_i hc; obtain ⟨rfl⟩ := hc; exact callOk ok9 Try.func73 h1 h2 h lok73_1.body (e73 _) rfl h3
    · exact ok9 _ _ _ _ _ h1 h2 h3
  · exact ok9 _ _ _ _ _ h1 h2 h3

/-- spec.l03Outside -/
noncomputable def r83 (x0 : Nat) : Bool :=
 cond (fgt .f32 x0 3262119936 || feq .f32 x0 3262119936)
  ((flt .f32 x0 1114636288 || feq .f32 x0 1114636288))
  (false)
noncomputable def a83 (x0 : Nat) (p : Bool) : Res := firstT [(true, .bool p, st0)]
noncomputable def w83 (x0 : Nat) : Res :=
 (cond (fgt .f32 x0 3262119936 || feq .f32 x0 3262119936)
 (a83 x0 ((flt .f32 x0 1114636288 || feq .f32 x0 1114636288)))
 (a83 x0 (false)))
set_option maxRecDepth 100000 in
set_option maxHeartbeats 4000000 in
theorem e83 (x0 : Nat) : evFn Try.prog ext T10 noL 200 Try.f83 [.float .f32 x0] st0 = firstT [(true, .bool (r83 x0), st0)] :=
 (show evFn Try.prog ext T10 noL 200 Try.f83 [.float .f32 x0] st0 = w83 x0 from by kernel_rfl).trans
 (show w83 x0 = a83 x0 (r83 x0) from by unfold w83 r83; exact (cond_app (a83 x0) _ rfl rfl))
noncomputable def s83 (args : List Value) (s : St) : List (Bool × Value × St) :=
 match args, s.h with
 | [.float .f32 x0], [] => [(true, .bool (r83 x0), st0)]
 | _, _ => T10 83 args s
noncomputable def T11 : CallF := addF T10 83 s83
set_option maxRecDepth 100000 in
set_option maxHeartbeats 4000000 in
theorem ok11 : CfOk Try.prog T11 := by
  refine cfOk_add ok10 fun args s r s' h1 h2 h3 => ?_
  unfold s83 at h3; split at h3
  · rename_i h; exact callOk ok10 Try.func83 h1 h2 h (lfOkF_no _ _).body (e83 _) rfl h3
  · exact ok10 _ _ _ _ _ h1 h2 h3

/-- spec.l03Push -/
noncomputable def r96 (x0 : Nat) : Bool :=
 cond (fgt .f32 x0 3296329728 || feq .f32 x0 3296329728)
  ((flt .f32 x0 1148846080 || feq .f32 x0 1148846080))
  (false)
noncomputable def a96 (x0 : Nat) (p : Bool) : Res := firstT [(true, .bool p, st0)]
noncomputable def w96 (x0 : Nat) : Res :=
 (cond (fgt .f32 x0 3296329728 || feq .f32 x0 3296329728)
 (a96 x0 ((flt .f32 x0 1148846080 || feq .f32 x0 1148846080)))
 (a96 x0 (false)))
set_option maxRecDepth 100000 in
set_option maxHeartbeats 4000000 in
theorem e96 (x0 : Nat) : evFn Try.prog ext T11 noL 200 Try.f96 [.float .f32 x0] st0 = firstT [(true, .bool (r96 x0), st0)] :=
 (show evFn Try.prog ext T11 noL 200 Try.f96 [.float .f32 x0] st0 = w96 x0 from by kernel_rfl).trans
 (show w96 x0 = a96 x0 (r96 x0) from by unfold w96 r96; exact (cond_app (a96 x0) _ rfl rfl))
noncomputable def s96 (args : List Value) (s : St) : List (Bool × Value × St) :=
 match args, s.h with
 | [.float .f32 x0], [] => [(true, .bool (r96 x0), st0)]
 | _, _ => T11 96 args s
noncomputable def T12 : CallF := addF T11 96 s96
set_option maxRecDepth 100000 in
set_option maxHeartbeats 4000000 in
theorem ok12 : CfOk Try.prog T12 := by
  refine cfOk_add ok11 fun args s r s' h1 h2 h3 => ?_
  unfold s96 at h3; split at h3
  · rename_i h; exact callOk ok11 Try.func96 h1 h2 h (lfOkF_no _ _).body (e96 _) rfl h3
  · exact ok11 _ _ _ _ _ h1 h2 h3

/-- spec.l03Asked -/
noncomputable def r57 (x0 x1 : Nat) (x2 : List (List Int)) : Nat × Int :=
 cond (Nat.beq ((r73 x2).1) 0)
  (cond (!((r73 x2).2))
   (0, 1)
   (cond (!(r83 x0))
    (0, 2)
    (cond (!(r96 x1))
     (0, 2)
     (0, 0))))
  (1, 0)
noncomputable def a57 (x0 x1 : Nat) (x2 : List (List Int)) (p : Nat × Int) : Res := firstT [((Nat.beq (p.1) 0), .int .i64 (p.2), ⟨[⟨true, (some (.tab sc0 x2))⟩], 1, []⟩)]
noncomputable def w57 (x0 x1 : Nat) (x2 : List (List Int)) : Res :=
 (cond (Nat.beq ((r73 x2).1) 0)
 (cond (!((r73 x2).2))
  (a57 x0 x1 x2 (0, 1))
  (cond (!(r83 x0))
   (a57 x0 x1 x2 (0, 2))
   (cond (!(r96 x1))
    (a57 x0 x1 x2 (0, 2))
    (a57 x0 x1 x2 (0, 0)))))
 none)
set_option maxRecDepth 100000 in
set_option maxHeartbeats 4000000 in
theorem e57 (x0 x1 : Nat) (x2 : List (List Int)) : evFn Try.prog ext T12 noL 200 Try.f57 [wsl 0, .float .f32 x0, .float .f32 x1] ⟨[⟨true, (some (.tab sc0 x2))⟩], 1, []⟩ = firstT [((Nat.beq ((r57 x0 x1 x2).1) 0), .int .i64 ((r57 x0 x1 x2).2), ⟨[⟨true, (some (.tab sc0 x2))⟩], 1, []⟩)] :=
 (show evFn Try.prog ext T12 noL 200 Try.f57 [wsl 0, .float .f32 x0, .float .f32 x1] ⟨[⟨true, (some (.tab sc0 x2))⟩], 1, []⟩ = w57 x0 x1 x2 from by kernel_rfl).trans
 (show w57 x0 x1 x2 = a57 x0 x1 x2 (r57 x0 x1 x2) from by unfold w57 r57; exact (cond_app (a57 x0 x1 x2) _ (cond_app (a57 x0 x1 x2) _ rfl (cond_app (a57 x0 x1 x2) _ rfl (cond_app (a57 x0 x1 x2) _ rfl rfl))) rfl))
noncomputable def s57 (args : List Value) (s : St) : List (Bool × Value × St) :=
 match args, s.h with
 | [.iface f0 .nilIface, .float .f32 x0, .float .f32 x1], [⟨true, some (.tab [.fl .f32, .fl .f32, .fl .f32, .fl .f32, .int .i64] x2)⟩] => if f0 = 0 then [((Nat.beq ((r57 x0 x1 x2).1) 0), .int .i64 ((r57 x0 x1 x2).2), ⟨[⟨true, (some (.tab sc0 x2))⟩], 1, []⟩)] else T12 57 args s
 | _, _ => T12 57 args s
noncomputable def T13 : CallF := addF T12 57 s57
set_option maxRecDepth 100000 in
set_option maxHeartbeats 4000000 in
theorem ok13 : CfOk Try.prog T13 := by
  refine cfOk_add ok12 fun args s r s' h1 h2 h3 => ?_
  unfold s57 at h3; split at h3
  · rename_i h; split at h3
    · rename_i hc; obtain ⟨rfl⟩ := hc; exact callOk ok12 Try.func57 h1 h2 h (lfOkF_no _ _).body (e57 _ _ _) rfl h3
    · exact ok12 _ _ _ _ _ h1 h2 h3
  · exact ok12 _ _ _ _ _ h1 h2 h3

/-- spec.l03Branches, loop 0: one round -/
noncomputable def b102l0 (ih : Int → Int → List (List Int) → List (List Int) → (Nat × List (List Int))) (x0 x1 : Int) (x2 x3 : List (List Int)) : Nat × List (List Int) :=
 cond (decide ((x1 : Int) < ((x2.length : Nat) : Int)))
  (cond ((decide ((0 : Int) ≤ x1)) && (Nat.blt (Int.toNat x1) x2.length))
   (cond ((((x2.getD (Int.toNat x1) []).getD 4 0) : Int) == x0)
    (cond (Nat.ble ((x3.length + 1) * 9) 140737488355328)
     (cond (Nat.beq ((ih x0 (IntKind.i64.wrap (x1 + 1)) x2 (((x3.drop 0).take x3.length) ++ ([[x1]] : List (List Int)))).1) 0)
      (0, ((ih x0 (IntKind.i64.wrap (x1 + 1)) x2 (((x3.drop 0).take x3.length) ++ ([[x1]] : List (List Int)))).2))
      (cond (Nat.beq ((ih x0 (IntKind.i64.wrap (x1 + 1)) x2 (((x3.drop 0).take x3.length) ++ ([[x1]] : List (List Int)))).1) 1)
       (0, (((x3.drop 0).take x3.length) ++ ([[x1]] : List (List Int))))
       (2, [])))
     (2, []))
    (ih x0 (IntKind.i64.wrap (x1 + 1)) x2 x3))
   (2, []))
  (1, [])
noncomputable def r102l0 : Nat → Int → Int → List (List Int) → List (List Int) → (Nat × List (List Int))
 | 0 => fun _ _ _ _ => (2, [])
 | m + 1 => b102l0 (r102l0 m)
noncomputable def a102l0 (x0 x1 : Int) (x2 x3 : List (List Int)) (p : Nat × List (List Int)) : Option (Fin' × List Value × St) := firstT ([((Nat.beq (p.1) 0), .exit 0, [wsl 2], ⟨[⟨true, (some (.tab sc0 x2))⟩, ⟨true, none⟩, ⟨true, (some (.tab [.int .i64] (p.2)))⟩], 2, [1]⟩), ((Nat.beq (p.1) 1), .exit 0, [wsl 1], ⟨[⟨true, (some (.tab sc0 x2))⟩, ⟨true, (some (.tab [.int .i64] x3))⟩], 2, [1]⟩)].map fun (b, x) => (b, (x.1, frameOf 26 [5] x.2.1, x.2.2)))
noncomputable def u102l0 (x0 x1 : Int) (x2 x3 : List (List Int)) (p : Nat × List (List Int)) : Option (Fin' × List Value × St) := alts ([((Nat.beq (p.1) 0), .exit 0, [wsl 2], ⟨[⟨true, (some (.tab sc0 x2))⟩, ⟨true, none⟩, ⟨true, (some (.tab [.int .i64] (p.2)))⟩], 2, [1]⟩), ((Nat.beq (p.1) 1), .exit 0, [wsl 1], ⟨[⟨true, (some (.tab sc0 x2))⟩, ⟨true, (some (.tab [.int .i64] x3))⟩], 2, [1]⟩)].map fun (b, x) => (b, (x.1, frameOf 26 [5] x.2.1, x.2.2))) some
theorem v102l0 (x0 x1 : Int) (x2 x3 : List (List Int)) (p : Nat × List (List Int)) : u102l0 x0 x1 x2 x3 p = a102l0 x0 x1 x2 x3 p := alts_first _
noncomputable def q102l0 (m : Nat) : SumK := fun vals s =>
 match vals, s.h with
 | [.iface f0 .nilIface, .int .i64 x0, .iface f1 .nilIface, .int .i64 x1], [⟨true, some (.tab [.fl .f32, .fl .f32, .fl .f32, .fl .f32, .int .i64] x2)⟩, ⟨true, some (.tab [.int .i64] x3)⟩] => if f0 = 0 ∧ f1 = 1 then [((Nat.beq ((r102l0 m x0 x1 x2 x3).1) 0), .exit 0, [wsl 2], ⟨[⟨true, (some (.tab sc0 x2))⟩, ⟨true, none⟩, ⟨true, (some (.tab [.int .i64] ((r102l0 m x0 x1 x2 x3).2)))⟩], 2, [1]⟩), ((Nat.beq ((r102l0 m x0 x1 x2 x3).1) 1), .exit 0, [wsl 1], ⟨[⟨true, (some (.tab sc0 x2))⟩, ⟨true, (some (.tab [.int .i64] x3))⟩], 2, [1]⟩)] else noQ vals s
 | _, _ => noQ vals s
noncomputable def w102l0 (ih : Int → Int → List (List Int) → List (List Int) → (Nat × List (List Int))) (x0 x1 : Int) (x2 x3 : List (List Int)) : Option (Fin' × List Value × St) :=
 (cond (decide ((x1 : Int) < ((x2.length : Nat) : Int)))
 (cond ((decide ((0 : Int) ≤ x1)) && (Nat.blt (Int.toNat x1) x2.length))
  (cond (Nat.blt (Int.toNat x1) x2.length)
   (cond ((((x2.getD (Int.toNat x1) []).getD 4 0) : Int) == x0)
    (cond (Nat.ble ((x3.length + 1) * 9) 140737488355328)
     (cond (Nat.beq ((ih x0 (IntKind.i64.wrap (x1 + 1)) x2 (((x3.drop 0).take x3.length) ++ ([[x1]] : List (List Int)))).1) 0)
      (a102l0 x0 x1 x2 x3 (0, ((ih x0 (IntKind.i64.wrap (x1 + 1)) x2 (((x3.drop 0).take x3.length) ++ ([[x1]] : List (List Int)))).2)))
      (cond (Nat.beq ((ih x0 (IntKind.i64.wrap (x1 + 1)) x2 (((x3.drop 0).take x3.length) ++ ([[x1]] : List (List Int)))).1) 1)
       (a102l0 x0 x1 x2 x3 (0, (((x3.drop 0).take x3.length) ++ ([[x1]] : List (List Int)))))
       none))
     none)
    (u102l0 x0 x1 x2 x3 (ih x0 (IntKind.i64.wrap (x1 + 1)) x2 x3)))
   none)
  none)
 (a102l0 x0 x1 x2 x3 (1, [])))
set_option maxRecDepth 100000 in
set_option maxHeartbeats 4000000 in
theorem e102l0 (m : Nat) (x0 x1 : Int) (x2 x3 : List (List Int)) : evC Try.prog ext T13 noL 200 (loopN Try.f102 0) (loopTail ([0, 1, 5, 6], []) [5] [1] (sumK 26 [0, 1, 5, 6] [5] (q102l0 m))) (frameOf 26 [0, 1, 5, 6] [wsl 0, .int .i64 x0, wsl 1, .int .i64 x1]) ⟨[⟨true, (some (.tab sc0 x2))⟩, ⟨true, (some (.tab [.int .i64] x3))⟩], 2, []⟩ = firstT ([((Nat.beq ((r102l0 (m + 1) x0 x1 x2 x3).1) 0), .exit 0, [wsl 2], ⟨[⟨true, (some (.tab sc0 x2))⟩, ⟨true, none⟩, ⟨true, (some (.tab [.int .i64] ((r102l0 (m + 1) x0 x1 x2 x3).2)))⟩], 2, [1]⟩), ((Nat.beq ((r102l0 (m + 1) x0 x1 x2 x3).1) 1), .exit 0, [wsl 1], ⟨[⟨true, (some (.tab sc0 x2))⟩, ⟨true, (some (.tab [.int .i64] x3))⟩], 2, [1]⟩)].map fun (b, x) => (b, (x.1, frameOf 26 [5] x.2.1, x.2.2))) :=
 (show evC Try.prog ext T13 noL 200 (loopN Try.f102 0) (loopTail ([0, 1, 5, 6], []) [5] [1] (sumK 26 [0, 1, 5, 6] [5] (q102l0 m))) (frameOf 26 [0, 1, 5, 6] [wsl 0, .int .i64 x0, wsl 1, .int .i64 x1]) ⟨[⟨true, (some (.tab sc0 x2))⟩, ⟨true, (some (.tab [.int .i64] x3))⟩], 2, []⟩ = w102l0 (r102l0 m) x0 x1 x2 x3 from by kernel_rfl).trans
 (show w102l0 (r102l0 m) x0 x1 x2 x3 = a102l0 x0 x1 x2 x3 (r102l0 (m + 1) x0 x1 x2 x3) from by unfold w102l0; show _ = a102l0 x0 x1 x2 x3 (b102l0 (r102l0 m) x0 x1 x2 x3); unfold b102l0; exact (cond_both (a102l0 x0 x1 x2 x3) _ (fun h0 => (cond_both (a102l0 x0 x1 x2 x3) _ (fun h1 => (cond_t (ev_and2 h1) (cond_app (a102l0 x0 x1 x2 x3) _ (cond_app (a102l0 x0 x1 x2 x3) _ (cond_app (a102l0 x0 x1 x2 x3) _ rfl (cond_app (a102l0 x0 x1 x2 x3) _ rfl rfl)) rfl) (v102l0 x0 x1 x2 x3 ((r102l0 m) x0 (IntKind.i64.wrap (x1 + 1)) x2 x3))))) (fun h1 => rfl))) (fun h0 => rfl)))
set_option maxRecDepth 100000 in
set_option maxHeartbeats 4000000 in
theorem qm102l0 : ∀ m, SumKOk Try.prog (loopN Try.f102 0) 26 [0, 1, 5, 6] [5] (q102l0 m) := by
  intro m
  induction m with
  | zero =>
    intro vals s x h1 h2 h3
    unfold q102l0 at h3; split at h3
    · rename_i h; split at h3
      · rename_i hc; obtain ⟨rfl, rfl⟩ := hc; exact absurd h3 (by simp [r102l0, firstT, Nat.beq])
      · exact noQ_ok _ _ _ h1 h2 h3
    · exact noQ_ok _ _ _ h1 h2 h3
  | succ m ih =>
    intro vals s x h1 h2 h3
    unfold q102l0 at h3; split at h3
    · rename_i h; split at h3
      · rename_i hc; obtain ⟨rfl, rfl⟩ := hc; exact sum_step ok13 extOk mixed ((lfOkF_no _ _).inner (by kernel_rfl)) ih h1 h2 h (e102l0 m _ _ _ _) rfl h3
      · exact noQ_ok _ _ _ h1 h2 h3
    · exact noQ_ok _ _ _ h1 h2 h3
noncomputable def Q102l0 : SumK := fun vals s => q102l0 (fuelOf vals s.h) vals s
theorem qok102l0 : SumKOk Try.prog (loopN Try.f102 0) 26 [0, 1, 5, 6] [5] Q102l0 := fuel_ok qm102l0 fuelOf
noncomputable def L102_1 : LoopT := addL noL 4 ([0, 1, 5, 6], []) (sumK 26 [0, 1, 5, 6] [5] Q102l0)
theorem lok102_1 : LfOkF Try.prog L102_1 Try.f102 := lfOkF_add (lfOkF_no _ _) qok102l0 (by kernel_rfl) (by kernel_rfl) (by kernel_rfl)

/-- spec.l03Branches -/
noncomputable def r102 (x0 : Int) (x1 : List (List Int)) : Nat × List (List Int) :=
 cond (Nat.beq ((r102l0 (1000 + 0 + x1.length) x0 0 x1 ([] : List (List Int))).1) 0)
  (0, ((r102l0 (1000 + 0 + x1.length) x0 0 x1 ([] : List (List Int))).2))
  (cond (Nat.beq ((r102l0 (1000 + 0 + x1.length) x0 0 x1 ([] : List (List Int))).1) 1)
   (0, ([] : List (List Int)))
   (1, []))
noncomputable def a102 (x0 : Int) (x1 : List (List Int)) (p : Nat × List (List Int)) : Res := firstT [((Nat.beq (p.1) 0), wsl 1, ⟨[⟨true, (some (.tab sc0 x1))⟩, ⟨true, (some (.tab [.int .i64] (p.2)))⟩], 1, []⟩)]
noncomputable def w102 (x0 : Int) (x1 : List (List Int)) : Res :=
 (cond (Nat.beq ((r102l0 (1000 + 0 + x1.length) x0 0 x1 ([] : List (List Int))).1) 0)
 (a102 x0 x1 (0, ((r102l0 (1000 + 0 + x1.length) x0 0 x1 ([] : List (List Int))).2)))
 (cond (Nat.beq ((r102l0 (1000 + 0 + x1.length) x0 0 x1 ([] : List (List Int))).1) 1)
  (a102 x0 x1 (0, ([] : List (List Int))))
  none))
set_option maxRecDepth 100000 in
set_option maxHeartbeats 4000000 in
theorem e102 (x0 : Int) (x1 : List (List Int)) : evFn Try.prog ext T13 L102_1 200 Try.f102 [wsl 0, .int .i64 x0] ⟨[⟨true, (some (.tab sc0 x1))⟩], 1, []⟩ = firstT [((Nat.beq ((r102 x0 x1).1) 0), wsl 1, ⟨[⟨true, (some (.tab sc0 x1))⟩, ⟨true, (some (.tab [.int .i64] ((r102 x0 x1).2)))⟩], 1, []⟩)] :=
 (show evFn Try.prog ext T13 L102_1 200 Try.f102 [wsl 0, .int .i64 x0] ⟨[⟨true, (some (.tab sc0 x1))⟩], 1, []⟩ = w102 x0 x1 from by kernel_rfl).trans
 (show w102 x0 x1 = a102 x0 x1 (r102 x0 x1) from by unfold w102 r102; exact (cond_app (a102 x0 x1) _ rfl (cond_app (a102 x0 x1) _ rfl rfl)))
noncomputable def s102 (args : List Value) (s : St) : List (Bool × Value × St) :=
 match args, s.h with
 | [.iface f0 .nilIface, .int .i64 x0], [⟨true, some (.tab [.fl .f32, .fl .f32, .fl .f32, .fl .f32, .int .i64] x1)⟩] => if f0 = 0 then [((Nat.beq ((r102 x0 x1).1) 0), wsl 1, ⟨[⟨true, (some (.tab sc0 x1))⟩, ⟨true, (some (.tab [.int .i64] ((r102 x0 x1).2)))⟩], 1, []⟩)] else T13 102 args s
 | _, _ => T13 102 args s
noncomputable def T14 : CallF := addF T13 102 s102
set_option maxRecDepth 100000 in
set_option maxHeartbeats 4000000 in
theorem ok14 : CfOk Try.prog T14 := by
  refine cfOk_add ok13 fun args s r s' h1 h2 h3 => ?_
  unfold s102 at h3; split at h3
  · rename_i h; split at h3
    · rename_i hc; obtain ⟨rfl⟩ := hc; exact callOk ok13 Try.func102 h1 h2 h lok102_1.body (e102 _ _) rfl h3
    · exact ok13 _ _ _ _ _ h1 h2 h3
  · exact ok13 _ _ _ _ _ h1 h2 h3

/-- spec.l03Dense -/
noncomputable def r120 (x0 : Nat) : Nat :=
 ((fdiv .f32 1135640576 (fadd .f32 x0 1133019136)))
noncomputable def a120 (x0 : Nat) (p : Nat) : Res := firstT [(true, .float .f32 p, st0)]
noncomputable def w120 (x0 : Nat) : Res :=
 (a120 x0 ((fdiv .f32 1135640576 (fadd .f32 x0 1133019136))))
set_option maxRecDepth 100000 in
set_option maxHeartbeats 4000000 in
theorem e120 (x0 : Nat) : evFn Try.prog ext T14 noL 200 Try.f120 [.float .f32 x0] st0 = firstT [(true, .float .f32 (r120 x0), st0)] :=
 (show evFn Try.prog ext T14 noL 200 Try.f120 [.float .f32 x0] st0 = w120 x0 from by kernel_rfl).trans
 (show w120 x0 = a120 x0 (r120 x0) from by unfold w120 r120; exact rfl)
noncomputable def s120 (args : List Value) (s : St) : List (Bool × Value × St) :=
 match args, s.h with
 | [.float .f32 x0], [] => [(true, .float .f32 (r120 x0), st0)]
 | _, _ => T14 120 args s
noncomputable def T15 : CallF := addF T14 120 s120
set_option maxRecDepth 100000 in
set_option maxHeartbeats 4000000 in
theorem ok15 : CfOk Try.prog T15 := by
  refine cfOk_add ok14 fun args s r s' h1 h2 h3 => ?_
  unfold s120 at h3; split at h3
  · rename_i h; exact callOk ok14 Try.func120 h1 h2 h (lfOkF_no _ _).body (e120 _) rfl h3
  · exact ok14 _ _ _ _ _ h1 h2 h3

/-- spec.l03Draft -/
noncomputable def r114 (x0 x1 : Nat) (x2 : List (List Int)) : Nat × Nat :=
 cond (Nat.blt x0 x2.length)
  (0, (fmul .f32 (fmul .f32 1092354048 (Int.toNat ((x2.getD x0 []).getD 0 0))) (fsub .f32 (r120 x1) (r120 (Int.toNat ((x2.getD x0 []).getD 2 0))))))
  (1, 0)
noncomputable def a114 (x0 x1 : Nat) (x2 : List (List Int)) (p : Nat × Nat) : Res := firstT [((Nat.beq (p.1) 0), .float .f32 (p.2), ⟨[⟨true, (some (.tab sc0 x2))⟩], 1, []⟩)]
noncomputable def w114 (x0 x1 : Nat) (x2 : List (List Int)) : Res :=
 (cond (Nat.blt x0 x2.length)
 (cond (Nat.blt x0 x2.length)
  (a114 x0 x1 x2 (0, (fmul .f32 (fmul .f32 1092354048 (Int.toNat ((x2.getD x0 []).getD 0 0))) (fsub .f32 (r120 x1) (r120 (Int.toNat ((x2.getD x0 []).getD 2 0)))))))
  none)
 none)
set_option maxRecDepth 100000 in
set_option maxHeartbeats 4000000 in
theorem e114 (x0 x1 : Nat) (x2 : List (List Int)) : evFn Try.prog ext T15 noL 200 Try.f114 [.pointer (some ⟨0, x0, some 0⟩), .float .f32 x1] ⟨[⟨true, (some (.tab sc0 x2))⟩], 1, []⟩ = firstT [((Nat.beq ((r114 x0 x1 x2).1) 0), .float .f32 ((r114 x0 x1 x2).2), ⟨[⟨true, (some (.tab sc0 x2))⟩], 1, []⟩)] :=
 (show evFn Try.prog ext T15 noL 200 Try.f114 [.pointer (some ⟨0, x0, some 0⟩), .float .f32 x1] ⟨[⟨true, (some (.tab sc0 x2))⟩], 1, []⟩ = w114 x0 x1 x2 from by kernel_rfl).trans
 (show w114 x0 x1 x2 = a114 x0 x1 x2 (r114 x0 x1 x2) from by unfold w114 r114; exact (cond_both (a114 x0 x1 x2) _ (fun h0 => (cond_t h0 rfl)) (fun h0 => rfl)))
noncomputable def s114 (args : List Value) (s : St) : List (Bool × Value × St) :=
 match args, s.h with
 | [.pointer (some ⟨f0, x0, some f1⟩), .float .f32 x1], [⟨true, some (.tab [.fl .f32, .fl .f32, .fl .f32, .fl .f32, .int .i64] x2)⟩] => if f0 = 0 ∧ f1 = 0 then [((Nat.beq ((r114 x0 x1 x2).1) 0), .float .f32 ((r114 x0 x1 x2).2), ⟨[⟨true, (some (.tab sc0 x2))⟩], 1, []⟩)] else T15 114 args s
 | _, _ => T15 114 args s
noncomputable def T16 : CallF := addF T15 114 s114
set_option maxRecDepth 100000 in
set_option maxHeartbeats 4000000 in
theorem ok16 : CfOk Try.prog T16 := by
  refine cfOk_add ok15 fun args s r s' h1 h2 h3 => ?_
  unfold s114 at h3; split at h3
  · rename_i h; split at h3
    · rename_i hc; obtain ⟨rfl, rfl⟩ := hc; exact callOk ok15 Try.func114 h1 h2 h (lfOkF_no _ _).body (e114 _ _ _) rfl h3
    · exact ok15 _ _ _ _ _ h1 h2 h3
  · exact ok15 _ _ _ _ _ h1 h2 h3

/-- spec.l03Resist -/
noncomputable def r115 (x0 : Nat) (x1 : List (List Int)) : Nat × Nat :=
 cond (Nat.blt x0 x1.length)
  (0, (fdiv .f32 (fadd .f32 1065353216 (fmul .f32 1048576000 (Int.toNat ((x1.getD x0 []).getD 0 0)))) (fmul .f32 (fmul .f32 (Int.toNat ((x1.getD x0 []).getD 1 0)) (Int.toNat ((x1.getD x0 []).getD 3 0))) (fmul .f32 (Int.toNat ((x1.getD x0 []).getD 1 0)) (Int.toNat ((x1.getD x0 []).getD 3 0))))))
  (1, 0)
noncomputable def a115 (x0 : Nat) (x1 : List (List Int)) (p : Nat × Nat) : Res := firstT [((Nat.beq (p.1) 0), .float .f32 (p.2), ⟨[⟨true, (some (.tab sc0 x1))⟩], 1, []⟩)]
noncomputable def w115 (x0 : Nat) (x1 : List (List Int)) : Res :=
 (cond (Nat.blt x0 x1.length)
 (cond (Nat.blt x0 x1.length)
  (cond (Nat.blt x0 x1.length)
   (a115 x0 x1 (0, (fdiv .f32 (fadd .f32 1065353216 (fmul .f32 1048576000 (Int.toNat ((x1.getD x0 []).getD 0 0)))) (fmul .f32 (fmul .f32 (Int.toNat ((x1.getD x0 []).getD 1 0)) (Int.toNat ((x1.getD x0 []).getD 3 0))) (fmul .f32 (Int.toNat ((x1.getD x0 []).getD 1 0)) (Int.toNat ((x1.getD x0 []).getD 3 0)))))))
   none)
  none)
 none)
set_option maxRecDepth 100000 in
set_option maxHeartbeats 4000000 in
theorem e115 (x0 : Nat) (x1 : List (List Int)) : evFn Try.prog ext T16 noL 200 Try.f115 [.pointer (some ⟨0, x0, some 0⟩)] ⟨[⟨true, (some (.tab sc0 x1))⟩], 1, []⟩ = firstT [((Nat.beq ((r115 x0 x1).1) 0), .float .f32 ((r115 x0 x1).2), ⟨[⟨true, (some (.tab sc0 x1))⟩], 1, []⟩)] :=
 (show evFn Try.prog ext T16 noL 200 Try.f115 [.pointer (some ⟨0, x0, some 0⟩)] ⟨[⟨true, (some (.tab sc0 x1))⟩], 1, []⟩ = w115 x0 x1 from by kernel_rfl).trans
 (show w115 x0 x1 = a115 x0 x1 (r115 x0 x1) from by unfold w115 r115; exact (cond_both (a115 x0 x1) _ (fun h0 => (cond_t h0 (cond_t h0 rfl))) (fun h0 => rfl)))
noncomputable def s115 (args : List Value) (s : St) : List (Bool × Value × St) :=
 match args, s.h with
 | [.pointer (some ⟨f0, x0, some f1⟩)], [⟨true, some (.tab [.fl .f32, .fl .f32, .fl .f32, .fl .f32, .int .i64] x1)⟩] => if f0 = 0 ∧ f1 = 0 then [((Nat.beq ((r115 x0 x1).1) 0), .float .f32 ((r115 x0 x1).2), ⟨[⟨true, (some (.tab sc0 x1))⟩], 1, []⟩)] else T16 115 args s
 | _, _ => T16 115 args s
noncomputable def T17 : CallF := addF T16 115 s115
set_option maxRecDepth 100000 in
set_option maxHeartbeats 4000000 in
theorem ok17 : CfOk Try.prog T17 := by
  refine cfOk_add ok16 fun args s r s' h1 h2 h3 => ?_
  unfold s115 at h3; split at h3
  · rename_i h; split at h3
    · rename_i hc; obtain ⟨rfl, rfl⟩ := hc; exact callOk ok16 Try.func115 h1 h2 h (lfOkF_no _ _).body (e115 _ _) rfl h3
    · exact ok16 _ _ _ _ _ h1 h2 h3
  · exact ok16 _ _ _ _ _ h1 h2 h3

/-- math.Sqrt -/
noncomputable def r116 (x0 : Nat) : Nat :=
 ((fsqrt .f64 x0))
noncomputable def a116 (x0 : Nat) (p : Nat) : Res := firstT [(true, .float .f64 p, st0)]
noncomputable def w116 (x0 : Nat) : Res :=
 (a116 x0 ((fsqrt .f64 x0)))
set_option maxRecDepth 100000 in
set_option maxHeartbeats 4000000 in
theorem e116 (x0 : Nat) : evFn Try.prog ext T17 noL 200 Try.f116 [.float .f64 x0] st0 = firstT [(true, .float .f64 (r116 x0), st0)] :=
 (show evFn Try.prog ext T17 noL 200 Try.f116 [.float .f64 x0] st0 = w116 x0 from by kernel_rfl).trans
 (show w116 x0 = a116 x0 (r116 x0) from by unfold w116 r116; exact rfl)
noncomputable def s116 (args : List Value) (s : St) : List (Bool × Value × St) :=
 match args, s.h with
 | [.float .f64 x0], [] => [(true, .float .f64 (r116 x0), st0)]
 | _, _ => T17 116 args s
noncomputable def T18 : CallF := addF T17 116 s116
set_option maxRecDepth 100000 in
set_option maxHeartbeats 4000000 in
theorem ok18 : CfOk Try.prog T18 := by
  refine cfOk_add ok17 fun args s r s' h1 h2 h3 => ?_
  unfold s116 at h3; split at h3
  · rename_i h; exact callOk ok17 Try.func116 h1 h2 h (lfOkF_no _ _).body (e116 _) rfl h3
  · exact ok17 _ _ _ _ _ h1 h2 h3

/-- spec.l03Flow -/
noncomputable def r98 (x0 x1 x2 : Nat) (x3 : List (List Int)) : Nat × Nat :=
 cond (Nat.blt x0 x3.length)
  (cond (feq .f32 (Int.toNat ((x3.getD x0 []).getD 3 0)) 0)
   (0, 0)
   (cond (Nat.beq ((r114 x0 x1 x3).1) 0)
    (cond (Nat.beq ((r115 x0 x3).1) 0)
     (cond (flt .f32 (fdiv .f32 (fadd .f32 ((r114 x0 x1 x3).2) x2) ((r115 x0 x3).2)) 0)
      (cond (narrowOk (r116 (widen (fneg .f32 (fdiv .f32 (fadd .f32 ((r114 x0 x1 x3).2) x2) ((r115 x0 x3).2))))))
       (0, (fneg .f32 (narrow (r116 (widen (fneg .f32 (fdiv .f32 (fadd .f32 ((r114 x0 x1 x3).2) x2) ((r115 x0 x3).2))))))))
       (1, 0))
      (cond (narrowOk (r116 (widen (fdiv .f32 (fadd .f32 ((r114 x0 x1 x3).2) x2) ((r115 x0 x3).2)))))
       (0, (narrow (r116 (widen (fdiv .f32 (fadd .f32 ((r114 x0 x1 x3).2) x2) ((r115 x0 x3).2))))))
       (1, 0)))
     (1, 0))
    (1, 0)))
  (1, 0)
noncomputable def a98 (x0 x1 x2 : Nat) (x3 : List (List Int)) (p : Nat × Nat) : Res := firstT [((Nat.beq (p.1) 0), .float .f32 (p.2), ⟨[⟨true, (some (.tab sc0 x3))⟩], 1, []⟩)]
noncomputable def w98 (x0 x1 x2 : Nat) (x3 : List (List Int)) : Res :=
 (cond (Nat.blt x0 x3.length)
 (cond (feq .f32 (Int.toNat ((x3.getD x0 []).getD 3 0)) 0)
  (a98 x0 x1 x2 x3 (0, 0))
  (cond (Nat.beq ((r114 x0 x1 x3).1) 0)
   (cond (Nat.beq ((r115 x0 x3).1) 0)
    (cond (flt .f32 (fdiv .f32 (fadd .f32 ((r114 x0 x1 x3).2) x2) ((r115 x0 x3).2)) 0)
     (cond (narrowOk (r116 (widen (fneg .f32 (fdiv .f32 (fadd .f32 ((r114 x0 x1 x3).2) x2) ((r115 x0 x3).2))))))
      (a98 x0 x1 x2 x3 (0, (fneg .f32 (narrow (r116 (widen (fneg .f32 (fdiv .f32 (fadd .f32 ((r114 x0 x1 x3).2) x2) ((r115 x0 x3).2)))))))))
      none)
     (cond (narrowOk (r116 (widen (fdiv .f32 (fadd .f32 ((r114 x0 x1 x3).2) x2) ((r115 x0 x3).2)))))
      (a98 x0 x1 x2 x3 (0, (narrow (r116 (widen (fdiv .f32 (fadd .f32 ((r114 x0 x1 x3).2) x2) ((r115 x0 x3).2)))))))
      none))
    none)
   none))
 none)
set_option maxRecDepth 100000 in
set_option maxHeartbeats 4000000 in
theorem e98 (x0 x1 x2 : Nat) (x3 : List (List Int)) : evFn Try.prog ext T18 noL 200 Try.f98 [.pointer (some ⟨0, x0, some 0⟩), .float .f32 x1, .float .f32 x2] ⟨[⟨true, (some (.tab sc0 x3))⟩], 1, []⟩ = firstT [((Nat.beq ((r98 x0 x1 x2 x3).1) 0), .float .f32 ((r98 x0 x1 x2 x3).2), ⟨[⟨true, (some (.tab sc0 x3))⟩], 1, []⟩)] :=
 (show evFn Try.prog ext T18 noL 200 Try.f98 [.pointer (some ⟨0, x0, some 0⟩), .float .f32 x1, .float .f32 x2] ⟨[⟨true, (some (.tab sc0 x3))⟩], 1, []⟩ = w98 x0 x1 x2 x3 from by kernel_rfl).trans
 (show w98 x0 x1 x2 x3 = a98 x0 x1 x2 x3 (r98 x0 x1 x2 x3) from by unfold w98 r98; exact (cond_app (a98 x0 x1 x2 x3) _ (cond_app (a98 x0 x1 x2 x3) _ rfl (cond_app (a98 x0 x1 x2 x3) _ (cond_app (a98 x0 x1 x2 x3) _ (cond_app (a98 x0 x1 x2 x3) _ (cond_app (a98 x0 x1 x2 x3) _ rfl rfl) (cond_app (a98 x0 x1 x2 x3) _ rfl rfl)) rfl) rfl)) rfl))
noncomputable def s98 (args : List Value) (s : St) : List (Bool × Value × St) :=
 match args, s.h with
 | [.pointer (some ⟨f0, x0, some f1⟩), .float .f32 x1, .float .f32 x2], [⟨true, some (.tab [.fl .f32, .fl .f32, .fl .f32, .fl .f32, .int .i64] x3)⟩] => if f0 = 0 ∧ f1 = 0 then [((Nat.beq ((r98 x0 x1 x2 x3).1) 0), .float .f32 ((r98 x0 x1 x2 x3).2), ⟨[⟨true, (some (.tab sc0 x3))⟩], 1, []⟩)] else T18 98 args s
 | _, _ => T18 98 args s
noncomputable def T19 : CallF := addF T18 98 s98
set_option maxRecDepth 100000 in
set_option maxHeartbeats 4000000 in
theorem ok19 : CfOk Try.prog T19 := by
  refine cfOk_add ok18 fun args s r s' h1 h2 h3 => ?_
  unfold s98 at h3; split at h3
  · rename_i h; split at h3
    · rename_i hc; obtain ⟨rfl, rfl⟩ := hc; exact callOk ok18 Try.func98 h1 h2 h (lfOkF_no _ _).body (e98 _ _ _ _) rfl h3
    · exact ok18 _ _ _ _ _ h1 h2 h3
  · exact ok18 _ _ _ _ _ h1 h2 h3

/-- spec.l03At, loop 1: one round -/
noncomputable def b64l1 (ih : Int → Nat → Nat → Nat → Nat → Int → Nat → Nat → Int → List (List Int) → List (List Int) → (Nat × Nat)) (x0 : Int) (x1 x2 x3 x4 : Nat) (x5 : Int) (x6 x7 : Nat) (x8 : Int) (x9 x10 : List (List Int)) : Nat × Nat :=
 cond (decide ((x8 : Int) < ((x10.length : Nat) : Int)))
  (cond ((decide ((0 : Int) ≤ x8)) && (Nat.blt (Int.toNat x8) x10.length))
   (cond ((decide ((0 : Int) ≤ ((x10.getD (Int.toNat x8) []).getD 0 0))) && (Nat.blt (Int.toNat ((x10.getD (Int.toNat x8) []).getD 0 0)) x9.length))
    (cond (Nat.beq ((r98 (Int.toNat ((x10.getD (Int.toNat x8) []).getD 0 0)) x1 (fsub .f32 0 x6) x9).1) 0)
     (ih x0 x1 x2 x3 x4 x5 x6 (fadd .f32 x7 ((r98 (Int.toNat ((x10.getD (Int.toNat x8) []).getD 0 0)) x1 (fsub .f32 0 x6) x9).2)) (IntKind.i64.wrap (x8 + 1)) x9 x10)
     (1, 0))
    (1, 0))
   (1, 0))
  (0, x7)
noncomputable def r64l1 : Nat → Int → Nat → Nat → Nat → Nat → Int → Nat → Nat → Int → List (List Int) → List (List Int) → (Nat × Nat)
 | 0 => fun _ _ _ _ _ _ _ _ _ _ _ => (1, 0)
 | m + 1 => b64l1 (r64l1 m)
noncomputable def a64l1 (x0 : Int) (x1 x2 x3 x4 : Nat) (x5 : Int) (x6 x7 : Nat) (x8 : Int) (x9 x10 : List (List Int)) (p : Nat × Nat) : Option (Fin' × List Value × St) := firstT ([((Nat.beq (p.1) 0), .exit 2, [wsl 0, .int .i64 x0, .float .f32 x1, .float .f32 x2, wsl 1, .float .f32 x3, .float .f32 x4, .int .i64 x5, .float .f32 x6, .float .f32 (p.2)], ⟨[⟨true, (some (.tab sc0 x9))⟩, ⟨true, (some (.tab [.int .i64] x10))⟩], 2, []⟩)].map fun (b, x) => (b, (x.1, frameOf 70 [0, 1, 2, 3, 9, 10, 11, 12, 13, 14] x.2.1, x.2.2)))
noncomputable def u64l1 (x0 : Int) (x1 x2 x3 x4 : Nat) (x5 : Int) (x6 x7 : Nat) (x8 : Int) (x9 x10 : List (List Int)) (p : Nat × Nat) : Option (Fin' × List Value × St) := alts ([((Nat.beq (p.1) 0), .exit 2, [wsl 0, .int .i64 x0, .float .f32 x1, .float .f32 x2, wsl 1, .float .f32 x3, .float .f32 x4, .int .i64 x5, .float .f32 x6, .float .f32 (p.2)], ⟨[⟨true, (some (.tab sc0 x9))⟩, ⟨true, (some (.tab [.int .i64] x10))⟩], 2, []⟩)].map fun (b, x) => (b, (x.1, frameOf 70 [0, 1, 2, 3, 9, 10, 11, 12, 13, 14] x.2.1, x.2.2))) some
theorem v64l1 (x0 : Int) (x1 x2 x3 x4 : Nat) (x5 : Int) (x6 x7 : Nat) (x8 : Int) (x9 x10 : List (List Int)) (p : Nat × Nat) : u64l1 x0 x1 x2 x3 x4 x5 x6 x7 x8 x9 x10 p = a64l1 x0 x1 x2 x3 x4 x5 x6 x7 x8 x9 x10 p := alts_first _
noncomputable def q64l1 (m : Nat) : SumK := fun vals s =>
 match vals, s.h with
 | [.iface f0 .nilIface, .int .i64 x0, .float .f32 x1, .float .f32 x2, .iface f1 .nilIface, .float .f32 x3, .float .f32 x4, .int .i64 x5, .float .f32 x6, .float .f32 x7, .int .i64 x8], [⟨true, some (.tab [.fl .f32, .fl .f32, .fl .f32, .fl .f32, .int .i64] x9)⟩, ⟨true, some (.tab [.int .i64] x10)⟩] => if f0 = 0 ∧ f1 = 1 then [((Nat.beq ((r64l1 m x0 x1 x2 x3 x4 x5 x6 x7 x8 x9 x10).1) 0), .exit 2, [wsl 0, .int .i64 x0, .float .f32 x1, .float .f32 x2, wsl 1, .float .f32 x3, .float .f32 x4, .int .i64 x5, .float .f32 x6, .float .f32 ((r64l1 m x0 x1 x2 x3 x4 x5 x6 x7 x8 x9 x10).2)], ⟨[⟨true, (some (.tab sc0 x9))⟩, ⟨true, (some (.tab [.int .i64] x10))⟩], 2, []⟩)] else noQ vals s
 | _, _ => noQ vals s
noncomputable def w64l1 (ih : Int → Nat → Nat → Nat → Nat → Int → Nat → Nat → Int → List (List Int) → List (List Int) → (Nat × Nat)) (x0 : Int) (x1 x2 x3 x4 : Nat) (x5 : Int) (x6 x7 : Nat) (x8 : Int) (x9 x10 : List (List Int)) : Option (Fin' × List Value × St) :=
 (cond (decide ((x8 : Int) < ((x10.length : Nat) : Int)))
 (cond ((decide ((0 : Int) ≤ x8)) && (Nat.blt (Int.toNat x8) x10.length))
  (cond (Nat.blt (Int.toNat x8) x10.length)
   (cond ((decide ((0 : Int) ≤ ((x10.getD (Int.toNat x8) []).getD 0 0))) && (Nat.blt (Int.toNat ((x10.getD (Int.toNat x8) []).getD 0 0)) x9.length))
    (cond (Nat.beq ((r98 (Int.toNat ((x10.getD (Int.toNat x8) []).getD 0 0)) x1 (fsub .f32 0 x6) x9).1) 0)
     (u64l1 x0 x1 x2 x3 x4 x5 x6 x7 x8 x9 x10 (ih x0 x1 x2 x3 x4 x5 x6 (fadd .f32 x7 ((r98 (Int.toNat ((x10.getD (Int.toNat x8) []).getD 0 0)) x1 (fsub .f32 0 x6) x9).2)) (IntKind.i64.wrap (x8 + 1)) x9 x10))
     none)
    none)
   none)
  none)
 (a64l1 x0 x1 x2 x3 x4 x5 x6 x7 x8 x9 x10 (0, x7)))
set_option maxRecDepth 100000 in
set_option maxHeartbeats 4000000 in
theorem e64l1 (m : Nat) (x0 : Int) (x1 x2 x3 x4 : Nat) (x5 : Int) (x6 x7 : Nat) (x8 : Int) (x9 x10 : List (List Int)) : evC Try.prog ext T19 noL 200 (loopN Try.f64 1) (loopTail ([0, 1, 2, 3, 9, 10, 11, 12, 13, 14, 15], []) [0, 1, 2, 3, 9, 10, 11, 12, 13, 14] [] (sumK 70 [0, 1, 2, 3, 9, 10, 11, 12, 13, 14, 15] [0, 1, 2, 3, 9, 10, 11, 12, 13, 14] (q64l1 m))) (frameOf 70 [0, 1, 2, 3, 9, 10, 11, 12, 13, 14, 15] [wsl 0, .int .i64 x0, .float .f32 x1, .float .f32 x2, wsl 1, .float .f32 x3, .float .f32 x4, .int .i64 x5, .float .f32 x6, .float .f32 x7, .int .i64 x8]) ⟨[⟨true, (some (.tab sc0 x9))⟩, ⟨true, (some (.tab [.int .i64] x10))⟩], 2, []⟩ = firstT ([((Nat.beq ((r64l1 (m + 1) x0 x1 x2 x3 x4 x5 x6 x7 x8 x9 x10).1) 0), .exit 2, [wsl 0, .int .i64 x0, .float .f32 x1, .float .f32 x2, wsl 1, .float .f32 x3, .float .f32 x4, .int .i64 x5, .float .f32 x6, .float .f32 ((r64l1 (m + 1) x0 x1 x2 x3 x4 x5 x6 x7 x8 x9 x10).2)], ⟨[⟨true, (some (.tab sc0 x9))⟩, ⟨true, (some (.tab [.int .i64] x10))⟩], 2, []⟩)].map fun (b, x) => (b, (x.1, frameOf 70 [0, 1, 2, 3, 9, 10, 11, 12, 13, 14] x.2.1, x.2.2))) :=
 (show evC Try.prog ext T19 noL 200 (loopN Try.f64 1) (loopTail ([0, 1, 2, 3, 9, 10, 11, 12, 13, 14, 15], []) [0, 1, 2, 3, 9, 10, 11, 12, 13, 14] [] (sumK 70 [0, 1, 2, 3, 9, 10, 11, 12, 13, 14, 15] [0, 1, 2, 3, 9, 10, 11, 12, 13, 14] (q64l1 m))) (frameOf 70 [0, 1, 2, 3, 9, 10, 11, 12, 13, 14, 15] [wsl 0, .int .i64 x0, .float .f32 x1, .float .f32 x2, wsl 1, .float .f32 x3, .float .f32 x4, .int .i64 x5, .float .f32 x6, .float .f32 x7, .int .i64 x8]) ⟨[⟨true, (some (.tab sc0 x9))⟩, ⟨true, (some (.tab [.int .i64] x10))⟩], 2, []⟩ = w64l1 (r64l1 m) x0 x1 x2 x3 x4 x5 x6 x7 x8 x9 x10 from by kernel_rfl).trans
 (show w64l1 (r64l1 m) x0 x1 x2 x3 x4 x5 x6 x7 x8 x9 x10 = a64l1 x0 x1 x2 x3 x4 x5 x6 x7 x8 x9 x10 (r64l1 (m + 1) x0 x1 x2 x3 x4 x5 x6 x7 x8 x9 x10) from by unfold w64l1; show _ = a64l1 x0 x1 x2 x3 x4 x5 x6 x7 x8 x9 x10 (b64l1 (r64l1 m) x0 x1 x2 x3 x4 x5 x6 x7 x8 x9 x10); unfold b64l1; exact (cond_both (a64l1 x0 x1 x2 x3 x4 x5 x6 x7 x8 x9 x10) _ (fun h0 => (cond_both (a64l1 x0 x1 x2 x3 x4 x5 x6 x7 x8 x9 x10) _ (fun h1 => (cond_t (ev_and2 h1) (cond_app (a64l1 x0 x1 x2 x3 x4 x5 x6 x7 x8 x9 x10) _ (cond_app (a64l1 x0 x1 x2 x3 x4 x5 x6 x7 x8 x9 x10) _ (v64l1 x0 x1 x2 x3 x4 x5 x6 x7 x8 x9 x10 ((r64l1 m) x0 x1 x2 x3 x4 x5 x6 (fadd .f32 x7 ((r98 (Int.toNat ((x10.getD (Int.toNat x8) []).getD 0 0)) x1 (fsub .f32 0 x6) x9).2)) (IntKind.i64.wrap (x8 + 1)) x9 x10)) rfl) rfl))) (fun h1 => rfl))) (fun h0 => rfl)))
set_option maxRecDepth 100000 in
set_option maxHeartbeats 4000000 in
theorem qm64l1 : ∀ m, SumKOk Try.prog (loopN Try.f64 1) 70 [0, 1, 2, 3, 9, 10, 11, 12, 13, 14, 15] [0, 1, 2, 3, 9, 10, 11, 12, 13, 14] (q64l1 m) := by
  intro m
  induction m with
  | zero =>
    intro vals s x h1 h2 h3
    unfold q64l1 at h3; split at h3
    · rename_i h; split at h3
      · rename_i hc; obtain ⟨rfl, rfl⟩ := hc; exact absurd h3 (by simp [r64l1, firstT, Nat.beq])
      · exact noQ_ok _ _ _ h1 h2 h3
    · exact noQ_ok _ _ _ h1 h2 h3
  | succ m ih =>
    intro vals s x h1 h2 h3
    unfold q64l1 at h3; split at h3
    · rename_i h; split at h3
      · rename_i hc; obtain ⟨rfl, rfl⟩ := hc; exact sum_step ok19 extOk mixed ((lfOkF_no _ _).inner (by kernel_rfl)) ih h1 h2 h (e64l1 m _ _ _ _ _ _ _ _ _ _ _) rfl h3
      · exact noQ_ok _ _ _ h1 h2 h3
    · exact noQ_ok _ _ _ h1 h2 h3
noncomputable def Q64l1 : SumK := fun vals s => q64l1 (fuelOf vals s.h) vals s
theorem qok64l1 : SumKOk Try.prog (loopN Try.f64 1) 70 [0, 1, 2, 3, 9, 10, 11, 12, 13, 14, 15] [0, 1, 2, 3, 9, 10, 11, 12, 13, 14] Q64l1 := fuel_ok qm64l1 fuelOf
noncomputable def L64_1 : LoopT := addL noL 13 ([0, 1, 2, 3, 9, 10, 11, 12, 13, 14, 15], []) (sumK 70 [0, 1, 2, 3, 9, 10, 11, 12, 13, 14, 15] [0, 1, 2, 3, 9, 10, 11, 12, 13, 14] Q64l1)
theorem lok64_1 : LfOkF Try.prog L64_1 Try.f64 := lfOkF_add (lfOkF_no _ _) qok64l1 (by kernel_rfl) (by kernel_rfl) (by kernel_rfl)

/-- spec.l03At, loop 0: one round -/
noncomputable def b64l0 (ih : Int → Nat → Nat → Nat → Nat → Int → List (List Int) → List (List Int) → (Nat × Nat)) (x0 : Int) (x1 x2 x3 x4 : Nat) (x5 : Int) (x6 x7 : List (List Int)) : Nat × Nat :=
 let c160 := (r64l1 (1000 + x7.length + x6.length) x0 x1 x2 x3 x4 x5 (fmul .f32 1056964608 (fadd .f32 x3 x4)) ((r98 (Int.toNat ((x7.getD 0 []).getD 0 0)) x1 (fsub .f32 0 (fmul .f32 1056964608 (fadd .f32 x3 x4))) x6).2) 1 x6 x7)
 cond (decide ((x5 : Int) < 40))
  (cond (Nat.blt 0 x7.length)
   (cond ((decide ((0 : Int) ≤ ((x7.getD 0 []).getD 0 0))) && (Nat.blt (Int.toNat ((x7.getD 0 []).getD 0 0)) x6.length))
    (cond (Nat.beq ((r98 (Int.toNat ((x7.getD 0 []).getD 0 0)) x1 (fsub .f32 0 (fmul .f32 1056964608 (fadd .f32 x3 x4))) x6).1) 0)
     (cond (Nat.beq (c160.1) 0)
      (cond ((decide ((0 : Int) ≤ x0)) && (Nat.blt (Int.toNat x0) x6.length))
       (cond (Nat.beq ((r98 (Int.toNat x0) x1 (fsub .f32 (fmul .f32 1056964608 (fadd .f32 x3 x4)) x2) x6).1) 0)
        (cond (fgt .f32 (c160.2) ((r98 (Int.toNat x0) x1 (fsub .f32 (fmul .f32 1056964608 (fadd .f32 x3 x4)) x2) x6).2))
         (ih x0 x1 x2 (fmul .f32 1056964608 (fadd .f32 x3 x4)) x4 (IntKind.i64.wrap (x5 + 1)) x6 x7)
         (ih x0 x1 x2 x3 (fmul .f32 1056964608 (fadd .f32 x3 x4)) (IntKind.i64.wrap (x5 + 1)) x6 x7))
        (1, 0))
       (1, 0))
      (1, 0))
     (1, 0))
    (1, 0))
   (1, 0))
  (0, x4)
noncomputable def r64l0 : Nat → Int → Nat → Nat → Nat → Nat → Int → List (List Int) → List (List Int) → (Nat × Nat)
 | 0 => fun _ _ _ _ _ _ _ _ => (1, 0)
 | m + 1 => b64l0 (r64l0 m)
noncomputable def a64l0 (x0 : Int) (x1 x2 x3 x4 : Nat) (x5 : Int) (x6 x7 : List (List Int)) (p : Nat × Nat) : Option (Fin' × List Value × St) := firstT ([((Nat.beq (p.1) 0), .exit 0, [.float .f32 (p.2)], ⟨[⟨true, (some (.tab sc0 x6))⟩, ⟨true, (some (.tab [.int .i64] x7))⟩], 2, []⟩)].map fun (b, x) => (b, (x.1, frameOf 70 [11] x.2.1, x.2.2)))
noncomputable def u64l0 (x0 : Int) (x1 x2 x3 x4 : Nat) (x5 : Int) (x6 x7 : List (List Int)) (p : Nat × Nat) : Option (Fin' × List Value × St) := alts ([((Nat.beq (p.1) 0), .exit 0, [.float .f32 (p.2)], ⟨[⟨true, (some (.tab sc0 x6))⟩, ⟨true, (some (.tab [.int .i64] x7))⟩], 2, []⟩)].map fun (b, x) => (b, (x.1, frameOf 70 [11] x.2.1, x.2.2))) some
theorem v64l0 (x0 : Int) (x1 x2 x3 x4 : Nat) (x5 : Int) (x6 x7 : List (List Int)) (p : Nat × Nat) : u64l0 x0 x1 x2 x3 x4 x5 x6 x7 p = a64l0 x0 x1 x2 x3 x4 x5 x6 x7 p := alts_first _
noncomputable def q64l0 (m : Nat) : SumK := fun vals s =>
 match vals, s.h with
 | [.iface f0 .nilIface, .int .i64 x0, .float .f32 x1, .float .f32 x2, .iface f1 .nilIface, .float .f32 x3, .float .f32 x4, .int .i64 x5], [⟨true, some (.tab [.fl .f32, .fl .f32, .fl .f32, .fl .f32, .int .i64] x6)⟩, ⟨true, some (.tab [.int .i64] x7)⟩] => if f0 = 0 ∧ f1 = 1 then [((Nat.beq ((r64l0 m x0 x1 x2 x3 x4 x5 x6 x7).1) 0), .exit 0, [.float .f32 ((r64l0 m x0 x1 x2 x3 x4 x5 x6 x7).2)], ⟨[⟨true, (some (.tab sc0 x6))⟩, ⟨true, (some (.tab [.int .i64] x7))⟩], 2, []⟩)] else noQ vals s
 | _, _ => noQ vals s
noncomputable def w64l0 (ih : Int → Nat → Nat → Nat → Nat → Int → List (List Int) → List (List Int) → (Nat × Nat)) (x0 : Int) (x1 x2 x3 x4 : Nat) (x5 : Int) (x6 x7 : List (List Int)) : Option (Fin' × List Value × St) :=
 let c160 := (r64l1 (1000 + x7.length + x6.length) x0 x1 x2 x3 x4 x5 (fmul .f32 1056964608 (fadd .f32 x3 x4)) ((r98 (Int.toNat ((x7.getD 0 []).getD 0 0)) x1 (fsub .f32 0 (fmul .f32 1056964608 (fadd .f32 x3 x4))) x6).2) 1 x6 x7)
 (cond (decide ((x5 : Int) < 40))
 (cond (Nat.blt 0 x7.length)
  (cond (Nat.blt 0 x7.length)
   (cond ((decide ((0 : Int) ≤ ((x7.getD 0 []).getD 0 0))) && (Nat.blt (Int.toNat ((x7.getD 0 []).getD 0 0)) x6.length))
    (cond (Nat.beq ((r98 (Int.toNat ((x7.getD 0 []).getD 0 0)) x1 (fsub .f32 0 (fmul .f32 1056964608 (fadd .f32 x3 x4))) x6).1) 0)
     (cond (Nat.beq (c160.1) 0)
      (cond ((decide ((0 : Int) ≤ x0)) && (Nat.blt (Int.toNat x0) x6.length))
       (cond (Nat.beq ((r98 (Int.toNat x0) x1 (fsub .f32 (fmul .f32 1056964608 (fadd .f32 x3 x4)) x2) x6).1) 0)
        (cond (fgt .f32 (c160.2) ((r98 (Int.toNat x0) x1 (fsub .f32 (fmul .f32 1056964608 (fadd .f32 x3 x4)) x2) x6).2))
         (u64l0 x0 x1 x2 x3 x4 x5 x6 x7 (ih x0 x1 x2 (fmul .f32 1056964608 (fadd .f32 x3 x4)) x4 (IntKind.i64.wrap (x5 + 1)) x6 x7))
         (u64l0 x0 x1 x2 x3 x4 x5 x6 x7 (ih x0 x1 x2 x3 (fmul .f32 1056964608 (fadd .f32 x3 x4)) (IntKind.i64.wrap (x5 + 1)) x6 x7)))
        none)
       none)
      none)
     none)
    none)
   none)
  none)
 (a64l0 x0 x1 x2 x3 x4 x5 x6 x7 (0, x4)))
set_option maxRecDepth 100000 in
set_option maxHeartbeats 4000000 in
theorem e64l0 (m : Nat) (x0 : Int) (x1 x2 x3 x4 : Nat) (x5 : Int) (x6 x7 : List (List Int)) : evC Try.prog ext T19 L64_1 200 (loopN Try.f64 0) (loopTail ([0, 1, 2, 3, 9, 10, 11, 12], []) [11] [] (sumK 70 [0, 1, 2, 3, 9, 10, 11, 12] [11] (q64l0 m))) (frameOf 70 [0, 1, 2, 3, 9, 10, 11, 12] [wsl 0, .int .i64 x0, .float .f32 x1, .float .f32 x2, wsl 1, .float .f32 x3, .float .f32 x4, .int .i64 x5]) ⟨[⟨true, (some (.tab sc0 x6))⟩, ⟨true, (some (.tab [.int .i64] x7))⟩], 2, []⟩ = firstT ([((Nat.beq ((r64l0 (m + 1) x0 x1 x2 x3 x4 x5 x6 x7).1) 0), .exit 0, [.float .f32 ((r64l0 (m + 1) x0 x1 x2 x3 x4 x5 x6 x7).2)], ⟨[⟨true, (some (.tab sc0 x6))⟩, ⟨true, (some (.tab [.int .i64] x7))⟩], 2, []⟩)].map fun (b, x) => (b, (x.1, frameOf 70 [11] x.2.1, x.2.2))) :=
 (show evC Try.prog ext T19 L64_1 200 (loopN Try.f64 0) (loopTail ([0, 1, 2, 3, 9, 10, 11, 12], []) [11] [] (sumK 70 [0, 1, 2, 3, 9, 10, 11, 12] [11] (q64l0 m))) (frameOf 70 [0, 1, 2, 3, 9, 10, 11, 12] [wsl 0, .int .i64 x0, .float .f32 x1, .float .f32 x2, wsl 1, .float .f32 x3, .float .f32 x4, .int .i64 x5]) ⟨[⟨true, (some (.tab sc0 x6))⟩, ⟨true, (some (.tab [.int .i64] x7))⟩], 2, []⟩ = w64l0 (r64l0 m) x0 x1 x2 x3 x4 x5 x6 x7 from by kernel_rfl).trans
 (show w64l0 (r64l0 m) x0 x1 x2 x3 x4 x5 x6 x7 = a64l0 x0 x1 x2 x3 x4 x5 x6 x7 (r64l0 (m + 1) x0 x1 x2 x3 x4 x5 x6 x7) from by unfold w64l0; show _ = a64l0 x0 x1 x2 x3 x4 x5 x6 x7 (b64l0 (r64l0 m) x0 x1 x2 x3 x4 x5 x6 x7); unfold b64l0; exact (cond_both (a64l0 x0 x1 x2 x3 x4 x5 x6 x7) _ (fun h0 => (cond_both (a64l0 x0 x1 x2 x3 x4 x5 x6 x7) _ (fun h1 => (cond_t h1 (cond_app (a64l0 x0 x1 x2 x3 x4 x5 x6 x7) _ (cond_app (a64l0 x0 x1 x2 x3 x4 x5 x6 x7) _ (cond_app (a64l0 x0 x1 x2 x3 x4 x5 x6 x7) _ (cond_app (a64l0 x0 x1 x2 x3 x4 x5 x6 x7) _ (cond_app (a64l0 x0 x1 x2 x3 x4 x5 x6 x7) _ (cond_app (a64l0 x0 x1 x2 x3 x4 x5 x6 x7) _ (v64l0 x0 x1 x2 x3 x4 x5 x6 x7 ((r64l0 m) x0 x1 x2 (fmul .f32 1056964608 (fadd .f32 x3 x4)) x4 (IntKind.i64.wrap (x5 + 1)) x6 x7)) (v64l0 x0 x1 x2 x3 x4 x5 x6 x7 ((r64l0 m) x0 x1 x2 x3 (fmul .f32 1056964608 (fadd .f32 x3 x4)) (IntKind.i64.wrap (x5 + 1)) x6 x7))) rfl) rfl) rfl) rfl) rfl))) (fun h1 => rfl))) (fun h0 => rfl)))
set_option maxRecDepth 100000 in
set_option maxHeartbeats 4000000 in
theorem qm64l0 : ∀ m, SumKOk Try.prog (loopN Try.f64 0) 70 [0, 1, 2, 3, 9, 10, 11, 12] [11] (q64l0 m) := by
  intro m
  induction m with
  | zero =>
    intro vals s x h1 h2 h3
    unfold q64l0 at h3; split at h3
    · rename_i h; split at h3
      · rename_i hc; obtain ⟨rfl, rfl⟩ := hc; exact absurd h3 (by simp [r64l0, firstT, Nat.beq])
      · exact noQ_ok _ _ _ h1 h2 h3
    · exact noQ_ok _ _ _ h1 h2 h3
  | succ m ih =>
    intro vals s x h1 h2 h3
    unfold q64l0 at h3; split at h3
    · rename_i h; split at h3
      · rename_i hc; obtain ⟨rfl, rfl⟩ := hc; exact sum_step ok19 extOk mixed (lok64_1.inner (by kernel_rfl)) ih h1 h2 h (e64l0 m _ _ _ _ _ _ _ _) rfl h3
      · exact noQ_ok _ _ _ h1 h2 h3
    · exact noQ_ok _ _ _ h1 h2 h3
noncomputable def Q64l0 : SumK := fun vals s => q64l0 (fuelOf vals s.h) vals s
theorem qok64l0 : SumKOk Try.prog (loopN Try.f64 0) 70 [0, 1, 2, 3, 9, 10, 11, 12] [11] Q64l0 := fuel_ok qm64l0 fuelOf
noncomputable def L64_2 : LoopT := addL L64_1 8 ([0, 1, 2, 3, 9, 10, 11, 12], []) (sumK 70 [0, 1, 2, 3, 9, 10, 11, 12] [11] Q64l0)
theorem lok64_2 : LfOkF Try.prog L64_2 Try.f64 := lfOkF_add lok64_1 qok64l0 (by kernel_rfl) (by kernel_rfl) (by kernel_rfl)

/-- spec.l03At -/
noncomputable def r64 (x0 : Int) (x1 x2 : Nat) (x3 : List (List Int)) : Nat × Nat :=
 cond (Nat.beq ((r102 x0 x3).1) 0)
  (cond ((((((r102 x0 x3).2).length : Nat) : Int) : Int) == 0)
   (0, 0)
   (cond (Nat.beq ((r64l0 (1000 + ((r102 x0 x3).2).length + x3.length) x0 x1 x2 3296329728 1148846080 0 x3 ((r102 x0 x3).2)).1) 0)
    (0, ((r64l0 (1000 + ((r102 x0 x3).2).length + x3.length) x0 x1 x2 3296329728 1148846080 0 x3 ((r102 x0 x3).2)).2))
    (1, 0)))
  (1, 0)
noncomputable def a64 (x0 : Int) (x1 x2 : Nat) (x3 : List (List Int)) (p : Nat × Nat) : Res := firstT [((Nat.beq (p.1) 0), .float .f32 (p.2), ⟨[⟨true, (some (.tab sc0 x3))⟩], 1, []⟩)]
noncomputable def w64 (x0 : Int) (x1 x2 : Nat) (x3 : List (List Int)) : Res :=
 (cond (Nat.beq ((r102 x0 x3).1) 0)
 (cond ((((((r102 x0 x3).2).length : Nat) : Int) : Int) == 0)
  (a64 x0 x1 x2 x3 (0, 0))
  (cond (Nat.beq ((r64l0 (1000 + ((r102 x0 x3).2).length + x3.length) x0 x1 x2 3296329728 1148846080 0 x3 ((r102 x0 x3).2)).1) 0)
   (a64 x0 x1 x2 x3 (0, ((r64l0 (1000 + ((r102 x0 x3).2).length + x3.length) x0 x1 x2 3296329728 1148846080 0 x3 ((r102 x0 x3).2)).2)))
   none))
 none)
set_option maxRecDepth 100000 in
set_option maxHeartbeats 4000000 in
theorem e64 (x0 : Int) (x1 x2 : Nat) (x3 : List (List Int)) : evFn Try.prog ext T19 L64_2 200 Try.f64 [wsl 0, .int .i64 x0, .float .f32 x1, .float .f32 x2] ⟨[⟨true, (some (.tab sc0 x3))⟩], 1, []⟩ = firstT [((Nat.beq ((r64 x0 x1 x2 x3).1) 0), .float .f32 ((r64 x0 x1 x2 x3).2), ⟨[⟨true, (some (.tab sc0 x3))⟩], 1, []⟩)] :=
 (show evFn Try.prog ext T19 L64_2 200 Try.f64 [wsl 0, .int .i64 x0, .float .f32 x1, .float .f32 x2] ⟨[⟨true, (some (.tab sc0 x3))⟩], 1, []⟩ = w64 x0 x1 x2 x3 from by kernel_rfl).trans
 (show w64 x0 x1 x2 x3 = a64 x0 x1 x2 x3 (r64 x0 x1 x2 x3) from by unfold w64 r64; exact (cond_app (a64 x0 x1 x2 x3) _ (cond_app (a64 x0 x1 x2 x3) _ rfl (cond_app (a64 x0 x1 x2 x3) _ rfl rfl)) rfl))
noncomputable def s64 (args : List Value) (s : St) : List (Bool × Value × St) :=
 match args, s.h with
 | [.iface f0 .nilIface, .int .i64 x0, .float .f32 x1, .float .f32 x2], [⟨true, some (.tab [.fl .f32, .fl .f32, .fl .f32, .fl .f32, .int .i64] x3)⟩] => if f0 = 0 then [((Nat.beq ((r64 x0 x1 x2 x3).1) 0), .float .f32 ((r64 x0 x1 x2 x3).2), ⟨[⟨true, (some (.tab sc0 x3))⟩], 1, []⟩)] else T19 64 args s
 | _, _ => T19 64 args s
noncomputable def T20 : CallF := addF T19 64 s64
set_option maxRecDepth 100000 in
set_option maxHeartbeats 4000000 in
theorem ok20 : CfOk Try.prog T20 := by
  refine cfOk_add ok19 fun args s r s' h1 h2 h3 => ?_
  unfold s64 at h3; split at h3
  · rename_i h; split at h3
    · rename_i hc; obtain ⟨rfl⟩ := hc; exact callOk ok19 Try.func64 h1 h2 h lok64_2.body (e64 _ _ _ _) rfl h3
    · exact ok19 _ _ _ _ _ h1 h2 h3
  · exact ok19 _ _ _ _ _ h1 h2 h3

/-- spec.PushAt -/
noncomputable def r21 (x0 : Int) (x1 x2 : Nat) (x3 : List (List Int)) : Nat × Nat × Int :=
 cond (Nat.beq ((r57 x1 x2 x3).1) 0)
  (cond ((((r57 x1 x2 x3).2) : Int) != 0)
   (0, 0, ((r57 x1 x2 x3).2))
   (cond (!(r63 x0 0 (IntKind.i64.wrap (((x3.length : Nat) : Int) - 1))))
    (0, 0, 2)
    (cond ((decide ((0 : Int) ≤ x0)) && (Nat.blt (Int.toNat x0) x3.length))
     (cond ((((x3.getD (Int.toNat x0) []).getD 4 0) : Int) != (-1))
      (0, 0, 2)
      (cond (Nat.beq ((r64 x0 x1 x2 x3).1) 0)
       (0, ((r64 x0 x1 x2 x3).2), 0)
       (1, 0, 0)))
     (1, 0, 0))))
  (1, 0, 0)
noncomputable def a21 (x0 : Int) (x1 x2 : Nat) (x3 : List (List Int)) (p : Nat × Nat × Int) : Res := firstT [((Nat.beq (p.1) 0), .tuple #[.float .f32 (p.2.1), .int .i64 (p.2.2)], ⟨[⟨true, (some (.tab sc0 x3))⟩], 1, []⟩)]
noncomputable def w21 (x0 : Int) (x1 x2 : Nat) (x3 : List (List Int)) : Res :=
 (cond (Nat.beq ((r57 x1 x2 x3).1) 0)
 (cond ((((r57 x1 x2 x3).2) : Int) != 0)
  (a21 x0 x1 x2 x3 (0, 0, ((r57 x1 x2 x3).2)))
  (cond (!(r63 x0 0 (IntKind.i64.wrap (((x3.length : Nat) : Int) - 1))))
   (a21 x0 x1 x2 x3 (0, 0, 2))
   (cond ((decide ((0 : Int) ≤ x0)) && (Nat.blt (Int.toNat x0) x3.length))
    (cond (Nat.blt (Int.toNat x0) x3.length)
     (cond ((((x3.getD (Int.toNat x0) []).getD 4 0) : Int) != (-1))
      (a21 x0 x1 x2 x3 (0, 0, 2))
      (cond (Nat.beq ((r64 x0 x1 x2 x3).1) 0)
       (a21 x0 x1 x2 x3 (0, ((r64 x0 x1 x2 x3).2), 0))
       none))
     none)
    none)))
 none)
set_option maxRecDepth 100000 in
set_option maxHeartbeats 4000000 in
theorem e21 (x0 : Int) (x1 x2 : Nat) (x3 : List (List Int)) : evFn Try.prog ext T20 noL 200 Try.f21 [wsl 0, .int .i64 x0, .float .f32 x1, .float .f32 x2] ⟨[⟨true, (some (.tab sc0 x3))⟩], 1, []⟩ = firstT [((Nat.beq ((r21 x0 x1 x2 x3).1) 0), .tuple #[.float .f32 ((r21 x0 x1 x2 x3).2.1), .int .i64 ((r21 x0 x1 x2 x3).2.2)], ⟨[⟨true, (some (.tab sc0 x3))⟩], 1, []⟩)] :=
 (show evFn Try.prog ext T20 noL 200 Try.f21 [wsl 0, .int .i64 x0, .float .f32 x1, .float .f32 x2] ⟨[⟨true, (some (.tab sc0 x3))⟩], 1, []⟩ = w21 x0 x1 x2 x3 from by kernel_rfl).trans
 (show w21 x0 x1 x2 x3 = a21 x0 x1 x2 x3 (r21 x0 x1 x2 x3) from by unfold w21 r21; exact (cond_both (a21 x0 x1 x2 x3) _ (fun h0 => (cond_both (a21 x0 x1 x2 x3) _ (fun h1 => rfl) (fun h1 => (cond_both (a21 x0 x1 x2 x3) _ (fun h2 => rfl) (fun h2 => (cond_both (a21 x0 x1 x2 x3) _ (fun h3 => (cond_t (ev_and2 h3) (cond_app (a21 x0 x1 x2 x3) _ rfl (cond_app (a21 x0 x1 x2 x3) _ rfl rfl)))) (fun h3 => rfl))))))) (fun h0 => rfl)))
noncomputable def s21 (args : List Value) (s : St) : List (Bool × Value × St) :=
 match args, s.h with
 | [.iface f0 .nilIface, .int .i64 x0, .float .f32 x1, .float .f32 x2], [⟨true, some (.tab [.fl .f32, .fl .f32, .fl .f32, .fl .f32, .int .i64] x3)⟩] => if f0 = 0 then [((Nat.beq ((r21 x0 x1 x2 x3).1) 0), .tuple #[.float .f32 ((r21 x0 x1 x2 x3).2.1), .int .i64 ((r21 x0 x1 x2 x3).2.2)], ⟨[⟨true, (some (.tab sc0 x3))⟩], 1, []⟩)] else T20 21 args s
 | _, _ => T20 21 args s
noncomputable def T21 : CallF := addF T20 21 s21
set_option maxRecDepth 100000 in
set_option maxHeartbeats 4000000 in
theorem ok21 : CfOk Try.prog T21 := by
  refine cfOk_add ok20 fun args s r s' h1 h2 h3 => ?_
  unfold s21 at h3; split at h3
  · rename_i h; split at h3
    · rename_i hc; obtain ⟨rfl⟩ := hc; exact callOk ok20 Try.func21 h1 h2 h (lfOkF_no _ _).body (e21 _ _ _ _) rfl h3
    · exact ok20 _ _ _ _ _ h1 h2 h3
  · exact ok20 _ _ _ _ _ h1 h2 h3

/-- math.IsNaN -/
noncomputable def r94 (x0 : Nat) : Bool :=
 ((!feq .f64 x0 x0))
noncomputable def a94 (x0 : Nat) (p : Bool) : Res := firstT [(true, .bool p, st0)]
noncomputable def w94 (x0 : Nat) : Res :=
 (a94 x0 ((!feq .f64 x0 x0)))
set_option maxRecDepth 100000 in
set_option maxHeartbeats 4000000 in
theorem e94 (x0 : Nat) : evFn Try.prog ext T21 noL 200 Try.f94 [.float .f64 x0] st0 = firstT [(true, .bool (r94 x0), st0)] :=
 (show evFn Try.prog ext T21 noL 200 Try.f94 [.float .f64 x0] st0 = w94 x0 from by kernel_rfl).trans
 (show w94 x0 = a94 x0 (r94 x0) from by unfold w94 r94; exact rfl)
noncomputable def s94 (args : List Value) (s : St) : List (Bool × Value × St) :=
 match args, s.h with
 | [.float .f64 x0], [] => [(true, .bool (r94 x0), st0)]
 | _, _ => T21 94 args s
noncomputable def T22 : CallF := addF T21 94 s94
set_option maxRecDepth 100000 in
set_option maxHeartbeats 4000000 in
theorem ok22 : CfOk Try.prog T22 := by
  refine cfOk_add ok21 fun args s r s' h1 h2 h3 => ?_
  unfold s94 at h3; split at h3
  · rename_i h; exact callOk ok21 Try.func94 h1 h2 h (lfOkF_no _ _).body (e94 _) rfl h3
  · exact ok21 _ _ _ _ _ h1 h2 h3

/-- math.Abs -/
noncomputable def r113 (x0 : Nat) : Nat :=
 cond (!isN .f64 x0)
  ((Int.toNat (bits .andNot .u64 ((x0 : Nat) : Int) 9223372036854775808)))
  (9221120237041090560)
noncomputable def a113 (x0 : Nat) (p : Nat) : Res := firstT [(true, .float .f64 p, st0)]
noncomputable def w113 (x0 : Nat) : Res :=
 (cond (!isN .f64 x0)
 (a113 x0 ((Int.toNat (bits .andNot .u64 ((x0 : Nat) : Int) 9223372036854775808))))
 (a113 x0 (9221120237041090560)))
set_option maxRecDepth 100000 in
set_option maxHeartbeats 4000000 in
theorem e113 (x0 : Nat) : evFn Try.prog ext T22 noL 200 Try.f113 [.float .f64 x0] st0 = firstT [(true, .float .f64 (r113 x0), st0)] :=
 (show evFn Try.prog ext T22 noL 200 Try.f113 [.float .f64 x0] st0 = w113 x0 from by kernel_rfl).trans
 (show w113 x0 = a113 x0 (r113 x0) from by unfold w113 r113; exact (cond_app (a113 x0) _ rfl rfl))
noncomputable def s113 (args : List Value) (s : St) : List (Bool × Value × St) :=
 match args, s.h with
 | [.float .f64 x0], [] => [(true, .float .f64 (r113 x0), st0)]
 | _, _ => T22 113 args s
noncomputable def T23 : CallF := addF T22 113 s113
set_option maxRecDepth 100000 in
set_option maxHeartbeats 4000000 in
theorem ok23 : CfOk Try.prog T23 := by
  refine cfOk_add ok22 fun args s r s' h1 h2 h3 => ?_
  unfold s113 at h3; split at h3
  · rename_i h; exact callOk ok22 Try.func113 h1 h2 h (lfOkF_no _ _).body (e113 _) rfl h3
  · exact ok22 _ _ _ _ _ h1 h2 h3

/-- math.IsInf -/
noncomputable def r95 (x0 : Nat) (x1 : Int) : Bool :=
 cond ((x1 : Int) == 0)
  ((fgt .f64 (r113 x0) 9218868437227405311))
  (cond (decide ((x1 : Int) < 0))
   ((fgt .f64 (fneg .f64 x0) 9218868437227405311))
   ((fgt .f64 x0 9218868437227405311)))
noncomputable def a95 (x0 : Nat) (x1 : Int) (p : Bool) : Res := firstT [(true, .bool p, st0)]
noncomputable def w95 (x0 : Nat) (x1 : Int) : Res :=
 (cond ((x1 : Int) == 0)
 (a95 x0 x1 ((fgt .f64 (r113 x0) 9218868437227405311)))
 (cond (decide ((x1 : Int) < 0))
  (a95 x0 x1 ((fgt .f64 (fneg .f64 x0) 9218868437227405311)))
  (a95 x0 x1 ((fgt .f64 x0 9218868437227405311)))))
set_option maxRecDepth 100000 in
set_option maxHeartbeats 4000000 in
theorem e95 (x0 : Nat) (x1 : Int) : evFn Try.prog ext T23 noL 200 Try.f95 [.float .f64 x0, .int .i64 x1] st0 = firstT [(true, .bool (r95 x0 x1), st0)] :=
 (show evFn Try.prog ext T23 noL 200 Try.f95 [.float .f64 x0, .int .i64 x1] st0 = w95 x0 x1 from by kernel_rfl).trans
 (show w95 x0 x1 = a95 x0 x1 (r95 x0 x1) from by unfold w95 r95; exact (cond_app (a95 x0 x1) _ rfl (cond_app (a95 x0 x1) _ rfl rfl)))
noncomputable def s95 (args : List Value) (s : St) : List (Bool × Value × St) :=
 match args, s.h with
 | [.float .f64 x0, .int .i64 x1], [] => [(true, .bool (r95 x0 x1), st0)]
 | _, _ => T23 95 args s
noncomputable def T24 : CallF := addF T23 95 s95
set_option maxRecDepth 100000 in
set_option maxHeartbeats 4000000 in
theorem ok24 : CfOk Try.prog T24 := by
  refine cfOk_add ok23 fun args s r s' h1 h2 h3 => ?_
  unfold s95 at h3; split at h3
  · rename_i h; exact callOk ok23 Try.func95 h1 h2 h (lfOkF_no _ _).body (e95 _ _) rfl h3
  · exact ok23 _ _ _ _ _ h1 h2 h3

/-- impl.isFinite, loop 0 -/
noncomputable def r56l0 (x0 : Nat) : Unit :=
 ()
noncomputable def a56l0 (x0 : Nat) (p : Unit) : Option (Fin' × List Value × St) := firstT ([(true, .exit 0, [anyV], ⟨[⟨true, (some (.tab [.fl .f32] ([[((x0 : Nat) : Int)]] : List (List Int))))⟩], 1, []⟩)].map fun (b, x) => (b, (x.1, frameOf 20 [2] x.2.1, x.2.2)))
noncomputable def w56l0 (x0 : Nat) : Option (Fin' × List Value × St) :=
 (a56l0 x0 ())
set_option maxRecDepth 100000 in
set_option maxHeartbeats 4000000 in
theorem e56l0 (x0 : Nat) : evC Try.prog ext T24 noL 200 (loopN Try.f56 0) (loopTail ([5, 6, 7], []) [2] [] (sumK 20 [5, 6, 7] [2] noQ)) (frameOf 20 [5, 6, 7] [.slice (some ⟨0, 0, some 0⟩) 1 1, .int .i64 1, .int .i64 1]) ⟨[⟨true, (some (.tab [.fl .f32] ([[((x0 : Nat) : Int)]] : List (List Int))))⟩], 1, []⟩ = firstT ([(true, .exit 0, [anyV], ⟨[⟨true, (some (.tab [.fl .f32] ([[((x0 : Nat) : Int)]] : List (List Int))))⟩], 1, []⟩)].map fun (b, x) => (b, (x.1, frameOf 20 [2] x.2.1, x.2.2))) :=
 (show evC Try.prog ext T24 noL 200 (loopN Try.f56 0) (loopTail ([5, 6, 7], []) [2] [] (sumK 20 [5, 6, 7] [2] noQ)) (frameOf 20 [5, 6, 7] [.slice (some ⟨0, 0, some 0⟩) 1 1, .int .i64 1, .int .i64 1]) ⟨[⟨true, (some (.tab [.fl .f32] ([[((x0 : Nat) : Int)]] : List (List Int))))⟩], 1, []⟩ = w56l0 x0 from by kernel_rfl).trans
 (show w56l0 x0 = a56l0 x0 (r56l0 x0) from by unfold w56l0 r56l0; exact rfl)
noncomputable def Q56l0 : SumK := fun vals s =>
 match vals, s.h with
 | [.slice (some ⟨f0, f1, some f2⟩) f3 f4, .int .i64 f5, .int .i64 f6], [⟨true, some (.tab [.fl .f32] [[.ofNat x0]])⟩] => if f0 = 0 ∧ f1 = 0 ∧ f2 = 0 ∧ f3 = 1 ∧ f4 = 1 ∧ f5 = 1 ∧ f6 = 1 then [(true, .exit 0, [anyV], ⟨[⟨true, (some (.tab [.fl .f32] ([[((x0 : Nat) : Int)]] : List (List Int))))⟩], 1, []⟩)] else noQ vals s
 | _, _ => noQ vals s
set_option maxRecDepth 100000 in
set_option maxHeartbeats 4000000 in
theorem qok56l0 : SumKOk Try.prog (loopN Try.f56 0) 20 [5, 6, 7] [2] Q56l0 := by
  intro vals s x h1 h2 h3
  unfold Q56l0 at h3; split at h3
  · rename_i h; split at h3
    · rename_i hc; obtain ⟨rfl, rfl, rfl, rfl, rfl, rfl, rfl⟩ := hc; exact sum_step ok24 extOk mixed ((lfOkF_no _ _).inner (by kernel_rfl)) noQ_ok h1 h2 h (e56l0 _) rfl h3
    · exact noQ_ok _ _ _ h1 h2 h3
  · exact noQ_ok _ _ _ h1 h2 h3
noncomputable def L56_1 : LoopT := addL noL 3 ([5, 6, 7], []) (sumK 20 [5, 6, 7] [2] Q56l0)
theorem lok56_1 : LfOkF Try.prog L56_1 Try.f56 := lfOkF_add (lfOkF_no _ _) qok56l0 (by kernel_rfl) (by kernel_rfl) (by kernel_rfl)

/-- impl.isFinite, loop 0 -/
noncomputable def r56l0b (x0 : Nat) : Nat :=
 cond (r94 (widen x0))
  (0)
  (cond (r95 (widen x0) 0)
   (0)
   (1))
noncomputable def a56l0b (x0 : Nat) (p : Nat) : Option (Fin' × List Value × St) := firstT ([((Nat.beq p 0), .ret, [.bool false], ⟨[⟨true, (some (.tab [.fl .f32] ([[((x0 : Nat) : Int)]] : List (List Int))))⟩], 1, []⟩), (true, .exit 0, [anyV], ⟨[⟨true, (some (.tab [.fl .f32] ([[((x0 : Nat) : Int)]] : List (List Int))))⟩], 1, []⟩)].map fun (b, x) => (b, (x.1, frameOf 20 [2] x.2.1, x.2.2)))
noncomputable def w56l0b (x0 : Nat) : Option (Fin' × List Value × St) :=
 (cond (r94 (widen x0))
 (a56l0b x0 (0))
 (cond (r95 (widen x0) 0)
  (a56l0b x0 (0))
  (a56l0b x0 (1))))
set_option maxRecDepth 100000 in
set_option maxHeartbeats 4000000 in
theorem e56l0b (x0 : Nat) : evC Try.prog ext T24 L56_1 200 (loopN Try.f56 0) (loopTail ([5, 6, 7], []) [2] [] (sumK 20 [5, 6, 7] [2] Q56l0)) (frameOf 20 [5, 6, 7] [.slice (some ⟨0, 0, some 0⟩) 1 1, .int .i64 1, .int .i64 0]) ⟨[⟨true, (some (.tab [.fl .f32] ([[((x0 : Nat) : Int)]] : List (List Int))))⟩], 1, []⟩ = firstT ([((Nat.beq (r56l0b x0) 0), .ret, [.bool false], ⟨[⟨true, (some (.tab [.fl .f32] ([[((x0 : Nat) : Int)]] : List (List Int))))⟩], 1, []⟩), (true, .exit 0, [anyV], ⟨[⟨true, (some (.tab [.fl .f32] ([[((x0 : Nat) : Int)]] : List (List Int))))⟩], 1, []⟩)].map fun (b, x) => (b, (x.1, frameOf 20 [2] x.2.1, x.2.2))) :=
 (show evC Try.prog ext T24 L56_1 200 (loopN Try.f56 0) (loopTail ([5, 6, 7], []) [2] [] (sumK 20 [5, 6, 7] [2] Q56l0)) (frameOf 20 [5, 6, 7] [.slice (some ⟨0, 0, some 0⟩) 1 1, .int .i64 1, .int .i64 0]) ⟨[⟨true, (some (.tab [.fl .f32] ([[((x0 : Nat) : Int)]] : List (List Int))))⟩], 1, []⟩ = w56l0b x0 from by kernel_rfl).trans
 (show w56l0b x0 = a56l0b x0 (r56l0b x0) from by unfold w56l0b r56l0b; exact (cond_app (a56l0b x0) _ rfl (cond_app (a56l0b x0) _ rfl rfl)))
noncomputable def Q56l0b : SumK := fun vals s =>
 match vals, s.h with
 | [.slice (some ⟨f0, f1, some f2⟩) f3 f4, .int .i64 f5, .int .i64 f6], [⟨true, some (.tab [.fl .f32] [[.ofNat x0]])⟩] => if f0 = 0 ∧ f1 = 0 ∧ f2 = 0 ∧ f3 = 1 ∧ f4 = 1 ∧ f5 = 1 ∧ f6 = 0 then [((Nat.beq (r56l0b x0) 0), .ret, [.bool false], ⟨[⟨true, (some (.tab [.fl .f32] ([[((x0 : Nat) : Int)]] : List (List Int))))⟩], 1, []⟩), (true, .exit 0, [anyV], ⟨[⟨true, (some (.tab [.fl .f32] ([[((x0 : Nat) : Int)]] : List (List Int))))⟩], 1, []⟩)] else Q56l0 vals s
 | _, _ => Q56l0 vals s
set_option maxRecDepth 100000 in
set_option maxHeartbeats 4000000 in
theorem qok56l0b : SumKOk Try.prog (loopN Try.f56 0) 20 [5, 6, 7] [2] Q56l0b := by
  intro vals s x h1 h2 h3
  unfold Q56l0b at h3; split at h3
  · rename_i h; split at h3
    · rename_i hc; obtain ⟨rfl, rfl, rfl, rfl, rfl, rfl, rfl⟩ := hc; exact sum_step ok24 extOk mixed (lok56_1.inner (by kernel_rfl)) qok56l0 h1 h2 h (e56l0b _) rfl h3
    · exact qok56l0 _ _ _ h1 h2 h3
  · exact qok56l0 _ _ _ h1 h2 h3
noncomputable def L56_2 : LoopT := addL L56_1 3 ([5, 6, 7], []) (sumK 20 [5, 6, 7] [2] Q56l0b)
theorem lok56_2 : LfOkF Try.prog L56_2 Try.f56 := lfOkF_add lok56_1 qok56l0b (by kernel_rfl) (by kernel_rfl) (by kernel_rfl)

/-- impl.isFinite -/
noncomputable def r56 (x0 : Nat) : Bool :=
 cond (Nat.beq (r56l0b x0) 0)
  (false)
  (true)
noncomputable def a56 (x0 : Nat) (p : Bool) : Res := firstT [(true, .bool p, ⟨[⟨true, (some (.tab [.fl .f32] ([[((x0 : Nat) : Int)]] : List (List Int))))⟩], 1, []⟩)]
noncomputable def w56 (x0 : Nat) : Res :=
 (cond (Nat.beq (r56l0b x0) 0)
 (a56 x0 (false))
 (a56 x0 (true)))
set_option maxRecDepth 100000 in
set_option maxHeartbeats 4000000 in
theorem e56 (x0 : Nat) : evFn Try.prog ext T24 L56_2 200 Try.f56 [.slice (some ⟨0, 0, some 0⟩) 1 1] ⟨[⟨true, (some (.tab [.fl .f32] ([[((x0 : Nat) : Int)]] : List (List Int))))⟩], 1, []⟩ = firstT [(true, .bool (r56 x0), ⟨[⟨true, (some (.tab [.fl .f32] ([[((x0 : Nat) : Int)]] : List (List Int))))⟩], 1, []⟩)] :=
 (show evFn Try.prog ext T24 L56_2 200 Try.f56 [.slice (some ⟨0, 0, some 0⟩) 1 1] ⟨[⟨true, (some (.tab [.fl .f32] ([[((x0 : Nat) : Int)]] : List (List Int))))⟩], 1, []⟩ = w56 x0 from by kernel_rfl).trans
 (show w56 x0 = a56 x0 (r56 x0) from by unfold w56 r56; exact (cond_app (a56 x0) _ rfl rfl))
noncomputable def s56 (args : List Value) (s : St) : List (Bool × Value × St) :=
 match args, s.h with
 | [.slice (some ⟨f0, f1, some f2⟩) f3 f4], [⟨true, some (.tab [.fl .f32] [[.ofNat x0]])⟩] => if f0 = 0 ∧ f1 = 0 ∧ f2 = 0 ∧ f3 = 1 ∧ f4 = 1 then [(true, .bool (r56 x0), ⟨[⟨true, (some (.tab [.fl .f32] ([[((x0 : Nat) : Int)]] : List (List Int))))⟩], 1, []⟩)] else T24 56 args s
 | _, _ => T24 56 args s
noncomputable def T25 : CallF := addF T24 56 s56
set_option maxRecDepth 100000 in
set_option maxHeartbeats 4000000 in
theorem ok25 : CfOk Try.prog T25 := by
  refine cfOk_add ok24 fun args s r s' h1 h2 h3 => ?_
  unfold s56 at h3; split at h3
  · rename_i h; split at h3
    · rename_i hc; obtain ⟨rfl, rfl, rfl, rfl, rfl⟩ := hc; exact callOk ok24 Try.func56 h1 h2 h lok56_2.body (e56 _) rfl h3
    · exact ok24 _ _ _ _ _ h1 h2 h3
  · exact ok24 _ _ _ _ _ h1 h2 h3

/-- impl.IsAmount -/
noncomputable def r70 (x0 : Nat) : Bool :=
 cond (r56 x0)
  (cond (fgt .f32 x0 0 || feq .f32 x0 0)
   ((((Int.fdiv ((x0 : Nat) : Int) (2 ^ (min (31 : Int).toNat (IntKind.bits .u32)))) : Int) == 0))
   (false))
  (false)
noncomputable def a70 (x0 : Nat) (p : Bool) : Res := firstT [(true, .bool p, st0)]
noncomputable def w70 (x0 : Nat) : Res :=
 (cond (r56 x0)
 (cond (fgt .f32 x0 0 || feq .f32 x0 0)
  (cond (!isN .f32 x0)
   (a70 x0 ((((Int.fdiv ((x0 : Nat) : Int) (2 ^ (min (31 : Int).toNat (IntKind.bits .u32)))) : Int) == 0)))
   none)
  (a70 x0 (false)))
 (a70 x0 (false)))
set_option maxRecDepth 100000 in
set_option maxHeartbeats 4000000 in
theorem e70 (x0 : Nat) : evFn Try.prog ext T25 noL 200 Try.f70 [.float .f32 x0] st0 = firstT [(true, .bool (r70 x0), st0)] :=
 (show evFn Try.prog ext T25 noL 200 Try.f70 [.float .f32 x0] st0 = w70 x0 from by kernel_rfl).trans
 (show w70 x0 = a70 x0 (r70 x0) from by unfold w70 r70; exact (cond_both (a70 x0) _ (fun h0 => (cond_both (a70 x0) _ (fun h1 => (cond_t (ev_not1 (ev_or h1 (fun hq0 => (ev_gt1 hq0)) (fun hq0 => (ev_eq1 hq0)))) rfl)) (fun h1 => rfl))) (fun h0 => rfl)))
noncomputable def s70 (args : List Value) (s : St) : List (Bool × Value × St) :=
 match args, s.h with
 | [.float .f32 x0], [] => [(true, .bool (r70 x0), st0)]
 | _, _ => T25 70 args s
noncomputable def T26 : CallF := addF T25 70 s70
set_option maxRecDepth 100000 in
set_option maxHeartbeats 4000000 in
theorem ok26 : CfOk Try.prog T26 := by
  refine cfOk_add ok25 fun args s r s' h1 h2 h3 => ?_
  unfold s70 at h3; split at h3
  · rename_i h; exact callOk ok25 Try.func70 h1 h2 h (lfOkF_no _ _).body (e70 _) rfl h3
  · exact ok25 _ _ _ _ _ h1 h2 h3

/-- impl.between -/
noncomputable def r108 (x0 x1 x2 : Nat) : Bool :=
 cond (fgt .f32 x0 x1 || feq .f32 x0 x1)
  ((flt .f32 x0 x2 || feq .f32 x0 x2))
  (false)
noncomputable def a108 (x0 x1 x2 : Nat) (p : Bool) : Res := firstT [(true, .bool p, st0)]
noncomputable def w108 (x0 x1 x2 : Nat) : Res :=
 (cond (fgt .f32 x0 x1 || feq .f32 x0 x1)
 (a108 x0 x1 x2 ((flt .f32 x0 x2 || feq .f32 x0 x2)))
 (a108 x0 x1 x2 (false)))
set_option maxRecDepth 100000 in
set_option maxHeartbeats 4000000 in
theorem e108 (x0 x1 x2 : Nat) : evFn Try.prog ext T26 noL 200 Try.f108 [.float .f32 x0, .float .f32 x1, .float .f32 x2] st0 = firstT [(true, .bool (r108 x0 x1 x2), st0)] :=
 (show evFn Try.prog ext T26 noL 200 Try.f108 [.float .f32 x0, .float .f32 x1, .float .f32 x2] st0 = w108 x0 x1 x2 from by kernel_rfl).trans
 (show w108 x0 x1 x2 = a108 x0 x1 x2 (r108 x0 x1 x2) from by unfold w108 r108; exact (cond_app (a108 x0 x1 x2) _ rfl rfl))
noncomputable def s108 (args : List Value) (s : St) : List (Bool × Value × St) :=
 match args, s.h with
 | [.float .f32 x0, .float .f32 x1, .float .f32 x2], [] => [(true, .bool (r108 x0 x1 x2), st0)]
 | _, _ => T26 108 args s
noncomputable def T27 : CallF := addF T26 108 s108
set_option maxRecDepth 100000 in
set_option maxHeartbeats 4000000 in
theorem ok27 : CfOk Try.prog T27 := by
  refine cfOk_add ok26 fun args s r s' h1 h2 h3 => ?_
  unfold s108 at h3; split at h3
  · rename_i h; exact callOk ok26 Try.func108 h1 h2 h (lfOkF_no _ _).body (e108 _ _ _) rfl h3
  · exact ok26 _ _ _ _ _ h1 h2 h3

/-- impl.IsShare -/
noncomputable def r72 (x0 : Nat) : Bool :=
 cond (r70 x0)
  ((flt .f32 x0 1065353216 || feq .f32 x0 1065353216))
  (false)
noncomputable def a72 (x0 : Nat) (p : Bool) : Res := firstT [(true, .bool p, st0)]
noncomputable def w72 (x0 : Nat) : Res :=
 (cond (r70 x0)
 (a72 x0 ((flt .f32 x0 1065353216 || feq .f32 x0 1065353216)))
 (a72 x0 (false)))
set_option maxRecDepth 100000 in
set_option maxHeartbeats 4000000 in
theorem e72 (x0 : Nat) : evFn Try.prog ext T27 noL 200 Try.f72 [.float .f32 x0] st0 = firstT [(true, .bool (r72 x0), st0)] :=
 (show evFn Try.prog ext T27 noL 200 Try.f72 [.float .f32 x0] st0 = w72 x0 from by kernel_rfl).trans
 (show w72 x0 = a72 x0 (r72 x0) from by unfold w72 r72; exact (cond_app (a72 x0) _ rfl rfl))
noncomputable def s72 (args : List Value) (s : St) : List (Bool × Value × St) :=
 match args, s.h with
 | [.float .f32 x0], [] => [(true, .bool (r72 x0), st0)]
 | _, _ => T27 72 args s
noncomputable def T28 : CallF := addF T27 72 s72
set_option maxRecDepth 100000 in
set_option maxHeartbeats 4000000 in
theorem ok28 : CfOk Try.prog T28 := by
  refine cfOk_add ok27 fun args s r s' h1 h2 h3 => ?_
  unfold s72 at h3; split at h3
  · rename_i h; exact callOk ok27 Try.func72 h1 h2 h (lfOkF_no _ _).body (e72 _) rfl h3
  · exact ok27 _ _ _ _ _ h1 h2 h3

/-- impl.validFlue -/
noncomputable def r87 (x0 x1 x2 x3 : Nat) (x4 : Int) : Bool :=
 cond (r70 x0)
  (cond (r108 x0 1031798784 1106247680)
   (cond (r70 x1)
    (cond (r108 x1 1015021568 1082130432)
     (cond (r108 x2 3262119936 1153138688)
      ((r72 x3))
      (false))
     (false))
    (false))
   (false))
  (false)
noncomputable def a87 (x0 x1 x2 x3 : Nat) (x4 : Int) (p : Bool) : Res := firstT [(true, .bool p, st0)]
noncomputable def w87 (x0 x1 x2 x3 : Nat) (x4 : Int) : Res :=
 (cond (r70 x0)
 (cond (r108 x0 1031798784 1106247680)
  (cond (r70 x1)
   (cond (r108 x1 1015021568 1082130432)
    (cond (r108 x2 3262119936 1153138688)
     (a87 x0 x1 x2 x3 x4 ((r72 x3)))
     (a87 x0 x1 x2 x3 x4 (false)))
    (a87 x0 x1 x2 x3 x4 (false)))
   (a87 x0 x1 x2 x3 x4 (false)))
  (a87 x0 x1 x2 x3 x4 (false)))
 (a87 x0 x1 x2 x3 x4 (false)))
set_option maxRecDepth 100000 in
set_option maxHeartbeats 4000000 in
theorem e87 (x0 x1 x2 x3 : Nat) (x4 : Int) : evFn Try.prog ext T28 noL 200 Try.f87 [.agg #[.float .f32 x0, .float .f32 x1, .float .f32 x2, .float .f32 x3, .int .i64 x4]] st0 = firstT [(true, .bool (r87 x0 x1 x2 x3 x4), st0)] :=
 (show evFn Try.prog ext T28 noL 200 Try.f87 [.agg #[.float .f32 x0, .float .f32 x1, .float .f32 x2, .float .f32 x3, .int .i64 x4]] st0 = w87 x0 x1 x2 x3 x4 from by kernel_rfl).trans
 (show w87 x0 x1 x2 x3 x4 = a87 x0 x1 x2 x3 x4 (r87 x0 x1 x2 x3 x4) from by unfold w87 r87; exact (cond_app (a87 x0 x1 x2 x3 x4) _ (cond_app (a87 x0 x1 x2 x3 x4) _ (cond_app (a87 x0 x1 x2 x3 x4) _ (cond_app (a87 x0 x1 x2 x3 x4) _ (cond_app (a87 x0 x1 x2 x3 x4) _ rfl rfl) rfl) rfl) rfl) rfl))
noncomputable def s87 (args : List Value) (s : St) : List (Bool × Value × St) :=
 match args, s.h with
 | [.agg ⟨[.float .f32 x0, .float .f32 x1, .float .f32 x2, .float .f32 x3, .int .i64 x4]⟩], [] => [(true, .bool (r87 x0 x1 x2 x3 x4), st0)]
 | _, _ => T28 87 args s
noncomputable def T29 : CallF := addF T28 87 s87
set_option maxRecDepth 100000 in
set_option maxHeartbeats 4000000 in
theorem ok29 : CfOk Try.prog T29 := by
  refine cfOk_add ok28 fun args s r s' h1 h2 h3 => ?_
  unfold s87 at h3; split at h3
  · rename_i h; exact callOk ok28 Try.func87 h1 h2 h (lfOkF_no _ _).body (e87 _ _ _ _ _) rfl h3
  · exact ok28 _ _ _ _ _ h1 h2 h3

/-- impl.ValidChimney, loop 0: one round -/
noncomputable def b50l0 (ih : Int → Int → List (List Int) → Nat) (x0 x1 : Int) (x2 : List (List Int)) : Nat :=
 let c177 := (r87 (Int.toNat ((x2.getD (Int.toNat x1) []).getD 0 0)) (Int.toNat ((x2.getD (Int.toNat x1) []).getD 1 0)) (Int.toNat ((x2.getD (Int.toNat x1) []).getD 2 0)) (Int.toNat ((x2.getD (Int.toNat x1) []).getD 3 0)) ((x2.getD (Int.toNat x1) []).getD 4 0))
 cond (decide ((x1 : Int) < x0))
  (cond ((decide ((0 : Int) ≤ x1)) && (Nat.blt (Int.toNat x1) x2.length))
   (cond (!c177)
    (0)
    (cond ((((x2.getD (Int.toNat x1) []).getD 4 0) : Int) == (-1))
     (ih x0 (IntKind.i64.wrap (x1 + 1)) x2)
     (cond (decide ((((x2.getD (Int.toNat x1) []).getD 4 0) : Int) < 0))
      (0)
      (cond (decide ((((x2.getD (Int.toNat x1) []).getD 4 0) : Int) ≥ ((x2.length : Nat) : Int)))
       (0)
       (cond ((((x2.getD (Int.toNat x1) []).getD 4 0) : Int) == x1)
        (0)
        (cond ((decide ((0 : Int) ≤ ((x2.getD (Int.toNat x1) []).getD 4 0))) && (Nat.blt (Int.toNat ((x2.getD (Int.toNat x1) []).getD 4 0)) x2.length))
         (cond ((((x2.getD (Int.toNat ((x2.getD (Int.toNat x1) []).getD 4 0)) []).getD 4 0) : Int) != (-1))
          (0)
          (ih x0 (IntKind.i64.wrap (x1 + 1)) x2))
         (2)))))))
   (2))
  (1)
noncomputable def r50l0 : Nat → Int → Int → List (List Int) → Nat
 | 0 => fun _ _ _ => (2)
 | m + 1 => b50l0 (r50l0 m)
noncomputable def a50l0 (x0 x1 : Int) (x2 : List (List Int)) (p : Nat) : Option (Fin' × List Value × St) := firstT ([((Nat.beq p 0), .ret, [.bool false], ⟨[⟨true, (some (.tab sc0 x2))⟩], 1, []⟩), ((Nat.beq p 1), .exit 0, [anyV], ⟨[⟨true, (some (.tab sc0 x2))⟩], 1, []⟩)].map fun (b, x) => (b, (x.1, frameOf 52 [2] x.2.1, x.2.2)))
noncomputable def u50l0 (x0 x1 : Int) (x2 : List (List Int)) (p : Nat) : Option (Fin' × List Value × St) := alts ([((Nat.beq p 0), .ret, [.bool false], ⟨[⟨true, (some (.tab sc0 x2))⟩], 1, []⟩), ((Nat.beq p 1), .exit 0, [anyV], ⟨[⟨true, (some (.tab sc0 x2))⟩], 1, []⟩)].map fun (b, x) => (b, (x.1, frameOf 52 [2] x.2.1, x.2.2))) some
theorem v50l0 (x0 x1 : Int) (x2 : List (List Int)) (p : Nat) : u50l0 x0 x1 x2 p = a50l0 x0 x1 x2 p := alts_first _
noncomputable def q50l0 (m : Nat) : SumK := fun vals s =>
 match vals, s.h with
 | [.iface f0 .nilIface, .iface f1 .nilIface, .int .i64 x0, .int .i64 x1], [⟨true, some (.tab [.fl .f32, .fl .f32, .fl .f32, .fl .f32, .int .i64] x2)⟩] => if f0 = 0 ∧ f1 = 0 then [((Nat.beq (r50l0 m x0 x1 x2) 0), .ret, [.bool false], ⟨[⟨true, (some (.tab sc0 x2))⟩], 1, []⟩), ((Nat.beq (r50l0 m x0 x1 x2) 1), .exit 0, [anyV], ⟨[⟨true, (some (.tab sc0 x2))⟩], 1, []⟩)] else noQ vals s
 | _, _ => noQ vals s
noncomputable def w50l0 (ih : Int → Int → List (List Int) → Nat) (x0 x1 : Int) (x2 : List (List Int)) : Option (Fin' × List Value × St) :=
 let c177 := (r87 (Int.toNat ((x2.getD (Int.toNat x1) []).getD 0 0)) (Int.toNat ((x2.getD (Int.toNat x1) []).getD 1 0)) (Int.toNat ((x2.getD (Int.toNat x1) []).getD 2 0)) (Int.toNat ((x2.getD (Int.toNat x1) []).getD 3 0)) ((x2.getD (Int.toNat x1) []).getD 4 0))
 (cond (decide ((x1 : Int) < x0))
 (cond ((decide ((0 : Int) ≤ x1)) && (Nat.blt (Int.toNat x1) x2.length))
  (cond (Nat.blt (Int.toNat x1) x2.length)
   (cond (!c177)
    (a50l0 x0 x1 x2 (0))
    (cond ((((x2.getD (Int.toNat x1) []).getD 4 0) : Int) == (-1))
     (u50l0 x0 x1 x2 (ih x0 (IntKind.i64.wrap (x1 + 1)) x2))
     (cond (decide ((((x2.getD (Int.toNat x1) []).getD 4 0) : Int) < 0))
      (a50l0 x0 x1 x2 (0))
      (cond (decide ((((x2.getD (Int.toNat x1) []).getD 4 0) : Int) ≥ ((x2.length : Nat) : Int)))
       (a50l0 x0 x1 x2 (0))
       (cond ((((x2.getD (Int.toNat x1) []).getD 4 0) : Int) == x1)
        (a50l0 x0 x1 x2 (0))
        (cond ((decide ((0 : Int) ≤ ((x2.getD (Int.toNat x1) []).getD 4 0))) && (Nat.blt (Int.toNat ((x2.getD (Int.toNat x1) []).getD 4 0)) x2.length))
         (cond (Nat.blt (Int.toNat ((x2.getD (Int.toNat x1) []).getD 4 0)) x2.length)
          (cond ((((x2.getD (Int.toNat ((x2.getD (Int.toNat x1) []).getD 4 0)) []).getD 4 0) : Int) != (-1))
           (a50l0 x0 x1 x2 (0))
           (u50l0 x0 x1 x2 (ih x0 (IntKind.i64.wrap (x1 + 1)) x2)))
          none)
         none))))))
   none)
  none)
 (a50l0 x0 x1 x2 (1)))
set_option maxRecDepth 100000 in
set_option maxHeartbeats 4000000 in
theorem e50l0 (m : Nat) (x0 x1 : Int) (x2 : List (List Int)) : evC Try.prog ext T29 noL 200 (loopN Try.f50 0) (loopTail ([0, 13, 14, 15], []) [2] [] (sumK 52 [0, 13, 14, 15] [2] (q50l0 m))) (frameOf 52 [0, 13, 14, 15] [wsl 0, wsl 0, .int .i64 x0, .int .i64 x1]) ⟨[⟨true, (some (.tab sc0 x2))⟩], 1, []⟩ = firstT ([((Nat.beq (r50l0 (m + 1) x0 x1 x2) 0), .ret, [.bool false], ⟨[⟨true, (some (.tab sc0 x2))⟩], 1, []⟩), ((Nat.beq (r50l0 (m + 1) x0 x1 x2) 1), .exit 0, [anyV], ⟨[⟨true, (some (.tab sc0 x2))⟩], 1, []⟩)].map fun (b, x) => (b, (x.1, frameOf 52 [2] x.2.1, x.2.2))) :=
 (show evC Try.prog ext T29 noL 200 (loopN Try.f50 0) (loopTail ([0, 13, 14, 15], []) [2] [] (sumK 52 [0, 13, 14, 15] [2] (q50l0 m))) (frameOf 52 [0, 13, 14, 15] [wsl 0, wsl 0, .int .i64 x0, .int .i64 x1]) ⟨[⟨true, (some (.tab sc0 x2))⟩], 1, []⟩ = w50l0 (r50l0 m) x0 x1 x2 from by kernel_rfl).trans
 (show w50l0 (r50l0 m) x0 x1 x2 = a50l0 x0 x1 x2 (r50l0 (m + 1) x0 x1 x2) from by unfold w50l0; show _ = a50l0 x0 x1 x2 (b50l0 (r50l0 m) x0 x1 x2); unfold b50l0; exact (cond_both (a50l0 x0 x1 x2) _ (fun h0 => (cond_both (a50l0 x0 x1 x2) _ (fun h1 => (cond_t (ev_and2 h1) (cond_both (a50l0 x0 x1 x2) _ (fun h2 => rfl) (fun h2 => (cond_both (a50l0 x0 x1 x2) _ (fun h3 => (v50l0 x0 x1 x2 ((r50l0 m) x0 (IntKind.i64.wrap (x1 + 1)) x2))) (fun h3 => (cond_both (a50l0 x0 x1 x2) _ (fun h4 => rfl) (fun h4 => (cond_both (a50l0 x0 x1 x2) _ (fun h5 => rfl) (fun h5 => (cond_both (a50l0 x0 x1 x2) _ (fun h6 => rfl) (fun h6 => (cond_both (a50l0 x0 x1 x2) _ (fun h7 => (cond_t (ev_and2 h7) (cond_app (a50l0 x0 x1 x2) _ rfl (v50l0 x0 x1 x2 ((r50l0 m) x0 (IntKind.i64.wrap (x1 + 1)) x2))))) (fun h7 => rfl)))))))))))))) (fun h1 => rfl))) (fun h0 => rfl)))
set_option maxRecDepth 100000 in
set_option maxHeartbeats 4000000 in
theorem qm50l0 : ∀ m, SumKOk Try.prog (loopN Try.f50 0) 52 [0, 13, 14, 15] [2] (q50l0 m) := by
  intro m
  induction m with
  | zero =>
    intro vals s x h1 h2 h3
    unfold q50l0 at h3; split at h3
    · rename_i h; split at h3
      · rename_i hc; obtain ⟨rfl, rfl⟩ := hc; exact absurd h3 (by simp [r50l0, firstT, Nat.beq])
      · exact noQ_ok _ _ _ h1 h2 h3
    · exact noQ_ok _ _ _ h1 h2 h3
  | succ m ih =>
    intro vals s x h1 h2 h3
    unfold q50l0 at h3; split at h3
    · rename_i h; split at h3
      · rename_i hc; obtain ⟨rfl, rfl⟩ := hc; exact sum_step ok29 extOk mixed ((lfOkF_no _ _).inner (by kernel_rfl)) ih h1 h2 h (e50l0 m _ _ _) rfl h3
      · exact noQ_ok _ _ _ h1 h2 h3
    · exact noQ_ok _ _ _ h1 h2 h3
noncomputable def Q50l0 : SumK := fun vals s => q50l0 (fuelOf vals s.h) vals s
theorem qok50l0 : SumKOk Try.prog (loopN Try.f50 0) 52 [0, 13, 14, 15] [2] Q50l0 := fuel_ok qm50l0 fuelOf
noncomputable def L50_1 : LoopT := addL noL 5 ([0, 13, 14, 15], []) (sumK 52 [0, 13, 14, 15] [2] Q50l0)
theorem lok50_1 : LfOkF Try.prog L50_1 Try.f50 := lfOkF_add (lfOkF_no _ _) qok50l0 (by kernel_rfl) (by kernel_rfl) (by kernel_rfl)

/-- impl.ValidChimney -/
noncomputable def r50 (x0 : List (List Int)) : Nat × Bool :=
 cond (decide ((((x0.length : Nat) : Int) : Int) < 1))
  (0, false)
  (cond (decide ((((x0.length : Nat) : Int) : Int) > 6))
   (0, false)
   (cond (Nat.beq (r50l0 (1000 + x0.length) ((x0.length : Nat) : Int) 0 x0) 0)
    (0, false)
    (cond (Nat.beq (r50l0 (1000 + x0.length) ((x0.length : Nat) : Int) 0 x0) 1)
     (0, true)
     (1, false))))
noncomputable def a50 (x0 : List (List Int)) (p : Nat × Bool) : Res := firstT [((Nat.beq (p.1) 0), .bool (p.2), ⟨[⟨true, (some (.tab sc0 x0))⟩], 1, []⟩)]
noncomputable def w50 (x0 : List (List Int)) : Res :=
 (cond (decide ((((x0.length : Nat) : Int) : Int) < 1))
 (a50 x0 (0, false))
 (cond (decide ((((x0.length : Nat) : Int) : Int) > 6))
  (a50 x0 (0, false))
  (cond (Nat.beq (r50l0 (1000 + x0.length) ((x0.length : Nat) : Int) 0 x0) 0)
   (a50 x0 (0, false))
   (cond (Nat.beq (r50l0 (1000 + x0.length) ((x0.length : Nat) : Int) 0 x0) 1)
    (a50 x0 (0, true))
    none))))
set_option maxRecDepth 100000 in
set_option maxHeartbeats 4000000 in
theorem e50 (x0 : List (List Int)) : evFn Try.prog ext T29 L50_1 200 Try.f50 [wsl 0] ⟨[⟨true, (some (.tab sc0 x0))⟩], 1, []⟩ = firstT [((Nat.beq ((r50 x0).1) 0), .bool ((r50 x0).2), ⟨[⟨true, (some (.tab sc0 x0))⟩], 1, []⟩)] :=
 (show evFn Try.prog ext T29 L50_1 200 Try.f50 [wsl 0] ⟨[⟨true, (some (.tab sc0 x0))⟩], 1, []⟩ = w50 x0 from by kernel_rfl).trans
 (show w50 x0 = a50 x0 (r50 x0) from by unfold w50 r50; exact (cond_app (a50 x0) _ rfl (cond_app (a50 x0) _ rfl (cond_app (a50 x0) _ rfl (cond_app (a50 x0) _ rfl rfl)))))
noncomputable def s50 (args : List Value) (s : St) : List (Bool × Value × St) :=
 match args, s.h with
 | [.iface f0 .nilIface], [⟨true, some (.tab [.fl .f32, .fl .f32, .fl .f32, .fl .f32, .int .i64] x0)⟩] => if f0 = 0 then [((Nat.beq ((r50 x0).1) 0), .bool ((r50 x0).2), ⟨[⟨true, (some (.tab sc0 x0))⟩], 1, []⟩)] else T29 50 args s
 | _, _ => T29 50 args s
noncomputable def T30 : CallF := addF T29 50 s50
set_option maxRecDepth 100000 in
set_option maxHeartbeats 4000000 in
theorem ok30 : CfOk Try.prog T30 := by
  refine cfOk_add ok29 fun args s r s' h1 h2 h3 => ?_
  unfold s50 at h3; split at h3
  · rename_i h; split at h3
    · rename_i hc; obtain ⟨rfl⟩ := hc; exact callOk ok29 Try.func50 h1 h2 h lok50_1.body (e50 _) rfl h3
    · exact ok29 _ _ _ _ _ h1 h2 h3
  · exact ok29 _ _ _ _ _ h1 h2 h3

/-- impl.isOutside -/
noncomputable def r91 (x0 : Nat) : Bool :=
 ((r108 x0 3262119936 1114636288))
noncomputable def a91 (x0 : Nat) (p : Bool) : Res := firstT [(true, .bool p, st0)]
noncomputable def w91 (x0 : Nat) : Res :=
 (a91 x0 ((r108 x0 3262119936 1114636288)))
set_option maxRecDepth 100000 in
set_option maxHeartbeats 4000000 in
theorem e91 (x0 : Nat) : evFn Try.prog ext T30 noL 200 Try.f91 [.float .f32 x0] st0 = firstT [(true, .bool (r91 x0), st0)] :=
 (show evFn Try.prog ext T30 noL 200 Try.f91 [.float .f32 x0] st0 = w91 x0 from by kernel_rfl).trans
 (show w91 x0 = a91 x0 (r91 x0) from by unfold w91 r91; exact rfl)
noncomputable def s91 (args : List Value) (s : St) : List (Bool × Value × St) :=
 match args, s.h with
 | [.float .f32 x0], [] => [(true, .bool (r91 x0), st0)]
 | _, _ => T30 91 args s
noncomputable def T31 : CallF := addF T30 91 s91
set_option maxRecDepth 100000 in
set_option maxHeartbeats 4000000 in
theorem ok31 : CfOk Try.prog T31 := by
  refine cfOk_add ok30 fun args s r s' h1 h2 h3 => ?_
  unfold s91 at h3; split at h3
  · rename_i h; exact callOk ok30 Try.func91 h1 h2 h (lfOkF_no _ _).body (e91 _) rfl h3
  · exact ok30 _ _ _ _ _ h1 h2 h3

/-- impl.isPush -/
noncomputable def r92 (x0 : Nat) : Bool :=
 ((r108 x0 3296329728 1148846080))
noncomputable def a92 (x0 : Nat) (p : Bool) : Res := firstT [(true, .bool p, st0)]
noncomputable def w92 (x0 : Nat) : Res :=
 (a92 x0 ((r108 x0 3296329728 1148846080)))
set_option maxRecDepth 100000 in
set_option maxHeartbeats 4000000 in
theorem e92 (x0 : Nat) : evFn Try.prog ext T31 noL 200 Try.f92 [.float .f32 x0] st0 = firstT [(true, .bool (r92 x0), st0)] :=
 (show evFn Try.prog ext T31 noL 200 Try.f92 [.float .f32 x0] st0 = w92 x0 from by kernel_rfl).trans
 (show w92 x0 = a92 x0 (r92 x0) from by unfold w92 r92; exact rfl)
noncomputable def s92 (args : List Value) (s : St) : List (Bool × Value × St) :=
 match args, s.h with
 | [.float .f32 x0], [] => [(true, .bool (r92 x0), st0)]
 | _, _ => T31 92 args s
noncomputable def T32 : CallF := addF T31 92 s92
set_option maxRecDepth 100000 in
set_option maxHeartbeats 4000000 in
theorem ok32 : CfOk Try.prog T32 := by
  refine cfOk_add ok31 fun args s r s' h1 h2 h3 => ?_
  unfold s92 at h3; split at h3
  · rename_i h; exact callOk ok31 Try.func92 h1 h2 h (lfOkF_no _ _).body (e92 _) rfl h3
  · exact ok31 _ _ _ _ _ h1 h2 h3

/-- impl.weatherCode -/
noncomputable def r54 (x0 x1 : Nat) (x2 : List (List Int)) : Nat × Int :=
 cond (Nat.beq ((r50 x2).1) 0)
  (cond (!((r50 x2).2))
   (0, 1)
   (cond (!(r91 x0))
    (0, 2)
    (cond (!(r92 x1))
     (0, 2)
     (0, 0))))
  (1, 0)
noncomputable def a54 (x0 x1 : Nat) (x2 : List (List Int)) (p : Nat × Int) : Res := firstT [((Nat.beq (p.1) 0), .int .i64 (p.2), ⟨[⟨true, (some (.tab sc0 x2))⟩], 1, []⟩)]
noncomputable def w54 (x0 x1 : Nat) (x2 : List (List Int)) : Res :=
 (cond (Nat.beq ((r50 x2).1) 0)
 (cond (!((r50 x2).2))
  (a54 x0 x1 x2 (0, 1))
  (cond (!(r91 x0))
   (a54 x0 x1 x2 (0, 2))
   (cond (!(r92 x1))
    (a54 x0 x1 x2 (0, 2))
    (a54 x0 x1 x2 (0, 0)))))
 none)
set_option maxRecDepth 100000 in
set_option maxHeartbeats 4000000 in
theorem e54 (x0 x1 : Nat) (x2 : List (List Int)) : evFn Try.prog ext T32 noL 200 Try.f54 [wsl 0, .float .f32 x0, .float .f32 x1] ⟨[⟨true, (some (.tab sc0 x2))⟩], 1, []⟩ = firstT [((Nat.beq ((r54 x0 x1 x2).1) 0), .int .i64 ((r54 x0 x1 x2).2), ⟨[⟨true, (some (.tab sc0 x2))⟩], 1, []⟩)] :=
 (show evFn Try.prog ext T32 noL 200 Try.f54 [wsl 0, .float .f32 x0, .float .f32 x1] ⟨[⟨true, (some (.tab sc0 x2))⟩], 1, []⟩ = w54 x0 x1 x2 from by kernel_rfl).trans
 (show w54 x0 x1 x2 = a54 x0 x1 x2 (r54 x0 x1 x2) from by unfold w54 r54; exact (cond_app (a54 x0 x1 x2) _ (cond_app (a54 x0 x1 x2) _ rfl (cond_app (a54 x0 x1 x2) _ rfl (cond_app (a54 x0 x1 x2) _ rfl rfl))) rfl))
noncomputable def s54 (args : List Value) (s : St) : List (Bool × Value × St) :=
 match args, s.h with
 | [.iface f0 .nilIface, .float .f32 x0, .float .f32 x1], [⟨true, some (.tab [.fl .f32, .fl .f32, .fl .f32, .fl .f32, .int .i64] x2)⟩] => if f0 = 0 then [((Nat.beq ((r54 x0 x1 x2).1) 0), .int .i64 ((r54 x0 x1 x2).2), ⟨[⟨true, (some (.tab sc0 x2))⟩], 1, []⟩)] else T32 54 args s
 | _, _ => T32 54 args s
noncomputable def T33 : CallF := addF T32 54 s54
set_option maxRecDepth 100000 in
set_option maxHeartbeats 4000000 in
theorem ok33 : CfOk Try.prog T33 := by
  refine cfOk_add ok32 fun args s r s' h1 h2 h3 => ?_
  unfold s54 at h3; split at h3
  · rename_i h; split at h3
    · rename_i hc; obtain ⟨rfl⟩ := hc; exact callOk ok32 Try.func54 h1 h2 h (lfOkF_no _ _).body (e54 _ _ _) rfl h3
    · exact ok32 _ _ _ _ _ h1 h2 h3
  · exact ok32 _ _ _ _ _ h1 h2 h3
end Go.Proofs.Ytdpkbkmmlbmllaa
