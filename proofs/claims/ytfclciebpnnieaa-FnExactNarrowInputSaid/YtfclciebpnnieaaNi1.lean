/- What the functions that the statements reach answer, part 1. -/
import Derived.Test.YtfclciebpnnieaaA23
import Derived.KernelRfl
import Derived.Test.YtfclciebpnnieaaChecked
namespace Go.Proofs.Ytfclciebpnnieaa
open Go.Ab
set_option maxHeartbeats 4000000
set_option maxRecDepth 100000

def ext : FuncId → Option Ext := fun g => (cond (Nat.beq g 72) (some .f32bits) (cond (Nat.beq g 107) (some .f64from) (cond (Nat.beq g 108) (some .f64bits) (cond (Nat.beq g 119) (some .f32from) none))))
theorem ext_case {g : FuncId} {e : Ext} (h : ext g = some e) : g = 72 ∧ e = .f32bits ∨ g = 107 ∧ e = .f64from ∨ g = 108 ∧ e = .f64bits ∨ g = 119 ∧ e = .f32from := by
  unfold ext at h
  cases h0 : Nat.beq g 72 with
  | true => rw [h0] at h; cases h; exact .inl ⟨Nat.eq_of_beq_eq_true h0, rfl⟩
  | false =>
    rw [h0] at h
    cases h1 : Nat.beq g 107 with
    | true => rw [h1] at h; cases h; exact .inr (.inl ⟨Nat.eq_of_beq_eq_true h1, rfl⟩)
    | false =>
      rw [h1] at h
      cases h2 : Nat.beq g 108 with
      | true => rw [h2] at h; cases h; exact .inr (.inr (.inl ⟨Nat.eq_of_beq_eq_true h2, rfl⟩))
      | false =>
        rw [h2] at h
        cases h3 : Nat.beq g 119 with
        | true => rw [h3] at h; cases h; exact .inr (.inr (.inr (⟨Nat.eq_of_beq_eq_true h3, rfl⟩)))
        | false =>
          rw [h3] at h
          cases h
theorem extOk : ExtOk Try.prog ext := by
  intro g e h
  rcases ext_case h with ⟨rfl, rfl⟩ | ⟨rfl, rfl⟩ | ⟨rfl, rfl⟩ | ⟨rfl, rfl⟩
  · exact ⟨Try.f72, Try.func72, by kernel_rfl, by kernel_rfl, by kernel_rfl, by kernel_rfl⟩
  · exact ⟨Try.f107, Try.func107, by kernel_rfl, by kernel_rfl, by kernel_rfl, by kernel_rfl⟩
  · exact ⟨Try.f108, Try.func108, by kernel_rfl, by kernel_rfl, by kernel_rfl, by kernel_rfl⟩
  · exact ⟨Try.f119, Try.func119, by kernel_rfl, by kernel_rfl, by kernel_rfl, by kernel_rfl⟩
theorem mixed : Try.prog.follows .mixedOrders = true := by kernel_rfl
theorem callOk {cf : CallF} (hcf : CfOk Try.prog cf) {lf : LoopT} {N : Nat} {f : FuncId} {fn : Func} (hf : Try.prog.funcs[f]? = some fn) {args : List Value} {s : St} {l : List Blk} {n : Nat} {L : List (Bool × Value × St)} {r' : Value} {s' : St} (h1 : s.lo = s.h.length) (h2 : s.wr = []) (h : s.h = l) (hl : ∀ c, fn.body = some c → LfOk Try.prog lf (loopsOf c)) (he : evFn Try.prog ext cf lf N fn args ⟨l, n, []⟩ = firstT L) (hn : n = l.length) (h3 : firstT L = some (r', s')) : CallsOK Try.prog f args s r' s' :=
  call_ok extOk mixed hcf hf h1 h2 h hl he hn h3
def T0 : CallF := noF
theorem ok0 : CfOk Try.prog T0 := cfOk_no _

/-- laws.szStringS, loop 0: one round -/
noncomputable def b39l0 (ih : Int → Int → List ByteArray → (Nat × Int × Int)) (x0 x1 : Int) (x2 : List ByteArray) : Nat × Int × Int :=
 cond (decide ((x1 : Int) < ((x2.length : Nat) : Int)))
  (cond ((decide ((0 : Int) ≤ x1)) && (Nat.blt (Int.toNat x1) x2.length))
  (cond (decide (((IntKind.i64.wrap (x0 - ((((x2.getD (Int.toNat x1) .empty).size) : Nat) : Int))) : Int) < 0))
  (0, (IntKind.i64.wrap (x0 - ((((x2.getD (Int.toNat x1) .empty).size) : Nat) : Int))), 0)
  (ih (IntKind.i64.wrap (x0 - ((((x2.getD (Int.toNat x1) .empty).size) : Nat) : Int))) (IntKind.i64.wrap (x1 + 1)) x2))
  (2, 0, 0))
  (1, 0, x0)
noncomputable def r39l0 : Nat → Int → Int → List ByteArray → (Nat × Int × Int)
 | 0 => fun _ _ _ => (2, 0, 0)
 | m + 1 => b39l0 (r39l0 m)
noncomputable def a39l0 (x0 x1 : Int) (x2 : List ByteArray) (p : Nat × Int × Int) : Option (Fin' × List Value × St) := firstT ([((Nat.beq (p.1) 0), .ret, [.int .i64 (p.2.1), .int .i64 (-1)], ⟨[⟨false, (some (.strs x2))⟩], 1, []⟩), ((Nat.beq (p.1) 1), .exit 0, [.int .i64 (p.2.2), anyV], ⟨[⟨false, (some (.strs x2))⟩], 1, []⟩)].map fun (b, x) => (b, (x.1, frameOf 28 [1, 4] x.2.1, x.2.2)))
noncomputable def u39l0 (x0 x1 : Int) (x2 : List ByteArray) (p : Nat × Int × Int) : Option (Fin' × List Value × St) := alts ([((Nat.beq (p.1) 0), .ret, [.int .i64 (p.2.1), .int .i64 (-1)], ⟨[⟨false, (some (.strs x2))⟩], 1, []⟩), ((Nat.beq (p.1) 1), .exit 0, [.int .i64 (p.2.2), anyV], ⟨[⟨false, (some (.strs x2))⟩], 1, []⟩)].map fun (b, x) => (b, (x.1, frameOf 28 [1, 4] x.2.1, x.2.2))) some
theorem v39l0 (x0 x1 : Int) (x2 : List ByteArray) (p : Nat × Int × Int) : u39l0 x0 x1 x2 p = a39l0 x0 x1 x2 p := alts_first _
noncomputable def q39l0 (m : Nat) : SumK := fun vals s =>
 match vals, s.h with
 | [.iface f0 .nilIface, .int .i64 x0, .int .i64 x1], [⟨false, some (.strs x2)⟩] => if f0 = 0 then [((Nat.beq ((r39l0 m x0 x1 x2).1) 0), .ret, [.int .i64 ((r39l0 m x0 x1 x2).2.1), .int .i64 (-1)], ⟨[⟨false, (some (.strs x2))⟩], 1, []⟩), ((Nat.beq ((r39l0 m x0 x1 x2).1) 1), .exit 0, [.int .i64 ((r39l0 m x0 x1 x2).2.2), anyV], ⟨[⟨false, (some (.strs x2))⟩], 1, []⟩)] else noQ vals s
 | _, _ => noQ vals s
noncomputable def w39l0 (ih : Int → Int → List ByteArray → (Nat × Int × Int)) (x0 x1 : Int) (x2 : List ByteArray) : Option (Fin' × List Value × St) :=
 (cond (decide ((x1 : Int) < ((x2.length : Nat) : Int)))
 (cond ((decide ((0 : Int) ≤ x1)) && (Nat.blt (Int.toNat x1) x2.length))
  (cond (Nat.blt (Int.toNat x1) x2.length)
  (cond (decide (((IntKind.i64.wrap (x0 - ((((x2.getD (Int.toNat x1) .empty).size) : Nat) : Int))) : Int) < 0))
  (a39l0 x0 x1 x2 (0, (IntKind.i64.wrap (x0 - ((((x2.getD (Int.toNat x1) .empty).size) : Nat) : Int))), 0))
  (u39l0 x0 x1 x2 (ih (IntKind.i64.wrap (x0 - ((((x2.getD (Int.toNat x1) .empty).size) : Nat) : Int))) (IntKind.i64.wrap (x1 + 1)) x2)))
  none)
  none)
 (a39l0 x0 x1 x2 (1, 0, x0)))
set_option maxRecDepth 100000 in
set_option maxHeartbeats 4000000 in
theorem e39l0 (m : Nat) (x0 x1 : Int) (x2 : List ByteArray) : evC Try.prog ext T0 noL 200 (loopN Try.f39 0) (loopTail ([0, 1, 5], []) [1, 4] [] (sumK 28 [0, 1, 5] [1, 4] (q39l0 m))) (frameOf 28 [0, 1, 5] [wsl 0, .int .i64 x0, .int .i64 x1]) ⟨[⟨false, (some (.strs x2))⟩], 1, []⟩ = firstT ([((Nat.beq ((r39l0 (m + 1) x0 x1 x2).1) 0), .ret, [.int .i64 ((r39l0 (m + 1) x0 x1 x2).2.1), .int .i64 (-1)], ⟨[⟨false, (some (.strs x2))⟩], 1, []⟩), ((Nat.beq ((r39l0 (m + 1) x0 x1 x2).1) 1), .exit 0, [.int .i64 ((r39l0 (m + 1) x0 x1 x2).2.2), anyV], ⟨[⟨false, (some (.strs x2))⟩], 1, []⟩)].map fun (b, x) => (b, (x.1, frameOf 28 [1, 4] x.2.1, x.2.2))) :=
 (show evC Try.prog ext T0 noL 200 (loopN Try.f39 0) (loopTail ([0, 1, 5], []) [1, 4] [] (sumK 28 [0, 1, 5] [1, 4] (q39l0 m))) (frameOf 28 [0, 1, 5] [wsl 0, .int .i64 x0, .int .i64 x1]) ⟨[⟨false, (some (.strs x2))⟩], 1, []⟩ = w39l0 (r39l0 m) x0 x1 x2 from by kernel_rfl).trans
 (show w39l0 (r39l0 m) x0 x1 x2 = a39l0 x0 x1 x2 (r39l0 (m + 1) x0 x1 x2) from by unfold w39l0; show _ = a39l0 x0 x1 x2 (b39l0 (r39l0 m) x0 x1 x2); unfold b39l0; exact (cond_both (a39l0 x0 x1 x2) _ (fun h0 => (cond_both (a39l0 x0 x1 x2) _ (fun h1 => (cond_t (ev_and2 h1) (cond_app (a39l0 x0 x1 x2) _ rfl (v39l0 x0 x1 x2 ((r39l0 m) (IntKind.i64.wrap (x0 - ((((x2.getD (Int.toNat x1) .empty).size) : Nat) : Int))) (IntKind.i64.wrap (x1 + 1)) x2))))) (fun h1 => rfl))) (fun h0 => rfl)))
set_option maxRecDepth 100000 in
set_option maxHeartbeats 4000000 in
theorem qm39l0 : ∀ m, SumKOk Try.prog (loopN Try.f39 0) 28 [0, 1, 5] [1, 4] (q39l0 m) := by
  intro m
  induction m with
  | zero =>
    intro vals s x h1 h2 h3
    unfold q39l0 at h3; split at h3
    · rename_i h; split at h3
      · rename_i hc; obtain ⟨rfl⟩ := hc; exact absurd h3 (by simp [r39l0, firstT, Nat.beq])
      · exact noQ_ok _ _ _ h1 h2 h3
    · exact noQ_ok _ _ _ h1 h2 h3
  | succ m ih =>
    intro vals s x h1 h2 h3
    unfold q39l0 at h3; split at h3
    · rename_i h; split at h3
      · rename_i hc; obtain ⟨rfl⟩ := hc; exact sum_step ok0 extOk mixed ((lfOkF_no _ _).inner (by kernel_rfl)) ih h1 h2 h (e39l0 m _ _ _) rfl h3
      · exact noQ_ok _ _ _ h1 h2 h3
    · exact noQ_ok _ _ _ h1 h2 h3
noncomputable def Q39l0 : SumK := fun vals s => q39l0 (fuelOf vals s.h) vals s
theorem qok39l0 : SumKOk Try.prog (loopN Try.f39 0) 28 [0, 1, 5] [1, 4] Q39l0 := fuel_ok qm39l0 fuelOf
noncomputable def L39_1 : LoopT := addL noL 6 ([0, 1, 5], []) (sumK 28 [0, 1, 5] [1, 4] Q39l0)
theorem lok39_1 : LfOkF Try.prog L39_1 Try.f39 := lfOkF_add (lfOkF_no _ _) qok39l0 (by kernel_rfl) (by kernel_rfl) (by kernel_rfl)

/-- laws.szStringS -/
noncomputable def r39 (x0 : Int) (x1 : List ByteArray) : Nat × Int :=
 cond (decide (((IntKind.i64.wrap (x0 - ((x1.length : Nat) : Int))) : Int) < 0))
  (0, (-1))
  (cond (Nat.beq ((r39l0 (1000 + x1.length) (IntKind.i64.wrap (x0 - ((x1.length : Nat) : Int))) 0 x1).1) 0)
  (0, (-1))
  (cond (Nat.beq ((r39l0 (1000 + x1.length) (IntKind.i64.wrap (x0 - ((x1.length : Nat) : Int))) 0 x1).1) 1)
  (0, ((r39l0 (1000 + x1.length) (IntKind.i64.wrap (x0 - ((x1.length : Nat) : Int))) 0 x1).2.2))
  (1, 0)))
noncomputable def a39 (x0 : Int) (x1 : List ByteArray) (p : Nat × Int) : Res := firstT [((Nat.beq (p.1) 0), .int .i64 (p.2), ⟨[⟨false, (some (.strs x1))⟩], 1, []⟩)]
noncomputable def w39 (x0 : Int) (x1 : List ByteArray) : Res :=
 (cond (decide (((IntKind.i64.wrap (x0 - ((x1.length : Nat) : Int))) : Int) < 0))
 (a39 x0 x1 (0, (-1)))
 (cond (Nat.beq ((r39l0 (1000 + x1.length) (IntKind.i64.wrap (x0 - ((x1.length : Nat) : Int))) 0 x1).1) 0)
  (a39 x0 x1 (0, (-1)))
  (cond (Nat.beq ((r39l0 (1000 + x1.length) (IntKind.i64.wrap (x0 - ((x1.length : Nat) : Int))) 0 x1).1) 1)
  (a39 x0 x1 (0, ((r39l0 (1000 + x1.length) (IntKind.i64.wrap (x0 - ((x1.length : Nat) : Int))) 0 x1).2.2)))
  none)))
set_option maxRecDepth 100000 in
set_option maxHeartbeats 4000000 in
theorem e39 (x0 : Int) (x1 : List ByteArray) : evFn Try.prog ext T0 L39_1 200 Try.f39 [wsl 0, .int .i64 x0] ⟨[⟨false, (some (.strs x1))⟩], 1, []⟩ = firstT [((Nat.beq ((r39 x0 x1).1) 0), .int .i64 ((r39 x0 x1).2), ⟨[⟨false, (some (.strs x1))⟩], 1, []⟩)] :=
 (show evFn Try.prog ext T0 L39_1 200 Try.f39 [wsl 0, .int .i64 x0] ⟨[⟨false, (some (.strs x1))⟩], 1, []⟩ = w39 x0 x1 from by kernel_rfl).trans
 (show w39 x0 x1 = a39 x0 x1 (r39 x0 x1) from by unfold w39 r39; exact (cond_app (a39 x0 x1) _ rfl (cond_app (a39 x0 x1) _ rfl (cond_app (a39 x0 x1) _ rfl rfl))))
noncomputable def s39 (args : List Value) (s : St) : List (Bool × Value × St) :=
 match args, s.h with
 | [.iface f0 .nilIface, .int .i64 x0], [⟨false, some (.strs x1)⟩] => if f0 = 0 then [((Nat.beq ((r39 x0 x1).1) 0), .int .i64 ((r39 x0 x1).2), ⟨[⟨false, (some (.strs x1))⟩], 1, []⟩)] else T0 39 args s
 | _, _ => T0 39 args s
noncomputable def T1 : CallF := addF T0 39 s39
set_option maxRecDepth 100000 in
set_option maxHeartbeats 4000000 in
theorem ok1 : CfOk Try.prog T1 := by
  refine cfOk_add ok0 fun args s r s' h1 h2 h3 => ?_
  unfold s39 at h3; split at h3
  · rename_i h; split at h3
    · rename_i hc; obtain ⟨rfl⟩ := hc; exact callOk ok0 Try.func39 h1 h2 h lok39_1.body (e39 _ _) rfl h3
    · exact ok0 _ _ _ _ _ h1 h2 h3
  · exact ok0 _ _ _ _ _ h1 h2 h3

/-- laws.szOpS -/
noncomputable def r40 (x0 : Int) (x1 : List (List Int)) : Int :=
 cond (decide (((IntKind.i64.wrap (x0 - ((x1.length : Nat) : Int))) : Int) < 0))
  ((-1))
  ((IntKind.i64.wrap (x0 - ((x1.length : Nat) : Int))))
noncomputable def a40 (x0 : Int) (x1 : List (List Int)) (p : Int) : Res := firstT [(true, .int .i64 p, ⟨[⟨false, (some (.tab [.int .i8, .int .i16, .fl .f32] x1))⟩], 1, []⟩)]
noncomputable def w40 (x0 : Int) (x1 : List (List Int)) : Res :=
 (cond (decide (((IntKind.i64.wrap (x0 - ((x1.length : Nat) : Int))) : Int) < 0))
 (a40 x0 x1 ((-1)))
 (a40 x0 x1 ((IntKind.i64.wrap (x0 - ((x1.length : Nat) : Int))))))
set_option maxRecDepth 100000 in
set_option maxHeartbeats 4000000 in
theorem e40 (x0 : Int) (x1 : List (List Int)) : evFn Try.prog ext T1 noL 200 Try.f40 [wsl 0, .int .i64 x0] ⟨[⟨false, (some (.tab [.int .i8, .int .i16, .fl .f32] x1))⟩], 1, []⟩ = firstT [(true, .int .i64 (r40 x0 x1), ⟨[⟨false, (some (.tab [.int .i8, .int .i16, .fl .f32] x1))⟩], 1, []⟩)] :=
 (show evFn Try.prog ext T1 noL 200 Try.f40 [wsl 0, .int .i64 x0] ⟨[⟨false, (some (.tab [.int .i8, .int .i16, .fl .f32] x1))⟩], 1, []⟩ = w40 x0 x1 from by kernel_rfl).trans
 (show w40 x0 x1 = a40 x0 x1 (r40 x0 x1) from by unfold w40 r40; exact (cond_app (a40 x0 x1) _ rfl rfl))
noncomputable def s40 (args : List Value) (s : St) : List (Bool × Value × St) :=
 match args, s.h with
 | [.iface f0 .nilIface, .int .i64 x0], [⟨false, some (.tab [.int .i8, .int .i16, .fl .f32] x1)⟩] => if f0 = 0 then [(true, .int .i64 (r40 x0 x1), ⟨[⟨false, (some (.tab [.int .i8, .int .i16, .fl .f32] x1))⟩], 1, []⟩)] else T1 40 args s
 | _, _ => T1 40 args s
noncomputable def T2 : CallF := addF T1 40 s40
set_option maxRecDepth 100000 in
set_option maxHeartbeats 4000000 in
theorem ok2 : CfOk Try.prog T2 := by
  refine cfOk_add ok1 fun args s r s' h1 h2 h3 => ?_
  unfold s40 at h3; split at h3
  · rename_i h; split at h3
    · rename_i hc; obtain ⟨rfl⟩ := hc; exact callOk ok1 Try.func40 h1 h2 h (lfOkF_no _ _).body (e40 _ _) rfl h3
    · exact ok1 _ _ _ _ _ h1 h2 h3
  · exact ok1 _ _ _ _ _ h1 h2 h3

/-- laws.szProgram -/
noncomputable def r10 (x0 : Int) (x1 : List ByteArray) (x2 : List (List Int)) : Nat × Int :=
 cond (Nat.beq ((r39 x0 x1).1) 0)
  (cond (decide ((((r39 x0 x1).2) : Int) < 0))
  (0, (-1))
  (cond (decide (((r40 ((r39 x0 x1).2) x2) : Int) < 0))
  (0, (-1))
  (0, (r40 ((r39 x0 x1).2) x2))))
  (1, 0)
noncomputable def a10 (x0 : Int) (x1 : List ByteArray) (x2 : List (List Int)) (p : Nat × Int) : Res := firstT [((Nat.beq (p.1) 0), .int .i64 (p.2), ⟨[⟨false, (some (.strs x1))⟩, ⟨false, (some (.tab [.int .i8, .int .i16, .fl .f32] x2))⟩], 2, []⟩)]
noncomputable def w10 (x0 : Int) (x1 : List ByteArray) (x2 : List (List Int)) : Res :=
 (cond (Nat.beq ((r39 x0 x1).1) 0)
 (cond (decide ((((r39 x0 x1).2) : Int) < 0))
  (a10 x0 x1 x2 (0, (-1)))
  (cond (decide (((r40 ((r39 x0 x1).2) x2) : Int) < 0))
  (a10 x0 x1 x2 (0, (-1)))
  (a10 x0 x1 x2 (0, (r40 ((r39 x0 x1).2) x2)))))
 none)
set_option maxRecDepth 100000 in
set_option maxHeartbeats 4000000 in
theorem e10 (x0 : Int) (x1 : List ByteArray) (x2 : List (List Int)) : evFn Try.prog ext T2 noL 200 Try.f10 [.agg #[wsl 0, wsl 1], .int .i64 x0] ⟨[⟨false, (some (.strs x1))⟩, ⟨false, (some (.tab [.int .i8, .int .i16, .fl .f32] x2))⟩], 2, []⟩ = firstT [((Nat.beq ((r10 x0 x1 x2).1) 0), .int .i64 ((r10 x0 x1 x2).2), ⟨[⟨false, (some (.strs x1))⟩, ⟨false, (some (.tab [.int .i8, .int .i16, .fl .f32] x2))⟩], 2, []⟩)] :=
 (show evFn Try.prog ext T2 noL 200 Try.f10 [.agg #[wsl 0, wsl 1], .int .i64 x0] ⟨[⟨false, (some (.strs x1))⟩, ⟨false, (some (.tab [.int .i8, .int .i16, .fl .f32] x2))⟩], 2, []⟩ = w10 x0 x1 x2 from by kernel_rfl).trans
 (show w10 x0 x1 x2 = a10 x0 x1 x2 (r10 x0 x1 x2) from by unfold w10 r10; exact (cond_app (a10 x0 x1 x2) _ (cond_app (a10 x0 x1 x2) _ rfl (cond_app (a10 x0 x1 x2) _ rfl rfl)) rfl))
noncomputable def s10 (args : List Value) (s : St) : List (Bool × Value × St) :=
 match args, s.h with
 | [.agg ⟨[.iface f0 .nilIface, .iface f1 .nilIface]⟩, .int .i64 x0], [⟨false, some (.strs x1)⟩, ⟨false, some (.tab [.int .i8, .int .i16, .fl .f32] x2)⟩] => if f0 = 0 ∧ f1 = 1 then [((Nat.beq ((r10 x0 x1 x2).1) 0), .int .i64 ((r10 x0 x1 x2).2), ⟨[⟨false, (some (.strs x1))⟩, ⟨false, (some (.tab [.int .i8, .int .i16, .fl .f32] x2))⟩], 2, []⟩)] else T2 10 args s
 | _, _ => T2 10 args s
noncomputable def T3 : CallF := addF T2 10 s10
set_option maxRecDepth 100000 in
set_option maxHeartbeats 4000000 in
theorem ok3 : CfOk Try.prog T3 := by
  refine cfOk_add ok2 fun args s r s' h1 h2 h3 => ?_
  unfold s10 at h3; split at h3
  · rename_i h; split at h3
    · rename_i hc; obtain ⟨rfl, rfl⟩ := hc; exact callOk ok2 Try.func10 h1 h2 h (lfOkF_no _ _).body (e10 _ _ _) rfl h3
    · exact ok2 _ _ _ _ _ h1 h2 h3
  · exact ok2 _ _ _ _ _ h1 h2 h3

/-- laws.toStringS, loop 0: one round -/
noncomputable def b42l0 (ih : Int → List ByteArray → List ByteArray → (Nat × List ByteArray)) (x0 : Int) (x1 x2 : List ByteArray) : Nat × List ByteArray :=
 cond (decide ((x0 : Int) < ((x1.length : Nat) : Int)))
  (cond ((decide ((0 : Int) ≤ x0)) && (Nat.blt (Int.toNat x0) x1.length))
  (cond ((decide ((0 : Int) ≤ x0)) && (Nat.blt (Int.toNat x0) x2.length))
  (ih (IntKind.i64.wrap (x0 + 1)) x1 (x2.set (Int.toNat x0) (x1.getD (Int.toNat x0) .empty)))
  (1, []))
  (1, []))
  (0, x2)
noncomputable def r42l0 : Nat → Int → List ByteArray → List ByteArray → (Nat × List ByteArray)
 | 0 => fun _ _ _ => (1, [])
 | m + 1 => b42l0 (r42l0 m)
noncomputable def a42l0 (x0 : Int) (x1 x2 : List ByteArray) (p : Nat × List ByteArray) : Option (Fin' × List Value × St) := firstT ([((Nat.beq (p.1) 0), .exit 0, [wsl 1], ⟨[⟨false, (some (.strs x1))⟩, ⟨true, (some (.strs (p.2)))⟩], 2, [1]⟩)].map fun (b, x) => (b, (x.1, frameOf 22 [3] x.2.1, x.2.2)))
noncomputable def u42l0 (x0 : Int) (x1 x2 : List ByteArray) (p : Nat × List ByteArray) : Option (Fin' × List Value × St) := alts ([((Nat.beq (p.1) 0), .exit 0, [wsl 1], ⟨[⟨false, (some (.strs x1))⟩, ⟨true, (some (.strs (p.2)))⟩], 2, [1]⟩)].map fun (b, x) => (b, (x.1, frameOf 22 [3] x.2.1, x.2.2))) some
theorem v42l0 (x0 : Int) (x1 x2 : List ByteArray) (p : Nat × List ByteArray) : u42l0 x0 x1 x2 p = a42l0 x0 x1 x2 p := alts_first _
noncomputable def q42l0 (m : Nat) : SumK := fun vals s =>
 match vals, s.h with
 | [.iface f0 .nilIface, .iface f1 .nilIface, .int .i64 x0], [⟨false, some (.strs x1)⟩, ⟨true, some (.strs x2)⟩] => if f0 = 0 ∧ f1 = 1 then [((Nat.beq ((r42l0 m x0 x1 x2).1) 0), .exit 0, [wsl 1], ⟨[⟨false, (some (.strs x1))⟩, ⟨true, (some (.strs ((r42l0 m x0 x1 x2).2)))⟩], 2, [1]⟩)] else noQ vals s
 | _, _ => noQ vals s
noncomputable def w42l0 (ih : Int → List ByteArray → List ByteArray → (Nat × List ByteArray)) (x0 : Int) (x1 x2 : List ByteArray) : Option (Fin' × List Value × St) :=
 (cond (decide ((x0 : Int) < ((x1.length : Nat) : Int)))
 (cond ((decide ((0 : Int) ≤ x0)) && (Nat.blt (Int.toNat x0) x1.length))
  (cond (Nat.blt (Int.toNat x0) x1.length)
  (cond ((decide ((0 : Int) ≤ x0)) && (Nat.blt (Int.toNat x0) x2.length))
  (cond (Nat.blt (Int.toNat x0) x2.length)
  (u42l0 x0 x1 x2 (ih (IntKind.i64.wrap (x0 + 1)) x1 (x2.set (Int.toNat x0) (x1.getD (Int.toNat x0) .empty))))
  none)
  none)
  none)
  none)
 (a42l0 x0 x1 x2 (0, x2)))
set_option maxRecDepth 100000 in
set_option maxHeartbeats 4000000 in
theorem e42l0 (m : Nat) (x0 : Int) (x1 x2 : List ByteArray) : evC Try.prog ext T3 noL 200 (loopN Try.f42 0) (loopTail ([0, 3, 4], []) [3] [1] (sumK 22 [0, 3, 4] [3] (q42l0 m))) (frameOf 22 [0, 3, 4] [wsl 0, wsl 1, .int .i64 x0]) ⟨[⟨false, (some (.strs x1))⟩, ⟨true, (some (.strs x2))⟩], 2, []⟩ = firstT ([((Nat.beq ((r42l0 (m + 1) x0 x1 x2).1) 0), .exit 0, [wsl 1], ⟨[⟨false, (some (.strs x1))⟩, ⟨true, (some (.strs ((r42l0 (m + 1) x0 x1 x2).2)))⟩], 2, [1]⟩)].map fun (b, x) => (b, (x.1, frameOf 22 [3] x.2.1, x.2.2))) :=
 (show evC Try.prog ext T3 noL 200 (loopN Try.f42 0) (loopTail ([0, 3, 4], []) [3] [1] (sumK 22 [0, 3, 4] [3] (q42l0 m))) (frameOf 22 [0, 3, 4] [wsl 0, wsl 1, .int .i64 x0]) ⟨[⟨false, (some (.strs x1))⟩, ⟨true, (some (.strs x2))⟩], 2, []⟩ = w42l0 (r42l0 m) x0 x1 x2 from by kernel_rfl).trans
 (show w42l0 (r42l0 m) x0 x1 x2 = a42l0 x0 x1 x2 (r42l0 (m + 1) x0 x1 x2) from by unfold w42l0; show _ = a42l0 x0 x1 x2 (b42l0 (r42l0 m) x0 x1 x2); unfold b42l0; exact (cond_both (a42l0 x0 x1 x2) _ (fun h0 => (cond_both (a42l0 x0 x1 x2) _ (fun h1 => (cond_t (ev_and2 h1) (cond_both (a42l0 x0 x1 x2) _ (fun h2 => (cond_t (ev_and2 h2) (v42l0 x0 x1 x2 ((r42l0 m) (IntKind.i64.wrap (x0 + 1)) x1 (x2.set (Int.toNat x0) (x1.getD (Int.toNat x0) .empty)))))) (fun h2 => rfl)))) (fun h1 => rfl))) (fun h0 => rfl)))
set_option maxRecDepth 100000 in
set_option maxHeartbeats 4000000 in
theorem qm42l0 : ∀ m, SumKOk Try.prog (loopN Try.f42 0) 22 [0, 3, 4] [3] (q42l0 m) := by
  intro m
  induction m with
  | zero =>
    intro vals s x h1 h2 h3
    unfold q42l0 at h3; split at h3
    · rename_i h; split at h3
      · rename_i hc; obtain ⟨rfl, rfl⟩ := hc; exact absurd h3 (by simp [r42l0, firstT, Nat.beq])
      · exact noQ_ok _ _ _ h1 h2 h3
    · exact noQ_ok _ _ _ h1 h2 h3
  | succ m ih =>
    intro vals s x h1 h2 h3
    unfold q42l0 at h3; split at h3
    · rename_i h; split at h3
      · rename_i hc; obtain ⟨rfl, rfl⟩ := hc; exact sum_step ok3 extOk mixed ((lfOkF_no _ _).inner (by kernel_rfl)) ih h1 h2 h (e42l0 m _ _ _) rfl h3
      · exact noQ_ok _ _ _ h1 h2 h3
    · exact noQ_ok _ _ _ h1 h2 h3
noncomputable def Q42l0 : SumK := fun vals s => q42l0 (fuelOf vals s.h) vals s
theorem qok42l0 : SumKOk Try.prog (loopN Try.f42 0) 22 [0, 3, 4] [3] Q42l0 := fuel_ok qm42l0 fuelOf
noncomputable def L42_1 : LoopT := addL noL 4 ([0, 3, 4], []) (sumK 22 [0, 3, 4] [3] Q42l0)
theorem lok42_1 : LfOkF Try.prog L42_1 Try.f42 := lfOkF_add (lfOkF_no _ _) qok42l0 (by kernel_rfl) (by kernel_rfl) (by kernel_rfl)

/-- laws.toStringS -/
noncomputable def r42 (x0 : List ByteArray) : Nat × List ByteArray :=
 let c0 := (r42l0 (1000 + (List.replicate x0.length (ByteArray.mk #[])).length + x0.length) 0 x0 (List.replicate x0.length (ByteArray.mk #[])))
 cond (((decide ((0 : Int) ≤ ((x0.length : Nat) : Int)) && decide ((((x0.length : Nat) : Int) : Int) ≤ ((x0.length : Nat) : Int))) && decide (((16 : Nat) : Int) * ((x0.length : Nat) : Int) ≤ 281474976710656)) && decide (((x0.length : Nat) : Int) ≤ 9223372036854775807))
  (cond (Nat.beq (c0.1) 0)
  (0, (c0.2))
  (1, []))
  (1, [])
noncomputable def a42 (x0 : List ByteArray) (p : Nat × List ByteArray) : Res := firstT [((Nat.beq (p.1) 0), wsl 1, ⟨[⟨false, (some (.strs x0))⟩, ⟨true, (some (.strs (p.2)))⟩], 1, []⟩)]
noncomputable def w42 (x0 : List ByteArray) : Res :=
 let c0 := (r42l0 (1000 + (List.replicate x0.length (ByteArray.mk #[])).length + x0.length) 0 x0 (List.replicate x0.length (ByteArray.mk #[])))
 (cond (((decide ((0 : Int) ≤ ((x0.length : Nat) : Int)) && decide ((((x0.length : Nat) : Int) : Int) ≤ ((x0.length : Nat) : Int))) && decide (((16 : Nat) : Int) * ((x0.length : Nat) : Int) ≤ 281474976710656)) && decide (((x0.length : Nat) : Int) ≤ 9223372036854775807))
 (cond (Nat.beq (c0.1) 0)
  (a42 x0 (0, (c0.2)))
  none)
 none)
set_option maxRecDepth 100000 in
set_option maxHeartbeats 4000000 in
theorem e42 (x0 : List ByteArray) : evFn Try.prog ext T3 L42_1 200 Try.f42 [wsl 0] ⟨[⟨false, (some (.strs x0))⟩], 1, []⟩ = firstT [((Nat.beq ((r42 x0).1) 0), wsl 1, ⟨[⟨false, (some (.strs x0))⟩, ⟨true, (some (.strs ((r42 x0).2)))⟩], 1, []⟩)] :=
 (show evFn Try.prog ext T3 L42_1 200 Try.f42 [wsl 0] ⟨[⟨false, (some (.strs x0))⟩], 1, []⟩ = w42 x0 from by kernel_rfl).trans
 (show w42 x0 = a42 x0 (r42 x0) from by unfold w42 r42; exact (cond_app (a42 x0) _ (cond_app (a42 x0) _ rfl rfl) rfl))
noncomputable def s42 (args : List Value) (s : St) : List (Bool × Value × St) :=
 match args, s.h with
 | [.iface f0 .nilIface], [⟨false, some (.strs x0)⟩] => if f0 = 0 then [((Nat.beq ((r42 x0).1) 0), wsl 1, ⟨[⟨false, (some (.strs x0))⟩, ⟨true, (some (.strs ((r42 x0).2)))⟩], 1, []⟩)] else T3 42 args s
 | _, _ => T3 42 args s
noncomputable def T4 : CallF := addF T3 42 s42
set_option maxRecDepth 100000 in
set_option maxHeartbeats 4000000 in
theorem ok4 : CfOk Try.prog T4 := by
  refine cfOk_add ok3 fun args s r s' h1 h2 h3 => ?_
  unfold s42 at h3; split at h3
  · rename_i h; split at h3
    · rename_i hc; obtain ⟨rfl⟩ := hc; exact callOk ok3 Try.func42 h1 h2 h lok42_1.body (e42 _) rfl h3
    · exact ok3 _ _ _ _ _ h1 h2 h3
  · exact ok3 _ _ _ _ _ h1 h2 h3

/-- laws.toOp -/
noncomputable def r73 (x0 x1 : Int) (x2 : Nat) : Unit :=
 ()
noncomputable def a73 (x0 x1 : Int) (x2 : Nat) (p : Unit) : Res := firstT [(true, .agg #[.int .i8 x0, .int .i16 x1, .float .f32 x2], st0)]
noncomputable def w73 (x0 x1 : Int) (x2 : Nat) : Res :=
 (a73 x0 x1 x2 ())
set_option maxRecDepth 100000 in
set_option maxHeartbeats 4000000 in
theorem e73 (x0 x1 : Int) (x2 : Nat) : evFn Try.prog ext T4 noL 200 Try.f73 [.agg #[.int .i8 x0, .int .i16 x1, .float .f32 x2]] st0 = firstT [(true, .agg #[.int .i8 x0, .int .i16 x1, .float .f32 x2], st0)] :=
 (show evFn Try.prog ext T4 noL 200 Try.f73 [.agg #[.int .i8 x0, .int .i16 x1, .float .f32 x2]] st0 = w73 x0 x1 x2 from by kernel_rfl).trans
 (show w73 x0 x1 x2 = a73 x0 x1 x2 (r73 x0 x1 x2) from by unfold w73 r73; exact rfl)
noncomputable def s73 (args : List Value) (s : St) : List (Bool × Value × St) :=
 match args, s.h with
 | [.agg ⟨[.int .i8 x0, .int .i16 x1, .float .f32 x2]⟩], [] => [(true, .agg #[.int .i8 x0, .int .i16 x1, .float .f32 x2], st0)]
 | _, _ => T4 73 args s
noncomputable def T5 : CallF := addF T4 73 s73
set_option maxRecDepth 100000 in
set_option maxHeartbeats 4000000 in
theorem ok5 : CfOk Try.prog T5 := by
  refine cfOk_add ok4 fun args s r s' h1 h2 h3 => ?_
  unfold s73 at h3; split at h3
  · rename_i h; exact callOk ok4 Try.func73 h1 h2 h (lfOkF_no _ _).body (e73 _ _ _) rfl h3
  · exact ok4 _ _ _ _ _ h1 h2 h3

/-- laws.toOpS, loop 0: one round -/
noncomputable def b43l0 (ih : Int → List (List Int) → List (List Int) → (Nat × List (List Int))) (x0 : Int) (x1 x2 : List (List Int)) : Nat × List (List Int) :=
 cond (decide ((x0 : Int) < ((x1.length : Nat) : Int)))
  (cond ((decide ((0 : Int) ≤ x0)) && (Nat.blt (Int.toNat x0) x1.length))
  (cond ((decide ((0 : Int) ≤ x0)) && (Nat.blt (Int.toNat x0) x2.length))
  (ih (IntKind.i64.wrap (x0 + 1)) x1 (x2.set (Int.toNat x0) [((x1.getD (Int.toNat x0) []).getD 0 0), ((x1.getD (Int.toNat x0) []).getD 1 0), (((Int.toNat ((x1.getD (Int.toNat x0) []).getD 2 0)) : Nat) : Int)]))
  (1, []))
  (1, []))
  (0, x2)
noncomputable def r43l0 : Nat → Int → List (List Int) → List (List Int) → (Nat × List (List Int))
 | 0 => fun _ _ _ => (1, [])
 | m + 1 => b43l0 (r43l0 m)
noncomputable def a43l0 (x0 : Int) (x1 x2 : List (List Int)) (p : Nat × List (List Int)) : Option (Fin' × List Value × St) := firstT ([((Nat.beq (p.1) 0), .exit 0, [wsl 1], ⟨[⟨false, (some (.tab [.int .i8, .int .i16, .fl .f32] x1))⟩, ⟨true, (some (.tab [.int .i8, .int .i16, .fl .f32] (p.2)))⟩], 2, [1]⟩)].map fun (b, x) => (b, (x.1, frameOf 23 [3] x.2.1, x.2.2)))
noncomputable def u43l0 (x0 : Int) (x1 x2 : List (List Int)) (p : Nat × List (List Int)) : Option (Fin' × List Value × St) := alts ([((Nat.beq (p.1) 0), .exit 0, [wsl 1], ⟨[⟨false, (some (.tab [.int .i8, .int .i16, .fl .f32] x1))⟩, ⟨true, (some (.tab [.int .i8, .int .i16, .fl .f32] (p.2)))⟩], 2, [1]⟩)].map fun (b, x) => (b, (x.1, frameOf 23 [3] x.2.1, x.2.2))) some
theorem v43l0 (x0 : Int) (x1 x2 : List (List Int)) (p : Nat × List (List Int)) : u43l0 x0 x1 x2 p = a43l0 x0 x1 x2 p := alts_first _
noncomputable def q43l0 (m : Nat) : SumK := fun vals s =>
 match vals, s.h with
 | [.iface f0 .nilIface, .iface f1 .nilIface, .int .i64 x0], [⟨false, some (.tab [.int .i8, .int .i16, .fl .f32] x1)⟩, ⟨true, some (.tab [.int .i8, .int .i16, .fl .f32] x2)⟩] => if f0 = 0 ∧ f1 = 1 then [((Nat.beq ((r43l0 m x0 x1 x2).1) 0), .exit 0, [wsl 1], ⟨[⟨false, (some (.tab [.int .i8, .int .i16, .fl .f32] x1))⟩, ⟨true, (some (.tab [.int .i8, .int .i16, .fl .f32] ((r43l0 m x0 x1 x2).2)))⟩], 2, [1]⟩)] else noQ vals s
 | _, _ => noQ vals s
noncomputable def w43l0 (ih : Int → List (List Int) → List (List Int) → (Nat × List (List Int))) (x0 : Int) (x1 x2 : List (List Int)) : Option (Fin' × List Value × St) :=
 (cond (decide ((x0 : Int) < ((x1.length : Nat) : Int)))
 (cond ((decide ((0 : Int) ≤ x0)) && (Nat.blt (Int.toNat x0) x1.length))
  (cond (Nat.blt (Int.toNat x0) x1.length)
  (cond ((decide ((0 : Int) ≤ x0)) && (Nat.blt (Int.toNat x0) x2.length))
  (cond (Nat.blt (Int.toNat x0) x2.length)
  (u43l0 x0 x1 x2 (ih (IntKind.i64.wrap (x0 + 1)) x1 (x2.set (Int.toNat x0) [((x1.getD (Int.toNat x0) []).getD 0 0), ((x1.getD (Int.toNat x0) []).getD 1 0), (((Int.toNat ((x1.getD (Int.toNat x0) []).getD 2 0)) : Nat) : Int)])))
  none)
  none)
  none)
  none)
 (a43l0 x0 x1 x2 (0, x2)))
set_option maxRecDepth 100000 in
set_option maxHeartbeats 4000000 in
theorem e43l0 (m : Nat) (x0 : Int) (x1 x2 : List (List Int)) : evC Try.prog ext T5 noL 200 (loopN Try.f43 0) (loopTail ([0, 3, 4], []) [3] [1] (sumK 23 [0, 3, 4] [3] (q43l0 m))) (frameOf 23 [0, 3, 4] [wsl 0, wsl 1, .int .i64 x0]) ⟨[⟨false, (some (.tab [.int .i8, .int .i16, .fl .f32] x1))⟩, ⟨true, (some (.tab [.int .i8, .int .i16, .fl .f32] x2))⟩], 2, []⟩ = firstT ([((Nat.beq ((r43l0 (m + 1) x0 x1 x2).1) 0), .exit 0, [wsl 1], ⟨[⟨false, (some (.tab [.int .i8, .int .i16, .fl .f32] x1))⟩, ⟨true, (some (.tab [.int .i8, .int .i16, .fl .f32] ((r43l0 (m + 1) x0 x1 x2).2)))⟩], 2, [1]⟩)].map fun (b, x) => (b, (x.1, frameOf 23 [3] x.2.1, x.2.2))) :=
 (show evC Try.prog ext T5 noL 200 (loopN Try.f43 0) (loopTail ([0, 3, 4], []) [3] [1] (sumK 23 [0, 3, 4] [3] (q43l0 m))) (frameOf 23 [0, 3, 4] [wsl 0, wsl 1, .int .i64 x0]) ⟨[⟨false, (some (.tab [.int .i8, .int .i16, .fl .f32] x1))⟩, ⟨true, (some (.tab [.int .i8, .int .i16, .fl .f32] x2))⟩], 2, []⟩ = w43l0 (r43l0 m) x0 x1 x2 from by kernel_rfl).trans
 (show w43l0 (r43l0 m) x0 x1 x2 = a43l0 x0 x1 x2 (r43l0 (m + 1) x0 x1 x2) from by unfold w43l0; show _ = a43l0 x0 x1 x2 (b43l0 (r43l0 m) x0 x1 x2); unfold b43l0; exact (cond_both (a43l0 x0 x1 x2) _ (fun h0 => (cond_both (a43l0 x0 x1 x2) _ (fun h1 => (cond_t (ev_and2 h1) (cond_both (a43l0 x0 x1 x2) _ (fun h2 => (cond_t (ev_and2 h2) (v43l0 x0 x1 x2 ((r43l0 m) (IntKind.i64.wrap (x0 + 1)) x1 (x2.set (Int.toNat x0) [((x1.getD (Int.toNat x0) []).getD 0 0), ((x1.getD (Int.toNat x0) []).getD 1 0), (((Int.toNat ((x1.getD (Int.toNat x0) []).getD 2 0)) : Nat) : Int)]))))) (fun h2 => rfl)))) (fun h1 => rfl))) (fun h0 => rfl)))
set_option maxRecDepth 100000 in
set_option maxHeartbeats 4000000 in
theorem qm43l0 : ∀ m, SumKOk Try.prog (loopN Try.f43 0) 23 [0, 3, 4] [3] (q43l0 m) := by
  intro m
  induction m with
  | zero =>
    intro vals s x h1 h2 h3
    unfold q43l0 at h3; split at h3
    · rename_i h; split at h3
      · rename_i hc; obtain ⟨rfl, rfl⟩ := hc; exact absurd h3 (by simp [r43l0, firstT, Nat.beq])
      · exact noQ_ok _ _ _ h1 h2 h3
    · exact noQ_ok _ _ _ h1 h2 h3
  | succ m ih =>
    intro vals s x h1 h2 h3
    unfold q43l0 at h3; split at h3
    · rename_i h; split at h3
      · rename_i hc; obtain ⟨rfl, rfl⟩ := hc; exact sum_step ok5 extOk mixed ((lfOkF_no _ _).inner (by kernel_rfl)) ih h1 h2 h (e43l0 m _ _ _) rfl h3
      · exact noQ_ok _ _ _ h1 h2 h3
    · exact noQ_ok _ _ _ h1 h2 h3
noncomputable def Q43l0 : SumK := fun vals s => q43l0 (fuelOf vals s.h) vals s
theorem qok43l0 : SumKOk Try.prog (loopN Try.f43 0) 23 [0, 3, 4] [3] Q43l0 := fuel_ok qm43l0 fuelOf
noncomputable def L43_1 : LoopT := addL noL 4 ([0, 3, 4], []) (sumK 23 [0, 3, 4] [3] Q43l0)
theorem lok43_1 : LfOkF Try.prog L43_1 Try.f43 := lfOkF_add (lfOkF_no _ _) qok43l0 (by kernel_rfl) (by kernel_rfl) (by kernel_rfl)

/-- laws.toOpS -/
noncomputable def r43 (x0 : List (List Int)) : Nat × List (List Int) :=
 let c3 := (r43l0 (1000 + (List.replicate x0.length ([0, 0, 0] : List Int)).length + x0.length) 0 x0 (List.replicate x0.length ([0, 0, 0] : List Int)))
 cond (((decide ((0 : Int) ≤ ((x0.length : Nat) : Int)) && decide ((((x0.length : Nat) : Int) : Int) ≤ ((x0.length : Nat) : Int))) && decide (((8 : Nat) : Int) * ((x0.length : Nat) : Int) ≤ 281474976710656)) && decide (((x0.length : Nat) : Int) ≤ 9223372036854775807))
  (cond (Nat.beq (c3.1) 0)
  (0, (c3.2))
  (1, []))
  (1, [])
noncomputable def a43 (x0 : List (List Int)) (p : Nat × List (List Int)) : Res := firstT [((Nat.beq (p.1) 0), wsl 1, ⟨[⟨false, (some (.tab [.int .i8, .int .i16, .fl .f32] x0))⟩, ⟨true, (some (.tab [.int .i8, .int .i16, .fl .f32] (p.2)))⟩], 1, []⟩)]
noncomputable def w43 (x0 : List (List Int)) : Res :=
 let c3 := (r43l0 (1000 + (List.replicate x0.length ([0, 0, 0] : List Int)).length + x0.length) 0 x0 (List.replicate x0.length ([0, 0, 0] : List Int)))
 (cond (((decide ((0 : Int) ≤ ((x0.length : Nat) : Int)) && decide ((((x0.length : Nat) : Int) : Int) ≤ ((x0.length : Nat) : Int))) && decide (((8 : Nat) : Int) * ((x0.length : Nat) : Int) ≤ 281474976710656)) && decide (((x0.length : Nat) : Int) ≤ 9223372036854775807))
 (cond (Nat.beq (c3.1) 0)
  (a43 x0 (0, (c3.2)))
  none)
 none)
set_option maxRecDepth 100000 in
set_option maxHeartbeats 4000000 in
theorem e43 (x0 : List (List Int)) : evFn Try.prog ext T5 L43_1 200 Try.f43 [wsl 0] ⟨[⟨false, (some (.tab [.int .i8, .int .i16, .fl .f32] x0))⟩], 1, []⟩ = firstT [((Nat.beq ((r43 x0).1) 0), wsl 1, ⟨[⟨false, (some (.tab [.int .i8, .int .i16, .fl .f32] x0))⟩, ⟨true, (some (.tab [.int .i8, .int .i16, .fl .f32] ((r43 x0).2)))⟩], 1, []⟩)] :=
 (show evFn Try.prog ext T5 L43_1 200 Try.f43 [wsl 0] ⟨[⟨false, (some (.tab [.int .i8, .int .i16, .fl .f32] x0))⟩], 1, []⟩ = w43 x0 from by kernel_rfl).trans
 (show w43 x0 = a43 x0 (r43 x0) from by unfold w43 r43; exact (cond_app (a43 x0) _ (cond_app (a43 x0) _ rfl rfl) rfl))
noncomputable def s43 (args : List Value) (s : St) : List (Bool × Value × St) :=
 match args, s.h with
 | [.iface f0 .nilIface], [⟨false, some (.tab [.int .i8, .int .i16, .fl .f32] x0)⟩] => if f0 = 0 then [((Nat.beq ((r43 x0).1) 0), wsl 1, ⟨[⟨false, (some (.tab [.int .i8, .int .i16, .fl .f32] x0))⟩, ⟨true, (some (.tab [.int .i8, .int .i16, .fl .f32] ((r43 x0).2)))⟩], 1, []⟩)] else T5 43 args s
 | _, _ => T5 43 args s
noncomputable def T6 : CallF := addF T5 43 s43
set_option maxRecDepth 100000 in
set_option maxHeartbeats 4000000 in
theorem ok6 : CfOk Try.prog T6 := by
  refine cfOk_add ok5 fun args s r s' h1 h2 h3 => ?_
  unfold s43 at h3; split at h3
  · rename_i h; split at h3
    · rename_i hc; obtain ⟨rfl⟩ := hc; exact callOk ok5 Try.func43 h1 h2 h lok43_1.body (e43 _) rfl h3
    · exact ok5 _ _ _ _ _ h1 h2 h3
  · exact ok5 _ _ _ _ _ h1 h2 h3

/-- laws.toProgram -/
noncomputable def r12 (x0 : List ByteArray) (x1 : List (List Int)) : Nat × List ByteArray × List (List Int) :=
 cond (Nat.beq ((r42 x0).1) 0)
  (cond (Nat.beq ((r43 x1).1) 0)
  (0, ((r42 x0).2), ((r43 x1).2))
  (1, [], []))
  (1, [], [])
noncomputable def a12 (x0 : List ByteArray) (x1 : List (List Int)) (p : Nat × List ByteArray × List (List Int)) : Res := firstT [((Nat.beq (p.1) 0), .agg #[wsl 2, wsl 3], ⟨[⟨false, (some (.strs x0))⟩, ⟨false, (some (.tab [.int .i8, .int .i16, .fl .f32] x1))⟩, ⟨true, (some (.strs (p.2.1)))⟩, ⟨true, (some (.tab [.int .i8, .int .i16, .fl .f32] (p.2.2)))⟩], 2, []⟩)]
noncomputable def w12 (x0 : List ByteArray) (x1 : List (List Int)) : Res :=
 (cond (Nat.beq ((r42 x0).1) 0)
 (cond (Nat.beq ((r43 x1).1) 0)
  (a12 x0 x1 (0, ((r42 x0).2), ((r43 x1).2)))
  none)
 none)
set_option maxRecDepth 100000 in
set_option maxHeartbeats 4000000 in
theorem e12 (x0 : List ByteArray) (x1 : List (List Int)) : evFn Try.prog ext T6 noL 200 Try.f12 [.agg #[wsl 0, wsl 1]] ⟨[⟨false, (some (.strs x0))⟩, ⟨false, (some (.tab [.int .i8, .int .i16, .fl .f32] x1))⟩], 2, []⟩ = firstT [((Nat.beq ((r12 x0 x1).1) 0), .agg #[wsl 2, wsl 3], ⟨[⟨false, (some (.strs x0))⟩, ⟨false, (some (.tab [.int .i8, .int .i16, .fl .f32] x1))⟩, ⟨true, (some (.strs ((r12 x0 x1).2.1)))⟩, ⟨true, (some (.tab [.int .i8, .int .i16, .fl .f32] ((r12 x0 x1).2.2)))⟩], 2, []⟩)] :=
 (show evFn Try.prog ext T6 noL 200 Try.f12 [.agg #[wsl 0, wsl 1]] ⟨[⟨false, (some (.strs x0))⟩, ⟨false, (some (.tab [.int .i8, .int .i16, .fl .f32] x1))⟩], 2, []⟩ = w12 x0 x1 from by kernel_rfl).trans
 (show w12 x0 x1 = a12 x0 x1 (r12 x0 x1) from by unfold w12 r12; exact (cond_app (a12 x0 x1) _ (cond_app (a12 x0 x1) _ rfl rfl) rfl))
noncomputable def s12 (args : List Value) (s : St) : List (Bool × Value × St) :=
 match args, s.h with
 | [.agg ⟨[.iface f0 .nilIface, .iface f1 .nilIface]⟩], [⟨false, some (.strs x0)⟩, ⟨false, some (.tab [.int .i8, .int .i16, .fl .f32] x1)⟩] => if f0 = 0 ∧ f1 = 1 then [((Nat.beq ((r12 x0 x1).1) 0), .agg #[wsl 2, wsl 3], ⟨[⟨false, (some (.strs x0))⟩, ⟨false, (some (.tab [.int .i8, .int .i16, .fl .f32] x1))⟩, ⟨true, (some (.strs ((r12 x0 x1).2.1)))⟩, ⟨true, (some (.tab [.int .i8, .int .i16, .fl .f32] ((r12 x0 x1).2.2)))⟩], 2, []⟩)] else T6 12 args s
 | _, _ => T6 12 args s
noncomputable def T7 : CallF := addF T6 12 s12
set_option maxRecDepth 100000 in
set_option maxHeartbeats 4000000 in
theorem ok7 : CfOk Try.prog T7 := by
  refine cfOk_add ok6 fun args s r s' h1 h2 h3 => ?_
  unfold s12 at h3; split at h3
  · rename_i h; split at h3
    · rename_i hc; obtain ⟨rfl, rfl⟩ := hc; exact callOk ok6 Try.func12 h1 h2 h (lfOkF_no _ _).body (e12 _ _) rfl h3
    · exact ok6 _ _ _ _ _ h1 h2 h3
  · exact ok6 _ _ _ _ _ h1 h2 h3

/-- laws.toSpan -/
noncomputable def r29 (x0 x1 : Nat) : Unit :=
 ()
noncomputable def a29 (x0 x1 : Nat) (p : Unit) : Res := firstT [(true, .agg #[.float .f32 x0, .float .f32 x1], st0)]
noncomputable def w29 (x0 x1 : Nat) : Res :=
 (a29 x0 x1 ())
set_option maxRecDepth 100000 in
set_option maxHeartbeats 4000000 in
theorem e29 (x0 x1 : Nat) : evFn Try.prog ext T7 noL 200 Try.f29 [.agg #[.float .f32 x0, .float .f32 x1]] st0 = firstT [(true, .agg #[.float .f32 x0, .float .f32 x1], st0)] :=
 (show evFn Try.prog ext T7 noL 200 Try.f29 [.agg #[.float .f32 x0, .float .f32 x1]] st0 = w29 x0 x1 from by kernel_rfl).trans
 (show w29 x0 x1 = a29 x0 x1 (r29 x0 x1) from by unfold w29 r29; exact rfl)
noncomputable def s29 (args : List Value) (s : St) : List (Bool × Value × St) :=
 match args, s.h with
 | [.agg ⟨[.float .f32 x0, .float .f32 x1]⟩], [] => [(true, .agg #[.float .f32 x0, .float .f32 x1], st0)]
 | _, _ => T7 29 args s
noncomputable def T8 : CallF := addF T7 29 s29
set_option maxRecDepth 100000 in
set_option maxHeartbeats 4000000 in
theorem ok8 : CfOk Try.prog T8 := by
  refine cfOk_add ok7 fun args s r s' h1 h2 h3 => ?_
  unfold s29 at h3; split at h3
  · rename_i h; exact callOk ok7 Try.func29 h1 h2 h (lfOkF_no _ _).body (e29 _ _) rfl h3
  · exact ok7 _ _ _ _ _ h1 h2 h3

/-- laws.toSpanA4 -/
noncomputable def r28 (x0 x1 x2 x3 x4 x5 x6 x7 : Nat) : Unit :=
 ()
noncomputable def a28 (x0 x1 x2 x3 x4 x5 x6 x7 : Nat) (p : Unit) : Res := firstT [(true, .agg #[.float .f32 x0, .float .f32 x1, .float .f32 x2, .float .f32 x3, .float .f32 x4, .float .f32 x5, .float .f32 x6, .float .f32 x7], st0)]
noncomputable def w28 (x0 x1 x2 x3 x4 x5 x6 x7 : Nat) : Res :=
 (a28 x0 x1 x2 x3 x4 x5 x6 x7 ())
set_option maxRecDepth 100000 in
set_option maxHeartbeats 4000000 in
theorem e28 (x0 x1 x2 x3 x4 x5 x6 x7 : Nat) : evFn Try.prog ext T8 noL 200 Try.f28 [.agg #[.float .f32 x0, .float .f32 x1, .float .f32 x2, .float .f32 x3, .float .f32 x4, .float .f32 x5, .float .f32 x6, .float .f32 x7]] st0 = firstT [(true, .agg #[.float .f32 x0, .float .f32 x1, .float .f32 x2, .float .f32 x3, .float .f32 x4, .float .f32 x5, .float .f32 x6, .float .f32 x7], st0)] :=
 (show evFn Try.prog ext T8 noL 200 Try.f28 [.agg #[.float .f32 x0, .float .f32 x1, .float .f32 x2, .float .f32 x3, .float .f32 x4, .float .f32 x5, .float .f32 x6, .float .f32 x7]] st0 = w28 x0 x1 x2 x3 x4 x5 x6 x7 from by kernel_rfl).trans
 (show w28 x0 x1 x2 x3 x4 x5 x6 x7 = a28 x0 x1 x2 x3 x4 x5 x6 x7 (r28 x0 x1 x2 x3 x4 x5 x6 x7) from by unfold w28 r28; exact rfl)
noncomputable def s28 (args : List Value) (s : St) : List (Bool × Value × St) :=
 match args, s.h with
 | [.agg ⟨[.float .f32 x0, .float .f32 x1, .float .f32 x2, .float .f32 x3, .float .f32 x4, .float .f32 x5, .float .f32 x6, .float .f32 x7]⟩], [] => [(true, .agg #[.float .f32 x0, .float .f32 x1, .float .f32 x2, .float .f32 x3, .float .f32 x4, .float .f32 x5, .float .f32 x6, .float .f32 x7], st0)]
 | _, _ => T8 28 args s
noncomputable def T9 : CallF := addF T8 28 s28
set_option maxRecDepth 100000 in
set_option maxHeartbeats 4000000 in
theorem ok9 : CfOk Try.prog T9 := by
  refine cfOk_add ok8 fun args s r s' h1 h2 h3 => ?_
  unfold s28 at h3; split at h3
  · rename_i h; exact callOk ok8 Try.func28 h1 h2 h (lfOkF_no _ _).body (e28 _ _ _ _ _ _ _ _) rfl h3
  · exact ok8 _ _ _ _ _ h1 h2 h3

/-- spec.l05Letter -/
noncomputable def r91 (x0 : Int) : Bool :=
 cond (decide ((x0 : Int) ≥ 97))
  ((decide ((x0 : Int) ≤ 122)))
  (false)
noncomputable def a91 (x0 : Int) (p : Bool) : Res := firstT [(true, .bool p, st0)]
noncomputable def w91 (x0 : Int) : Res :=
 (cond (decide ((x0 : Int) ≥ 97))
 (a91 x0 ((decide ((x0 : Int) ≤ 122))))
 (a91 x0 (false)))
set_option maxRecDepth 100000 in
set_option maxHeartbeats 4000000 in
theorem e91 (x0 : Int) : evFn Try.prog ext T9 noL 200 Try.f91 [.int .u8 x0] st0 = firstT [(true, .bool (r91 x0), st0)] :=
 (show evFn Try.prog ext T9 noL 200 Try.f91 [.int .u8 x0] st0 = w91 x0 from by kernel_rfl).trans
 (show w91 x0 = a91 x0 (r91 x0) from by unfold w91 r91; exact (cond_app (a91 x0) _ rfl rfl))
noncomputable def s91 (args : List Value) (s : St) : List (Bool × Value × St) :=
 match args, s.h with
 | [.int .u8 x0], [] => [(true, .bool (r91 x0), st0)]
 | _, _ => T9 91 args s
noncomputable def T10 : CallF := addF T9 91 s91
set_option maxRecDepth 100000 in
set_option maxHeartbeats 4000000 in
theorem ok10 : CfOk Try.prog T10 := by
  refine cfOk_add ok9 fun args s r s' h1 h2 h3 => ?_
  unfold s91 at h3; split at h3
  · rename_i h; exact callOk ok9 Try.func91 h1 h2 h (lfOkF_no _ _).body (e91 _) rfl h3
  · exact ok9 _ _ _ _ _ h1 h2 h3

/-- spec.l05Name, loop 0: one round -/
noncomputable def b75l0 (ih : ByteArray → Int → Nat) (x0 : ByteArray) (x1 : Int) : Nat :=
 cond (decide ((x1 : Int) < (((x0.size) : Nat) : Int)))
  (cond ((decide ((0 : Int) ≤ x1)) && (Nat.blt (Int.toNat x1) (x0.size)))
  (cond (!(r91 ((UInt8.toNat (List.getD (ByteArray.data x0).toList (Int.toNat x1) 0) : Nat) : Int)))
  (0)
  (ih x0 (IntKind.i64.wrap (x1 + 1))))
  (2))
  (1)
noncomputable def r75l0 : Nat → ByteArray → Int → Nat
 | 0 => fun _ _ => (2)
 | m + 1 => b75l0 (r75l0 m)
noncomputable def a75l0 (x0 : ByteArray) (x1 : Int) (p : Nat) : Option (Fin' × List Value × St) := firstT ([((Nat.beq p 0), .ret, [.string x0, .bool false], st0), ((Nat.beq p 1), .exit 0, [.string x0, anyV], st0)].map fun (b, x) => (b, (x.1, frameOf 30 [0, 2] x.2.1, x.2.2)))
noncomputable def u75l0 (x0 : ByteArray) (x1 : Int) (p : Nat) : Option (Fin' × List Value × St) := alts ([((Nat.beq p 0), .ret, [.string x0, .bool false], st0), ((Nat.beq p 1), .exit 0, [.string x0, anyV], st0)].map fun (b, x) => (b, (x.1, frameOf 30 [0, 2] x.2.1, x.2.2))) some
theorem v75l0 (x0 : ByteArray) (x1 : Int) (p : Nat) : u75l0 x0 x1 p = a75l0 x0 x1 p := alts_first _
noncomputable def q75l0 (m : Nat) : SumK := fun vals s =>
 match vals, s.h with
 | [.string x0, .int .i64 x1], [] => [((Nat.beq (r75l0 m x0 x1) 0), .ret, [.string x0, .bool false], st0), ((Nat.beq (r75l0 m x0 x1) 1), .exit 0, [.string x0, anyV], st0)]
 | _, _ => noQ vals s
noncomputable def w75l0 (ih : ByteArray → Int → Nat) (x0 : ByteArray) (x1 : Int) : Option (Fin' × List Value × St) :=
 (cond (decide ((x1 : Int) < (((x0.size) : Nat) : Int)))
 (cond ((decide ((0 : Int) ≤ x1)) && (Nat.blt (Int.toNat x1) (x0.size)))
  (cond (!(r91 ((UInt8.toNat (List.getD (ByteArray.data x0).toList (Int.toNat x1) 0) : Nat) : Int)))
  (a75l0 x0 x1 (0))
  (u75l0 x0 x1 (ih x0 (IntKind.i64.wrap (x1 + 1)))))
  none)
 (a75l0 x0 x1 (1)))
set_option maxRecDepth 100000 in
set_option maxHeartbeats 4000000 in
theorem e75l0 (m : Nat) (x0 : ByteArray) (x1 : Int) : evC Try.prog ext T10 noL 200 (loopN Try.f75 0) (loopTail ([0, 3], []) [0, 2] [] (sumK 30 [0, 3] [0, 2] (q75l0 m))) (frameOf 30 [0, 3] [.string x0, .int .i64 x1]) ⟨[], 0, []⟩ = firstT ([((Nat.beq (r75l0 (m + 1) x0 x1) 0), .ret, [.string x0, .bool false], st0), ((Nat.beq (r75l0 (m + 1) x0 x1) 1), .exit 0, [.string x0, anyV], st0)].map fun (b, x) => (b, (x.1, frameOf 30 [0, 2] x.2.1, x.2.2))) :=
 (show evC Try.prog ext T10 noL 200 (loopN Try.f75 0) (loopTail ([0, 3], []) [0, 2] [] (sumK 30 [0, 3] [0, 2] (q75l0 m))) (frameOf 30 [0, 3] [.string x0, .int .i64 x1]) ⟨[], 0, []⟩ = w75l0 (r75l0 m) x0 x1 from by kernel_rfl).trans
 (show w75l0 (r75l0 m) x0 x1 = a75l0 x0 x1 (r75l0 (m + 1) x0 x1) from by unfold w75l0; show _ = a75l0 x0 x1 (b75l0 (r75l0 m) x0 x1); unfold b75l0; exact (cond_app (a75l0 x0 x1) _ (cond_app (a75l0 x0 x1) _ (cond_app (a75l0 x0 x1) _ rfl (v75l0 x0 x1 ((r75l0 m) x0 (IntKind.i64.wrap (x1 + 1))))) rfl) rfl))
set_option maxRecDepth 100000 in
set_option maxHeartbeats 4000000 in
theorem qm75l0 : ∀ m, SumKOk Try.prog (loopN Try.f75 0) 30 [0, 3] [0, 2] (q75l0 m) := by
  intro m
  induction m with
  | zero =>
    intro vals s x h1 h2 h3
    unfold q75l0 at h3; split at h3
    · rename_i h; exact absurd h3 (by simp [r75l0, firstT, Nat.beq])
    · exact noQ_ok _ _ _ h1 h2 h3
  | succ m ih =>
    intro vals s x h1 h2 h3
    unfold q75l0 at h3; split at h3
    · rename_i h; exact sum_step ok10 extOk mixed ((lfOkF_no _ _).inner (by kernel_rfl)) ih h1 h2 h (e75l0 m _ _) rfl h3
    · exact noQ_ok _ _ _ h1 h2 h3
noncomputable def Q75l0 : SumK := fun vals s => q75l0 (fuelOf vals s.h) vals s
theorem qok75l0 : SumKOk Try.prog (loopN Try.f75 0) 30 [0, 3] [0, 2] Q75l0 := fuel_ok qm75l0 fuelOf
noncomputable def L75_1 : LoopT := addL noL 3 ([0, 3], []) (sumK 30 [0, 3] [0, 2] Q75l0)
theorem lok75_1 : LfOkF Try.prog L75_1 Try.f75 := lfOkF_add (lfOkF_no _ _) qok75l0 (by kernel_rfl) (by kernel_rfl) (by kernel_rfl)

/-- spec.l00In -/
noncomputable def r68 (x0 x1 x2 : Int) : Bool :=
 cond (decide ((x0 : Int) ≥ x1))
  ((decide ((x0 : Int) ≤ x2)))
  (false)
noncomputable def a68 (x0 x1 x2 : Int) (p : Bool) : Res := firstT [(true, .bool p, st0)]
noncomputable def w68 (x0 x1 x2 : Int) : Res :=
 (cond (decide ((x0 : Int) ≥ x1))
 (a68 x0 x1 x2 ((decide ((x0 : Int) ≤ x2))))
 (a68 x0 x1 x2 (false)))
set_option maxRecDepth 100000 in
set_option maxHeartbeats 4000000 in
theorem e68 (x0 x1 x2 : Int) : evFn Try.prog ext T10 noL 200 Try.f68 [.int .i64 x0, .int .i64 x1, .int .i64 x2] st0 = firstT [(true, .bool (r68 x0 x1 x2), st0)] :=
 (show evFn Try.prog ext T10 noL 200 Try.f68 [.int .i64 x0, .int .i64 x1, .int .i64 x2] st0 = w68 x0 x1 x2 from by kernel_rfl).trans
 (show w68 x0 x1 x2 = a68 x0 x1 x2 (r68 x0 x1 x2) from by unfold w68 r68; exact (cond_app (a68 x0 x1 x2) _ rfl rfl))
noncomputable def s68 (args : List Value) (s : St) : List (Bool × Value × St) :=
 match args, s.h with
 | [.int .i64 x0, .int .i64 x1, .int .i64 x2], [] => [(true, .bool (r68 x0 x1 x2), st0)]
 | _, _ => T10 68 args s
noncomputable def T11 : CallF := addF T10 68 s68
set_option maxRecDepth 100000 in
set_option maxHeartbeats 4000000 in
theorem ok11 : CfOk Try.prog T11 := by
  refine cfOk_add ok10 fun args s r s' h1 h2 h3 => ?_
  unfold s68 at h3; split at h3
  · rename_i h; exact callOk ok10 Try.func68 h1 h2 h (lfOkF_no _ _).body (e68 _ _ _) rfl h3
  · exact ok10 _ _ _ _ _ h1 h2 h3

/-- spec.l05Name -/
noncomputable def r75 (x0 : ByteArray) : Nat × Bool :=
 cond (Nat.beq (r75l0 (1000 + (x0.size)) x0 0) 0)
  (0, false)
  (cond (Nat.beq (r75l0 (1000 + (x0.size)) x0 0) 1)
  (cond (r68 (((x0.size) : Nat) : Int) 1 8)
  (cond (!(x0.toList == (ByteArray.mk #[109, 105, 110]).toList))
  (cond (!(x0.toList == (ByteArray.mk #[109, 97, 120]).toList))
  (0, (!(x0.toList == (ByteArray.mk #[112, 105, 99, 107]).toList)))
  (0, false))
  (0, false))
  (0, false))
  (1, false))
noncomputable def a75 (x0 : ByteArray) (p : Nat × Bool) : Res := firstT [((Nat.beq (p.1) 0), .bool (p.2), st0)]
noncomputable def w75 (x0 : ByteArray) : Res :=
 (cond (Nat.beq (r75l0 (1000 + (x0.size)) x0 0) 0)
 (a75 x0 (0, false))
 (cond (Nat.beq (r75l0 (1000 + (x0.size)) x0 0) 1)
  (cond (r68 (((x0.size) : Nat) : Int) 1 8)
  (cond (!(x0.toList == (ByteArray.mk #[109, 105, 110]).toList))
  (cond (!(x0.toList == (ByteArray.mk #[109, 97, 120]).toList))
  (a75 x0 (0, (!(x0.toList == (ByteArray.mk #[112, 105, 99, 107]).toList))))
  (a75 x0 (0, false)))
  (a75 x0 (0, false)))
  (a75 x0 (0, false)))
  none))
set_option maxRecDepth 100000 in
set_option maxHeartbeats 4000000 in
theorem e75 (x0 : ByteArray) : evFn Try.prog ext T11 L75_1 200 Try.f75 [.string x0] st0 = firstT [((Nat.beq ((r75 x0).1) 0), .bool ((r75 x0).2), st0)] :=
 (show evFn Try.prog ext T11 L75_1 200 Try.f75 [.string x0] st0 = w75 x0 from by kernel_rfl).trans
 (show w75 x0 = a75 x0 (r75 x0) from by unfold w75 r75; exact (cond_app (a75 x0) _ rfl (cond_app (a75 x0) _ (cond_app (a75 x0) _ (cond_app (a75 x0) _ (cond_app (a75 x0) _ rfl rfl) rfl) rfl) rfl)))
noncomputable def s75 (args : List Value) (s : St) : List (Bool × Value × St) :=
 match args, s.h with
 | [.string x0], [] => [((Nat.beq ((r75 x0).1) 0), .bool ((r75 x0).2), st0)]
 | _, _ => T11 75 args s
noncomputable def T12 : CallF := addF T11 75 s75
set_option maxRecDepth 100000 in
set_option maxHeartbeats 4000000 in
theorem ok12 : CfOk Try.prog T12 := by
  refine cfOk_add ok11 fun args s r s' h1 h2 h3 => ?_
  unfold s75 at h3; split at h3
  · rename_i h; exact callOk ok11 Try.func75 h1 h2 h lok75_1.body (e75 _) rfl h3
  · exact ok11 _ _ _ _ _ h1 h2 h3

/-- spec.l05Find, loop 0: one round -/
noncomputable def b54l0 (ih : Nat → Nat → ByteArray → Int → List ByteArray → (Nat × Int)) (x0 x1 : Nat) (x2 : ByteArray) (x3 : Int) (x4 : List ByteArray) : Nat × Int :=
 cond (decide ((x3 : Int) < ((x0 : Nat) : Int)))
  (cond ((decide ((0 : Int) ≤ x3)) && (Nat.blt (Int.toNat x3) x0))
  (cond (Nat.blt (0 + (Int.toNat x3)) x4.length)
  (cond ((x4.getD (0 + (Int.toNat x3)) .empty).toList == x2.toList)
  (0, x3)
  (ih x0 x1 x2 (IntKind.i64.wrap (x3 + 1)) x4))
  (2, 0))
  (2, 0))
  (1, 0)
noncomputable def r54l0 : Nat → Nat → Nat → ByteArray → Int → List ByteArray → (Nat × Int)
 | 0 => fun _ _ _ _ _ => (2, 0)
 | m + 1 => b54l0 (r54l0 m)
noncomputable def a54l0 (x0 x1 : Nat) (x2 : ByteArray) (x3 : Int) (x4 : List ByteArray) (p : Nat × Int) : Option (Fin' × List Value × St) := firstT ([((Nat.beq (p.1) 0), .ret, [.int .i64 (p.2)], ⟨[⟨true, (some (.strs x4))⟩], 1, []⟩), ((Nat.beq (p.1) 1), .exit 0, [anyV], ⟨[⟨true, (some (.strs x4))⟩], 1, []⟩)].map fun (b, x) => (b, (x.1, frameOf 19 [4] x.2.1, x.2.2)))
noncomputable def u54l0 (x0 x1 : Nat) (x2 : ByteArray) (x3 : Int) (x4 : List ByteArray) (p : Nat × Int) : Option (Fin' × List Value × St) := alts ([((Nat.beq (p.1) 0), .ret, [.int .i64 (p.2)], ⟨[⟨true, (some (.strs x4))⟩], 1, []⟩), ((Nat.beq (p.1) 1), .exit 0, [anyV], ⟨[⟨true, (some (.strs x4))⟩], 1, []⟩)].map fun (b, x) => (b, (x.1, frameOf 19 [4] x.2.1, x.2.2))) some
theorem v54l0 (x0 x1 : Nat) (x2 : ByteArray) (x3 : Int) (x4 : List ByteArray) (p : Nat × Int) : u54l0 x0 x1 x2 x3 x4 p = a54l0 x0 x1 x2 x3 x4 p := alts_first _
noncomputable def q54l0 (m : Nat) : SumK := fun vals s =>
 match vals, s.h with
 | [.slice (some ⟨f0, f1, some f2⟩) x0 x1, .string x2, .int .i64 x3], [⟨true, some (.strs x4)⟩] => if f0 = 0 ∧ f1 = 0 ∧ f2 = 0 then [((Nat.beq ((r54l0 m x0 x1 x2 x3 x4).1) 0), .ret, [.int .i64 ((r54l0 m x0 x1 x2 x3 x4).2)], ⟨[⟨true, (some (.strs x4))⟩], 1, []⟩), ((Nat.beq ((r54l0 m x0 x1 x2 x3 x4).1) 1), .exit 0, [anyV], ⟨[⟨true, (some (.strs x4))⟩], 1, []⟩)] else noQ vals s
 | _, _ => noQ vals s
noncomputable def w54l0 (ih : Nat → Nat → ByteArray → Int → List ByteArray → (Nat × Int)) (x0 x1 : Nat) (x2 : ByteArray) (x3 : Int) (x4 : List ByteArray) : Option (Fin' × List Value × St) :=
 (cond (decide ((x3 : Int) < ((x0 : Nat) : Int)))
 (cond ((decide ((0 : Int) ≤ x3)) && (Nat.blt (Int.toNat x3) x0))
  (cond (Nat.blt (0 + (Int.toNat x3)) x4.length)
  (cond ((x4.getD (0 + (Int.toNat x3)) .empty).toList == x2.toList)
  (a54l0 x0 x1 x2 x3 x4 (0, x3))
  (u54l0 x0 x1 x2 x3 x4 (ih x0 x1 x2 (IntKind.i64.wrap (x3 + 1)) x4)))
  none)
  none)
 (a54l0 x0 x1 x2 x3 x4 (1, 0)))
set_option maxRecDepth 100000 in
set_option maxHeartbeats 4000000 in
theorem e54l0 (m : Nat) (x0 x1 : Nat) (x2 : ByteArray) (x3 : Int) (x4 : List ByteArray) : evC Try.prog ext T12 noL 200 (loopN Try.f54 0) (loopTail ([0, 1, 5], []) [4] [] (sumK 19 [0, 1, 5] [4] (q54l0 m))) (frameOf 19 [0, 1, 5] [.slice (some ⟨0, 0, some 0⟩) x0 x1, .string x2, .int .i64 x3]) ⟨[⟨true, (some (.strs x4))⟩], 1, []⟩ = firstT ([((Nat.beq ((r54l0 (m + 1) x0 x1 x2 x3 x4).1) 0), .ret, [.int .i64 ((r54l0 (m + 1) x0 x1 x2 x3 x4).2)], ⟨[⟨true, (some (.strs x4))⟩], 1, []⟩), ((Nat.beq ((r54l0 (m + 1) x0 x1 x2 x3 x4).1) 1), .exit 0, [anyV], ⟨[⟨true, (some (.strs x4))⟩], 1, []⟩)].map fun (b, x) => (b, (x.1, frameOf 19 [4] x.2.1, x.2.2))) :=
 (show evC Try.prog ext T12 noL 200 (loopN Try.f54 0) (loopTail ([0, 1, 5], []) [4] [] (sumK 19 [0, 1, 5] [4] (q54l0 m))) (frameOf 19 [0, 1, 5] [.slice (some ⟨0, 0, some 0⟩) x0 x1, .string x2, .int .i64 x3]) ⟨[⟨true, (some (.strs x4))⟩], 1, []⟩ = w54l0 (r54l0 m) x0 x1 x2 x3 x4 from by kernel_rfl).trans
 (show w54l0 (r54l0 m) x0 x1 x2 x3 x4 = a54l0 x0 x1 x2 x3 x4 (r54l0 (m + 1) x0 x1 x2 x3 x4) from by unfold w54l0; show _ = a54l0 x0 x1 x2 x3 x4 (b54l0 (r54l0 m) x0 x1 x2 x3 x4); unfold b54l0; exact (cond_app (a54l0 x0 x1 x2 x3 x4) _ (cond_app (a54l0 x0 x1 x2 x3 x4) _ (cond_app (a54l0 x0 x1 x2 x3 x4) _ (cond_app (a54l0 x0 x1 x2 x3 x4) _ rfl (v54l0 x0 x1 x2 x3 x4 ((r54l0 m) x0 x1 x2 (IntKind.i64.wrap (x3 + 1)) x4))) rfl) rfl) rfl))
set_option maxRecDepth 100000 in
set_option maxHeartbeats 4000000 in
theorem qm54l0 : ∀ m, SumKOk Try.prog (loopN Try.f54 0) 19 [0, 1, 5] [4] (q54l0 m) := by
  intro m
  induction m with
  | zero =>
    intro vals s x h1 h2 h3
    unfold q54l0 at h3; split at h3
    · rename_i h; split at h3
      · rename_i hc; obtain ⟨rfl, rfl, rfl⟩ := hc; exact absurd h3 (by simp [r54l0, firstT, Nat.beq])
      · exact noQ_ok _ _ _ h1 h2 h3
    · exact noQ_ok _ _ _ h1 h2 h3
  | succ m ih =>
    intro vals s x h1 h2 h3
    unfold q54l0 at h3; split at h3
    · rename_i h; split at h3
      · rename_i hc; obtain ⟨rfl, rfl, rfl⟩ := hc; exact sum_step ok12 extOk mixed ((lfOkF_no _ _).inner (by kernel_rfl)) ih h1 h2 h (e54l0 m _ _ _ _ _) rfl h3
      · exact noQ_ok _ _ _ h1 h2 h3
    · exact noQ_ok _ _ _ h1 h2 h3
noncomputable def Q54l0 : SumK := fun vals s => q54l0 (fuelOf vals s.h) vals s
theorem qok54l0 : SumKOk Try.prog (loopN Try.f54 0) 19 [0, 1, 5] [4] Q54l0 := fuel_ok qm54l0 fuelOf
noncomputable def L54_1 : LoopT := addL noL 3 ([0, 1, 5], []) (sumK 19 [0, 1, 5] [4] Q54l0)
theorem lok54_1 : LfOkF Try.prog L54_1 Try.f54 := lfOkF_add (lfOkF_no _ _) qok54l0 (by kernel_rfl) (by kernel_rfl) (by kernel_rfl)

/-- spec.l05Find -/
noncomputable def r54 (x0 x1 : Nat) (x2 : ByteArray) (x3 : List ByteArray) : Nat × Int :=
 cond (Nat.beq ((r54l0 (1000 + x3.length + (x2.size)) x0 x1 x2 0 x3).1) 0)
  (0, ((r54l0 (1000 + x3.length + (x2.size)) x0 x1 x2 0 x3).2))
  (cond (Nat.beq ((r54l0 (1000 + x3.length + (x2.size)) x0 x1 x2 0 x3).1) 1)
  (0, (-1))
  (1, 0))
noncomputable def a54 (x0 x1 : Nat) (x2 : ByteArray) (x3 : List ByteArray) (p : Nat × Int) : Res := firstT [((Nat.beq (p.1) 0), .int .i64 (p.2), ⟨[⟨true, (some (.strs x3))⟩], 1, []⟩)]
noncomputable def w54 (x0 x1 : Nat) (x2 : ByteArray) (x3 : List ByteArray) : Res :=
 (cond (Nat.beq ((r54l0 (1000 + x3.length + (x2.size)) x0 x1 x2 0 x3).1) 0)
 (a54 x0 x1 x2 x3 (0, ((r54l0 (1000 + x3.length + (x2.size)) x0 x1 x2 0 x3).2)))
 (cond (Nat.beq ((r54l0 (1000 + x3.length + (x2.size)) x0 x1 x2 0 x3).1) 1)
  (a54 x0 x1 x2 x3 (0, (-1)))
  none))
set_option maxRecDepth 100000 in
set_option maxHeartbeats 4000000 in
theorem e54 (x0 x1 : Nat) (x2 : ByteArray) (x3 : List ByteArray) : evFn Try.prog ext T12 L54_1 200 Try.f54 [.slice (some ⟨0, 0, some 0⟩) x0 x1, .string x2] ⟨[⟨true, (some (.strs x3))⟩], 1, []⟩ = firstT [((Nat.beq ((r54 x0 x1 x2 x3).1) 0), .int .i64 ((r54 x0 x1 x2 x3).2), ⟨[⟨true, (some (.strs x3))⟩], 1, []⟩)] :=
 (show evFn Try.prog ext T12 L54_1 200 Try.f54 [.slice (some ⟨0, 0, some 0⟩) x0 x1, .string x2] ⟨[⟨true, (some (.strs x3))⟩], 1, []⟩ = w54 x0 x1 x2 x3 from by kernel_rfl).trans
 (show w54 x0 x1 x2 x3 = a54 x0 x1 x2 x3 (r54 x0 x1 x2 x3) from by unfold w54 r54; exact (cond_app (a54 x0 x1 x2 x3) _ rfl (cond_app (a54 x0 x1 x2 x3) _ rfl rfl)))
noncomputable def s54 (args : List Value) (s : St) : List (Bool × Value × St) :=
 match args, s.h with
 | [.slice (some ⟨f0, f1, some f2⟩) x0 x1, .string x2], [⟨true, some (.strs x3)⟩] => if f0 = 0 ∧ f1 = 0 ∧ f2 = 0 then [((Nat.beq ((r54 x0 x1 x2 x3).1) 0), .int .i64 ((r54 x0 x1 x2 x3).2), ⟨[⟨true, (some (.strs x3))⟩], 1, []⟩)] else T12 54 args s
 | _, _ => T12 54 args s
noncomputable def T13 : CallF := addF T12 54 s54
set_option maxRecDepth 100000 in
set_option maxHeartbeats 4000000 in
theorem ok13 : CfOk Try.prog T13 := by
  refine cfOk_add ok12 fun args s r s' h1 h2 h3 => ?_
  unfold s54 at h3; split at h3
  · rename_i h; split at h3
    · rename_i hc; obtain ⟨rfl, rfl, rfl⟩ := hc; exact callOk ok12 Try.func54 h1 h2 h lok54_1.body (e54 _ _ _ _) rfl h3
    · exact ok12 _ _ _ _ _ h1 h2 h3
  · exact ok12 _ _ _ _ _ h1 h2 h3

/-- spec.l05Program, loop 0: one round -/
noncomputable def b48l0 (ih : Int → List ByteArray → List (List Int) → Nat) (x0 : Int) (x1 : List ByteArray) (x2 : List (List Int)) : Nat :=
 cond (decide ((x0 : Int) < ((x1.length : Nat) : Int)))
  (cond ((decide ((0 : Int) ≤ x0)) && (Nat.blt (Int.toNat x0) x1.length))
  (cond (Nat.beq ((r75 (x1.getD (Int.toNat x0) .empty)).1) 0)
  (cond (!((r75 (x1.getD (Int.toNat x0) .empty)).2))
  (0)
  (cond ((Nat.blt 0 x1.length) && (((decide ((0 : Int) ≤ x0)) && (Nat.ble 0 (Int.toNat x0))) && (Nat.ble (Int.toNat x0) x1.length)))
  (cond (Nat.beq ((r54 (Int.toNat x0) x1.length (x1.getD (Int.toNat x0) .empty) x1).1) 0)
  (cond (decide ((((r54 (Int.toNat x0) x1.length (x1.getD (Int.toNat x0) .empty) x1).2) : Int) ≥ 0))
  (0)
  (ih (IntKind.i64.wrap (x0 + 1)) x1 x2))
  (2))
  (2)))
  (2))
  (2))
  (1)
noncomputable def r48l0 : Nat → Int → List ByteArray → List (List Int) → Nat
 | 0 => fun _ _ _ => (2)
 | m + 1 => b48l0 (r48l0 m)
noncomputable def a48l0 (x0 : Int) (x1 : List ByteArray) (x2 : List (List Int)) (p : Nat) : Option (Fin' × List Value × St) := firstT ([((Nat.beq p 0), .ret, [.pointer (some ⟨0, 0, some 0⟩), .bool false], ⟨[⟨true, (some (.cells [wsl 1, wsl 2]))⟩, ⟨true, (some (.strs x1))⟩, ⟨true, (some (.tab [.int .i8, .int .i16, .fl .f32] x2))⟩], 3, []⟩), ((Nat.beq p 1), .exit 0, [.pointer (some ⟨0, 0, some 0⟩), anyV], ⟨[⟨true, (some (.cells [wsl 1, wsl 2]))⟩, ⟨true, (some (.strs x1))⟩, ⟨true, (some (.tab [.int .i8, .int .i16, .fl .f32] x2))⟩], 3, []⟩)].map fun (b, x) => (b, (x.1, frameOf 125 [0, 2] x.2.1, x.2.2)))
noncomputable def u48l0 (x0 : Int) (x1 : List ByteArray) (x2 : List (List Int)) (p : Nat) : Option (Fin' × List Value × St) := alts ([((Nat.beq p 0), .ret, [.pointer (some ⟨0, 0, some 0⟩), .bool false], ⟨[⟨true, (some (.cells [wsl 1, wsl 2]))⟩, ⟨true, (some (.strs x1))⟩, ⟨true, (some (.tab [.int .i8, .int .i16, .fl .f32] x2))⟩], 3, []⟩), ((Nat.beq p 1), .exit 0, [.pointer (some ⟨0, 0, some 0⟩), anyV], ⟨[⟨true, (some (.cells [wsl 1, wsl 2]))⟩, ⟨true, (some (.strs x1))⟩, ⟨true, (some (.tab [.int .i8, .int .i16, .fl .f32] x2))⟩], 3, []⟩)].map fun (b, x) => (b, (x.1, frameOf 125 [0, 2] x.2.1, x.2.2))) some
theorem v48l0 (x0 : Int) (x1 : List ByteArray) (x2 : List (List Int)) (p : Nat) : u48l0 x0 x1 x2 p = a48l0 x0 x1 x2 p := alts_first _
noncomputable def q48l0 (m : Nat) : SumK := fun vals s =>
 match vals, s.h with
 | [.pointer (some ⟨f0, f1, some f2⟩), .int .i64 x0], [⟨true, some (.cells [.iface f3 .nilIface, .iface f4 .nilIface])⟩, ⟨true, some (.strs x1)⟩, ⟨true, some (.tab [.int .i8, .int .i16, .fl .f32] x2)⟩] => if f0 = 0 ∧ f1 = 0 ∧ f2 = 0 ∧ f3 = 1 ∧ f4 = 2 then [((Nat.beq (r48l0 m x0 x1 x2) 0), .ret, [.pointer (some ⟨0, 0, some 0⟩), .bool false], ⟨[⟨true, (some (.cells [wsl 1, wsl 2]))⟩, ⟨true, (some (.strs x1))⟩, ⟨true, (some (.tab [.int .i8, .int .i16, .fl .f32] x2))⟩], 3, []⟩), ((Nat.beq (r48l0 m x0 x1 x2) 1), .exit 0, [.pointer (some ⟨0, 0, some 0⟩), anyV], ⟨[⟨true, (some (.cells [wsl 1, wsl 2]))⟩, ⟨true, (some (.strs x1))⟩, ⟨true, (some (.tab [.int .i8, .int .i16, .fl .f32] x2))⟩], 3, []⟩)] else noQ vals s
 | _, _ => noQ vals s
noncomputable def w48l0 (ih : Int → List ByteArray → List (List Int) → Nat) (x0 : Int) (x1 : List ByteArray) (x2 : List (List Int)) : Option (Fin' × List Value × St) :=
 (cond (decide ((x0 : Int) < ((x1.length : Nat) : Int)))
 (cond ((decide ((0 : Int) ≤ x0)) && (Nat.blt (Int.toNat x0) x1.length))
  (cond (Nat.blt (Int.toNat x0) x1.length)
  (cond (Nat.beq ((r75 (x1.getD (Int.toNat x0) .empty)).1) 0)
  (cond (!((r75 (x1.getD (Int.toNat x0) .empty)).2))
  (a48l0 x0 x1 x2 (0))
  (cond ((Nat.blt 0 x1.length) && (((decide ((0 : Int) ≤ x0)) && (Nat.ble 0 (Int.toNat x0))) && (Nat.ble (Int.toNat x0) x1.length)))
  (cond ((decide ((0 : Int) ≤ x0)) && (Nat.blt (Int.toNat x0) x1.length))
  (cond (Nat.blt (Int.toNat x0) x1.length)
  (cond (Nat.beq ((r54 (Int.toNat x0) x1.length (x1.getD (Int.toNat x0) .empty) x1).1) 0)
  (cond (decide ((((r54 (Int.toNat x0) x1.length (x1.getD (Int.toNat x0) .empty) x1).2) : Int) ≥ 0))
  (a48l0 x0 x1 x2 (0))
  (u48l0 x0 x1 x2 (ih (IntKind.i64.wrap (x0 + 1)) x1 x2)))
  none)
  none)
  none)
  none))
  none)
  none)
  none)
 (a48l0 x0 x1 x2 (1)))
set_option maxRecDepth 100000 in
set_option maxHeartbeats 4000000 in
theorem e48l0 (m : Nat) (x0 : Int) (x1 : List ByteArray) (x2 : List (List Int)) : evC Try.prog ext T13 noL 200 (loopN Try.f48 0) (loopTail ([0, 3], []) [0, 2] [] (sumK 125 [0, 3] [0, 2] (q48l0 m))) (frameOf 125 [0, 3] [.pointer (some ⟨0, 0, some 0⟩), .int .i64 x0]) ⟨[⟨true, (some (.cells [wsl 1, wsl 2]))⟩, ⟨true, (some (.strs x1))⟩, ⟨true, (some (.tab [.int .i8, .int .i16, .fl .f32] x2))⟩], 3, []⟩ = firstT ([((Nat.beq (r48l0 (m + 1) x0 x1 x2) 0), .ret, [.pointer (some ⟨0, 0, some 0⟩), .bool false], ⟨[⟨true, (some (.cells [wsl 1, wsl 2]))⟩, ⟨true, (some (.strs x1))⟩, ⟨true, (some (.tab [.int .i8, .int .i16, .fl .f32] x2))⟩], 3, []⟩), ((Nat.beq (r48l0 (m + 1) x0 x1 x2) 1), .exit 0, [.pointer (some ⟨0, 0, some 0⟩), anyV], ⟨[⟨true, (some (.cells [wsl 1, wsl 2]))⟩, ⟨true, (some (.strs x1))⟩, ⟨true, (some (.tab [.int .i8, .int .i16, .fl .f32] x2))⟩], 3, []⟩)].map fun (b, x) => (b, (x.1, frameOf 125 [0, 2] x.2.1, x.2.2))) :=
 (show evC Try.prog ext T13 noL 200 (loopN Try.f48 0) (loopTail ([0, 3], []) [0, 2] [] (sumK 125 [0, 3] [0, 2] (q48l0 m))) (frameOf 125 [0, 3] [.pointer (some ⟨0, 0, some 0⟩), .int .i64 x0]) ⟨[⟨true, (some (.cells [wsl 1, wsl 2]))⟩, ⟨true, (some (.strs x1))⟩, ⟨true, (some (.tab [.int .i8, .int .i16, .fl .f32] x2))⟩], 3, []⟩ = w48l0 (r48l0 m) x0 x1 x2 from by kernel_rfl).trans
 (show w48l0 (r48l0 m) x0 x1 x2 = a48l0 x0 x1 x2 (r48l0 (m + 1) x0 x1 x2) from by unfold w48l0; show _ = a48l0 x0 x1 x2 (b48l0 (r48l0 m) x0 x1 x2); unfold b48l0; exact (cond_both (a48l0 x0 x1 x2) _ (fun h0 => (cond_both (a48l0 x0 x1 x2) _ (fun h1 => (cond_t (ev_and2 h1) (cond_both (a48l0 x0 x1 x2) _ (fun h2 => (cond_both (a48l0 x0 x1 x2) _ (fun h3 => rfl) (fun h3 => (cond_both (a48l0 x0 x1 x2) _ (fun h4 => (cond_t h1 (cond_t (ev_and2 h1) (cond_app (a48l0 x0 x1 x2) _ (cond_app (a48l0 x0 x1 x2) _ rfl (v48l0 x0 x1 x2 ((r48l0 m) (IntKind.i64.wrap (x0 + 1)) x1 x2))) rfl)))) (fun h4 => rfl))))) (fun h2 => rfl)))) (fun h1 => rfl))) (fun h0 => rfl)))
set_option maxRecDepth 100000 in
set_option maxHeartbeats 4000000 in
theorem qm48l0 : ∀ m, SumKOk Try.prog (loopN Try.f48 0) 125 [0, 3] [0, 2] (q48l0 m) := by
  intro m
  induction m with
  | zero =>
    intro vals s x h1 h2 h3
    unfold q48l0 at h3; split at h3
    · rename_i h; split at h3
      · rename_i hc; obtain ⟨rfl, rfl, rfl, rfl, rfl⟩ := hc; exact absurd h3 (by simp [r48l0, firstT, Nat.beq])
      · exact noQ_ok _ _ _ h1 h2 h3
    · exact noQ_ok _ _ _ h1 h2 h3
  | succ m ih =>
    intro vals s x h1 h2 h3
    unfold q48l0 at h3; split at h3
    · rename_i h; split at h3
      · rename_i hc; obtain ⟨rfl, rfl, rfl, rfl, rfl⟩ := hc; exact sum_step ok13 extOk mixed ((lfOkF_no _ _).inner (by kernel_rfl)) ih h1 h2 h (e48l0 m _ _ _) rfl h3
      · exact noQ_ok _ _ _ h1 h2 h3
    · exact noQ_ok _ _ _ h1 h2 h3
noncomputable def Q48l0 : SumK := fun vals s => q48l0 (fuelOf vals s.h) vals s
theorem qok48l0 : SumKOk Try.prog (loopN Try.f48 0) 125 [0, 3] [0, 2] Q48l0 := fuel_ok qm48l0 fuelOf
noncomputable def L48_1 : LoopT := addL noL 5 ([0, 3], []) (sumK 125 [0, 3] [0, 2] Q48l0)
theorem lok48_1 : LfOkF Try.prog L48_1 Try.f48 := lfOkF_add (lfOkF_no _ _) qok48l0 (by kernel_rfl) (by kernel_rfl) (by kernel_rfl)

/-- spec.l01Finite -/
noncomputable def r70 (x0 : Nat) : Bool :=
 ((feq .f32 (fsub .f32 x0 x0) 0))
noncomputable def a70 (x0 : Nat) (p : Bool) : Res := firstT [(true, .bool p, st0)]
noncomputable def w70 (x0 : Nat) : Res :=
 (a70 x0 ((feq .f32 (fsub .f32 x0 x0) 0)))
set_option maxRecDepth 100000 in
set_option maxHeartbeats 4000000 in
theorem e70 (x0 : Nat) : evFn Try.prog ext T13 noL 200 Try.f70 [.float .f32 x0] st0 = firstT [(true, .bool (r70 x0), st0)] :=
 (show evFn Try.prog ext T13 noL 200 Try.f70 [.float .f32 x0] st0 = w70 x0 from by kernel_rfl).trans
 (show w70 x0 = a70 x0 (r70 x0) from by unfold w70 r70; exact rfl)
noncomputable def s70 (args : List Value) (s : St) : List (Bool × Value × St) :=
 match args, s.h with
 | [.float .f32 x0], [] => [(true, .bool (r70 x0), st0)]
 | _, _ => T13 70 args s
noncomputable def T14 : CallF := addF T13 70 s70
set_option maxRecDepth 100000 in
set_option maxHeartbeats 4000000 in
theorem ok14 : CfOk Try.prog T14 := by
  refine cfOk_add ok13 fun args s r s' h1 h2 h3 => ?_
  unfold s70 at h3; split at h3
  · rename_i h; exact callOk ok13 Try.func70 h1 h2 h (lfOkF_no _ _).body (e70 _) rfl h3
  · exact ok13 _ _ _ _ _ h1 h2 h3

/-- spec.l05Takes -/
noncomputable def r77 (x0 : Int) : Int × Int :=
 cond ((x0 : Int) == 1)
  (0, 1)
  (cond ((x0 : Int) == 2)
  (0, 1)
  (cond ((x0 : Int) == 3)
  (0, 1)
  (cond ((x0 : Int) == 4)
  (1, 0)
  (cond ((x0 : Int) == 12)
  (1, 1)
  (cond ((x0 : Int) == 11)
  (3, 1)
  (2, 1))))))
noncomputable def a77 (x0 : Int) (p : Int × Int) : Res := firstT [(true, .tuple #[.int .i64 (p.1), .int .i64 (p.2)], st0)]
noncomputable def w77 (x0 : Int) : Res :=
 (cond ((x0 : Int) == 1)
 (cond ((x0 : Int) == 1)
  (a77 x0 (0, 1))
  (cond ((x0 : Int) == 4)
  (some (.tuple #[.int .i64 1, .int .i64 0], st0))
  (cond ((x0 : Int) == 12)
  (some (.tuple #[.int .i64 1, .int .i64 1], st0))
  (cond ((x0 : Int) == 11)
  (some (.tuple #[.int .i64 3, .int .i64 1], st0))
  (some (.tuple #[.int .i64 2, .int .i64 1], st0))))))
 (cond ((x0 : Int) == 2)
  (cond ((x0 : Int) == 2)
  (a77 x0 (0, 1))
  (cond ((x0 : Int) == 4)
  (some (.tuple #[.int .i64 1, .int .i64 0], st0))
  (cond ((x0 : Int) == 12)
  (some (.tuple #[.int .i64 1, .int .i64 1], st0))
  (cond ((x0 : Int) == 11)
  (some (.tuple #[.int .i64 3, .int .i64 1], st0))
  (some (.tuple #[.int .i64 2, .int .i64 1], st0))))))
  (cond ((x0 : Int) == 3)
  (a77 x0 (0, 1))
  (cond ((x0 : Int) == 4)
  (a77 x0 (1, 0))
  (cond ((x0 : Int) == 12)
  (a77 x0 (1, 1))
  (cond ((x0 : Int) == 11)
  (a77 x0 (3, 1))
  (a77 x0 (2, 1))))))))
set_option maxRecDepth 100000 in
set_option maxHeartbeats 4000000 in
theorem e77 (x0 : Int) : evFn Try.prog ext T14 noL 200 Try.f77 [.int .i8 x0] st0 = firstT [(true, .tuple #[.int .i64 ((r77 x0).1), .int .i64 ((r77 x0).2)], st0)] :=
 (show evFn Try.prog ext T14 noL 200 Try.f77 [.int .i8 x0] st0 = w77 x0 from by kernel_rfl).trans
 (show w77 x0 = a77 x0 (r77 x0) from by unfold w77 r77; exact (cond_both (a77 x0) _ (fun h0 => (cond_t h0 rfl)) (fun h0 => (cond_both (a77 x0) _ (fun h1 => (cond_t h1 rfl)) (fun h1 => (cond_app (a77 x0) _ rfl (cond_app (a77 x0) _ rfl (cond_app (a77 x0) _ rfl (cond_app (a77 x0) _ rfl rfl)))))))))
noncomputable def s77 (args : List Value) (s : St) : List (Bool × Value × St) :=
 match args, s.h with
 | [.int .i8 x0], [] => [(true, .tuple #[.int .i64 ((r77 x0).1), .int .i64 ((r77 x0).2)], st0)]
 | _, _ => T14 77 args s
noncomputable def T15 : CallF := addF T14 77 s77
set_option maxRecDepth 100000 in
set_option maxHeartbeats 4000000 in
theorem ok15 : CfOk Try.prog T15 := by
  refine cfOk_add ok14 fun args s r s' h1 h2 h3 => ?_
  unfold s77 at h3; split at h3
  · rename_i h; exact callOk ok14 Try.func77 h1 h2 h (lfOkF_no _ _).body (e77 _) rfl h3
  · exact ok14 _ _ _ _ _ h1 h2 h3

/-- spec.l05Fields -/
noncomputable def r76 (x0 : Nat) (x1 : Int) (x2 : List (List Int)) : Nat × Bool :=
 cond (Nat.blt x0 x2.length)
  (cond (!(r70 (Int.toNat ((x2.getD x0 []).getD 2 0))))
  (0, false)
  (cond (!isN .f32 (Int.toNat ((x2.getD x0 []).getD 2 0)))
  (cond (((((Int.toNat ((x2.getD x0 []).getD 2 0)) : Nat) : Int) : Int) == 2147483648)
  (0, false)
  (cond ((((x2.getD x0 []).getD 0 0) : Int) != 1)
  (cond (!feq .f32 (Int.toNat ((x2.getD x0 []).getD 2 0)) 0)
  (0, false)
  (cond ((((x2.getD x0 []).getD 0 0) : Int) == 2)
  (0, (r68 (IntKind.i64.wrap ((x2.getD x0 []).getD 1 0)) 0 3))
  (cond ((((x2.getD x0 []).getD 0 0) : Int) == 3)
  (0, (r68 (IntKind.i64.wrap ((x2.getD x0 []).getD 1 0)) 0 (IntKind.i64.wrap (x1 - 1))))
  (cond ((((x2.getD x0 []).getD 0 0) : Int) == 4)
  (0, (((IntKind.i64.wrap ((x2.getD x0 []).getD 1 0)) : Int) == x1))
  (0, ((((x2.getD x0 []).getD 1 0) : Int) == 0))))))
  (cond ((((x2.getD x0 []).getD 0 0) : Int) == 2)
  (0, (r68 (IntKind.i64.wrap ((x2.getD x0 []).getD 1 0)) 0 3))
  (cond ((((x2.getD x0 []).getD 0 0) : Int) == 3)
  (0, (r68 (IntKind.i64.wrap ((x2.getD x0 []).getD 1 0)) 0 (IntKind.i64.wrap (x1 - 1))))
  (cond ((((x2.getD x0 []).getD 0 0) : Int) == 4)
  (0, (((IntKind.i64.wrap ((x2.getD x0 []).getD 1 0)) : Int) == x1))
  (0, ((((x2.getD x0 []).getD 1 0) : Int) == 0)))))))
  (cond ((((x2.getD x0 []).getD 0 0) : Int) != 1)
  (0, false)
  (cond ((((x2.getD x0 []).getD 0 0) : Int) == 2)
  (0, (r68 (IntKind.i64.wrap ((x2.getD x0 []).getD 1 0)) 0 3))
  (cond ((((x2.getD x0 []).getD 0 0) : Int) == 3)
  (0, (r68 (IntKind.i64.wrap ((x2.getD x0 []).getD 1 0)) 0 (IntKind.i64.wrap (x1 - 1))))
  (cond ((((x2.getD x0 []).getD 0 0) : Int) == 4)
  (0, (((IntKind.i64.wrap ((x2.getD x0 []).getD 1 0)) : Int) == x1))
  (0, ((((x2.getD x0 []).getD 1 0) : Int) == 0))))))))
  (1, false)
noncomputable def a76 (x0 : Nat) (x1 : Int) (x2 : List (List Int)) (p : Nat × Bool) : Res := firstT [((Nat.beq (p.1) 0), .bool (p.2), ⟨[⟨true, (some (.tab [.int .i8, .int .i16, .fl .f32] x2))⟩], 1, []⟩)]
noncomputable def w76 (x0 : Nat) (x1 : Int) (x2 : List (List Int)) : Res :=
 (cond (Nat.blt x0 x2.length)
 (cond (!(r70 (Int.toNat ((x2.getD x0 []).getD 2 0))))
  (a76 x0 x1 x2 (0, false))
  (cond (Nat.blt x0 x2.length)
  (cond (!isN .f32 (Int.toNat ((x2.getD x0 []).getD 2 0)))
  (cond (((((Int.toNat ((x2.getD x0 []).getD 2 0)) : Nat) : Int) : Int) == 2147483648)
  (a76 x0 x1 x2 (0, false))
  (cond (Nat.blt x0 x2.length)
  (cond ((((x2.getD x0 []).getD 0 0) : Int) != 1)
  (cond (Nat.blt x0 x2.length)
  (cond (!feq .f32 (Int.toNat ((x2.getD x0 []).getD 2 0)) 0)
  (a76 x0 x1 x2 (0, false))
  (cond (Nat.blt x0 x2.length)
  (cond ((((x2.getD x0 []).getD 0 0) : Int) == 2)
  (cond (Nat.blt x0 x2.length)
  (a76 x0 x1 x2 (0, (r68 (IntKind.i64.wrap ((x2.getD x0 []).getD 1 0)) 0 3)))
  none)
  (cond ((((x2.getD x0 []).getD 0 0) : Int) == 3)
  (cond (Nat.blt x0 x2.length)
  (a76 x0 x1 x2 (0, (r68 (IntKind.i64.wrap ((x2.getD x0 []).getD 1 0)) 0 (IntKind.i64.wrap (x1 - 1)))))
  none)
  (cond ((((x2.getD x0 []).getD 0 0) : Int) == 4)
  (cond (Nat.blt x0 x2.length)
  (a76 x0 x1 x2 (0, (((IntKind.i64.wrap ((x2.getD x0 []).getD 1 0)) : Int) == x1)))
  none)
  (cond (Nat.blt x0 x2.length)
  (a76 x0 x1 x2 (0, ((((x2.getD x0 []).getD 1 0) : Int) == 0)))
  none))))
  none))
  none)
  (cond (Nat.blt x0 x2.length)
  (cond ((((x2.getD x0 []).getD 0 0) : Int) == 2)
  (cond (Nat.blt x0 x2.length)
  (a76 x0 x1 x2 (0, (r68 (IntKind.i64.wrap ((x2.getD x0 []).getD 1 0)) 0 3)))
  none)
  (cond ((((x2.getD x0 []).getD 0 0) : Int) == 3)
  (cond (Nat.blt x0 x2.length)
  (a76 x0 x1 x2 (0, (r68 (IntKind.i64.wrap ((x2.getD x0 []).getD 1 0)) 0 (IntKind.i64.wrap (x1 - 1)))))
  none)
  (cond ((((x2.getD x0 []).getD 0 0) : Int) == 4)
  (cond (Nat.blt x0 x2.length)
  (a76 x0 x1 x2 (0, (((IntKind.i64.wrap ((x2.getD x0 []).getD 1 0)) : Int) == x1)))
  none)
  (cond (Nat.blt x0 x2.length)
  (a76 x0 x1 x2 (0, ((((x2.getD x0 []).getD 1 0) : Int) == 0)))
  none))))
  none))
  none))
  (cond (Nat.blt x0 x2.length)
  (cond ((((x2.getD x0 []).getD 0 0) : Int) != 1)
  (cond (Nat.blt x0 x2.length)
  (cond (!feq .f32 (Int.toNat ((x2.getD x0 []).getD 2 0)) 0)
  (a76 x0 x1 x2 (0, false))
  (cond (Nat.blt x0 x2.length)
  (cond ((((x2.getD x0 []).getD 0 0) : Int) == 2)
  (cond (Nat.blt x0 x2.length)
  (some (.bool (r68 (IntKind.i64.wrap ((x2.getD x0 []).getD 1 0)) 0 3), ⟨[⟨true, (some (.tab [.int .i8, .int .i16, .fl .f32] x2))⟩], 1, []⟩))
  none)
  (cond ((((x2.getD x0 []).getD 0 0) : Int) == 3)
  (cond (Nat.blt x0 x2.length)
  (some (.bool (r68 (IntKind.i64.wrap ((x2.getD x0 []).getD 1 0)) 0 (IntKind.i64.wrap (x1 - 1))), ⟨[⟨true, (some (.tab [.int .i8, .int .i16, .fl .f32] x2))⟩], 1, []⟩))
  none)
  (cond ((((x2.getD x0 []).getD 0 0) : Int) == 4)
  (cond (Nat.blt x0 x2.length)
  (some (.bool (((IntKind.i64.wrap ((x2.getD x0 []).getD 1 0)) : Int) == x1), ⟨[⟨true, (some (.tab [.int .i8, .int .i16, .fl .f32] x2))⟩], 1, []⟩))
  none)
  (cond (Nat.blt x0 x2.length)
  (some (.bool ((((x2.getD x0 []).getD 1 0) : Int) == 0), ⟨[⟨true, (some (.tab [.int .i8, .int .i16, .fl .f32] x2))⟩], 1, []⟩))
  none))))
  none))
  none)
  (cond (Nat.blt x0 x2.length)
  (cond ((((x2.getD x0 []).getD 0 0) : Int) == 2)
  (cond (Nat.blt x0 x2.length)
  (a76 x0 x1 x2 (0, (r68 (IntKind.i64.wrap ((x2.getD x0 []).getD 1 0)) 0 3)))
  none)
  (cond ((((x2.getD x0 []).getD 0 0) : Int) == 3)
  (cond (Nat.blt x0 x2.length)
  (a76 x0 x1 x2 (0, (r68 (IntKind.i64.wrap ((x2.getD x0 []).getD 1 0)) 0 (IntKind.i64.wrap (x1 - 1)))))
  none)
  (cond ((((x2.getD x0 []).getD 0 0) : Int) == 4)
  (cond (Nat.blt x0 x2.length)
  (a76 x0 x1 x2 (0, (((IntKind.i64.wrap ((x2.getD x0 []).getD 1 0)) : Int) == x1)))
  none)
  (cond (Nat.blt x0 x2.length)
  (a76 x0 x1 x2 (0, ((((x2.getD x0 []).getD 1 0) : Int) == 0)))
  none))))
  none))
  none))
  none))
 none)
set_option maxRecDepth 100000 in
set_option maxHeartbeats 4000000 in
theorem e76 (x0 : Nat) (x1 : Int) (x2 : List (List Int)) : evFn Try.prog ext T15 noL 200 Try.f76 [.pointer (some ⟨0, x0, some 0⟩), .int .i64 x1] ⟨[⟨true, (some (.tab [.int .i8, .int .i16, .fl .f32] x2))⟩], 1, []⟩ = firstT [((Nat.beq ((r76 x0 x1 x2).1) 0), .bool ((r76 x0 x1 x2).2), ⟨[⟨true, (some (.tab [.int .i8, .int .i16, .fl .f32] x2))⟩], 1, []⟩)] :=
 (show evFn Try.prog ext T15 noL 200 Try.f76 [.pointer (some ⟨0, x0, some 0⟩), .int .i64 x1] ⟨[⟨true, (some (.tab [.int .i8, .int .i16, .fl .f32] x2))⟩], 1, []⟩ = w76 x0 x1 x2 from by kernel_rfl).trans
 (show w76 x0 x1 x2 = a76 x0 x1 x2 (r76 x0 x1 x2) from by unfold w76 r76; exact (cond_both (a76 x0 x1 x2) _ (fun h0 => (cond_both (a76 x0 x1 x2) _ (fun h1 => rfl) (fun h1 => (cond_t h0 (cond_both (a76 x0 x1 x2) _ (fun h2 => (cond_both (a76 x0 x1 x2) _ (fun h3 => rfl) (fun h3 => (cond_t h0 (cond_both (a76 x0 x1 x2) _ (fun h4 => (cond_t h0 (cond_both (a76 x0 x1 x2) _ (fun h5 => rfl) (fun h5 => (cond_t h0 (cond_both (a76 x0 x1 x2) _ (fun h6 => (cond_t h0 rfl)) (fun h6 => (cond_both (a76 x0 x1 x2) _ (fun h7 => (cond_t h0 rfl)) (fun h7 => (cond_both (a76 x0 x1 x2) _ (fun h8 => (cond_t h0 rfl)) (fun h8 => (cond_t h0 rfl)))))))))))) (fun h4 => (cond_t h0 (cond_both (a76 x0 x1 x2) _ (fun h5 => (cond_t h0 rfl)) (fun h5 => (cond_both (a76 x0 x1 x2) _ (fun h6 => (cond_t h0 rfl)) (fun h6 => (cond_both (a76 x0 x1 x2) _ (fun h7 => (cond_t h0 rfl)) (fun h7 => (cond_t h0 rfl)))))))))))))) (fun h2 => (cond_t h0 (cond_both (a76 x0 x1 x2) _ (fun h3 => (cond_t h0 (cond_t (ev_not1 (feq_nanl _ (ev_notf h2))) rfl))) (fun h3 => (cond_t h0 (cond_both (a76 x0 x1 x2) _ (fun h4 => (cond_t h0 rfl)) (fun h4 => (cond_both (a76 x0 x1 x2) _ (fun h5 => (cond_t h0 rfl)) (fun h5 => (cond_both (a76 x0 x1 x2) _ (fun h6 => (cond_t h0 rfl)) (fun h6 => (cond_t h0 rfl))))))))))))))))) (fun h0 => rfl)))
noncomputable def s76 (args : List Value) (s : St) : List (Bool × Value × St) :=
 match args, s.h with
 | [.pointer (some ⟨f0, x0, some f1⟩), .int .i64 x1], [⟨true, some (.tab [.int .i8, .int .i16, .fl .f32] x2)⟩] => if f0 = 0 ∧ f1 = 0 then [((Nat.beq ((r76 x0 x1 x2).1) 0), .bool ((r76 x0 x1 x2).2), ⟨[⟨true, (some (.tab [.int .i8, .int .i16, .fl .f32] x2))⟩], 1, []⟩)] else T15 76 args s
 | _, _ => T15 76 args s
noncomputable def T16 : CallF := addF T15 76 s76
set_option maxRecDepth 100000 in
set_option maxHeartbeats 4000000 in
theorem ok16 : CfOk Try.prog T16 := by
  refine cfOk_add ok15 fun args s r s' h1 h2 h3 => ?_
  unfold s76 at h3; split at h3
  · rename_i h; split at h3
    · rename_i hc; obtain ⟨rfl, rfl⟩ := hc; exact callOk ok15 Try.func76 h1 h2 h (lfOkF_no _ _).body (e76 _ _ _) rfl h3
    · exact ok15 _ _ _ _ _ h1 h2 h3
  · exact ok15 _ _ _ _ _ h1 h2 h3

/-- spec.l05Program, loop 1: one round -/
noncomputable def b48l1 (ih : Int → Int → Int → List ByteArray → List (List Int) → (Nat × Int × Int × Int × Int)) (x0 x1 x2 : Int) (x3 : List ByteArray) (x4 : List (List Int)) : Nat × Int × Int × Int × Int :=
 cond (decide ((x2 : Int) < ((x4.length : Nat) : Int)))
  (cond ((decide ((0 : Int) ≤ x2)) && (Nat.blt (Int.toNat x2) x4.length))
  (cond (!(r68 (IntKind.i64.wrap ((x4.getD (Int.toNat x2) []).getD 0 0)) 1 12))
  (0, x0, x1, 0, 0)
  (cond (Nat.beq ((r76 (Int.toNat x2) x1 x4).1) 0)
  (cond (!((r76 (Int.toNat x2) x1 x4).2))
  (0, x0, x1, 0, 0)
  (cond (decide ((x0 : Int) < ((r77 ((x4.getD (Int.toNat x2) []).getD 0 0)).1)))
  (0, x0, x1, 0, 0)
  (cond (decide (((IntKind.i64.wrap (x0 + (IntKind.i64.wrap (((r77 ((x4.getD (Int.toNat x2) []).getD 0 0)).2) - ((r77 ((x4.getD (Int.toNat x2) []).getD 0 0)).1))))) : Int) > 20))
  (0, (IntKind.i64.wrap (x0 + (IntKind.i64.wrap (((r77 ((x4.getD (Int.toNat x2) []).getD 0 0)).2) - ((r77 ((x4.getD (Int.toNat x2) []).getD 0 0)).1))))), x1, 0, 0)
  (cond ((((x4.getD (Int.toNat x2) []).getD 0 0) : Int) == 4)
  (cond (((IntKind.i64.wrap (x0 + (IntKind.i64.wrap (((r77 ((x4.getD (Int.toNat x2) []).getD 0 0)).2) - ((r77 ((x4.getD (Int.toNat x2) []).getD 0 0)).1))))) : Int) != 0)
  (0, (IntKind.i64.wrap (x0 + (IntKind.i64.wrap (((r77 ((x4.getD (Int.toNat x2) []).getD 0 0)).2) - ((r77 ((x4.getD (Int.toNat x2) []).getD 0 0)).1))))), (IntKind.i64.wrap (x1 + 1)), 0, 0)
  (ih (IntKind.i64.wrap (x0 + (IntKind.i64.wrap (((r77 ((x4.getD (Int.toNat x2) []).getD 0 0)).2) - ((r77 ((x4.getD (Int.toNat x2) []).getD 0 0)).1))))) (IntKind.i64.wrap (x1 + 1)) (IntKind.i64.wrap (x2 + 1)) x3 x4))
  (ih (IntKind.i64.wrap (x0 + (IntKind.i64.wrap (((r77 ((x4.getD (Int.toNat x2) []).getD 0 0)).2) - ((r77 ((x4.getD (Int.toNat x2) []).getD 0 0)).1))))) x1 (IntKind.i64.wrap (x2 + 1)) x3 x4)))))
  (2, 0, 0, 0, 0)))
  (2, 0, 0, 0, 0))
  (1, 0, 0, x0, x1)
noncomputable def r48l1 : Nat → Int → Int → Int → List ByteArray → List (List Int) → (Nat × Int × Int × Int × Int)
 | 0 => fun _ _ _ _ _ => (2, 0, 0, 0, 0)
 | m + 1 => b48l1 (r48l1 m)
noncomputable def a48l1 (x0 x1 x2 : Int) (x3 : List ByteArray) (x4 : List (List Int)) (p : Nat × Int × Int × Int × Int) : Option (Fin' × List Value × St) := firstT ([((Nat.beq (p.1) 0), .ret, [.pointer (some ⟨0, 0, some 0⟩), .bool false, .int .i64 (p.2.1), .int .i64 (p.2.2.1)], ⟨[⟨true, (some (.cells [wsl 1, wsl 2]))⟩, ⟨true, (some (.strs x3))⟩, ⟨true, (some (.tab [.int .i8, .int .i16, .fl .f32] x4))⟩], 3, []⟩), ((Nat.beq (p.1) 1), .exit 2, [.pointer (some ⟨0, 0, some 0⟩), anyV, .int .i64 (p.2.2.2.1), .int .i64 (p.2.2.2.2)], ⟨[⟨true, (some (.cells [wsl 1, wsl 2]))⟩, ⟨true, (some (.strs x3))⟩, ⟨true, (some (.tab [.int .i8, .int .i16, .fl .f32] x4))⟩], 3, []⟩)].map fun (b, x) => (b, (x.1, frameOf 125 [0, 2, 4, 5] x.2.1, x.2.2)))
noncomputable def u48l1 (x0 x1 x2 : Int) (x3 : List ByteArray) (x4 : List (List Int)) (p : Nat × Int × Int × Int × Int) : Option (Fin' × List Value × St) := alts ([((Nat.beq (p.1) 0), .ret, [.pointer (some ⟨0, 0, some 0⟩), .bool false, .int .i64 (p.2.1), .int .i64 (p.2.2.1)], ⟨[⟨true, (some (.cells [wsl 1, wsl 2]))⟩, ⟨true, (some (.strs x3))⟩, ⟨true, (some (.tab [.int .i8, .int .i16, .fl .f32] x4))⟩], 3, []⟩), ((Nat.beq (p.1) 1), .exit 2, [.pointer (some ⟨0, 0, some 0⟩), anyV, .int .i64 (p.2.2.2.1), .int .i64 (p.2.2.2.2)], ⟨[⟨true, (some (.cells [wsl 1, wsl 2]))⟩, ⟨true, (some (.strs x3))⟩, ⟨true, (some (.tab [.int .i8, .int .i16, .fl .f32] x4))⟩], 3, []⟩)].map fun (b, x) => (b, (x.1, frameOf 125 [0, 2, 4, 5] x.2.1, x.2.2))) some
theorem v48l1 (x0 x1 x2 : Int) (x3 : List ByteArray) (x4 : List (List Int)) (p : Nat × Int × Int × Int × Int) : u48l1 x0 x1 x2 x3 x4 p = a48l1 x0 x1 x2 x3 x4 p := alts_first _
noncomputable def q48l1 (m : Nat) : SumK := fun vals s =>
 match vals, s.h with
 | [.pointer (some ⟨f0, f1, some f2⟩), .int .i64 x0, .int .i64 x1, .int .i64 x2], [⟨true, some (.cells [.iface f3 .nilIface, .iface f4 .nilIface])⟩, ⟨true, some (.strs x3)⟩, ⟨true, some (.tab [.int .i8, .int .i16, .fl .f32] x4)⟩] => if f0 = 0 ∧ f1 = 0 ∧ f2 = 0 ∧ f3 = 1 ∧ f4 = 2 then [((Nat.beq ((r48l1 m x0 x1 x2 x3 x4).1) 0), .ret, [.pointer (some ⟨0, 0, some 0⟩), .bool false, .int .i64 ((r48l1 m x0 x1 x2 x3 x4).2.1), .int .i64 ((r48l1 m x0 x1 x2 x3 x4).2.2.1)], ⟨[⟨true, (some (.cells [wsl 1, wsl 2]))⟩, ⟨true, (some (.strs x3))⟩, ⟨true, (some (.tab [.int .i8, .int .i16, .fl .f32] x4))⟩], 3, []⟩), ((Nat.beq ((r48l1 m x0 x1 x2 x3 x4).1) 1), .exit 2, [.pointer (some ⟨0, 0, some 0⟩), anyV, .int .i64 ((r48l1 m x0 x1 x2 x3 x4).2.2.2.1), .int .i64 ((r48l1 m x0 x1 x2 x3 x4).2.2.2.2)], ⟨[⟨true, (some (.cells [wsl 1, wsl 2]))⟩, ⟨true, (some (.strs x3))⟩, ⟨true, (some (.tab [.int .i8, .int .i16, .fl .f32] x4))⟩], 3, []⟩)] else noQ vals s
 | _, _ => noQ vals s
noncomputable def w48l1 (ih : Int → Int → Int → List ByteArray → List (List Int) → (Nat × Int × Int × Int × Int)) (x0 x1 x2 : Int) (x3 : List ByteArray) (x4 : List (List Int)) : Option (Fin' × List Value × St) :=
 (cond (decide ((x2 : Int) < ((x4.length : Nat) : Int)))
 (cond ((decide ((0 : Int) ≤ x2)) && (Nat.blt (Int.toNat x2) x4.length))
  (cond (Nat.blt (Int.toNat x2) x4.length)
  (cond (!(r68 (IntKind.i64.wrap ((x4.getD (Int.toNat x2) []).getD 0 0)) 1 12))
  (a48l1 x0 x1 x2 x3 x4 (0, x0, x1, 0, 0))
  (cond (Nat.beq ((r76 (Int.toNat x2) x1 x4).1) 0)
  (cond (!((r76 (Int.toNat x2) x1 x4).2))
  (a48l1 x0 x1 x2 x3 x4 (0, x0, x1, 0, 0))
  (cond (Nat.blt (Int.toNat x2) x4.length)
  (cond (decide ((x0 : Int) < ((r77 ((x4.getD (Int.toNat x2) []).getD 0 0)).1)))
  (a48l1 x0 x1 x2 x3 x4 (0, x0, x1, 0, 0))
  (cond (decide (((IntKind.i64.wrap (x0 + (IntKind.i64.wrap (((r77 ((x4.getD (Int.toNat x2) []).getD 0 0)).2) - ((r77 ((x4.getD (Int.toNat x2) []).getD 0 0)).1))))) : Int) > 20))
  (a48l1 x0 x1 x2 x3 x4 (0, (IntKind.i64.wrap (x0 + (IntKind.i64.wrap (((r77 ((x4.getD (Int.toNat x2) []).getD 0 0)).2) - ((r77 ((x4.getD (Int.toNat x2) []).getD 0 0)).1))))), x1, 0, 0))
  (cond (Nat.blt (Int.toNat x2) x4.length)
  (cond ((((x4.getD (Int.toNat x2) []).getD 0 0) : Int) == 4)
  (cond (((IntKind.i64.wrap (x0 + (IntKind.i64.wrap (((r77 ((x4.getD (Int.toNat x2) []).getD 0 0)).2) - ((r77 ((x4.getD (Int.toNat x2) []).getD 0 0)).1))))) : Int) != 0)
  (a48l1 x0 x1 x2 x3 x4 (0, (IntKind.i64.wrap (x0 + (IntKind.i64.wrap (((r77 ((x4.getD (Int.toNat x2) []).getD 0 0)).2) - ((r77 ((x4.getD (Int.toNat x2) []).getD 0 0)).1))))), (IntKind.i64.wrap (x1 + 1)), 0, 0))
  (u48l1 x0 x1 x2 x3 x4 (ih (IntKind.i64.wrap (x0 + (IntKind.i64.wrap (((r77 ((x4.getD (Int.toNat x2) []).getD 0 0)).2) - ((r77 ((x4.getD (Int.toNat x2) []).getD 0 0)).1))))) (IntKind.i64.wrap (x1 + 1)) (IntKind.i64.wrap (x2 + 1)) x3 x4)))
  (u48l1 x0 x1 x2 x3 x4 (ih (IntKind.i64.wrap (x0 + (IntKind.i64.wrap (((r77 ((x4.getD (Int.toNat x2) []).getD 0 0)).2) - ((r77 ((x4.getD (Int.toNat x2) []).getD 0 0)).1))))) x1 (IntKind.i64.wrap (x2 + 1)) x3 x4)))
  none)))
  none))
  none))
  none)
  none)
 (a48l1 x0 x1 x2 x3 x4 (1, 0, 0, x0, x1)))
set_option maxRecDepth 100000 in
set_option maxHeartbeats 4000000 in
theorem e48l1 (m : Nat) (x0 x1 x2 : Int) (x3 : List ByteArray) (x4 : List (List Int)) : evC Try.prog ext T16 L48_1 200 (loopN Try.f48 1) (loopTail ([0, 4, 5, 6], []) [0, 2, 4, 5] [] (sumK 125 [0, 4, 5, 6] [0, 2, 4, 5] (q48l1 m))) (frameOf 125 [0, 4, 5, 6] [.pointer (some ⟨0, 0, some 0⟩), .int .i64 x0, .int .i64 x1, .int .i64 x2]) ⟨[⟨true, (some (.cells [wsl 1, wsl 2]))⟩, ⟨true, (some (.strs x3))⟩, ⟨true, (some (.tab [.int .i8, .int .i16, .fl .f32] x4))⟩], 3, []⟩ = firstT ([((Nat.beq ((r48l1 (m + 1) x0 x1 x2 x3 x4).1) 0), .ret, [.pointer (some ⟨0, 0, some 0⟩), .bool false, .int .i64 ((r48l1 (m + 1) x0 x1 x2 x3 x4).2.1), .int .i64 ((r48l1 (m + 1) x0 x1 x2 x3 x4).2.2.1)], ⟨[⟨true, (some (.cells [wsl 1, wsl 2]))⟩, ⟨true, (some (.strs x3))⟩, ⟨true, (some (.tab [.int .i8, .int .i16, .fl .f32] x4))⟩], 3, []⟩), ((Nat.beq ((r48l1 (m + 1) x0 x1 x2 x3 x4).1) 1), .exit 2, [.pointer (some ⟨0, 0, some 0⟩), anyV, .int .i64 ((r48l1 (m + 1) x0 x1 x2 x3 x4).2.2.2.1), .int .i64 ((r48l1 (m + 1) x0 x1 x2 x3 x4).2.2.2.2)], ⟨[⟨true, (some (.cells [wsl 1, wsl 2]))⟩, ⟨true, (some (.strs x3))⟩, ⟨true, (some (.tab [.int .i8, .int .i16, .fl .f32] x4))⟩], 3, []⟩)].map fun (b, x) => (b, (x.1, frameOf 125 [0, 2, 4, 5] x.2.1, x.2.2))) :=
 (show evC Try.prog ext T16 L48_1 200 (loopN Try.f48 1) (loopTail ([0, 4, 5, 6], []) [0, 2, 4, 5] [] (sumK 125 [0, 4, 5, 6] [0, 2, 4, 5] (q48l1 m))) (frameOf 125 [0, 4, 5, 6] [.pointer (some ⟨0, 0, some 0⟩), .int .i64 x0, .int .i64 x1, .int .i64 x2]) ⟨[⟨true, (some (.cells [wsl 1, wsl 2]))⟩, ⟨true, (some (.strs x3))⟩, ⟨true, (some (.tab [.int .i8, .int .i16, .fl .f32] x4))⟩], 3, []⟩ = w48l1 (r48l1 m) x0 x1 x2 x3 x4 from by kernel_rfl).trans
 (show w48l1 (r48l1 m) x0 x1 x2 x3 x4 = a48l1 x0 x1 x2 x3 x4 (r48l1 (m + 1) x0 x1 x2 x3 x4) from by unfold w48l1; show _ = a48l1 x0 x1 x2 x3 x4 (b48l1 (r48l1 m) x0 x1 x2 x3 x4); unfold b48l1; exact (cond_both (a48l1 x0 x1 x2 x3 x4) _ (fun h0 => (cond_both (a48l1 x0 x1 x2 x3 x4) _ (fun h1 => (cond_t (ev_and2 h1) (cond_both (a48l1 x0 x1 x2 x3 x4) _ (fun h2 => rfl) (fun h2 => (cond_both (a48l1 x0 x1 x2 x3 x4) _ (fun h3 => (cond_both (a48l1 x0 x1 x2 x3 x4) _ (fun h4 => rfl) (fun h4 => (cond_t (ev_and2 h1) (cond_both (a48l1 x0 x1 x2 x3 x4) _ (fun h5 => rfl) (fun h5 => (cond_both (a48l1 x0 x1 x2 x3 x4) _ (fun h6 => rfl) (fun h6 => (cond_t (ev_and2 h1) (cond_app (a48l1 x0 x1 x2 x3 x4) _ (cond_app (a48l1 x0 x1 x2 x3 x4) _ rfl (v48l1 x0 x1 x2 x3 x4 ((r48l1 m) (IntKind.i64.wrap (x0 + (IntKind.i64.wrap (((r77 ((x4.getD (Int.toNat x2) []).getD 0 0)).2) - ((r77 ((x4.getD (Int.toNat x2) []).getD 0 0)).1))))) (IntKind.i64.wrap (x1 + 1)) (IntKind.i64.wrap (x2 + 1)) x3 x4))) (v48l1 x0 x1 x2 x3 x4 ((r48l1 m) (IntKind.i64.wrap (x0 + (IntKind.i64.wrap (((r77 ((x4.getD (Int.toNat x2) []).getD 0 0)).2) - ((r77 ((x4.getD (Int.toNat x2) []).getD 0 0)).1))))) x1 (IntKind.i64.wrap (x2 + 1)) x3 x4)))))))))))) (fun h3 => rfl)))))) (fun h1 => rfl))) (fun h0 => rfl)))
set_option maxRecDepth 100000 in
set_option maxHeartbeats 4000000 in
theorem qm48l1 : ∀ m, SumKOk Try.prog (loopN Try.f48 1) 125 [0, 4, 5, 6] [0, 2, 4, 5] (q48l1 m) := by
  intro m
  induction m with
  | zero =>
    intro vals s x h1 h2 h3
    unfold q48l1 at h3; split at h3
    · rename_i h; split at h3
      · rename_i hc; obtain ⟨rfl, rfl, rfl, rfl, rfl⟩ := hc; exact absurd h3 (by simp [r48l1, firstT, Nat.beq])
      · exact noQ_ok _ _ _ h1 h2 h3
    · exact noQ_ok _ _ _ h1 h2 h3
  | succ m ih =>
    intro vals s x h1 h2 h3
    unfold q48l1 at h3; split at h3
    · rename_i h; split at h3
      · rename_i hc; obtain ⟨rfl, rfl, rfl, rfl, rfl⟩ := hc; exact sum_step ok16 extOk mixed (lok48_1.inner (by kernel_rfl)) ih h1 h2 h (e48l1 m _ _ _ _ _) rfl h3
      · exact noQ_ok _ _ _ h1 h2 h3
    · exact noQ_ok _ _ _ h1 h2 h3
noncomputable def Q48l1 : SumK := fun vals s => q48l1 (fuelOf vals s.h) vals s
theorem qok48l1 : SumKOk Try.prog (loopN Try.f48 1) 125 [0, 4, 5, 6] [0, 2, 4, 5] Q48l1 := fuel_ok qm48l1 fuelOf
noncomputable def L48_2 : LoopT := addL L48_1 12 ([0, 4, 5, 6], []) (sumK 125 [0, 4, 5, 6] [0, 2, 4, 5] Q48l1)
theorem lok48_2 : LfOkF Try.prog L48_2 Try.f48 := lfOkF_add lok48_1 qok48l1 (by kernel_rfl) (by kernel_rfl) (by kernel_rfl)

/-- spec.l05Program -/
noncomputable def r48 (x0 : List ByteArray) (x1 : List (List Int)) : Nat × Bool :=
 cond (decide ((((x0.length : Nat) : Int) : Int) > 12))
  (0, false)
  (cond (decide ((((x1.length : Nat) : Int) : Int) > 300))
  (0, false)
  (cond (Nat.beq (r48l0 (1000 + x1.length + x0.length) 0 x0 x1) 0)
  (0, false)
  (cond (Nat.beq (r48l0 (1000 + x1.length + x0.length) 0 x0 x1) 1)
  (cond (Nat.beq ((r48l1 (1000 + x1.length + x0.length) 0 0 0 x0 x1).1) 0)
  (0, false)
  (cond (Nat.beq ((r48l1 (1000 + x1.length + x0.length) 0 0 0 x0 x1).1) 1)
  (cond ((((r48l1 (1000 + x1.length + x0.length) 0 0 0 x0 x1).2.2.2.1) : Int) == 0)
  (0, ((((r48l1 (1000 + x1.length + x0.length) 0 0 0 x0 x1).2.2.2.2) : Int) == ((x0.length : Nat) : Int)))
  (0, false))
  (1, false)))
  (1, false))))
noncomputable def a48 (x0 : List ByteArray) (x1 : List (List Int)) (p : Nat × Bool) : Res := firstT [((Nat.beq (p.1) 0), .bool (p.2), ⟨[⟨true, (some (.cells [wsl 1, wsl 2]))⟩, ⟨true, (some (.strs x0))⟩, ⟨true, (some (.tab [.int .i8, .int .i16, .fl .f32] x1))⟩], 3, []⟩)]
noncomputable def w48 (x0 : List ByteArray) (x1 : List (List Int)) : Res :=
 (cond (decide ((((x0.length : Nat) : Int) : Int) > 12))
 (a48 x0 x1 (0, false))
 (cond (decide ((((x1.length : Nat) : Int) : Int) > 300))
  (a48 x0 x1 (0, false))
  (cond (Nat.beq (r48l0 (1000 + x1.length + x0.length) 0 x0 x1) 0)
  (a48 x0 x1 (0, false))
  (cond (Nat.beq (r48l0 (1000 + x1.length + x0.length) 0 x0 x1) 1)
  (cond (Nat.beq ((r48l1 (1000 + x1.length + x0.length) 0 0 0 x0 x1).1) 0)
  (a48 x0 x1 (0, false))
  (cond (Nat.beq ((r48l1 (1000 + x1.length + x0.length) 0 0 0 x0 x1).1) 1)
  (cond ((((r48l1 (1000 + x1.length + x0.length) 0 0 0 x0 x1).2.2.2.1) : Int) == 0)
  (a48 x0 x1 (0, ((((r48l1 (1000 + x1.length + x0.length) 0 0 0 x0 x1).2.2.2.2) : Int) == ((x0.length : Nat) : Int))))
  (a48 x0 x1 (0, false)))
  none))
  none))))
set_option maxRecDepth 100000 in
set_option maxHeartbeats 4000000 in
theorem e48 (x0 : List ByteArray) (x1 : List (List Int)) : evFn Try.prog ext T16 L48_2 200 Try.f48 [.pointer (some ⟨0, 0, some 0⟩)] ⟨[⟨true, (some (.cells [wsl 1, wsl 2]))⟩, ⟨true, (some (.strs x0))⟩, ⟨true, (some (.tab [.int .i8, .int .i16, .fl .f32] x1))⟩], 3, []⟩ = firstT [((Nat.beq ((r48 x0 x1).1) 0), .bool ((r48 x0 x1).2), ⟨[⟨true, (some (.cells [wsl 1, wsl 2]))⟩, ⟨true, (some (.strs x0))⟩, ⟨true, (some (.tab [.int .i8, .int .i16, .fl .f32] x1))⟩], 3, []⟩)] :=
 (show evFn Try.prog ext T16 L48_2 200 Try.f48 [.pointer (some ⟨0, 0, some 0⟩)] ⟨[⟨true, (some (.cells [wsl 1, wsl 2]))⟩, ⟨true, (some (.strs x0))⟩, ⟨true, (some (.tab [.int .i8, .int .i16, .fl .f32] x1))⟩], 3, []⟩ = w48 x0 x1 from by kernel_rfl).trans
 (show w48 x0 x1 = a48 x0 x1 (r48 x0 x1) from by unfold w48 r48; exact (cond_app (a48 x0 x1) _ rfl (cond_app (a48 x0 x1) _ rfl (cond_app (a48 x0 x1) _ rfl (cond_app (a48 x0 x1) _ (cond_app (a48 x0 x1) _ rfl (cond_app (a48 x0 x1) _ (cond_app (a48 x0 x1) _ rfl rfl) rfl)) rfl)))))
noncomputable def s48 (args : List Value) (s : St) : List (Bool × Value × St) :=
 match args, s.h with
 | [.pointer (some ⟨f0, f1, some f2⟩)], [⟨true, some (.cells [.iface f3 .nilIface, .iface f4 .nilIface])⟩, ⟨true, some (.strs x0)⟩, ⟨true, some (.tab [.int .i8, .int .i16, .fl .f32] x1)⟩] => if f0 = 0 ∧ f1 = 0 ∧ f2 = 0 ∧ f3 = 1 ∧ f4 = 2 then [((Nat.beq ((r48 x0 x1).1) 0), .bool ((r48 x0 x1).2), ⟨[⟨true, (some (.cells [wsl 1, wsl 2]))⟩, ⟨true, (some (.strs x0))⟩, ⟨true, (some (.tab [.int .i8, .int .i16, .fl .f32] x1))⟩], 3, []⟩)] else T16 48 args s
 | _, _ => T16 48 args s
noncomputable def T17 : CallF := addF T16 48 s48
set_option maxRecDepth 100000 in
set_option maxHeartbeats 4000000 in
theorem ok17 : CfOk Try.prog T17 := by
  refine cfOk_add ok16 fun args s r s' h1 h2 h3 => ?_
  unfold s48 at h3; split at h3
  · rename_i h; split at h3
    · rename_i hc; obtain ⟨rfl, rfl, rfl, rfl, rfl⟩ := hc; exact callOk ok16 Try.func48 h1 h2 h lok48_2.body (e48 _ _) rfl h3
    · exact ok16 _ _ _ _ _ h1 h2 h3
  · exact ok16 _ _ _ _ _ h1 h2 h3

/-- spec.l05Ok -/
noncomputable def r71 (x0 x1 : Nat) : Bool :=
 ((flt .f32 x0 x1 || feq .f32 x0 x1))
noncomputable def a71 (x0 x1 : Nat) (p : Bool) : Res := firstT [(true, .bool p, st0)]
noncomputable def w71 (x0 x1 : Nat) : Res :=
 (a71 x0 x1 ((flt .f32 x0 x1 || feq .f32 x0 x1)))
set_option maxRecDepth 100000 in
set_option maxHeartbeats 4000000 in
theorem e71 (x0 x1 : Nat) : evFn Try.prog ext T17 noL 200 Try.f71 [.agg #[.float .f32 x0, .float .f32 x1]] st0 = firstT [(true, .bool (r71 x0 x1), st0)] :=
 (show evFn Try.prog ext T17 noL 200 Try.f71 [.agg #[.float .f32 x0, .float .f32 x1]] st0 = w71 x0 x1 from by kernel_rfl).trans
 (show w71 x0 x1 = a71 x0 x1 (r71 x0 x1) from by unfold w71 r71; exact rfl)
noncomputable def s71 (args : List Value) (s : St) : List (Bool × Value × St) :=
 match args, s.h with
 | [.agg ⟨[.float .f32 x0, .float .f32 x1]⟩], [] => [(true, .bool (r71 x0 x1), st0)]
 | _, _ => T17 71 args s
noncomputable def T18 : CallF := addF T17 71 s71
set_option maxRecDepth 100000 in
set_option maxHeartbeats 4000000 in
theorem ok18 : CfOk Try.prog T18 := by
  refine cfOk_add ok17 fun args s r s' h1 h2 h3 => ?_
  unfold s71 at h3; split at h3
  · rename_i h; exact callOk ok17 Try.func71 h1 h2 h (lfOkF_no _ _).body (e71 _ _) rfl h3
  · exact ok17 _ _ _ _ _ h1 h2 h3

/-- spec.l05Given -/
noncomputable def r67 (x0 x1 x2 x3 x4 x5 x6 x7 : Nat) (x8 : List ByteArray) (x9 : List (List Int)) : Nat × Int :=
 cond (Nat.beq ((r48 x8 x9).1) 0)
  (cond (!((r48 x8 x9).2))
  (0, 1)
  (cond (!(r71 x0 x1))
  (0, 2)
  (cond (!(r70 x0))
  (0, 2)
  (cond (!(r70 x1))
  (0, 2)
  (cond (!(r71 x2 x3))
  (0, 2)
  (cond (!(r70 x2))
  (0, 2)
  (cond (!(r70 x3))
  (0, 2)
  (cond (!(r71 x4 x5))
  (0, 2)
  (cond (!(r70 x4))
  (0, 2)
  (cond (!(r70 x5))
  (0, 2)
  (cond (!(r71 x6 x7))
  (0, 2)
  (cond (!(r70 x6))
  (0, 2)
  (cond (!(r70 x7))
  (0, 2)
  (0, 0))))))))))))))
  (1, 0)
noncomputable def a67 (x0 x1 x2 x3 x4 x5 x6 x7 : Nat) (x8 : List ByteArray) (x9 : List (List Int)) (p : Nat × Int) : Res := firstT [((Nat.beq (p.1) 0), .int .i64 (p.2), ⟨[⟨true, (some (.cells [wsl 2, wsl 3]))⟩, ⟨true, (some (.cells [.float .f32 x0, .float .f32 x1, .float .f32 x2, .float .f32 x3, .float .f32 x4, .float .f32 x5, .float .f32 x6, .float .f32 x7]))⟩, ⟨true, (some (.strs x8))⟩, ⟨true, (some (.tab [.int .i8, .int .i16, .fl .f32] x9))⟩], 4, []⟩)]
noncomputable def w67 (x0 x1 x2 x3 x4 x5 x6 x7 : Nat) (x8 : List ByteArray) (x9 : List (List Int)) : Res :=
 (cond (Nat.beq ((r48 x8 x9).1) 0)
 (cond (!((r48 x8 x9).2))
  (a67 x0 x1 x2 x3 x4 x5 x6 x7 x8 x9 (0, 1))
  (cond (!(r71 x0 x1))
  (a67 x0 x1 x2 x3 x4 x5 x6 x7 x8 x9 (0, 2))
  (cond (!(r70 x0))
  (a67 x0 x1 x2 x3 x4 x5 x6 x7 x8 x9 (0, 2))
  (cond (!(r70 x1))
  (a67 x0 x1 x2 x3 x4 x5 x6 x7 x8 x9 (0, 2))
  (cond (!(r71 x2 x3))
  (a67 x0 x1 x2 x3 x4 x5 x6 x7 x8 x9 (0, 2))
  (cond (!(r70 x2))
  (a67 x0 x1 x2 x3 x4 x5 x6 x7 x8 x9 (0, 2))
  (cond (!(r70 x3))
  (a67 x0 x1 x2 x3 x4 x5 x6 x7 x8 x9 (0, 2))
  (cond (!(r71 x4 x5))
  (a67 x0 x1 x2 x3 x4 x5 x6 x7 x8 x9 (0, 2))
  (cond (!(r70 x4))
  (a67 x0 x1 x2 x3 x4 x5 x6 x7 x8 x9 (0, 2))
  (cond (!(r70 x5))
  (a67 x0 x1 x2 x3 x4 x5 x6 x7 x8 x9 (0, 2))
  (cond (!(r71 x6 x7))
  (a67 x0 x1 x2 x3 x4 x5 x6 x7 x8 x9 (0, 2))
  (cond (!(r70 x6))
  (a67 x0 x1 x2 x3 x4 x5 x6 x7 x8 x9 (0, 2))
  (cond (!(r70 x7))
  (a67 x0 x1 x2 x3 x4 x5 x6 x7 x8 x9 (0, 2))
  (a67 x0 x1 x2 x3 x4 x5 x6 x7 x8 x9 (0, 0)))))))))))))))
 none)
set_option maxRecDepth 100000 in
set_option maxHeartbeats 4000000 in
theorem e67 (x0 x1 x2 x3 x4 x5 x6 x7 : Nat) (x8 : List ByteArray) (x9 : List (List Int)) : evFn Try.prog ext T18 noL 200 Try.f67 [.pointer (some ⟨0, 0, some 0⟩), .pointer (some ⟨1, 0, some 0⟩)] ⟨[⟨true, (some (.cells [wsl 2, wsl 3]))⟩, ⟨true, (some (.cells [.float .f32 x0, .float .f32 x1, .float .f32 x2, .float .f32 x3, .float .f32 x4, .float .f32 x5, .float .f32 x6, .float .f32 x7]))⟩, ⟨true, (some (.strs x8))⟩, ⟨true, (some (.tab [.int .i8, .int .i16, .fl .f32] x9))⟩], 4, []⟩ = firstT [((Nat.beq ((r67 x0 x1 x2 x3 x4 x5 x6 x7 x8 x9).1) 0), .int .i64 ((r67 x0 x1 x2 x3 x4 x5 x6 x7 x8 x9).2), ⟨[⟨true, (some (.cells [wsl 2, wsl 3]))⟩, ⟨true, (some (.cells [.float .f32 x0, .float .f32 x1, .float .f32 x2, .float .f32 x3, .float .f32 x4, .float .f32 x5, .float .f32 x6, .float .f32 x7]))⟩, ⟨true, (some (.strs x8))⟩, ⟨true, (some (.tab [.int .i8, .int .i16, .fl .f32] x9))⟩], 4, []⟩)] :=
 (show evFn Try.prog ext T18 noL 200 Try.f67 [.pointer (some ⟨0, 0, some 0⟩), .pointer (some ⟨1, 0, some 0⟩)] ⟨[⟨true, (some (.cells [wsl 2, wsl 3]))⟩, ⟨true, (some (.cells [.float .f32 x0, .float .f32 x1, .float .f32 x2, .float .f32 x3, .float .f32 x4, .float .f32 x5, .float .f32 x6, .float .f32 x7]))⟩, ⟨true, (some (.strs x8))⟩, ⟨true, (some (.tab [.int .i8, .int .i16, .fl .f32] x9))⟩], 4, []⟩ = w67 x0 x1 x2 x3 x4 x5 x6 x7 x8 x9 from by kernel_rfl).trans
 (show w67 x0 x1 x2 x3 x4 x5 x6 x7 x8 x9 = a67 x0 x1 x2 x3 x4 x5 x6 x7 x8 x9 (r67 x0 x1 x2 x3 x4 x5 x6 x7 x8 x9) from by unfold w67 r67; exact (cond_app (a67 x0 x1 x2 x3 x4 x5 x6 x7 x8 x9) _ (cond_app (a67 x0 x1 x2 x3 x4 x5 x6 x7 x8 x9) _ rfl (cond_app (a67 x0 x1 x2 x3 x4 x5 x6 x7 x8 x9) _ rfl (cond_app (a67 x0 x1 x2 x3 x4 x5 x6 x7 x8 x9) _ rfl (cond_app (a67 x0 x1 x2 x3 x4 x5 x6 x7 x8 x9) _ rfl (cond_app (a67 x0 x1 x2 x3 x4 x5 x6 x7 x8 x9) _ rfl (cond_app (a67 x0 x1 x2 x3 x4 x5 x6 x7 x8 x9) _ rfl (cond_app (a67 x0 x1 x2 x3 x4 x5 x6 x7 x8 x9) _ rfl (cond_app (a67 x0 x1 x2 x3 x4 x5 x6 x7 x8 x9) _ rfl (cond_app (a67 x0 x1 x2 x3 x4 x5 x6 x7 x8 x9) _ rfl (cond_app (a67 x0 x1 x2 x3 x4 x5 x6 x7 x8 x9) _ rfl (cond_app (a67 x0 x1 x2 x3 x4 x5 x6 x7 x8 x9) _ rfl (cond_app (a67 x0 x1 x2 x3 x4 x5 x6 x7 x8 x9) _ rfl (cond_app (a67 x0 x1 x2 x3 x4 x5 x6 x7 x8 x9) _ rfl rfl))))))))))))) rfl))
noncomputable def s67 (args : List Value) (s : St) : List (Bool × Value × St) :=
 match args, s.h with
 | [.pointer (some ⟨f0, f1, some f2⟩), .pointer (some ⟨f3, f4, some f5⟩)], [⟨true, some (.cells [.iface f6 .nilIface, .iface f7 .nilIface])⟩, ⟨true, some (.cells [.float .f32 x0, .float .f32 x1, .float .f32 x2, .float .f32 x3, .float .f32 x4, .float .f32 x5, .float .f32 x6, .float .f32 x7])⟩, ⟨true, some (.strs x8)⟩, ⟨true, some (.tab [.int .i8, .int .i16, .fl .f32] x9)⟩] => if f0 = 0 ∧ f1 = 0 ∧ f2 = 0 ∧ f3 = 1 ∧ f4 = 0 ∧ f5 = 0 ∧ f6 = 2 ∧ f7 = 3 then [((Nat.beq ((r67 x0 x1 x2 x3 x4 x5 x6 x7 x8 x9).1) 0), .int .i64 ((r67 x0 x1 x2 x3 x4 x5 x6 x7 x8 x9).2), ⟨[⟨true, (some (.cells [wsl 2, wsl 3]))⟩, ⟨true, (some (.cells [.float .f32 x0, .float .f32 x1, .float .f32 x2, .float .f32 x3, .float .f32 x4, .float .f32 x5, .float .f32 x6, .float .f32 x7]))⟩, ⟨true, (some (.strs x8))⟩, ⟨true, (some (.tab [.int .i8, .int .i16, .fl .f32] x9))⟩], 4, []⟩)] else T18 67 args s
 | _, _ => T18 67 args s
noncomputable def T19 : CallF := addF T18 67 s67
set_option maxRecDepth 100000 in
set_option maxHeartbeats 4000000 in
theorem ok19 : CfOk Try.prog T19 := by
  refine cfOk_add ok18 fun args s r s' h1 h2 h3 => ?_
  unfold s67 at h3; split at h3
  · rename_i h; split at h3
    · rename_i hc; obtain ⟨rfl, rfl, rfl, rfl, rfl, rfl, rfl, rfl⟩ := hc; exact callOk ok18 Try.func67 h1 h2 h (lfOkF_no _ _).body (e67 _ _ _ _ _ _ _ _ _ _) rfl h3
    · exact ok18 _ _ _ _ _ h1 h2 h3
  · exact ok18 _ _ _ _ _ h1 h2 h3

/-- spec.l05Asked -/
noncomputable def r60 (x0 x1 x2 x3 x4 x5 x6 x7 x8 x9 : Nat) (x10 : List ByteArray) (x11 : List (List Int)) : Nat × Int :=
 cond (Nat.beq ((r48 x10 x11).1) 0)
  (cond (!((r48 x10 x11).2))
  (0, 1)
  (cond (!(r71 x0 x1))
  (0, 1)
  (cond (Nat.beq ((r67 x2 x3 x4 x5 x6 x7 x8 x9 x10 x11).1) 0)
  (0, ((r67 x2 x3 x4 x5 x6 x7 x8 x9 x10 x11).2))
  (1, 0))))
  (1, 0)
noncomputable def a60 (x0 x1 x2 x3 x4 x5 x6 x7 x8 x9 : Nat) (x10 : List ByteArray) (x11 : List (List Int)) (p : Nat × Int) : Res := firstT [((Nat.beq (p.1) 0), .int .i64 (p.2), ⟨[⟨true, (some (.cells [wsl 2, wsl 3]))⟩, ⟨true, (some (.cells [.float .f32 x2, .float .f32 x3, .float .f32 x4, .float .f32 x5, .float .f32 x6, .float .f32 x7, .float .f32 x8, .float .f32 x9]))⟩, ⟨true, (some (.strs x10))⟩, ⟨true, (some (.tab [.int .i8, .int .i16, .fl .f32] x11))⟩], 4, []⟩)]
noncomputable def w60 (x0 x1 x2 x3 x4 x5 x6 x7 x8 x9 : Nat) (x10 : List ByteArray) (x11 : List (List Int)) : Res :=
 (cond (Nat.beq ((r48 x10 x11).1) 0)
 (cond (!((r48 x10 x11).2))
  (a60 x0 x1 x2 x3 x4 x5 x6 x7 x8 x9 x10 x11 (0, 1))
  (cond (!(r71 x0 x1))
  (a60 x0 x1 x2 x3 x4 x5 x6 x7 x8 x9 x10 x11 (0, 1))
  (cond (Nat.beq ((r67 x2 x3 x4 x5 x6 x7 x8 x9 x10 x11).1) 0)
  (a60 x0 x1 x2 x3 x4 x5 x6 x7 x8 x9 x10 x11 (0, ((r67 x2 x3 x4 x5 x6 x7 x8 x9 x10 x11).2)))
  none)))
 none)
set_option maxRecDepth 100000 in
set_option maxHeartbeats 4000000 in
theorem e60 (x0 x1 x2 x3 x4 x5 x6 x7 x8 x9 : Nat) (x10 : List ByteArray) (x11 : List (List Int)) : evFn Try.prog ext T19 noL 200 Try.f60 [.pointer (some ⟨0, 0, some 0⟩), .pointer (some ⟨1, 0, some 0⟩), .agg #[.float .f32 x0, .float .f32 x1]] ⟨[⟨true, (some (.cells [wsl 2, wsl 3]))⟩, ⟨true, (some (.cells [.float .f32 x2, .float .f32 x3, .float .f32 x4, .float .f32 x5, .float .f32 x6, .float .f32 x7, .float .f32 x8, .float .f32 x9]))⟩, ⟨true, (some (.strs x10))⟩, ⟨true, (some (.tab [.int .i8, .int .i16, .fl .f32] x11))⟩], 4, []⟩ = firstT [((Nat.beq ((r60 x0 x1 x2 x3 x4 x5 x6 x7 x8 x9 x10 x11).1) 0), .int .i64 ((r60 x0 x1 x2 x3 x4 x5 x6 x7 x8 x9 x10 x11).2), ⟨[⟨true, (some (.cells [wsl 2, wsl 3]))⟩, ⟨true, (some (.cells [.float .f32 x2, .float .f32 x3, .float .f32 x4, .float .f32 x5, .float .f32 x6, .float .f32 x7, .float .f32 x8, .float .f32 x9]))⟩, ⟨true, (some (.strs x10))⟩, ⟨true, (some (.tab [.int .i8, .int .i16, .fl .f32] x11))⟩], 4, []⟩)] :=
 (show evFn Try.prog ext T19 noL 200 Try.f60 [.pointer (some ⟨0, 0, some 0⟩), .pointer (some ⟨1, 0, some 0⟩), .agg #[.float .f32 x0, .float .f32 x1]] ⟨[⟨true, (some (.cells [wsl 2, wsl 3]))⟩, ⟨true, (some (.cells [.float .f32 x2, .float .f32 x3, .float .f32 x4, .float .f32 x5, .float .f32 x6, .float .f32 x7, .float .f32 x8, .float .f32 x9]))⟩, ⟨true, (some (.strs x10))⟩, ⟨true, (some (.tab [.int .i8, .int .i16, .fl .f32] x11))⟩], 4, []⟩ = w60 x0 x1 x2 x3 x4 x5 x6 x7 x8 x9 x10 x11 from by kernel_rfl).trans
 (show w60 x0 x1 x2 x3 x4 x5 x6 x7 x8 x9 x10 x11 = a60 x0 x1 x2 x3 x4 x5 x6 x7 x8 x9 x10 x11 (r60 x0 x1 x2 x3 x4 x5 x6 x7 x8 x9 x10 x11) from by unfold w60 r60; exact (cond_app (a60 x0 x1 x2 x3 x4 x5 x6 x7 x8 x9 x10 x11) _ (cond_app (a60 x0 x1 x2 x3 x4 x5 x6 x7 x8 x9 x10 x11) _ rfl (cond_app (a60 x0 x1 x2 x3 x4 x5 x6 x7 x8 x9 x10 x11) _ rfl (cond_app (a60 x0 x1 x2 x3 x4 x5 x6 x7 x8 x9 x10 x11) _ rfl rfl))) rfl))
noncomputable def s60 (args : List Value) (s : St) : List (Bool × Value × St) :=
 match args, s.h with
 | [.pointer (some ⟨f0, f1, some f2⟩), .pointer (some ⟨f3, f4, some f5⟩), .agg ⟨[.float .f32 x0, .float .f32 x1]⟩], [⟨true, some (.cells [.iface f6 .nilIface, .iface f7 .nilIface])⟩, ⟨true, some (.cells [.float .f32 x2, .float .f32 x3, .float .f32 x4, .float .f32 x5, .float .f32 x6, .float .f32 x7, .float .f32 x8, .float .f32 x9])⟩, ⟨true, some (.strs x10)⟩, ⟨true, some (.tab [.int .i8, .int .i16, .fl .f32] x11)⟩] => if f0 = 0 ∧ f1 = 0 ∧ f2 = 0 ∧ f3 = 1 ∧ f4 = 0 ∧ f5 = 0 ∧ f6 = 2 ∧ f7 = 3 then [((Nat.beq ((r60 x0 x1 x2 x3 x4 x5 x6 x7 x8 x9 x10 x11).1) 0), .int .i64 ((r60 x0 x1 x2 x3 x4 x5 x6 x7 x8 x9 x10 x11).2), ⟨[⟨true, (some (.cells [wsl 2, wsl 3]))⟩, ⟨true, (some (.cells [.float .f32 x2, .float .f32 x3, .float .f32 x4, .float .f32 x5, .float .f32 x6, .float .f32 x7, .float .f32 x8, .float .f32 x9]))⟩, ⟨true, (some (.strs x10))⟩, ⟨true, (some (.tab [.int .i8, .int .i16, .fl .f32] x11))⟩], 4, []⟩)] else T19 60 args s
 | _, _ => T19 60 args s
noncomputable def T20 : CallF := addF T19 60 s60
set_option maxRecDepth 100000 in
set_option maxHeartbeats 4000000 in
theorem ok20 : CfOk Try.prog T20 := by
  refine cfOk_add ok19 fun args s r s' h1 h2 h3 => ?_
  unfold s60 at h3; split at h3
  · rename_i h; split at h3
    · rename_i hc; obtain ⟨rfl, rfl, rfl, rfl, rfl, rfl, rfl, rfl⟩ := hc; exact callOk ok19 Try.func60 h1 h2 h (lfOkF_no _ _).body (e60 _ _ _ _ _ _ _ _ _ _ _ _) rfl h3
    · exact ok19 _ _ _ _ _ h1 h2 h3
  · exact ok19 _ _ _ _ _ h1 h2 h3

/-- spec.l05Find, loop 0: one round -/
noncomputable def b54l0b (ih : ByteArray → Int → List ByteArray → (Nat × Int)) (x0 : ByteArray) (x1 : Int) (x2 : List ByteArray) : Nat × Int :=
 cond (decide ((x1 : Int) < ((x2.length : Nat) : Int)))
  (cond ((decide ((0 : Int) ≤ x1)) && (Nat.blt (Int.toNat x1) x2.length))
  (cond ((x2.getD (Int.toNat x1) .empty).toList == x0.toList)
  (0, x1)
  (ih x0 (IntKind.i64.wrap (x1 + 1)) x2))
  (2, 0))
  (1, 0)
noncomputable def r54l0b : Nat → ByteArray → Int → List ByteArray → (Nat × Int)
 | 0 => fun _ _ _ => (2, 0)
 | m + 1 => b54l0b (r54l0b m)
noncomputable def a54l0b (x0 : ByteArray) (x1 : Int) (x2 : List ByteArray) (p : Nat × Int) : Option (Fin' × List Value × St) := firstT ([((Nat.beq (p.1) 0), .ret, [.int .i64 (p.2)], ⟨[⟨true, (some (.strs x2))⟩], 1, []⟩), ((Nat.beq (p.1) 1), .exit 0, [anyV], ⟨[⟨true, (some (.strs x2))⟩], 1, []⟩)].map fun (b, x) => (b, (x.1, frameOf 19 [4] x.2.1, x.2.2)))
noncomputable def u54l0b (x0 : ByteArray) (x1 : Int) (x2 : List ByteArray) (p : Nat × Int) : Option (Fin' × List Value × St) := alts ([((Nat.beq (p.1) 0), .ret, [.int .i64 (p.2)], ⟨[⟨true, (some (.strs x2))⟩], 1, []⟩), ((Nat.beq (p.1) 1), .exit 0, [anyV], ⟨[⟨true, (some (.strs x2))⟩], 1, []⟩)].map fun (b, x) => (b, (x.1, frameOf 19 [4] x.2.1, x.2.2))) some
theorem v54l0b (x0 : ByteArray) (x1 : Int) (x2 : List ByteArray) (p : Nat × Int) : u54l0b x0 x1 x2 p = a54l0b x0 x1 x2 p := alts_first _
noncomputable def q54l0b (m : Nat) : SumK := fun vals s =>
 match vals, s.h with
 | [.iface f0 .nilIface, .string x0, .int .i64 x1], [⟨true, some (.strs x2)⟩] => if f0 = 0 then [((Nat.beq ((r54l0b m x0 x1 x2).1) 0), .ret, [.int .i64 ((r54l0b m x0 x1 x2).2)], ⟨[⟨true, (some (.strs x2))⟩], 1, []⟩), ((Nat.beq ((r54l0b m x0 x1 x2).1) 1), .exit 0, [anyV], ⟨[⟨true, (some (.strs x2))⟩], 1, []⟩)] else Q54l0 vals s
 | _, _ => Q54l0 vals s
noncomputable def w54l0b (ih : ByteArray → Int → List ByteArray → (Nat × Int)) (x0 : ByteArray) (x1 : Int) (x2 : List ByteArray) : Option (Fin' × List Value × St) :=
 (cond (decide ((x1 : Int) < ((x2.length : Nat) : Int)))
 (cond ((decide ((0 : Int) ≤ x1)) && (Nat.blt (Int.toNat x1) x2.length))
  (cond (Nat.blt (Int.toNat x1) x2.length)
  (cond ((x2.getD (Int.toNat x1) .empty).toList == x0.toList)
  (a54l0b x0 x1 x2 (0, x1))
  (u54l0b x0 x1 x2 (ih x0 (IntKind.i64.wrap (x1 + 1)) x2)))
  none)
  none)
 (a54l0b x0 x1 x2 (1, 0)))
set_option maxRecDepth 100000 in
set_option maxHeartbeats 4000000 in
theorem e54l0b (m : Nat) (x0 : ByteArray) (x1 : Int) (x2 : List ByteArray) : evC Try.prog ext T20 L54_1 200 (loopN Try.f54 0) (loopTail ([0, 1, 5], []) [4] [] (sumK 19 [0, 1, 5] [4] (q54l0b m))) (frameOf 19 [0, 1, 5] [wsl 0, .string x0, .int .i64 x1]) ⟨[⟨true, (some (.strs x2))⟩], 1, []⟩ = firstT ([((Nat.beq ((r54l0b (m + 1) x0 x1 x2).1) 0), .ret, [.int .i64 ((r54l0b (m + 1) x0 x1 x2).2)], ⟨[⟨true, (some (.strs x2))⟩], 1, []⟩), ((Nat.beq ((r54l0b (m + 1) x0 x1 x2).1) 1), .exit 0, [anyV], ⟨[⟨true, (some (.strs x2))⟩], 1, []⟩)].map fun (b, x) => (b, (x.1, frameOf 19 [4] x.2.1, x.2.2))) :=
 (show evC Try.prog ext T20 L54_1 200 (loopN Try.f54 0) (loopTail ([0, 1, 5], []) [4] [] (sumK 19 [0, 1, 5] [4] (q54l0b m))) (frameOf 19 [0, 1, 5] [wsl 0, .string x0, .int .i64 x1]) ⟨[⟨true, (some (.strs x2))⟩], 1, []⟩ = w54l0b (r54l0b m) x0 x1 x2 from by kernel_rfl).trans
 (show w54l0b (r54l0b m) x0 x1 x2 = a54l0b x0 x1 x2 (r54l0b (m + 1) x0 x1 x2) from by unfold w54l0b; show _ = a54l0b x0 x1 x2 (b54l0b (r54l0b m) x0 x1 x2); unfold b54l0b; exact (cond_both (a54l0b x0 x1 x2) _ (fun h0 => (cond_both (a54l0b x0 x1 x2) _ (fun h1 => (cond_t (ev_and2 h1) (cond_app (a54l0b x0 x1 x2) _ rfl (v54l0b x0 x1 x2 ((r54l0b m) x0 (IntKind.i64.wrap (x1 + 1)) x2))))) (fun h1 => rfl))) (fun h0 => rfl)))
set_option maxRecDepth 100000 in
set_option maxHeartbeats 4000000 in
theorem qm54l0b : ∀ m, SumKOk Try.prog (loopN Try.f54 0) 19 [0, 1, 5] [4] (q54l0b m) := by
  intro m
  induction m with
  | zero =>
    intro vals s x h1 h2 h3
    unfold q54l0b at h3; split at h3
    · rename_i h; split at h3
      · rename_i hc; obtain ⟨rfl⟩ := hc; exact absurd h3 (by simp [r54l0b, firstT, Nat.beq])
      · exact qok54l0 _ _ _ h1 h2 h3
    · exact qok54l0 _ _ _ h1 h2 h3
  | succ m ih =>
    intro vals s x h1 h2 h3
    unfold q54l0b at h3; split at h3
    · rename_i h; split at h3
      · rename_i hc; obtain ⟨rfl⟩ := hc; exact sum_step ok20 extOk mixed (lok54_1.inner (by kernel_rfl)) ih h1 h2 h (e54l0b m _ _ _) rfl h3
      · exact qok54l0 _ _ _ h1 h2 h3
    · exact qok54l0 _ _ _ h1 h2 h3
noncomputable def Q54l0b : SumK := fun vals s => q54l0b (fuelOf vals s.h) vals s
theorem qok54l0b : SumKOk Try.prog (loopN Try.f54 0) 19 [0, 1, 5] [4] Q54l0b := fuel_ok qm54l0b fuelOf
noncomputable def L54_2 : LoopT := addL L54_1 3 ([0, 1, 5], []) (sumK 19 [0, 1, 5] [4] Q54l0b)
theorem lok54_2 : LfOkF Try.prog L54_2 Try.f54 := lfOkF_add lok54_1 qok54l0b (by kernel_rfl) (by kernel_rfl) (by kernel_rfl)

/-- spec.l05Find -/
noncomputable def r54b (x0 : ByteArray) (x1 : List ByteArray) : Nat × Int :=
 cond (Nat.beq ((r54l0b (1000 + x1.length + (x0.size)) x0 0 x1).1) 0)
  (0, ((r54l0b (1000 + x1.length + (x0.size)) x0 0 x1).2))
  (cond (Nat.beq ((r54l0b (1000 + x1.length + (x0.size)) x0 0 x1).1) 1)
  (0, (-1))
  (1, 0))
noncomputable def a54b (x0 : ByteArray) (x1 : List ByteArray) (p : Nat × Int) : Res := firstT [((Nat.beq (p.1) 0), .int .i64 (p.2), ⟨[⟨true, (some (.strs x1))⟩], 1, []⟩)]
noncomputable def w54b (x0 : ByteArray) (x1 : List ByteArray) : Res :=
 (cond (Nat.beq ((r54l0b (1000 + x1.length + (x0.size)) x0 0 x1).1) 0)
 (a54b x0 x1 (0, ((r54l0b (1000 + x1.length + (x0.size)) x0 0 x1).2)))
 (cond (Nat.beq ((r54l0b (1000 + x1.length + (x0.size)) x0 0 x1).1) 1)
  (a54b x0 x1 (0, (-1)))
  none))
set_option maxRecDepth 100000 in
set_option maxHeartbeats 4000000 in
theorem e54b (x0 : ByteArray) (x1 : List ByteArray) : evFn Try.prog ext T20 L54_2 200 Try.f54 [wsl 0, .string x0] ⟨[⟨true, (some (.strs x1))⟩], 1, []⟩ = firstT [((Nat.beq ((r54b x0 x1).1) 0), .int .i64 ((r54b x0 x1).2), ⟨[⟨true, (some (.strs x1))⟩], 1, []⟩)] :=
 (show evFn Try.prog ext T20 L54_2 200 Try.f54 [wsl 0, .string x0] ⟨[⟨true, (some (.strs x1))⟩], 1, []⟩ = w54b x0 x1 from by kernel_rfl).trans
 (show w54b x0 x1 = a54b x0 x1 (r54b x0 x1) from by unfold w54b r54b; exact (cond_app (a54b x0 x1) _ rfl (cond_app (a54b x0 x1) _ rfl rfl)))
noncomputable def s54b (args : List Value) (s : St) : List (Bool × Value × St) :=
 match args, s.h with
 | [.iface f0 .nilIface, .string x0], [⟨true, some (.strs x1)⟩] => if f0 = 0 then [((Nat.beq ((r54b x0 x1).1) 0), .int .i64 ((r54b x0 x1).2), ⟨[⟨true, (some (.strs x1))⟩], 1, []⟩)] else T20 54 args s
 | _, _ => T20 54 args s
noncomputable def T21 : CallF := addF T20 54 s54b
set_option maxRecDepth 100000 in
set_option maxHeartbeats 4000000 in
theorem ok21 : CfOk Try.prog T21 := by
  refine cfOk_add ok20 fun args s r s' h1 h2 h3 => ?_
  unfold s54b at h3; split at h3
  · rename_i h; split at h3
    · rename_i hc; obtain ⟨rfl⟩ := hc; exact callOk ok20 Try.func54 h1 h2 h lok54_2.body (e54b _ _) rfl h3
    · exact ok20 _ _ _ _ _ h1 h2 h3
  · exact ok20 _ _ _ _ _ h1 h2 h3

/-- spec.l05Cut -/
noncomputable def r69 (x0 x1 : Nat) (x2 x3 : Int) : Nat × Nat :=
 cond (decide (((IntKind.i64.wrap (x2 + 1)) : Int) < x3))
  ((fadd .f32 x0 (fmul .f32 (fdiv .f32 (ofInt .f32 x2) (ofInt .f32 x3)) (fsub .f32 x1 x0))), (fadd .f32 x0 (fmul .f32 (fdiv .f32 (ofInt .f32 (IntKind.i64.wrap (x2 + 1))) (ofInt .f32 x3)) (fsub .f32 x1 x0))))
  ((fadd .f32 x0 (fmul .f32 (fdiv .f32 (ofInt .f32 x2) (ofInt .f32 x3)) (fsub .f32 x1 x0))), x1)
noncomputable def a69 (x0 x1 : Nat) (x2 x3 : Int) (p : Nat × Nat) : Res := firstT [(true, .agg #[.float .f32 (p.1), .float .f32 (p.2)], st0)]
noncomputable def w69 (x0 x1 : Nat) (x2 x3 : Int) : Res :=
 (cond (decide (((IntKind.i64.wrap (x2 + 1)) : Int) < x3))
 (a69 x0 x1 x2 x3 ((fadd .f32 x0 (fmul .f32 (fdiv .f32 (ofInt .f32 x2) (ofInt .f32 x3)) (fsub .f32 x1 x0))), (fadd .f32 x0 (fmul .f32 (fdiv .f32 (ofInt .f32 (IntKind.i64.wrap (x2 + 1))) (ofInt .f32 x3)) (fsub .f32 x1 x0)))))
 (a69 x0 x1 x2 x3 ((fadd .f32 x0 (fmul .f32 (fdiv .f32 (ofInt .f32 x2) (ofInt .f32 x3)) (fsub .f32 x1 x0))), x1)))
set_option maxRecDepth 100000 in
set_option maxHeartbeats 4000000 in
theorem e69 (x0 x1 : Nat) (x2 x3 : Int) : evFn Try.prog ext T21 noL 200 Try.f69 [.agg #[.float .f32 x0, .float .f32 x1], .int .i64 x2, .int .i64 x3] st0 = firstT [(true, .agg #[.float .f32 ((r69 x0 x1 x2 x3).1), .float .f32 ((r69 x0 x1 x2 x3).2)], st0)] :=
 (show evFn Try.prog ext T21 noL 200 Try.f69 [.agg #[.float .f32 x0, .float .f32 x1], .int .i64 x2, .int .i64 x3] st0 = w69 x0 x1 x2 x3 from by kernel_rfl).trans
 (show w69 x0 x1 x2 x3 = a69 x0 x1 x2 x3 (r69 x0 x1 x2 x3) from by unfold w69 r69; exact (cond_app (a69 x0 x1 x2 x3) _ rfl rfl))
noncomputable def s69 (args : List Value) (s : St) : List (Bool × Value × St) :=
 match args, s.h with
 | [.agg ⟨[.float .f32 x0, .float .f32 x1]⟩, .int .i64 x2, .int .i64 x3], [] => [(true, .agg #[.float .f32 ((r69 x0 x1 x2 x3).1), .float .f32 ((r69 x0 x1 x2 x3).2)], st0)]
 | _, _ => T21 69 args s
noncomputable def T22 : CallF := addF T21 69 s69
set_option maxRecDepth 100000 in
set_option maxHeartbeats 4000000 in
theorem ok22 : CfOk Try.prog T22 := by
  refine cfOk_add ok21 fun args s r s' h1 h2 h3 => ?_
  unfold s69 at h3; split at h3
  · rename_i h; exact callOk ok21 Try.func69 h1 h2 h (lfOkF_no _ _).body (e69 _ _ _ _) rfl h3
  · exact ok21 _ _ _ _ _ h1 h2 h3
end Go.Proofs.Ytfclciebpnnieaa
