/- What the functions that the statements reach answer, part 1. -/
import Derived.Test.YtfclciebpnnieaaA23
import Derived.KernelRfl
import Derived.Test.YtfclciebpnnieaaChecked
namespace Go.Proofs.Ytfclciebpnnieaa
open Go.Ab

def ext : FuncId → Option Ext := fun g => (cond (Nat.beq g 72) (some .f32bits) (cond (Nat.beq g 107) (some .f64from) (cond (Nat.beq g 108) (some .f64bits) (cond (Nat.beq g 119) (some .f32from) none))))
theorem ext_case {g : FuncId} {e : Ext} (h : ext g = some e) : g = 72 ∧ e = .f32bits ∨ g = 107 ∧ e = .f64from ∨ g = 108 ∧ e = .f64bits ∨ g = 119 ∧ e = .f32from := by
  unfold ext at h
  cases h0 : Nat.beq g 72 with
  | true => rw [h0] at h; cases h; exact .inl ⟨Nat.eq_of_beq_eq_true h0, rfl⟩
  | false =>
    rw [h0] at h
    cases h1 : Nat.beq g 107 with
    | true => rw [h1] at h; cases h; exact .inr (.inl ⟨Nat.eq_of_beq_eq_true h1, rfl⟩)
    | false =>
      rw [h1] at h
      cases h2 : Nat.beq g 108 with
      | true => rw [h2] at h; cases h; exact .inr (.inr (.inl ⟨Nat.eq_of_beq_eq_true h2, rfl⟩))
      | false =>
        rw [h2] at h
        cases h3 : Nat.beq g 119 with
        | true => rw [h3] at h; cases h; exact .inr (.inr (.inr (⟨Nat.eq_of_beq_eq_true h3, rfl⟩)))
        | false =>
          rw [h3] at h
          cases h
theorem extOk : ExtOk Try.prog ext := by
  intro g e h
  rcases ext_case h with ⟨rfl, rfl⟩ | ⟨rfl, rfl⟩ | ⟨rfl, rfl⟩ | ⟨rfl, rfl⟩
  · exact ⟨Try.f72, Try.func72, by kernel_rfl, by kernel_rfl, by kernel_rfl, by kernel_rfl⟩
  · exact ⟨Try.f107, Try.func107, by kernel_rfl, by kernel_rfl, by kernel_rfl, by kernel_rfl⟩
  · exact ⟨Try.f108, Try.func108, by kernel_rfl, by kernel_rfl, by kernel_rfl, by kernel_rfl⟩
  · exact ⟨Try.f119, Try.func119, by kernel_rfl, by kernel_rfl, by kernel_rfl, by kernel_rfl⟩
theorem mixed : Try.prog.follows .mixedOrders = true := by kernel_rfl
theorem callOk {cf : CallF} (hcf : CfOk Try.prog cf) {lf : LoopT} {N : Nat} {f : FuncId} {fn : Func} (hf : Try.prog.funcs[f]? = some fn) {args : List Value} {s : St} {l : List Blk} {n : Nat} {L : List (Bool × Value × St)} {r' : Value} {s' : St} (h1 : s.lo = s.h.length) (h2 : s.wr = []) (h : s.h = l) (hl : ∀ c, fn.body = some c → LfOk Try.prog lf (loopsOf c)) (he : evFn Try.prog ext cf lf N fn args ⟨l, n, []⟩ = firstT L) (hn : n = l.length) (h3 : firstT L = some (r', s')) : CallsOK Try.prog f args s r' s' :=
  call_ok extOk mixed hcf hf h1 h2 h hl he hn h3
def T0 : CallF := noF
theorem ok0 : CfOk Try.prog T0 := cfOk_no _

/-- laws.szStringS, loop 0: one round -/
noncomputable def b39l0 (ih : Int → Int → List ByteArray → (Nat × Int × Int)) (x0 x1 : Int) (x2 : List ByteArray) : Nat × Int × Int :=
 cond (decide ((x1 : Int) < ((x2.length : Nat) : Int)))
  (cond ((decide ((0 : Int) ≤ x1)) && (Nat.blt (Int.toNat x1) x2.length))
   (cond (decide (((IntKind.i64.wrap (x0 - ((((x2.getD (Int.toNat x1) .empty).size) : Nat) : Int))) : Int) < 0))
    (0, (IntKind.i64.wrap (x0 - ((((x2.getD (Int.toNat x1) .empty).size) : Nat) : Int))), 0)
    (ih (IntKind.i64.wrap (x0 - ((((x2.getD (Int.toNat x1) .empty).size) : Nat) : Int))) (IntKind.i64.wrap (x1 + 1)) x2))
   (2, 0, 0))
  (1, 0, x0)
noncomputable def r39l0 : Nat → Int → Int → List ByteArray → (Nat × Int × Int)
 | 0, _, _, _ => (2, 0, 0)
 | m + 1, x0, x1, x2 => b39l0 (r39l0 m) x0 x1 x2
noncomputable def a39l0 (x0 x1 : Int) (x2 : List ByteArray) (p : Nat × Int × Int) : Option (Fin' × List Value × St) := firstT ([((Nat.beq (p.1) 0), .ret, [.int .i64 (p.2.1), .int .i64 (-1)], ⟨[⟨false, (some (.strs x2))⟩], 1, []⟩), ((Nat.beq (p.1) 1), .exit 0, [.int .i64 (p.2.2), anyV], ⟨[⟨false, (some (.strs x2))⟩], 1, []⟩)].map fun (b, x) => (b, (x.1, frameOf 28 [1, 4] x.2.1, x.2.2)))
theorem v39l0 (x0 x1 : Int) (x2 : List ByteArray) (p : Nat × Int × Int) : alts ([((Nat.beq (p.1) 0), .ret, [.int .i64 (p.2.1), .int .i64 (-1)], ⟨[⟨false, (some (.strs x2))⟩], 1, []⟩), ((Nat.beq (p.1) 1), .exit 0, [.int .i64 (p.2.2), anyV], ⟨[⟨false, (some (.strs x2))⟩], 1, []⟩)].map fun (b, x) => (b, (x.1, frameOf 28 [1, 4] x.2.1, x.2.2))) some = a39l0 x0 x1 x2 p := alts_first _
noncomputable def q39l0 (m : Nat) : SumK := fun vals s =>
 match vals, s.h with
 | [.iface f0 .nilIface, .int .i64 x0, .int .i64 x1], [⟨false, some (.strs x2)⟩] => if f0 = 0 then [((Nat.beq ((r39l0 m x0 x1 x2).1) 0), .ret, [.int .i64 ((r39l0 m x0 x1 x2).2.1), .int .i64 (-1)], ⟨[⟨false, (some (.strs x2))⟩], 1, []⟩), ((Nat.beq ((r39l0 m x0 x1 x2).1) 1), .exit 0, [.int .i64 ((r39l0 m x0 x1 x2).2.2), anyV], ⟨[⟨false, (some (.strs x2))⟩], 1, []⟩)] else noQ vals s
 | _, _ => noQ vals s
noncomputable def t39l0 (ih : Int → Int → List ByteArray → (Nat × Int × Int)) (x0 x1 : Int) (x2 : List ByteArray) : Option (Fin' × List Value × St) :=
 (cond (decide ((x1 : Int) < ((x2.length : Nat) : Int)))
 (cond ((decide ((0 : Int) ≤ x1)) && (Nat.blt (Int.toNat x1) x2.length))
  (cond (decide (((IntKind.i64.wrap (x0 - ((((x2.getD (Int.toNat x1) .empty).size) : Nat) : Int))) : Int) < 0))
   (some (.ret, frameOf 28 [1, 4] [.int .i64 (IntKind.i64.wrap (x0 - ((((x2.getD (Int.toNat x1) .empty).size) : Nat) : Int))), .int .i64 (-1)], ⟨[⟨false, (some (.strs x2))⟩], 1, []⟩))
   (cond (Nat.beq ((ih (IntKind.i64.wrap (x0 - ((((x2.getD (Int.toNat x1) .empty).size) : Nat) : Int))) (IntKind.i64.wrap (x1 + 1)) x2).1) 0)
    (some (.ret, frameOf 28 [1, 4] [.int .i64 ((ih (IntKind.i64.wrap (x0 - ((((x2.getD (Int.toNat x1) .empty).size) : Nat) : Int))) (IntKind.i64.wrap (x1 + 1)) x2).2.1), .int .i64 (-1)], ⟨[⟨false, (some (.strs x2))⟩], 1, []⟩))
    (cond (Nat.beq ((ih (IntKind.i64.wrap (x0 - ((((x2.getD (Int.toNat x1) .empty).size) : Nat) : Int))) (IntKind.i64.wrap (x1 + 1)) x2).1) 1)
     (some (.exit 0, frameOf 28 [1, 4] [.int .i64 ((ih (IntKind.i64.wrap (x0 - ((((x2.getD (Int.toNat x1) .empty).size) : Nat) : Int))) (IntKind.i64.wrap (x1 + 1)) x2).2.2), anyV], ⟨[⟨false, (some (.strs x2))⟩], 1, []⟩))
     none)))
  none)
 (some (.exit 0, frameOf 28 [1, 4] [.int .i64 x0, anyV], ⟨[⟨false, (some (.strs x2))⟩], 1, []⟩)))
noncomputable def w39l0 (ih : Int → Int → List ByteArray → (Nat × Int × Int)) (x0 x1 : Int) (x2 : List ByteArray) : Option (Fin' × List Value × St) :=
 (cond (decide ((x1 : Int) < ((x2.length : Nat) : Int)))
 (cond ((decide ((0 : Int) ≤ x1)) && (Nat.blt (Int.toNat x1) x2.length))
  (cond (Nat.blt (Int.toNat x1) x2.length)
   (cond (decide (((IntKind.i64.wrap (x0 - ((((x2.getD (Int.toNat x1) .empty).size) : Nat) : Int))) : Int) < 0))
    (some (.ret, frameOf 28 [1, 4] [.int .i64 (IntKind.i64.wrap (x0 - ((((x2.getD (Int.toNat x1) .empty).size) : Nat) : Int))), .int .i64 (-1)], ⟨[⟨false, (some (.strs x2))⟩], 1, []⟩))
    (cond (Nat.beq ((ih (IntKind.i64.wrap (x0 - ((((x2.getD (Int.toNat x1) .empty).size) : Nat) : Int))) (IntKind.i64.wrap (x1 + 1)) x2).1) 0)
     (some (.ret, frameOf 28 [1, 4] [.int .i64 ((ih (IntKind.i64.wrap (x0 - ((((x2.getD (Int.toNat x1) .empty).size) : Nat) : Int))) (IntKind.i64.wrap (x1 + 1)) x2).2.1), .int .i64 (-1)], ⟨[⟨false, (some (.strs x2))⟩], 1, []⟩))
     (cond (Nat.beq ((ih (IntKind.i64.wrap (x0 - ((((x2.getD (Int.toNat x1) .empty).size) : Nat) : Int))) (IntKind.i64.wrap (x1 + 1)) x2).1) 1)
      (some (.exit 0, frameOf 28 [1, 4] [.int .i64 ((ih (IntKind.i64.wrap (x0 - ((((x2.getD (Int.toNat x1) .empty).size) : Nat) : Int))) (IntKind.i64.wrap (x1 + 1)) x2).2.2), anyV], ⟨[⟨false, (some (.strs x2))⟩], 1, []⟩))
      none)))
   none)
  none)
 (some (.exit 0, frameOf 28 [1, 4] [.int .i64 x0, anyV], ⟨[⟨false, (some (.strs x2))⟩], 1, []⟩)))
set_option maxRecDepth 100000 in
set_option maxHeartbeats 4000000 in
theorem e39l0 (m : Nat) (x0 x1 : Int) (x2 : List ByteArray) : evC Try.prog ext T0 noL 200 (loopN Try.f39 0) (loopTail [0, 1, 5] [1, 4] [] (sumK 28 [0, 1, 5] [1, 4] (q39l0 m))) (frameOf 28 [0, 1, 5] [wsl 0, .int .i64 x0, .int .i64 x1]) ⟨[⟨false, (some (.strs x2))⟩], 1, []⟩ = firstT ([((Nat.beq ((r39l0 (m + 1) x0 x1 x2).1) 0), .ret, [.int .i64 ((r39l0 (m + 1) x0 x1 x2).2.1), .int .i64 (-1)], ⟨[⟨false, (some (.strs x2))⟩], 1, []⟩), ((Nat.beq ((r39l0 (m + 1) x0 x1 x2).1) 1), .exit 0, [.int .i64 ((r39l0 (m + 1) x0 x1 x2).2.2), anyV], ⟨[⟨false, (some (.strs x2))⟩], 1, []⟩)].map fun (b, x) => (b, (x.1, frameOf 28 [1, 4] x.2.1, x.2.2))) :=
 (show evC Try.prog ext T0 noL 200 (loopN Try.f39 0) (loopTail [0, 1, 5] [1, 4] [] (sumK 28 [0, 1, 5] [1, 4] (q39l0 m))) (frameOf 28 [0, 1, 5] [wsl 0, .int .i64 x0, .int .i64 x1]) ⟨[⟨false, (some (.strs x2))⟩], 1, []⟩ = w39l0 (r39l0 m) x0 x1 x2 from by kernel_rfl).trans
 ((show w39l0 (r39l0 m) x0 x1 x2 = t39l0 (r39l0 m) x0 x1 x2 from (cond_cong _ (fun h0 => (cond_cong _ (fun h1 => (cond_t (ev_and2 h1) rfl)) (fun h1 => rfl))) (fun h0 => rfl))).trans
 (show t39l0 (r39l0 m) x0 x1 x2 = a39l0 x0 x1 x2 (r39l0 (m + 1) x0 x1 x2) from (cond_app (a39l0 x0 x1 x2) _ (cond_app (a39l0 x0 x1 x2) _ (cond_app (a39l0 x0 x1 x2) _ rfl (v39l0 x0 x1 x2 ((r39l0 m) (IntKind.i64.wrap (x0 - ((((x2.getD (Int.toNat x1) .empty).size) : Nat) : Int))) (IntKind.i64.wrap (x1 + 1)) x2))) rfl) rfl)))
set_option maxRecDepth 100000 in
set_option maxHeartbeats 4000000 in
theorem qm39l0 : ∀ m, SumKOk Try.prog (loopN Try.f39 0) 28 [0, 1, 5] [1, 4] (q39l0 m) := by
  intro m
  induction m with
  | zero =>
    intro vals s x h1 h2 h3
    unfold q39l0 at h3; split at h3
    · rename_i h; split at h3
      · rename_i hc; obtain ⟨rfl⟩ := hc; exact absurd h3 (by simp [r39l0, firstT, Nat.beq])
      · exact noQ_ok _ _ _ h1 h2 h3
    · exact noQ_ok _ _ _ h1 h2 h3
  | succ m ih =>
    intro vals s x h1 h2 h3
    unfold q39l0 at h3; split at h3
    · rename_i h; split at h3
      · rename_i hc; obtain ⟨rfl⟩ := hc; exact sum_step ok0 extOk mixed ((lfOkF_no _ _).inner (by kernel_rfl)) ih h1 h2 h (e39l0 m _ _ _) rfl h3
      · exact noQ_ok _ _ _ h1 h2 h3
    · exact noQ_ok _ _ _ h1 h2 h3
noncomputable def Q39l0 : SumK := fun vals s => q39l0 (fuelOf vals s.h) vals s
theorem qok39l0 : SumKOk Try.prog (loopN Try.f39 0) 28 [0, 1, 5] [1, 4] Q39l0 := fuel_ok qm39l0 fuelOf
noncomputable def L39_1 : LoopT := addL noL 6 [0, 1, 5] (sumK 28 [0, 1, 5] [1, 4] Q39l0)
theorem lok39_1 : LfOkF Try.prog L39_1 Try.f39 := lfOkF_add (lfOkF_no _ _) qok39l0 (by kernel_rfl) (by kernel_rfl) (by kernel_rfl)

/-- laws.szStringS -/
noncomputable def r39 (x0 : Int) (x1 : List ByteArray) : Nat × Int :=
 cond (decide (((IntKind.i64.wrap (x0 - ((x1.length : Nat) : Int))) : Int) < 0))
  (0, (-1))
  (cond (Nat.beq ((r39l0 (1000 + x1.length) (IntKind.i64.wrap (x0 - ((x1.length : Nat) : Int))) 0 x1).1) 0)
   (0, (-1))
   (cond (Nat.beq ((r39l0 (1000 + x1.length) (IntKind.i64.wrap (x0 - ((x1.length : Nat) : Int))) 0 x1).1) 1)
    (0, ((r39l0 (1000 + x1.length) (IntKind.i64.wrap (x0 - ((x1.length : Nat) : Int))) 0 x1).2.2))
    (1, 0)))
noncomputable def a39 (x0 : Int) (x1 : List ByteArray) (p : Nat × Int) : Res := firstT [((Nat.beq (p.1) 0), .int .i64 (p.2), ⟨[⟨false, (some (.strs x1))⟩], 1, []⟩)]
noncomputable def t39 (x0 : Int) (x1 : List ByteArray) : Res :=
 (cond (decide (((IntKind.i64.wrap (x0 - ((x1.length : Nat) : Int))) : Int) < 0))
 (some (.int .i64 (-1), ⟨[⟨false, (some (.strs x1))⟩], 1, []⟩))
 (cond (Nat.beq ((r39l0 (1000 + x1.length) (IntKind.i64.wrap (x0 - ((x1.length : Nat) : Int))) 0 x1).1) 0)
  (some (.int .i64 (-1), ⟨[⟨false, (some (.strs x1))⟩], 1, []⟩))
  (cond (Nat.beq ((r39l0 (1000 + x1.length) (IntKind.i64.wrap (x0 - ((x1.length : Nat) : Int))) 0 x1).1) 1)
   (some (.int .i64 ((r39l0 (1000 + x1.length) (IntKind.i64.wrap (x0 - ((x1.length : Nat) : Int))) 0 x1).2.2), ⟨[⟨false, (some (.strs x1))⟩], 1, []⟩))
   none)))
set_option maxRecDepth 100000 in
set_option maxHeartbeats 4000000 in
theorem e39 (x0 : Int) (x1 : List ByteArray) : evFn Try.prog ext T0 L39_1 200 Try.f39 [wsl 0, .int .i64 x0] ⟨[⟨false, (some (.strs x1))⟩], 1, []⟩ = firstT [((Nat.beq ((r39 x0 x1).1) 0), .int .i64 ((r39 x0 x1).2), ⟨[⟨false, (some (.strs x1))⟩], 1, []⟩)] :=
 (show evFn Try.prog ext T0 L39_1 200 Try.f39 [wsl 0, .int .i64 x0] ⟨[⟨false, (some (.strs x1))⟩], 1, []⟩ = t39 x0 x1 from by kernel_rfl).trans
 (show t39 x0 x1 = a39 x0 x1 (r39 x0 x1) from (cond_app (a39 x0 x1) _ rfl (cond_app (a39 x0 x1) _ rfl (cond_app (a39 x0 x1) _ rfl rfl))))
noncomputable def s39 (args : List Value) (s : St) : List (Bool × Value × St) :=
 match args, s.h with
 | [.iface f0 .nilIface, .int .i64 x0], [⟨false, some (.strs x1)⟩] => if f0 = 0 then [((Nat.beq ((r39 x0 x1).1) 0), .int .i64 ((r39 x0 x1).2), ⟨[⟨false, (some (.strs x1))⟩], 1, []⟩)] else T0 39 args s
 | _, _ => T0 39 args s
noncomputable def T1 : CallF := addF T0 39 s39
set_option maxRecDepth 100000 in
set_option maxHeartbeats 4000000 in
theorem ok1 : CfOk Try.prog T1 := by
  refine cfOk_add ok0 fun args s r s' h1 h2 h3 => ?_
  unfold s39 at h3; split at h3
  · rename_i h; split at h3
    · rename_i hc; obtain ⟨rfl⟩ := hc; exact callOk ok0 Try.func39 h1 h2 h lok39_1.body (e39 _ _) rfl h3
    · exact ok0 _ _ _ _ _ h1 h2 h3
  · exact ok0 _ _ _ _ _ h1 h2 h3

/-- laws.szOpS -/
noncomputable def r40 (x0 : Int) (x1 : List (List Int)) : Int :=
 cond (decide (((IntKind.i64.wrap (x0 - ((x1.length : Nat) : Int))) : Int) < 0))
  ((-1))
  ((IntKind.i64.wrap (x0 - ((x1.length : Nat) : Int))))
noncomputable def a40 (x0 : Int) (x1 : List (List Int)) (p : Int) : Res := firstT [(true, .int .i64 p, ⟨[⟨false, (some (.tab [.int .i8, .int .i16, .fl .f32] x1))⟩], 1, []⟩)]
noncomputable def t40 (x0 : Int) (x1 : List (List Int)) : Res :=
 (cond (decide (((IntKind.i64.wrap (x0 - ((x1.length : Nat) : Int))) : Int) < 0))
 (some (.int .i64 (-1), ⟨[⟨false, (some (.tab [.int .i8, .int .i16, .fl .f32] x1))⟩], 1, []⟩))
 (some (.int .i64 (IntKind.i64.wrap (x0 - ((x1.length : Nat) : Int))), ⟨[⟨false, (some (.tab [.int .i8, .int .i16, .fl .f32] x1))⟩], 1, []⟩)))
set_option maxRecDepth 100000 in
set_option maxHeartbeats 4000000 in
theorem e40 (x0 : Int) (x1 : List (List Int)) : evFn Try.prog ext T1 noL 200 Try.f40 [wsl 0, .int .i64 x0] ⟨[⟨false, (some (.tab [.int .i8, .int .i16, .fl .f32] x1))⟩], 1, []⟩ = firstT [(true, .int .i64 (r40 x0 x1), ⟨[⟨false, (some (.tab [.int .i8, .int .i16, .fl .f32] x1))⟩], 1, []⟩)] :=
 (show evFn Try.prog ext T1 noL 200 Try.f40 [wsl 0, .int .i64 x0] ⟨[⟨false, (some (.tab [.int .i8, .int .i16, .fl .f32] x1))⟩], 1, []⟩ = t40 x0 x1 from by kernel_rfl).trans
 (show t40 x0 x1 = a40 x0 x1 (r40 x0 x1) from (cond_app (a40 x0 x1) _ rfl rfl))
noncomputable def s40 (args : List Value) (s : St) : List (Bool × Value × St) :=
 match args, s.h with
 | [.iface f0 .nilIface, .int .i64 x0], [⟨false, some (.tab [.int .i8, .int .i16, .fl .f32] x1)⟩] => if f0 = 0 then [(true, .int .i64 (r40 x0 x1), ⟨[⟨false, (some (.tab [.int .i8, .int .i16, .fl .f32] x1))⟩], 1, []⟩)] else T1 40 args s
 | _, _ => T1 40 args s
noncomputable def T2 : CallF := addF T1 40 s40
set_option maxRecDepth 100000 in
set_option maxHeartbeats 4000000 in
theorem ok2 : CfOk Try.prog T2 := by
  refine cfOk_add ok1 fun args s r s' h1 h2 h3 => ?_
  unfold s40 at h3; split at h3
  · rename_i h; split at h3
    · rename_i hc; obtain ⟨rfl⟩ := hc; exact callOk ok1 Try.func40 h1 h2 h (lfOkF_no _ _).body (e40 _ _) rfl h3
    · exact ok1 _ _ _ _ _ h1 h2 h3
  · exact ok1 _ _ _ _ _ h1 h2 h3

/-- laws.szProgram -/
noncomputable def r10 (x0 : Int) (x1 : List ByteArray) (x2 : List (List Int)) : Nat × Int :=
 cond (Nat.beq ((r39 x0 x1).1) 0)
  (cond (decide ((((r39 x0 x1).2) : Int) < 0))
   (0, (-1))
   (cond (decide (((r40 ((r39 x0 x1).2) x2) : Int) < 0))
    (0, (-1))
    (0, (r40 ((r39 x0 x1).2) x2))))
  (1, 0)
noncomputable def a10 (x0 : Int) (x1 : List ByteArray) (x2 : List (List Int)) (p : Nat × Int) : Res := firstT [((Nat.beq (p.1) 0), .int .i64 (p.2), ⟨[⟨false, (some (.strs x1))⟩, ⟨false, (some (.tab [.int .i8, .int .i16, .fl .f32] x2))⟩], 2, []⟩)]
noncomputable def t10 (x0 : Int) (x1 : List ByteArray) (x2 : List (List Int)) : Res :=
 (cond (Nat.beq ((r39 x0 x1).1) 0)
 (cond (decide ((((r39 x0 x1).2) : Int) < 0))
  (some (.int .i64 (-1), ⟨[⟨false, (some (.strs x1))⟩, ⟨false, (some (.tab [.int .i8, .int .i16, .fl .f32] x2))⟩], 2, []⟩))
  (cond (decide (((r40 ((r39 x0 x1).2) x2) : Int) < 0))
   (some (.int .i64 (-1), ⟨[⟨false, (some (.strs x1))⟩, ⟨false, (some (.tab [.int .i8, .int .i16, .fl .f32] x2))⟩], 2, []⟩))
   (some (.int .i64 (r40 ((r39 x0 x1).2) x2), ⟨[⟨false, (some (.strs x1))⟩, ⟨false, (some (.tab [.int .i8, .int .i16, .fl .f32] x2))⟩], 2, []⟩))))
 none)
set_option maxRecDepth 100000 in
set_option maxHeartbeats 4000000 in
theorem e10 (x0 : Int) (x1 : List ByteArray) (x2 : List (List Int)) : evFn Try.prog ext T2 noL 200 Try.f10 [.agg #[wsl 0, wsl 1], .int .i64 x0] ⟨[⟨false, (some (.strs x1))⟩, ⟨false, (some (.tab [.int .i8, .int .i16, .fl .f32] x2))⟩], 2, []⟩ = firstT [((Nat.beq ((r10 x0 x1 x2).1) 0), .int .i64 ((r10 x0 x1 x2).2), ⟨[⟨false, (some (.strs x1))⟩, ⟨false, (some (.tab [.int .i8, .int .i16, .fl .f32] x2))⟩], 2, []⟩)] :=
 (show evFn Try.prog ext T2 noL 200 Try.f10 [.agg #[wsl 0, wsl 1], .int .i64 x0] ⟨[⟨false, (some (.strs x1))⟩, ⟨false, (some (.tab [.int .i8, .int .i16, .fl .f32] x2))⟩], 2, []⟩ = t10 x0 x1 x2 from by kernel_rfl).trans
 (show t10 x0 x1 x2 = a10 x0 x1 x2 (r10 x0 x1 x2) from (cond_app (a10 x0 x1 x2) _ (cond_app (a10 x0 x1 x2) _ rfl (cond_app (a10 x0 x1 x2) _ rfl rfl)) rfl))
noncomputable def s10 (args : List Value) (s : St) : List (Bool × Value × St) :=
 match args, s.h with
 | [.agg ⟨[.iface f0 .nilIface, .iface f1 .nilIface]⟩, .int .i64 x0], [⟨false, some (.strs x1)⟩, ⟨false, some (.tab [.int .i8, .int .i16, .fl .f32] x2)⟩] => if f0 = 0 ∧ f1 = 1 then [((Nat.beq ((r10 x0 x1 x2).1) 0), .int .i64 ((r10 x0 x1 x2).2), ⟨[⟨false, (some (.strs x1))⟩, ⟨false, (some (.tab [.int .i8, .int .i16, .fl .f32] x2))⟩], 2, []⟩)] else T2 10 args s
 | _, _ => T2 10 args s
noncomputable def T3 : CallF := addF T2 10 s10
set_option maxRecDepth 100000 in
set_option maxHeartbeats 4000000 in
theorem ok3 : CfOk Try.prog T3 := by
  refine cfOk_add ok2 fun args s r s' h1 h2 h3 => ?_
  unfold s10 at h3; split at h3
  · rename_i h; split at h3
    · rename_i hc; obtain ⟨rfl, rfl⟩ := hc; exact callOk ok2 Try.func10 h1 h2 h (lfOkF_no _ _).body (e10 _ _ _) rfl h3
    · exact ok2 _ _ _ _ _ h1 h2 h3
  · exact ok2 _ _ _ _ _ h1 h2 h3

/-- laws.toStringS, loop 0: one round -/
noncomputable def b42l0 (ih : Int → List ByteArray → List ByteArray → (Nat × List ByteArray)) (x0 : Int) (x1 x2 : List ByteArray) : Nat × List ByteArray :=
 cond (decide ((x0 : Int) < ((x1.length : Nat) : Int)))
  (cond ((decide ((0 : Int) ≤ x0)) && (Nat.blt (Int.toNat x0) x1.length))
   (cond ((decide ((0 : Int) ≤ x0)) && (Nat.blt (Int.toNat x0) x2.length))
    (ih (IntKind.i64.wrap (x0 + 1)) x1 (x2.set (Int.toNat x0) (x1.getD (Int.toNat x0) .empty)))
    (1, []))
   (1, []))
  (0, x2)
noncomputable def r42l0 : Nat → Int → List ByteArray → List ByteArray → (Nat × List ByteArray)
 | 0, _, _, _ => (1, [])
 | m + 1, x0, x1, x2 => b42l0 (r42l0 m) x0 x1 x2
noncomputable def a42l0 (x0 : Int) (x1 x2 : List ByteArray) (p : Nat × List ByteArray) : Option (Fin' × List Value × St) := firstT ([((Nat.beq (p.1) 0), .exit 0, [wsl 1], ⟨[⟨false, (some (.strs x1))⟩, ⟨true, (some (.strs (p.2)))⟩], 2, [1]⟩)].map fun (b, x) => (b, (x.1, frameOf 22 [3] x.2.1, x.2.2)))
theorem v42l0 (x0 : Int) (x1 x2 : List ByteArray) (p : Nat × List ByteArray) : alts ([((Nat.beq (p.1) 0), .exit 0, [wsl 1], ⟨[⟨false, (some (.strs x1))⟩, ⟨true, (some (.strs (p.2)))⟩], 2, [1]⟩)].map fun (b, x) => (b, (x.1, frameOf 22 [3] x.2.1, x.2.2))) some = a42l0 x0 x1 x2 p := alts_first _
noncomputable def q42l0 (m : Nat) : SumK := fun vals s =>
 match vals, s.h with
 | [.iface f0 .nilIface, .iface f1 .nilIface, .int .i64 x0], [⟨false, some (.strs x1)⟩, ⟨true, some (.strs x2)⟩] => if f0 = 0 ∧ f1 = 1 then [((Nat.beq ((r42l0 m x0 x1 x2).1) 0), .exit 0, [wsl 1], ⟨[⟨false, (some (.strs x1))⟩, ⟨true, (some (.strs ((r42l0 m x0 x1 x2).2)))⟩], 2, [1]⟩)] else noQ vals s
 | _, _ => noQ vals s
noncomputable def t42l0 (ih : Int → List ByteArray → List ByteArray → (Nat × List ByteArray)) (x0 : Int) (x1 x2 : List ByteArray) : Option (Fin' × List Value × St) :=
 (cond (decide ((x0 : Int) < ((x1.length : Nat) : Int)))
 (cond ((decide ((0 : Int) ≤ x0)) && (Nat.blt (Int.toNat x0) x1.length))
  (cond ((decide ((0 : Int) ≤ x0)) && (Nat.blt (Int.toNat x0) x2.length))
   (cond (Nat.beq ((ih (IntKind.i64.wrap (x0 + 1)) x1 (x2.set (Int.toNat x0) (x1.getD (Int.toNat x0) .empty))).1) 0)
    (some (.exit 0, frameOf 22 [3] [wsl 1], ⟨[⟨false, (some (.strs x1))⟩, ⟨true, (some (.strs ((ih (IntKind.i64.wrap (x0 + 1)) x1 (x2.set (Int.toNat x0) (x1.getD (Int.toNat x0) .empty))).2)))⟩], 2, [1]⟩))
    none)
   none)
  none)
 (some (.exit 0, frameOf 22 [3] [wsl 1], ⟨[⟨false, (some (.strs x1))⟩, ⟨true, (some (.strs x2))⟩], 2, [1]⟩)))
noncomputable def w42l0 (ih : Int → List ByteArray → List ByteArray → (Nat × List ByteArray)) (x0 : Int) (x1 x2 : List ByteArray) : Option (Fin' × List Value × St) :=
 (cond (decide ((x0 : Int) < ((x1.length : Nat) : Int)))
 (cond ((decide ((0 : Int) ≤ x0)) && (Nat.blt (Int.toNat x0) x1.length))
  (cond (Nat.blt (Int.toNat x0) x1.length)
   (cond ((decide ((0 : Int) ≤ x0)) && (Nat.blt (Int.toNat x0) x2.length))
    (cond (Nat.blt (Int.toNat x0) x2.length)
     (cond (Nat.beq ((ih (IntKind.i64.wrap (x0 + 1)) x1 (x2.set (Int.toNat x0) (x1.getD (Int.toNat x0) .empty))).1) 0)
      (some (.exit 0, frameOf 22 [3] [wsl 1], ⟨[⟨false, (some (.strs x1))⟩, ⟨true, (some (.strs ((ih (IntKind.i64.wrap (x0 + 1)) x1 (x2.set (Int.toNat x0) (x1.getD (Int.toNat x0) .empty))).2)))⟩], 2, [1]⟩))
      none)
     none)
    none)
   none)
  none)
 (some (.exit 0, frameOf 22 [3] [wsl 1], ⟨[⟨false, (some (.strs x1))⟩, ⟨true, (some (.strs x2))⟩], 2, [1]⟩)))
set_option maxRecDepth 100000 in
set_option maxHeartbeats 4000000 in
theorem e42l0 (m : Nat) (x0 : Int) (x1 x2 : List ByteArray) : evC Try.prog ext T3 noL 200 (loopN Try.f42 0) (loopTail [0, 3, 4] [3] [1] (sumK 22 [0, 3, 4] [3] (q42l0 m))) (frameOf 22 [0, 3, 4] [wsl 0, wsl 1, .int .i64 x0]) ⟨[⟨false, (some (.strs x1))⟩, ⟨true, (some (.strs x2))⟩], 2, []⟩ = firstT ([((Nat.beq ((r42l0 (m + 1) x0 x1 x2).1) 0), .exit 0, [wsl 1], ⟨[⟨false, (some (.strs x1))⟩, ⟨true, (some (.strs ((r42l0 (m + 1) x0 x1 x2).2)))⟩], 2, [1]⟩)].map fun (b, x) => (b, (x.1, frameOf 22 [3] x.2.1, x.2.2))) :=
 (show evC Try.prog ext T3 noL 200 (loopN Try.f42 0) (loopTail [0, 3, 4] [3] [1] (sumK 22 [0, 3, 4] [3] (q42l0 m))) (frameOf 22 [0, 3, 4] [wsl 0, wsl 1, .int .i64 x0]) ⟨[⟨false, (some (.strs x1))⟩, ⟨true, (some (.strs x2))⟩], 2, []⟩ = w42l0 (r42l0 m) x0 x1 x2 from by kernel_rfl).trans
 ((show w42l0 (r42l0 m) x0 x1 x2 = t42l0 (r42l0 m) x0 x1 x2 from (cond_cong _ (fun h0 => (cond_cong _ (fun h1 => (cond_t (ev_and2 h1) (cond_cong _ (fun h2 => (cond_t (ev_and2 h2) rfl)) (fun h2 => rfl)))) (fun h1 => rfl))) (fun h0 => rfl))).trans
 (show t42l0 (r42l0 m) x0 x1 x2 = a42l0 x0 x1 x2 (r42l0 (m + 1) x0 x1 x2) from (cond_app (a42l0 x0 x1 x2) _ (cond_app (a42l0 x0 x1 x2) _ (cond_app (a42l0 x0 x1 x2) _ (v42l0 x0 x1 x2 ((r42l0 m) (IntKind.i64.wrap (x0 + 1)) x1 (x2.set (Int.toNat x0) (x1.getD (Int.toNat x0) .empty)))) rfl) rfl) rfl)))
set_option maxRecDepth 100000 in
set_option maxHeartbeats 4000000 in
theorem qm42l0 : ∀ m, SumKOk Try.prog (loopN Try.f42 0) 22 [0, 3, 4] [3] (q42l0 m) := by
  intro m
  induction m with
  | zero =>
    intro vals s x h1 h2 h3
    unfold q42l0 at h3; split at h3
    · rename_i h; split at h3
      · rename_i hc; obtain ⟨rfl, rfl⟩ := hc; exact absurd h3 (by simp [r42l0, firstT, Nat.beq])
      · exact noQ_ok _ _ _ h1 h2 h3
    · exact noQ_ok _ _ _ h1 h2 h3
  | succ m ih =>
    intro vals s x h1 h2 h3
    unfold q42l0 at h3; split at h3
    · rename_i h; split at h3
      · rename_i hc; obtain ⟨rfl, rfl⟩ := hc; exact sum_step ok3 extOk mixed ((lfOkF_no _ _).inner (by kernel_rfl)) ih h1 h2 h (e42l0 m _ _ _) rfl h3
      · exact noQ_ok _ _ _ h1 h2 h3
    · exact noQ_ok _ _ _ h1 h2 h3
noncomputable def Q42l0 : SumK := fun vals s => q42l0 (fuelOf vals s.h) vals s
theorem qok42l0 : SumKOk Try.prog (loopN Try.f42 0) 22 [0, 3, 4] [3] Q42l0 := fuel_ok qm42l0 fuelOf
noncomputable def L42_1 : LoopT := addL noL 4 [0, 3, 4] (sumK 22 [0, 3, 4] [3] Q42l0)
theorem lok42_1 : LfOkF Try.prog L42_1 Try.f42 := lfOkF_add (lfOkF_no _ _) qok42l0 (by kernel_rfl) (by kernel_rfl) (by kernel_rfl)

/-- laws.toStringS -/
noncomputable def r42 (x0 : List ByteArray) : Nat × List ByteArray :=
 let c0 := (r42l0 (1000 + (List.replicate x0.length (ByteArray.mk #[])).length + x0.length) 0 x0 (List.replicate x0.length (ByteArray.mk #[])))
 cond (((decide ((0 : Int) ≤ ((x0.length : Nat) : Int)) && decide ((((x0.length : Nat) : Int) : Int) ≤ ((x0.length : Nat) : Int))) && decide (((16 : Nat) : Int) * ((x0.length : Nat) : Int) ≤ 281474976710656)) && decide (((x0.length : Nat) : Int) ≤ 9223372036854775807))
  (cond (Nat.beq (c0.1) 0)
   (0, (c0.2))
   (1, []))
  (1, [])
noncomputable def a42 (x0 : List ByteArray) (p : Nat × List ByteArray) : Res := firstT [((Nat.beq (p.1) 0), wsl 1, ⟨[⟨false, (some (.strs x0))⟩, ⟨true, (some (.strs (p.2)))⟩], 1, []⟩)]
noncomputable def t42 (x0 : List ByteArray) : Res :=
 let c0 := (r42l0 (1000 + (List.replicate x0.length (ByteArray.mk #[])).length + x0.length) 0 x0 (List.replicate x0.length (ByteArray.mk #[])))
 (cond (((decide ((0 : Int) ≤ ((x0.length : Nat) : Int)) && decide ((((x0.length : Nat) : Int) : Int) ≤ ((x0.length : Nat) : Int))) && decide (((16 : Nat) : Int) * ((x0.length : Nat) : Int) ≤ 281474976710656)) && decide (((x0.length : Nat) : Int) ≤ 9223372036854775807))
 (cond (Nat.beq (c0.1) 0)
  (some (wsl 1, ⟨[⟨false, (some (.strs x0))⟩, ⟨true, (some (.strs (c0.2)))⟩], 1, []⟩))
  none)
 none)
set_option maxRecDepth 100000 in
set_option maxHeartbeats 4000000 in
theorem e42 (x0 : List ByteArray) : evFn Try.prog ext T3 L42_1 200 Try.f42 [wsl 0] ⟨[⟨false, (some (.strs x0))⟩], 1, []⟩ = firstT [((Nat.beq ((r42 x0).1) 0), wsl 1, ⟨[⟨false, (some (.strs x0))⟩, ⟨true, (some (.strs ((r42 x0).2)))⟩], 1, []⟩)] :=
 (show evFn Try.prog ext T3 L42_1 200 Try.f42 [wsl 0] ⟨[⟨false, (some (.strs x0))⟩], 1, []⟩ = t42 x0 from by kernel_rfl).trans
 (show t42 x0 = a42 x0 (r42 x0) from (cond_app (a42 x0) _ (cond_app (a42 x0) _ rfl rfl) rfl))
noncomputable def s42 (args : List Value) (s : St) : List (Bool × Value × St) :=
 match args, s.h with
 | [.iface f0 .nilIface], [⟨false, some (.strs x0)⟩] => if f0 = 0 then [((Nat.beq ((r42 x0).1) 0), wsl 1, ⟨[⟨false, (some (.strs x0))⟩, ⟨true, (some (.strs ((r42 x0).2)))⟩], 1, []⟩)] else T3 42 args s
 | _, _ => T3 42 args s
noncomputable def T4 : CallF := addF T3 42 s42
set_option maxRecDepth 100000 in
set_option maxHeartbeats 4000000 in
theorem ok4 : CfOk Try.prog T4 := by
  refine cfOk_add ok3 fun args s r s' h1 h2 h3 => ?_
  unfold s42 at h3; split at h3
  · rename_i h; split at h3
    · rename_i hc; obtain ⟨rfl⟩ := hc; exact callOk ok3 Try.func42 h1 h2 h lok42_1.body (e42 _) rfl h3
    · exact ok3 _ _ _ _ _ h1 h2 h3
  · exact ok3 _ _ _ _ _ h1 h2 h3

/-- laws.toOp -/
noncomputable def r73 (x0 x1 : Int) (x2 : Nat) : Unit :=
 ()
noncomputable def a73 (x0 x1 : Int) (x2 : Nat) (p : Unit) : Res := firstT [(true, .agg #[.int .i8 x0, .int .i16 x1, .float .f32 x2], st0)]
noncomputable def t73 (x0 x1 : Int) (x2 : Nat) : Res :=
 (some (.agg #[.int .i8 x0, .int .i16 x1, .float .f32 x2], st0))
set_option maxRecDepth 100000 in
set_option maxHeartbeats 4000000 in
theorem e73 (x0 x1 : Int) (x2 : Nat) : evFn Try.prog ext T4 noL 200 Try.f73 [.agg #[.int .i8 x0, .int .i16 x1, .float .f32 x2]] st0 = firstT [(true, .agg #[.int .i8 x0, .int .i16 x1, .float .f32 x2], st0)] :=
 (show evFn Try.prog ext T4 noL 200 Try.f73 [.agg #[.int .i8 x0, .int .i16 x1, .float .f32 x2]] st0 = t73 x0 x1 x2 from by kernel_rfl).trans
 (show t73 x0 x1 x2 = a73 x0 x1 x2 (r73 x0 x1 x2) from rfl)
noncomputable def s73 (args : List Value) (s : St) : List (Bool × Value × St) :=
 match args, s.h with
 | [.agg ⟨[.int .i8 x0, .int .i16 x1, .float .f32 x2]⟩], [] => [(true, .agg #[.int .i8 x0, .int .i16 x1, .float .f32 x2], st0)]
 | _, _ => T4 73 args s
noncomputable def T5 : CallF := addF T4 73 s73
set_option maxRecDepth 100000 in
set_option maxHeartbeats 4000000 in
theorem ok5 : CfOk Try.prog T5 := by
  refine cfOk_add ok4 fun args s r s' h1 h2 h3 => ?_
  unfold s73 at h3; split at h3
  · rename_i h; exact callOk ok4 Try.func73 h1 h2 h (lfOkF_no _ _).body (e73 _ _ _) rfl h3
  · exact ok4 _ _ _ _ _ h1 h2 h3

/-- laws.toOpS, loop 0: one round -/
noncomputable def b43l0 (ih : Int → List (List Int) → List (List Int) → (Nat × List (List Int))) (x0 : Int) (x1 x2 : List (List Int)) : Nat × List (List Int) :=
 cond (decide ((x0 : Int) < ((x1.length : Nat) : Int)))
  (cond ((decide ((0 : Int) ≤ x0)) && (Nat.blt (Int.toNat x0) x1.length))
   (cond ((decide ((0 : Int) ≤ x0)) && (Nat.blt (Int.toNat x0) x2.length))
    (ih (IntKind.i64.wrap (x0 + 1)) x1 (x2.set (Int.toNat x0) [((x1.getD (Int.toNat x0) []).getD 0 0), ((x1.getD (Int.toNat x0) []).getD 1 0), (((Int.toNat ((x1.getD (Int.toNat x0) []).getD 2 0)) : Nat) : Int)]))
    (1, []))
   (1, []))
  (0, x2)
noncomputable def r43l0 : Nat → Int → List (List Int) → List (List Int) → (Nat × List (List Int))
 | 0, _, _, _ => (1, [])
 | m + 1, x0, x1, x2 => b43l0 (r43l0 m) x0 x1 x2
noncomputable def a43l0 (x0 : Int) (x1 x2 : List (List Int)) (p : Nat × List (List Int)) : Option (Fin' × List Value × St) := firstT ([((Nat.beq (p.1) 0), .exit 0, [wsl 1], ⟨[⟨false, (some (.tab [.int .i8, .int .i16, .fl .f32] x1))⟩, ⟨true, (some (.tab [.int .i8, .int .i16, .fl .f32] (p.2)))⟩], 2, [1]⟩)].map fun (b, x) => (b, (x.1, frameOf 23 [3] x.2.1, x.2.2)))
theorem v43l0 (x0 : Int) (x1 x2 : List (List Int)) (p : Nat × List (List Int)) : alts ([((Nat.beq (p.1) 0), .exit 0, [wsl 1], ⟨[⟨false, (some (.tab [.int .i8, .int .i16, .fl .f32] x1))⟩, ⟨true, (some (.tab [.int .i8, .int .i16, .fl .f32] (p.2)))⟩], 2, [1]⟩)].map fun (b, x) => (b, (x.1, frameOf 23 [3] x.2.1, x.2.2))) some = a43l0 x0 x1 x2 p := alts_first _
noncomputable def q43l0 (m : Nat) : SumK := fun vals s =>
 match vals, s.h with
 | [.iface f0 .nilIface, .iface f1 .nilIface, .int .i64 x0], [⟨false, some (.tab [.int .i8, .int .i16, .fl .f32] x1)⟩, ⟨true, some (.tab [.int .i8, .int .i16, .fl .f32] x2)⟩] => if f0 = 0 ∧ f1 = 1 then [((Nat.beq ((r43l0 m x0 x1 x2).1) 0), .exit 0, [wsl 1], ⟨[⟨false, (some (.tab [.int .i8, .int .i16, .fl .f32] x1))⟩, ⟨true, (some (.tab [.int .i8, .int .i16, .fl .f32] ((r43l0 m x0 x1 x2).2)))⟩], 2, [1]⟩)] else noQ vals s
 | _, _ => noQ vals s
noncomputable def t43l0 (ih : Int → List (List Int) → List (List Int) → (Nat × List (List Int))) (x0 : Int) (x1 x2 : List (List Int)) : Option (Fin' × List Value × St) :=
 (cond (decide ((x0 : Int) < ((x1.length : Nat) : Int)))
 (cond ((decide ((0 : Int) ≤ x0)) && (Nat.blt (Int.toNat x0) x1.length))
  (cond ((decide ((0 : Int) ≤ x0)) && (Nat.blt (Int.toNat x0) x2.length))
   (cond (Nat.beq ((ih (IntKind.i64.wrap (x0 + 1)) x1 (x2.set (Int.toNat x0) [((x1.getD (Int.toNat x0) []).getD 0 0), ((x1.getD (Int.toNat x0) []).getD 1 0), (((Int.toNat ((x1.getD (Int.toNat x0) []).getD 2 0)) : Nat) : Int)])).1) 0)
    (some (.exit 0, frameOf 23 [3] [wsl 1], ⟨[⟨false, (some (.tab [.int .i8, .int .i16, .fl .f32] x1))⟩, ⟨true, (some (.tab [.int .i8, .int .i16, .fl .f32] ((ih (IntKind.i64.wrap (x0 + 1)) x1 (x2.set (Int.toNat x0) [((x1.getD (Int.toNat x0) []).getD 0 0), ((x1.getD (Int.toNat x0) []).getD 1 0), (((Int.toNat ((x1.getD (Int.toNat x0) []).getD 2 0)) : Nat) : Int)])).2)))⟩], 2, [1]⟩))
    none)
   none)
  none)
 (some (.exit 0, frameOf 23 [3] [wsl 1], ⟨[⟨false, (some (.tab [.int .i8, .int .i16, .fl .f32] x1))⟩, ⟨true, (some (.tab [.int .i8, .int .i16, .fl .f32] x2))⟩], 2, [1]⟩)))
noncomputable def w43l0 (ih : Int → List (List Int) → List (List Int) → (Nat × List (List Int))) (x0 : Int) (x1 x2 : List (List Int)) : Option (Fin' × List Value × St) :=
 (cond (decide ((x0 : Int) < ((x1.length : Nat) : Int)))
 (cond ((decide ((0 : Int) ≤ x0)) && (Nat.blt (Int.toNat x0) x1.length))
  (cond (Nat.blt (Int.toNat x0) x1.length)
   (cond ((decide ((0 : Int) ≤ x0)) && (Nat.blt (Int.toNat x0) x2.length))
    (cond (Nat.blt (Int.toNat x0) x2.length)
     (cond (Nat.beq ((ih (IntKind.i64.wrap (x0 + 1)) x1 (x2.set (Int.toNat x0) [((x1.getD (Int.toNat x0) []).getD 0 0), ((x1.getD (Int.toNat x0) []).getD 1 0), (((Int.toNat ((x1.getD (Int.toNat x0) []).getD 2 0)) : Nat) : Int)])).1) 0)
      (some (.exit 0, frameOf 23 [3] [wsl 1], ⟨[⟨false, (some (.tab [.int .i8, .int .i16, .fl .f32] x1))⟩, ⟨true, (some (.tab [.int .i8, .int .i16, .fl .f32] ((ih (IntKind.i64.wrap (x0 + 1)) x1 (x2.set (Int.toNat x0) [((x1.getD (Int.toNat x0) []).getD 0 0), ((x1.getD (Int.toNat x0) []).getD 1 0), (((Int.toNat ((x1.getD (Int.toNat x0) []).getD 2 0)) : Nat) : Int)])).2)))⟩], 2, [1]⟩))
      none)
     none)
    none)
   none)
  none)
 (some (.exit 0, frameOf 23 [3] [wsl 1], ⟨[⟨false, (some (.tab [.int .i8, .int .i16, .fl .f32] x1))⟩, ⟨true, (some (.tab [.int .i8, .int .i16, .fl .f32] x2))⟩], 2, [1]⟩)))
set_option maxRecDepth 100000 in
set_option maxHeartbeats 4000000 in
theorem e43l0 (m : Nat) (x0 : Int) (x1 x2 : List (List Int)) : evC Try.prog ext T5 noL 200 (loopN Try.f43 0) (loopTail [0, 3, 4] [3] [1] (sumK 23 [0, 3, 4] [3] (q43l0 m))) (frameOf 23 [0, 3, 4] [wsl 0, wsl 1, .int .i64 x0]) ⟨[⟨false, (some (.tab [.int .i8, .int .i16, .fl .f32] x1))⟩, ⟨true, (some (.tab [.int .i8, .int .i16, .fl .f32] x2))⟩], 2, []⟩ = firstT ([((Nat.beq ((r43l0 (m + 1) x0 x1 x2).1) 0), .exit 0, [wsl 1], ⟨[⟨false, (some (.tab [.int .i8, .int .i16, .fl .f32] x1))⟩, ⟨true, (some (.tab [.int .i8, .int .i16, .fl .f32] ((r43l0 (m + 1) x0 x1 x2).2)))⟩], 2, [1]⟩)].map fun (b, x) => (b, (x.1, frameOf 23 [3] x.2.1, x.2.2))) :=
 (show evC Try.prog ext T5 noL 200 (loopN Try.f43 0) (loopTail [0, 3, 4] [3] [1] (sumK 23 [0, 3, 4] [3] (q43l0 m))) (frameOf 23 [0, 3, 4] [wsl 0, wsl 1, .int .i64 x0]) ⟨[⟨false, (some (.tab [.int .i8, .int .i16, .fl .f32] x1))⟩, ⟨true, (some (.tab [.int .i8, .int .i16, .fl .f32] x2))⟩], 2, []⟩ = w43l0 (r43l0 m) x0 x1 x2 from by kernel_rfl).trans
 ((show w43l0 (r43l0 m) x0 x1 x2 = t43l0 (r43l0 m) x0 x1 x2 from (cond_cong _ (fun h0 => (cond_cong _ (fun h1 => (cond_t (ev_and2 h1) (cond_cong _ (fun h2 => (cond_t (ev_and2 h2) rfl)) (fun h2 => rfl)))) (fun h1 => rfl))) (fun h0 => rfl))).trans
 (show t43l0 (r43l0 m) x0 x1 x2 = a43l0 x0 x1 x2 (r43l0 (m + 1) x0 x1 x2) from (cond_app (a43l0 x0 x1 x2) _ (cond_app (a43l0 x0 x1 x2) _ (cond_app (a43l0 x0 x1 x2) _ (v43l0 x0 x1 x2 ((r43l0 m) (IntKind.i64.wrap (x0 + 1)) x1 (x2.set (Int.toNat x0) [((x1.getD (Int.toNat x0) []).getD 0 0), ((x1.getD (Int.toNat x0) []).getD 1 0), (((Int.toNat ((x1.getD (Int.toNat x0) []).getD 2 0)) : Nat) : Int)]))) rfl) rfl) rfl)))
set_option maxRecDepth 100000 in
set_option maxHeartbeats 4000000 in
theorem qm43l0 : ∀ m, SumKOk Try.prog (loopN Try.f43 0) 23 [0, 3, 4] [3] (q43l0 m) := by
  intro m
  induction m with
  | zero =>
    intro vals s x h1 h2 h3
    unfold q43l0 at h3; split at h3
    · rename_i h; split at h3
      · rename_i hc; obtain ⟨rfl, rfl⟩ := hc; exact absurd h3 (by simp [r43l0, firstT, Nat.beq])
      · exact noQ_ok _ _ _ h1 h2 h3
    · exact noQ_ok _ _ _ h1 h2 h3
  | succ m ih =>
    intro vals s x h1 h2 h3
    unfold q43l0 at h3; split at h3
    · rename_i h; split at h3
      · rename_i hc; obtain ⟨rfl, rfl⟩ := hc; exact sum_step ok5 extOk mixed ((lfOkF_no _ _).inner (by kernel_rfl)) ih h1 h2 h (e43l0 m _ _ _) rfl h3
      · exact noQ_ok _ _ _ h1 h2 h3
    · exact noQ_ok _ _ _ h1 h2 h3
noncomputable def Q43l0 : SumK := fun vals s => q43l0 (fuelOf vals s.h) vals s
theorem qok43l0 : SumKOk Try.prog (loopN Try.f43 0) 23 [0, 3, 4] [3] Q43l0 := fuel_ok qm43l0 fuelOf
noncomputable def L43_1 : LoopT := addL noL 4 [0, 3, 4] (sumK 23 [0, 3, 4] [3] Q43l0)
theorem lok43_1 : LfOkF Try.prog L43_1 Try.f43 := lfOkF_add (lfOkF_no _ _) qok43l0 (by kernel_rfl) (by kernel_rfl) (by kernel_rfl)

/-- laws.toOpS -/
noncomputable def r43 (x0 : List (List Int)) : Nat × List (List Int) :=
 let c3 := (r43l0 (1000 + (List.replicate x0.length ([0, 0, 0] : List Int)).length + x0.length) 0 x0 (List.replicate x0.length ([0, 0, 0] : List Int)))
 cond (((decide ((0 : Int) ≤ ((x0.length : Nat) : Int)) && decide ((((x0.length : Nat) : Int) : Int) ≤ ((x0.length : Nat) : Int))) && decide (((8 : Nat) : Int) * ((x0.length : Nat) : Int) ≤ 281474976710656)) && decide (((x0.length : Nat) : Int) ≤ 9223372036854775807))
  (cond (Nat.beq (c3.1) 0)
   (0, (c3.2))
   (1, []))
  (1, [])
noncomputable def a43 (x0 : List (List Int)) (p : Nat × List (List Int)) : Res := firstT [((Nat.beq (p.1) 0), wsl 1, ⟨[⟨false, (some (.tab [.int .i8, .int .i16, .fl .f32] x0))⟩, ⟨true, (some (.tab [.int .i8, .int .i16, .fl .f32] (p.2)))⟩], 1, []⟩)]
noncomputable def t43 (x0 : List (List Int)) : Res :=
 let c3 := (r43l0 (1000 + (List.replicate x0.length ([0, 0, 0] : List Int)).length + x0.length) 0 x0 (List.replicate x0.length ([0, 0, 0] : List Int)))
 (cond (((decide ((0 : Int) ≤ ((x0.length : Nat) : Int)) && decide ((((x0.length : Nat) : Int) : Int) ≤ ((x0.length : Nat) : Int))) && decide (((8 : Nat) : Int) * ((x0.length : Nat) : Int) ≤ 281474976710656)) && decide (((x0.length : Nat) : Int) ≤ 9223372036854775807))
 (cond (Nat.beq (c3.1) 0)
  (some (wsl 1, ⟨[⟨false, (some (.tab [.int .i8, .int .i16, .fl .f32] x0))⟩, ⟨true, (some (.tab [.int .i8, .int .i16, .fl .f32] (c3.2)))⟩], 1, []⟩))
  none)
 none)
set_option maxRecDepth 100000 in
set_option maxHeartbeats 4000000 in
theorem e43 (x0 : List (List Int)) : evFn Try.prog ext T5 L43_1 200 Try.f43 [wsl 0] ⟨[⟨false, (some (.tab [.int .i8, .int .i16, .fl .f32] x0))⟩], 1, []⟩ = firstT [((Nat.beq ((r43 x0).1) 0), wsl 1, ⟨[⟨false, (some (.tab [.int .i8, .int .i16, .fl .f32] x0))⟩, ⟨true, (some (.tab [.int .i8, .int .i16, .fl .f32] ((r43 x0).2)))⟩], 1, []⟩)] :=
 (show evFn Try.prog ext T5 L43_1 200 Try.f43 [wsl 0] ⟨[⟨false, (some (.tab [.int .i8, .int .i16, .fl .f32] x0))⟩], 1, []⟩ = t43 x0 from by kernel_rfl).trans
 (show t43 x0 = a43 x0 (r43 x0) from (cond_app (a43 x0) _ (cond_app (a43 x0) _ rfl rfl) rfl))
noncomputable def s43 (args : List Value) (s : St) : List (Bool × Value × St) :=
 match args, s.h with
 | [.iface f0 .nilIface], [⟨false, some (.tab [.int .i8, .int .i16, .fl .f32] x0)⟩] => if f0 = 0 then [((Nat.beq ((r43 x0).1) 0), wsl 1, ⟨[⟨false, (some (.tab [.int .i8, .int .i16, .fl .f32] x0))⟩, ⟨true, (some (.tab [.int .i8, .int .i16, .fl .f32] ((r43 x0).2)))⟩], 1, []⟩)] else T5 43 args s
 | _, _ => T5 43 args s
noncomputable def T6 : CallF := addF T5 43 s43
set_option maxRecDepth 100000 in
set_option maxHeartbeats 4000000 in
theorem ok6 : CfOk Try.prog T6 := by
  refine cfOk_add ok5 fun args s r s' h1 h2 h3 => ?_
  unfold s43 at h3; split at h3
  · rename_i h; split at h3
    · rename_i hc; obtain ⟨rfl⟩ := hc; exact callOk ok5 Try.func43 h1 h2 h lok43_1.body (e43 _) rfl h3
    · exact ok5 _ _ _ _ _ h1 h2 h3
  · exact ok5 _ _ _ _ _ h1 h2 h3

/-- laws.toProgram -/
noncomputable def r12 (x0 : List ByteArray) (x1 : List (List Int)) : Nat × List ByteArray × List (List Int) :=
 cond (Nat.beq ((r42 x0).1) 0)
  (cond (Nat.beq ((r43 x1).1) 0)
   (0, ((r42 x0).2), ((r43 x1).2))
   (1, [], []))
  (1, [], [])
noncomputable def a12 (x0 : List ByteArray) (x1 : List (List Int)) (p : Nat × List ByteArray × List (List Int)) : Res := firstT [((Nat.beq (p.1) 0), .agg #[wsl 2, wsl 3], ⟨[⟨false, (some (.strs x0))⟩, ⟨false, (some (.tab [.int .i8, .int .i16, .fl .f32] x1))⟩, ⟨true, (some (.strs (p.2.1)))⟩, ⟨true, (some (.tab [.int .i8, .int .i16, .fl .f32] (p.2.2)))⟩], 2, []⟩)]
noncomputable def t12 (x0 : List ByteArray) (x1 : List (List Int)) : Res :=
 (cond (Nat.beq ((r42 x0).1) 0)
 (cond (Nat.beq ((r43 x1).1) 0)
  (some (.agg #[wsl 2, wsl 3], ⟨[⟨false, (some (.strs x0))⟩, ⟨false, (some (.tab [.int .i8, .int .i16, .fl .f32] x1))⟩, ⟨true, (some (.strs ((r42 x0).2)))⟩, ⟨true, (some (.tab [.int .i8, .int .i16, .fl .f32] ((r43 x1).2)))⟩], 2, []⟩))
  none)
 none)
set_option maxRecDepth 100000 in
set_option maxHeartbeats 4000000 in
theorem e12 (x0 : List ByteArray) (x1 : List (List Int)) : evFn Try.prog ext T6 noL 200 Try.f12 [.agg #[wsl 0, wsl 1]] ⟨[⟨false, (some (.strs x0))⟩, ⟨false, (some (.tab [.int .i8, .int .i16, .fl .f32] x1))⟩], 2, []⟩ = firstT [((Nat.beq ((r12 x0 x1).1) 0), .agg #[wsl 2, wsl 3], ⟨[⟨false, (some (.strs x0))⟩, ⟨false, (some (.tab [.int .i8, .int .i16, .fl .f32] x1))⟩, ⟨true, (some (.strs ((r12 x0 x1).2.1)))⟩, ⟨true, (some (.tab [.int .i8, .int .i16, .fl .f32] ((r12 x0 x1).2.2)))⟩], 2, []⟩)] :=
 (show evFn Try.prog ext T6 noL 200 Try.f12 [.agg #[wsl 0, wsl 1]] ⟨[⟨false, (some (.strs x0))⟩, ⟨false, (some (.tab [.int .i8, .int .i16, .fl .f32] x1))⟩], 2, []⟩ = t12 x0 x1 from by kernel_rfl).trans
 (show t12 x0 x1 = a12 x0 x1 (r12 x0 x1) from (cond_app (a12 x0 x1) _ (cond_app (a12 x0 x1) _ rfl rfl) rfl))
noncomputable def s12 (args : List Value) (s : St) : List (Bool × Value × St) :=
 match args, s.h with
 | [.agg ⟨[.iface f0 .nilIface, .iface f1 .nilIface]⟩], [⟨false, some (.strs x0)⟩, ⟨false, some (.tab [.int .i8, .int .i16, .fl .f32] x1)⟩] => if f0 = 0 ∧ f1 = 1 then [((Nat.beq ((r12 x0 x1).1) 0), .agg #[wsl 2, wsl 3], ⟨[⟨false, (some (.strs x0))⟩, ⟨false, (some (.tab [.int .i8, .int .i16, .fl .f32] x1))⟩, ⟨true, (some (.strs ((r12 x0 x1).2.1)))⟩, ⟨true, (some (.tab [.int .i8, .int .i16, .fl .f32] ((r12 x0 x1).2.2)))⟩], 2, []⟩)] else T6 12 args s
 | _, _ => T6 12 args s
noncomputable def T7 : CallF := addF T6 12 s12
set_option maxRecDepth 100000 in
set_option maxHeartbeats 4000000 in
theorem ok7 : CfOk Try.prog T7 := by
  refine cfOk_add ok6 fun args s r s' h1 h2 h3 => ?_
  unfold s12 at h3; split at h3
  · rename_i h; split at h3
    · rename_i hc; obtain ⟨rfl, rfl⟩ := hc; exact callOk ok6 Try.func12 h1 h2 h (lfOkF_no _ _).body (e12 _ _) rfl h3
    · exact ok6 _ _ _ _ _ h1 h2 h3
  · exact ok6 _ _ _ _ _ h1 h2 h3

/-- spec.SameProgram, loop 0: one round -/
noncomputable def b11l0 (ih : Int → List ByteArray → List (List Int) → List ByteArray → List (List Int) → Nat) (x0 : Int) (x1 : List ByteArray) (x2 : List (List Int)) (x3 : List ByteArray) (x4 : List (List Int)) : Nat :=
 cond (decide ((x0 : Int) < ((x1.length : Nat) : Int)))
  (cond ((decide ((0 : Int) ≤ x0)) && (Nat.blt (Int.toNat x0) x1.length))
   (cond ((decide ((0 : Int) ≤ x0)) && (Nat.blt (Int.toNat x0) x3.length))
    (cond (!((x1.getD (Int.toNat x0) .empty).toList == (x3.getD (Int.toNat x0) .empty).toList))
     (0)
     (ih (IntKind.i64.wrap (x0 + 1)) x1 x2 x3 x4))
    (2))
   (2))
  (1)
noncomputable def r11l0 : Nat → Int → List ByteArray → List (List Int) → List ByteArray → List (List Int) → Nat
 | 0, _, _, _, _, _ => (2)
 | m + 1, x0, x1, x2, x3, x4 => b11l0 (r11l0 m) x0 x1 x2 x3 x4
noncomputable def a11l0 (x0 : Int) (x1 : List ByteArray) (x2 : List (List Int)) (x3 : List ByteArray) (x4 : List (List Int)) (p : Nat) : Option (Fin' × List Value × St) := firstT ([((Nat.beq p 0), .ret, [.pointer (some ⟨0, 0, some 0⟩), .pointer (some ⟨1, 0, some 0⟩), .bool false], ⟨[⟨true, (some (.cells [wsl 2, wsl 3]))⟩, ⟨true, (some (.cells [wsl 4, wsl 5]))⟩, ⟨true, (some (.strs x1))⟩, ⟨true, (some (.tab [.int .i8, .int .i16, .fl .f32] x2))⟩, ⟨true, (some (.strs x3))⟩, ⟨true, (some (.tab [.int .i8, .int .i16, .fl .f32] x4))⟩], 6, []⟩), ((Nat.beq p 1), .exit 0, [.pointer (some ⟨0, 0, some 0⟩), .pointer (some ⟨1, 0, some 0⟩), anyV], ⟨[⟨true, (some (.cells [wsl 2, wsl 3]))⟩, ⟨true, (some (.cells [wsl 4, wsl 5]))⟩, ⟨true, (some (.strs x1))⟩, ⟨true, (some (.tab [.int .i8, .int .i16, .fl .f32] x2))⟩, ⟨true, (some (.strs x3))⟩, ⟨true, (some (.tab [.int .i8, .int .i16, .fl .f32] x4))⟩], 6, []⟩)].map fun (b, x) => (b, (x.1, frameOf 90 [2, 3, 4] x.2.1, x.2.2)))
theorem v11l0 (x0 : Int) (x1 : List ByteArray) (x2 : List (List Int)) (x3 : List ByteArray) (x4 : List (List Int)) (p : Nat) : alts ([((Nat.beq p 0), .ret, [.pointer (some ⟨0, 0, some 0⟩), .pointer (some ⟨1, 0, some 0⟩), .bool false], ⟨[⟨true, (some (.cells [wsl 2, wsl 3]))⟩, ⟨true, (some (.cells [wsl 4, wsl 5]))⟩, ⟨true, (some (.strs x1))⟩, ⟨true, (some (.tab [.int .i8, .int .i16, .fl .f32] x2))⟩, ⟨true, (some (.strs x3))⟩, ⟨true, (some (.tab [.int .i8, .int .i16, .fl .f32] x4))⟩], 6, []⟩), ((Nat.beq p 1), .exit 0, [.pointer (some ⟨0, 0, some 0⟩), .pointer (some ⟨1, 0, some 0⟩), anyV], ⟨[⟨true, (some (.cells [wsl 2, wsl 3]))⟩, ⟨true, (some (.cells [wsl 4, wsl 5]))⟩, ⟨true, (some (.strs x1))⟩, ⟨true, (some (.tab [.int .i8, .int .i16, .fl .f32] x2))⟩, ⟨true, (some (.strs x3))⟩, ⟨true, (some (.tab [.int .i8, .int .i16, .fl .f32] x4))⟩], 6, []⟩)].map fun (b, x) => (b, (x.1, frameOf 90 [2, 3, 4] x.2.1, x.2.2))) some = a11l0 x0 x1 x2 x3 x4 p := alts_first _
noncomputable def q11l0 (m : Nat) : SumK := fun vals s =>
 match vals, s.h with
 | [.pointer (some ⟨f0, f1, some f2⟩), .pointer (some ⟨f3, f4, some f5⟩), .int .i64 x0], [⟨true, some (.cells [.iface f6 .nilIface, .iface f7 .nilIface])⟩, ⟨true, some (.cells [.iface f8 .nilIface, .iface f9 .nilIface])⟩, ⟨true, some (.strs x1)⟩, ⟨true, some (.tab [.int .i8, .int .i16, .fl .f32] x2)⟩, ⟨true, some (.strs x3)⟩, ⟨true, some (.tab [.int .i8, .int .i16, .fl .f32] x4)⟩] => if f0 = 0 ∧ f1 = 0 ∧ f2 = 0 ∧ f3 = 1 ∧ f4 = 0 ∧ f5 = 0 ∧ f6 = 2 ∧ f7 = 3 ∧ f8 = 4 ∧ f9 = 5 then [((Nat.beq (r11l0 m x0 x1 x2 x3 x4) 0), .ret, [.pointer (some ⟨0, 0, some 0⟩), .pointer (some ⟨1, 0, some 0⟩), .bool false], ⟨[⟨true, (some (.cells [wsl 2, wsl 3]))⟩, ⟨true, (some (.cells [wsl 4, wsl 5]))⟩, ⟨true, (some (.strs x1))⟩, ⟨true, (some (.tab [.int .i8, .int .i16, .fl .f32] x2))⟩, ⟨true, (some (.strs x3))⟩, ⟨true, (some (.tab [.int .i8, .int .i16, .fl .f32] x4))⟩], 6, []⟩), ((Nat.beq (r11l0 m x0 x1 x2 x3 x4) 1), .exit 0, [.pointer (some ⟨0, 0, some 0⟩), .pointer (some ⟨1, 0, some 0⟩), anyV], ⟨[⟨true, (some (.cells [wsl 2, wsl 3]))⟩, ⟨true, (some (.cells [wsl 4, wsl 5]))⟩, ⟨true, (some (.strs x1))⟩, ⟨true, (some (.tab [.int .i8, .int .i16, .fl .f32] x2))⟩, ⟨true, (some (.strs x3))⟩, ⟨true, (some (.tab [.int .i8, .int .i16, .fl .f32] x4))⟩], 6, []⟩)] else noQ vals s
 | _, _ => noQ vals s
noncomputable def t11l0 (ih : Int → List ByteArray → List (List Int) → List ByteArray → List (List Int) → Nat) (x0 : Int) (x1 : List ByteArray) (x2 : List (List Int)) (x3 : List ByteArray) (x4 : List (List Int)) : Option (Fin' × List Value × St) :=
 (cond (decide ((x0 : Int) < ((x1.length : Nat) : Int)))
 (cond ((decide ((0 : Int) ≤ x0)) && (Nat.blt (Int.toNat x0) x1.length))
  (cond ((decide ((0 : Int) ≤ x0)) && (Nat.blt (Int.toNat x0) x3.length))
   (cond (!((x1.getD (Int.toNat x0) .empty).toList == (x3.getD (Int.toNat x0) .empty).toList))
    (some (.ret, frameOf 90 [2, 3, 4] [.pointer (some ⟨0, 0, some 0⟩), .pointer (some ⟨1, 0, some 0⟩), .bool false], ⟨[⟨true, (some (.cells [wsl 2, wsl 3]))⟩, ⟨true, (some (.cells [wsl 4, wsl 5]))⟩, ⟨true, (some (.strs x1))⟩, ⟨true, (some (.tab [.int .i8, .int .i16, .fl .f32] x2))⟩, ⟨true, (some (.strs x3))⟩, ⟨true, (some (.tab [.int .i8, .int .i16, .fl .f32] x4))⟩], 6, []⟩))
    (cond (Nat.beq (ih (IntKind.i64.wrap (x0 + 1)) x1 x2 x3 x4) 0)
     (some (.ret, frameOf 90 [2, 3, 4] [.pointer (some ⟨0, 0, some 0⟩), .pointer (some ⟨1, 0, some 0⟩), .bool false], ⟨[⟨true, (some (.cells [wsl 2, wsl 3]))⟩, ⟨true, (some (.cells [wsl 4, wsl 5]))⟩, ⟨true, (some (.strs x1))⟩, ⟨true, (some (.tab [.int .i8, .int .i16, .fl .f32] x2))⟩, ⟨true, (some (.strs x3))⟩, ⟨true, (some (.tab [.int .i8, .int .i16, .fl .f32] x4))⟩], 6, []⟩))
     (cond (Nat.beq (ih (IntKind.i64.wrap (x0 + 1)) x1 x2 x3 x4) 1)
      (some (.exit 0, frameOf 90 [2, 3, 4] [.pointer (some ⟨0, 0, some 0⟩), .pointer (some ⟨1, 0, some 0⟩), anyV], ⟨[⟨true, (some (.cells [wsl 2, wsl 3]))⟩, ⟨true, (some (.cells [wsl 4, wsl 5]))⟩, ⟨true, (some (.strs x1))⟩, ⟨true, (some (.tab [.int .i8, .int .i16, .fl .f32] x2))⟩, ⟨true, (some (.strs x3))⟩, ⟨true, (some (.tab [.int .i8, .int .i16, .fl .f32] x4))⟩], 6, []⟩))
      none)))
   none)
  none)
 (some (.exit 0, frameOf 90 [2, 3, 4] [.pointer (some ⟨0, 0, some 0⟩), .pointer (some ⟨1, 0, some 0⟩), anyV], ⟨[⟨true, (some (.cells [wsl 2, wsl 3]))⟩, ⟨true, (some (.cells [wsl 4, wsl 5]))⟩, ⟨true, (some (.strs x1))⟩, ⟨true, (some (.tab [.int .i8, .int .i16, .fl .f32] x2))⟩, ⟨true, (some (.strs x3))⟩, ⟨true, (some (.tab [.int .i8, .int .i16, .fl .f32] x4))⟩], 6, []⟩)))
noncomputable def w11l0 (ih : Int → List ByteArray → List (List Int) → List ByteArray → List (List Int) → Nat) (x0 : Int) (x1 : List ByteArray) (x2 : List (List Int)) (x3 : List ByteArray) (x4 : List (List Int)) : Option (Fin' × List Value × St) :=
 (cond (decide ((x0 : Int) < ((x1.length : Nat) : Int)))
 (cond ((decide ((0 : Int) ≤ x0)) && (Nat.blt (Int.toNat x0) x1.length))
  (cond (Nat.blt (Int.toNat x0) x1.length)
   (cond ((decide ((0 : Int) ≤ x0)) && (Nat.blt (Int.toNat x0) x3.length))
    (cond (Nat.blt (Int.toNat x0) x3.length)
     (cond (!((x1.getD (Int.toNat x0) .empty).toList == (x3.getD (Int.toNat x0) .empty).toList))
      (some (.ret, frameOf 90 [2, 3, 4] [.pointer (some ⟨0, 0, some 0⟩), .pointer (some ⟨1, 0, some 0⟩), .bool false], ⟨[⟨true, (some (.cells [wsl 2, wsl 3]))⟩, ⟨true, (some (.cells [wsl 4, wsl 5]))⟩, ⟨true, (some (.strs x1))⟩, ⟨true, (some (.tab [.int .i8, .int .i16, .fl .f32] x2))⟩, ⟨true, (some (.strs x3))⟩, ⟨true, (some (.tab [.int .i8, .int .i16, .fl .f32] x4))⟩], 6, []⟩))
      (cond (Nat.beq (ih (IntKind.i64.wrap (x0 + 1)) x1 x2 x3 x4) 0)
       (some (.ret, frameOf 90 [2, 3, 4] [.pointer (some ⟨0, 0, some 0⟩), .pointer (some ⟨1, 0, some 0⟩), .bool false], ⟨[⟨true, (some (.cells [wsl 2, wsl 3]))⟩, ⟨true, (some (.cells [wsl 4, wsl 5]))⟩, ⟨true, (some (.strs x1))⟩, ⟨true, (some (.tab [.int .i8, .int .i16, .fl .f32] x2))⟩, ⟨true, (some (.strs x3))⟩, ⟨true, (some (.tab [.int .i8, .int .i16, .fl .f32] x4))⟩], 6, []⟩))
       (cond (Nat.beq (ih (IntKind.i64.wrap (x0 + 1)) x1 x2 x3 x4) 1)
        (some (.exit 0, frameOf 90 [2, 3, 4] [.pointer (some ⟨0, 0, some 0⟩), .pointer (some ⟨1, 0, some 0⟩), anyV], ⟨[⟨true, (some (.cells [wsl 2, wsl 3]))⟩, ⟨true, (some (.cells [wsl 4, wsl 5]))⟩, ⟨true, (some (.strs x1))⟩, ⟨true, (some (.tab [.int .i8, .int .i16, .fl .f32] x2))⟩, ⟨true, (some (.strs x3))⟩, ⟨true, (some (.tab [.int .i8, .int .i16, .fl .f32] x4))⟩], 6, []⟩))
        none)))
     none)
    none)
   none)
  none)
 (some (.exit 0, frameOf 90 [2, 3, 4] [.pointer (some ⟨0, 0, some 0⟩), .pointer (some ⟨1, 0, some 0⟩), anyV], ⟨[⟨true, (some (.cells [wsl 2, wsl 3]))⟩, ⟨true, (some (.cells [wsl 4, wsl 5]))⟩, ⟨true, (some (.strs x1))⟩, ⟨true, (some (.tab [.int .i8, .int .i16, .fl .f32] x2))⟩, ⟨true, (some (.strs x3))⟩, ⟨true, (some (.tab [.int .i8, .int .i16, .fl .f32] x4))⟩], 6, []⟩)))
set_option maxRecDepth 100000 in
set_option maxHeartbeats 4000000 in
theorem e11l0 (m : Nat) (x0 : Int) (x1 : List ByteArray) (x2 : List (List Int)) (x3 : List ByteArray) (x4 : List (List Int)) : evC Try.prog ext T7 noL 200 (loopN Try.f11 0) (loopTail [2, 3, 5] [2, 3, 4] [] (sumK 90 [2, 3, 5] [2, 3, 4] (q11l0 m))) (frameOf 90 [2, 3, 5] [.pointer (some ⟨0, 0, some 0⟩), .pointer (some ⟨1, 0, some 0⟩), .int .i64 x0]) ⟨[⟨true, (some (.cells [wsl 2, wsl 3]))⟩, ⟨true, (some (.cells [wsl 4, wsl 5]))⟩, ⟨true, (some (.strs x1))⟩, ⟨true, (some (.tab [.int .i8, .int .i16, .fl .f32] x2))⟩, ⟨true, (some (.strs x3))⟩, ⟨true, (some (.tab [.int .i8, .int .i16, .fl .f32] x4))⟩], 6, []⟩ = firstT ([((Nat.beq (r11l0 (m + 1) x0 x1 x2 x3 x4) 0), .ret, [.pointer (some ⟨0, 0, some 0⟩), .pointer (some ⟨1, 0, some 0⟩), .bool false], ⟨[⟨true, (some (.cells [wsl 2, wsl 3]))⟩, ⟨true, (some (.cells [wsl 4, wsl 5]))⟩, ⟨true, (some (.strs x1))⟩, ⟨true, (some (.tab [.int .i8, .int .i16, .fl .f32] x2))⟩, ⟨true, (some (.strs x3))⟩, ⟨true, (some (.tab [.int .i8, .int .i16, .fl .f32] x4))⟩], 6, []⟩), ((Nat.beq (r11l0 (m + 1) x0 x1 x2 x3 x4) 1), .exit 0, [.pointer (some ⟨0, 0, some 0⟩), .pointer (some ⟨1, 0, some 0⟩), anyV], ⟨[⟨true, (some (.cells [wsl 2, wsl 3]))⟩, ⟨true, (some (.cells [wsl 4, wsl 5]))⟩, ⟨true, (some (.strs x1))⟩, ⟨true, (some (.tab [.int .i8, .int .i16, .fl .f32] x2))⟩, ⟨true, (some (.strs x3))⟩, ⟨true, (some (.tab [.int .i8, .int .i16, .fl .f32] x4))⟩], 6, []⟩)].map fun (b, x) => (b, (x.1, frameOf 90 [2, 3, 4] x.2.1, x.2.2))) :=
 (show evC Try.prog ext T7 noL 200 (loopN Try.f11 0) (loopTail [2, 3, 5] [2, 3, 4] [] (sumK 90 [2, 3, 5] [2, 3, 4] (q11l0 m))) (frameOf 90 [2, 3, 5] [.pointer (some ⟨0, 0, some 0⟩), .pointer (some ⟨1, 0, some 0⟩), .int .i64 x0]) ⟨[⟨true, (some (.cells [wsl 2, wsl 3]))⟩, ⟨true, (some (.cells [wsl 4, wsl 5]))⟩, ⟨true, (some (.strs x1))⟩, ⟨true, (some (.tab [.int .i8, .int .i16, .fl .f32] x2))⟩, ⟨true, (some (.strs x3))⟩, ⟨true, (some (.tab [.int .i8, .int .i16, .fl .f32] x4))⟩], 6, []⟩ = w11l0 (r11l0 m) x0 x1 x2 x3 x4 from by kernel_rfl).trans
 ((show w11l0 (r11l0 m) x0 x1 x2 x3 x4 = t11l0 (r11l0 m) x0 x1 x2 x3 x4 from (cond_cong _ (fun h0 => (cond_cong _ (fun h1 => (cond_t (ev_and2 h1) (cond_cong _ (fun h2 => (cond_t (ev_and2 h2) rfl)) (fun h2 => rfl)))) (fun h1 => rfl))) (fun h0 => rfl))).trans
 (show t11l0 (r11l0 m) x0 x1 x2 x3 x4 = a11l0 x0 x1 x2 x3 x4 (r11l0 (m + 1) x0 x1 x2 x3 x4) from (cond_app (a11l0 x0 x1 x2 x3 x4) _ (cond_app (a11l0 x0 x1 x2 x3 x4) _ (cond_app (a11l0 x0 x1 x2 x3 x4) _ (cond_app (a11l0 x0 x1 x2 x3 x4) _ rfl (v11l0 x0 x1 x2 x3 x4 ((r11l0 m) (IntKind.i64.wrap (x0 + 1)) x1 x2 x3 x4))) rfl) rfl) rfl)))
set_option maxRecDepth 100000 in
set_option maxHeartbeats 4000000 in
theorem qm11l0 : ∀ m, SumKOk Try.prog (loopN Try.f11 0) 90 [2, 3, 5] [2, 3, 4] (q11l0 m) := by
  intro m
  induction m with
  | zero =>
    intro vals s x h1 h2 h3
    unfold q11l0 at h3; split at h3
    · rename_i h; split at h3
      · rename_i hc; obtain ⟨rfl, rfl, rfl, rfl, rfl, rfl, rfl, rfl, rfl, rfl⟩ := hc; exact absurd h3 (by simp [r11l0, firstT, Nat.beq])
      · exact noQ_ok _ _ _ h1 h2 h3
    · exact noQ_ok _ _ _ h1 h2 h3
  | succ m ih =>
    intro vals s x h1 h2 h3
    unfold q11l0 at h3; split at h3
    · rename_i h; split at h3
      · rename_i hc; obtain ⟨rfl, rfl, rfl, rfl, rfl, rfl, rfl, rfl, rfl, rfl⟩ := hc; exact sum_step ok7 extOk mixed ((lfOkF_no _ _).inner (by kernel_rfl)) ih h1 h2 h (e11l0 m _ _ _ _ _) rfl h3
      · exact noQ_ok _ _ _ h1 h2 h3
    · exact noQ_ok _ _ _ h1 h2 h3
noncomputable def Q11l0 : SumK := fun vals s => q11l0 (fuelOf vals s.h) vals s
theorem qok11l0 : SumKOk Try.prog (loopN Try.f11 0) 90 [2, 3, 5] [2, 3, 4] Q11l0 := fuel_ok qm11l0 fuelOf
noncomputable def L11_1 : LoopT := addL noL 5 [2, 3, 5] (sumK 90 [2, 3, 5] [2, 3, 4] Q11l0)
theorem lok11_1 : LfOkF Try.prog L11_1 Try.f11 := lfOkF_add (lfOkF_no _ _) qok11l0 (by kernel_rfl) (by kernel_rfl) (by kernel_rfl)

/-- spec.l01Same -/
noncomputable def r41 (x0 x1 : Nat) : Bool :=
 cond (!feq .f32 x0 x0)
  ((!feq .f32 x1 x1))
  (cond (!feq .f32 x1 x1)
   (false)
   (((((x0 : Nat) : Int) : Int) == ((x1 : Nat) : Int))))
noncomputable def a41 (x0 x1 : Nat) (p : Bool) : Res := firstT [(true, .bool p, st0)]
noncomputable def t41 (x0 x1 : Nat) : Res :=
 (cond (!feq .f32 x0 x0)
 (some (.bool (!feq .f32 x1 x1), st0))
 (cond (!feq .f32 x1 x1)
  (some (.bool false, st0))
  (some (.bool ((((x0 : Nat) : Int) : Int) == ((x1 : Nat) : Int)), st0))))
noncomputable def w41 (x0 x1 : Nat) : Res :=
 (cond (!feq .f32 x0 x0)
 (cond (!feq .f32 x0 x0)
  (some (.bool (!feq .f32 x1 x1), st0))
  (some (.bool false, st0)))
 (cond (!feq .f32 x1 x1)
  (cond (!feq .f32 x0 x0)
   (some (.bool (!feq .f32 x1 x1), st0))
   (some (.bool false, st0)))
  (cond (!isN .f32 x0)
   (cond (!isN .f32 x1)
    (some (.bool ((((x0 : Nat) : Int) : Int) == ((x1 : Nat) : Int)), st0))
    none)
   (cond (!isN .f32 x1)
    (cond (decide ((0 : Int) ≤ ((x1 : Nat) : Int)) && (!isN .f32 x1))
     (some (.bool false, st0))
     none)
    none))))
set_option maxRecDepth 100000 in
set_option maxHeartbeats 4000000 in
theorem e41 (x0 x1 : Nat) : evFn Try.prog ext T7 noL 200 Try.f41 [.float .f32 x0, .float .f32 x1] st0 = firstT [(true, .bool (r41 x0 x1), st0)] :=
 (show evFn Try.prog ext T7 noL 200 Try.f41 [.float .f32 x0, .float .f32 x1] st0 = w41 x0 x1 from by kernel_rfl).trans
 ((show w41 x0 x1 = t41 x0 x1 from (cond_cong _ (fun h0 => (cond_t (ev_not1 (ev_nott h0)) rfl)) (fun h0 => (cond_cong _ (fun h1 => (cond_f (ev_not0 (ev_notf h0)) rfl)) (fun h1 => (cond_t (ev_not1 (ev_eq1 (ev_notf h0))) (cond_t (ev_not1 (ev_eq1 (ev_notf h1))) rfl))))))).trans
 (show t41 x0 x1 = a41 x0 x1 (r41 x0 x1) from (cond_app (a41 x0 x1) _ rfl (cond_app (a41 x0 x1) _ rfl rfl))))
noncomputable def s41 (args : List Value) (s : St) : List (Bool × Value × St) :=
 match args, s.h with
 | [.float .f32 x0, .float .f32 x1], [] => [(true, .bool (r41 x0 x1), st0)]
 | _, _ => T7 41 args s
noncomputable def T8 : CallF := addF T7 41 s41
set_option maxRecDepth 100000 in
set_option maxHeartbeats 4000000 in
theorem ok8 : CfOk Try.prog T8 := by
  refine cfOk_add ok7 fun args s r s' h1 h2 h3 => ?_
  unfold s41 at h3; split at h3
  · rename_i h; exact callOk ok7 Try.func41 h1 h2 h (lfOkF_no _ _).body (e41 _ _) rfl h3
  · exact ok7 _ _ _ _ _ h1 h2 h3

/-- spec.SameProgram, loop 1: one round -/
noncomputable def b11l1 (ih : Int → List ByteArray → List (List Int) → List ByteArray → List (List Int) → Nat) (x0 : Int) (x1 : List ByteArray) (x2 : List (List Int)) (x3 : List ByteArray) (x4 : List (List Int)) : Nat :=
 cond (decide ((x0 : Int) < ((x2.length : Nat) : Int)))
  (cond ((decide ((0 : Int) ≤ x0)) && (Nat.blt (Int.toNat x0) x2.length))
   (cond ((decide ((0 : Int) ≤ x0)) && (Nat.blt (Int.toNat x0) x4.length))
    (cond ((((x2.getD (Int.toNat x0) []).getD 0 0) : Int) != ((x4.getD (Int.toNat x0) []).getD 0 0))
     (0)
     (cond ((((x2.getD (Int.toNat x0) []).getD 1 0) : Int) != ((x4.getD (Int.toNat x0) []).getD 1 0))
      (0)
      (cond (!(r41 (Int.toNat ((x2.getD (Int.toNat x0) []).getD 2 0)) (Int.toNat ((x4.getD (Int.toNat x0) []).getD 2 0))))
       (0)
       (ih (IntKind.i64.wrap (x0 + 1)) x1 x2 x3 x4))))
    (2))
   (2))
  (1)
noncomputable def r11l1 : Nat → Int → List ByteArray → List (List Int) → List ByteArray → List (List Int) → Nat
 | 0, _, _, _, _, _ => (2)
 | m + 1, x0, x1, x2, x3, x4 => b11l1 (r11l1 m) x0 x1 x2 x3 x4
noncomputable def a11l1 (x0 : Int) (x1 : List ByteArray) (x2 : List (List Int)) (x3 : List ByteArray) (x4 : List (List Int)) (p : Nat) : Option (Fin' × List Value × St) := firstT ([((Nat.beq p 0), .ret, [.bool false], ⟨[⟨true, (some (.cells [wsl 2, wsl 3]))⟩, ⟨true, (some (.cells [wsl 4, wsl 5]))⟩, ⟨true, (some (.strs x1))⟩, ⟨true, (some (.tab [.int .i8, .int .i16, .fl .f32] x2))⟩, ⟨true, (some (.strs x3))⟩, ⟨true, (some (.tab [.int .i8, .int .i16, .fl .f32] x4))⟩], 6, []⟩), ((Nat.beq p 1), .exit 2, [anyV], ⟨[⟨true, (some (.cells [wsl 2, wsl 3]))⟩, ⟨true, (some (.cells [wsl 4, wsl 5]))⟩, ⟨true, (some (.strs x1))⟩, ⟨true, (some (.tab [.int .i8, .int .i16, .fl .f32] x2))⟩, ⟨true, (some (.strs x3))⟩, ⟨true, (some (.tab [.int .i8, .int .i16, .fl .f32] x4))⟩], 6, []⟩)].map fun (b, x) => (b, (x.1, frameOf 90 [4] x.2.1, x.2.2)))
theorem v11l1 (x0 : Int) (x1 : List ByteArray) (x2 : List (List Int)) (x3 : List ByteArray) (x4 : List (List Int)) (p : Nat) : alts ([((Nat.beq p 0), .ret, [.bool false], ⟨[⟨true, (some (.cells [wsl 2, wsl 3]))⟩, ⟨true, (some (.cells [wsl 4, wsl 5]))⟩, ⟨true, (some (.strs x1))⟩, ⟨true, (some (.tab [.int .i8, .int .i16, .fl .f32] x2))⟩, ⟨true, (some (.strs x3))⟩, ⟨true, (some (.tab [.int .i8, .int .i16, .fl .f32] x4))⟩], 6, []⟩), ((Nat.beq p 1), .exit 2, [anyV], ⟨[⟨true, (some (.cells [wsl 2, wsl 3]))⟩, ⟨true, (some (.cells [wsl 4, wsl 5]))⟩, ⟨true, (some (.strs x1))⟩, ⟨true, (some (.tab [.int .i8, .int .i16, .fl .f32] x2))⟩, ⟨true, (some (.strs x3))⟩, ⟨true, (some (.tab [.int .i8, .int .i16, .fl .f32] x4))⟩], 6, []⟩)].map fun (b, x) => (b, (x.1, frameOf 90 [4] x.2.1, x.2.2))) some = a11l1 x0 x1 x2 x3 x4 p := alts_first _
noncomputable def q11l1 (m : Nat) : SumK := fun vals s =>
 match vals, s.h with
 | [.pointer (some ⟨f0, f1, some f2⟩), .pointer (some ⟨f3, f4, some f5⟩), .int .i64 x0], [⟨true, some (.cells [.iface f6 .nilIface, .iface f7 .nilIface])⟩, ⟨true, some (.cells [.iface f8 .nilIface, .iface f9 .nilIface])⟩, ⟨true, some (.strs x1)⟩, ⟨true, some (.tab [.int .i8, .int .i16, .fl .f32] x2)⟩, ⟨true, some (.strs x3)⟩, ⟨true, some (.tab [.int .i8, .int .i16, .fl .f32] x4)⟩] => if f0 = 0 ∧ f1 = 0 ∧ f2 = 0 ∧ f3 = 1 ∧ f4 = 0 ∧ f5 = 0 ∧ f6 = 2 ∧ f7 = 3 ∧ f8 = 4 ∧ f9 = 5 then [((Nat.beq (r11l1 m x0 x1 x2 x3 x4) 0), .ret, [.bool false], ⟨[⟨true, (some (.cells [wsl 2, wsl 3]))⟩, ⟨true, (some (.cells [wsl 4, wsl 5]))⟩, ⟨true, (some (.strs x1))⟩, ⟨true, (some (.tab [.int .i8, .int .i16, .fl .f32] x2))⟩, ⟨true, (some (.strs x3))⟩, ⟨true, (some (.tab [.int .i8, .int .i16, .fl .f32] x4))⟩], 6, []⟩), ((Nat.beq (r11l1 m x0 x1 x2 x3 x4) 1), .exit 2, [anyV], ⟨[⟨true, (some (.cells [wsl 2, wsl 3]))⟩, ⟨true, (some (.cells [wsl 4, wsl 5]))⟩, ⟨true, (some (.strs x1))⟩, ⟨true, (some (.tab [.int .i8, .int .i16, .fl .f32] x2))⟩, ⟨true, (some (.strs x3))⟩, ⟨true, (some (.tab [.int .i8, .int .i16, .fl .f32] x4))⟩], 6, []⟩)] else noQ vals s
 | _, _ => noQ vals s
noncomputable def t11l1 (ih : Int → List ByteArray → List (List Int) → List ByteArray → List (List Int) → Nat) (x0 : Int) (x1 : List ByteArray) (x2 : List (List Int)) (x3 : List ByteArray) (x4 : List (List Int)) : Option (Fin' × List Value × St) :=
 (cond (decide ((x0 : Int) < ((x2.length : Nat) : Int)))
 (cond ((decide ((0 : Int) ≤ x0)) && (Nat.blt (Int.toNat x0) x2.length))
  (cond ((decide ((0 : Int) ≤ x0)) && (Nat.blt (Int.toNat x0) x4.length))
   (cond ((((x2.getD (Int.toNat x0) []).getD 0 0) : Int) != ((x4.getD (Int.toNat x0) []).getD 0 0))
    (some (.ret, frameOf 90 [4] [.bool false], ⟨[⟨true, (some (.cells [wsl 2, wsl 3]))⟩, ⟨true, (some (.cells [wsl 4, wsl 5]))⟩, ⟨true, (some (.strs x1))⟩, ⟨true, (some (.tab [.int .i8, .int .i16, .fl .f32] x2))⟩, ⟨true, (some (.strs x3))⟩, ⟨true, (some (.tab [.int .i8, .int .i16, .fl .f32] x4))⟩], 6, []⟩))
    (cond ((((x2.getD (Int.toNat x0) []).getD 1 0) : Int) != ((x4.getD (Int.toNat x0) []).getD 1 0))
     (some (.ret, frameOf 90 [4] [.bool false], ⟨[⟨true, (some (.cells [wsl 2, wsl 3]))⟩, ⟨true, (some (.cells [wsl 4, wsl 5]))⟩, ⟨true, (some (.strs x1))⟩, ⟨true, (some (.tab [.int .i8, .int .i16, .fl .f32] x2))⟩, ⟨true, (some (.strs x3))⟩, ⟨true, (some (.tab [.int .i8, .int .i16, .fl .f32] x4))⟩], 6, []⟩))
     (cond (!(r41 (Int.toNat ((x2.getD (Int.toNat x0) []).getD 2 0)) (Int.toNat ((x4.getD (Int.toNat x0) []).getD 2 0))))
      (some (.ret, frameOf 90 [4] [.bool false], ⟨[⟨true, (some (.cells [wsl 2, wsl 3]))⟩, ⟨true, (some (.cells [wsl 4, wsl 5]))⟩, ⟨true, (some (.strs x1))⟩, ⟨true, (some (.tab [.int .i8, .int .i16, .fl .f32] x2))⟩, ⟨true, (some (.strs x3))⟩, ⟨true, (some (.tab [.int .i8, .int .i16, .fl .f32] x4))⟩], 6, []⟩))
      (cond (Nat.beq (ih (IntKind.i64.wrap (x0 + 1)) x1 x2 x3 x4) 0)
       (some (.ret, frameOf 90 [4] [.bool false], ⟨[⟨true, (some (.cells [wsl 2, wsl 3]))⟩, ⟨true, (some (.cells [wsl 4, wsl 5]))⟩, ⟨true, (some (.strs x1))⟩, ⟨true, (some (.tab [.int .i8, .int .i16, .fl .f32] x2))⟩, ⟨true, (some (.strs x3))⟩, ⟨true, (some (.tab [.int .i8, .int .i16, .fl .f32] x4))⟩], 6, []⟩))
       (cond (Nat.beq (ih (IntKind.i64.wrap (x0 + 1)) x1 x2 x3 x4) 1)
        (some (.exit 2, frameOf 90 [4] [anyV], ⟨[⟨true, (some (.cells [wsl 2, wsl 3]))⟩, ⟨true, (some (.cells [wsl 4, wsl 5]))⟩, ⟨true, (some (.strs x1))⟩, ⟨true, (some (.tab [.int .i8, .int .i16, .fl .f32] x2))⟩, ⟨true, (some (.strs x3))⟩, ⟨true, (some (.tab [.int .i8, .int .i16, .fl .f32] x4))⟩], 6, []⟩))
        none)))))
   none)
  none)
 (some (.exit 2, frameOf 90 [4] [anyV], ⟨[⟨true, (some (.cells [wsl 2, wsl 3]))⟩, ⟨true, (some (.cells [wsl 4, wsl 5]))⟩, ⟨true, (some (.strs x1))⟩, ⟨true, (some (.tab [.int .i8, .int .i16, .fl .f32] x2))⟩, ⟨true, (some (.strs x3))⟩, ⟨true, (some (.tab [.int .i8, .int .i16, .fl .f32] x4))⟩], 6, []⟩)))
noncomputable def w11l1 (ih : Int → List ByteArray → List (List Int) → List ByteArray → List (List Int) → Nat) (x0 : Int) (x1 : List ByteArray) (x2 : List (List Int)) (x3 : List ByteArray) (x4 : List (List Int)) : Option (Fin' × List Value × St) :=
 (cond (decide ((x0 : Int) < ((x2.length : Nat) : Int)))
 (cond ((decide ((0 : Int) ≤ x0)) && (Nat.blt (Int.toNat x0) x2.length))
  (cond ((decide ((0 : Int) ≤ x0)) && (Nat.blt (Int.toNat x0) x4.length))
   (cond (Nat.blt (Int.toNat x0) x2.length)
    (cond (Nat.blt (Int.toNat x0) x4.length)
     (cond ((((x2.getD (Int.toNat x0) []).getD 0 0) : Int) != ((x4.getD (Int.toNat x0) []).getD 0 0))
      (some (.ret, frameOf 90 [4] [.bool false], ⟨[⟨true, (some (.cells [wsl 2, wsl 3]))⟩, ⟨true, (some (.cells [wsl 4, wsl 5]))⟩, ⟨true, (some (.strs x1))⟩, ⟨true, (some (.tab [.int .i8, .int .i16, .fl .f32] x2))⟩, ⟨true, (some (.strs x3))⟩, ⟨true, (some (.tab [.int .i8, .int .i16, .fl .f32] x4))⟩], 6, []⟩))
      (cond (Nat.blt (Int.toNat x0) x2.length)
       (cond (Nat.blt (Int.toNat x0) x4.length)
        (cond ((((x2.getD (Int.toNat x0) []).getD 1 0) : Int) != ((x4.getD (Int.toNat x0) []).getD 1 0))
         (some (.ret, frameOf 90 [4] [.bool false], ⟨[⟨true, (some (.cells [wsl 2, wsl 3]))⟩, ⟨true, (some (.cells [wsl 4, wsl 5]))⟩, ⟨true, (some (.strs x1))⟩, ⟨true, (some (.tab [.int .i8, .int .i16, .fl .f32] x2))⟩, ⟨true, (some (.strs x3))⟩, ⟨true, (some (.tab [.int .i8, .int .i16, .fl .f32] x4))⟩], 6, []⟩))
         (cond (Nat.blt (Int.toNat x0) x2.length)
          (cond (Nat.blt (Int.toNat x0) x4.length)
           (cond (!(r41 (Int.toNat ((x2.getD (Int.toNat x0) []).getD 2 0)) (Int.toNat ((x4.getD (Int.toNat x0) []).getD 2 0))))
            (some (.ret, frameOf 90 [4] [.bool false], ⟨[⟨true, (some (.cells [wsl 2, wsl 3]))⟩, ⟨true, (some (.cells [wsl 4, wsl 5]))⟩, ⟨true, (some (.strs x1))⟩, ⟨true, (some (.tab [.int .i8, .int .i16, .fl .f32] x2))⟩, ⟨true, (some (.strs x3))⟩, ⟨true, (some (.tab [.int .i8, .int .i16, .fl .f32] x4))⟩], 6, []⟩))
            (cond (Nat.beq (ih (IntKind.i64.wrap (x0 + 1)) x1 x2 x3 x4) 0)
             (some (.ret, frameOf 90 [4] [.bool false], ⟨[⟨true, (some (.cells [wsl 2, wsl 3]))⟩, ⟨true, (some (.cells [wsl 4, wsl 5]))⟩, ⟨true, (some (.strs x1))⟩, ⟨true, (some (.tab [.int .i8, .int .i16, .fl .f32] x2))⟩, ⟨true, (some (.strs x3))⟩, ⟨true, (some (.tab [.int .i8, .int .i16, .fl .f32] x4))⟩], 6, []⟩))
             (cond (Nat.beq (ih (IntKind.i64.wrap (x0 + 1)) x1 x2 x3 x4) 1)
              (some (.exit 2, frameOf 90 [4] [anyV], ⟨[⟨true, (some (.cells [wsl 2, wsl 3]))⟩, ⟨true, (some (.cells [wsl 4, wsl 5]))⟩, ⟨true, (some (.strs x1))⟩, ⟨true, (some (.tab [.int .i8, .int .i16, .fl .f32] x2))⟩, ⟨true, (some (.strs x3))⟩, ⟨true, (some (.tab [.int .i8, .int .i16, .fl .f32] x4))⟩], 6, []⟩))
              none)))
           none)
          none))
        none)
       none))
     none)
    none)
   none)
  none)
 (some (.exit 2, frameOf 90 [4] [anyV], ⟨[⟨true, (some (.cells [wsl 2, wsl 3]))⟩, ⟨true, (some (.cells [wsl 4, wsl 5]))⟩, ⟨true, (some (.strs x1))⟩, ⟨true, (some (.tab [.int .i8, .int .i16, .fl .f32] x2))⟩, ⟨true, (some (.strs x3))⟩, ⟨true, (some (.tab [.int .i8, .int .i16, .fl .f32] x4))⟩], 6, []⟩)))
set_option maxRecDepth 100000 in
set_option maxHeartbeats 4000000 in
theorem e11l1 (m : Nat) (x0 : Int) (x1 : List ByteArray) (x2 : List (List Int)) (x3 : List ByteArray) (x4 : List (List Int)) : evC Try.prog ext T8 L11_1 200 (loopN Try.f11 1) (loopTail [2, 3, 6] [4] [] (sumK 90 [2, 3, 6] [4] (q11l1 m))) (frameOf 90 [2, 3, 6] [.pointer (some ⟨0, 0, some 0⟩), .pointer (some ⟨1, 0, some 0⟩), .int .i64 x0]) ⟨[⟨true, (some (.cells [wsl 2, wsl 3]))⟩, ⟨true, (some (.cells [wsl 4, wsl 5]))⟩, ⟨true, (some (.strs x1))⟩, ⟨true, (some (.tab [.int .i8, .int .i16, .fl .f32] x2))⟩, ⟨true, (some (.strs x3))⟩, ⟨true, (some (.tab [.int .i8, .int .i16, .fl .f32] x4))⟩], 6, []⟩ = firstT ([((Nat.beq (r11l1 (m + 1) x0 x1 x2 x3 x4) 0), .ret, [.bool false], ⟨[⟨true, (some (.cells [wsl 2, wsl 3]))⟩, ⟨true, (some (.cells [wsl 4, wsl 5]))⟩, ⟨true, (some (.strs x1))⟩, ⟨true, (some (.tab [.int .i8, .int .i16, .fl .f32] x2))⟩, ⟨true, (some (.strs x3))⟩, ⟨true, (some (.tab [.int .i8, .int .i16, .fl .f32] x4))⟩], 6, []⟩), ((Nat.beq (r11l1 (m + 1) x0 x1 x2 x3 x4) 1), .exit 2, [anyV], ⟨[⟨true, (some (.cells [wsl 2, wsl 3]))⟩, ⟨true, (some (.cells [wsl 4, wsl 5]))⟩, ⟨true, (some (.strs x1))⟩, ⟨true, (some (.tab [.int .i8, .int .i16, .fl .f32] x2))⟩, ⟨true, (some (.strs x3))⟩, ⟨true, (some (.tab [.int .i8, .int .i16, .fl .f32] x4))⟩], 6, []⟩)].map fun (b, x) => (b, (x.1, frameOf 90 [4] x.2.1, x.2.2))) :=
 (show evC Try.prog ext T8 L11_1 200 (loopN Try.f11 1) (loopTail [2, 3, 6] [4] [] (sumK 90 [2, 3, 6] [4] (q11l1 m))) (frameOf 90 [2, 3, 6] [.pointer (some ⟨0, 0, some 0⟩), .pointer (some ⟨1, 0, some 0⟩), .int .i64 x0]) ⟨[⟨true, (some (.cells [wsl 2, wsl 3]))⟩, ⟨true, (some (.cells [wsl 4, wsl 5]))⟩, ⟨true, (some (.strs x1))⟩, ⟨true, (some (.tab [.int .i8, .int .i16, .fl .f32] x2))⟩, ⟨true, (some (.strs x3))⟩, ⟨true, (some (.tab [.int .i8, .int .i16, .fl .f32] x4))⟩], 6, []⟩ = w11l1 (r11l1 m) x0 x1 x2 x3 x4 from by kernel_rfl).trans
 ((show w11l1 (r11l1 m) x0 x1 x2 x3 x4 = t11l1 (r11l1 m) x0 x1 x2 x3 x4 from (cond_cong _ (fun h0 => (cond_cong _ (fun h1 => (cond_cong _ (fun h2 => (cond_t (ev_and2 h1) (cond_t (ev_and2 h2) (cond_cong _ (fun h3 => rfl) (fun h3 => (cond_t (ev_and2 h1) (cond_t (ev_and2 h2) (cond_cong _ (fun h4 => rfl) (fun h4 => (cond_t (ev_and2 h1) (cond_t (ev_and2 h2) rfl))))))))))) (fun h2 => rfl))) (fun h1 => rfl))) (fun h0 => rfl))).trans
 (show t11l1 (r11l1 m) x0 x1 x2 x3 x4 = a11l1 x0 x1 x2 x3 x4 (r11l1 (m + 1) x0 x1 x2 x3 x4) from (cond_app (a11l1 x0 x1 x2 x3 x4) _ (cond_app (a11l1 x0 x1 x2 x3 x4) _ (cond_app (a11l1 x0 x1 x2 x3 x4) _ (cond_app (a11l1 x0 x1 x2 x3 x4) _ rfl (cond_app (a11l1 x0 x1 x2 x3 x4) _ rfl (cond_app (a11l1 x0 x1 x2 x3 x4) _ rfl (v11l1 x0 x1 x2 x3 x4 ((r11l1 m) (IntKind.i64.wrap (x0 + 1)) x1 x2 x3 x4))))) rfl) rfl) rfl)))
set_option maxRecDepth 100000 in
set_option maxHeartbeats 4000000 in
theorem qm11l1 : ∀ m, SumKOk Try.prog (loopN Try.f11 1) 90 [2, 3, 6] [4] (q11l1 m) := by
  intro m
  induction m with
  | zero =>
    intro vals s x h1 h2 h3
    unfold q11l1 at h3; split at h3
    · rename_i h; split at h3
      · rename_i hc; obtain ⟨rfl, rfl, rfl, rfl, rfl, rfl, rfl, rfl, rfl, rfl⟩ := hc; exact absurd h3 (by simp [r11l1, firstT, Nat.beq])
      · exact noQ_ok _ _ _ h1 h2 h3
    · exact noQ_ok _ _ _ h1 h2 h3
  | succ m ih =>
    intro vals s x h1 h2 h3
    unfold q11l1 at h3; split at h3
    · rename_i h; split at h3
      · rename_i hc; obtain ⟨rfl, rfl, rfl, rfl, rfl, rfl, rfl, rfl, rfl, rfl⟩ := hc; exact sum_step ok8 extOk mixed (lok11_1.inner (by kernel_rfl)) ih h1 h2 h (e11l1 m _ _ _ _ _) rfl h3
      · exact noQ_ok _ _ _ h1 h2 h3
    · exact noQ_ok _ _ _ h1 h2 h3
noncomputable def Q11l1 : SumK := fun vals s => q11l1 (fuelOf vals s.h) vals s
theorem qok11l1 : SumKOk Try.prog (loopN Try.f11 1) 90 [2, 3, 6] [4] Q11l1 := fuel_ok qm11l1 fuelOf
noncomputable def L11_2 : LoopT := addL L11_1 10 [2, 3, 6] (sumK 90 [2, 3, 6] [4] Q11l1)
theorem lok11_2 : LfOkF Try.prog L11_2 Try.f11 := lfOkF_add lok11_1 qok11l1 (by kernel_rfl) (by kernel_rfl) (by kernel_rfl)

/-- spec.SameProgram -/
noncomputable def r11 (x0 : List ByteArray) (x1 : List (List Int)) (x2 : List ByteArray) (x3 : List (List Int)) : Nat × Bool :=
 cond ((((x0.length : Nat) : Int) : Int) != ((x2.length : Nat) : Int))
  (0, false)
  (cond ((((x1.length : Nat) : Int) : Int) != ((x3.length : Nat) : Int))
   (0, false)
   (cond (Nat.beq (r11l0 (1000 + x3.length + x2.length + x1.length + x0.length) 0 x0 x1 x2 x3) 0)
    (0, false)
    (cond (Nat.beq (r11l0 (1000 + x3.length + x2.length + x1.length + x0.length) 0 x0 x1 x2 x3) 1)
     (cond (Nat.beq (r11l1 (1000 + x3.length + x2.length + x1.length + x0.length) 0 x0 x1 x2 x3) 0)
      (0, false)
      (cond (Nat.beq (r11l1 (1000 + x3.length + x2.length + x1.length + x0.length) 0 x0 x1 x2 x3) 1)
       (0, true)
       (1, false)))
     (1, false))))
noncomputable def a11 (x0 : List ByteArray) (x1 : List (List Int)) (x2 : List ByteArray) (x3 : List (List Int)) (p : Nat × Bool) : Res := firstT [((Nat.beq (p.1) 0), .bool (p.2), ⟨[⟨true, (some (.strs x0))⟩, ⟨true, (some (.tab [.int .i8, .int .i16, .fl .f32] x1))⟩, ⟨true, (some (.strs x2))⟩, ⟨true, (some (.tab [.int .i8, .int .i16, .fl .f32] x3))⟩], 4, []⟩)]
noncomputable def t11 (x0 : List ByteArray) (x1 : List (List Int)) (x2 : List ByteArray) (x3 : List (List Int)) : Res :=
 (cond ((((x0.length : Nat) : Int) : Int) != ((x2.length : Nat) : Int))
 (some (.bool false, ⟨[⟨true, (some (.strs x0))⟩, ⟨true, (some (.tab [.int .i8, .int .i16, .fl .f32] x1))⟩, ⟨true, (some (.strs x2))⟩, ⟨true, (some (.tab [.int .i8, .int .i16, .fl .f32] x3))⟩], 4, []⟩))
 (cond ((((x1.length : Nat) : Int) : Int) != ((x3.length : Nat) : Int))
  (some (.bool false, ⟨[⟨true, (some (.strs x0))⟩, ⟨true, (some (.tab [.int .i8, .int .i16, .fl .f32] x1))⟩, ⟨true, (some (.strs x2))⟩, ⟨true, (some (.tab [.int .i8, .int .i16, .fl .f32] x3))⟩], 4, []⟩))
  (cond (Nat.beq (r11l0 (1000 + x3.length + x2.length + x1.length + x0.length) 0 x0 x1 x2 x3) 0)
   (some (.bool false, ⟨[⟨true, (some (.strs x0))⟩, ⟨true, (some (.tab [.int .i8, .int .i16, .fl .f32] x1))⟩, ⟨true, (some (.strs x2))⟩, ⟨true, (some (.tab [.int .i8, .int .i16, .fl .f32] x3))⟩], 4, []⟩))
   (cond (Nat.beq (r11l0 (1000 + x3.length + x2.length + x1.length + x0.length) 0 x0 x1 x2 x3) 1)
    (cond (Nat.beq (r11l1 (1000 + x3.length + x2.length + x1.length + x0.length) 0 x0 x1 x2 x3) 0)
     (some (.bool false, ⟨[⟨true, (some (.strs x0))⟩, ⟨true, (some (.tab [.int .i8, .int .i16, .fl .f32] x1))⟩, ⟨true, (some (.strs x2))⟩, ⟨true, (some (.tab [.int .i8, .int .i16, .fl .f32] x3))⟩], 4, []⟩))
     (cond (Nat.beq (r11l1 (1000 + x3.length + x2.length + x1.length + x0.length) 0 x0 x1 x2 x3) 1)
      (some (.bool true, ⟨[⟨true, (some (.strs x0))⟩, ⟨true, (some (.tab [.int .i8, .int .i16, .fl .f32] x1))⟩, ⟨true, (some (.strs x2))⟩, ⟨true, (some (.tab [.int .i8, .int .i16, .fl .f32] x3))⟩], 4, []⟩))
      none))
    none))))
set_option maxRecDepth 100000 in
set_option maxHeartbeats 4000000 in
theorem e11 (x0 : List ByteArray) (x1 : List (List Int)) (x2 : List ByteArray) (x3 : List (List Int)) : evFn Try.prog ext T8 L11_2 200 Try.f11 [.agg #[wsl 0, wsl 1], .agg #[wsl 2, wsl 3]] ⟨[⟨true, (some (.strs x0))⟩, ⟨true, (some (.tab [.int .i8, .int .i16, .fl .f32] x1))⟩, ⟨true, (some (.strs x2))⟩, ⟨true, (some (.tab [.int .i8, .int .i16, .fl .f32] x3))⟩], 4, []⟩ = firstT [((Nat.beq ((r11 x0 x1 x2 x3).1) 0), .bool ((r11 x0 x1 x2 x3).2), ⟨[⟨true, (some (.strs x0))⟩, ⟨true, (some (.tab [.int .i8, .int .i16, .fl .f32] x1))⟩, ⟨true, (some (.strs x2))⟩, ⟨true, (some (.tab [.int .i8, .int .i16, .fl .f32] x3))⟩], 4, []⟩)] :=
 (show evFn Try.prog ext T8 L11_2 200 Try.f11 [.agg #[wsl 0, wsl 1], .agg #[wsl 2, wsl 3]] ⟨[⟨true, (some (.strs x0))⟩, ⟨true, (some (.tab [.int .i8, .int .i16, .fl .f32] x1))⟩, ⟨true, (some (.strs x2))⟩, ⟨true, (some (.tab [.int .i8, .int .i16, .fl .f32] x3))⟩], 4, []⟩ = t11 x0 x1 x2 x3 from by kernel_rfl).trans
 (show t11 x0 x1 x2 x3 = a11 x0 x1 x2 x3 (r11 x0 x1 x2 x3) from (cond_app (a11 x0 x1 x2 x3) _ rfl (cond_app (a11 x0 x1 x2 x3) _ rfl (cond_app (a11 x0 x1 x2 x3) _ rfl (cond_app (a11 x0 x1 x2 x3) _ (cond_app (a11 x0 x1 x2 x3) _ rfl (cond_app (a11 x0 x1 x2 x3) _ rfl rfl)) rfl)))))
noncomputable def s11 (args : List Value) (s : St) : List (Bool × Value × St) :=
 match args, s.h with
 | [.agg ⟨[.iface f0 .nilIface, .iface f1 .nilIface]⟩, .agg ⟨[.iface f2 .nilIface, .iface f3 .nilIface]⟩], [⟨true, some (.strs x0)⟩, ⟨true, some (.tab [.int .i8, .int .i16, .fl .f32] x1)⟩, ⟨true, some (.strs x2)⟩, ⟨true, some (.tab [.int .i8, .int .i16, .fl .f32] x3)⟩] => if f0 = 0 ∧ f1 = 1 ∧ f2 = 2 ∧ f3 = 3 then [((Nat.beq ((r11 x0 x1 x2 x3).1) 0), .bool ((r11 x0 x1 x2 x3).2), ⟨[⟨true, (some (.strs x0))⟩, ⟨true, (some (.tab [.int .i8, .int .i16, .fl .f32] x1))⟩, ⟨true, (some (.strs x2))⟩, ⟨true, (some (.tab [.int .i8, .int .i16, .fl .f32] x3))⟩], 4, []⟩)] else T8 11 args s
 | _, _ => T8 11 args s
noncomputable def T9 : CallF := addF T8 11 s11
set_option maxRecDepth 100000 in
set_option maxHeartbeats 4000000 in
theorem ok9 : CfOk Try.prog T9 := by
  refine cfOk_add ok8 fun args s r s' h1 h2 h3 => ?_
  unfold s11 at h3; split at h3
  · rename_i h; split at h3
    · rename_i hc; obtain ⟨rfl, rfl, rfl, rfl⟩ := hc; exact callOk ok8 Try.func11 h1 h2 h lok11_2.body (e11 _ _ _ _) rfl h3
    · exact ok8 _ _ _ _ _ h1 h2 h3
  · exact ok8 _ _ _ _ _ h1 h2 h3

/-- slices.Equal[[]string,string], loop 0: one round -/
noncomputable def b44l0 (ih : Int → Int → List ByteArray → List ByteArray → Nat) (x0 x1 : Int) (x2 x3 : List ByteArray) : Nat :=
 cond (decide ((x1 : Int) < x0))
  (cond ((decide ((0 : Int) ≤ x1)) && (Nat.blt (Int.toNat x1) x2.length))
   (cond ((decide ((0 : Int) ≤ x1)) && (Nat.blt (Int.toNat x1) x3.length))
    (cond (!((x2.getD (Int.toNat x1) .empty).toList == (x3.getD (Int.toNat x1) .empty).toList))
     (0)
     (ih x0 (IntKind.i64.wrap (x1 + 1)) x2 x3))
    (2))
   (2))
  (1)
noncomputable def r44l0 : Nat → Int → Int → List ByteArray → List ByteArray → Nat
 | 0, _, _, _, _ => (2)
 | m + 1, x0, x1, x2, x3 => b44l0 (r44l0 m) x0 x1 x2 x3
noncomputable def a44l0 (x0 x1 : Int) (x2 x3 : List ByteArray) (p : Nat) : Option (Fin' × List Value × St) := firstT ([((Nat.beq p 0), .ret, [.bool false], ⟨[⟨true, (some (.strs x2))⟩, ⟨true, (some (.strs x3))⟩], 2, []⟩), ((Nat.beq p 1), .exit 0, [anyV], ⟨[⟨true, (some (.strs x2))⟩, ⟨true, (some (.strs x3))⟩], 2, []⟩)].map fun (b, x) => (b, (x.1, frameOf 26 [4] x.2.1, x.2.2)))
theorem v44l0 (x0 x1 : Int) (x2 x3 : List ByteArray) (p : Nat) : alts ([((Nat.beq p 0), .ret, [.bool false], ⟨[⟨true, (some (.strs x2))⟩, ⟨true, (some (.strs x3))⟩], 2, []⟩), ((Nat.beq p 1), .exit 0, [anyV], ⟨[⟨true, (some (.strs x2))⟩, ⟨true, (some (.strs x3))⟩], 2, []⟩)].map fun (b, x) => (b, (x.1, frameOf 26 [4] x.2.1, x.2.2))) some = a44l0 x0 x1 x2 x3 p := alts_first _
noncomputable def q44l0 (m : Nat) : SumK := fun vals s =>
 match vals, s.h with
 | [.iface f0 .nilIface, .iface f1 .nilIface, .int .i64 x0, .int .i64 x1], [⟨true, some (.strs x2)⟩, ⟨true, some (.strs x3)⟩] => if f0 = 0 ∧ f1 = 1 then [((Nat.beq (r44l0 m x0 x1 x2 x3) 0), .ret, [.bool false], ⟨[⟨true, (some (.strs x2))⟩, ⟨true, (some (.strs x3))⟩], 2, []⟩), ((Nat.beq (r44l0 m x0 x1 x2 x3) 1), .exit 0, [anyV], ⟨[⟨true, (some (.strs x2))⟩, ⟨true, (some (.strs x3))⟩], 2, []⟩)] else noQ vals s
 | _, _ => noQ vals s
noncomputable def t44l0 (ih : Int → Int → List ByteArray → List ByteArray → Nat) (x0 x1 : Int) (x2 x3 : List ByteArray) : Option (Fin' × List Value × St) :=
 (cond (decide ((x1 : Int) < x0))
 (cond ((decide ((0 : Int) ≤ x1)) && (Nat.blt (Int.toNat x1) x2.length))
  (cond ((decide ((0 : Int) ≤ x1)) && (Nat.blt (Int.toNat x1) x3.length))
   (cond (!((x2.getD (Int.toNat x1) .empty).toList == (x3.getD (Int.toNat x1) .empty).toList))
    (some (.ret, frameOf 26 [4] [.bool false], ⟨[⟨true, (some (.strs x2))⟩, ⟨true, (some (.strs x3))⟩], 2, []⟩))
    (cond (Nat.beq (ih x0 (IntKind.i64.wrap (x1 + 1)) x2 x3) 0)
     (some (.ret, frameOf 26 [4] [.bool false], ⟨[⟨true, (some (.strs x2))⟩, ⟨true, (some (.strs x3))⟩], 2, []⟩))
     (cond (Nat.beq (ih x0 (IntKind.i64.wrap (x1 + 1)) x2 x3) 1)
      (some (.exit 0, frameOf 26 [4] [anyV], ⟨[⟨true, (some (.strs x2))⟩, ⟨true, (some (.strs x3))⟩], 2, []⟩))
      none)))
   none)
  none)
 (some (.exit 0, frameOf 26 [4] [anyV], ⟨[⟨true, (some (.strs x2))⟩, ⟨true, (some (.strs x3))⟩], 2, []⟩)))
noncomputable def w44l0 (ih : Int → Int → List ByteArray → List ByteArray → Nat) (x0 x1 : Int) (x2 x3 : List ByteArray) : Option (Fin' × List Value × St) :=
 (cond (decide ((x1 : Int) < x0))
 (cond ((decide ((0 : Int) ≤ x1)) && (Nat.blt (Int.toNat x1) x2.length))
  (cond (Nat.blt (Int.toNat x1) x2.length)
   (cond ((decide ((0 : Int) ≤ x1)) && (Nat.blt (Int.toNat x1) x3.length))
    (cond (Nat.blt (Int.toNat x1) x3.length)
     (cond (!((x2.getD (Int.toNat x1) .empty).toList == (x3.getD (Int.toNat x1) .empty).toList))
      (some (.ret, frameOf 26 [4] [.bool false], ⟨[⟨true, (some (.strs x2))⟩, ⟨true, (some (.strs x3))⟩], 2, []⟩))
      (cond (Nat.beq (ih x0 (IntKind.i64.wrap (x1 + 1)) x2 x3) 0)
       (some (.ret, frameOf 26 [4] [.bool false], ⟨[⟨true, (some (.strs x2))⟩, ⟨true, (some (.strs x3))⟩], 2, []⟩))
       (cond (Nat.beq (ih x0 (IntKind.i64.wrap (x1 + 1)) x2 x3) 1)
        (some (.exit 0, frameOf 26 [4] [anyV], ⟨[⟨true, (some (.strs x2))⟩, ⟨true, (some (.strs x3))⟩], 2, []⟩))
        none)))
     none)
    none)
   none)
  none)
 (some (.exit 0, frameOf 26 [4] [anyV], ⟨[⟨true, (some (.strs x2))⟩, ⟨true, (some (.strs x3))⟩], 2, []⟩)))
set_option maxRecDepth 100000 in
set_option maxHeartbeats 4000000 in
theorem e44l0 (m : Nat) (x0 x1 : Int) (x2 x3 : List ByteArray) : evC Try.prog ext T9 noL 200 (loopN Try.f44 0) (loopTail [0, 1, 12, 13] [4] [] (sumK 26 [0, 1, 12, 13] [4] (q44l0 m))) (frameOf 26 [0, 1, 12, 13] [wsl 0, wsl 1, .int .i64 x0, .int .i64 x1]) ⟨[⟨true, (some (.strs x2))⟩, ⟨true, (some (.strs x3))⟩], 2, []⟩ = firstT ([((Nat.beq (r44l0 (m + 1) x0 x1 x2 x3) 0), .ret, [.bool false], ⟨[⟨true, (some (.strs x2))⟩, ⟨true, (some (.strs x3))⟩], 2, []⟩), ((Nat.beq (r44l0 (m + 1) x0 x1 x2 x3) 1), .exit 0, [anyV], ⟨[⟨true, (some (.strs x2))⟩, ⟨true, (some (.strs x3))⟩], 2, []⟩)].map fun (b, x) => (b, (x.1, frameOf 26 [4] x.2.1, x.2.2))) :=
 (show evC Try.prog ext T9 noL 200 (loopN Try.f44 0) (loopTail [0, 1, 12, 13] [4] [] (sumK 26 [0, 1, 12, 13] [4] (q44l0 m))) (frameOf 26 [0, 1, 12, 13] [wsl 0, wsl 1, .int .i64 x0, .int .i64 x1]) ⟨[⟨true, (some (.strs x2))⟩, ⟨true, (some (.strs x3))⟩], 2, []⟩ = w44l0 (r44l0 m) x0 x1 x2 x3 from by kernel_rfl).trans
 ((show w44l0 (r44l0 m) x0 x1 x2 x3 = t44l0 (r44l0 m) x0 x1 x2 x3 from (cond_cong _ (fun h0 => (cond_cong _ (fun h1 => (cond_t (ev_and2 h1) (cond_cong _ (fun h2 => (cond_t (ev_and2 h2) rfl)) (fun h2 => rfl)))) (fun h1 => rfl))) (fun h0 => rfl))).trans
 (show t44l0 (r44l0 m) x0 x1 x2 x3 = a44l0 x0 x1 x2 x3 (r44l0 (m + 1) x0 x1 x2 x3) from (cond_app (a44l0 x0 x1 x2 x3) _ (cond_app (a44l0 x0 x1 x2 x3) _ (cond_app (a44l0 x0 x1 x2 x3) _ (cond_app (a44l0 x0 x1 x2 x3) _ rfl (v44l0 x0 x1 x2 x3 ((r44l0 m) x0 (IntKind.i64.wrap (x1 + 1)) x2 x3))) rfl) rfl) rfl)))
set_option maxRecDepth 100000 in
set_option maxHeartbeats 4000000 in
theorem qm44l0 : ∀ m, SumKOk Try.prog (loopN Try.f44 0) 26 [0, 1, 12, 13] [4] (q44l0 m) := by
  intro m
  induction m with
  | zero =>
    intro vals s x h1 h2 h3
    unfold q44l0 at h3; split at h3
    · rename_i h; split at h3
      · rename_i hc; obtain ⟨rfl, rfl⟩ := hc; exact absurd h3 (by simp [r44l0, firstT, Nat.beq])
      · exact noQ_ok _ _ _ h1 h2 h3
    · exact noQ_ok _ _ _ h1 h2 h3
  | succ m ih =>
    intro vals s x h1 h2 h3
    unfold q44l0 at h3; split at h3
    · rename_i h; split at h3
      · rename_i hc; obtain ⟨rfl, rfl⟩ := hc; exact sum_step ok9 extOk mixed ((lfOkF_no _ _).inner (by kernel_rfl)) ih h1 h2 h (e44l0 m _ _ _ _) rfl h3
      · exact noQ_ok _ _ _ h1 h2 h3
    · exact noQ_ok _ _ _ h1 h2 h3
noncomputable def Q44l0 : SumK := fun vals s => q44l0 (fuelOf vals s.h) vals s
theorem qok44l0 : SumKOk Try.prog (loopN Try.f44 0) 26 [0, 1, 12, 13] [4] Q44l0 := fuel_ok qm44l0 fuelOf
noncomputable def L44_1 : LoopT := addL noL 5 [0, 1, 12, 13] (sumK 26 [0, 1, 12, 13] [4] Q44l0)
theorem lok44_1 : LfOkF Try.prog L44_1 Try.f44 := lfOkF_add (lfOkF_no _ _) qok44l0 (by kernel_rfl) (by kernel_rfl) (by kernel_rfl)

/-- slices.Equal[[]string,string] -/
noncomputable def r44 (x0 x1 : List ByteArray) : Nat × Bool :=
 cond ((((x0.length : Nat) : Int) : Int) != ((x1.length : Nat) : Int))
  (0, false)
  (cond (Nat.beq (r44l0 (1000 + x1.length + x0.length) ((x0.length : Nat) : Int) 0 x0 x1) 0)
   (0, false)
   (cond (Nat.beq (r44l0 (1000 + x1.length + x0.length) ((x0.length : Nat) : Int) 0 x0 x1) 1)
    (0, true)
    (1, false)))
noncomputable def a44 (x0 x1 : List ByteArray) (p : Nat × Bool) : Res := firstT [((Nat.beq (p.1) 0), .bool (p.2), ⟨[⟨true, (some (.strs x0))⟩, ⟨true, (some (.strs x1))⟩], 2, []⟩)]
noncomputable def t44 (x0 x1 : List ByteArray) : Res :=
 (cond ((((x0.length : Nat) : Int) : Int) != ((x1.length : Nat) : Int))
 (some (.bool false, ⟨[⟨true, (some (.strs x0))⟩, ⟨true, (some (.strs x1))⟩], 2, []⟩))
 (cond (Nat.beq (r44l0 (1000 + x1.length + x0.length) ((x0.length : Nat) : Int) 0 x0 x1) 0)
  (some (.bool false, ⟨[⟨true, (some (.strs x0))⟩, ⟨true, (some (.strs x1))⟩], 2, []⟩))
  (cond (Nat.beq (r44l0 (1000 + x1.length + x0.length) ((x0.length : Nat) : Int) 0 x0 x1) 1)
   (some (.bool true, ⟨[⟨true, (some (.strs x0))⟩, ⟨true, (some (.strs x1))⟩], 2, []⟩))
   none)))
set_option maxRecDepth 100000 in
set_option maxHeartbeats 4000000 in
theorem e44 (x0 x1 : List ByteArray) : evFn Try.prog ext T9 L44_1 200 Try.f44 [wsl 0, wsl 1] ⟨[⟨true, (some (.strs x0))⟩, ⟨true, (some (.strs x1))⟩], 2, []⟩ = firstT [((Nat.beq ((r44 x0 x1).1) 0), .bool ((r44 x0 x1).2), ⟨[⟨true, (some (.strs x0))⟩, ⟨true, (some (.strs x1))⟩], 2, []⟩)] :=
 (show evFn Try.prog ext T9 L44_1 200 Try.f44 [wsl 0, wsl 1] ⟨[⟨true, (some (.strs x0))⟩, ⟨true, (some (.strs x1))⟩], 2, []⟩ = t44 x0 x1 from by kernel_rfl).trans
 (show t44 x0 x1 = a44 x0 x1 (r44 x0 x1) from (cond_app (a44 x0 x1) _ rfl (cond_app (a44 x0 x1) _ rfl (cond_app (a44 x0 x1) _ rfl rfl))))
noncomputable def s44 (args : List Value) (s : St) : List (Bool × Value × St) :=
 match args, s.h with
 | [.iface f0 .nilIface, .iface f1 .nilIface], [⟨true, some (.strs x0)⟩, ⟨true, some (.strs x1)⟩] => if f0 = 0 ∧ f1 = 1 then [((Nat.beq ((r44 x0 x1).1) 0), .bool ((r44 x0 x1).2), ⟨[⟨true, (some (.strs x0))⟩, ⟨true, (some (.strs x1))⟩], 2, []⟩)] else T9 44 args s
 | _, _ => T9 44 args s
noncomputable def T10 : CallF := addF T9 44 s44
set_option maxRecDepth 100000 in
set_option maxHeartbeats 4000000 in
theorem ok10 : CfOk Try.prog T10 := by
  refine cfOk_add ok9 fun args s r s' h1 h2 h3 => ?_
  unfold s44 at h3; split at h3
  · rename_i h; split at h3
    · rename_i hc; obtain ⟨rfl, rfl⟩ := hc; exact callOk ok9 Try.func44 h1 h2 h lok44_1.body (e44 _ _) rfl h3
    · exact ok9 _ _ _ _ _ h1 h2 h3
  · exact ok9 _ _ _ _ _ h1 h2 h3

/-- impl.SameNumber -/
noncomputable def r45 (x0 x1 : Nat) : Bool :=
 cond (!feq .f32 x0 x0)
  ((!feq .f32 x1 x1))
  (cond (!feq .f32 x1 x1)
   (false)
   (((((x0 : Nat) : Int) : Int) == ((x1 : Nat) : Int))))
noncomputable def a45 (x0 x1 : Nat) (p : Bool) : Res := firstT [(true, .bool p, st0)]
noncomputable def t45 (x0 x1 : Nat) : Res :=
 (cond (!feq .f32 x0 x0)
 (some (.bool (!feq .f32 x1 x1), st0))
 (cond (!feq .f32 x1 x1)
  (some (.bool false, st0))
  (some (.bool ((((x0 : Nat) : Int) : Int) == ((x1 : Nat) : Int)), st0))))
noncomputable def w45 (x0 x1 : Nat) : Res :=
 (cond (!feq .f32 x0 x0)
 (cond (!feq .f32 x0 x0)
  (some (.bool (!feq .f32 x1 x1), st0))
  (some (.bool false, st0)))
 (cond (!feq .f32 x1 x1)
  (cond (!feq .f32 x0 x0)
   (some (.bool (!feq .f32 x1 x1), st0))
   (some (.bool false, st0)))
  (cond (!isN .f32 x0)
   (cond (!isN .f32 x1)
    (some (.bool ((((x0 : Nat) : Int) : Int) == ((x1 : Nat) : Int)), st0))
    none)
   (cond (!isN .f32 x1)
    (cond (decide ((0 : Int) ≤ ((x1 : Nat) : Int)) && (!isN .f32 x1))
     (some (.bool false, st0))
     none)
    none))))
set_option maxRecDepth 100000 in
set_option maxHeartbeats 4000000 in
theorem e45 (x0 x1 : Nat) : evFn Try.prog ext T10 noL 200 Try.f45 [.float .f32 x0, .float .f32 x1] st0 = firstT [(true, .bool (r45 x0 x1), st0)] :=
 (show evFn Try.prog ext T10 noL 200 Try.f45 [.float .f32 x0, .float .f32 x1] st0 = w45 x0 x1 from by kernel_rfl).trans
 ((show w45 x0 x1 = t45 x0 x1 from (cond_cong _ (fun h0 => (cond_t (ev_not1 (ev_nott h0)) rfl)) (fun h0 => (cond_cong _ (fun h1 => (cond_f (ev_not0 (ev_notf h0)) rfl)) (fun h1 => (cond_t (ev_not1 (ev_eq1 (ev_notf h0))) (cond_t (ev_not1 (ev_eq1 (ev_notf h1))) rfl))))))).trans
 (show t45 x0 x1 = a45 x0 x1 (r45 x0 x1) from (cond_app (a45 x0 x1) _ rfl (cond_app (a45 x0 x1) _ rfl rfl))))
noncomputable def s45 (args : List Value) (s : St) : List (Bool × Value × St) :=
 match args, s.h with
 | [.float .f32 x0, .float .f32 x1], [] => [(true, .bool (r45 x0 x1), st0)]
 | _, _ => T10 45 args s
noncomputable def T11 : CallF := addF T10 45 s45
set_option maxRecDepth 100000 in
set_option maxHeartbeats 4000000 in
theorem ok11 : CfOk Try.prog T11 := by
  refine cfOk_add ok10 fun args s r s' h1 h2 h3 => ?_
  unfold s45 at h3; split at h3
  · rename_i h; exact callOk ok10 Try.func45 h1 h2 h (lfOkF_no _ _).body (e45 _ _) rfl h3
  · exact ok10 _ _ _ _ _ h1 h2 h3

/-- impl.SameProgram, loop 0: one round -/
noncomputable def b13l0 (ih : Int → Int → List (List Int) → List ByteArray → List (List Int) → Nat) (x0 x1 : Int) (x2 : List (List Int)) (x3 : List ByteArray) (x4 : List (List Int)) : Nat :=
 cond (decide ((x1 : Int) < x0))
  (cond ((decide ((0 : Int) ≤ x1)) && (Nat.blt (Int.toNat x1) x2.length))
   (cond ((decide ((0 : Int) ≤ x1)) && (Nat.blt (Int.toNat x1) x4.length))
    (cond ((((x2.getD (Int.toNat x1) []).getD 0 0) : Int) != ((x4.getD (Int.toNat x1) []).getD 0 0))
     (0)
     (cond ((((x2.getD (Int.toNat x1) []).getD 1 0) : Int) != ((x4.getD (Int.toNat x1) []).getD 1 0))
      (0)
      (cond (!(r45 (Int.toNat ((x2.getD (Int.toNat x1) []).getD 2 0)) (Int.toNat ((x4.getD (Int.toNat x1) []).getD 2 0))))
       (0)
       (ih x0 (IntKind.i64.wrap (x1 + 1)) x2 x3 x4))))
    (2))
   (2))
  (1)
noncomputable def r13l0 : Nat → Int → Int → List (List Int) → List ByteArray → List (List Int) → Nat
 | 0, _, _, _, _, _ => (2)
 | m + 1, x0, x1, x2, x3, x4 => b13l0 (r13l0 m) x0 x1 x2 x3 x4
noncomputable def a13l0 (x0 x1 : Int) (x2 : List (List Int)) (x3 : List ByteArray) (x4 : List (List Int)) (p : Nat) : Option (Fin' × List Value × St) := firstT ([((Nat.beq p 0), .ret, [.bool false], ⟨[⟨true, (some (.cells [wsl 2, wsl 3]))⟩, ⟨true, (some (.tab [.int .i8, .int .i16, .fl .f32] x2))⟩, ⟨true, (some (.strs x3))⟩, ⟨true, (some (.tab [.int .i8, .int .i16, .fl .f32] x4))⟩], 4, []⟩), ((Nat.beq p 1), .exit 0, [anyV], ⟨[⟨true, (some (.cells [wsl 2, wsl 3]))⟩, ⟨true, (some (.tab [.int .i8, .int .i16, .fl .f32] x2))⟩, ⟨true, (some (.strs x3))⟩, ⟨true, (some (.tab [.int .i8, .int .i16, .fl .f32] x4))⟩], 4, []⟩)].map fun (b, x) => (b, (x.1, frameOf 57 [4] x.2.1, x.2.2)))
theorem v13l0 (x0 x1 : Int) (x2 : List (List Int)) (x3 : List ByteArray) (x4 : List (List Int)) (p : Nat) : alts ([((Nat.beq p 0), .ret, [.bool false], ⟨[⟨true, (some (.cells [wsl 2, wsl 3]))⟩, ⟨true, (some (.tab [.int .i8, .int .i16, .fl .f32] x2))⟩, ⟨true, (some (.strs x3))⟩, ⟨true, (some (.tab [.int .i8, .int .i16, .fl .f32] x4))⟩], 4, []⟩), ((Nat.beq p 1), .exit 0, [anyV], ⟨[⟨true, (some (.cells [wsl 2, wsl 3]))⟩, ⟨true, (some (.tab [.int .i8, .int .i16, .fl .f32] x2))⟩, ⟨true, (some (.strs x3))⟩, ⟨true, (some (.tab [.int .i8, .int .i16, .fl .f32] x4))⟩], 4, []⟩)].map fun (b, x) => (b, (x.1, frameOf 57 [4] x.2.1, x.2.2))) some = a13l0 x0 x1 x2 x3 x4 p := alts_first _
noncomputable def q13l0 (m : Nat) : SumK := fun vals s =>
 match vals, s.h with
 | [.pointer (some ⟨f0, f1, some f2⟩), .iface f3 .nilIface, .int .i64 x0, .int .i64 x1], [⟨true, some (.cells [.iface f4 .nilIface, .iface f5 .nilIface])⟩, ⟨true, some (.tab [.int .i8, .int .i16, .fl .f32] x2)⟩, ⟨true, some (.strs x3)⟩, ⟨true, some (.tab [.int .i8, .int .i16, .fl .f32] x4)⟩] => if f0 = 0 ∧ f1 = 0 ∧ f2 = 0 ∧ f3 = 1 ∧ f4 = 2 ∧ f5 = 3 then [((Nat.beq (r13l0 m x0 x1 x2 x3 x4) 0), .ret, [.bool false], ⟨[⟨true, (some (.cells [wsl 2, wsl 3]))⟩, ⟨true, (some (.tab [.int .i8, .int .i16, .fl .f32] x2))⟩, ⟨true, (some (.strs x3))⟩, ⟨true, (some (.tab [.int .i8, .int .i16, .fl .f32] x4))⟩], 4, []⟩), ((Nat.beq (r13l0 m x0 x1 x2 x3 x4) 1), .exit 0, [anyV], ⟨[⟨true, (some (.cells [wsl 2, wsl 3]))⟩, ⟨true, (some (.tab [.int .i8, .int .i16, .fl .f32] x2))⟩, ⟨true, (some (.strs x3))⟩, ⟨true, (some (.tab [.int .i8, .int .i16, .fl .f32] x4))⟩], 4, []⟩)] else noQ vals s
 | _, _ => noQ vals s
noncomputable def t13l0 (ih : Int → Int → List (List Int) → List ByteArray → List (List Int) → Nat) (x0 x1 : Int) (x2 : List (List Int)) (x3 : List ByteArray) (x4 : List (List Int)) : Option (Fin' × List Value × St) :=
 (cond (decide ((x1 : Int) < x0))
 (cond ((decide ((0 : Int) ≤ x1)) && (Nat.blt (Int.toNat x1) x2.length))
  (cond ((decide ((0 : Int) ≤ x1)) && (Nat.blt (Int.toNat x1) x4.length))
   (cond ((((x2.getD (Int.toNat x1) []).getD 0 0) : Int) != ((x4.getD (Int.toNat x1) []).getD 0 0))
    (some (.ret, frameOf 57 [4] [.bool false], ⟨[⟨true, (some (.cells [wsl 2, wsl 3]))⟩, ⟨true, (some (.tab [.int .i8, .int .i16, .fl .f32] x2))⟩, ⟨true, (some (.strs x3))⟩, ⟨true, (some (.tab [.int .i8, .int .i16, .fl .f32] x4))⟩], 4, []⟩))
    (cond ((((x2.getD (Int.toNat x1) []).getD 1 0) : Int) != ((x4.getD (Int.toNat x1) []).getD 1 0))
     (some (.ret, frameOf 57 [4] [.bool false], ⟨[⟨true, (some (.cells [wsl 2, wsl 3]))⟩, ⟨true, (some (.tab [.int .i8, .int .i16, .fl .f32] x2))⟩, ⟨true, (some (.strs x3))⟩, ⟨true, (some (.tab [.int .i8, .int .i16, .fl .f32] x4))⟩], 4, []⟩))
     (cond (!(r45 (Int.toNat ((x2.getD (Int.toNat x1) []).getD 2 0)) (Int.toNat ((x4.getD (Int.toNat x1) []).getD 2 0))))
      (some (.ret, frameOf 57 [4] [.bool false], ⟨[⟨true, (some (.cells [wsl 2, wsl 3]))⟩, ⟨true, (some (.tab [.int .i8, .int .i16, .fl .f32] x2))⟩, ⟨true, (some (.strs x3))⟩, ⟨true, (some (.tab [.int .i8, .int .i16, .fl .f32] x4))⟩], 4, []⟩))
      (cond (Nat.beq (ih x0 (IntKind.i64.wrap (x1 + 1)) x2 x3 x4) 0)
       (some (.ret, frameOf 57 [4] [.bool false], ⟨[⟨true, (some (.cells [wsl 2, wsl 3]))⟩, ⟨true, (some (.tab [.int .i8, .int .i16, .fl .f32] x2))⟩, ⟨true, (some (.strs x3))⟩, ⟨true, (some (.tab [.int .i8, .int .i16, .fl .f32] x4))⟩], 4, []⟩))
       (cond (Nat.beq (ih x0 (IntKind.i64.wrap (x1 + 1)) x2 x3 x4) 1)
        (some (.exit 0, frameOf 57 [4] [anyV], ⟨[⟨true, (some (.cells [wsl 2, wsl 3]))⟩, ⟨true, (some (.tab [.int .i8, .int .i16, .fl .f32] x2))⟩, ⟨true, (some (.strs x3))⟩, ⟨true, (some (.tab [.int .i8, .int .i16, .fl .f32] x4))⟩], 4, []⟩))
        none)))))
   none)
  none)
 (some (.exit 0, frameOf 57 [4] [anyV], ⟨[⟨true, (some (.cells [wsl 2, wsl 3]))⟩, ⟨true, (some (.tab [.int .i8, .int .i16, .fl .f32] x2))⟩, ⟨true, (some (.strs x3))⟩, ⟨true, (some (.tab [.int .i8, .int .i16, .fl .f32] x4))⟩], 4, []⟩)))
noncomputable def w13l0 (ih : Int → Int → List (List Int) → List ByteArray → List (List Int) → Nat) (x0 x1 : Int) (x2 : List (List Int)) (x3 : List ByteArray) (x4 : List (List Int)) : Option (Fin' × List Value × St) :=
 (cond (decide ((x1 : Int) < x0))
 (cond ((decide ((0 : Int) ≤ x1)) && (Nat.blt (Int.toNat x1) x2.length))
  (cond (Nat.blt (Int.toNat x1) x2.length)
   (cond ((decide ((0 : Int) ≤ x1)) && (Nat.blt (Int.toNat x1) x4.length))
    (cond (Nat.blt (Int.toNat x1) x4.length)
     (cond ((((x2.getD (Int.toNat x1) []).getD 0 0) : Int) != ((x4.getD (Int.toNat x1) []).getD 0 0))
      (some (.ret, frameOf 57 [4] [.bool false], ⟨[⟨true, (some (.cells [wsl 2, wsl 3]))⟩, ⟨true, (some (.tab [.int .i8, .int .i16, .fl .f32] x2))⟩, ⟨true, (some (.strs x3))⟩, ⟨true, (some (.tab [.int .i8, .int .i16, .fl .f32] x4))⟩], 4, []⟩))
      (cond ((((x2.getD (Int.toNat x1) []).getD 1 0) : Int) != ((x4.getD (Int.toNat x1) []).getD 1 0))
       (some (.ret, frameOf 57 [4] [.bool false], ⟨[⟨true, (some (.cells [wsl 2, wsl 3]))⟩, ⟨true, (some (.tab [.int .i8, .int .i16, .fl .f32] x2))⟩, ⟨true, (some (.strs x3))⟩, ⟨true, (some (.tab [.int .i8, .int .i16, .fl .f32] x4))⟩], 4, []⟩))
       (cond (!(r45 (Int.toNat ((x2.getD (Int.toNat x1) []).getD 2 0)) (Int.toNat ((x4.getD (Int.toNat x1) []).getD 2 0))))
        (some (.ret, frameOf 57 [4] [.bool false], ⟨[⟨true, (some (.cells [wsl 2, wsl 3]))⟩, ⟨true, (some (.tab [.int .i8, .int .i16, .fl .f32] x2))⟩, ⟨true, (some (.strs x3))⟩, ⟨true, (some (.tab [.int .i8, .int .i16, .fl .f32] x4))⟩], 4, []⟩))
        (cond (Nat.beq (ih x0 (IntKind.i64.wrap (x1 + 1)) x2 x3 x4) 0)
         (some (.ret, frameOf 57 [4] [.bool false], ⟨[⟨true, (some (.cells [wsl 2, wsl 3]))⟩, ⟨true, (some (.tab [.int .i8, .int .i16, .fl .f32] x2))⟩, ⟨true, (some (.strs x3))⟩, ⟨true, (some (.tab [.int .i8, .int .i16, .fl .f32] x4))⟩], 4, []⟩))
         (cond (Nat.beq (ih x0 (IntKind.i64.wrap (x1 + 1)) x2 x3 x4) 1)
          (some (.exit 0, frameOf 57 [4] [anyV], ⟨[⟨true, (some (.cells [wsl 2, wsl 3]))⟩, ⟨true, (some (.tab [.int .i8, .int .i16, .fl .f32] x2))⟩, ⟨true, (some (.strs x3))⟩, ⟨true, (some (.tab [.int .i8, .int .i16, .fl .f32] x4))⟩], 4, []⟩))
          none)))))
     none)
    none)
   none)
  none)
 (some (.exit 0, frameOf 57 [4] [anyV], ⟨[⟨true, (some (.cells [wsl 2, wsl 3]))⟩, ⟨true, (some (.tab [.int .i8, .int .i16, .fl .f32] x2))⟩, ⟨true, (some (.strs x3))⟩, ⟨true, (some (.tab [.int .i8, .int .i16, .fl .f32] x4))⟩], 4, []⟩)))
set_option maxRecDepth 100000 in
set_option maxHeartbeats 4000000 in
theorem e13l0 (m : Nat) (x0 x1 : Int) (x2 : List (List Int)) (x3 : List ByteArray) (x4 : List (List Int)) : evC Try.prog ext T11 noL 200 (loopN Try.f13 0) (loopTail [3, 24, 25, 26] [4] [] (sumK 57 [3, 24, 25, 26] [4] (q13l0 m))) (frameOf 57 [3, 24, 25, 26] [.pointer (some ⟨0, 0, some 0⟩), wsl 1, .int .i64 x0, .int .i64 x1]) ⟨[⟨true, (some (.cells [wsl 2, wsl 3]))⟩, ⟨true, (some (.tab [.int .i8, .int .i16, .fl .f32] x2))⟩, ⟨true, (some (.strs x3))⟩, ⟨true, (some (.tab [.int .i8, .int .i16, .fl .f32] x4))⟩], 4, []⟩ = firstT ([((Nat.beq (r13l0 (m + 1) x0 x1 x2 x3 x4) 0), .ret, [.bool false], ⟨[⟨true, (some (.cells [wsl 2, wsl 3]))⟩, ⟨true, (some (.tab [.int .i8, .int .i16, .fl .f32] x2))⟩, ⟨true, (some (.strs x3))⟩, ⟨true, (some (.tab [.int .i8, .int .i16, .fl .f32] x4))⟩], 4, []⟩), ((Nat.beq (r13l0 (m + 1) x0 x1 x2 x3 x4) 1), .exit 0, [anyV], ⟨[⟨true, (some (.cells [wsl 2, wsl 3]))⟩, ⟨true, (some (.tab [.int .i8, .int .i16, .fl .f32] x2))⟩, ⟨true, (some (.strs x3))⟩, ⟨true, (some (.tab [.int .i8, .int .i16, .fl .f32] x4))⟩], 4, []⟩)].map fun (b, x) => (b, (x.1, frameOf 57 [4] x.2.1, x.2.2))) :=
 (show evC Try.prog ext T11 noL 200 (loopN Try.f13 0) (loopTail [3, 24, 25, 26] [4] [] (sumK 57 [3, 24, 25, 26] [4] (q13l0 m))) (frameOf 57 [3, 24, 25, 26] [.pointer (some ⟨0, 0, some 0⟩), wsl 1, .int .i64 x0, .int .i64 x1]) ⟨[⟨true, (some (.cells [wsl 2, wsl 3]))⟩, ⟨true, (some (.tab [.int .i8, .int .i16, .fl .f32] x2))⟩, ⟨true, (some (.strs x3))⟩, ⟨true, (some (.tab [.int .i8, .int .i16, .fl .f32] x4))⟩], 4, []⟩ = w13l0 (r13l0 m) x0 x1 x2 x3 x4 from by kernel_rfl).trans
 ((show w13l0 (r13l0 m) x0 x1 x2 x3 x4 = t13l0 (r13l0 m) x0 x1 x2 x3 x4 from (cond_cong _ (fun h0 => (cond_cong _ (fun h1 => (cond_t (ev_and2 h1) (cond_cong _ (fun h2 => (cond_t (ev_and2 h2) rfl)) (fun h2 => rfl)))) (fun h1 => rfl))) (fun h0 => rfl))).trans
 (show t13l0 (r13l0 m) x0 x1 x2 x3 x4 = a13l0 x0 x1 x2 x3 x4 (r13l0 (m + 1) x0 x1 x2 x3 x4) from (cond_app (a13l0 x0 x1 x2 x3 x4) _ (cond_app (a13l0 x0 x1 x2 x3 x4) _ (cond_app (a13l0 x0 x1 x2 x3 x4) _ (cond_app (a13l0 x0 x1 x2 x3 x4) _ rfl (cond_app (a13l0 x0 x1 x2 x3 x4) _ rfl (cond_app (a13l0 x0 x1 x2 x3 x4) _ rfl (v13l0 x0 x1 x2 x3 x4 ((r13l0 m) x0 (IntKind.i64.wrap (x1 + 1)) x2 x3 x4))))) rfl) rfl) rfl)))
set_option maxRecDepth 100000 in
set_option maxHeartbeats 4000000 in
theorem qm13l0 : ∀ m, SumKOk Try.prog (loopN Try.f13 0) 57 [3, 24, 25, 26] [4] (q13l0 m) := by
  intro m
  induction m with
  | zero =>
    intro vals s x h1 h2 h3
    unfold q13l0 at h3; split at h3
    · rename_i h; split at h3
      · rename_i hc; obtain ⟨rfl, rfl, rfl, rfl, rfl, rfl⟩ := hc; exact absurd h3 (by simp [r13l0, firstT, Nat.beq])
      · exact noQ_ok _ _ _ h1 h2 h3
    · exact noQ_ok _ _ _ h1 h2 h3
  | succ m ih =>
    intro vals s x h1 h2 h3
    unfold q13l0 at h3; split at h3
    · rename_i h; split at h3
      · rename_i hc; obtain ⟨rfl, rfl, rfl, rfl, rfl, rfl⟩ := hc; exact sum_step ok11 extOk mixed ((lfOkF_no _ _).inner (by kernel_rfl)) ih h1 h2 h (e13l0 m _ _ _ _ _) rfl h3
      · exact noQ_ok _ _ _ h1 h2 h3
    · exact noQ_ok _ _ _ h1 h2 h3
noncomputable def Q13l0 : SumK := fun vals s => q13l0 (fuelOf vals s.h) vals s
theorem qok13l0 : SumKOk Try.prog (loopN Try.f13 0) 57 [3, 24, 25, 26] [4] Q13l0 := fuel_ok qm13l0 fuelOf
noncomputable def L13_1 : LoopT := addL noL 5 [3, 24, 25, 26] (sumK 57 [3, 24, 25, 26] [4] Q13l0)
theorem lok13_1 : LfOkF Try.prog L13_1 Try.f13 := lfOkF_add (lfOkF_no _ _) qok13l0 (by kernel_rfl) (by kernel_rfl) (by kernel_rfl)

/-- impl.SameProgram -/
noncomputable def r13 (x0 : List ByteArray) (x1 : List (List Int)) (x2 : List ByteArray) (x3 : List (List Int)) : Nat × Bool :=
 cond (Nat.beq ((r44 x0 x2).1) 0)
  (cond (!((r44 x0 x2).2))
   (0, false)
   (cond ((((x1.length : Nat) : Int) : Int) != ((x3.length : Nat) : Int))
    (0, false)
    (cond (Nat.beq (r13l0 (1000 + x3.length + x2.length + x1.length) ((x1.length : Nat) : Int) 0 x1 x2 x3) 0)
     (0, false)
     (cond (Nat.beq (r13l0 (1000 + x3.length + x2.length + x1.length) ((x1.length : Nat) : Int) 0 x1 x2 x3) 1)
      (0, true)
      (1, false)))))
  (1, false)
noncomputable def a13 (x0 : List ByteArray) (x1 : List (List Int)) (x2 : List ByteArray) (x3 : List (List Int)) (p : Nat × Bool) : Res := firstT [((Nat.beq (p.1) 0), .bool (p.2), ⟨[⟨true, (some (.strs x0))⟩, ⟨true, (some (.tab [.int .i8, .int .i16, .fl .f32] x1))⟩, ⟨true, (some (.strs x2))⟩, ⟨true, (some (.tab [.int .i8, .int .i16, .fl .f32] x3))⟩], 4, []⟩)]
noncomputable def t13 (x0 : List ByteArray) (x1 : List (List Int)) (x2 : List ByteArray) (x3 : List (List Int)) : Res :=
 (cond (Nat.beq ((r44 x0 x2).1) 0)
 (cond (!((r44 x0 x2).2))
  (some (.bool false, ⟨[⟨true, (some (.strs x0))⟩, ⟨true, (some (.tab [.int .i8, .int .i16, .fl .f32] x1))⟩, ⟨true, (some (.strs x2))⟩, ⟨true, (some (.tab [.int .i8, .int .i16, .fl .f32] x3))⟩], 4, []⟩))
  (cond ((((x1.length : Nat) : Int) : Int) != ((x3.length : Nat) : Int))
   (some (.bool false, ⟨[⟨true, (some (.strs x0))⟩, ⟨true, (some (.tab [.int .i8, .int .i16, .fl .f32] x1))⟩, ⟨true, (some (.strs x2))⟩, ⟨true, (some (.tab [.int .i8, .int .i16, .fl .f32] x3))⟩], 4, []⟩))
   (cond (Nat.beq (r13l0 (1000 + x3.length + x2.length + x1.length) ((x1.length : Nat) : Int) 0 x1 x2 x3) 0)
    (some (.bool false, ⟨[⟨true, (some (.strs x0))⟩, ⟨true, (some (.tab [.int .i8, .int .i16, .fl .f32] x1))⟩, ⟨true, (some (.strs x2))⟩, ⟨true, (some (.tab [.int .i8, .int .i16, .fl .f32] x3))⟩], 4, []⟩))
    (cond (Nat.beq (r13l0 (1000 + x3.length + x2.length + x1.length) ((x1.length : Nat) : Int) 0 x1 x2 x3) 1)
     (some (.bool true, ⟨[⟨true, (some (.strs x0))⟩, ⟨true, (some (.tab [.int .i8, .int .i16, .fl .f32] x1))⟩, ⟨true, (some (.strs x2))⟩, ⟨true, (some (.tab [.int .i8, .int .i16, .fl .f32] x3))⟩], 4, []⟩))
     none))))
 none)
set_option maxRecDepth 100000 in
set_option maxHeartbeats 4000000 in
theorem e13 (x0 : List ByteArray) (x1 : List (List Int)) (x2 : List ByteArray) (x3 : List (List Int)) : evFn Try.prog ext T11 L13_1 200 Try.f13 [.agg #[wsl 0, wsl 1], .agg #[wsl 2, wsl 3]] ⟨[⟨true, (some (.strs x0))⟩, ⟨true, (some (.tab [.int .i8, .int .i16, .fl .f32] x1))⟩, ⟨true, (some (.strs x2))⟩, ⟨true, (some (.tab [.int .i8, .int .i16, .fl .f32] x3))⟩], 4, []⟩ = firstT [((Nat.beq ((r13 x0 x1 x2 x3).1) 0), .bool ((r13 x0 x1 x2 x3).2), ⟨[⟨true, (some (.strs x0))⟩, ⟨true, (some (.tab [.int .i8, .int .i16, .fl .f32] x1))⟩, ⟨true, (some (.strs x2))⟩, ⟨true, (some (.tab [.int .i8, .int .i16, .fl .f32] x3))⟩], 4, []⟩)] :=
 (show evFn Try.prog ext T11 L13_1 200 Try.f13 [.agg #[wsl 0, wsl 1], .agg #[wsl 2, wsl 3]] ⟨[⟨true, (some (.strs x0))⟩, ⟨true, (some (.tab [.int .i8, .int .i16, .fl .f32] x1))⟩, ⟨true, (some (.strs x2))⟩, ⟨true, (some (.tab [.int .i8, .int .i16, .fl .f32] x3))⟩], 4, []⟩ = t13 x0 x1 x2 x3 from by kernel_rfl).trans
 (show t13 x0 x1 x2 x3 = a13 x0 x1 x2 x3 (r13 x0 x1 x2 x3) from (cond_app (a13 x0 x1 x2 x3) _ (cond_app (a13 x0 x1 x2 x3) _ rfl (cond_app (a13 x0 x1 x2 x3) _ rfl (cond_app (a13 x0 x1 x2 x3) _ rfl (cond_app (a13 x0 x1 x2 x3) _ rfl rfl)))) rfl))
noncomputable def s13 (args : List Value) (s : St) : List (Bool × Value × St) :=
 match args, s.h with
 | [.agg ⟨[.iface f0 .nilIface, .iface f1 .nilIface]⟩, .agg ⟨[.iface f2 .nilIface, .iface f3 .nilIface]⟩], [⟨true, some (.strs x0)⟩, ⟨true, some (.tab [.int .i8, .int .i16, .fl .f32] x1)⟩, ⟨true, some (.strs x2)⟩, ⟨true, some (.tab [.int .i8, .int .i16, .fl .f32] x3)⟩] => if f0 = 0 ∧ f1 = 1 ∧ f2 = 2 ∧ f3 = 3 then [((Nat.beq ((r13 x0 x1 x2 x3).1) 0), .bool ((r13 x0 x1 x2 x3).2), ⟨[⟨true, (some (.strs x0))⟩, ⟨true, (some (.tab [.int .i8, .int .i16, .fl .f32] x1))⟩, ⟨true, (some (.strs x2))⟩, ⟨true, (some (.tab [.int .i8, .int .i16, .fl .f32] x3))⟩], 4, []⟩)] else T11 13 args s
 | _, _ => T11 13 args s
noncomputable def T12 : CallF := addF T11 13 s13
set_option maxRecDepth 100000 in
set_option maxHeartbeats 4000000 in
theorem ok12 : CfOk Try.prog T12 := by
  refine cfOk_add ok11 fun args s r s' h1 h2 h3 => ?_
  unfold s13 at h3; split at h3
  · rename_i h; split at h3
    · rename_i hc; obtain ⟨rfl, rfl, rfl, rfl⟩ := hc; exact callOk ok11 Try.func13 h1 h2 h lok13_1.body (e13 _ _ _ _) rfl h3
    · exact ok11 _ _ _ _ _ h1 h2 h3
  · exact ok11 _ _ _ _ _ h1 h2 h3

/-- laws.eqStringS, loop 0: one round -/
noncomputable def b46l0 (ih : Int → List ByteArray → List ByteArray → Nat) (x0 : Int) (x1 x2 : List ByteArray) : Nat :=
 cond (decide ((x0 : Int) < ((x1.length : Nat) : Int)))
  (cond ((decide ((0 : Int) ≤ x0)) && (Nat.blt (Int.toNat x0) x1.length))
   (cond ((decide ((0 : Int) ≤ x0)) && (Nat.blt (Int.toNat x0) x2.length))
    (cond (!((x1.getD (Int.toNat x0) .empty).toList == (x2.getD (Int.toNat x0) .empty).toList))
     (0)
     (ih (IntKind.i64.wrap (x0 + 1)) x1 x2))
    (2))
   (2))
  (1)
noncomputable def r46l0 : Nat → Int → List ByteArray → List ByteArray → Nat
 | 0, _, _, _ => (2)
 | m + 1, x0, x1, x2 => b46l0 (r46l0 m) x0 x1 x2
noncomputable def a46l0 (x0 : Int) (x1 x2 : List ByteArray) (p : Nat) : Option (Fin' × List Value × St) := firstT ([((Nat.beq p 0), .ret, [.bool false], ⟨[⟨true, (some (.strs x1))⟩, ⟨true, (some (.strs x2))⟩], 2, []⟩), ((Nat.beq p 1), .exit 0, [anyV], ⟨[⟨true, (some (.strs x1))⟩, ⟨true, (some (.strs x2))⟩], 2, []⟩)].map fun (b, x) => (b, (x.1, frameOf 26 [4] x.2.1, x.2.2)))
theorem v46l0 (x0 : Int) (x1 x2 : List ByteArray) (p : Nat) : alts ([((Nat.beq p 0), .ret, [.bool false], ⟨[⟨true, (some (.strs x1))⟩, ⟨true, (some (.strs x2))⟩], 2, []⟩), ((Nat.beq p 1), .exit 0, [anyV], ⟨[⟨true, (some (.strs x1))⟩, ⟨true, (some (.strs x2))⟩], 2, []⟩)].map fun (b, x) => (b, (x.1, frameOf 26 [4] x.2.1, x.2.2))) some = a46l0 x0 x1 x2 p := alts_first _
noncomputable def q46l0 (m : Nat) : SumK := fun vals s =>
 match vals, s.h with
 | [.iface f0 .nilIface, .iface f1 .nilIface, .int .i64 x0], [⟨true, some (.strs x1)⟩, ⟨true, some (.strs x2)⟩] => if f0 = 0 ∧ f1 = 1 then [((Nat.beq (r46l0 m x0 x1 x2) 0), .ret, [.bool false], ⟨[⟨true, (some (.strs x1))⟩, ⟨true, (some (.strs x2))⟩], 2, []⟩), ((Nat.beq (r46l0 m x0 x1 x2) 1), .exit 0, [anyV], ⟨[⟨true, (some (.strs x1))⟩, ⟨true, (some (.strs x2))⟩], 2, []⟩)] else noQ vals s
 | _, _ => noQ vals s
noncomputable def t46l0 (ih : Int → List ByteArray → List ByteArray → Nat) (x0 : Int) (x1 x2 : List ByteArray) : Option (Fin' × List Value × St) :=
 (cond (decide ((x0 : Int) < ((x1.length : Nat) : Int)))
 (cond ((decide ((0 : Int) ≤ x0)) && (Nat.blt (Int.toNat x0) x1.length))
  (cond ((decide ((0 : Int) ≤ x0)) && (Nat.blt (Int.toNat x0) x2.length))
   (cond (!((x1.getD (Int.toNat x0) .empty).toList == (x2.getD (Int.toNat x0) .empty).toList))
    (some (.ret, frameOf 26 [4] [.bool false], ⟨[⟨true, (some (.strs x1))⟩, ⟨true, (some (.strs x2))⟩], 2, []⟩))
    (cond (Nat.beq (ih (IntKind.i64.wrap (x0 + 1)) x1 x2) 0)
     (some (.ret, frameOf 26 [4] [.bool false], ⟨[⟨true, (some (.strs x1))⟩, ⟨true, (some (.strs x2))⟩], 2, []⟩))
     (cond (Nat.beq (ih (IntKind.i64.wrap (x0 + 1)) x1 x2) 1)
      (some (.exit 0, frameOf 26 [4] [anyV], ⟨[⟨true, (some (.strs x1))⟩, ⟨true, (some (.strs x2))⟩], 2, []⟩))
      none)))
   none)
  none)
 (some (.exit 0, frameOf 26 [4] [anyV], ⟨[⟨true, (some (.strs x1))⟩, ⟨true, (some (.strs x2))⟩], 2, []⟩)))
noncomputable def w46l0 (ih : Int → List ByteArray → List ByteArray → Nat) (x0 : Int) (x1 x2 : List ByteArray) : Option (Fin' × List Value × St) :=
 (cond (decide ((x0 : Int) < ((x1.length : Nat) : Int)))
 (cond ((decide ((0 : Int) ≤ x0)) && (Nat.blt (Int.toNat x0) x1.length))
  (cond (Nat.blt (Int.toNat x0) x1.length)
   (cond ((decide ((0 : Int) ≤ x0)) && (Nat.blt (Int.toNat x0) x2.length))
    (cond (Nat.blt (Int.toNat x0) x2.length)
     (cond (!((x1.getD (Int.toNat x0) .empty).toList == (x2.getD (Int.toNat x0) .empty).toList))
      (some (.ret, frameOf 26 [4] [.bool false], ⟨[⟨true, (some (.strs x1))⟩, ⟨true, (some (.strs x2))⟩], 2, []⟩))
      (cond (Nat.beq (ih (IntKind.i64.wrap (x0 + 1)) x1 x2) 0)
       (some (.ret, frameOf 26 [4] [.bool false], ⟨[⟨true, (some (.strs x1))⟩, ⟨true, (some (.strs x2))⟩], 2, []⟩))
       (cond (Nat.beq (ih (IntKind.i64.wrap (x0 + 1)) x1 x2) 1)
        (some (.exit 0, frameOf 26 [4] [anyV], ⟨[⟨true, (some (.strs x1))⟩, ⟨true, (some (.strs x2))⟩], 2, []⟩))
        none)))
     none)
    none)
   none)
  none)
 (some (.exit 0, frameOf 26 [4] [anyV], ⟨[⟨true, (some (.strs x1))⟩, ⟨true, (some (.strs x2))⟩], 2, []⟩)))
set_option maxRecDepth 100000 in
set_option maxHeartbeats 4000000 in
theorem e46l0 (m : Nat) (x0 : Int) (x1 x2 : List ByteArray) : evC Try.prog ext T12 noL 200 (loopN Try.f46 0) (loopTail [0, 1, 5] [4] [] (sumK 26 [0, 1, 5] [4] (q46l0 m))) (frameOf 26 [0, 1, 5] [wsl 0, wsl 1, .int .i64 x0]) ⟨[⟨true, (some (.strs x1))⟩, ⟨true, (some (.strs x2))⟩], 2, []⟩ = firstT ([((Nat.beq (r46l0 (m + 1) x0 x1 x2) 0), .ret, [.bool false], ⟨[⟨true, (some (.strs x1))⟩, ⟨true, (some (.strs x2))⟩], 2, []⟩), ((Nat.beq (r46l0 (m + 1) x0 x1 x2) 1), .exit 0, [anyV], ⟨[⟨true, (some (.strs x1))⟩, ⟨true, (some (.strs x2))⟩], 2, []⟩)].map fun (b, x) => (b, (x.1, frameOf 26 [4] x.2.1, x.2.2))) :=
 (show evC Try.prog ext T12 noL 200 (loopN Try.f46 0) (loopTail [0, 1, 5] [4] [] (sumK 26 [0, 1, 5] [4] (q46l0 m))) (frameOf 26 [0, 1, 5] [wsl 0, wsl 1, .int .i64 x0]) ⟨[⟨true, (some (.strs x1))⟩, ⟨true, (some (.strs x2))⟩], 2, []⟩ = w46l0 (r46l0 m) x0 x1 x2 from by kernel_rfl).trans
 ((show w46l0 (r46l0 m) x0 x1 x2 = t46l0 (r46l0 m) x0 x1 x2 from (cond_cong _ (fun h0 => (cond_cong _ (fun h1 => (cond_t (ev_and2 h1) (cond_cong _ (fun h2 => (cond_t (ev_and2 h2) rfl)) (fun h2 => rfl)))) (fun h1 => rfl))) (fun h0 => rfl))).trans
 (show t46l0 (r46l0 m) x0 x1 x2 = a46l0 x0 x1 x2 (r46l0 (m + 1) x0 x1 x2) from (cond_app (a46l0 x0 x1 x2) _ (cond_app (a46l0 x0 x1 x2) _ (cond_app (a46l0 x0 x1 x2) _ (cond_app (a46l0 x0 x1 x2) _ rfl (v46l0 x0 x1 x2 ((r46l0 m) (IntKind.i64.wrap (x0 + 1)) x1 x2))) rfl) rfl) rfl)))
set_option maxRecDepth 100000 in
set_option maxHeartbeats 4000000 in
theorem qm46l0 : ∀ m, SumKOk Try.prog (loopN Try.f46 0) 26 [0, 1, 5] [4] (q46l0 m) := by
  intro m
  induction m with
  | zero =>
    intro vals s x h1 h2 h3
    unfold q46l0 at h3; split at h3
    · rename_i h; split at h3
      · rename_i hc; obtain ⟨rfl, rfl⟩ := hc; exact absurd h3 (by simp [r46l0, firstT, Nat.beq])
      · exact noQ_ok _ _ _ h1 h2 h3
    · exact noQ_ok _ _ _ h1 h2 h3
  | succ m ih =>
    intro vals s x h1 h2 h3
    unfold q46l0 at h3; split at h3
    · rename_i h; split at h3
      · rename_i hc; obtain ⟨rfl, rfl⟩ := hc; exact sum_step ok12 extOk mixed ((lfOkF_no _ _).inner (by kernel_rfl)) ih h1 h2 h (e46l0 m _ _ _) rfl h3
      · exact noQ_ok _ _ _ h1 h2 h3
    · exact noQ_ok _ _ _ h1 h2 h3
noncomputable def Q46l0 : SumK := fun vals s => q46l0 (fuelOf vals s.h) vals s
theorem qok46l0 : SumKOk Try.prog (loopN Try.f46 0) 26 [0, 1, 5] [4] Q46l0 := fuel_ok qm46l0 fuelOf
noncomputable def L46_1 : LoopT := addL noL 5 [0, 1, 5] (sumK 26 [0, 1, 5] [4] Q46l0)
theorem lok46_1 : LfOkF Try.prog L46_1 Try.f46 := lfOkF_add (lfOkF_no _ _) qok46l0 (by kernel_rfl) (by kernel_rfl) (by kernel_rfl)

/-- laws.eqStringS -/
noncomputable def r46 (x0 x1 : List ByteArray) : Nat × Bool :=
 cond ((((x0.length : Nat) : Int) : Int) != ((x1.length : Nat) : Int))
  (0, false)
  (cond (Nat.beq (r46l0 (1000 + x1.length + x0.length) 0 x0 x1) 0)
   (0, false)
   (cond (Nat.beq (r46l0 (1000 + x1.length + x0.length) 0 x0 x1) 1)
    (0, true)
    (1, false)))
noncomputable def a46 (x0 x1 : List ByteArray) (p : Nat × Bool) : Res := firstT [((Nat.beq (p.1) 0), .bool (p.2), ⟨[⟨true, (some (.strs x0))⟩, ⟨true, (some (.strs x1))⟩], 2, []⟩)]
noncomputable def t46 (x0 x1 : List ByteArray) : Res :=
 (cond ((((x0.length : Nat) : Int) : Int) != ((x1.length : Nat) : Int))
 (some (.bool false, ⟨[⟨true, (some (.strs x0))⟩, ⟨true, (some (.strs x1))⟩], 2, []⟩))
 (cond (Nat.beq (r46l0 (1000 + x1.length + x0.length) 0 x0 x1) 0)
  (some (.bool false, ⟨[⟨true, (some (.strs x0))⟩, ⟨true, (some (.strs x1))⟩], 2, []⟩))
  (cond (Nat.beq (r46l0 (1000 + x1.length + x0.length) 0 x0 x1) 1)
   (some (.bool true, ⟨[⟨true, (some (.strs x0))⟩, ⟨true, (some (.strs x1))⟩], 2, []⟩))
   none)))
set_option maxRecDepth 100000 in
set_option maxHeartbeats 4000000 in
theorem e46 (x0 x1 : List ByteArray) : evFn Try.prog ext T12 L46_1 200 Try.f46 [wsl 0, wsl 1] ⟨[⟨true, (some (.strs x0))⟩, ⟨true, (some (.strs x1))⟩], 2, []⟩ = firstT [((Nat.beq ((r46 x0 x1).1) 0), .bool ((r46 x0 x1).2), ⟨[⟨true, (some (.strs x0))⟩, ⟨true, (some (.strs x1))⟩], 2, []⟩)] :=
 (show evFn Try.prog ext T12 L46_1 200 Try.f46 [wsl 0, wsl 1] ⟨[⟨true, (some (.strs x0))⟩, ⟨true, (some (.strs x1))⟩], 2, []⟩ = t46 x0 x1 from by kernel_rfl).trans
 (show t46 x0 x1 = a46 x0 x1 (r46 x0 x1) from (cond_app (a46 x0 x1) _ rfl (cond_app (a46 x0 x1) _ rfl (cond_app (a46 x0 x1) _ rfl rfl))))
noncomputable def s46 (args : List Value) (s : St) : List (Bool × Value × St) :=
 match args, s.h with
 | [.iface f0 .nilIface, .iface f1 .nilIface], [⟨true, some (.strs x0)⟩, ⟨true, some (.strs x1)⟩] => if f0 = 0 ∧ f1 = 1 then [((Nat.beq ((r46 x0 x1).1) 0), .bool ((r46 x0 x1).2), ⟨[⟨true, (some (.strs x0))⟩, ⟨true, (some (.strs x1))⟩], 2, []⟩)] else T12 46 args s
 | _, _ => T12 46 args s
noncomputable def T13 : CallF := addF T12 46 s46
set_option maxRecDepth 100000 in
set_option maxHeartbeats 4000000 in
theorem ok13 : CfOk Try.prog T13 := by
  refine cfOk_add ok12 fun args s r s' h1 h2 h3 => ?_
  unfold s46 at h3; split at h3
  · rename_i h; split at h3
    · rename_i hc; obtain ⟨rfl, rfl⟩ := hc; exact callOk ok12 Try.func46 h1 h2 h lok46_1.body (e46 _ _) rfl h3
    · exact ok12 _ _ _ _ _ h1 h2 h3
  · exact ok12 _ _ _ _ _ h1 h2 h3

/-- laws.sameFloat -/
noncomputable def r20 (x0 x1 : Nat) : Bool :=
 cond (!feq .f64 x0 x0)
  ((!feq .f64 x1 x1))
  (cond (!feq .f64 x1 x1)
   (false)
   (cond (feq .f64 x0 0)
    (cond (feq .f64 x1 0)
     (((fgt .f64 (fdiv .f64 4607182418800017408 x0) 0) == (fgt .f64 (fdiv .f64 4607182418800017408 x1) 0)))
     ((feq .f64 x0 x1)))
    ((feq .f64 x0 x1))))
noncomputable def a20 (x0 x1 : Nat) (p : Bool) : Res := firstT [(true, .bool p, st0)]
noncomputable def t20 (x0 x1 : Nat) : Res :=
 (cond (!feq .f64 x0 x0)
 (some (.bool (!feq .f64 x1 x1), st0))
 (cond (!feq .f64 x1 x1)
  (some (.bool false, st0))
  (cond (feq .f64 x0 0)
   (cond (feq .f64 x1 0)
    (some (.bool ((fgt .f64 (fdiv .f64 4607182418800017408 x0) 0) == (fgt .f64 (fdiv .f64 4607182418800017408 x1) 0)), st0))
    (some (.bool (feq .f64 x0 x1), st0)))
   (some (.bool (feq .f64 x0 x1), st0)))))
noncomputable def w20 (x0 x1 : Nat) : Res :=
 (cond (!feq .f64 x0 x0)
 (cond (!feq .f64 x0 x0)
  (some (.bool (!feq .f64 x1 x1), st0))
  (some (.bool false, st0)))
 (cond (!feq .f64 x1 x1)
  (cond (!feq .f64 x0 x0)
   (some (.bool (!feq .f64 x1 x1), st0))
   (some (.bool false, st0)))
  (cond (feq .f64 x0 0)
   (cond (feq .f64 x1 0)
    (some (.bool ((fgt .f64 (fdiv .f64 4607182418800017408 x0) 0) == (fgt .f64 (fdiv .f64 4607182418800017408 x1) 0)), st0))
    (some (.bool (feq .f64 x0 x1), st0)))
   (some (.bool (feq .f64 x0 x1), st0)))))
set_option maxRecDepth 100000 in
set_option maxHeartbeats 4000000 in
theorem e20 (x0 x1 : Nat) : evFn Try.prog ext T13 noL 200 Try.f20 [.float .f64 x0, .float .f64 x1] st0 = firstT [(true, .bool (r20 x0 x1), st0)] :=
 (show evFn Try.prog ext T13 noL 200 Try.f20 [.float .f64 x0, .float .f64 x1] st0 = w20 x0 x1 from by kernel_rfl).trans
 ((show w20 x0 x1 = t20 x0 x1 from (cond_cong _ (fun h0 => (cond_t (ev_not1 (ev_nott h0)) rfl)) (fun h0 => (cond_cong _ (fun h1 => (cond_f (ev_not0 (ev_notf h0)) rfl)) (fun h1 => rfl))))).trans
 (show t20 x0 x1 = a20 x0 x1 (r20 x0 x1) from (cond_app (a20 x0 x1) _ rfl (cond_app (a20 x0 x1) _ rfl (cond_app (a20 x0 x1) _ (cond_app (a20 x0 x1) _ rfl rfl) rfl)))))
noncomputable def s20 (args : List Value) (s : St) : List (Bool × Value × St) :=
 match args, s.h with
 | [.float .f64 x0, .float .f64 x1], [] => [(true, .bool (r20 x0 x1), st0)]
 | _, _ => T13 20 args s
noncomputable def T14 : CallF := addF T13 20 s20
set_option maxRecDepth 100000 in
set_option maxHeartbeats 4000000 in
theorem ok14 : CfOk Try.prog T14 := by
  refine cfOk_add ok13 fun args s r s' h1 h2 h3 => ?_
  unfold s20 at h3; split at h3
  · rename_i h; exact callOk ok13 Try.func20 h1 h2 h (lfOkF_no _ _).body (e20 _ _) rfl h3
  · exact ok13 _ _ _ _ _ h1 h2 h3
end Go.Proofs.Ytfclciebpnnieaa
