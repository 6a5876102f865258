/- Operations on values: what the evaluator says of them holds of the model's. -/
import Derived.Test.YtmknfenjnladeaaA5
import Derived.Laws.Small
import Derived.Laws.Cover1
import Derived.Laws.Unary
import Derived.Laws.StructEq
namespace Go.Ab
open Go.RowKit (Below)

def W2 (w w' : World) : Prop := w' = w ∨ w' = w.drew
def SemV (P : Program) (m : Sem Value) (w : World) (R : Value → World → Prop) : Prop := ∃ v' w',m.run P w = .ok v' w' ∧ R v' w'

theorem SemV.pure {P : Program} {m : Sem Value} {w : World} {ι : Nat → Info} {D : Nat → Prop} {v v' : Value} (h : m = Pure.pure v') (hv : VRel ι D v v') : SemV P m w (fun v' w' => VRel ι D v v' ∧ W2 w w') :=
  ⟨v',w,by rw [h]; rfl,hv,.inl rfl⟩
theorem SemV.run {P : Program} {m : Sem Value} {w : World} {ι : Nat → Info} {D : Nat → Prop} {v v' : Value} (h : m.run P w = .ok v' w) (hv : VRel ι D v v') : SemV P m w (fun v' w' => VRel ι D v v' ∧ W2 w w') :=
  ⟨v',w,h,hv,.inl rfl⟩

theorem shift_pure (op : BinOp) (k yk : IntKind) (a b : Int) (hb : 0 ≤ b) (ho : op = .shl ∨ op = .shr) :
    Op.shift op k a yk b = Pure.pure (.int k (if op = .shl then k.wrap (a * 2 ^ (min b.toNat k.bits)) else a.fdiv (2 ^ (min b.toNat k.bits)))) := by
  unfold Op.shift
  rw [if_neg (by omega)]
  rcases ho with rfl | rfl <;> rfl

theorem int_sound {P : Program} {ι : Nat → Info} {D : Nat → Prop} {op : BinOp} {t : TypeId} {k : IntKind} {a b : Int} {v : Value} {ox oy : Operand} (w : World) (h : firstT (evInt op k a b) = some v) :
    SemV P (do eqGuard op t ox oy (.int k a) (.int k b); binOp op t (.int k a) (.int k b)) w (fun v' w' => VRel ι D v v' ∧ W2 w w') := by
  cases op <;> simp only [evInt] at h <;> (try (cases h; done)) <;> obtain ⟨hc,rfl⟩ := firstT_one h
  case quo =>
    have hb : b ≠ 0 := by simpa using hc
    exact SemV.pure (by simp [binOp,Op.intDiv,hb,eqGuard_quo]) rfl
  case rem =>
    have hb : b ≠ 0 := by simpa using hc
    exact SemV.pure (by simp [binOp,Op.intDiv,hb,eqGuard_rem]) rfl
  all_goals
    refine SemV.run (v' := _) ?_ rfl
    simp only [eqGuard_at_int,Sem.run_bind,binOp_add,binOp_sub,binOp_mul,binOp_and,binOp_or,binOp_xor,binOp_andNot,binOp_eql,binOp_neq,binOp_lss,binOp_leq,binOp_gtr,binOp_geq]
    rfl

theorem float_sound {P : Program} {ι : Nat → Info} {D : Nat → Prop} {op : BinOp} {t : TypeId} {k : FloatKind} {a b a' b' : Nat} {v : Value} {ox oy : Operand} (w : World)
    (ha : canon k a' = canon k a) (hb : canon k b' = canon k b) (h : firstT (evFloat op k a b) = some v) :
    SemV P (do eqGuard op t ox oy (.float k a') (.float k b'); binOp op t (.float k a') (.float k b')) w (fun v' w' => VRel ι D v v' ∧ W2 w w') := by
  have ho := order_class ha hb
  have arith : ∀ (f : Nat → Nat → Option Nat) (hn : ∀ x y,isN k x = true ∨ isN k y = true → f x y = none)
      (hop : ∀ x y,Op.floatArith op k x y = (match f x y with | some r => Pure.pure (.float k r) | none => (do Pure.pure (.float k (← choose (.nanBits k x y))) : Sem Value)))
      (hbin : binOp op t (.float k a') (.float k b') = Op.floatArith op k a' b'),
      SemV P (do eqGuard op t ox oy (.float k a') (.float k b'); binOp op t (.float k a') (.float k b')) w (fun v' w' => VRel ι D (.float k ((f a b).getD (qnan k))) v' ∧ W2 w w') := by
    intro f hn hop hbin
    obtain ⟨r',w',h1,h2,h3⟩ := arith_run (P := P) f hn hop ha hb w
    refine ⟨_,w',?_,⟨r',rfl,h2⟩,h3⟩
    rw [eqGuard_at_float,hbin]
    exact h1
  cases op <;> simp only [evFloat] at h <;> (try (cases h; done)) <;> obtain ⟨hc,rfl⟩ := firstT_one h
  case add => exact arith (fun x y => k.format.add x y) (fun _ _ hh => add_nan hh) (fun x y => by simp only [Op.floatArith,pure_bind]; cases k.format.add x y <;> rfl) (by simp [binOp])
  case sub => exact arith (fun x y => k.format.sub x y) (fun _ _ hh => sub_nan hh) (fun x y => by simp only [Op.floatArith,pure_bind]; cases k.format.sub x y <;> rfl) (by simp [binOp])
  case mul => exact arith (fun x y => k.format.mul x y) (fun _ _ hh => mul_nan hh) (fun x y => by simp only [Op.floatArith,pure_bind]; cases k.format.mul x y <;> rfl) (by simp [binOp])
  case quo => exact arith (fun x y => k.format.div x y) (fun _ _ hh => div_nan hh) (fun x y => by simp only [Op.floatArith,pure_bind]; cases k.format.div x y <;> rfl) (by simp [binOp])
  all_goals
    refine SemV.run (v' := _) ?_ rfl
    simp only [eqGuard_at_float,Sem.run_bind,binOp_float_cmp_eql,binOp_float_cmp_neq,binOp_float_cmp_lss,binOp_float_cmp_leq,binOp_float_cmp_gtr,binOp_float_cmp_geq,ho]
    rfl

theorem str_sound {P : Program} {ι : Nat → Info} {D : Nat → Prop} {op : BinOp} {t : TypeId} {a b : ByteArray} {v : Value} {ox oy : Operand} (w : World) (h : firstT (evStr op a b) = some v) :
    SemV P (do eqGuard op t ox oy (.string a) (.string b); binOp op t (.string a) (.string b)) w (fun v' w' => VRel ι D v v' ∧ W2 w w') := by
  have e : IntKind.i64.max = ((9223372036854775807 : Nat) : Int) := by decide +kernel
  cases op <;> simp only [evStr] at h <;> (try (cases h; done)) <;> obtain ⟨hc,rfl⟩ := firstT_one h
  case add =>
    have hb : a.size + b.size ≤ 9223372036854775807 := of_decide_eq_true hc
    refine SemV.run (v' := _) ?_ rfl
    simp only [eqGuard_at_string,Sem.run_bind]
    show Sem.run P (binOp .add t (.string a) (.string b)) w = _
    unfold binOp Op.stringOp
    simp only
    rw [e,if_neg (by omega)]
    rfl
  all_goals
    refine SemV.run (v' := _) ?_ rfl
    simp only [eqGuard_at_string,Sem.run_bind]
    rfl

theorem andNot_top (n : Nat) (b : Nat) : (BitVec.ofInt (n + 1) (b : Int) &&& ~~~ BitVec.ofInt (n + 1) ((2 ^ n : Nat) : Int)).toNat % 2 ^ n = b % 2 ^ n := by
  apply Nat.eq_of_testBit_eq
  intro i
  simp only [Nat.testBit_mod_two_pow,BitVec.toNat_and,Nat.testBit_and,BitVec.toNat_not,BitVec.ofInt_natCast,BitVec.toNat_ofNat]
  by_cases hi : i < n
  · have h2 : (2 ^ (n + 1) - 1 - 2 ^ n % 2 ^ (n + 1)).testBit i = true := by
      have : 2 ^ n % 2 ^ (n + 1) = 2 ^ n := Nat.mod_eq_of_lt (Nat.pow_lt_pow_right (by decide) (Nat.lt_succ_self n))
      rw [this]
      have e : 2 ^ (n + 1) - 1 - 2 ^ n = 2 ^ n - 1 := by rw [Nat.pow_succ]; omega
      rw [e,Nat.testBit_two_pow_sub_one]
      simpa using hi
    have h3 : i < n + 1 := by omega
    simp [hi,h2,h3]
  · simp [hi]

theorem wrap_u_mod (k : IntKind) (n : Nat) (hk : k = .u32 ∧ n = 31 ∨ k = .u64 ∧ n = 63) (x : Nat) (hx : x < 2 ^ (n + 1)) : k.wrap (x : Int) = (x : Int) := by
  rcases hk with ⟨rfl,rfl⟩ | ⟨rfl,rfl⟩
  · have e : IntKind.u32.bits = 32 := rfl
    unfold IntKind.wrap
    have hs : IntKind.u32.signed = false := rfl
    simp only [hs,Bool.false_and,Bool.false_eq_true,if_false,e]
    have hx' : x < 4294967296 := hx
    omega
  · have e : IntKind.u64.bits = 64 := rfl
    unfold IntKind.wrap
    have hs : IntKind.u64.signed = false := rfl
    simp only [hs,Bool.false_and,Bool.false_eq_true,if_false,e]
    have hx' : x < 18446744073709551616 := hx
    omega

theorem nan_andNot {P : Program} {ι : Nat → Info} {D : Nat → Prop} {t : TypeId} {ox oy : Operand} (k : FloatKind) (n : Nat) (hk : k = .f32 ∧ n = 31 ∨ k = .f64 ∧ n = 63) (b : Nat) (hb : isN k b = true) (w : World) :
    SemV P (do eqGuard .andNot t ox oy (.int (nanKind k) b) (.int (nanKind k) ((2 ^ n : Nat) : Int)); binOp .andNot t (.int (nanKind k) b) (.int (nanKind k) ((2 ^ n : Nat) : Int))) w (fun v' w' => VRel ι D (nanBits k) v' ∧ W2 w w') := by
  have hn : n = k.format.exponentBits + k.format.fractionBits := by rcases hk with ⟨rfl,rfl⟩ | ⟨rfl,rfl⟩ <;> rfl
  have key : ∀ r : Nat,r % 2 ^ n = b % 2 ^ n → bits .andNot (nanKind k) (b : Int) ((2 ^ n : Nat) : Int) = (r : Int) → SemV P (do eqGuard .andNot t ox oy (.int (nanKind k) b) (.int (nanKind k) ((2 ^ n : Nat) : Int)); binOp .andNot t (.int (nanKind k) b) (.int (nanKind k) ((2 ^ n : Nat) : Int))) w (fun v' w' => VRel ι D (nanBits k) v' ∧ W2 w w') := by
    intro r h1 e
    have hr : isN k r = true := by
      rw [← hb]
      refine isNaN_read_congr _ ?_
      show r % 2 ^ (k.format.exponentBits + k.format.fractionBits) = b % 2 ^ (k.format.exponentBits + k.format.fractionBits)
      rw [← hn]
      exact h1
    refine ⟨.int (nanKind k) r,w,?_,⟨rfl,fun _ => ⟨r,rfl,hr⟩⟩,.inl rfl⟩
    simp only [eqGuard_at_int,Sem.run_bind,binOp_andNot,intBits_andNot]
    show Sem.run P (Pure.pure (Value.int (nanKind k) (bits .andNot (nanKind k) b ((2 ^ n : Nat) : Int)))) w = _
    rw [e]; rfl
  rcases hk with ⟨rfl,rfl⟩ | ⟨rfl,rfl⟩
  · exact key _ (andNot_top 31 b) (wrap_u_mod .u32 31 (.inl ⟨rfl,rfl⟩) _ (BitVec.isLt _))
  · exact key _ (andNot_top 63 b) (wrap_u_mod .u64 63 (.inr ⟨rfl,rfl⟩) _ (BitVec.isLt _))

theorem fl32_run {P : Program} {t : TypeId} (h : fl32 P t = true) {cs : List Value} {off : Nat} {v : Value} (hv : cs[off]? = some v) (w : World) : (part t cs.toArray off).run P w = .ok v w := by
  unfold fl32 at h
  split at h
  · rename_i hu
    unfold part isAgg
    simp only [Sem.run_bind,run_underlying hu,Result.andThen_ok]
    simp [hv]
  · cases h
theorem equalIn_f32 {P : Program} {t : TypeId} (h : fl32 P t = true) (d a b : Nat) (w : World) : (Op.equalIn (d + 1) t (.float .f32 a) (.float .f32 b)).run P w = .ok (feq .f32 a b) w := by
  unfold fl32 at h
  split at h
  · rename_i hu
    unfold Op.equalIn
    simp only [Sem.run_bind,run_underlying hu,Result.andThen_ok]
    rfl
  · cases h
theorem drop_cons {l : List Value} {i : Nat} {a : Value} {r : List Value} (h : l.drop i = a :: r) : l[i]? = some a ∧ l.drop (i + 1) = r := by
  constructor
  · have := congrArg (fun x : List Value => x[0]?) h
    simpa using this
  · have := congrArg (fun x : List Value => x.drop 1) h
    simpa [List.drop_drop] using this
theorem eqFields_run {P : Program} {ι : Nat → Info} {D : Nat → Prop} {w : World} {d : Nat} {cx cy : List Value} : ∀ (fs : List Field) (i : Nat) (xs ys xs' ys' : List Value) (r : Bool),fFields P fs i = true → fs.length = xs.length → eqCells xs ys = some r →
    L2 (CRel ι D) xs xs' → L2 (CRel ι D) ys ys' → cx.drop i = xs' → cy.drop i = ys' → (Op.eqFields (d + 1) cx.toArray cy.toArray fs).run P w = .ok r w
  | [],i,xs,ys,xs',ys',r,_,hl,he,_,_,_,_ => by
    have : xs = [] := List.eq_nil_of_length_eq_zero hl.symm
    subst this
    cases ys with
    | nil => cases he; rfl
    | cons => cases he
  | f :: fs,i,xs,ys,xs',ys',r,hf,hl,he,hx,hy,ex,ey => by
    cases xs with
    | nil => cases hl
    | cons x xs =>
    unfold fFields at hf
    cases h1 : f.name != "_" with
    | false => rw [h1] at hf; cases hf
    | true =>
    cases h2 : fl32 P f.type with
    | false => rw [h1,h2] at hf; cases hf
    | true =>
    cases h3 : Nat.beq f.offset i with
    | false => rw [h1,h2,h3] at hf; cases hf
    | true =>
    rw [h1,h2,h3] at hf
    have h3' := Nat.eq_of_beq_eq_true h3
    unfold eqCells at he
    split at he
    · rename_i q; cases q
    · rename_i a xs2 b ys2 e1
      split at he
      · rename_i r2 hr
        cases he
        cases e1
        cases xs' with
        | nil => exact hx.elim
        | cons x' xs' =>
        cases ys' with
        | nil => exact hy.elim
        | cons y' ys' =>
        obtain ⟨⟨a',rfl,ha⟩,hx⟩ := hx
        obtain ⟨⟨b',rfl,hb⟩,hy⟩ := hy
        obtain ⟨gx,ex⟩ := drop_cons ex
        obtain ⟨gy,ey⟩ := drop_cons ey
        have ih := eqFields_run (P := P) (w := w) (d := d) fs (i + 1) xs ys2 xs' ys' r2 hf (by simpa using hl) hr hx hy ex ey
        have ho : feq .f32 a' b' = feq .f32 a b := by unfold feq; rw [order_class ha hb]
        unfold Op.eqFields
        rw [if_pos (by simpa using h1)]
        simp only [Sem.run_bind,h3',fl32_run h2 gx,fl32_run h2 gy,Result.andThen_ok,equalIn_f32 h2,ho]
        cases feq .f32 a b with
        | false => rfl
        | true => simpa using ih
      · cases he
    · cases he
theorem agg_sound {P : Program} {ι : Nat → Info} {D : Nat → Prop} {op : BinOp} {t : TypeId} {xs ys xs' ys' : Array Value} {v : Value} {ox oy : Operand} (w : World)
    (hx : L2 (CRel ι D) xs.toList xs'.toList) (hy : L2 (CRel ι D) ys.toList ys'.toList) (h : firstT (evAgg P op t xs.toList ys.toList) = some v) :
    SemV P (do eqGuard op t ox oy (.agg xs') (.agg ys'); binOp op t (.agg xs') (.agg ys')) w (fun v' w' => VRel ι D v v' ∧ W2 w w') := by
  unfold evAgg at h
  have key : ∀ {fs : Array Field} {r : Bool} {u : Value},P.underlying t = some (.struct fs) → eqCells xs.toList ys.toList = some r →
      firstT (cond (fFields P fs.toList 0) (cond (Nat.beq fs.size xs.toList.length) (cond (P.stoodInHeld t) [] (cond (P.eqGuardType P.depth t) [] [(true,u)])) []) []) = some v →
      u = v ∧ P.eqGuardType P.depth t = false ∧ (Op.equalIn 10000 t (.agg xs') (.agg ys')).run P w = .ok r w := by
    intro fs r u hu he h
    cases h1 : fFields P fs.toList 0 with
    | false => rw [h1] at h; cases h
    | true =>
    cases h2 : Nat.beq fs.size xs.toList.length with
    | false => rw [h1,h2] at h; cases h
    | true =>
    cases h3 : P.stoodInHeld t with
    | true => rw [h1,h2,h3] at h; cases h
    | false =>
    cases h4 : P.eqGuardType P.depth t with
    | true => rw [h1,h2,h3,h4] at h; cases h
    | false =>
    rw [h1,h2,h3,h4] at h
    obtain ⟨_,rfl⟩ := firstT_one h
    have hf : P.fieldsOf t = fs := by unfold Program.fieldsOf; rw [hu]
    refine ⟨rfl,rfl,?_⟩
    rw [run_equalIn_struct w 9999 t xs' ys' (by rw [hf]; exact hu) h3,hf]
    have e := eqFields_run (P := P) (w := w) (d := 9998) (cx := xs'.toList) (cy := ys'.toList) fs.toList 0 xs.toList ys.toList _ _ r h1 (by have := Nat.eq_of_beq_eq_true h2; simpa using this) he hx hy rfl rfl
    exact e
  split at h
  · rename_i hu he
    obtain ⟨rfl,h4,h5⟩ := key hu he h
    refine SemV.run (v' := _) ?_ rfl
    simp only [Sem.run_bind,run_eqGuard_agg w _ t ox oy xs' ys' h4,Result.andThen_ok,run_eql_struct,h5]
  · rename_i hu he
    obtain ⟨rfl,h4,h5⟩ := key hu he h
    refine SemV.run (v' := _) ?_ rfl
    simp only [Sem.run_bind,run_eqGuard_agg w _ t ox oy xs' ys' h4,Result.andThen_ok,run_neq_struct,h5]
  · cases h

theorem bin_sound {P : Program} {ι : Nat → Info} {D : Nat → Prop} {op : BinOp} {t : TypeId} {x y x' y' v : Value} {ox oy : Operand} (w : World)
    (hx : VRel ι D x x') (hy : VRel ι D y y') (h : firstT (evBin P op t x y) = some v) :
    SemV P (do eqGuard op t ox oy x' y'; binOp op t x' y') w (fun v' w' => VRel ι D v v' ∧ W2 w w') := by
  unfold evBin at h
  split at h
  · rename_i k a k' b
    obtain rfl : x' = _ := hx
    obtain rfl : y' = _ := hy
    split at h
    · obtain ⟨hc,rfl⟩ := firstT_one h
      refine SemV.pure (v' := _) ?_ rfl
      rw [eqGuard_at_int,binOp_shl,shift_pure .shl k k' a b (of_decide_eq_true hc) (.inl rfl)]
      rfl
    · obtain ⟨hc,rfl⟩ := firstT_one h
      refine SemV.pure (v' := _) ?_ rfl
      rw [eqGuard_at_int,binOp_shr,shift_pure .shr k k' a b (of_decide_eq_true hc) (.inr rfl)]
      rfl
    · split at h
      · rename_i e; subst e; exact int_sound w h
      · cases h
  · rename_i k a k' b
    obtain ⟨a',rfl,ha⟩ := hx
    obtain ⟨b',rfl,hb⟩ := hy
    split at h
    · rename_i e; subst e; exact float_sound w ha hb h
    · cases h
  · obtain rfl : x' = _ := hx
    obtain rfl : y' = _ := hy
    exact str_sound w h
  · rename_i k n re k2 c
    unfold evNan at h
    split at h
    · rename_i hc
      obtain ⟨rfl,rfl,rfl,rfl⟩ := hc
      obtain ⟨_,hx2⟩ := hx
      obtain ⟨b,rfl,hb⟩ := hx2 rfl
      obtain rfl : y' = _ := hy
      obtain ⟨_,rfl⟩ := firstT_one h
      cases k with
      | f32 => exact nan_andNot .f32 31 (.inl ⟨rfl,rfl⟩) b hb w
      | f64 => exact nan_andNot .f64 63 (.inr ⟨rfl,rfl⟩) b hb w
    · have ne : ∀ {b : Nat},isN k b = true → (decide (0 ≤ c) && !isN k c.toNat) = true → (b : Int) ≠ c := by
        intro b h1 h2 e
        subst e
        simp [h1] at h2
      split at h
      · rename_i hc
        obtain ⟨rfl,rfl,rfl⟩ := hc
        obtain ⟨_,hx2⟩ := hx
        obtain ⟨b,rfl,hb⟩ := hx2 rfl
        obtain rfl : y' = _ := hy
        obtain ⟨hc,rfl⟩ := firstT_one h
        have := int_sound (P := P) (ι := ι) (D := D) (op := .eql) (t := t) (ox := ox) (oy := oy) (k := nanKind k) (a := (b : Int)) (b := c) (v := .bool ((b : Int) == c)) w rfl
        rw [beq_eq_false_iff_ne.2 (ne hb hc)] at this
        exact this
      · split at h
        · rename_i hc
          obtain ⟨rfl,rfl,rfl⟩ := hc
          obtain ⟨_,hx2⟩ := hx
          obtain ⟨b,rfl,hb⟩ := hx2 rfl
          obtain rfl : y' = _ := hy
          obtain ⟨hc,rfl⟩ := firstT_one h
          have := int_sound (P := P) (ι := ι) (D := D) (op := .neq) (t := t) (ox := ox) (oy := oy) (k := nanKind k) (a := (b : Int)) (b := c) (v := .bool ((b : Int) != c)) w rfl
          rw [bne_iff_ne.2 (ne hb hc)] at this
          exact this
        · cases h
  · rename_i a b
    obtain rfl : x' = _ := hx
    obtain rfl : y' = _ := hy
    split at h
    · rename_i hu
      obtain ⟨hc,rfl⟩ := firstT_one h
      refine SemV.run (v' := _) ?_ rfl
      simp only [eqGuard_at_bool,Sem.run_bind]
      exact run_eql_bool w t a b hu
    · rename_i hu
      obtain ⟨hc,rfl⟩ := firstT_one h
      refine SemV.run (v' := _) ?_ rfl
      simp only [eqGuard_at_bool,Sem.run_bind]
      exact run_neq_bool w t a b hu
    · cases h
  · rename_i xs ys
    obtain ⟨xs',rfl,hx⟩ := hx
    obtain ⟨ys',rfl,hy⟩ := hy
    exact agg_sound w hx hy h
  · cases h

theorem nil_eq {P : Program} {t : TypeId} {ms : Array (String × TypeId)} (hu : P.underlying t = some (.interface ms)) (w : World) {x' : Value} {b : Bool} (h : (b = true ∧ x' = .nilIface) ∨ (b = false ∧ ∃ t z,x' = .iface t z)) :
    (Op.equal t x' .nilIface).run P w = .ok b w := by
  have hd : ∀ d : Nat,(Op.equalIn (d + 1) t x' .nilIface).run P w = .ok b w := by
    intro d
    rcases h with ⟨rfl,rfl⟩ | ⟨rfl,t',z,rfl⟩
    · simp [Op.equalIn,run_underlying hu]
    · simp [Op.equalIn,run_underlying hu]
  exact hd (Op.maxDepth - 1)
theorem nil_sound {P : Program} {ι : Nat → Info} {D : Nat → Prop} {op : BinOp} {t : TypeId} {x x' v : Value} {ox : Operand} (w : World)
    (hx : VRel ι D x x') (h : firstT (evNil P op t x) = some v) :
    SemV P (do eqGuard op t ox (.const .nilIface) x' .nilIface; binOp op t x' .nilIface) w (fun v' w' => VRel ι D v v' ∧ W2 w w') := by
  have hg : ∀ {b : Bool},((b = true ∧ x' = .nilIface) ∨ (b = false ∧ ∃ t z,x' = .iface t z)) → (eqGuard op t ox (.const .nilIface) x' .nilIface = pure ()) := by
    rintro b (⟨_,rfl⟩ | ⟨_,t',z,rfl⟩)
    · exact eqGuard_nil_constR ..
    · exact eqGuard_at_iface ..
  unfold evNil at h
  split at h
  · rename_i ms q b hu
    obtain ⟨_,rfl⟩ := firstT_one h
    refine SemV.run (v' := _) ?_ rfl
    rw [hg hx]
    rcases hx with ⟨rfl,rfl⟩ | ⟨rfl,t',z,rfl⟩
    · simp [binOp,nil_eq hu w (.inl ⟨rfl,rfl⟩)]
    · simp [binOp,nil_eq hu w (.inr ⟨rfl,t',z,rfl⟩)]
  · rename_i ms q b hu
    obtain ⟨_,rfl⟩ := firstT_one h
    refine SemV.run (v' := _) ?_ rfl
    rw [hg hx]
    rcases hx with ⟨rfl,rfl⟩ | ⟨rfl,t',z,rfl⟩
    · simp [binOp,nil_eq hu w (.inl ⟨rfl,rfl⟩)]
    · simp [binOp,nil_eq hu w (.inr ⟨rfl,t',z,rfl⟩)]
  · cases h

theorem un_sound {P : Program} {ι : Nat → Info} {D : Nat → Prop} {op : UnOp} {x x' v : Value} (w : World) (hx : VRel ι D x x') (h : firstT (evUn op x) = some v) :
    SemV P (Op.unary op x') w (fun v' w' => VRel ι D v v' ∧ W2 w w') := by
  unfold evUn at h
  split at h
  · obtain rfl : x' = _ := hx
    obtain ⟨hc,rfl⟩ := firstT_one h
    exact SemV.pure rfl rfl
  · rename_i k b
    obtain ⟨b',rfl,hb⟩ := hx
    obtain ⟨hc,rfl⟩ := firstT_one h
    exact SemV.pure rfl ⟨_,rfl,neg_class hb⟩
  · obtain rfl : x' = _ := hx
    obtain ⟨hc,rfl⟩ := firstT_one h
    exact SemV.pure rfl rfl
  · cases h

theorem trunc_run {P : Program} {k : FloatKind} {b b' : Nat} {d : IntKind} (hb : canon k b' = canon k b) (ok : truncOk k b d = true) (w : World) :
    (Conv.floatToInt k b' d).run P w = .ok (.int d (truncI k b)) w := by
  have hn : isN k b = false := by
    cases e : isN k b with
    | false => rfl
    | true =>
      obtain ⟨s,f,e'⟩ := decode_isN e
      unfold truncOk at ok
      rw [e'] at ok
      cases ok
  have eb := eq_of_canon hb.symm hn
  subst eb
  unfold truncOk at ok
  unfold Conv.floatToInt truncI
  cases h : (k.decode b).toInt .zero with
  | none => rw [h] at ok; cases ok
  | some n =>
    rw [h] at ok
    simp only [Bool.and_eq_true,decide_eq_true_eq] at ok
    simp only [if_pos ok,Option.getD_some]
    rfl

theorem conv_sound {P : Program} {ι : Nat → Info} {D : Nat → Prop} {src dst : TypeId} {x x' v : Value} (w : World) (hx : VRel ι D x x') (h : firstT (evConv P src dst x) = some v) :
    SemV P (convert src dst x') w (fun v' w' => VRel ι D v v' ∧ W2 w w') := by
  unfold evConv at h
  split at h
  · rename_i u hs hd
    obtain rfl : x' = _ := hx
    obtain ⟨hc,rfl⟩ := firstT_one h
    refine SemV.run (v' := _) ?_ rfl
    cases u <;> simp only [convert,Sem.run_bind,run_underlying hs,run_underlying hd,Result.andThen_ok] <;> rfl
  · rename_i u hs hd
    obtain rfl : x' = _ := hx
    obtain ⟨hc,rfl⟩ := firstT_one h
    refine SemV.run (v' := .float _ (ofInt _ _)) ?_ ⟨_,rfl,rfl⟩
    cases u <;> simp only [convert,Sem.run_bind,run_underlying hs,run_underlying hd,Result.andThen_ok] <;> rfl
  · rename_i u k s b hs hd
    obtain ⟨b',rfl,hb⟩ := hx
    obtain ⟨hc,rfl⟩ := firstT_one h
    refine SemV.run (v' := _) ?_ rfl
    have := trunc_run (P := P) hb hc w
    cases u <;> simp only [convert,Sem.run_bind,run_underlying hs,run_underlying hd,Result.andThen_ok] <;> exact this
  · rename_i u b hs hd
    obtain ⟨b',rfl,hb⟩ := hx
    obtain ⟨hc,rfl⟩ := firstT_one h
    refine SemV.run (v' := .float .f32 b') ?_ ⟨b',rfl,hb⟩
    cases u <;> simp only [convert,Sem.run_bind,run_underlying hs,run_underlying hd,Result.andThen_ok] <;> rfl
  · rename_i u b hs hd
    obtain ⟨b',rfl,hb⟩ := hx
    obtain ⟨hc,rfl⟩ := firstT_one h
    refine SemV.run (v' := .float .f64 b') ?_ ⟨b',rfl,hb⟩
    cases u <;> simp only [convert,Sem.run_bind,run_underlying hs,run_underlying hd,Result.andThen_ok] <;> rfl
  · rename_i u b hs hd
    obtain ⟨b',rfl,hb⟩ := hx
    obtain ⟨hc,rfl⟩ := firstT_one h
    obtain ⟨r',w',h1,h2,h3⟩ := widen_run (P := P) hb w
    refine ⟨_,w',?_,⟨r',rfl,h2⟩,h3⟩
    cases u <;> simp only [convert,Sem.run_bind,run_underlying hs,run_underlying hd,Result.andThen_ok] <;> exact h1
  · rename_i u b hs hd
    obtain ⟨b',rfl,hb⟩ := hx
    obtain ⟨hc,rfl⟩ := firstT_one h
    obtain ⟨r',w',h1,h2,h3⟩ := narrow_run (P := P) hb hc w
    refine ⟨_,w',?_,⟨r',rfl,h2⟩,h3⟩
    cases u <;> simp only [convert,Sem.run_bind,run_underlying hs,run_underlying hd,Result.andThen_ok] <;> exact h1
  · cases h

end Go.Ab
