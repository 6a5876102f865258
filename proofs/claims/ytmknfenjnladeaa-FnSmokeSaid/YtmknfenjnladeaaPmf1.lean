/- How great flows are, and how hot the smoke is that comes in. -/
import Derived.Test.YtmknfenjnladeaaPmd1
import Derived.Test.YtmknfenjnladeaaPsn1
import Derived.Test.YtmknfenjnladeaaSm16
namespace Go.Proofs.Ytmknfenjnladeaa
open Go.Ab Ieee
set_option maxRecDepth 100000

theorem c65536 : sv 1199570944 = 2 ^ 165 := by decide +kernel
theorem r158 : rval F32 1140850688 = 2 ^ 158 := by decide +kernel
theorem r74 : rval F32 436207616 = 2 ^ 74 := by decide +kernel
structure FlB (v : Nat) : Prop where
  f : Fi v
  l : v < 4294967296
  hi : sv v ≤ 2 ^ 158
  lo : -(2 ^ 158) ≤ sv v
  far : 0 < sv v → 2 ^ 70 ≤ sv v
section
variable {H W T D o p : Nat} (hf : FlueOk H W T D) (h3 : Nn o) (h0 : o < 4294967296) (h1 : sv 3262119936 ≤ sv o) (h2 : sv o ≤ sv 1114636288) (e : Int) (hp : PuOk p)
include hf h3 h0 h1 h2 hp
theorem x_bd : sv (fdiv .f32 (fadd .f32 (r159 H W T D e o) p) (r160 H W T D e)) ≤ 2 ^ 165 ∧ -(2 ^ 165) ≤ sv (fdiv .f32 (fadd .f32 (r159 H W T D e o) p) (r160 H W T D e)) := by
  have f := cFM
  obtain ⟨d1,d2,d3⟩ := drf_ok hf h3 h0 h1 h2 e
  obtain ⟨q1,q2⟩ := res_ok hf e
  have p1 := hp.lo
  have p2 := hp.hi
  have s1 := add_fr d1 hp.f (by omega) (by omega)
  have s2 := Fr_ub s1 (by decide) c4096 (by omega)
  have s3 := Fr_lbn s1 (by decide) c4096 (by omega)
  generalize fadd .f32 (r159 H W T D e o) p = y at *
  generalize r160 H W T D e = q at *
  by_cases hq : q = 2139095040
  · subst hq
    obtain ⟨s,m,i,e1,i1,v1⟩ := read_sv s1.fi
    have e2 : F32.read 2139095040 = .infinity false := by decide +kernel
    unfold fdiv Format.div
    rw [e1,e2]
    simp only [Datum.quotient,Option.map_some,Option.getD_some]
    have z0 : sv (F32.write (.number false 0 0)) = 0 := by decide +kernel
    have z1 : sv (F32.write (.number true 0 0)) = 0 := by decide +kernel
    cases s <;> (first | (constructor <;> decide +kernel))
  · have hql : 2 ^ 145 ≤ sv q := by
      rw [← c16th,sv_pos (by decide),sv_pos (by omega)]
      exact Int.ofNat_le.2 (rv_le q1)
    have big := Int.mul_le_mul (a := 2 ^ 200) (b := 2 ^ 145) (c := FM) (d := sv q) f hql (by decide) (by omega)
    have big2 : 4096 * 2 ^ 149 * 2 ^ 149 ≤ FM * sv q := Int.le_trans (by decide) big
    have fr := div_fr s1.fi (by unfold Fi; omega) (show 0 < sv q by omega) (Int.le_trans (Int.mul_le_mul_of_nonneg_right s2 (by decide)) big2) (by omega)
    have hqt : (((sv q).toNat : Nat) : Int) = sv q := Int.toNat_of_nonneg (by omega)
    exact ⟨Fr_ub fr (by decide) c65536 (by rw [hqt]; omega),Fr_lbn fr (by decide) c65536 (by rw [hqt]; omega)⟩
end
theorem root_bd {a : Nat} (h : a < 2139095040) (hb : rval F32 a ≤ 2 ^ 165) : ∃ q,r161 a = (0,q) ∧ q < 2139095040 ∧ rval F32 q ≤ 2 ^ 158 ∧ (0 < rval F32 q → 2 ^ 70 ≤ rval F32 q) := by
  unfold r161 r165
  obtain ⟨q,q1,q2,q3,q4⟩ := root_fr h
  rw [q2,q3]
  refine ⟨q,rfl,q1,?_,fun g => ?_⟩
  · have := (q4 1140850688 (by decide)).1 (by rw [r158]; exact Nat.le_trans (Nat.mul_le_mul_right _ hb) (by decide))
    have := rv_le this
    rwa [r158] at this
  · have a0 : 1 ≤ rval F32 a := by
      refine Nat.pos_of_ne_zero fun z => ?_
      have := (q4 0 (by decide)).1 (by rw [z]; simp)
      have := rv_le this
      rw [show rval F32 0 = 0 from rval_zero F32] at this
      omega
    have := (q4 436207616 (by decide)).2 (by rw [r74]; exact Nat.le_trans (by decide) (Nat.mul_le_mul_right _ a0))
    have := rv_le this
    rw [r74] at this
    exact Nat.le_trans (by decide) this
theorem fi_of {H W T D : Nat} (h : FlueOk H W T D) : Fi T := nn_fi h.tn h.t0 (v := 1500 * 2 ^ 149) (by have := h.t1; rw [cm60] at this; omega) (by have := h.t2; rw [c1500] at this; omega) (by have := cFM; omega)
theorem flB0 : FlB 0 := ⟨by unfold Fi; decide,by decide,by rw [c0]; decide,by rw [c0]; decide,by rw [c0]; intro h; exact absurd h (by decide)⟩
theorem flBz : FlB 2147483648 := by
  have z : sv 2147483648 = 0 := by decide +kernel
  exact ⟨by unfold Fi; decide,by decide,by rw [z]; decide,by rw [z]; decide,by rw [z]; intro h; exact absurd h (by decide)⟩
theorem thr_bd {H W T D o p : Nat} (hf : FlueOk H W T D) (h3 : Nn o) (h0 : o < 4294967296) (h1 : sv 3262119936 ≤ sv o) (h2 : sv o ≤ sv 1114636288) (e : Int) (hp : PuOk p) : FlB (thr H W T D e o p) := by
  obtain ⟨x1,x2⟩ := x_ok hf h3 h0 h1 h2 e hp
  obtain ⟨b1,b2⟩ := x_bd hf h3 h0 h1 h2 e hp
  unfold thr r125
  generalize fdiv .f32 (fadd .f32 (r159 H W T D e o) p) (r160 H W T D e) = x at *
  cases feq .f32 D 0 with
  | true => exact flB0
  | false =>
    rw [flt_sv x1.nn (by unfold Nn; decide) x2 (by decide),c0]
    by_cases hx : sv x < 0
    · rw [decide_eq_true hx]
      have hx31 : 2147483648 ≤ x := Nat.le_of_not_lt fun g => by rw [sv_pos g] at hx; omega
      have sx := sv_neg hx31 x2
      obtain ⟨b,rfl⟩ : ∃ b,x = 2147483648 + b := ⟨x - 2147483648,by omega⟩
      unfold Fi at x1
      rw [neg_neg (by omega)]
      rw [show 2147483648 + b - 2147483648 = b by omega] at sx
      obtain ⟨q,e1,e2,e3,e4⟩ := root_bd (a := b) (by omega) (by omega)
      rw [e1]
      have fq : Fi q := by unfold Fi; omega
      have sq := sv_pos (a := q) (by omega)
      have sn := sv_fneg (a := q) (by omega)
      refine ⟨fq.neg (by omega),fneg_lt _ (by omega),?_,?_,fun g => ?_⟩
      · show sv (fneg .f32 q) ≤ _
        rw [sn,sq]; omega
      · show _ ≤ sv (fneg .f32 q)
        rw [sn,sq]; omega
      · have g' : 0 < sv (fneg .f32 q) := g
        rw [sn,sq] at g'; omega
    · rw [decide_eq_false hx]
      by_cases g : x < 2147483648
      · have sx := sv_pos g
        unfold Fi at x1
        obtain ⟨q,e1,e2,e3,e4⟩ := root_bd (a := x) (by omega) (by omega)
        rw [e1]
        have sq := sv_pos (a := q) (by omega)
        have fq : Fi q := by unfold Fi; omega
        have lq : q < 4294967296 := by omega
        refine ⟨fq,lq,?_,?_,fun g => ?_⟩
        · show sv q ≤ _
          rw [sq]; omega
        · show _ ≤ sv q
          rw [sq]; omega
        · have g' : 0 < sv q := g
          show _ ≤ sv q
          rw [sq] at g' ⊢
          have := e4 (by omega)
          omega
      · have hz := zero_word (by omega) x2 hx
        subst hz
        obtain ⟨q,e1,e2,e3,e4,_⟩ := root_ok (a := 2147483648) (.inr rfl)
        rw [e1]
        obtain rfl := e4 rfl
        exact flBz
section
variable {t : List (List Int)} {o w : Nat} (hc : ChOk t) (hw : WOk o w)
include hc hw
theorem fl_bd {i : Nat} (hi : i < t.length) : FlB (fl t o w i) := by
  obtain ⟨f1,f2,f3⟩ := w_fi hw
  unfold fl
  split
  · have a := at_ok t o w i
    exact thr_bd (hc.flue i hi) hw.on hw.o0 hw.o1 hw.o2 _ (pu_wind a.f a.lo a.hi f1 f2 f3)
  · have a := at_ok t o w (ic t i 4).toNat
    exact thr_bd (hc.flue i hi) hw.on hw.o0 hw.o1 hw.o2 _ (pu_neg a.f a.lo a.hi)
theorem hots_mn {L U B e : Int} (b : Mb L U B e) {i : Nat} (hh : ∀ q,q < t.length → ic t q 4 = (i : Int) → Fi (fc t q 2) ∧ L ≤ sv (fc t q 2) ∧ sv (fc t q 2) ≤ U) : Mn L U B e (brs t (i : Int)).length (hots t (flows t o w) i) := by
  have n6 := hc.n2
  have key : ∀ k j (p : Nat × Nat),j + k = (brs t (i : Int)).length → Mn L U B e j p → Mn L U B e (brs t (i : Int)).length (foldN (hotS t (flows t o w) (brs t (i : Int))) k j p) := by
    intro k
    induction k with
    | zero => intro j p hj h; rw [← hj]; exact h
    | succ k ih =>
      intro j p hj h
      refine ih (j + 1) _ (by omega) ?_
      obtain ⟨q,hq,e1,e2⟩ := brs_get (t := t) (k := (i : Int)) (j := j) (by omega)
      have hn := brs_len t (i : Int)
      unfold hotS
      rw [fc_of e1,flows_get hq]
      have fb := fl_bd hc hw hq
      rw [fgt_sv fb.f.nn (by unfold Nn; decide) fb.l (by decide),c0]
      by_cases g : 0 < sv (fl t o w q)
      · rw [decide_eq_true g]
        obtain ⟨t1,t2,t3⟩ := hh q hq e2
        exact Mn.step b (by omega) h fb.f fb.l (fb.far g) fb.hi t1 t2 t3
      · rw [decide_eq_false g]
        exact Mn.skip b h
  exact key _ 0 _ (by omega) Mn.start
theorem into_mid {L U B e : Int} (b : Mb L U B e) {S : List (List Int)} {i : Nat} (hi : i < t.length) (hS : Fi (fc S i 0) ∧ fc S i 0 < 4294967296 ∧ L ≤ sv (fc S i 0) ∧ sv (fc S i 0) ≤ U) (hT : L ≤ sv (fc t i 2) ∧ sv (fc t i 2) ≤ U)
    (hh : ∀ q,q < t.length → ic t q 4 = (i : Int) → Fi (fc t q 2) ∧ L ≤ sv (fc t q 2) ∧ sv (fc t q 2) ≤ U) (h0 : ¬ sv (fl t o w i) < 0) :
    Fi (intoV t S (flows t o w) o i) ∧ intoV t S (flows t o w) o i < 4294967296 ∧ sv (intoV t S (flows t o w) o i) ≤ U + 7 * e ∧ L - 7 * e ≤ sv (intoV t S (flows t o w) o i) := by
  have fb := fl_bd hc hw hi
  have n6 := hc.n2
  have hn := brs_len t (i : Int)
  have m := hots_mn hc hw b hh
  have b0 := b.b0
  have e0 := b.e0
  unfold intoV
  rw [flows_get hi,flt_sv fb.f.nn (by unfold Nn; decide) fb.l (by decide),c0,decide_eq_false h0]
  by_cases hb : (brs t (i : Int)).length = 0
  · rw [if_pos hb]
    exact ⟨hS.1,hS.2.1,by show sv (fc S i 0) ≤ _; omega,by show _ ≤ sv (fc S i 0); omega⟩
  · rw [if_neg hb]
    show Fi (cond (fgt .f32 (hots t (flows t o w) i).2 0) (fdiv .f32 (hots t (flows t o w) i).1 (hots t (flows t o w) i).2) (fc t i 2)) ∧ cond (fgt .f32 (hots t (flows t o w) i).2 0) (fdiv .f32 (hots t (flows t o w) i).1 (hots t (flows t o w) i).2) (fc t i 2) < 4294967296 ∧ _ ∧ _
    rw [fgt_sv m.f2.nn (by unfold Nn; decide) m.l2 (by decide),c0]
    by_cases g : 0 < sv (hots t (flows t o w) i).2
    · rw [decide_eq_true g]
      exact m.div b (by omega) g
    · rw [decide_eq_false g]
      have ff := hc.flue i hi
      exact ⟨fi_of ff,ff.t0,by show sv (fc t i 2) ≤ _; omega,by show _ ≤ sv (fc t i 2); omega⟩
end
end Go.Proofs.Ytmknfenjnladeaa

namespace Go.Proofs.Ytmknfenjnladeaa
open Go.Ab Ieee
set_option maxRecDepth 100000

structure HotS (S : List (List Int)) : Prop where
  ok : ∀ i,i < S.length → Fi (fc S i 0) ∧ fc S i 0 < 4294967296 ∧ -(60 * 2 ^ 149) ≤ sv (fc S i 0) ∧ sv (fc S i 0) ≤ 1500 * 2 ^ 149
theorem HotS.hot {S : List (List Int)} (h : HotS S) : ∀ i,i < S.length → r150 (fc S i 0) = true := fun i hi => by
  obtain ⟨a,b,c,d⟩ := h.ok i hi
  unfold r150
  rw [fge_sv a.nn (by unfold Nn; decide) b (by decide),fle_sv a.nn (by unfold Nn; decide) b (by decide),cm60,c1500,decide_eq_true c,decide_eq_true d]; rfl
theorem wmb : Mb (-(60 * 2 ^ 149)) (1500 * 2 ^ 149) (1500 * 2 ^ 149) (2 ^ 141) := ⟨by decide,by decide,by decide,by decide,by decide,by decide,by decide⟩
theorem w_bd {o w : Nat} (h : WOk o w) : Bd o (2 ^ 155) := by
  have h1 := h.o1
  have h2 := h.o2
  rw [cm60] at h1
  rw [c60] at h2
  exact ⟨nn_fi h.on h.o0 (v := 60 * 2 ^ 149) (by omega) (by omega) (by have := cFM; omega),h.o0,by omega,by omega⟩
theorem FlB.bd {v : Nat} (h : FlB v) : Bd v (2 ^ 158) := ⟨h.f,h.l,h.hi,h.lo⟩
theorem bd0 : Bd 0 0 := ⟨by unfold Fi; decide,by decide,by rw [c0]; decide,by rw [c0]; decide⟩
theorem absS {v : Nat} (h : FlB v) : Bd (r68 v) (2 ^ 160) := by
  unfold r68
  cases flt .f32 v 0 || feq .f32 v 0 with
  | true => exact bd0.sub h.bd (by decide) (by decide)
  | false => exact h.bd.mono (by decide)
theorem absI {v : Nat} (h : FlB v) : Bd (cond (flt .f32 v 0) (fneg .f32 v) v) (2 ^ 160) := by
  cases flt .f32 v 0 with
  | true =>
    have s := sv_fneg h.l
    have a := h.hi
    have b := h.lo
    exact ⟨h.f.neg h.l,fneg_lt _ h.l,by show sv (fneg .f32 v) ≤ _; rw [s]; omega,by show _ ≤ sv (fneg .f32 v); rw [s]; omega⟩
  | false => exact h.bd.mono (by decide)
theorem b05 : Bd 1056964608 (2 ^ 148) := ⟨by unfold Fi; decide,by decide,by rw [c05]; decide,by rw [c05]; decide⟩
theorem b16 : Bd 1031798784 (2 ^ 145) := ⟨by unfold Fi; decide,by decide,by rw [c16th]; decide,by rw [c16th]; decide⟩
theorem hb_bd {t : List (List Int)} (hc : ChOk t) {i : Nat} (hi : i < t.length) : Bd (fc t i 2) (2 ^ 160) := by
  have f := hc.flue i hi
  have t1 := f.t1
  have t2 := f.t2
  rw [cm60] at t1
  rw [c1500] at t2
  exact ⟨fi_of f,f.t0,by omega,by omega⟩
theorem sum_bd {h f x o a : Nat} (hh : Bd h (2 ^ 160)) (hf : Bd f (2 ^ 160)) (hx : Bd x (2 ^ 160)) (ho : Bd o (2 ^ 155)) (ha : Bd a (2 ^ 149)) :
    Bd (fadd .f32 (fadd .f32 h (fmul .f32 (fmul .f32 (fmul .f32 1056964608 f) (fsub .f32 x h)) a)) (fmul .f32 (fmul .f32 1031798784 (fsub .f32 o h)) a)) (2 ^ 190) := by
  have m1 := b05.mul hf (C := 2 ^ 161) (D := 2 ^ 159) (by decide) (by decide) (by decide)
  have s1 := hx.sub hh (C := 2 ^ 163) (by decide) (by decide)
  have m2 := m1.mul s1 (C := 2 ^ 177) (D := 2 ^ 175) (by decide) (by decide) (by decide)
  have m3 := m2.mul ha (C := 2 ^ 179) (D := 2 ^ 177) (by decide) (by decide) (by decide)
  have a1 := hh.add m3 (C := 2 ^ 181) (by decide) (by decide)
  have s2 := ho.sub hh (C := 2 ^ 163) (by decide) (by decide)
  have m4 := b16.mul s2 (C := 2 ^ 162) (D := 2 ^ 159) (by decide) (by decide) (by decide)
  have m5 := m4.mul ha (C := 2 ^ 164) (D := 2 ^ 162) (by decide) (by decide) (by decide)
  exact a1.add m5 (by decide) (by decide)
theorem held_fi {x : Nat} (h : Fi x) : Fi (r152 x 3262119936 1153138688) ∧ r154 x 3262119936 1153138688 = r152 x 3262119936 1153138688 := by
  refine ⟨?_,rfl⟩
  unfold r152
  cases flt .f32 x 3262119936 with
  | true => show Fi 3262119936; unfold Fi; decide
  | false =>
    cases fgt .f32 x 1153138688 with
    | true => show Fi 1153138688; unfold Fi; decide
    | false => exact h
section
variable {t S : List (List Int)} {o w : Nat} (hc : ChOk t) (hw : WOk o w) (hS : S.length = t.length) (hh : HotS S)
include hc hw hS hh
theorem into_bd {i : Nat} (hi : i < t.length) : Bd (intoV t S (flows t o w) o i) (2 ^ 160) := by
  by_cases h0 : sv (fl t o w i) < 0
  · have fb := fl_bd hc hw hi
    unfold intoV
    rw [flows_get hi,flt_sv fb.f.nn (by unfold Nn; decide) fb.l (by decide),c0,decide_eq_true h0]
    exact (w_bd hw).mono (by decide)
  · have f := hc.flue i hi
    have t1 := f.t1
    have t2 := f.t2
    rw [cm60] at t1
    rw [c1500] at t2
    obtain ⟨s1,s2,s3,s4⟩ := into_mid hc hw wmb hi (hh.ok i (by omega)) ⟨t1,t2⟩ (fun q hq _ => by
      have f := hc.flue q hq
      have t1 := f.t1
      have t2 := f.t2
      rw [cm60] at t1
      rw [c1500] at t2
      exact ⟨fi_of f,t1,t2⟩) h0
    exact ⟨s1,s2,by omega,by omega⟩
theorem into_fins : fins (intos t S (flows t o w) o) = true := by
  unfold fins
  refine allN_true.2 fun i hi => ?_
  rw [intos_len] at hi
  rw [intos_get hi]
  exact decide_eq_true (into_bd hc hw hS hh hi).f
theorem new_ok {a : Nat} (ha : Bd a (2 ^ 149)) {i : Nat} (hi : i < t.length) : Fi (newS t (flows t o w) (intos t S (flows t o w) o) o a i) ∧ Fi (newI t (flows t o w) (intos t S (flows t o w) o) o a i) := by
  have fb := fl_bd hc hw hi
  have ib := into_bd hc hw hS hh hi
  have hb := hb_bd hc hi
  have ob := w_bd hw
  unfold newS newI
  rw [flows_get hi,intos_get hi]
  exact ⟨(held_fi (sum_bd hb (absS fb) ib ob ha).f).1,(held_fi (sum_bd hb (absI fb) ib ob ha).f).1⟩
theorem ok_all {a : Nat} (ha : Bd a (2 ^ 149)) : okN (newS t (flows t o w) (intos t S (flows t o w) o) o a) t.length = true ∧ okN (newI t (flows t o w) (intos t S (flows t o w) o) o a) t.length = true := by
  constructor <;>
  · unfold okN
    refine allN_true.2 fun i hi => ?_
    have k := new_ok hc hw hS hh ha hi
    first
      | (rw [nn_isN.2 k.1.nn]; rfl)
      | (rw [nn_isN.2 k.2.nn]; rfl)
theorem warm_all {a : Nat} (ha : Bd a (2 ^ 149)) :
    r104 o w a t S = (1,updN (newS t (flows t o w) (intos t S (flows t o w) o) o a) t.length 0 t,flows t o w) ∧ r102 o w a t S = (1,true,updN (newI t (flows t o w) (intos t S (flows t o w) o) o a) t.length 0 t,flows t o w) ∧
      ChOk (updN (newS t (flows t o w) (intos t S (flows t o w) o) o a) t.length 0 t) ∧ ChOk (updN (newI t (flows t o w) (intos t S (flows t o w) o) o a) t.length 0 t) := by
  obtain ⟨k1,k2⟩ := ok_all hc hw hS hh ha
  have kf := into_fins hc hw hS hh
  have ct' := (upd_ok hc (g := newS t (flows t o w) (intos t S (flows t o w) o) o a) (fun j _ => newS_lt _ _ _ _ _ _) (fun j _ => held_in (fadd_lt _ _))).2 k1
  have cu' := (upd_ok hc (g := newI t (flows t o w) (intos t S (flows t o w) o) o a) (fun j _ => newI_lt _ _ _ _ _ _) (fun j _ => held_in (fadd_lt _ _))).2 k2
  refine ⟨?_,?_,ct',cu'⟩
  · rcases warmS hc hw hS a with ⟨_,h | h⟩ | ⟨h,_⟩
    · rw [kf] at h; cases h
    · rw [k1] at h; cases h
    · exact h
  · rcases warmI hc hw hS a with ⟨_,h⟩ | ⟨h,_⟩
    · rw [kf] at h; cases h
    · rw [k2] at h; exact h
omit hS hh in
theorem new_same {a : Nat} (ha : Bd a (2 ^ 149)) {i : Nat} (hi : i < t.length) (hz : fc t i 2 ≠ 2147483648) : newS t (flows t o w) (intos t S (flows t o w) o) o a i = newI t (flows t o w) (intos t S (flows t o w) o) o a i := by
  have fb := fl_bd hc hw hi
  have hb := hb_bd hc hi
  have b1 := hb.hi
  have b2 := hb.lo
  unfold newS newI
  rw [flows_get hi,intos_get hi]
  rw [add_z hb.f hb.l hz (by omega) (mul_zq (mul_zq (mul_zq (.rfl' _) (abs_zq fb.f fb.l)) (.rfl' _)) (.rfl' _)) (fmul_lt _ _) (fmul_lt _ _)]
  rfl
theorem new_zero {i : Nat} (hi : i < t.length) : Fi (newI t (flows t o w) (intos t S (flows t o w) o) o 0 i) ∧ sv (newI t (flows t o w) (intos t S (flows t o w) o) o 0 i) = sv (fc t i 2) := by
  have fb := fl_bd hc hw hi
  have ib := into_bd hc hw hS hh hi
  have hb := hb_bd hc hi
  have ob := w_bd hw
  have b1 := hb.hi
  have b2 := hb.lo
  unfold newI
  rw [flows_get hi,intos_get hi]
  have m1 := b05.mul (absI fb) (C := 2 ^ 161) (D := 2 ^ 159) (by decide) (by decide) (by decide)
  have s1 := ib.sub hb (C := 2 ^ 163) (by decide) (by decide)
  have m2 := m1.mul s1 (C := 2 ^ 177) (D := 2 ^ 175) (by decide) (by decide) (by decide)
  have s2 := ob.sub hb (C := 2 ^ 163) (by decide) (by decide)
  have m4 := b16.mul s2 (C := 2 ^ 162) (D := 2 ^ 159) (by decide) (by decide) (by decide)
  obtain ⟨z1,z2⟩ := mul_zero m2.f
  obtain ⟨z3,z4⟩ := mul_zero m4.f
  obtain ⟨e1,e2⟩ := add_zero hb.f z1 z2 (by omega)
  obtain ⟨e3,e4⟩ := add_zero e1 z3 z4 (by rw [e2]; omega)
  rw [e2] at e4
  have f := hc.flue i hi
  have t1 := f.t1
  have t2 := f.t2
  refine ⟨(held_fi e3).1,?_⟩
  unfold r152
  rw [flt_sv e3.nn (by unfold Nn; decide) (fadd_lt _ _) (by decide),fgt_sv e3.nn (by unfold Nn; decide) (fadd_lt _ _) (by decide),e4,decide_eq_false (by omega),decide_eq_false (by omega)]
  exact e4
end
end Go.Proofs.Ytmknfenjnladeaa

namespace Go.Proofs.Ytmknfenjnladeaa
open Go.Ab Ieee
set_option maxRecDepth 100000

structure Dg (t S : List (List Int)) (o : Nat) : Prop where
  hc : ChOk t
  hw : WOk o 0
  hS : S.length = t.length
  io : Iw o
  it : ∀ i,i < t.length → Iw (fc t i 2)
  is : ∀ i,i < S.length → Iw (fc S i 0)
theorem Dg.hot {t S : List (List Int)} {o : Nat} (h : Dg t S o) : HotS S := ⟨fun i hi => by
  have k := h.is i hi
  have a := k.lo
  have b := k.hi
  exact ⟨k.f,k.l,by omega,by omega⟩⟩
section
variable {t S : List (List Int)} {o : Nat} (d : Dg t S o)
include d
theorem lohi {i : Nat} (F O : List (List Int)) : ∀ (k j fuel low high : Nat),j + k = t.length → k < fuel → Iw low → Iw high → ∃ lo hi,r6l1 fuel o (i : Int) low high (j : Int) t S F O = (0,lo,hi) ∧ Iw lo ∧ Iw hi ∧ sv lo ≤ sv low ∧ sv high ≤ sv hi ∧
    ∀ q,j ≤ q → q < t.length → ic t q 4 = (i : Int) → sv lo ≤ sv (fc t q 2) ∧ sv (fc t q 2) ≤ sv hi := by
  have n6 := d.hc.n2
  intro k
  induction k with
  | zero =>
    intro j fuel low high h hf il ih
    obtain ⟨m,rfl⟩ : ∃ m,fuel = m + 1 := ⟨fuel - 1,by omega⟩
    refine ⟨low,high,?_,il,ih,Int.le_refl _,Int.le_refl _,fun q h1 h2 => by omega⟩
    show b6l1 (r6l1 m) _ _ _ _ _ _ _ _ _ = _
    unfold b6l1 st6l1v14s0
    rw [dlt_f (by omega)]; rfl
  | succ k ih =>
    intro j fuel low high h hf il ihh
    obtain ⟨m,rfl⟩ : ∃ m,fuel = m + 1 := ⟨fuel - 1,by omega⟩
    have hj : j < t.length := by omega
    have it := d.it j hj
    have e2 : Int.toNat ((t.getD j []).getD 2 0) = fc t j 2 := rfl
    have e4 : (t.getD j []).getD 4 0 = ic t j 4 := rfl
    obtain ⟨a1,a2,a3,a4⟩ := il.mi it
    obtain ⟨b1,b2,b3,b4⟩ := ihh.ma it
    have step : r6l1 (m + 1) o (i : Int) low high (j : Int) t S F O = cond (ic t j 4 == (i : Int)) (r6l1 m o (i : Int) (fmin .f32 low (fc t j 2)) (fmax .f32 high (fc t j 2)) ((j + 1 : Nat) : Int) t S F O) (r6l1 m o (i : Int) low high ((j + 1 : Nat) : Int) t S F O) := by
      show b6l1 (r6l1 m) _ _ _ _ _ _ _ _ _ = _
      unfold b6l1 st6l1v14s0 st6l1v14s1 st6l1v14s2
      rw [Int.toNat_natCast,e2,e4,a1,b1,dlt_t hj,dle0,blt_t hj,wrap_succ (by omega)]
      rfl
    rw [step]
    by_cases g : ic t j 4 = (i : Int)
    · rw [show (ic t j 4 == (i : Int)) = true from by rw [g]; exact beq_self_eq_true _]
      obtain ⟨lo,hi,r1,r2,r3,r4,r5,r6⟩ := ih (j + 1) m _ _ (by omega) (by omega) a2 b2
      refine ⟨lo,hi,r1,r2,r3,by omega,by omega,fun q h1 h2 h3 => ?_⟩
      by_cases hq : q = j
      · subst hq; constructor <;> omega
      · exact r6 q (by omega) h2 h3
    · rw [show (ic t j 4 == (i : Int)) = false from beq_eq_false_iff_ne.2 g]
      obtain ⟨lo,hi,r1,r2,r3,r4,r5,r6⟩ := ih (j + 1) m _ _ (by omega) (by omega) il ihh
      refine ⟨lo,hi,r1,r2,r3,r4,r5,fun q h1 h2 h3 => ?_⟩
      by_cases hq : q = j
      · subst hq; exact absurd h3 g
      · exact r6 q (by omega) h2 h3
theorem between : ∀ (k j fuel : Nat),j + k = t.length → k < fuel → r6l0 fuel o (j : Int) t S (flows t o 0) (intos t S (flows t o 0) o) = 0 := by
  have n6 := d.hc.n2
  have hSl := d.hS
  have hFl := flows_len t o 0
  have hOl := intos_len t S (flows t o 0) o
  intro k
  induction k with
  | zero =>
    intro j fuel h hf
    obtain ⟨m,rfl⟩ : ∃ m,fuel = m + 1 := ⟨fuel - 1,by omega⟩
    show b6l0 (r6l0 m) _ _ _ _ _ _ = _
    unfold b6l0 st6l0s0
    rw [dlt_f (by omega)]; rfl
  | succ k ih =>
    intro j fuel h hf
    obtain ⟨m,rfl⟩ : ∃ m,fuel = m + 1 := ⟨fuel - 1,by omega⟩
    have hj : j < t.length := by omega
    have hih := ih (j + 1) m (by omega) (by omega)
    have it := d.it j hj
    have is := d.is j (by omega)
    have fb := fl_bd d.hc d.hw hj
    have eT : Int.toNat ((t.getD j []).getD 2 0) = fc t j 2 := rfl
    have eS : Int.toNat ((S.getD j []).getD 0 0) = fc S j 0 := rfl
    have eF : Int.toNat (((flows t o 0).getD j []).getD 0 0) = fl t o 0 j := flows_get hj
    have eO : Int.toNat (((intos t S (flows t o 0) o).getD j []).getD 0 0) = intoV t S (flows t o 0) o j := intos_get hj
    obtain ⟨a1,a2,a3,a4⟩ := is.mi it
    obtain ⟨b1,b2,b3,b4⟩ := is.ma it
    obtain ⟨lo,hi,r1,r2,r3,r4,r5,r6⟩ := lohi d (i := j) (flows t o 0) (intos t S (flows t o 0) o) t.length 0 (1000 + (intos t S (flows t o 0) o).length + (flows t o 0).length + S.length + t.length) _ _ (by omega) (by omega) a2 b2
    have r1' : r6l1 (1000 + (intos t S (flows t o 0) o).length + (flows t o 0).length + S.length + t.length) o (j : Int) (fmin .f32 (fc S j 0) (fc t j 2)) (fmax .f32 (fc S j 0) (fc t j 2)) 0 t S (flows t o 0) (intos t S (flows t o 0) o) = (0,lo,hi) := r1
    have ib := into_bd d.hc d.hw d.hS d.hot hj
    show b6l0 (r6l0 m) _ _ _ _ _ _ = _
    unfold b6l0 st6l0s0 st6l0s1 st6l0s2
    simp only [Int.toNat_natCast,eT,eS,eF,eO]
    rw [a1,r1',dlt_t hj,dle0,blt_t hj,blt_t (show j < (flows t o 0).length by omega),blt_t (show j < S.length by omega),blt_t (show j < (intos t S (flows t o 0) o).length by omega),wrap_succ (by omega),hih]
    rw [fge_sv fb.f.nn (by unfold Nn; decide) fb.l (by decide),c0]
    by_cases h0 : 0 ≤ sv (fl t o 0 j)
    · rw [decide_eq_true h0]
      have L0 := r2.lo
      have U0 := r3.hi
      obtain ⟨m1,m2,m3,m4⟩ := into_mid d.hc d.hw (L := sv lo) (U := sv hi) (B := 620 * 2 ^ 149) (e := 2 ^ 139) ⟨by decide,by decide,by decide,by decide,by omega,by omega,by omega⟩ hj ⟨is.f,is.l,by omega,by omega⟩ ⟨by omega,by omega⟩ (fun q hq e => by
        have k := r6 q (by omega) hq e
        exact ⟨(d.it q hq).f,k.1,k.2⟩) (by omega)
      have l1 := r2.dn
      have u1 := r3.up
      show cond true (cond true (cond true (cond true (cond true (cond true (cond true (cond true (cond true (cond true (cond true (cond true (cond true (cond true (cond true (cond true (cond (flt .f32 (intoV t S (flows t o 0) o j) (fsub .f32 lo 1008981770)) _ (cond true (cond true (cond (fgt .f32 (intoV t S (flows t o 0) o j) (fadd .f32 hi 1008981770)) _ _) _) _)) _) _) _) _) _) _) _) _) _) _) _) _) _) _) _) _ = _
      rw [flt_sv m1.nn r2.fd.nn m2 (fsub_lt _ _),fgt_sv m1.nn r3.fu.nn m2 (fadd_lt _ _),decide_eq_false (by omega),decide_eq_false (by omega)]
      rfl
    · rw [decide_eq_false h0]
      have ev : intoV t S (flows t o 0) o j = o := by
        unfold intoV
        rw [flows_get hj,flt_sv fb.f.nn (by unfold Nn; decide) fb.l (by decide),c0,decide_eq_true (show sv (fl t o 0 j) < 0 by omega)]
        rfl
      rw [ev]
      have io := d.io
      have l1 := io.dn
      have u1 := io.up
      simp only [cond_true,cond_false,Bool.and_self]
      rw [flt_sv io.f.nn io.fd.nn io.l (fsub_lt _ _),fgt_sv io.f.nn io.fu.nn io.l (fadd_lt _ _),decide_eq_false (by omega),decide_eq_false (by omega)]
      simp only [cond_false]
end
end Go.Proofs.Ytmknfenjnladeaa

namespace Go.Proofs.Ytmknfenjnladeaa
open Go.Ab Ieee
set_option maxRecDepth 100000

theorem backS {l : List (List Int)} (hl : l.length ≤ 6) : r106 l = (0,back l) := by
  have lp := app_loop (n := l.length) (f := bkF l) (G := fun m s i => r106l0 m i l s) (fuel := 1000 + 0 + l.length) ?_ ?_ (by omega)
  · unfold r106
    rcases lp with e | ⟨e,e'⟩
    · have e2 : r106l0 (1000 + 0 + l.length) 0 l [] = _ := e
      rw [e2]; rfl
    · have e2 : r106l0 (1000 + 0 + l.length) 0 l [] = _ := e
      rw [e2]; unfold back; rw [e']; rfl
  · intro m s
    show b106l0 (r106l0 m) _ _ _ = _
    unfold b106l0
    rw [dlt_f (Nat.lt_irrefl _)]; rfl
  · intro m i s hi hs
    show b106l0 (r106l0 m) _ _ _ = _
    unfold b106l0 bkF
    simp only [take_all,Int.toNat_natCast]
    rw [dlt_t hi,dle0,blt_t hi,wrap_succ (by omega),show Nat.ble ((s.length + 1) * 9) 140737488355328 = true from Nat.ble_eq_true_of_le (by omega)]
    cases flt .f32 (fc l i 0) 0 <;> rfl
section
variable {t S : List (List Int)} {o : Nat} (hc : ChOk t) (hw : WOk o 0)
include hc hw
theorem flows_both : r12 o 0 t = (3,flows t o 0) ∧ r13 o 0 t = (2,back (flows t o 0)) := by
  have n6 := hc.n2
  obtain ⟨e1,e2⟩ := code_ok hc hw
  have f1 := flowsS hc hw
  have f2 := flowsI hc hw
  have b := backI (l := flows t o 0) (by rw [flows_len]; omega)
  unfold r12 r13
  simp only [e1,e2,f1,f2,b,Nat.beq,cond_true,cond_false,and_self]
variable (hS : S.length = t.length) (hh : HotS S)
include hS hh
theorem smoke_both : r38 o t S (flows t o 0) = (3,intos t S (flows t o 0) o) ∧ r39 o t S (flows t o 0) = (3,intos t S (flows t o 0) o) := by
  have n6 := hc.n2
  obtain ⟨e1,e2⟩ := code_ok hc hw
  obtain ⟨v1,v2⟩ := valid_ok hc
  have hF := flows_len t o 0
  have hO := intos_len t S (flows t o 0) o
  have s1 := smokeS (t := t) (S := S) (by omega)
  have s2 := smokeI (t := t) (S := S) (by omega)
  have hhot := hh.hot
  rw [decide_eq_true hS,show allN S.length (fun i => r150 (fc S i 0)) = true from allN_true.2 hhot] at s1 s2
  have i1 := intoS hc hS hF o
  have i2 := intoI hc hS hF o
  have ff : fins (flows t o 0) = true := by
    unfold fins
    refine allN_true.2 fun i hi => ?_
    rw [hF] at hi
    rw [flows_get hi]
    exact decide_eq_true (fl_bd hc hw hi).f
  have fi := into_fins hc hw hS hh
  have g1 := finsS (l := flows t o 0) (by omega)
  have g2 := finsI (l := flows t o 0) (by omega)
  have g3 := finsS (l := intos t S (flows t o 0) o) (by omega)
  have g4 := finsI (l := intos t S (flows t o 0) o) (by omega)
  rw [ff] at g1 g2
  rw [fi] at g3 g4
  have ln : ((((flows t o 0).length : Nat) : Int) != ((t.length : Nat) : Int)) = false := by rw [hF]; exact bne_self_eq_false _
  have oo : r98 o = true := by
    unfold r98 r60 at *
    rw [v1] at e1
    revert e1
    cases g : r98 o with
    | true => unfold r98 at g; intro _; exact g
    | false => intro h; exact absurd h (by decide)
  unfold r38 r39
  simp only [e1,e2,v1,oo,s1,s2,g1,g2,g3,g4,i1,i2,ln,Nat.beq,cond_true,cond_false,Bool.and_self,Bool.not_true,and_self]
theorem warm_both {a : Nat} (ha : Bd a (2 ^ 149)) (h78 : r78 a = true) : r40 o 0 a t S = (3,updN (newI t (flows t o 0) (intos t S (flows t o 0) o) o a) t.length 0 t,flows t o 0) ∧ r41 o 0 a t S = (3,updN (newS t (flows t o 0) (intos t S (flows t o 0) o) o a) t.length 0 t,flows t o 0) := by
  obtain ⟨k1,k2⟩ := warm_ok hc hw hS hh.hot h78 ha.l
  obtain ⟨w1,w2,_⟩ := warm_all hc hw hS hh ha
  unfold r40 r41
  simp only [k1,k2,w1,w2,Nat.beq,cond_true,cond_false,Bool.not_true,and_self]
end
theorem q4 : Bd 1048576000 (2 ^ 149) ∧ r78 1048576000 = true := ⟨⟨by unfold Fi; decide,by decide,by rw [c025]; decide,by rw [c025]; decide⟩,by decide +kernel⟩
theorem q0 : Bd 0 (2 ^ 149) ∧ r78 0 = true := ⟨bd0.mono (by decide),by decide +kernel⟩
theorem draws {o : Nat} (hw : WOk o 0) {S : List (List Int)} (hh : HotS S) : ∀ (k i fuel fuel' : Nat) (t u : List (List Int)),i + k = 12 → k < fuel → k < fuel' → ChOk t → ChOk u → Tz t u → S.length = t.length →
    (∃ (n : Nat) (v : List (List Int)),i ≤ n ∧ n ≤ 12 ∧ r44l0 fuel o 0 1048576000 12 (i : Int) t S = (1,(n : Int)) ∧ r43l0 fuel' o 0 1048576000 12 (i : Int) u S = (0,(n : Int)) ∧ ChOk v ∧ (back (flows v o 0)).length = 0 ∧
      (∀ f,k < f → r6l3 f o (n : Int) (i : Int) S u = if i = n then (0,[],[]) else (2,v,[])) ∧ (i = n → v = u)) ∨
    (r44l0 fuel o 0 1048576000 12 (i : Int) t S = (2,0) ∧ r43l0 fuel' o 0 1048576000 12 (i : Int) u S = (1,0)) := by
  intro k
  induction k with
  | zero =>
    intro i fuel fuel' t u h h1 h2 ct cu tz hS
    obtain ⟨f,rfl⟩ : ∃ m,fuel = m + 1 := ⟨fuel - 1,by omega⟩
    obtain ⟨f',rfl⟩ : ∃ m,fuel' = m + 1 := ⟨fuel' - 1,by omega⟩
    obtain rfl : i = 12 := by omega
    have n2 := ct.n2
    have e1 := flowsS ct hw
    have e2 := flowsI cu hw
    have ez := flows_tz tz (o := o) (w := 0)
    have e3 := e2
    rw [ez] at e3
    have b1 := backS (l := flows t o 0) (by rw [flows_len]; omega)
    have b2 := backI (l := flows t o 0) (by rw [flows_len]; omega)
    have x1 : r44l0 (f + 1) o 0 1048576000 12 ((12 : Nat) : Int) t S = cond ((((back (flows t o 0)).length : Nat) : Int) == 0) (1,12) (2,0) := by
      show b44l0 (r44l0 f) _ _ _ _ _ _ _ = _
      unfold b44l0
      simp only [e1,b1,Nat.beq,cond_true,cond_false]
      rfl
    have x2 : r43l0 (f' + 1) o 0 1048576000 12 ((12 : Nat) : Int) u S = cond ((((back (flows t o 0)).length : Nat) : Int) == 0) (0,12) (1,0) := by
      show b43l0 (r43l0 f') _ _ _ _ _ _ _ = _
      unfold b43l0
      simp only [e3,b2,Nat.beq,cond_true,cond_false]
      rfl
    rw [x1,x2]
    by_cases hb : (back (flows t o 0)).length = 0
    · refine .inl ⟨12,u,Nat.le_refl _,Nat.le_refl _,?_,?_,cu,by rw [ez]; exact hb,fun g hg => ?_,fun _ => rfl⟩
      · rw [hb]; rfl
      · rw [hb]; rfl
      · rw [if_pos rfl]
        obtain ⟨m,rfl⟩ : ∃ m,g = m + 1 := ⟨g - 1,by omega⟩
        show b6l3 (r6l3 m) _ _ _ _ _ = _
        unfold b6l3 st6l3s0
        rw [dlt_f (Nat.lt_irrefl _)]; rfl
    · refine .inr ⟨?_,?_⟩ <;>
      · rw [show ((((back (flows t o 0)).length : Nat) : Int) == 0) = false from beq_eq_false_iff_ne.2 (by omega)]; rfl
  | succ k ih =>
    intro i fuel fuel' t u h h1 h2 ct cu tz hS
    obtain ⟨f,rfl⟩ : ∃ m,fuel = m + 1 := ⟨fuel - 1,by omega⟩
    obtain ⟨f',rfl⟩ : ∃ m,fuel' = m + 1 := ⟨fuel' - 1,by omega⟩
    have n2 := ct.n2
    have hSu : S.length = u.length := by rw [tz.len]; exact hS
    have e1 := flowsS ct hw
    have e2 := flowsI cu hw
    have ez := flows_tz tz (o := o) (w := 0)
    have e3 := e2
    rw [ez] at e3
    have b1 := backS (l := flows t o 0) (by rw [flows_len]; omega)
    have b2 := backI (l := flows t o 0) (by rw [flows_len]; omega)
    have hne : (((i : Nat) : Int) == 12) = false := beq_eq_false_iff_ne.2 (by omega)
    obtain ⟨wa,_,wc,_⟩ := warm_all ct hw hS hh q4.1
    obtain ⟨_,wb,_,wd⟩ := warm_all cu hw hSu hh q4.1
    have gz : ∀ j,j < t.length → Zq (newS t (flows t o 0) (intos t S (flows t o 0) o) o 1048576000 j) (newI u (flows u o 0) (intos u S (flows u o 0) o) o 1048576000 j) := fun j hj => by
      have fo := fl_ok ct hw hj
      rw [ez]
      refine new_zq tz ?_ (by rw [flows_get hj]; exact fo.1) (by rw [flows_get hj]; exact fo.2)
      rw [intos_get hj,intos_get (by rw [tz.len]; exact hj)]
      exact intoV_tz tz S _ j
    have tz' := upd_tz (g := newS t (flows t o 0) (intos t S (flows t o 0) o) o 1048576000) (g' := newI u (flows u o 0) (intos u S (flows u o 0) o) o 1048576000) tz (fun j hj => ⟨gz j hj,newS_lt _ _ _ _ _ _,newI_lt _ _ _ _ _ _⟩)
    have x1 : r44l0 (f + 1) o 0 1048576000 12 (i : Int) t S = cond ((((back (flows t o 0)).length : Nat) : Int) == 0) (1,(i : Int)) (r44l0 f o 0 1048576000 12 ((i + 1 : Nat) : Int) (updN (newS t (flows t o 0) (intos t S (flows t o 0) o) o 1048576000) t.length 0 t) S) := by
      show b44l0 (r44l0 f) _ _ _ _ _ _ _ = _
      unfold b44l0
      simp only [e1,b1,wa,hne,wrap_succ (show i < 9223372036854775807 by omega),Nat.beq,cond_true,cond_false]
    have x2 : r43l0 (f' + 1) o 0 1048576000 12 (i : Int) u S = cond ((((back (flows t o 0)).length : Nat) : Int) == 0) (0,(i : Int)) (r43l0 f' o 0 1048576000 12 ((i + 1 : Nat) : Int) (updN (newI u (flows u o 0) (intos u S (flows u o 0) o) o 1048576000) u.length 0 u) S) := by
      show b43l0 (r43l0 f') _ _ _ _ _ _ _ = _
      unfold b43l0
      simp only [e3,b2,wb,hne,wrap_succ (show i < 9223372036854775807 by omega),Nat.beq,cond_true,cond_false,Bool.not_true]
    rw [x1,x2]
    by_cases hb : (back (flows t o 0)).length = 0
    · refine .inl ⟨i,u,Nat.le_refl _,by omega,?_,?_,cu,by rw [ez]; exact hb,fun g hg => ?_,fun _ => rfl⟩
      · rw [hb]; rfl
      · rw [hb]; rfl
      · rw [if_pos rfl]
        obtain ⟨m,rfl⟩ : ∃ m,g = m + 1 := ⟨g - 1,by omega⟩
        show b6l3 (r6l3 m) _ _ _ _ _ = _
        unfold b6l3 st6l3s0
        rw [dlt_f (Nat.lt_irrefl _)]; rfl
    · rw [show ((((back (flows t o 0)).length : Nat) : Int) == 0) = false from beq_eq_false_iff_ne.2 (by omega)]
      rcases ih (i + 1) f f' _ _ (by omega) (by omega) (by omega) wc wd tz' (by rw [updN_len]; exact hS) with ⟨n,v,i1,i2,i3,i4,i5,i6,i7,i8⟩ | ⟨i1,i2⟩
      · refine .inl ⟨n,v,by omega,i2,i3,i4,i5,i6,fun g hg => ?_,fun e => by omega⟩
        rw [if_neg (by omega)]
        obtain ⟨m,rfl⟩ : ∃ m,g = m + 1 := ⟨g - 1,by omega⟩
        have hk := i7 m (by omega)
        have r13' := (flows_both cu hw).2
        have r40' := (warm_both cu hw hSu hh q4.1 q4.2).1
        have r45' := (valid_ok wd).2
        rw [ez] at r13'
        show b6l3 (r6l3 m) _ _ _ _ _ = _
        unfold b6l3 st6l3s0 st6l3s1 st6l3s2
        rw [dlt_t (show i < n by omega),wrap_succ (by omega)]
        simp only [r13',r40',r45',hk,Nat.beq,cond_true,cond_false,Bool.not_true]
        rw [show ((((back (flows t o 0)).length : Nat) : Int) == 0) = false from beq_eq_false_iff_ne.2 (by omega)]
        by_cases hn : i + 1 = n
        · rw [if_pos hn,i8 hn]; rfl
        · rw [if_neg hn]; rfl
      · exact .inr ⟨i1,i2⟩
end Go.Proofs.Ytmknfenjnladeaa

namespace Go.Proofs.Ytmknfenjnladeaa
open Go.Ab Ieee
set_option maxRecDepth 100000

theorem same63 (x : Nat) : r63 x x = true := by
  unfold r63
  cases feq .f32 x x <;> simp
theorem self14 {l : List (List Int)} (hl : l.length ≤ 1048576) : r14 l l = (0,true) := by
  have key : r14l0 (1000 + l.length + l.length) 0 l l = 1 := by
    have := all_loop (n := l.length) (p := fun _ => true) (yes := 1) (no := 0) (G := fun m i => r14l0 m i l l) (fuel := 1000 + l.length + l.length) ?_ ?_ (by omega)
    · rw [this,show allN l.length (fun _ => true) = true from allN_true.2 (fun _ _ => rfl)]; rfl
    · intro m
      show b14l0 (r14l0 m) _ _ _ = _
      unfold b14l0
      rw [dlt_f (Nat.lt_irrefl _)]; rfl
    · intro m i hi
      show b14l0 (r14l0 m) _ _ _ = _
      unfold b14l0
      simp only [same63]
      rw [dlt_t hi,dle0,Int.toNat_natCast,blt_t hi,wrap_succ (by omega)]
      rfl
  unfold r14
  rw [key,bne_self_eq_false]; rfl
theorem self42 {l : List (List Int)} (hl : l.length ≤ 1048576) : r42 l l = (0,true) := by
  have key : r105l0 (1000 + l.length + l.length) 0 l l = 1 := by
    have := all_loop (n := l.length) (p := fun _ => true) (yes := 1) (no := 0) (G := fun m i => r105l0 m i l l) (fuel := 1000 + l.length + l.length) ?_ ?_ (by omega)
    · rw [this,show allN l.length (fun _ => true) = true from allN_true.2 (fun _ _ => rfl)]; rfl
    · intro m
      show b105l0 (r105l0 m) _ _ _ = _
      unfold b105l0
      rw [dlt_f (Nat.lt_irrefl _)]; rfl
    · intro m i hi
      show b105l0 (r105l0 m) _ _ _ = _
      unfold b105l0
      simp only [same63,bne_self_eq_false]
      rw [dlt_t hi,dle0,Int.toNat_natCast,blt_t hi,wrap_succ (by omega)]
      rfl
  unfold r42 r105
  rw [key,bne_self_eq_false]; rfl
theorem as_before {t m z : List (List Int)} {o : Nat} (h6 : t.length ≤ 6) (hm : m.length = t.length) (hz : z.length = t.length)
    (h1 : ∀ i,i < t.length → feq .f32 (fc z i 2) (fc t i 2) = true) (h2 : ∀ i,i < t.length → feq .f32 (fc m i 3) (fc t i 3) = true) (h3 : ∀ i,i < t.length → ic m i 4 = ic t i 4) (S : List (List Int)) :
    r6l2 (1000 + z.length + m.length + S.length + t.length) o 0 t S m z = 0 := by
  have key := all_loop (n := t.length) (p := fun _ => true) (yes := 0) (no := 1) (G := fun f i => r6l2 f o i t S m z) (fuel := 1000 + z.length + m.length + S.length + t.length) ?_ ?_ (by omega)
  · rw [key,show allN t.length (fun _ => true) = true from allN_true.2 (fun _ _ => rfl)]; rfl
  · intro f
    show b6l2 (r6l2 f) _ _ _ _ _ _ = _
    unfold b6l2 st6l2s0
    rw [dlt_f (Nat.lt_irrefl _)]; rfl
  · intro f i hi
    show b6l2 (r6l2 f) _ _ _ _ _ _ = _
    unfold b6l2 st6l2s0 st6l2s1 st6l2s2
    have e1 := h1 i hi
    have e2 := h2 i hi
    have e3 : ((m.getD i []).getD 4 0 : Int) = (t.getD i []).getD 4 0 := h3 i hi
    simp only [Int.toNat_natCast,e1,e2,e3,bne_self_eq_false]
    rw [dlt_t hi,dle0,blt_t hi,blt_t (show i < z.length by omega),blt_t (show i < m.length by omega),wrap_succ (by omega)]
    rfl
theorem smoke_rows {c t : List (List Int)} (h : RowsOk SU c) (hl : c.length ≤ 4096) (n6 : t.length ≤ 6) : ∀ (k j a : Nat) (s : Int) (x : List (List Int)) (fuel : Nat),j + k = t.length → k < fuel → a + 2 * k ≤ 100000 → x.length = j → (∀ q,q < x.length → ∃ n,n < 600 ∧ x.getD q [] = [((iw (n + 20) : Nat) : Int)]) →
    (k = 0 ∧ r37l0 fuel (j : Int) t (a : Int) s x c = (1,0,0,[])) ∨ ∃ b s' y,r37l0 fuel (j : Int) t (a : Int) s x c = (0,b,s',y) ∧ y.length = t.length ∧ ∀ q,q < y.length → ∃ n,n < 600 ∧ y.getD q [] = [((iw (n + 20) : Nat) : Int)] := by
  intro k
  induction k with
  | zero =>
    intro j a s x fuel hj hf ha hx hd
    obtain ⟨m,rfl⟩ : ∃ m,fuel = m + 1 := ⟨fuel - 1,by omega⟩
    refine .inl ⟨rfl,?_⟩
    show b37l0 (r37l0 m) _ _ _ _ _ _ = _
    unfold b37l0
    rw [dlt_f (by omega)]; rfl
  | succ k ih =>
    intro j a s x fuel hj hf ha hx hd
    obtain ⟨m,rfl⟩ : ∃ m,fuel = m + 1 := ⟨fuel - 1,by omega⟩
    obtain ⟨p,b,s1,e1,hp,l1,u1⟩ := pick_ok h (by omega) (n := 600) (a := a) (by omega) (by decide) s
    have e1' : r56 600 (a : Int) s c = _ := e1
    have ew : ofInt .f32 (p : Int) = iw (p + 20) := by
      unfold iw
      congr 1
      omega
    have hd' : ∀ q,q < (x ++ [[((iw (p + 20) : Nat) : Int)]]).length → ∃ n,n < 600 ∧ (x ++ [[((iw (p + 20) : Nat) : Int)]]).getD q [] = [((iw (n + 20) : Nat) : Int)] := by
      intro q hq
      rw [List.length_append] at hq
      by_cases g : q < x.length
      · obtain ⟨n,n1,n2⟩ := hd q g
        refine ⟨n,n1,?_⟩
        rw [← n2]; simp [List.getD,List.getElem?_append_left g]
      · have hq' : q = x.length := by simp at hq; omega
        subst hq'
        exact ⟨p,by omega,by simp [List.getD]⟩
    have hih := ih (j + 1) b s1 (x ++ [[((iw (p + 20) : Nat) : Int)]]) m (by omega) (by omega) (by omega) (by simp; omega) hd'
    refine .inr ?_
    show ∃ b s' y,b37l0 (r37l0 m) _ _ _ _ _ _ = _ ∧ _
    unfold b37l0
    simp only [e1',ew,take_all]
    rw [dlt_t (show j < t.length by omega),wrap_succ (by omega),show Nat.ble ((x.length + 1) * 5) 140737488355328 = true from Nat.ble_eq_true_of_le (by omega)]
    rcases hih with ⟨k0,e⟩ | ⟨b',s',y,e,hy,hdy⟩
    · rw [e]
      exact ⟨_,_,_,rfl,by simp; omega,hd'⟩
    · rw [e]
      exact ⟨_,_,y,rfl,hy,hdy⟩
theorem smoke_ok {c t : List (List Int)} (h : RowsOk SU c) (hl : c.length ≤ 4096) (n1 : 1 ≤ t.length) (n6 : t.length ≤ 6) : ∃ S,r37 c t = (0,S) ∧ S.length = t.length ∧ ∀ q,q < S.length → ∃ n,n < 600 ∧ S.getD q [] = [((iw (n + 20) : Nat) : Int)] := by
  unfold r37 r55
  rcases smoke_rows h hl n6 t.length 0 0 0 [] (1000 + c.length + 0 + t.length) (by omega) (by omega) (by omega) rfl (fun q hq => absurd hq (Nat.not_lt_zero _)) with ⟨k0,_⟩ | ⟨b,s',y,e,hy,hd⟩
  · omega
  · have e' : r37l0 (1000 + c.length + 0 + t.length) 0 t 0 0 [] c = _ := e
    simp only [e']
    exact ⟨y,rfl,hy,hd⟩
theorem tD_iw {k : Nat} (h : k < 300) : tD k = iw (k + 10) := by
  unfold tD iw
  congr 1
  omega
theorem feq_self_ok {d : Nat} (h : d ≤ 1065353216) : feq .f32 d d = true := by
  rw [feq_sv (by unfold Nn; omega) (by unfold Nn; omega) (by omega) (by omega),decide_eq_true rfl]
theorem updN_congr {g g' : Nat → Nat} : ∀ (k i : Nat) (x : List (List Int)),(∀ j,i ≤ j → j < i + k → g j = g' j) → updN g k i x = updN g' k i x
  | 0,_,_,_ => rfl
  | k + 1,i,x,h => by
    have := updN_congr k (i + 1) (x.modify i (fun r => spl 5 r 2 [((g i : Nat) : Int)])) (fun j h1 h2 => h j (by omega) (by omega))
    refine Eq.trans (b := updN g k (i + 1) (x.modify i (fun r => spl 5 r 2 [((g i : Nat) : Int)]))) rfl (this.trans ?_)
    rw [h i (Nat.le_refl _) (by omega)]
    rfl
theorem law_end {x0 x1 t S : List (List Int)} {o : Nat} (d : Dg t S o) : st6s2v3 x0 x1 o t S (flows t o 0) = (0,true) := by
  have hc := d.hc
  have hw := d.hw
  have hS := d.hS
  have hh := d.hot
  have n6 := hc.n2
  obtain ⟨s1,s2⟩ := smoke_both hc hw hS hh
  have hO := intos_len t S (flows t o 0) o
  have e14 := self14 (l := intos t S (flows t o 0) o) (by omega)
  have bt := between d t.length 0 (1000 + (intos t S (flows t o 0) o).length + (flows t o 0).length + S.length + t.length) (by omega) (by omega)
  have bt' : r6l0 (1000 + (intos t S (flows t o 0) o).length + (flows t o 0).length + S.length + t.length) o 0 t S (flows t o 0) (intos t S (flows t o 0) o) = 0 := bt
  have hF := flows_len t o 0
  have f14 := self14 (l := flows t o 0) (by omega)
  obtain ⟨w1,w2⟩ := warm_both hc hw hS hh q4.1 q4.2
  obtain ⟨w3,_⟩ := warm_both hc hw hS hh q0.1 q0.2
  have es : updN (newI t (flows t o 0) (intos t S (flows t o 0) o) o 1048576000) t.length 0 t = updN (newS t (flows t o 0) (intos t S (flows t o 0) o) o 1048576000) t.length 0 t :=
    updN_congr _ _ _ fun j _ hj => (new_same hc hw q4.1 (by omega) (d.it j (by omega)).nz).symm
  rw [es] at w1
  have e42 := self42 (l := updN (newS t (flows t o 0) (intos t S (flows t o 0) o) o 1048576000) t.length 0 t) (by rw [updN_len]; omega)
  have ab := as_before (t := t) (m := updN (newS t (flows t o 0) (intos t S (flows t o 0) o) o 1048576000) t.length 0 t) (z := updN (newI t (flows t o 0) (intos t S (flows t o 0) o) o 0) t.length 0 t) (o := o) n6 (updN_len _ _ _ _) (updN_len _ _ _ _)
    (fun i hi => by
      obtain ⟨z1,z2⟩ := new_zero hc hw hS hh hi
      have e : fc (updN (newI t (flows t o 0) (intos t S (flows t o 0) o) o 0) t.length 0 t) i 2 = newI t (flows t o 0) (intos t S (flows t o 0) o) o 0 i := by
        have := (upd_ic (g := newI t (flows t o 0) (intos t S (flows t o 0) o) o 0) (t := t) i).2.2.1
        rw [if_pos hi] at this
        exact congrArg Int.toNat this
      have it := d.it i hi
      rw [e,feq_sv z1.nn it.f.nn (newI_lt _ _ _ _ _ _) it.l,decide_eq_true z2])
    (fun i hi => by
      have e : fc (updN (newS t (flows t o 0) (intos t S (flows t o 0) o) o 1048576000) t.length 0 t) i 3 = fc t i 3 := congrArg Int.toNat (upd_ic i).2.2.2.1
      have hd := (hc.flue i hi).d
      rw [e]
      exact feq_self_ok hd)
    (fun i hi => (upd_ic i).2.2.2.2) S
  rw [updN_len,updN_len] at ab
  have lnn : ((((updN (newI t (flows t o 0) (intos t S (flows t o 0) o) o 0) t.length 0 t).length : Nat) : Int) != ((t.length : Nat) : Int)) = false := by rw [updN_len]; exact bne_self_eq_false _
  obtain ⟨k1,k2⟩ := warm_ok hc hw hS hh.hot q4.2 (a := 1048576000) (by decide)
  unfold st6s2v3
  simp only [s1,s2,e14,Nat.beq,cond_true,cond_false,Bool.not_true]
  unfold st6s3
  simp only [bt',Nat.beq,cond_true,cond_false]
  unfold st6s4
  simp only [w1,Nat.beq,cond_true,cond_false]
  unfold st6s5v3
  simp only [w2,w3,e42,f14,lnn,Nat.beq,cond_true,cond_false,Bool.not_true]
  unfold st6s6
  rw [updN_len,updN_len]
  simp only [ab,Nat.beq,cond_true,cond_false]
  unfold st6s7
  have rng : r66 12 0 200 = true := by decide +kernel
  have c1 : decide ((12 : Int) < 0) = false := by decide
  have c2 : decide ((12 : Int) > 200) = false := by decide
  rcases draws hw hh 12 0 (1000 + S.length + t.length) (1000 + S.length + t.length) t t (by omega) (by omega) (by omega) hc hc (tz_refl hc) hS with ⟨n,v,i1,i2,i3,i4,i5,i6,i7,i8⟩ | ⟨i1,i2⟩
  · have i3' : r44l0 (1000 + S.length + t.length) o 0 1048576000 12 0 t S = (1,(n : Int)) := i3
    have i4' : r43l0 (1000 + S.length + t.length) o 0 1048576000 12 0 t S = (0,(n : Int)) := i4
    have x43 : r43 o 0 1048576000 12 t S = (2,(n : Int)) := by
      unfold r43
      simp only [k2,c1,c2,i4',Nat.beq,cond_true,cond_false]
    have x44 : r44 o 0 1048576000 12 t S = (3,(n : Int)) := by
      unfold r44
      simp only [k1,rng,i3',Nat.beq,cond_true,cond_false,Bool.not_true]
    simp only [x43,x44,Nat.beq,cond_true,cond_false,bne_self_eq_false]
    unfold st6s8 st6s9
    have i7' : r6l3 (1000 + t.length + S.length) o (n : Int) 0 S t = _ := i7 (1000 + t.length + S.length) (by omega)
    have r13' := (flows_both i5 hw).2
    simp only [i7',bne_self_eq_false,cond_false]
    by_cases hn : 0 = n
    · rw [if_pos hn]
      have ev := i8 hn
      subst ev
      unfold st6s10
      simp only [r13',i6,Nat.beq,cond_true,cond_false]
      rfl
    · rw [if_neg hn]
      unfold st6s10v1
      simp only [r13',i6,Nat.beq,cond_true,cond_false]
      rfl
  · have i1' : r44l0 (1000 + S.length + t.length) o 0 1048576000 12 0 t S = (2,0) := i1
    have i2' : r43l0 (1000 + S.length + t.length) o 0 1048576000 12 0 t S = (1,0) := i2
    have x43 : r43 o 0 1048576000 12 t S = (3,0) := by
      unfold r43
      simp only [k2,c1,c2,i2',Nat.beq,cond_true,cond_false]
    have x44 : r44 o 0 1048576000 12 t S = (4,0) := by
      unfold r44
      simp only [k1,rng,i1',Nat.beq,cond_true,cond_false,Bool.not_true]
    simp only [x43,x44,Nat.beq,cond_true,cond_false]
    unfold st6s8
    rfl
theorem plain6 (x0 x1 : List (List Int)) (k0 : RowsOk SU x0) (_ : x0.length ≤ 9223372036854775807) (k1 : RowsOk SU x1) (_ : x1.length ≤ 9223372036854775807) : r6 x0 x1 = (0,true) := by
  unfold r6 st6s0 r8
  by_cases h0 : x0.length ≤ 4096
  · rw [decide_eq_false (show ¬ ((((x0.length : Nat) : Int) : Int) > 4096) by omega)]
    by_cases h1 : x1.length ≤ 4096
    · rw [decide_eq_false (show ¬ ((((x1.length : Nat) : Int) : Int) > 4096) by omega)]
      obtain ⟨t,e9,dr⟩ := draw_ok k0 h0
      have hc := dr.ch
      have n1 := hc.n1
      have n6 := hc.n2
      obtain ⟨S,e37,hS,hs⟩ := smoke_ok (t := t) k1 h1 n1 n6
      obtain ⟨p,e10,hp⟩ := pick14 k1 h1 (n := 41) (by decide)
      have e10' : r10 41 x1 = (0,(p : Int)) := e10
      have ew : ofInt .f32 (IntKind.i64.wrap ((p : Int) - 20)) = iw p := by
        rw [wrap_i64 (by omega) (by omega)]; rfl
      obtain ⟨io,so⟩ := iw_ok (i := p) (by omega)
      have hw : WOk (iw p) 0 := ⟨io.f.nn,io.l,by rw [cm60,so]; omega,by rw [c60,so]; omega,by unfold Nn; decide,by decide,by decide +kernel,by decide +kernel⟩
      have d : Dg t S (iw p) := ⟨hc,hw,hS,io,fun i hi => by
        obtain ⟨tr,_,hd⟩ := dr.ex
        obtain ⟨i',j',k',l',e',g1,g2,g3,g4,g5,g6⟩ := hd i hi
        have e : fc t i 2 = tD k' := by show Int.toNat ((t.getD i []).getD 2 0) = _; rw [g5]; rfl
        rw [e,tD_iw g3]
        exact (iw_ok (by omega)).1,fun i hi => by
        obtain ⟨n,hn,g⟩ := hs i hi
        have e : fc S i 0 = iw (n + 20) := by show Int.toNat ((S.getD i []).getD 0 0) = _; rw [g]; rfl
        rw [e]
        exact (iw_ok (by omega)).1⟩
      have e12 := (flows_both hc hw).1
      show st6s1 x0 x1 = _
      unfold st6s1
      simp only [e9,e37,e10',ew,e12,Nat.beq,cond_true,cond_false]
      exact law_end d
    · rw [decide_eq_true (show ((((x1.length : Nat) : Int) : Int) > 4096) by omega)]; rfl
  · rw [decide_eq_true (show ((((x0.length : Nat) : Int) : Int) > 4096) by omega)]; rfl
end Go.Proofs.Ytmknfenjnladeaa
