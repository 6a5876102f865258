/- What an operation does to the evaluator's own state; what it looks at. -/
import Derived.Test.YtbmagccjcccnaaaA12
namespace Go.Ab

section
variable {P : Program} {ext : FuncId → Option Ext} {cf : CallF}

theorem putN_len {s s' : St} {a : Addr} {vs : List Value} (h : firstT (stN s a vs) = some s') : s'.h.length = s.h.length ∧ s'.lo = s.lo ∧ (s'.touched = false → s.touched = false) := by
  have hm := firstT_mem h
  unfold stN at hm
  split at hm
  · rw [List.mem_map] at hm
    obtain ⟨⟨b, c'⟩, _, e⟩ := hm
    simp only [Prod.mk.injEq] at e
    obtain ⟨_, rfl⟩ := e
    exact ⟨by simp, rfl, fun ht => by simp only [Bool.or_eq_false_iff] at ht; exact ht.1⟩
  · cases hm

theorem append_len {s s' : St} {t : TypeId} {x y v : Value} (h : firstT (evAppend P s t x y) = some (v, s')) : s.h.length ≤ s'.h.length ∧ s'.lo = s.lo ∧ (s'.touched = false → s.touched = false) := by
  unfold evAppend at h
  split at h
  case h_2 => cases h
  split at h
  case h_2 => cases h
  split at h
  case isFalse => cases h
  split at h
  · obtain ⟨_, e⟩ := firstT_one h
    cases e
    exact ⟨by simp, rfl, id⟩
  · split at h
    case h_2 => cases h
    split at h
    case h_2 => cases h
    split at h
    case isFalse => cases h
    obtain ⟨_, e⟩ := firstT_one h
    cases e
    exact ⟨by simp, rfl, fun ht => by simp only [Bool.or_eq_false_iff] at ht; exact ht.1⟩

/-- what kind of step it is -/
structure Abs (P : Program) (ext : FuncId → Option Ext) (cf : CallF) (ρ : Operand → Value) (op : Op) (s s' : St) (v : Value) (kd : Kd) : Prop where
  len : s.h.length ≤ s'.h.length
  lo : s'.lo = s.lo
  tch : s'.touched = false → s.touched = false
  rd : kd ≠ .write → (∃ new, s'.h = s.h ++ new) ∧ s'.touched = s.touched ∧ ∀ lo t, firstT (evOp P ext cf ρ op ⟨s.h, lo, t⟩) = some (v, ⟨s'.h, lo, t⟩, kd)
  pure : kd = .pure → s' = s ∧ ∀ s2, firstT (evOp P ext cf ρ op s2) = some (v, s2, .pure)

theorem Abs.of_pure {ρ : Operand → Value} {op : Op} {s : St} {v : Value} (h : ∀ s2, firstT (evOp P ext cf ρ op s2) = some (v, s2, .pure)) : Abs P ext cf ρ op s s v .pure :=
  ⟨Nat.le_refl _, rfl, id, fun _ => ⟨⟨[], by simp⟩, rfl, fun lo t => h ⟨s.h, lo, t⟩⟩, fun _ => ⟨rfl, h⟩⟩
theorem Abs.of_rd {ρ : Operand → Value} {op : Op} {s s' : St} {v : Value} (new : List Blk) (he : s'.h = s.h ++ new) (hl : s'.lo = s.lo) (ht : s'.touched = s.touched)
    (h : ∀ lo t, firstT (evOp P ext cf ρ op ⟨s.h, lo, t⟩) = some (v, ⟨s'.h, lo, t⟩, .rd)) : Abs P ext cf ρ op s s' v .rd :=
  ⟨by rw [he]; simp, hl, fun e => by rw [ht] at e; exact e, fun _ => ⟨⟨new, he⟩, ht, h⟩, fun e => by cases e⟩

theorem firstT_mapf {α β : Type} {l : List (Bool × α)} {f : α → β} {x : α} (h : firstT l = some x) : firstT (l.map fun (b, x) => (b, f x)) = some (f x) := by
  induction l with
  | nil => cases h
  | cons p l ih =>
    obtain ⟨c, y⟩ := p
    cases c with
    | true => cases h; rfl
    | false => exact ih h

theorem abs_op {ρ : Operand → Value} {op : Op} {s s' : St} {v : Value} {kd : Kd} (h : firstT (evOp P ext cf ρ op s) = some (v, s', kd)) : Abs P ext cf ρ op s s' v kd := by
  have lift : ∀ {l : List (Bool × Value)}, firstT (lift1 s .pure l) = some (v, s', kd) → (∀ s2, evOp P ext cf ρ op s2 = lift1 s2 .pure l) → Abs P ext cf ρ op s s' v kd := by
    intro l h1 h2
    obtain ⟨g1, rfl, rfl⟩ := lift1_first h1
    exact Abs.of_pure fun s2 => by rw [h2]; exact firstT_mapf (f := fun v : Value => (v, s2, Kd.pure)) g1
  have liftR : ∀ {l : List (Bool × Value)}, firstT (lift1 s .rd l) = some (v, s', kd) → (∀ lo t, evOp P ext cf ρ op ⟨s.h, lo, t⟩ = lift1 ⟨s.h, lo, t⟩ .rd l) → Abs P ext cf ρ op s s' v kd := by
    intro l h1 h2
    obtain ⟨g1, rfl, rfl⟩ := lift1_first h1
    exact Abs.of_rd [] (by simp) rfl rfl fun lo t => by rw [h2]; exact firstT_mapf (f := fun v : Value => (v, (⟨s'.h, lo, t⟩ : St), Kd.rd)) g1
  cases op <;> simp only [evOp] at h <;> (try (cases h; done))
  case move x => obtain ⟨_, e⟩ := firstT_one h; cases e; exact Abs.of_pure fun s2 => rfl
  case assign x => obtain ⟨_, e⟩ := firstT_one h; cases e; exact Abs.of_pure fun s2 => rfl
  case pick c a b =>
    have hindep : ∀ s2, evOp P ext cf ρ (.pick c a b) s2 = (match ρ c with | .bool t => (match ρ a, ρ b with | .bool u, .bool v => [(true, .bool (cond t u v), s2, .pure)] | u, v => [(t, u, s2, .pure), (true, v, s2, .pure)]) | _ => []) := fun _ => rfl
    split at h
    · rename_i t hc
      split at h
      · rename_i u1 u2 ha hb
        obtain ⟨_, e⟩ := firstT_one h
        cases e
        exact Abs.of_pure fun s2 => by rw [hindep, hc, ha, hb]; rfl
      · rename_i hx
        cases t with
        | true =>
          cases h
          exact Abs.of_pure fun s2 => by
            rw [hindep, hc]
            simp only
            rfl
        | false =>
          cases h
          exact Abs.of_pure fun s2 => by
            rw [hindep, hc]
            simp only
            rfl
    · cases h
  case alloc t =>
    split at h
    · rename_i cs hc
      obtain ⟨_, e⟩ := firstT_one h
      cases e
      exact Abs.of_rd [_] rfl rfl rfl fun lo t => by simp only [evOp, hc]; rfl
    · cases h
  case box t x =>
    split at h
    · rename_i cs hc
      obtain ⟨_, e⟩ := firstT_one h
      cases e
      exact Abs.of_rd [_] rfl rfl rfl fun lo t => by simp only [evOp, hc]; rfl
    · cases h
  case build t parts => exact lift h fun _ => rfl
  case buildSlice t len parts =>
    obtain ⟨⟨u, s2⟩, h1, e⟩ := firstT_map (f := fun p : Value × St => (p.1, p.2, Kd.rd)) h
    cases e
    have key : ∃ c, s2 = ⟨s.h ++ [⟨true, some c⟩], s.lo, s.touched⟩ ∧ ∀ lo tt, firstT (evBuildSlice P ⟨s.h, lo, tt⟩ t len (parts.toList.map fun (i, x) => (i, ρ x))) = some (u, ⟨s.h ++ [⟨true, some c⟩], lo, tt⟩) := by
      unfold evBuildSlice at h1 ⊢
      cases hcc : Nat.beq len 0 && (parts.toList.map fun (i, x) => (i, ρ x)).isEmpty with
      | true =>
      rw [hcc] at h1
      simp only [cond_true] at h1 ⊢
      unfold evEmpty at h1
      split at h1
      · rename_i e hu
        split at h1
        · rename_i m hm
          split at h1
          · rename_i c hc1 hc2
            obtain ⟨_, e⟩ := firstT_one h1
            cases e
            refine ⟨c, rfl, fun lo tt => ?_⟩
            unfold evEmpty
            simp only [hu, hm, hc1, hc2]
            rfl
          · cases h1
        · cases h1
      · cases h1
      | false =>
      rw [hcc] at h1
      simp only [cond_false] at h1 ⊢
      unfold evBuildSlice1 at h1
      split at h1
      · rename_i e hu
        split at h1
        · rename_i m z hm hz
          split at h1
          · rename_i cs hok hf
            split at h1
            · rename_i c hc
              obtain ⟨_, e⟩ := firstT_one h1
              cases e
              refine ⟨c, rfl, fun lo tt => ?_⟩
              unfold evBuildSlice1
              simp only [hu, hm, hz, hok, hf, hc]
              rfl
            · cases h1
          · cases h1
        · cases h1
      · cases h1
    obtain ⟨c, rfl, g⟩ := key
    refine Abs.of_rd [⟨true, some c⟩] rfl rfl rfl fun lo tt => ?_
    exact firstT_mapf (f := fun p : Value × St => (p.1, p.2, Kd.rd)) (g lo tt)
  case load t a => exact liftR h fun _ _ => rfl
  case makeSlice t l c =>
    obtain ⟨⟨u, s2⟩, h1, e⟩ := firstT_map (f := fun p : Value × St => (p.1, p.2, Kd.rd)) h
    cases e
    have key : ∃ c0, s2 = ⟨s.h ++ [⟨true, some c0⟩], s.lo, s.touched⟩ ∧ ∀ lo tt, firstT (evMakeSlice P ⟨s.h, lo, tt⟩ t (ρ l) (ρ c)) = some (u, ⟨s.h ++ [⟨true, some c0⟩], lo, tt⟩) := by
      unfold evMakeSlice at h1
      split at h1
      · rename_i e kl n kc k hu hl hc
        split at h1
        · rename_i m z b hm hz hb
          split at h1
          · rename_i con hok hcon
            obtain ⟨hcc, e⟩ := firstT_one h1
            cases e
            refine ⟨con, rfl, fun lo tt => ?_⟩
            unfold evMakeSlice
            simp only [hu, hl, hc, hm, hz, hb, hok, hcon, hcc]
            rfl
          · cases h1
        · cases h1
      · cases h1
    obtain ⟨c0, rfl, g⟩ := key
    refine Abs.of_rd [⟨true, some c0⟩] rfl rfl rfl fun lo tt => ?_
    exact firstT_mapf (f := fun p : Value × St => (p.1, p.2, Kd.rd)) (g lo tt)
  case store t a x =>
    obtain ⟨s2, h1, e⟩ := firstT_map (f := fun s2 : St => (undef, s2, Kd.write)) h
    cases e
    unfold evStore at h1
    split at h1
    · split at h1
      · obtain ⟨g1, g2, g3⟩ := putN_len h1
        exact ⟨Nat.le_of_eq g1.symm, g2, g3, fun e => absurd rfl e, fun e => by cases e⟩
      · cases h1
    · cases h1
  case nilCheck x =>
    split at h
    · rename_i a hx
      obtain ⟨_, e⟩ := firstT_one h; cases e
      exact Abs.of_pure fun s2 => by simp only [evOp, hx]; rfl
    · rename_i f a b hx
      obtain ⟨_, e⟩ := firstT_one h; cases e
      exact Abs.of_pure fun s2 => by simp only [evOp, hx]; rfl
    · cases h
  case binOp => exact lift h fun _ => rfl
  case unOp => exact lift h fun _ => rfl
  case convert => exact lift h fun _ => rfl
  case fieldAddr => exact lift h fun _ => rfl
  case field => exact lift h fun _ => rfl
  case indexAddr => exact liftR h fun _ _ => rfl
  case slice t x lo hi mx =>
    cases mx with
    | some mx => cases h
    | none => exact liftR h fun _ _ => rfl
  case index => exact lift h fun _ => rfl
  case extract t i =>
    split at h
    · rename_i vs ht
      split at h
      · rename_i u hu
        obtain ⟨_, e⟩ := firstT_one h; cases e
        exact Abs.of_pure fun s2 => by simp only [evOp, ht, hu]; rfl
      · cases h
    · cases h
  case call c =>
    split at h
    · rename_i f hcal
      split at h
      · rename_i g x y hf
        split at h
        · rename_i hxy
          have hev : ∀ s2, evOp P ext cf ρ (.call c) s2 = evCall ext cf g (c.args.toList.map ρ) s2 := fun s2 => by simp only [evOp, hcal, hf, hxy, and_self, if_true]
          unfold evCall at h
          cases hg : ext g with
          | some e =>
            rw [hg] at h
            simp only at h
            obtain ⟨u, h1, h2⟩ := firstT_map (f := fun v : Value => (v, s, Kd.pure)) h
            cases h2
            exact Abs.of_pure fun s2 => by
              rw [hev]; unfold evCall; rw [hg]
              exact firstT_mapf (f := fun v : Value => (v, s2, Kd.pure)) h1
          | none =>
            rw [hg] at h
            simp only at h
            cases hE : nodupB (reach s.h 100 ((c.args.toList.map ρ).flatMap addrsV) []) with
            | false => rw [hE] at h; cases h
            | true =>
              rw [hE] at h
              simp only [cond_true] at h
              obtain ⟨⟨r, s1⟩, hcall, e⟩ := firstT_mapc (f := fun p : Value × St => (relocV (outOf (reach s.h 100 ((c.args.toList.map ρ).flatMap addrsV) []) s.h.length) p.1, back s (reach s.h 100 ((c.args.toList.map ρ).flatMap addrsV) []) p.2, cond p.2.touched Kd.write Kd.rd)) h
              cases e
              simp only at *
              cases ht : s1.touched with
              | false =>
                have eb : ∀ lo tt, back ⟨s.h, lo, tt⟩ (reach s.h 100 ((c.args.toList.map ρ).flatMap addrsV) []) s1 = ⟨s.h ++ (s1.h.drop (reach s.h 100 ((c.args.toList.map ρ).flatMap addrsV) []).length).map (relocB (outOf (reach s.h 100 ((c.args.toList.map ρ).flatMap addrsV) []) s.h.length)), lo, tt⟩ := fun lo tt => by
                  unfold back; rw [ht]; rfl
                have es : s = ⟨s.h, s.lo, s.touched⟩ := rfl
                rw [es, eb s.lo s.touched]
                refine Abs.of_rd _ rfl rfl rfl fun lo tt => ?_
                rw [hev]; unfold evCall; rw [hg]
                simp only [hE, cond_true]
                have := firstT_mapf (f := fun p : Value × St => (relocV (outOf (reach s.h 100 ((c.args.toList.map ρ).flatMap addrsV) []) s.h.length) p.1, back ⟨s.h, lo, tt⟩ (reach s.h 100 ((c.args.toList.map ρ).flatMap addrsV) []) p.2, cond p.2.touched Kd.write Kd.rd)) hcall
                rw [eb lo tt] at this
                simp only [ht, cond_false] at this
                exact this
              | true =>
                unfold back
                simp only [ht, cond_true]
                exact ⟨by simp [backH], rfl, fun e => by simp only [Bool.or_eq_false_iff] at e; exact e.1, fun e => absurd rfl e, fun e => by cases e⟩
        · cases h
      · cases h
    · rename_i hcal
      split at h
      · rename_i t x ht hx
        exact liftR h fun lo tt => by simp only [evOp, hcal, ht, hx]
      · cases h
    · rename_i hcal
      split at h
      · rename_i t t2 x y ht hx
        split at h
        · obtain ⟨⟨u, s2⟩, h1, e⟩ := firstT_map (f := fun p : Value × St => (p.1, p.2, Kd.write)) h
          cases e
          obtain ⟨g1, g2, g3⟩ := append_len h1
          exact ⟨g1, g2, g3, fun e => absurd rfl e, fun e => by cases e⟩
        · cases h
      · cases h
    · cases h

/-! ### it looks at its operands alone -/
theorem evOp_congr {ρ ρ2 : Operand → Value} {op : Op} (h : ∀ x ∈ op.operands, ρ x = ρ2 x) (s : St) : evOp P ext cf ρ op s = evOp P ext cf ρ2 op s := by
  have pairs : ∀ ps : Array (Nat × Operand), (∀ x ∈ (ps.toList.map (·.2)).toArray, ρ x = ρ2 x) → (ps.toList.map fun (i, x) => (i, ρ x)) = (ps.toList.map fun (i, x) => (i, ρ2 x)) := fun ps hp =>
    List.map_congr_left fun p hm => by
      obtain ⟨i, x⟩ := p
      simp only [hp x (by simpa using ⟨i, Array.mem_toList_iff.1 hm⟩)]
  cases op <;> simp only [Op.operands] at h <;> simp only [evOp]
  case build t ps => rw [pairs ps h]
  case buildSlice t n ps => rw [pairs ps h]
  case call c =>
    have hargs : ∀ x ∈ c.args.toList, ρ x = ρ2 x := fun x hx => h x (by simp [Call.operands]; right; simpa using hx)
    cases hc : c.callee with
    | value f =>
      have hf : ρ f = ρ2 f := h f (by simp [Call.operands, hc])
      simp only [hf, List.map_congr_left hargs]
    | invoke r m => rfl
    | builtin b =>
      cases b <;> simp only
      case len =>
        cases ha : c.args.toList with
        | nil => cases c.argTypes.toList with
          | nil => rfl
          | cons t l' => cases l' <;> rfl
        | cons x l =>
          cases l with
          | nil =>
            have e := hargs x (by rw [ha]; simp)
            cases c.argTypes.toList with
            | nil => rfl
            | cons t l' => cases l' with
              | nil => simp only [e]
              | cons => rfl
          | cons y l => cases c.argTypes.toList with
            | nil => rfl
            | cons t l' => cases l' <;> rfl
      case append =>
        rcases c.argTypes.toList with _ | ⟨t, _ | ⟨t2, _ | ⟨t3, tl⟩⟩⟩ <;> rcases ha : c.args.toList with _ | ⟨x, _ | ⟨y, _ | ⟨z, l⟩⟩⟩ <;> try rfl
        have e1 := hargs x (by rw [ha]; simp)
        have e2 := hargs y (by rw [ha]; simp)
        simp only [e1, e2]
  case slice t x lo hi mx =>
    cases mx with
    | some mx => rfl
    | none =>
      have hx : ρ x = ρ2 x := h x (by simp)
      have hlo : lo.map ρ = lo.map ρ2 := by cases lo with | none => rfl | some y => simp only [Option.map_some]; rw [h y (by simp)]
      have hhi : hi.map ρ = hi.map ρ2 := by cases hi with | none => rfl | some y => simp only [Option.map_some]; rw [h y (by simp)]
      simp only [hx, hlo, hhi]
  all_goals (first | rfl | (simp_all; done))
end
end Go.Ab
