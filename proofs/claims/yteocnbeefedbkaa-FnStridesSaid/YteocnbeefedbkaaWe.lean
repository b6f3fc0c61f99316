/-
  Equality of structs and pairs of scalars; own rows that are cleared, cut short, or seen in part. Over any program. No condition.
-/
import Derived.Test.YteocnbeefedbkaaWd
import Derived.Laws.StructEq
import Derived.ChangeKeysEq
set_option linter.unusedSimpArgs false
set_option linter.unusedVariables false
namespace Go.VS

/-- Equality of rows of scalar cells. -/
def cellsEq : List PV → List PV → Option Bool
  | [], [] => some true
  | .int k a :: xs, .int k' b :: ys => match decide (k = k'), cellsEq xs ys with | true, some r => some ((a == b) && r) | _, _ => none
  | .bool a :: xs, .bool b :: ys => match cellsEq xs ys with | some r => some ((a == b) && r) | none => none
  | .str a :: xs, .str b :: ys => match cellsEq xs ys with | some r => some ((a == b) && r) | none => none
  | _, _ => none

/-- The kind of a scalar type: 0: an integer, 1: a truth value, 2: a text. -/
def scalK (P : Program) (t : TypeId) : Option Nat :=
  match tyk P t with
  | some (false, 1) => match P.underlying t with | some (.int _) => some 0 | some .bool => some 1 | some .string => some 2 | _ => none
  | _ => none

def pvK : PV → Option Nat
  | .int _ _ => some 0
  | .bool _ => some 1
  | .str _ => some 2
  | _ => none

def flatFields (P : Program) : List Field → Nat → Option (List Nat)
  | [], _ => some []
  | f :: fs, i => match (f.name != "_") && Nat.beq f.offset i, scalK P f.type, flatFields P fs (i + 1) with
    | true, some k, some ks => some (k :: ks)
    | _, _, _ => none

def flatStruct (P : Program) (t : TypeId) : Option (List Nat) :=
  match P.underlying t, P.stoodInHeld t, P.eqGuardType P.depth t with
  | some (.struct fs), false, false => flatFields P fs.toList 0
  | _, _, _ => none

section
variable {P : Program} {w : World} {S : Nat → Nat → Prop} {own : Bool}

theorem scalK_spec {t k : Nat} (h : scalK P t = some k) : tyk P t = some (false, 1) ∧ ((k = 0 ∧ ∃ i, P.underlying t = some (.int i)) ∨ (k = 1 ∧ P.underlying t = some .bool) ∨ (k = 2 ∧ P.underlying t = some .string)) := by
  unfold scalK at h
  split at h
  · rename_i h1
    refine ⟨h1, ?_⟩
    split at h
    · rename_i i h2; cases h; exact .inl ⟨rfl, i, h2⟩
    · rename_i h2; cases h; exact .inr (.inl ⟨rfl, h2⟩)
    · rename_i h2; cases h; exact .inr (.inr ⟨rfl, h2⟩)
    · cases h
  · cases h

theorem run_part_scal {t k : Nat} {cs : Array Value} {off : Nat} {v : Value} (h : scalK P t = some k) (hv : cs[off]? = some v) : (part t cs off).run P w = .ok v w := by
  have h2 := (scalK_spec h).1
  simp only [part, Sem.run_bind, run_isAgg h2, Result.andThen_ok, Sem.run_ite, hv, Sem.run_pure]
  simp

/-- Two scalars that are held to each other. -/
theorem run_eq_scal {t k : Nat} (d : Nat) (h : scalK P t = some k) {p q : PV} {u v : Value} (hp : pvK p = some k) (hq : pvK q = some k) (hu : Rep w S own p u) (hv : Rep w S own q v) {r : Bool} (hr : cellsEq [p] [q] = some r) :
    (Op.equalIn (d + 1) t u v).run P w = .ok r w := by
  obtain ⟨_, hU⟩ := scalK_spec h
  rcases hU with ⟨rfl, i, hU⟩ | ⟨rfl, hU⟩ | ⟨rfl, hU⟩
  · cases p <;> simp [pvK] at hp
    cases q <;> simp [pvK] at hq
    unfold Rep at hu hv
    subst hu hv
    rename_i k1 a k2 b
    by_cases hk : k1 = k2
    · subst hk
      simp only [cellsEq, decide_true, Option.some.injEq, Bool.and_true] at hr
      subst hr
      exact run_equalIn_int w d t _ i _ _ hU
    · simp [cellsEq, hk] at hr
  · cases p <;> simp [pvK] at hp
    cases q <;> simp [pvK] at hq
    unfold Rep at hu hv
    subst hu hv
    simp only [cellsEq, Option.some.injEq, Bool.and_true] at hr
    subst hr
    exact run_equalIn_bool' w d t _ _ hU
  · cases p <;> simp [pvK] at hp
    cases q <;> simp [pvK] at hq
    unfold Rep at hu hv
    subst hu hv
    simp only [cellsEq, Option.some.injEq, Bool.and_true] at hr
    subst hr
    rw [run_equalIn_string w d t _ _ hU, toList_mk, toList_mk]

/-- The cells of two rows, one after the other. -/
theorem cellsEq_cons {p q : PV} {ps qs : List PV} {r : Bool} (h : cellsEq (p :: ps) (q :: qs) = some r) : ∃ b r', cellsEq [p] [q] = some b ∧ cellsEq ps qs = some r' ∧ r = (b && r') := by
  cases p <;> cases q <;> simp only [cellsEq] at h ⊢ <;> first
    | (split at h
       · rename_i r' h'
         cases h
         exact ⟨_, r', rfl, h', by simp⟩
       · cases h)
    | (split at h
       · rename_i r' hk h'
         cases h
         exact ⟨_, r', by rw [hk], h', by simp⟩
       · cases h)
    | cases h

theorem run_flat (d : Nat) {us vs : Array Value} {pre qre : List PV} : ∀ (fs : List Field) (ks : List Nat) (ps qs : List PV) (i : Nat) (r : Bool), flatFields P fs i = some ks → ps.map pvK = ks.map some → qs.map pvK = ks.map some →
    Reps w S own ps (us.toList.drop i) → Reps w S own qs (vs.toList.drop i) → cellsEq ps qs = some r → (Op.eqFields (d + 1) us vs fs).run P w = .ok r w
  | [], ks, ps, qs, i, r, hf, hp, hq, _, _, hr => by
    simp only [flatFields, Option.some.injEq] at hf
    subst hf
    simp at hp hq
    subst hp hq
    simp only [cellsEq, Option.some.injEq] at hr
    subst hr
    simp [Op.eqFields]
  | f :: fs, ks, ps, qs, i, r, hf, hp, hq, hu, hv, hr => by
    simp only [flatFields] at hf
    split at hf
    · rename_i k ks' h1 h2 h3
      cases hf
      cases ps with
      | nil => simp at hp
      | cons p ps =>
      cases qs with
      | nil => simp at hq
      | cons q qs =>
      simp only [List.map_cons, List.cons.injEq] at hp hq
      obtain ⟨b, r', e1, e2, rfl⟩ := cellsEq_cons hr
      rw [Reps.cons_iff] at hu hv
      obtain ⟨u, us', eu, hu1, hu2⟩ := hu
      obtain ⟨v, vs', ev, hv1, hv2⟩ := hv
      simp only [Bool.and_eq_true, bne_iff_ne, ne_eq] at h1
      have hoff : f.offset = i := Nat.eq_of_beq_eq_true h1.2
      have gu : us[i]? = some u := by
        have : (us.toList.drop i)[0]? = some u := by rw [eu]; rfl
        rw [List.getElem?_drop] at this
        simpa using this
      have gv : vs[i]? = some v := by
        have : (vs.toList.drop i)[0]? = some v := by rw [ev]; rfl
        rw [List.getElem?_drop] at this
        simpa using this
      have du : us.toList.drop (i + 1) = us' := by
        have := congrArg (List.drop 1) eu
        rw [List.drop_drop] at this
        simpa [Nat.add_comm] using this
      have dv : vs.toList.drop (i + 1) = vs' := by
        have := congrArg (List.drop 1) ev
        rw [List.drop_drop] at this
        simpa [Nat.add_comm] using this
      have ih := run_flat (us := us) (vs := vs) (pre := pre) (qre := qre) d fs ks' ps qs (i + 1) r' h3 hp.2 hq.2 (by rw [du]; exact hu2) (by rw [dv]; exact hv2) e2
      simp only [Op.eqFields, h1.1, ne_eq, not_false_eq_true, if_true, Sem.run_bind, hoff, run_part_scal h2 gu, run_part_scal h2 gv, Result.andThen_ok, run_eq_scal d h2 hp.1 hq.1 hu1 hv1 e1, Sem.run_ite, Sem.run_pure, ih]
      cases b <;> simp
    · cases hf

theorem flatStruct_spec {t : Nat} {ks : List Nat} (h : flatStruct P t = some ks) : ∃ fs : Array Field, P.underlying t = some (.struct fs) ∧ P.stoodInHeld t = false ∧ P.eqGuardType P.depth t = false ∧ flatFields P fs.toList 0 = some ks := by
  unfold flatStruct at h
  split at h
  · rename_i fs h1 h2 h3; exact ⟨fs, h1, h2, h3, h⟩
  · cases h
end

section
variable {Φ : Ctx} {α : AEnv} {K : AEnv → Prop} {o : Oper}

theorem V1.aggEqG {d T T' : Nat} {x y : Operand} {ps qs : List PV} {ks : List Nat} {r : Bool} (neg : Bool) (ho : o.op = .binOp (if neg then .neq else .eql) T x y T') (hd : o.dst = some d)
    (hT : flatStruct Φ.P T = some ks) (hx : aeval α x = some (.agg ps)) (hy : aeval α y = some (.agg qs)) (hp : ps.map pvK = ks.map some) (hq : qs.map pvK = ks.map some) (hr : cellsEq ps qs = some r)
    (hn : d < α.n) (hk : K (α.put d (.bool (if neg then !r else r)))) : V1 Φ o α K :=
  V1.pure hd hn (fun S a w he => by
    have h1 := he.eval hx
    have h2 := he.eval hy
    unfold Rep at h1 h2
    obtain ⟨us, e1, _, r1⟩ := h1
    obtain ⟨vs, e2, _, r2⟩ := h2
    obtain ⟨fs, hT, hs, hg, hf⟩ := flatStruct_spec hT
    have hfs : Φ.P.fieldsOf T = fs := by simp [Program.fieldsOf, hT]
    refine ⟨.bool (if neg then !r else r), ?_, by unfold Rep; rfl⟩
    have h3 := run_flat (P := Φ.P) (w := w) (S := S) (own := true) (us := us.toArray) (vs := vs.toArray) (pre := []) (qre := []) 9998 fs.toList ks ps qs 0 r hf hp hq (by simpa using r1) (by simpa using r2) hr
    have h4 : (Op.equalIn 10000 T (.agg us.toArray) (.agg vs.toArray)).run Φ.P w = .ok r w := by
      rw [show (10000 : Nat) = 9999 + 1 from rfl, run_equalIn_struct w 9999 T _ _ (by rw [hfs]; exact hT) hs, hfs]
      exact h3
    cases neg with
    | false =>
      simp only [Bool.false_eq_true, if_false] at ho ⊢
      simp only [execOp, ho, e1, e2, Sem.run_bind, run_eqGuard_agg w _ _ _ _ _ _ hg, Result.andThen_ok, run_eql_struct, h4, Sem.run_pure]
    | true =>
      simp only [if_true] at ho ⊢
      simp only [execOp, ho, e1, e2, Sem.run_bind, run_eqGuard_agg w _ _ _ _ _ _ hg, Result.andThen_ok, run_neq_struct, h4, Sem.run_pure]) hk

theorem run_equal_pair {P : Program} {T e : Nat} {i : IntKind} (hT : P.underlying T = some (.array 2 e)) (he : tyk P e = some (false, 1)) (hi : P.underlying e = some (.int i)) (k k1 k2 k3 : IntKind) (a b c d : Int) (h1 : k = k2) (h2 : k1 = k3) (n : Nat) (w : World) :
    (Op.equalIn (n + 2) T (.agg #[.int k a, .int k1 b]) (.agg #[.int k2 c, .int k3 d])).run P w = .ok ((a == c) && (b == d)) w := by
  subst h1 h2
  have hp : ∀ (x y : Value), (part e #[x, y] 0).run P w = .ok x w ∧ (part e #[x, y] 1).run P w = .ok y w := fun x y => by
    constructor <;> simp [part, run_isAgg he]
  obtain ⟨inf, hinf, hsz⟩ := (tyk_spec he).2
  have hc : P.cellsOf e = 1 := by simp [Program.cellsOf, hinf, hsz]
  rw [show n + 2 = (n + 1) + 1 from rfl, run_equalIn_array w (n + 1) _ _ hT hinf, hc]
  simp only [show List.range 2 = [0, 1] from rfl, Op.eqItems, Sem.run_bind, Nat.zero_mul, Nat.one_mul, (hp _ _).1, (hp _ _).2, Result.andThen_ok, run_equalIn_int w n e _ i _ _ hi, Sem.run_ite, Sem.run_pure]
  generalize (a == c) = p
  generalize (b == d) = q
  cases p <;> cases q <;> simp

theorem V1.pairEqG {d T T' e : Nat} {i : IntKind} {x y : Operand} {k k1 : IntKind} {a b c d' : Int} (neg : Bool) (ho : o.op = .binOp (if neg then .neq else .eql) T x y T') (hd : o.dst = some d)
    (hT : Φ.P.underlying T = some (.array 2 e)) (he : tyk Φ.P e = some (false, 1)) (hi : Φ.P.underlying e = some (.int i)) (hx : aeval α x = some (.agg [.int k a, .int k1 b])) (hy : aeval α y = some (.agg [.int k c, .int k1 d']))
    (hg : Φ.P.eqGuardType Φ.P.depth T = false) (hn : d < α.n) (hk : K (α.put d (.bool (if neg then !((a == c) && (b == d')) else ((a == c) && (b == d')))))) : V1 Φ o α K :=
  V1.pure hd hn (fun S ac w hE => by
    have h1 := hE.eval hx
    have h2 := hE.eval hy
    simp only [Rep, Reps] at h1 h2
    obtain ⟨us, e1, _, u1, _, rfl, rfl, u2, _, rfl, rfl, rfl⟩ := h1
    obtain ⟨vs, e2, _, v1, _, rfl, rfl, v2, _, rfl, rfl, rfl⟩ := h2
    refine ⟨.bool (if neg then !((a == c) && (b == d')) else ((a == c) && (b == d'))), ?_, by unfold Rep; rfl⟩
    have h4 : (Op.equalIn 10000 T (.agg #[.int k a, .int k1 b]) (.agg #[.int k c, .int k1 d'])).run Φ.P w = .ok ((a == c) && (b == d')) w := run_equal_pair hT he hi k k1 k k1 a b c d' rfl rfl 9998 w
    cases neg with
    | false =>
      simp only [Bool.false_eq_true, if_false] at ho ⊢
      simp only [execOp, ho, e1, e2, Sem.run_bind, run_eqGuard_agg w _ _ _ _ _ _ hg, Result.andThen_ok, run_eql_struct, h4, Sem.run_pure]
    | true =>
      simp only [if_true] at ho ⊢
      simp only [execOp, ho, e1, e2, Sem.run_bind, run_eqGuard_agg w _ _ _ _ _ _ hg, Result.andThen_ok, run_neq_struct, h4, Sem.run_pure]) hk
end
end Go.VS
