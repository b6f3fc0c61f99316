/-
  Regions that draw their order: each operation by itself, over any program. Condition: the program's orders are mixed ones.
-/
import Derived.Test.YteocnbeefedbkaaVl
import Derived.Orders
set_option linter.unusedSimpArgs false
set_option linter.unusedVariables false
namespace Go.VS

/-- Where an operation's facts come from: slots, each with how many operations back it was filled (or none: before the region); and the guards under which it runs, so many operations back. -/
structure Src where
  facts : List (Nat × Option Nat)
  gs : List (Nat × Bool)
  pk : Option (Bool × Nat × Nat × Nat × Nat)

def afters (o : Oper) : List Nat := (o.after.toList.filter (Region.binds .any)).map (·.on)

def ancs (l : List Oper) : List Nat := l.foldl (fun acc o => acc ++ [(afters o).foldl (fun s j => s ||| 2 ^ j ||| acc.getD j 0) 0]) []

/-- The guards of operation i, by their place in the region. -/
def absG (i : Nat) (gs : List (Nat × Bool)) : List (Nat × Bool) := gs.map fun p => (i - 1 - p.1, p.2)

def chkGs (i : Nat) (src : List Src) (o : Oper) (e : Src) : Bool :=
  match o.guard, e.gs with
  | none, [] => true
  | some (g, b), (r, b') :: gs => Nat.blt r i && Nat.beq g (i - 1 - r) && (b == b') && (afters o).contains g && (match src[g]? with | some e' => decide (absG i gs = absG g e'.gs) | none => false)
  | _, _ => false

def dstIs (l : List Oper) (j t : Nat) : Bool := match l[j]? with | some q => (match q.dst with | some d => Nat.beq d t | none => false) | none => false

def gsIn (src : List Src) (j i : Nat) (e : Src) (more : List (Nat × Bool)) : Bool :=
  match src[j]? with
  | some e' => (absG j e'.gs).all fun p => (absG i e.gs ++ more).contains p
  | none => false

def notBefore (l : List Oper) (A : List Nat) (i t : Nat) : Bool := (List.range l.length).all fun j => Nat.beq j i || !(dstIs l j t) || (A.getD j 0).testBit i

def chkFact (l : List Oper) (A : List Nat) (src : List Src) (i : Nat) (o : Oper) (e : Src) : Nat × Option Nat → Bool
  | (t, some r) => Nat.blt r i && (afters o).contains (i - 1 - r) && dstIs l (i - 1 - r) t && gsIn src (i - 1 - r) i e []
  | (t, none) => notBefore l A i t

def chkPk (l : List Oper) (src : List Src) (i : Nat) (o : Oper) (e : Src) : Option (Bool × Nat × Nat × Nat × Nat) → Bool
  | none => true
  | some (want, tg, r, r1, r2) => Nat.blt r1 i && Nat.blt r2 i && (afters o).contains (i - 1 - r1) && (afters o).contains (i - 1 - r2) && dstIs l (i - 1 - r1) tg && dstIs l (i - 1 - r2) r &&
      gsIn src (i - 1 - r1) i e [] && gsIn src (i - 1 - r2) i e [(i - 1 - r1, want)] &&
      (match o.op with
       | .pick (.tmp tg') x y => Nat.beq tg' tg && !(Nat.beq tg r) && (match (if want then x else y) with | .tmp r' => Nat.beq r' r | _ => false) && (match (if want then y else x) with | .const (.bool b) => b == !want | _ => false)
       | _ => false)

def chkOp (l : List Oper) (A : List Nat) (src : List Src) (N i : Nat) (o : Oper) (e : Src) : Bool :=
  (match o.dst with | some d => Nat.blt d N && ((List.range l.length).all fun j => Nat.beq j i || !(dstIs l j d)) | none => false) &&
  (afters o).all (fun j => Nat.blt j i) && chkGs i src o e && e.facts.all (chkFact l A src i o e) && chkPk l src i o e e.pk

def chkAll (l : List Oper) (A : List Nat) (src : List Src) (N : Nat) : Bool :=
  Nat.beq src.length l.length && (List.range l.length).all fun i => match l[i]?, src[i]? with | some o, some e => chkOp l A src N i o e | _, _ => false

section
variable {Φ : Ctx} {l : List Oper} {src : List Src} {N : Nat} {E0 : List (Nat × PV)} {H : List (Nat × Obj')} {full : List PV}

/-- Operation i runs. -/
def runs (full : List PV) (i : Nat) (e : Src) : Prop := ∀ p, p ∈ absG i e.gs → full[p.1]? = some (.bool p.2)

/-- The facts D are there when operation i is next. -/
def DepsOK (l : List Oper) (src : List Src) (E0 : List (Nat × PV)) (full : List PV) (i : Nat) (o : Oper) (D : List (Nat × PV)) : Prop :=
  ∀ t x, get D t = some x → (∃ j e, j ∈ afters o ∧ dstIs l j t = true ∧ src[j]? = some e ∧ runs full j e ∧ full[j]? = some x) ∨ (get E0 t = some x ∧ notBefore l (ancs l) i t = true)

/-- What is to be shown of operation i. -/
def Ob (Φ : Ctx) (l : List Oper) (src : List Src) (N : Nat) (E0 : List (Nat × PV)) (H : List (Nat × Obj')) (full : List PV) (i : Nat) : Prop :=
  ∀ o e d, l[i]? = some o → src[i]? = some e → o.dst = some d → (∀ g b, o.guard = some (g, b) → (∃ e', src[g]? = some e' ∧ runs full g e') → ∃ c, full[g]? = some (.bool c)) ∧
    (runs full i e → ∃ p D, full[i]? = some p ∧ DepsOK l src E0 full i o D ∧ ∀ E', V1 Φ o ⟨N, D ++ E', H⟩ fun α' => α' = ⟨N, (d, p) :: (D ++ E'), H⟩)

/-! ### The walk in the text's order -/
def VP (Φ : Ctx) (l : List Oper) (src : List Src) (N : Nat) (E0 : List (Nat × PV)) (H : List (Nat × Obj')) (K : List PV → Prop) (rs : List PV) : Prop :=
  ∃ ps, (rs.reverse ++ ps).length = l.length ∧ (∀ i, rs.length ≤ i → i < l.length → Ob Φ l src N E0 H (rs.reverse ++ ps) i) ∧ K (rs.reverse ++ ps)

theorem rev_get {rs ps : List PV} {r : Nat} {x : PV} (h : rs[r]? = some x) : (rs.reverse ++ ps)[rs.length - 1 - r]? = some x := by
  have hr : r < rs.length := (List.getElem?_eq_some_iff.1 h).1
  rw [List.getElem?_append_left (by simp; omega), List.getElem?_reverse (by omega)]
  rw [← h]; congr 1; omega

/-- The facts, read off. -/
def DepsOf (E0 : List (Nat × PV)) (rs : List PV) : List (Nat × Option Nat) → List (Nat × PV) → Prop
  | [], D => D = []
  | (t, some r) :: L, D => ∃ x D1, D = (t, x) :: D1 ∧ rs[r]? = some x ∧ DepsOf E0 rs L D1
  | (t, none) :: L, D => ∃ x D1, D = (t, x) :: D1 ∧ get E0 t = some x ∧ DepsOf E0 rs L D1

/-- Under the guards. -/
def Under (rs : List PV) : List (Nat × Bool) → Prop → Prop
  | [], X => X
  | (r, b) :: gs, X => ∃ c, rs[r]? = some (.bool c) ∧ (c = b → Under rs gs X)

theorem Under.use {rs ps : List PV} : ∀ {gs : List (Nat × Bool)} {X : Prop}, Under rs gs X → (∀ p, p ∈ absG rs.length gs → (rs.reverse ++ ps)[p.1]? = some (.bool p.2)) → X
  | [], X, h, _ => h
  | (r, b) :: gs, X, ⟨c, h1, h2⟩, hr => by
    have h3 := hr (rs.length - 1 - r, b) (by simp [absG])
    have h4 := rev_get (ps := ps) h1
    simp only at h3
    rw [h3] at h4
    cases h4
    exact Under.use (h2 rfl) fun p hp => hr p (by simp only [absG, List.map_cons, List.mem_cons]; exact .inr hp)

theorem chkAll.op (hc : chkAll l (ancs l) src N = true) {i : Nat} {o : Oper} {e : Src} (ho : l[i]? = some o) (he : src[i]? = some e) : chkOp l (ancs l) src N i o e = true := by
  simp only [chkAll, Bool.and_eq_true, List.all_eq_true, List.mem_range] at hc
  have := hc.2 i (List.getElem?_eq_some_iff.1 ho).1
  simpa [ho, he] using this

theorem dstIs_iff {j t : Nat} : dstIs l j t = true ↔ ∃ q, l[j]? = some q ∧ q.dst = some t := by
  unfold dstIs
  cases hq : l[j]? with
  | none => simp
  | some q =>
    cases hd : q.dst with
    | none => simp [hd]
    | some d => simp [hd, Nat.beq_eq]

theorem DepsOf.ok {rs ps : List PV} {o : Oper} {e : Src} (he : src[rs.length]? = some e) (hr : runs (rs.reverse ++ ps) rs.length e) : ∀ {L : List (Nat × Option Nat)} {D : List (Nat × PV)}, DepsOf E0 rs L D → L.all (chkFact l (ancs l) src rs.length o e) = true →
    DepsOK l src E0 (rs.reverse ++ ps) rs.length o D
  | [], D, h, _, t, x, hx => by simp only [DepsOf] at h; subst h; cases hx
  | (s, some r) :: L, D, h, hc, t, x, hx => by
    obtain ⟨y, D1, rfl, h1, h2⟩ := h
    simp only [List.all_cons, Bool.and_eq_true] at hc
    simp only [get] at hx
    split at hx
    · rename_i e1
      have e1 := Nat.eq_of_beq_eq_true e1
      subst e1
      cases hx
      have hc1 := hc.1
      simp only [chkFact, Bool.and_eq_true] at hc1
      obtain ⟨⟨⟨h3, h4⟩, h5⟩, h6⟩ := hc1
      unfold gsIn at h6
      split at h6
      · rename_i e' he'
        refine .inl ⟨rs.length - 1 - r, e', by simpa using h4, h5, he', fun p hp => ?_, rev_get h1⟩
        simp only [List.all_eq_true, List.append_nil] at h6
        exact hr p (by simpa using h6 p hp)
      · cases h6
    · exact DepsOf.ok he hr h2 hc.2 t x hx
  | (s, none) :: L, D, h, hc, t, x, hx => by
    obtain ⟨y, D1, rfl, h1, h2⟩ := h
    simp only [List.all_cons, Bool.and_eq_true] at hc
    simp only [get] at hx
    split at hx
    · rename_i e1
      have e1 := Nat.eq_of_beq_eq_true e1
      subst e1
      cases hx
      exact .inr ⟨h1, hc.1⟩
    · exact DepsOf.ok he hr h2 hc.2 t x hx

/-- The guard's slot, if any, is a truth value. -/
theorem guard_bool {rs ps : List PV} (hc : chkAll l (ancs l) src N = true) {o : Oper} {e : Src} (ho : l[rs.length]? = some o) (he : src[rs.length]? = some e) (hgs : Under rs e.gs True) :
    ∀ g b, o.guard = some (g, b) → (∃ e', src[g]? = some e' ∧ runs (rs.reverse ++ ps) g e') → ∃ c, (rs.reverse ++ ps)[g]? = some (.bool c) := by
  intro g b hg _
  have h1 := chkAll.op hc ho he
  simp only [chkOp, Bool.and_eq_true] at h1
  have h2 := h1.1.1.2
  unfold chkGs at h2
  rw [hg] at h2
  split at h2
  · rename_i e1 e2; cases e1
  · rename_i g' b' r b'' gs e1 e2
    cases e1
    simp only [Bool.and_eq_true] at h2
    rw [e2] at hgs
    obtain ⟨c, h3, _⟩ := hgs
    refine ⟨c, ?_⟩
    rw [Nat.eq_of_beq_eq_true h2.1.1.1.2]
    exact rev_get h3
  · cases h2

theorem Under.mono {rs : List PV} : ∀ {gs : List (Nat × Bool)} {X Y : Prop}, (X → Y) → Under rs gs X → Under rs gs Y
  | [], _, _, h, hx => h hx
  | (r, b) :: gs, X, Y, h, ⟨c, h1, h2⟩ => ⟨c, h1, fun e => Under.mono h (h2 e)⟩

theorem VP.step {K : List PV → Prop} {rs : List PV} {o : Oper} {e : Src} {d : Nat} {p : PV} {D : List (Nat × PV)} (ho : l[rs.length]? = some o) (he : src[rs.length]? = some e) (hd : o.dst = some d)
    (hD : DepsOf E0 rs e.facts D) (hv : Under rs e.gs (∀ E', V1 Φ o ⟨N, D ++ E', H⟩ fun α' => α' = ⟨N, (d, p) :: (D ++ E'), H⟩))
    (rest : VP Φ l src N E0 H K (p :: rs)) (hc : chkAll l (ancs l) src N = true) : VP Φ l src N E0 H K rs := by
  obtain ⟨ps, h1, h2, h3⟩ := rest
  have e1 : (p :: rs).reverse ++ ps = rs.reverse ++ p :: ps := by simp
  rw [e1] at h1 h2 h3
  refine ⟨p :: ps, h1, fun i hi hi' => ?_, h3⟩
  rcases Nat.eq_or_lt_of_le hi with rfl | hi
  · intro o' e' d' ho' he' hd'
    rw [ho] at ho'; cases ho'
    rw [he] at he'; cases he'
    rw [hd] at hd'; cases hd'
    refine ⟨guard_bool hc ho he (hv.mono fun _ => trivial), fun hr => ⟨p, D, by simp, ?_, hv.use hr⟩⟩
    have hco := chkAll.op hc ho he
    simp only [chkOp, Bool.and_eq_true] at hco
    exact DepsOf.ok he hr hD hco.1.2
  · exact h2 i hi hi'

/-- The choice behind '&&' and '||'. -/
theorem VP.pick {K : List PV → Prop} {rs : List PV} {o : Oper} {e : Src} {d : Nat} {want c q : Bool} {tg r r1 r2 : Nat} (ho : l[rs.length]? = some o) (he : src[rs.length]? = some e) (hd : o.dst = some d)
    (hpk : e.pk = some (want, tg, r, r1, r2)) (h1 : rs[r1]? = some (.bool c)) (h2 : rs[r2]? = some (.bool q)) (hu : Under rs e.gs True)
    (rest : VP Φ l src N E0 H K (.bool (if want then c && q else c || q) :: rs)) (hc : chkAll l (ancs l) src N = true) : VP Φ l src N E0 H K rs := by
  obtain ⟨ps, g1, g2, g3⟩ := rest
  generalize hp : PV.bool (if want then c && q else c || q) = p at *
  have e1 : (p :: rs).reverse ++ ps = rs.reverse ++ p :: ps := by simp
  rw [e1] at g1 g2 g3
  refine ⟨p :: ps, g1, fun i hi hi' => ?_, g3⟩
  rcases Nat.eq_or_lt_of_le hi with rfl | hi
  · intro o' e' d' ho' he' hd'
    rw [ho] at ho'; cases ho'
    rw [he] at he'; cases he'
    rw [hd] at hd'; cases hd'
    have hco := chkAll.op hc ho he
    simp only [chkOp, Bool.and_eq_true] at hco
    obtain ⟨⟨⟨⟨hcd, _⟩, _⟩, _⟩, hcp⟩ := hco
    rw [hpk] at hcp
    simp only [chkPk, Bool.and_eq_true] at hcp
    obtain ⟨⟨⟨⟨⟨⟨⟨⟨k1, k2⟩, k3⟩, k4⟩, k5⟩, k6⟩, k7⟩, k8⟩, k9⟩ := hcp
    have hdn : d < N := by
      rw [hd] at hcd
      simp only [Bool.and_eq_true] at hcd
      exact ltb hcd.1
    split at k9
    · rename_i tg' x y hop
      simp only [Bool.and_eq_true, Bool.not_eq_true'] at k9
      obtain ⟨⟨⟨m1, m0⟩, m2'⟩, m3'⟩ := k9
      have m1 := Nat.eq_of_beq_eq_true m1
      subst m1
      have m2 : (if want then x else y) = .tmp r := by
        split at m2'
        · rename_i r' h; rw [h, Nat.eq_of_beq_eq_true m2']
        · cases m2'
      have m3 : (if want then y else x) = .const (.bool (!want)) := by
        split at m3'
        · rename_i b h; rw [h]; simp only [beq_iff_eq] at m3'; rw [m3']
        · cases m3'
      refine ⟨guard_bool hc ho he hu, fun hr => ?_⟩
      have f1 := rev_get (ps := p :: ps) h1
      have f2 := rev_get (ps := p :: ps) h2
      have hin : ∀ {j : Nat} {more : List (Nat × Bool)}, gsIn src j rs.length e more = true → (∀ p', p' ∈ more → (rs.reverse ++ p :: ps)[p'.1]? = some (.bool p'.2)) → ∃ e', src[j]? = some e' ∧ runs (rs.reverse ++ p :: ps) j e' := by
        intro j more hg hm
        unfold gsIn at hg
        split at hg
        · rename_i e' he'
          refine ⟨e', he', fun p' hp' => ?_⟩
          simp only [List.all_eq_true] at hg
          have := hg p' hp'
          simp only [List.contains_iff_mem, List.mem_append] at this
          rcases this with h | h
          · exact hr p' h
          · exact hm p' h
        · cases hg
      obtain ⟨ea, ha, hra⟩ := hin k7 (by simp)
      have fact1 : ∃ j e, j ∈ afters o ∧ dstIs l j tg' = true ∧ src[j]? = some e ∧ runs (rs.reverse ++ p :: ps) j e ∧ (rs.reverse ++ p :: ps)[j]? = some (.bool c) :=
        ⟨_, ea, by simpa using k3, k5, ha, hra, f1⟩
      by_cases hcw : c = want
      · subst hcw
        obtain ⟨eb, hb, hrb⟩ := hin k8 (by intro p' hp'; simp only [List.mem_singleton] at hp'; subst hp'; exact f1)
        refine ⟨p, [(tg', .bool c), (r, .bool q)], by simp, ?_, fun E' => ?_⟩
        · intro t x hx
          simp only [get] at hx
          split at hx
          · rename_i e1
            have e1 := Nat.eq_of_beq_eq_true e1
            subst e1
            cases hx
            exact .inl fact1
          · split at hx
            · rename_i e1
              have e1 := Nat.eq_of_beq_eq_true e1
              subst e1
              cases hx
              exact .inl ⟨_, eb, by simpa using k4, k6, hb, hrb, f2⟩
            · cases hx
        · refine V1.pick hop hd (t := c) (by simp [aeval, get]) (p := p) ?_ hdn rfl
          rw [m2]
          have hb : Nat.beq tg' r = false := by simpa using m0
          simp only [aeval, get, List.cons_append, hb, Nat.beq_refl]
          rw [← hp]
          cases c <;> simp
      · have hcw : c = !want := (by decide : ∀ c w : Bool, ¬ c = w → c = !w) c want hcw
        refine ⟨p, [(tg', .bool c)], by simp, ?_, fun E' => ?_⟩
        · intro t x hx
          simp only [get] at hx
          split at hx
          · rename_i e1
            have e1 := Nat.eq_of_beq_eq_true e1
            subst e1
            cases hx
            exact .inl fact1
          · cases hx
        · refine V1.pick hop hd (t := c) (by simp [aeval, get]) (p := p) ?_ hdn rfl
          have : (if c = true then x else y) = .const (.bool (!want)) := by rw [← m3, hcw]; cases want <;> rfl
          rw [this, ← hp, hcw]
          cases want <;> rfl
    · cases k9
  · exact g2 i hi hi'

theorem VP.pickAnd {K : List PV → Prop} {rs : List PV} {o : Oper} {e : Src} {d : Nat} {c q : Bool} {tg r r1 r2 : Nat} (ho : l[rs.length]? = some o) (he : src[rs.length]? = some e) (hd : o.dst = some d)
    (hpk : e.pk = some (true, tg, r, r1, r2)) (h1 : rs[r1]? = some (.bool c)) (h2 : rs[r2]? = some (.bool q)) (hu : Under rs e.gs True)
    (rest : VP Φ l src N E0 H K (.bool (c && q) :: rs)) (hc : chkAll l (ancs l) src N = true) : VP Φ l src N E0 H K rs :=
  VP.pick (want := true) ho he hd hpk h1 h2 hu rest hc

theorem VP.pickOr {K : List PV → Prop} {rs : List PV} {o : Oper} {e : Src} {d : Nat} {c q : Bool} {tg r r1 r2 : Nat} (ho : l[rs.length]? = some o) (he : src[rs.length]? = some e) (hd : o.dst = some d)
    (hpk : e.pk = some (false, tg, r, r1, r2)) (h1 : rs[r1]? = some (.bool c)) (h2 : rs[r2]? = some (.bool q)) (hu : Under rs e.gs True)
    (rest : VP Φ l src N E0 H K (.bool (c || q) :: rs)) (hc : chkAll l (ancs l) src N = true) : VP Φ l src N E0 H K rs :=
  VP.pick (want := false) ho he hd hpk h1 h2 hu rest hc

/-! ### Any order -/
def At (listed : Array Bool) (j : Nat) : Prop := listed.getD j false = true

def Closed (ops : Array Oper) (listed : Array Bool) : Prop := ∀ j o, At listed j → ops[j]? = some o → ∀ k, k ∈ afters o → At listed k

theorem mem_afters {o : Oper} {k : Nat} : k ∈ afters o ↔ ∃ e, e ∈ o.after ∧ Region.binds .any e = true ∧ e.on = k := by
  simp [afters, List.mem_map, List.mem_filter, and_assoc]

theorem mask_spec (acc : List Nat) : ∀ (as : List Nat) (s i : Nat), (as.foldl (fun s j => s ||| 2 ^ j ||| acc.getD j 0) s).testBit i = true → s.testBit i = true ∨ ∃ j, j ∈ as ∧ (i = j ∨ (acc.getD j 0).testBit i = true)
  | [], s, i, h => .inl h
  | a :: as, s, i, h => by
    rcases mask_spec acc as _ i h with h1 | ⟨j, hj, h2⟩
    · simp only [Nat.testBit_or, Bool.or_eq_true, Nat.testBit_two_pow, decide_eq_true_eq] at h1
      rcases h1 with (h1 | h1) | h1
      · exact .inl h1
      · exact .inr ⟨a, by simp, .inl h1.symm⟩
      · exact .inr ⟨a, by simp, .inr h1⟩
    · exact .inr ⟨j, by simp [hj], h2⟩

theorem ancs_go {ops : Array Oper} {listed : Array Bool} (hc : Closed ops listed) : ∀ (rest : List Oper) (acc : List Nat), (∀ (j : Nat) (o : Oper), rest[j]? = some o → ops[acc.length + j]? = some o) → (∀ j i, (acc.getD j 0).testBit i = true → At listed j → At listed i) →
    ∀ j i, ((rest.foldl (fun acc o => acc ++ [(afters o).foldl (fun s j => s ||| 2 ^ j ||| acc.getD j 0) 0]) acc).getD j 0).testBit i = true → At listed j → At listed i
  | [], acc, _, h, j, i, hb, hl => h j i hb hl
  | o :: rest, acc, hr, h, j, i, hb, hl => by
    refine ancs_go hc rest _ ?_ ?_ j i hb hl
    · intro j q hq
      have := hr (j + 1) q (by simpa using hq)
      simp only [List.length_append, List.length_singleton]
      rw [← this]; congr 1; omega
    · intro j i hb hl
      rcases Nat.lt_trichotomy j acc.length with hj | hj | hj
      · refine h j i ?_ hl
        simpa [List.getElem?_append_left hj] using hb
      · subst hj
        simp only [List.getD_eq_getElem?_getD, List.getElem?_concat_length, Option.getD_some] at hb
        have hb' := mask_spec acc (afters o) 0 i (by simpa only [List.getD_eq_getElem?_getD] using hb)
        rcases hb' with hb' | ⟨k, hk, hb'⟩
        · simp at hb'
        · have hka := hc _ o hl (hr 0 o rfl) k hk
          rcases hb' with rfl | hb'
          · exact hka
          · exact h k i hb' hka
      · rw [List.getD_eq_getElem?_getD, List.getElem?_eq_none (by simp; omega)] at hb
        simp at hb

theorem ancs_spec {ops : Array Oper} {listed : Array Bool} (hc : Closed ops listed) {l : List Oper} (hl : ∀ (j : Nat) (o : Oper), l[j]? = some o → ops[j]? = some o) {j i : Nat} (h : ((ancs l).getD j 0).testBit i = true) (hj : At listed j) : At listed i :=
  ancs_go hc l [] (by simpa using hl) (by simp) j i h hj

/-- How many are left. -/
def unl (listed : Array Bool) : Nat → Nat
  | 0 => 0
  | m + 1 => unl listed m + (if listed.getD m false then 0 else 1)

theorem unl_set {listed : Array Bool} {i : Nat} (hi : i < listed.size) (h0 : listed.getD i false = false) : ∀ m, unl (listed.setIfInBounds i true) m + (if i < m then 1 else 0) = unl listed m
  | 0 => by simp [unl]
  | m + 1 => by
    have ih := unl_set hi h0 m
    simp only [unl]
    by_cases hm : i = m
    · subst hm
      have h1 : (listed.setIfInBounds i true).getD i false = true := by simp [hi]
      rw [h1, h0]
      simp at ih ⊢
      omega
    · rw [getD_set_ne false hm]
      have : (i < m + 1) ↔ i < m := by omega
      simp only [this]
      omega

theorem unl_zero {listed : Array Bool} : ∀ {m : Nat}, unl listed m = 0 → ∀ j, j < m → At listed j
  | 0, _, j, hj => by omega
  | m + 1, h, j, hj => by
    simp only [unl] at h
    rcases Nat.lt_or_ge j m with h1 | h1
    · exact unl_zero (by omega) j h1
    · have : j = m := by omega
      subst this
      unfold At
      cases hx : listed.getD j false with
      | true => rfl
      | false => simp [hx] at h

theorem At.set {listed : Array Bool} {i j : Nat} (hi : i < listed.size) : At (listed.setIfInBounds i true) j ↔ j = i ∨ At listed j := by
  unfold At
  by_cases h : i = j
  · subst h; simp [hi]
  · rw [getD_set_ne false h]
    constructor
    · exact .inr
    · rintro (rfl | h1)
      · exact absurd rfl h
      · exact h1

theorem ready_iff {ops : Array Oper} {listed : Array Bool} (hs : listed.size = ops.size) {j : Nat} : j ∈ Region.ready .any ops listed ↔ ¬ At listed j ∧ ∃ o, ops[j]? = some o ∧ ∀ k, k ∈ afters o → At listed k := by
  rw [mem_ready]
  constructor
  · rintro ⟨h1, o, h2, h3⟩
    have hj := (Array.getElem?_eq_some_iff.1 h2).1
    refine ⟨fun h => ?_, o, h2, fun k hk => ?_⟩
    · unfold At at h
      simp [hs, hj] at h h1
      rw [h1] at h; cases h
    · obtain ⟨e, he, hb, rfl⟩ := mem_afters.1 hk
      exact h3 e he hb
  · rintro ⟨h1, o, h2, h3⟩
    have hj := (Array.getElem?_eq_some_iff.1 h2).1
    refine ⟨?_, o, h2, fun e he hb => h3 _ (mem_afters.2 ⟨e, he, hb, rfl⟩)⟩
    unfold At at h1
    simp [hs, hj] at h1 ⊢
    exact h1

/-- What a state shows in which some operations have run. -/
structure Mid (Φ : Ctx) (l : List Oper) (src : List Src) (N : Nat) (E0 : List (Nat × PV)) (H : List (Nat × Obj')) (full : List PV) (listed : Array Bool) (a : Act) (w : World) (E : List (Nat × PV)) : Prop where
  er : ER Φ ⟨N, E, H⟩ a w
  done : ∀ j e q d, At listed j → src[j]? = some e → l[j]? = some q → q.dst = some d → (runs full j e → ∃ p, full[j]? = some p ∧ get E d = some p) ∧ (¬ runs full j e → get E d = some .undef)
  old : ∀ t x, get E0 t = some x → (∀ j, At listed j → dstIs l j t = false) → get E t = some x

theorem get_append {D E : List (Nat × PV)} {t : Nat} : get (D ++ E) t = match get D t with | some x => some x | none => get E t := by
  induction D with
  | nil => rfl
  | cons p D ih =>
    obtain ⟨s, x⟩ := p
    simp only [List.cons_append, get]
    split <;> first | rfl | exact ih

theorem src_of (hc : chkAll l (ancs l) src N = true) {i : Nat} {o : Oper} (ho : l[i]? = some o) : ∃ e, src[i]? = some e := by
  simp only [chkAll, Bool.and_eq_true] at hc
  have := Nat.eq_of_beq_eq_true hc.1
  have h1 := (List.getElem?_eq_some_iff.1 ho).1
  exact ⟨_, List.getElem?_eq_getElem (by omega)⟩

theorem Mid.step {ops : Array Oper} {listed : Array Bool} {a : Act} {w : World} {E : List (Nat × PV)} {Q : Exit → Act → World → Prop} (hc : chkAll l (ancs l) src N = true) (hl : ∀ (j : Nat) (o : Oper), l[j]? = some o → ops[j]? = some o)
    (hcl : Closed ops listed) (hM : Mid Φ l src N E0 H full listed a w E) {i : Nat} {o : Oper} (ho : l[i]? = some o) (hi : ¬ At listed i) (hsz : i < listed.size) (haf : ∀ k, k ∈ afters o → At listed k) (hob : Ob Φ l src N E0 H full i) :
    wpOp Φ.P ops Q i (fun a' w' => ∃ E', Mid Φ l src N E0 H full (listed.setIfInBounds i true) a' w' E') a w := by
  obtain ⟨e, he⟩ := src_of hc ho
  have hco := chkAll.op hc ho he
  simp only [chkOp, Bool.and_eq_true] at hco
  obtain ⟨⟨⟨⟨c1, c2⟩, c3⟩, c4⟩, c5⟩ := hco
  cases hd : o.dst with
  | none => rw [hd] at c1; simp at c1
  | some d =>
  rw [hd] at c1
  simp only [Bool.and_eq_true, List.all_eq_true, List.mem_range] at c1
  have hdn : d < N := ltb c1.1
  have hone : ∀ j q, l[j]? = some q → q.dst = some d → j = i := by
    intro j q hq hqd
    have := c1.2 j (List.getElem?_eq_some_iff.1 hq).1
    rw [dstIs_iff.2 ⟨q, hq, hqd⟩] at this
    simp only [Bool.not_true, Bool.or_false] at this
    exact Nat.eq_of_beq_eq_true this
  obtain ⟨hgb, hv⟩ := hob o e d ho he hd
  -- the next state
  have next : ∀ {a' : Act} {w' : World} {x : PV} {D : List (Nat × PV)}, (∀ t y, get D t = some y → get E t = some y) → ER Φ ⟨N, (d, x) :: (D ++ E), H⟩ a' w' → ((runs full i e → full[i]? = some x) ∧ (¬ runs full i e → x = .undef)) →
      ∃ E', Mid Φ l src N E0 H full (listed.setIfInBounds i true) a' w' E' := by
    intro a' w' x D hD her hx
    have hget : ∀ t, t ≠ d → get ((d, x) :: (D ++ E)) t = get E t := by
      intro t ht
      simp only [get]
      have : Nat.beq d t = false := by
        cases hb : Nat.beq d t with
        | true => exact absurd (Nat.eq_of_beq_eq_true hb).symm ht
        | false => rfl
      rw [this]
      simp only [get_append]
      cases hdt : get D t with
      | none => rfl
      | some y => exact (hD t y hdt).symm
    have hgd : get ((d, x) :: (D ++ E)) d = some x := by simp only [get, Nat.beq_refl]
    refine ⟨_, her, ?_, ?_⟩
    · intro j e' q d' hj he' hq hqd
      rcases (At.set hsz).1 hj with rfl | hj'
      · rw [he] at he'; cases he'
        rw [ho] at hq; cases hq
        rw [hd] at hqd; cases hqd
        rw [hgd]
        exact ⟨fun hr => ⟨x, hx.1 hr, rfl⟩, fun hr => by rw [hx.2 hr]⟩
      · have hne : d' ≠ d := by
          rintro rfl
          have := hone j q hq hqd
          subst this
          exact hi hj'
        rw [hget d' hne]
        exact hM.done j e' q d' hj' he' hq hqd
    · intro t y hy hno
      have hne : t ≠ d := by
        rintro rfl
        have := hno i ((At.set hsz).2 (.inl rfl))
        rw [dstIs_iff.2 ⟨o, ho, hd⟩] at this
        cases this
      rw [hget t hne]
      exact hM.old t y hy fun j hj => hno j ((At.set hsz).2 (.inr hj))
  unfold wpOp
  rw [hl i o ho]
  simp only
  -- does it run?
  have hrun : (Region.wanted o (yielded ops a.tmps) = true ∧ runs full i e) ∨ (Region.wanted o (yielded ops a.tmps) = false ∧ ¬ runs full i e) := by
    cases hg : o.guard with
    | none =>
      refine .inl ⟨by simp [Region.wanted, hg], ?_⟩
      unfold chkGs at c3
      rw [hg] at c3
      split at c3
      · rename_i e1; intro p hp; rw [e1] at hp; simp [absG] at hp
      · rename_i e1 _; cases e1
      · cases c3
    | some gb =>
      obtain ⟨g, b⟩ := gb
      unfold chkGs at c3
      rw [hg] at c3
      split at c3
      · rename_i e1 _; cases e1
      · rename_i g' b' r b'' gs e1 e2
        cases e1
        simp only [Bool.and_eq_true, beq_iff_eq] at c3
        obtain ⟨⟨⟨⟨k1, k2⟩, k3⟩, k4⟩, k5⟩ := c3
        subst k3
        have k2 := Nat.eq_of_beq_eq_true k2
        split at k5
        · rename_i eg heg
          have k5 : absG i gs = absG g eg.gs := by simpa using k5
          have hga : At listed g := haf g (by simpa using k4)
          have hri : runs full i e ↔ full[g]? = some (.bool b) ∧ runs full g eg := by
            unfold runs
            rw [e2]
            simp only [absG, List.map_cons, List.mem_cons, forall_eq_or_imp] at k5 ⊢
            rw [k5, ← k2]
          have hgi : g < i := ltb (by
            simp only [List.all_eq_true] at c2
            exact c2 g (by simpa using k4))
          have hgl : g < l.length := by have := (List.getElem?_eq_some_iff.1 ho).1; omega
          obtain ⟨q, hq⟩ : ∃ q, l[g]? = some q := ⟨_, List.getElem?_eq_getElem hgl⟩
          have hcq := chkAll.op hc hq heg
          simp only [chkOp, Bool.and_eq_true] at hcq
          cases hqd : q.dst with
          | none => have := hcq.1.1.1.1; rw [hqd] at this; simp at this
          | some dg =>
          obtain ⟨m1, m2⟩ := hM.done g eg q dg hga heg hq hqd
          have hyv : ∀ v, a.tmps[dg]? = some v → yielded ops a.tmps g = match v with | .bool b => some b | _ => none := by
            intro v hv
            simp only [yielded, hl g q hq, Option.bind_some, hqd, hv]
            cases v <;> rfl
          obtain ⟨S, hE⟩ := hM.er
          by_cases hrg : runs full g eg
          · obtain ⟨c, hcv⟩ := hgb g b hg ⟨eg, heg, hrg⟩
            obtain ⟨p, hp1, hp2⟩ := m1 hrg
            rw [hcv] at hp1; cases hp1
            obtain ⟨v, hv1, hv2⟩ := hE.slots dg _ hp2
            unfold Rep at hv2
            subst hv2
            have hy := hyv _ hv1
            simp only at hy
            by_cases hcb : c = b
            · subst hcb
              exact .inl ⟨by simp [Region.wanted, hg, hy], hri.2 ⟨hcv, hrg⟩⟩
            · refine .inr ⟨by simp [Region.wanted, hg, hy, hcb], fun h => ?_⟩
              rw [(hri.1 h).1] at hcv
              cases hcv
              exact hcb rfl
          · obtain ⟨v, hv1, hv2⟩ := hE.slots dg _ (m2 hrg)
            unfold Rep at hv2
            subst hv2
            have hy := hyv _ hv1
            exact .inr ⟨by simp [Region.wanted, hg, hy, undef], fun h => hrg (hri.1 h).2⟩
        · cases k5
      · cases c3
  rcases hrun with ⟨hw, hr⟩ | ⟨hw, hr⟩
  · rw [if_pos hw]
    left
    obtain ⟨p, D, hp, hD, hV⟩ := hv hr
    have hDE : ∀ t y, get D t = some y → get E t = some y := by
      intro t y hy
      rcases hD t y hy with ⟨j, ej, h1, h2, h3, h4, h5⟩ | ⟨h1, h2⟩
      · obtain ⟨q, hq, hqd⟩ := dstIs_iff.1 h2
        obtain ⟨p', h6, h7⟩ := (hM.done j ej q t (haf j h1) h3 hq hqd).1 h4
        rw [h5] at h6; cases h6
        exact h7
      · refine hM.old t y h1 fun j hj => ?_
        cases hdj : dstIs l j t with
        | false => rfl
        | true =>
          exfalso
          obtain ⟨q, hq, _⟩ := dstIs_iff.1 hdj
          simp only [notBefore, List.all_eq_true, List.mem_range] at h2
          have := h2 j (List.getElem?_eq_some_iff.1 hq).1
          rw [hdj] at this
          simp only [Bool.not_true, Bool.or_false, Bool.or_eq_true] at this
          rcases this with h3 | h3
          · have := Nat.eq_of_beq_eq_true h3
            subst this
            exact hi hj
          · exact hi (ancs_spec hcl hl h3 hj)
    have hER : ER Φ ⟨N, D ++ E, H⟩ a w := by
      obtain ⟨S, hE⟩ := hM.er
      refine ⟨S, { hE with slots := fun t x hx => hE.slots t x ?_ }⟩
      simp only [get_append] at hx
      split at hx
      · rename_i y hy; cases hx; exact hDE t x hy
      · exact hx
    have := hV E a w hER
    have h2 : o.wp Φ.P a w (fun a' w' => ∃ E', Mid Φ l src N E0 H full (listed.setIfInBounds i true) a' w' E') (fun _ _ _ => False) :=
      Oper.wp_mono (fun a' w' ⟨α', h1, h2⟩ => by subst h1; exact next hDE h2 ⟨fun _ => hp, fun h => absurd hr h⟩) this
    clear this
    unfold Oper.wp at *
    generalize (execOp a.eval o).run Φ.P w = r at *
    cases r with
    | ok n w' =>
      cases n <;> simp only [Oper.upon] at h2 ⊢ <;> first
        | exact h2
        | (refine Calls.mono h2 ?_; intro e w'' he; cases e <;> first | exact he | exact he.elim | (obtain ⟨_, _, h⟩ := he; exact h.elim))
    | halt x w' => cases x <;> simp only [Oper.upon] at h2 ⊢
  · rw [hw]
    simp only [Bool.false_eq_true, if_false, hd]
    obtain ⟨S, hE⟩ := hM.er
    refine next (D := []) (x := .undef) (fun t y hy => by cases hy) ⟨S, ?_⟩ ⟨fun h => absurd h hr, fun _ => rfl⟩
    exact hE.put (d := d) hdn (by unfold Rep; rfl)

/-- The operations behind those in any order: each waits for all before it. -/
def chkTail (l tl : List Oper) : Bool :=
  (List.range tl.length).all fun k => Nat.beq ((ancs (l ++ tl)).getD (l.length + k) 0) (2 ^ (l.length + k) - 1) && (match tl[k]? with | some o => (afters o).all fun j => Nat.blt j (l.length + k) | none => false)

theorem Closed.set {ops : Array Oper} {listed : Array Bool} (hcl : Closed ops listed) {i : Nat} (hi : i < listed.size) (hr : ∀ o, ops[i]? = some o → ∀ k, k ∈ afters o → At listed k) : Closed ops (listed.setIfInBounds i true) := by
  intro j o hj ho k hk
  refine (At.set hi).2 (.inr ?_)
  rcases (At.set hi).1 hj with rfl | hj
  · exact hr o ho k hk
  · exact hcl j o hj ho k hk

/-- A tail operation that is ready has all before it behind it. -/
theorem tail_ready {tl : List Oper} {listed : Array Bool} (ht : chkTail l tl = true) (hs : listed.size = (l ++ tl).toArray.size) (hcl : Closed (l ++ tl).toArray listed) {i : Nat} (hi : i ∈ Region.ready .any (l ++ tl).toArray listed) (hil : l.length ≤ i) :
    ∀ j, j < i → At listed j := by
  obtain ⟨h1, o, h2, h3⟩ := (ready_iff hs).1 hi
  have hsz : i < (l ++ tl).toArray.size := (Array.getElem?_eq_some_iff.1 h2).1
  have hsz' : i < listed.size := by omega
  have hcl' := hcl.set hsz' (fun o' h => by rw [h2] at h; cases h; exact h3)
  intro j hj
  simp only [chkTail, List.all_eq_true, List.mem_range, Bool.and_eq_true] at ht
  have hk := (ht (i - l.length) (by simp at hsz; omega)).1
  rw [show l.length + (i - l.length) = i by omega] at hk
  have hm := Nat.eq_of_beq_eq_true hk
  have := ancs_spec hcl' (l := l ++ tl) (fun j o h => by simpa using h) (j := i) (i := j) (by rw [hm, Nat.testBit_two_pow_sub_one]; simpa using hj) ((At.set hsz').2 (.inl rfl))
  rcases (At.set hsz').1 this with rfl | h
  · omega
  · exact h

theorem wpOp_of_list {tl : List Oper} {ops : Array Oper} {Q : Exit → Act → World → Prop} {i : Nat} {o : Oper} (h : ops[i]? = some o) {a : Act} {w : World} (hw : wpList Φ.P ops Q (o :: tl) a w) : wpOp Φ.P ops Q i (wpList Φ.P ops Q tl) a w := by
  unfold wpOp
  unfold wpList at hw
  rw [h]
  exact hw

theorem tail_go {tl : List Oper} {Q : Exit → Act → World → Prop} (ht : chkTail l tl = true) : ∀ (fuel k : Nat) (listed : Array Bool) (a : Act) (w : World), listed.size = (l ++ tl).toArray.size → Closed (l ++ tl).toArray listed → (∀ j, At listed j ↔ j < l.length + k) → k ≤ tl.length →
    tl.length - k ≤ fuel → wpList Φ.P (l ++ tl).toArray Q (tl.drop k) a w → wpAny Φ.P .any (l ++ tl).toArray Q fuel listed a w := by
  intro fuel
  induction fuel with
  | zero =>
    intro k listed a w hs hcl ha hk hf hw
    have hk : k = tl.length := by omega
    subst hk
    rw [List.drop_length] at hw
    refine wpAny_done ?_ hw 0
    rw [List.eq_nil_iff_forall_not_mem]
    intro i hi
    obtain ⟨h1, o, h2, _⟩ := (ready_iff hs).1 hi
    have := (Array.getElem?_eq_some_iff.1 h2).1
    simp at this
    exact h1 ((ha i).2 this)
  | succ fuel ih =>
    intro k listed a w hs hcl ha hk hf hw
    rcases Nat.eq_or_lt_of_le hk with rfl | hk'
    · rw [List.drop_length] at hw
      refine wpAny_done ?_ hw _
      rw [List.eq_nil_iff_forall_not_mem]
      intro i hi
      obtain ⟨h1, o, h2, _⟩ := (ready_iff hs).1 hi
      have := (Array.getElem?_eq_some_iff.1 h2).1
      simp at this
      exact h1 ((ha i).2 this)
    · have hget : (l ++ tl).toArray[l.length + k]? = some tl[k] := by simp [hk']
      have hsz : l.length + k < listed.size := by rw [hs]; simp; omega
      have hwait : ∀ q, q ∈ afters tl[k] → At listed q := by
        intro q hq
        simp only [chkTail, List.all_eq_true, List.mem_range, Bool.and_eq_true] at ht
        have h1 := (ht k hk').2
        rw [List.getElem?_eq_getElem hk'] at h1
        simp only [List.all_eq_true] at h1
        exact (ha q).2 (ltb (h1 q hq))
      refine wpAny_all (rs := Region.ready .any (l ++ tl).toArray listed) rfl ?_ ?_
      · intro h
        have : l.length + k ∈ Region.ready .any (l ++ tl).toArray listed := (ready_iff hs).2 ⟨fun h => by have := (ha _).1 h; omega, _, hget, hwait⟩
        rw [h] at this
        cases this
      · intro i hi
        have hni := ((ready_iff hs).1 hi).1
        have hge : l.length + k ≤ i := by
          rcases Nat.lt_or_ge i (l.length + k) with h | h
          · exact absurd ((ha i).2 h) hni
          · exact h
        have hall := tail_ready ht hs hcl hi (by omega)
        have hik : i = l.length + k := by
          rcases Nat.lt_or_ge (l.length + k) i with h | h
          · have := (ha _).1 (hall _ h); omega
          · omega
        subst hik
        rw [List.drop_eq_getElem_cons hk'] at hw
        refine wpOp_mono (fun a' w' h => ?_) (wpOp_of_list hget hw)
        refine ih (k + 1) _ a' w' (by simpa using hs) (hcl.set hsz fun o h => by rw [hget] at h; cases h; exact hwait) (fun j => ?_) hk' (by omega) h
        rw [At.set hsz, ha]
        omega

theorem any_go {tl : List Oper} {Q : Exit → Act → World → Prop} (hc : chkAll l (ancs l) src N = true) (ht : chkTail l tl = true) (hob : ∀ i, i < l.length → Ob Φ l src N E0 H full i)
    (hfin : ∀ listed a w E, (∀ j, j < l.length → At listed j) → Mid Φ l src N E0 H full listed a w E → wpList Φ.P (l ++ tl).toArray Q tl a w) :
    ∀ (fuel : Nat) (listed : Array Bool) (a : Act) (w : World) (E : List (Nat × PV)), listed.size = (l ++ tl).toArray.size → Closed (l ++ tl).toArray listed → (∀ j, l.length ≤ j → ¬ At listed j) → Mid Φ l src N E0 H full listed a w E →
      unl listed l.length + tl.length ≤ fuel → wpAny Φ.P .any (l ++ tl).toArray Q fuel listed a w := by
  intro fuel
  have hl : ∀ (j : Nat) (o : Oper), l[j]? = some o → (l ++ tl).toArray[j]? = some o := by
    intro j o h
    have := (List.getElem?_eq_some_iff.1 h).1
    simp only [List.getElem?_toArray]
    rw [List.getElem?_append_left this]; exact h
  induction fuel with
  | zero =>
    intro listed a w E hs hcl hno hM hf
    have hall := unl_zero (listed := listed) (m := l.length) (by omega)
    exact tail_go ht 0 0 listed a w hs hcl (fun j => ⟨fun h => by rcases Nat.lt_or_ge j l.length with h1 | h1; exact h1; exact absurd h (hno j h1), fun h => hall j h⟩) (by omega) (by omega) (hfin listed a w E hall hM)
  | succ fuel ih =>
    intro listed a w E hs hcl hno hM hf
    by_cases hall : ∀ j, j < l.length → At listed j
    · have hz : tl.length ≤ fuel + 1 := by omega
      exact tail_go ht (fuel + 1) 0 listed a w hs hcl (fun j => ⟨fun h => by rcases Nat.lt_or_ge j l.length with h1 | h1; exact h1; exact absurd h (hno j h1), fun h => hall j h⟩) (by omega) (by omega) (hfin listed a w E hall hM)
    · obtain ⟨j, hj⟩ : ∃ j, j < l.length ∧ ¬ At listed j := by
        refine Classical.byContradiction fun h => hall fun j hj => Classical.byContradiction fun h' => h ⟨j, hj, h'⟩
      obtain ⟨j, ⟨hj, hju⟩, hleast⟩ := least (p := fun j => j < l.length ∧ ¬ At listed j) ⟨j, hj⟩
      have waits : ∀ (i : Nat) (o : Oper), l[i]? = some o → ∀ k, k ∈ afters o → k < i := by
        intro i o ho k hk
        obtain ⟨e, he⟩ := src_of hc ho
        have hco := chkAll.op hc ho he
        simp only [chkOp, Bool.and_eq_true, List.all_eq_true] at hco
        exact ltb (hco.1.1.1.2 k hk)
      refine wpAny_all (rs := Region.ready .any (l ++ tl).toArray listed) rfl ?_ ?_
      · intro h
        have hq : l[j]? = some l[j] := List.getElem?_eq_getElem hj
        have : j ∈ Region.ready .any (l ++ tl).toArray listed := (ready_iff hs).2 ⟨hju, _, hl j _ hq, fun k hk => by
          have hkj := waits j _ hq k hk
          exact Classical.byContradiction fun h => absurd (hleast k ⟨by omega, h⟩) (by omega)⟩
        rw [h] at this
        cases this
      · intro i hi
        obtain ⟨hni, o, ho, hw⟩ := (ready_iff hs).1 hi
        have hil : i < l.length := by
          rcases Nat.lt_or_ge i l.length with h | h
          · exact h
          · exact absurd (tail_ready ht hs hcl hi h j (by omega)) hju
        have ho' : l[i]? = some o := by
          simp only [List.getElem?_toArray] at ho
          rw [List.getElem?_append_left hil] at ho; exact ho
        have hsz : i < listed.size := by rw [hs]; simp; omega
        refine wpOp_mono (fun a' w' ⟨E', h⟩ => ?_) (Mid.step (Q := Q) hc hl hcl hM ho' hni hsz hw (hob i hil))
        refine ih _ a' w' E' (by simpa using hs) (hcl.set hsz fun o' h => by rw [ho] at h; cases h; exact hw) (fun k hk h => ?_) h ?_
        · rcases (At.set hsz).1 h with rfl | h
          · omega
          · exact hno k hk h
        · have := unl_set hsz (by unfold At at hni; simpa using hni) l.length
          rw [if_pos hil] at this
          omega

theorem Env.drew {S : Nat → Nat → Prop} {α : AEnv} {a : Act} {w : World} (h : Env Φ S α a w) : Env Φ S α a { w with drawn := w.drawn + 1 } := by
  have := h.step (J := fun _ => False) (S' := S) (H' := α.H) (Ext.drew w) (fun _ _ h => h.elim) (fun _ _ h => h) (fun _ _ h => .inl h)
    (fun b o hb => ⟨h.obj_step (Ext.drew w) (fun _ _ h => h.elim) (fun _ _ h => h) hb id, (h.objs b o hb).2.1, (h.objs b o hb).2.2⟩) h.nodup
  exact this

def chkFin (l : List Oper) (src : List Src) : Nat × Option Nat → Bool
  | (t, some r) => Nat.blt r l.length && dstIs l (l.length - 1 - r) t && (match src[l.length - 1 - r]? with | some e => e.gs.isEmpty | none => false)
  | (t, none) => (List.range l.length).all fun j => !(dstIs l j t)

theorem DepsOf.fin {rs : List PV} (hlen : rs.length = l.length) {listed : Array Bool} {a : Act} {w : World} {E : List (Nat × PV)} (hall : ∀ j, j < l.length → At listed j) (hM : Mid Φ l src N E0 H rs.reverse listed a w E) :
    ∀ {fs : List (Nat × Option Nat)} {D : List (Nat × PV)}, DepsOf E0 rs fs D → fs.all (chkFin l src) = true → ∀ t x, get D t = some x → get E t = some x
  | [], D, h, _, t, x, hx => by simp only [DepsOf] at h; subst h; cases hx
  | (s, some r) :: fs, D, h, hc, t, x, hx => by
    obtain ⟨y, D1, rfl, h1, h2⟩ := h
    simp only [List.all_cons, Bool.and_eq_true] at hc
    simp only [get] at hx
    split at hx
    · rename_i e1
      have e1 := Nat.eq_of_beq_eq_true e1
      subst e1
      cases hx
      have hc1 := hc.1
      simp only [chkFin, Bool.and_eq_true] at hc1
      obtain ⟨⟨h3, h4⟩, h5⟩ := hc1
      split at h5
      · rename_i e he
        have hr := ltb h3
        obtain ⟨q, hq, hqd⟩ := dstIs_iff.1 h4
        obtain ⟨p, h6, h7⟩ := (hM.done _ e q s (hall _ (by omega)) he hq hqd).1 (by intro p hp; simp only [List.isEmpty_iff] at h5; rw [h5] at hp; simp [absG] at hp)
        rw [List.getElem?_reverse (by omega)] at h6
        rw [show rs.length - 1 - (l.length - 1 - r) = r by omega, h1] at h6
        cases h6
        exact h7
      · cases h5
    · exact DepsOf.fin hlen hall hM h2 hc.2 t x hx
  | (s, none) :: fs, D, h, hc, t, x, hx => by
    obtain ⟨y, D1, rfl, h1, h2⟩ := h
    simp only [List.all_cons, Bool.and_eq_true] at hc
    simp only [get] at hx
    split at hx
    · rename_i e1
      have e1 := Nat.eq_of_beq_eq_true e1
      subst e1
      cases hx
      refine hM.old s _ h1 fun j _ => ?_
      have hc1 := hc.1
      simp only [chkFin, List.all_eq_true, List.mem_range] at hc1
      rcases Nat.lt_or_ge j l.length with h | h
      · simpa using hc1 j h
      · unfold dstIs
        rw [List.getElem?_eq_none h]
    · exact DepsOf.fin hlen hall hM h2 hc.2 t x hx

/-- Behind all of l. -/
def FinK (Φ : Ctx) (l tl : List Oper) (N : Nat) (E0 : List (Nat × PV)) (H : List (Nat × Obj')) (fs : List (Nat × Option Nat)) (K : AEnv → Prop) (full : List PV) : Prop :=
  ∃ D, DepsOf E0 full.reverse fs D ∧ VO Φ (l ++ tl).toArray tl K ⟨N, D, H⟩

theorem VP.fin {tl : List Oper} {K : AEnv → Prop} {rs : List PV} {fs : List (Nat × Option Nat)} {D : List (Nat × PV)} (hlen : rs.length = l.length) (hD : DepsOf E0 rs fs D) (h : VO Φ (l ++ tl).toArray tl K ⟨N, D, H⟩) :
    VP Φ l src N E0 H (FinK Φ l tl N E0 H fs K) rs :=
  ⟨[], by simpa using hlen, fun i h1 h2 => by omega, D, by simpa using hD, h⟩

/-- A region that draws its order: the operations of l by themselves, in any order; then those of tl one after the other. fs: the slots that are needed behind l. -/
theorem V.regionD {id : Nat} {α : AEnv} {Q : Exit → AEnv → Prop} {ops : Array Oper} (l tl : List Oper) (src : List Src) (fs : List (Nat × Option Nat)) (hops : ops = (l ++ tl).toArray) (hm : Φ.P.follows .mixedOrders = true)
    (hc : chkAll l (ancs l) src α.n = true) (ht : chkTail l tl = true) (hf : fs.all (chkFin l src) = true)
    (h : chkAll l (ancs l) src α.n = true → VP Φ l src α.n α.E α.H (FinK Φ l tl α.n α.E α.H fs (Q .normal)) []) (hnd : ops.toList.all noDef = true := by rfl) : V Φ (.region id ops true) Q α := by
  subst hops
  rintro a w ⟨S, he⟩
  obtain ⟨ps, h1, h2, D, h3, h4⟩ := h hc
  simp only [List.reverse_nil, List.nil_append] at h1 h2 h3
  have hnone : ∀ j, ¬ At (Array.replicate (l ++ tl).toArray.size false) j := by
    intro j hj
    unfold At at hj
    rw [Array.getD_eq_getD_getElem?, Array.getElem?_replicate] at hj
    split at hj <;> simp at hj
  refine wpIn_mono (wpIn_region_anyR (Q := fun e a' w' => e = .normal ∧ ∃ α', Q .normal α' ∧ ER Φ α' a' w') (fun ⟨_, _, h, _⟩ => by cases h) hnd hm ?_) ?_
  · refine any_go hc ht (fun i hi => h2 i (by simp) hi) ?_ _ _ a _ α.E (by simp) ?_ ?_ ⟨⟨S, he.drew⟩, ?_, ?_⟩ ?_
    · intro listed a' w' E hall hM
      refine h4 a' w' ?_
      obtain ⟨S', hE⟩ := hM.er
      refine ⟨S', { hE with slots := fun t x hx => hE.slots t x ?_ }⟩
      exact DepsOf.fin (rs := ps.reverse) (by simpa using h1) hall (by simpa using hM) h3 hf t x hx
    · intro j o hj
      exact absurd hj (hnone j)
    · intro j _ hj
      exact absurd hj (hnone j)
    · intro j e q d hj
      exact absurd hj (hnone j)
    · exact fun t x hx _ => hx
    · have : ∀ m, m ≤ (l ++ tl).toArray.size → unl (Array.replicate (l ++ tl).toArray.size false) m ≤ m := by
        intro m
        induction m with
        | zero => simp [unl]
        | succ m ih => intro hm; simp only [unl]; have := ih (by omega); split <;> omega
      have := this l.length (by simp)
      simp at this ⊢
      omega
  · rintro e a' w' ⟨rfl, h5⟩
    exact h5

/-- A list cut in two. -/
def Split : Nat → List Oper → List Oper → List Oper → Prop
  | 0, L, l, tl => l = [] ∧ tl = L
  | _ + 1, [], _, _ => False
  | m + 1, o :: L, l, tl => ∃ l', l = o :: l' ∧ Split m L l' tl

theorem Split.eq : ∀ {m : Nat} {L l tl : List Oper}, Split m L l tl → L = l ++ tl
  | 0, L, l, tl, ⟨h1, h2⟩ => by subst h1 h2; rfl
  | m + 1, o :: L, l, tl, ⟨l', h1, h2⟩ => by subst h1; rw [Split.eq h2]; rfl

theorem V.regionM {id : Nat} {α : AEnv} {Q : Exit → AEnv → Prop} {L l tl : List Oper} (N m : Nat) (src : List Src) (fs : List (Nat × Option Nat)) (hs : Split m L l tl) (hm : Φ.P.follows .mixedOrders = true) (hN : α.n = N)
    (hc : (chkAll l (ancs l) src N && chkTail l tl && fs.all (chkFin l src)) = true)
    (h : chkAll l (ancs l) src N = true → VP Φ l src N α.E α.H (FinK Φ l tl N α.E α.H fs (Q .normal)) []) (hnd : L.all noDef = true := by rfl) : V Φ (.region id L.toArray true) Q α := by
  subst hN
  simp only [Bool.and_eq_true] at hc
  exact V.regionD l tl src fs (by rw [hs.eq]) hm hc.1.1 hc.1.2 hc.2 h (by simpa using hnd)

theorem putEq {n d : Nat} {x y : PV} {E : List (Nat × PV)} {H : List (Nat × Obj')} (h : x = y) : (⟨n, (d, x) :: E, H⟩ : AEnv) = ⟨n, (d, y) :: E, H⟩ := by rw [h]

theorem V1.boxN {α : AEnv} {K : AEnv → Prop} {o : Oper} {d t n : Nat} {x : Operand} {p : PV} (ho : o.op = .box t x) (hd : o.dst = some d) (hx : aeval α x = some p) (h0 : Nat.blt 0 n = true) (hp : p.good n = true) (hn : d < α.n)
    (hk : ∀ b, K ⟨α.n, (d, .ref b n 0 0) :: α.E, (b, ⟨n, [p]⟩) :: α.H⟩) : V1 Φ o α K := by
  obtain ⟨m, rfl⟩ : ∃ m, n = m + 1 := ⟨n - 1, by have := ltb h0; omega⟩
  exact V1.box ho hd hx hp hn hk

theorem set_keys {H : List (Nat × Obj')} {k : Nat} {p : Nat × Obj'} {ob : Obj'} (h : H[k]? = some (p.1, ob)) : (H.set k p).map Prod.fst = H.map Prod.fst := by
  rw [List.map_set]
  have : (H.map Prod.fst)[k]? = some p.1 := by rw [List.getElem?_map, h]; rfl
  obtain ⟨hk, he⟩ := List.getElem?_eq_some_iff.1 this
  rw [← he]
  exact List.set_getElem_self hk

/-- An object in other words. -/
theorem Keeps.sayObj {α : AEnv} (k : Nat) {b n : Nat} {xs ys : List PV} (hb : α.H[k]? = some (b, ⟨n, xs⟩)) (h : xs = ys) : Keeps Φ α ⟨α.n, α.E, α.H.set k (b, ⟨n, ys⟩)⟩ := by
  subst h
  have : α.H.set k (b, ⟨n, xs⟩) = α.H := by
    obtain ⟨hk, he⟩ := List.getElem?_eq_some_iff.1 hb
    rw [← he]
    exact List.set_getElem_self hk
  rw [this]
  exact Keeps.refl Φ _
end
end Go.VS
