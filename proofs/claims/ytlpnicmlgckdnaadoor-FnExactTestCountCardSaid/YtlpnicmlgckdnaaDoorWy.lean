/-
  Regions that draw their order, with guards, and with one operation that stores into an own block that no other operation of the region reads. Method values that are bound to a box. Over any program. Condition: the program's orders are mixed ones.
-/
import Derived.Test.YtlpnicmlgckdnaaDoorWu
set_option linter.unusedSimpArgs false
set_option linter.unusedVariables false
namespace Go.VS

/-- The guard is not the one that stores. -/
def gOK (s : Nat) (o : Oper) : Bool := match o.guard with | some (g, _) => !(Nat.beq g s) | none => true

def chkOpT (s : Nat) (l : List Oper) (A : List Nat) (src : List Src) (N i : Nat) (o : Oper) (e : Src) : Bool :=
  (match o.dst with | some d => !(Nat.beq i s) && gOK s o && Nat.blt d N && ((List.range l.length).all fun j => Nat.beq j i || !(dstIs l j d)) | none => Nat.beq i s) &&
  (afters o).all (fun j => Nat.blt j i) && chkGs i src o e && e.facts.all (chkFact l A src i o e) && chkPk l src i o e e.pk

def chkAllT (s : Nat) (l : List Oper) (A : List Nat) (src : List Src) (N : Nat) : Bool :=
  Nat.beq src.length l.length && (List.range l.length).all fun i => match l[i]?, src[i]? with | some o, some e => chkOpT s l A src N i o e | _, _ => false


section
variable {s : Nat} {Φ : Ctx} {l : List Oper} {src : List Src} {N : Nat} {E0 : List (Nat × PV)} {H : List (Nat × Obj')} {HH : Bool → List (Nat × Obj')} {full : List PV}

/-- What is to be shown of operation i. -/
def ObP (Φ : Ctx) (l : List Oper) (src : List Src) (N : Nat) (E0 : List (Nat × PV)) (HH : Bool → List (Nat × Obj')) (full : List PV) (i : Nat) : Prop :=
  ∀ o e d, l[i]? = some o → src[i]? = some e → o.dst = some d → (∀ g b, o.guard = some (g, b) → (∃ e', src[g]? = some e' ∧ runs full g e') → ∃ c, full[g]? = some (.bool c)) ∧
    (runs full i e → ∃ p D, full[i]? = some p ∧ DepsOK l src E0 full i o D ∧ ∀ E' c, V1 Φ o ⟨N, D ++ E', HH c⟩ fun α' => α' = ⟨N, (d, p) :: (D ++ E'), HH c⟩)

/-- What is to be shown of the one operation that stores. -/
def ObS (Φ : Ctx) (l : List Oper) (src : List Src) (N : Nat) (E0 : List (Nat × PV)) (HH : Bool → List (Nat × Obj')) (full : List PV) (i : Nat) : Prop :=
  ∃ o e D, l[i]? = some o ∧ src[i]? = some e ∧ o.dst = none ∧ o.guard = none ∧ DepsOK l src E0 full i o D ∧ ∀ E', V1 Φ o ⟨N, D ++ E', HH false⟩ fun α' => α' = ⟨N, D ++ E', HH true⟩

def ObT (s : Nat) (Φ : Ctx) (l : List Oper) (src : List Src) (N : Nat) (E0 : List (Nat × PV)) (HH : Bool → List (Nat × Obj')) (full : List PV) (i : Nat) : Prop :=
  ObP Φ l src N E0 HH full i ∧ (i = s → ObS Φ l src N E0 HH full i)

/-! ### The walk in the text's order -/
def VPT (s : Nat) (Φ : Ctx) (l : List Oper) (src : List Src) (N : Nat) (E0 : List (Nat × PV)) (HH : Bool → List (Nat × Obj')) (K : List PV → Prop) (rs : List PV) : Prop :=
  ∃ ps, (rs.reverse ++ ps).length = l.length ∧ (∀ i, rs.length ≤ i → i < l.length → ObT s Φ l src N E0 HH (rs.reverse ++ ps) i) ∧ K (rs.reverse ++ ps)


theorem chkAllT.op (hc : chkAllT s l (ancs l) src N = true) {i : Nat} {o : Oper} {e : Src} (ho : l[i]? = some o) (he : src[i]? = some e) : chkOpT s l (ancs l) src N i o e = true := by
  simp only [chkAllT, Bool.and_eq_true, List.all_eq_true, List.mem_range] at hc
  have := hc.2 i (List.getElem?_eq_some_iff.1 ho).1
  simpa [ho, he] using this


theorem notS (hc : chkAllT s l (ancs l) src N = true) {i : Nat} {o : Oper} {e : Src} {d : Nat} (ho : l[i]? = some o) (he : src[i]? = some e) (hd : o.dst = some d) : i ≠ s := by
  have h1 := chkAllT.op hc ho he
  simp only [chkOpT, hd, Bool.and_eq_true, Bool.not_eq_true'] at h1
  rintro rfl
  have h2 := h1.1.1.1.1.1.1.1
  simp at h2



theorem guard_boolT {rs ps : List PV} (hc : chkAllT s l (ancs l) src N = true) {o : Oper} {e : Src} (ho : l[rs.length]? = some o) (he : src[rs.length]? = some e) (hgs : Under rs e.gs True) :
    ∀ g b, o.guard = some (g, b) → (∃ e', src[g]? = some e' ∧ runs (rs.reverse ++ ps) g e') → ∃ c, (rs.reverse ++ ps)[g]? = some (.bool c) := by
  intro g b hg _
  have h1 := chkAllT.op hc ho he
  simp only [chkOpT, Bool.and_eq_true] at h1
  have h2 := h1.1.1.2
  unfold chkGs at h2
  rw [hg] at h2
  split at h2
  · rename_i e1 e2; cases e1
  · rename_i g' b' r b'' gs e1 e2
    cases e1
    simp only [Bool.and_eq_true] at h2
    rw [e2] at hgs
    obtain ⟨c, h3, _⟩ := hgs
    refine ⟨c, ?_⟩
    rw [Nat.eq_of_beq_eq_true h2.1.1.1.2]
    exact rev_get h3
  · cases h2


theorem VPT.step {K : List PV → Prop} {rs : List PV} {o : Oper} {e : Src} {d : Nat} {p : PV} {D : List (Nat × PV)} (ho : l[rs.length]? = some o) (he : src[rs.length]? = some e) (hd : o.dst = some d)
    (hD : DepsOf E0 rs e.facts D) (hv : Under rs e.gs (∀ E' c, V1 Φ o ⟨N, D ++ E', HH c⟩ fun α' => α' = ⟨N, (d, p) :: (D ++ E'), HH c⟩))
    (rest : VPT s Φ l src N E0 HH K (p :: rs)) (hc : chkAllT s l (ancs l) src N = true) : VPT s Φ l src N E0 HH K rs := by
  obtain ⟨ps, h1, h2, h3⟩ := rest
  have e1 : (p :: rs).reverse ++ ps = rs.reverse ++ p :: ps := by simp
  rw [e1] at h1 h2 h3
  refine ⟨p :: ps, h1, fun i hi hi' => ?_, h3⟩
  rcases Nat.eq_or_lt_of_le hi with rfl | hi
  · refine ⟨?_, fun hs => absurd hs (notS hc ho he hd)⟩
    intro o' e' d' ho' he' hd'
    rw [ho] at ho'; cases ho'
    rw [he] at he'; cases he'
    rw [hd] at hd'; cases hd'
    refine ⟨guard_boolT hc ho he (hv.mono fun _ => trivial), fun hr => ⟨p, D, by simp, ?_, hv.use hr⟩⟩
    have hco := chkAllT.op hc ho he
    simp only [chkOpT, Bool.and_eq_true] at hco
    exact DepsOf.ok he hr hD hco.1.2
  · exact h2 i hi hi'

/-- The choice behind '&&' and '||'. -/
theorem VPT.pick {K : List PV → Prop} {rs : List PV} {o : Oper} {e : Src} {d : Nat} {want c q : Bool} {tg r r1 r2 : Nat} (ho : l[rs.length]? = some o) (he : src[rs.length]? = some e) (hd : o.dst = some d)
    (hpk : e.pk = some (want, tg, r, r1, r2)) (h1 : rs[r1]? = some (.bool c)) (h2 : rs[r2]? = some (.bool q)) (hu : Under rs e.gs True)
    (rest : VPT s Φ l src N E0 HH K (.bool (if want then c && q else c || q) :: rs)) (hc : chkAllT s l (ancs l) src N = true) : VPT s Φ l src N E0 HH K rs := by
  obtain ⟨ps, g1, g2, g3⟩ := rest
  generalize hp : PV.bool (if want then c && q else c || q) = p at *
  have e1 : (p :: rs).reverse ++ ps = rs.reverse ++ p :: ps := by simp
  rw [e1] at g1 g2 g3
  refine ⟨p :: ps, g1, fun i hi hi' => ?_, g3⟩
  rcases Nat.eq_or_lt_of_le hi with rfl | hi
  · refine ⟨?_, fun hs => absurd hs (notS hc ho he hd)⟩
    intro o' e' d' ho' he' hd'
    rw [ho] at ho'; cases ho'
    rw [he] at he'; cases he'
    rw [hd] at hd'; cases hd'
    have hco := chkAllT.op hc ho he
    simp only [chkOpT, Bool.and_eq_true] at hco
    obtain ⟨⟨⟨⟨hcd, _⟩, _⟩, _⟩, hcp⟩ := hco
    rw [hpk] at hcp
    simp only [chkPk, Bool.and_eq_true] at hcp
    obtain ⟨⟨⟨⟨⟨⟨⟨⟨k1, k2⟩, k3⟩, k4⟩, k5⟩, k6⟩, k7⟩, k8⟩, k9⟩ := hcp
    have hdn : d < N := by
      rw [hd] at hcd
      simp only [Bool.and_eq_true] at hcd
      exact ltb hcd.1.2
    split at k9
    · rename_i tg' x y hop
      simp only [Bool.and_eq_true, Bool.not_eq_true'] at k9
      obtain ⟨⟨⟨m1, m0⟩, m2'⟩, m3'⟩ := k9
      have m1 := Nat.eq_of_beq_eq_true m1
      subst m1
      have m2 : (if want then x else y) = .tmp r := by
        split at m2'
        · rename_i r' h; rw [h, Nat.eq_of_beq_eq_true m2']
        · cases m2'
      have m3 : (if want then y else x) = .const (.bool (!want)) := by
        split at m3'
        · rename_i b h; rw [h]; simp only [beq_iff_eq] at m3'; rw [m3']
        · cases m3'
      refine ⟨guard_boolT hc ho he hu, fun hr => ?_⟩
      have f1 := rev_get (ps := p :: ps) h1
      have f2 := rev_get (ps := p :: ps) h2
      have hin : ∀ {j : Nat} {more : List (Nat × Bool)}, gsIn src j rs.length e more = true → (∀ p', p' ∈ more → (rs.reverse ++ p :: ps)[p'.1]? = some (.bool p'.2)) → ∃ e', src[j]? = some e' ∧ runs (rs.reverse ++ p :: ps) j e' := by
        intro j more hg hm
        unfold gsIn at hg
        split at hg
        · rename_i e' he'
          refine ⟨e', he', fun p' hp' => ?_⟩
          simp only [List.all_eq_true] at hg
          have := hg p' hp'
          simp only [List.contains_iff_mem, List.mem_append] at this
          rcases this with h | h
          · exact hr p' h
          · exact hm p' h
        · cases hg
      obtain ⟨ea, ha, hra⟩ := hin k7 (by simp)
      have fact1 : ∃ j e, j ∈ afters o ∧ dstIs l j tg' = true ∧ src[j]? = some e ∧ runs (rs.reverse ++ p :: ps) j e ∧ (rs.reverse ++ p :: ps)[j]? = some (.bool c) :=
        ⟨_, ea, by simpa using k3, k5, ha, hra, f1⟩
      by_cases hcw : c = want
      · subst hcw
        obtain ⟨eb, hb, hrb⟩ := hin k8 (by intro p' hp'; simp only [List.mem_singleton] at hp'; subst hp'; exact f1)
        refine ⟨p, [(tg', .bool c), (r, .bool q)], by simp, ?_, fun E' c' => ?_⟩
        · intro t x hx
          simp only [get] at hx
          split at hx
          · rename_i e1
            have e1 := Nat.eq_of_beq_eq_true e1
            subst e1
            cases hx
            exact .inl fact1
          · split at hx
            · rename_i e1
              have e1 := Nat.eq_of_beq_eq_true e1
              subst e1
              cases hx
              exact .inl ⟨_, eb, by simpa using k4, k6, hb, hrb, f2⟩
            · cases hx
        · refine V1.pick hop hd (t := c) (by simp [aeval, get]) (p := p) ?_ hdn rfl
          rw [m2]
          have hb : Nat.beq tg' r = false := by simpa using m0
          simp only [aeval, get, List.cons_append, hb, Nat.beq_refl]
          rw [← hp]
          cases c <;> simp
      · have hcw : c = !want := (by decide : ∀ c w : Bool, ¬ c = w → c = !w) c want hcw
        refine ⟨p, [(tg', .bool c)], by simp, ?_, fun E' c' => ?_⟩
        · intro t x hx
          simp only [get] at hx
          split at hx
          · rename_i e1
            have e1 := Nat.eq_of_beq_eq_true e1
            subst e1
            cases hx
            exact .inl fact1
          · cases hx
        · refine V1.pick hop hd (t := c) (by simp [aeval, get]) (p := p) ?_ hdn rfl
          have : (if c = true then x else y) = .const (.bool (!want)) := by rw [← m3, hcw]; cases want <;> rfl
          rw [this, ← hp, hcw]
          cases want <;> rfl
    · cases k9
  · exact g2 i hi hi'

theorem VPT.pickAnd {K : List PV → Prop} {rs : List PV} {o : Oper} {e : Src} {d : Nat} {c q : Bool} {tg r r1 r2 : Nat} (ho : l[rs.length]? = some o) (he : src[rs.length]? = some e) (hd : o.dst = some d)
    (hpk : e.pk = some (true, tg, r, r1, r2)) (h1 : rs[r1]? = some (.bool c)) (h2 : rs[r2]? = some (.bool q)) (hu : Under rs e.gs True)
    (rest : VPT s Φ l src N E0 HH K (.bool (c && q) :: rs)) (hc : chkAllT s l (ancs l) src N = true) : VPT s Φ l src N E0 HH K rs :=
  VPT.pick (want := true) ho he hd hpk h1 h2 hu rest hc

theorem VPT.pickOr {K : List PV → Prop} {rs : List PV} {o : Oper} {e : Src} {d : Nat} {c q : Bool} {tg r r1 r2 : Nat} (ho : l[rs.length]? = some o) (he : src[rs.length]? = some e) (hd : o.dst = some d)
    (hpk : e.pk = some (false, tg, r, r1, r2)) (h1 : rs[r1]? = some (.bool c)) (h2 : rs[r2]? = some (.bool q)) (hu : Under rs e.gs True)
    (rest : VPT s Φ l src N E0 HH K (.bool (c || q) :: rs)) (hc : chkAllT s l (ancs l) src N = true) : VPT s Φ l src N E0 HH K rs :=
  VPT.pick (want := false) ho he hd hpk h1 h2 hu rest hc



/-- The store. -/
theorem VPT.store {K : List PV → Prop} {rs : List PV} {o : Oper} {e : Src} {D : List (Nat × PV)} (ho : l[rs.length]? = some o) (he : src[rs.length]? = some e) (hd : o.dst = none) (hg : o.guard = none)
    (hD : DepsOf E0 rs e.facts D) (hv : ∀ E', V1 Φ o ⟨N, D ++ E', HH false⟩ fun α' => α' = ⟨N, D ++ E', HH true⟩)
    (rest : VPT s Φ l src N E0 HH K (.undef :: rs)) (hc : chkAllT s l (ancs l) src N = true) : VPT s Φ l src N E0 HH K rs := by
  obtain ⟨ps, h1, h2, h3⟩ := rest
  have e1 : (PV.undef :: rs).reverse ++ ps = rs.reverse ++ .undef :: ps := by simp
  rw [e1] at h1 h2 h3
  refine ⟨.undef :: ps, h1, fun i hi hi' => ?_, h3⟩
  rcases Nat.eq_or_lt_of_le hi with rfl | hi
  · refine ⟨fun o' e' d' ho' _ hd' => (by rw [ho] at ho'; cases ho'; rw [hd] at hd'; cases hd'), fun _ => ⟨o, e, D, ho, he, hd, hg, ?_, hv⟩⟩
    have hco := chkAllT.op hc ho he
    simp only [chkOpT, Bool.and_eq_true] at hco
    have hgs : e.gs = [] := by
      have h4 := hco.1.1.2
      unfold chkGs at h4
      rw [hg] at h4
      split at h4
      · assumption
      · rename_i e1 _; cases e1
      · cases h4
    exact DepsOf.ok he (by intro p hp; rw [hgs] at hp; simp [absG] at hp) hD hco.1.2
  · exact h2 i hi hi'


/-- What a state shows in which some operations have run. -/
structure MidT (s : Nat) (Φ : Ctx) (l : List Oper) (src : List Src) (N : Nat) (E0 : List (Nat × PV)) (HH : Bool → List (Nat × Obj')) (full : List PV) (listed : Array Bool) (a : Act) (w : World) (E : List (Nat × PV)) : Prop where
  er : ER Φ ⟨N, E, HH (listed.getD s false)⟩ a w
  done : ∀ j e q d, At listed j → src[j]? = some e → l[j]? = some q → q.dst = some d → (runs full j e → ∃ p, full[j]? = some p ∧ get E d = some p) ∧ (¬ runs full j e → get E d = some .undef)
  old : ∀ t x, get E0 t = some x → (∀ j, At listed j → dstIs l j t = false) → get E t = some x

theorem src_ofT (hc : chkAllT s l (ancs l) src N = true) {i : Nat} {o : Oper} (ho : l[i]? = some o) : ∃ e, src[i]? = some e := by
  simp only [chkAllT, Bool.and_eq_true] at hc
  have := Nat.eq_of_beq_eq_true hc.1
  have h1 := (List.getElem?_eq_some_iff.1 ho).1
  exact ⟨_, List.getElem?_eq_getElem (by omega)⟩


theorem MidT.step {ops : Array Oper} {listed : Array Bool} {a : Act} {w : World} {E : List (Nat × PV)} {Q : Exit → Act → World → Prop} (hc : chkAllT s l (ancs l) src N = true) (hl : ∀ (j : Nat) (o : Oper), l[j]? = some o → ops[j]? = some o)
    (hcl : Closed ops listed) (hM : MidT s Φ l src N E0 HH full listed a w E) {i : Nat} {o : Oper} (ho : l[i]? = some o) (hi : ¬ At listed i) (hsz : i < listed.size) (haf : ∀ k, k ∈ afters o → At listed k) (hob : ObT s Φ l src N E0 HH full i) :
    wpOp Φ.P ops Q i (fun a' w' => ∃ E', MidT s Φ l src N E0 HH full (listed.setIfInBounds i true) a' w' E') a w := by
  obtain ⟨e, he⟩ := src_ofT hc ho
  have hco := chkAllT.op hc ho he
  simp only [chkOpT, Bool.and_eq_true] at hco
  obtain ⟨⟨⟨⟨c1, c2⟩, c3⟩, c4⟩, c5⟩ := hco
  cases hd : o.dst with
  | none =>
    rw [hd] at c1
    have his := Nat.eq_of_beq_eq_true c1
    obtain ⟨o', e', D, ho', he', hd', hg', hD, hV⟩ := hob.2 his
    rw [ho] at ho'; cases ho'
    have hsf : listed.getD s false = false := by
      unfold At at hi; rw [his] at hi; simpa using hi
    have hst : (listed.setIfInBounds i true).getD s false = true := by
      have := (At.set (listed := listed) (i := i) (j := i) hsz).2 (.inl rfl)
      unfold At at this; rw [his] at this ⊢; exact this
    have hDE : ∀ t y, get D t = some y → get E t = some y := by
      intro t y hy
      rcases hD t y hy with ⟨j, ej, h1, h2, h3, h4, h5⟩ | ⟨h1, h2⟩
      · obtain ⟨q, hq, hqd⟩ := dstIs_iff.1 h2
        obtain ⟨p', h6, h7⟩ := (hM.done j ej q t (haf j h1) h3 hq hqd).1 h4
        rw [h5] at h6; cases h6
        exact h7
      · refine hM.old t y h1 fun j hj => ?_
        cases hdj : dstIs l j t with
        | false => rfl
        | true =>
          exfalso
          obtain ⟨q, hq, _⟩ := dstIs_iff.1 hdj
          simp only [notBefore, List.all_eq_true, List.mem_range] at h2
          have := h2 j (List.getElem?_eq_some_iff.1 hq).1
          rw [hdj] at this
          simp only [Bool.not_true, Bool.or_false, Bool.or_eq_true] at this
          rcases this with h3 | h3
          · have := Nat.eq_of_beq_eq_true h3
            subst this
            exact hi hj
          · exact hi (ancs_spec hcl hl h3 hj)
    have hER : ER Φ ⟨N, D ++ E, HH false⟩ a w := by
      obtain ⟨S, hE⟩ := hM.er
      rw [hsf] at hE
      refine ⟨S, { hE with slots := fun t x hx => hE.slots t x ?_ }⟩
      simp only [get_append] at hx
      split at hx
      · rename_i y hy; cases hx; exact hDE t x hy
      · exact hx
    have hnd : ∀ t, dstIs l i t = false := by
      intro t
      unfold dstIs
      rw [ho]; simp only [hd]
    have next : ∀ {a' : Act} {w' : World}, ER Φ ⟨N, D ++ E, HH true⟩ a' w' → ∃ E', MidT s Φ l src N E0 HH full (listed.setIfInBounds i true) a' w' E' := by
      intro a' w' her
      have hget : ∀ t, get (D ++ E) t = get E t := by
        intro t
        simp only [get_append]
        cases hdt : get D t with
        | none => rfl
        | some y => exact (hDE t y hdt).symm
      refine ⟨_, by rw [hst]; exact her, ?_, ?_⟩
      · intro j e' q d' hj he' hq hqd
        rcases (At.set hsz).1 hj with rfl | hj'
        · rw [ho] at hq; cases hq
          rw [hd] at hqd; cases hqd
        · rw [hget d']
          exact hM.done j e' q d' hj' he' hq hqd
      · intro t y hy hno
        rw [hget t]
        exact hM.old t y hy fun j hj => hno j ((At.set hsz).2 (.inr hj))
    unfold wpOp
    rw [hl i o ho]
    simp only
    rw [if_pos (by simp [Region.wanted, hg'])]
    left
    have := hV E a w hER
    have h2 : o.wp Φ.P a w (fun a' w' => ∃ E', MidT s Φ l src N E0 HH full (listed.setIfInBounds i true) a' w' E') (fun _ _ _ => False) :=
      Oper.wp_mono (fun a' w' ⟨α', h1, h2⟩ => by subst h1; exact next h2) this
    clear this
    unfold Oper.wp at *
    generalize (execOp a.eval o).run Φ.P w = r at *
    cases r with
    | ok n w' =>
      cases n <;> simp only [Oper.upon] at h2 ⊢ <;> first
        | exact h2
        | (refine Calls.mono h2 ?_; intro e w'' he; cases e <;> first | exact he | exact he.elim | (obtain ⟨_, _, h⟩ := he; exact h.elim))
    | halt x w' => cases x <;> simp only [Oper.upon] at h2 ⊢
  | some d =>
  rw [hd] at c1
  simp only [Bool.and_eq_true, List.all_eq_true, List.mem_range, Bool.not_eq_true'] at c1
  have hdn : d < N := ltb c1.1.2
  have hns : i ≠ s := by rintro rfl; have h2 := c1.1.1.1; simp at h2
  have hsame : (listed.setIfInBounds i true).getD s false = listed.getD s false := getD_set_ne false hns
  replace hob := hob.1
  have hone : ∀ j q, l[j]? = some q → q.dst = some d → j = i := by
    intro j q hq hqd
    have := c1.2 j (List.getElem?_eq_some_iff.1 hq).1
    rw [dstIs_iff.2 ⟨q, hq, hqd⟩] at this
    simp only [Bool.not_true, Bool.or_false] at this
    exact Nat.eq_of_beq_eq_true this
  obtain ⟨hgb, hv⟩ := hob o e d ho he hd
  -- the next state
  have next : ∀ {a' : Act} {w' : World} {x : PV} {D : List (Nat × PV)}, (∀ t y, get D t = some y → get E t = some y) → ER Φ ⟨N, (d, x) :: (D ++ E), HH (listed.getD s false)⟩ a' w' → ((runs full i e → full[i]? = some x) ∧ (¬ runs full i e → x = .undef)) →
      ∃ E', MidT s Φ l src N E0 HH full (listed.setIfInBounds i true) a' w' E' := by
    intro a' w' x D hD her hx
    have hget : ∀ t, t ≠ d → get ((d, x) :: (D ++ E)) t = get E t := by
      intro t ht
      simp only [get]
      have : Nat.beq d t = false := by
        cases hb : Nat.beq d t with
        | true => exact absurd (Nat.eq_of_beq_eq_true hb).symm ht
        | false => rfl
      rw [this]
      simp only [get_append]
      cases hdt : get D t with
      | none => rfl
      | some y => exact (hD t y hdt).symm
    have hgd : get ((d, x) :: (D ++ E)) d = some x := by simp only [get, Nat.beq_refl]
    refine ⟨_, by rw [hsame]; exact her, ?_, ?_⟩
    · intro j e' q d' hj he' hq hqd
      rcases (At.set hsz).1 hj with rfl | hj'
      · rw [he] at he'; cases he'
        rw [ho] at hq; cases hq
        rw [hd] at hqd; cases hqd
        rw [hgd]
        exact ⟨fun hr => ⟨x, hx.1 hr, rfl⟩, fun hr => by rw [hx.2 hr]⟩
      · have hne : d' ≠ d := by
          rintro rfl
          have := hone j q hq hqd
          subst this
          exact hi hj'
        rw [hget d' hne]
        exact hM.done j e' q d' hj' he' hq hqd
    · intro t y hy hno
      have hne : t ≠ d := by
        rintro rfl
        have := hno i ((At.set hsz).2 (.inl rfl))
        rw [dstIs_iff.2 ⟨o, ho, hd⟩] at this
        cases this
      rw [hget t hne]
      exact hM.old t y hy fun j hj => hno j ((At.set hsz).2 (.inr hj))
  unfold wpOp
  rw [hl i o ho]
  simp only
  -- does it run?
  have hrun : (Region.wanted o (yielded ops a.tmps) = true ∧ runs full i e) ∨ (Region.wanted o (yielded ops a.tmps) = false ∧ ¬ runs full i e) := by
    cases hg : o.guard with
    | none =>
      refine .inl ⟨by simp [Region.wanted, hg], ?_⟩
      unfold chkGs at c3
      rw [hg] at c3
      split at c3
      · rename_i e1; intro p hp; rw [e1] at hp; simp [absG] at hp
      · rename_i e1 _; cases e1
      · cases c3
    | some gb =>
      obtain ⟨g, b⟩ := gb
      unfold chkGs at c3
      rw [hg] at c3
      split at c3
      · rename_i e1 _; cases e1
      · rename_i g' b' r b'' gs e1 e2
        cases e1
        simp only [Bool.and_eq_true, beq_iff_eq] at c3
        obtain ⟨⟨⟨⟨k1, k2⟩, k3⟩, k4⟩, k5⟩ := c3
        subst k3
        have k2 := Nat.eq_of_beq_eq_true k2
        split at k5
        · rename_i eg heg
          have k5 : absG i gs = absG g eg.gs := by simpa using k5
          have hga : At listed g := haf g (by simpa using k4)
          have hri : runs full i e ↔ full[g]? = some (.bool b) ∧ runs full g eg := by
            unfold runs
            rw [e2]
            simp only [absG, List.map_cons, List.mem_cons, forall_eq_or_imp] at k5 ⊢
            rw [k5, ← k2]
          have hgi : g < i := ltb (by
            simp only [List.all_eq_true] at c2
            exact c2 g (by simpa using k4))
          have hgl : g < l.length := by have := (List.getElem?_eq_some_iff.1 ho).1; omega
          obtain ⟨q, hq⟩ : ∃ q, l[g]? = some q := ⟨_, List.getElem?_eq_getElem hgl⟩
          have hcq := chkAllT.op hc hq heg
          simp only [chkOpT, Bool.and_eq_true] at hcq
          cases hqd : q.dst with
          | none =>
            have hgs := hcq.1.1.1.1
            rw [hqd] at hgs
            replace hgs : Nat.beq g s = true := hgs
            have h2 := c1.1.1.2
            unfold gOK at h2
            rw [hg] at h2
            simp only [Bool.not_eq_true'] at h2
            rw [hgs] at h2
            cases h2
          | some dg =>
          obtain ⟨m1, m2⟩ := hM.done g eg q dg hga heg hq hqd
          have hyv : ∀ v, a.tmps[dg]? = some v → yielded ops a.tmps g = match v with | .bool b => some b | _ => none := by
            intro v hv
            simp only [yielded, hl g q hq, Option.bind_some, hqd, hv]
            cases v <;> rfl
          obtain ⟨S, hE⟩ := hM.er
          by_cases hrg : runs full g eg
          · obtain ⟨c, hcv⟩ := hgb g b hg ⟨eg, heg, hrg⟩
            obtain ⟨p, hp1, hp2⟩ := m1 hrg
            rw [hcv] at hp1; cases hp1
            obtain ⟨v, hv1, hv2⟩ := hE.slots dg _ hp2
            unfold Rep at hv2
            subst hv2
            have hy := hyv _ hv1
            simp only at hy
            by_cases hcb : c = b
            · subst hcb
              exact .inl ⟨by simp [Region.wanted, hg, hy], hri.2 ⟨hcv, hrg⟩⟩
            · refine .inr ⟨by simp [Region.wanted, hg, hy, hcb], fun h => ?_⟩
              rw [(hri.1 h).1] at hcv
              cases hcv
              exact hcb rfl
          · obtain ⟨v, hv1, hv2⟩ := hE.slots dg _ (m2 hrg)
            unfold Rep at hv2
            subst hv2
            have hy := hyv _ hv1
            exact .inr ⟨by simp [Region.wanted, hg, hy, undef], fun h => hrg (hri.1 h).2⟩
        · cases k5
      · cases c3
  rcases hrun with ⟨hw, hr⟩ | ⟨hw, hr⟩
  · rw [if_pos hw]
    left
    obtain ⟨p, D, hp, hD, hV⟩ := hv hr
    have hDE : ∀ t y, get D t = some y → get E t = some y := by
      intro t y hy
      rcases hD t y hy with ⟨j, ej, h1, h2, h3, h4, h5⟩ | ⟨h1, h2⟩
      · obtain ⟨q, hq, hqd⟩ := dstIs_iff.1 h2
        obtain ⟨p', h6, h7⟩ := (hM.done j ej q t (haf j h1) h3 hq hqd).1 h4
        rw [h5] at h6; cases h6
        exact h7
      · refine hM.old t y h1 fun j hj => ?_
        cases hdj : dstIs l j t with
        | false => rfl
        | true =>
          exfalso
          obtain ⟨q, hq, _⟩ := dstIs_iff.1 hdj
          simp only [notBefore, List.all_eq_true, List.mem_range] at h2
          have := h2 j (List.getElem?_eq_some_iff.1 hq).1
          rw [hdj] at this
          simp only [Bool.not_true, Bool.or_false, Bool.or_eq_true] at this
          rcases this with h3 | h3
          · have := Nat.eq_of_beq_eq_true h3
            subst this
            exact hi hj
          · exact hi (ancs_spec hcl hl h3 hj)
    have hER : ER Φ ⟨N, D ++ E, HH (listed.getD s false)⟩ a w := by
      obtain ⟨S, hE⟩ := hM.er
      refine ⟨S, { hE with slots := fun t x hx => hE.slots t x ?_ }⟩
      simp only [get_append] at hx
      split at hx
      · rename_i y hy; cases hx; exact hDE t x hy
      · exact hx
    have := hV E _ a w hER
    have h2 : o.wp Φ.P a w (fun a' w' => ∃ E', MidT s Φ l src N E0 HH full (listed.setIfInBounds i true) a' w' E') (fun _ _ _ => False) :=
      Oper.wp_mono (fun a' w' ⟨α', h1, h2⟩ => by subst h1; exact next hDE h2 ⟨fun _ => hp, fun h => absurd hr h⟩) this
    clear this
    unfold Oper.wp at *
    generalize (execOp a.eval o).run Φ.P w = r at *
    cases r with
    | ok n w' =>
      cases n <;> simp only [Oper.upon] at h2 ⊢ <;> first
        | exact h2
        | (refine Calls.mono h2 ?_; intro e w'' he; cases e <;> first | exact he | exact he.elim | (obtain ⟨_, _, h⟩ := he; exact h.elim))
    | halt x w' => cases x <;> simp only [Oper.upon] at h2 ⊢
  · rw [hw]
    simp only [Bool.false_eq_true, if_false, hd]
    obtain ⟨S, hE⟩ := hM.er
    refine next (D := []) (x := .undef) (fun t y hy => by cases hy) ⟨S, ?_⟩ ⟨fun h => absurd h hr, fun _ => rfl⟩
    exact hE.put (d := d) hdn (by unfold Rep; rfl)

theorem any_goT {tl : List Oper} {Q : Exit → Act → World → Prop} (hc : chkAllT s l (ancs l) src N = true) (ht : chkTail l tl = true) (hob : ∀ i, i < l.length → ObT s Φ l src N E0 HH full i)
    (hfin : ∀ listed a w E, (∀ j, j < l.length → At listed j) → MidT s Φ l src N E0 HH full listed a w E → wpList Φ.P (l ++ tl).toArray Q tl a w) :
    ∀ (fuel : Nat) (listed : Array Bool) (a : Act) (w : World) (E : List (Nat × PV)), listed.size = (l ++ tl).toArray.size → Closed (l ++ tl).toArray listed → (∀ j, l.length ≤ j → ¬ At listed j) → MidT s Φ l src N E0 HH full listed a w E →
      unl listed l.length + tl.length ≤ fuel → wpAny Φ.P .any (l ++ tl).toArray Q fuel listed a w := by
  intro fuel
  have hl : ∀ (j : Nat) (o : Oper), l[j]? = some o → (l ++ tl).toArray[j]? = some o := by
    intro j o h
    have := (List.getElem?_eq_some_iff.1 h).1
    simp only [List.getElem?_toArray]
    rw [List.getElem?_append_left this]; exact h
  induction fuel with
  | zero =>
    intro listed a w E hs hcl hno hM hf
    have hall := unl_zero (listed := listed) (m := l.length) (by omega)
    exact tail_go ht 0 0 listed a w hs hcl (fun j => ⟨fun h => by rcases Nat.lt_or_ge j l.length with h1 | h1; exact h1; exact absurd h (hno j h1), fun h => hall j h⟩) (by omega) (by omega) (hfin listed a w E hall hM)
  | succ fuel ih =>
    intro listed a w E hs hcl hno hM hf
    by_cases hall : ∀ j, j < l.length → At listed j
    · have hz : tl.length ≤ fuel + 1 := by omega
      exact tail_go ht (fuel + 1) 0 listed a w hs hcl (fun j => ⟨fun h => by rcases Nat.lt_or_ge j l.length with h1 | h1; exact h1; exact absurd h (hno j h1), fun h => hall j h⟩) (by omega) (by omega) (hfin listed a w E hall hM)
    · obtain ⟨j, hj⟩ : ∃ j, j < l.length ∧ ¬ At listed j := by
        refine Classical.byContradiction fun h => hall fun j hj => Classical.byContradiction fun h' => h ⟨j, hj, h'⟩
      obtain ⟨j, ⟨hj, hju⟩, hleast⟩ := least (p := fun j => j < l.length ∧ ¬ At listed j) ⟨j, hj⟩
      have waits : ∀ (i : Nat) (o : Oper), l[i]? = some o → ∀ k, k ∈ afters o → k < i := by
        intro i o ho k hk
        obtain ⟨e, he⟩ := src_ofT hc ho
        have hco := chkAllT.op hc ho he
        simp only [chkOpT, Bool.and_eq_true, List.all_eq_true] at hco
        exact ltb (hco.1.1.1.2 k hk)
      refine wpAny_all (rs := Region.ready .any (l ++ tl).toArray listed) rfl ?_ ?_
      · intro h
        have hq : l[j]? = some l[j] := List.getElem?_eq_getElem hj
        have : j ∈ Region.ready .any (l ++ tl).toArray listed := (ready_iff hs).2 ⟨hju, _, hl j _ hq, fun k hk => by
          have hkj := waits j _ hq k hk
          exact Classical.byContradiction fun h => absurd (hleast k ⟨by omega, h⟩) (by omega)⟩
        rw [h] at this
        cases this
      · intro i hi
        obtain ⟨hni, o, ho, hw⟩ := (ready_iff hs).1 hi
        have hil : i < l.length := by
          rcases Nat.lt_or_ge i l.length with h | h
          · exact h
          · exact absurd (tail_ready ht hs hcl hi h j (by omega)) hju
        have ho' : l[i]? = some o := by
          simp only [List.getElem?_toArray] at ho
          rw [List.getElem?_append_left hil] at ho; exact ho
        have hsz : i < listed.size := by rw [hs]; simp; omega
        refine wpOp_mono (fun a' w' ⟨E', h⟩ => ?_) (MidT.step (Q := Q) hc hl hcl hM ho' hni hsz hw (hob i hil))
        refine ih _ a' w' E' (by simpa using hs) (hcl.set hsz fun o' h => by rw [ho] at h; cases h; exact hw) (fun k hk h => ?_) h ?_
        · rcases (At.set hsz).1 h with rfl | h
          · omega
          · exact hno k hk h
        · have := unl_set hsz (by unfold At at hni; simpa using hni) l.length
          rw [if_pos hil] at this
          omega


theorem DepsOf.finT {rs : List PV} (hlen : rs.length = l.length) {listed : Array Bool} {a : Act} {w : World} {E : List (Nat × PV)} (hall : ∀ j, j < l.length → At listed j) (hM : MidT s Φ l src N E0 HH rs.reverse listed a w E) :
    ∀ {fs : List (Nat × Option Nat)} {D : List (Nat × PV)}, DepsOf E0 rs fs D → fs.all (chkFin l src) = true → ∀ t x, get D t = some x → get E t = some x
  | [], D, h, _, t, x, hx => by simp only [DepsOf] at h; subst h; cases hx
  | (s, some r) :: fs, D, h, hc, t, x, hx => by
    obtain ⟨y, D1, rfl, h1, h2⟩ := h
    simp only [List.all_cons, Bool.and_eq_true] at hc
    simp only [get] at hx
    split at hx
    · rename_i e1
      have e1 := Nat.eq_of_beq_eq_true e1
      subst e1
      cases hx
      have hc1 := hc.1
      simp only [chkFin, Bool.and_eq_true] at hc1
      obtain ⟨⟨h3, h4⟩, h5⟩ := hc1
      split at h5
      · rename_i e he
        have hr := ltb h3
        obtain ⟨q, hq, hqd⟩ := dstIs_iff.1 h4
        obtain ⟨p, h6, h7⟩ := (hM.done _ e q s (hall _ (by omega)) he hq hqd).1 (by intro p hp; simp only [List.isEmpty_iff] at h5; rw [h5] at hp; simp [absG] at hp)
        rw [List.getElem?_reverse (by omega)] at h6
        rw [show rs.length - 1 - (l.length - 1 - r) = r by omega, h1] at h6
        cases h6
        exact h7
      · cases h5
    · exact DepsOf.finT hlen hall hM h2 hc.2 t x hx
  | (s, none) :: fs, D, h, hc, t, x, hx => by
    obtain ⟨y, D1, rfl, h1, h2⟩ := h
    simp only [List.all_cons, Bool.and_eq_true] at hc
    simp only [get] at hx
    split at hx
    · rename_i e1
      have e1 := Nat.eq_of_beq_eq_true e1
      subst e1
      cases hx
      refine hM.old s _ h1 fun j _ => ?_
      have hc1 := hc.1
      simp only [chkFin, List.all_eq_true, List.mem_range] at hc1
      rcases Nat.lt_or_ge j l.length with h | h
      · simpa using hc1 j h
      · unfold dstIs
        rw [List.getElem?_eq_none h]
    · exact DepsOf.finT hlen hall hM h2 hc.2 t x hx

theorem VPT.fin {tl : List Oper} {K : AEnv → Prop} {rs : List PV} {fs : List (Nat × Option Nat)} {D : List (Nat × PV)} {H1 : List (Nat × Obj')} (hlen : rs.length = l.length) (hD : DepsOf E0 rs fs D) (hH : H = H1) (h : VO Φ (l ++ tl).toArray tl K ⟨N, D, H1⟩) :
    VPT s Φ l src N E0 HH (FinK Φ l tl N E0 H fs K) rs :=
  ⟨[], by simpa using hlen, fun i h1 h2 => by omega, D, by simpa using hD, by rw [hH]; exact h⟩


/-- A region that draws its order: the operations of l by themselves, in any order; then those of tl one after the other. fs: the slots that are needed behind l. -/
theorem V.regionDT (s : Nat) (HH : Bool → List (Nat × Obj')) {id : Nat} {α : AEnv} {Q : Exit → AEnv → Prop} {ops : Array Oper} (l tl : List Oper) (src : List Src) (fs : List (Nat × Option Nat)) (hops : ops = (l ++ tl).toArray) (hm : Φ.P.follows .mixedOrders = true)
    (hc : chkAllT s l (ancs l) src α.n = true) (ht : chkTail l tl = true) (hf : fs.all (chkFin l src) = true)
    (hsl : s < l.length) (hH : HH false = α.H) (h : chkAllT s l (ancs l) src α.n = true → VPT s Φ l src α.n α.E HH (FinK Φ l tl α.n α.E (HH true) fs (Q .normal)) []) (hnd : ops.toList.all noDef = true := by rfl) : V Φ (.region id ops true) Q α := by
  subst hops
  rintro a w ⟨S, he⟩
  obtain ⟨ps, h1, h2, D, h3, h4⟩ := h hc
  simp only [List.reverse_nil, List.nil_append] at h1 h2 h3
  have hnone : ∀ j, ¬ At (Array.replicate (l ++ tl).toArray.size false) j := by
    intro j hj
    unfold At at hj
    rw [Array.getD_eq_getD_getElem?, Array.getElem?_replicate] at hj
    split at hj <;> simp at hj
  have hf0 : (Array.replicate (l ++ tl).toArray.size false).getD s false = false := by
    have := hnone s; unfold At at this; simpa using this
  refine wpIn_mono (wpIn_region_anyR (Q := fun e a' w' => e = .normal ∧ ∃ α', Q .normal α' ∧ ER Φ α' a' w') (fun ⟨_, _, h, _⟩ => by cases h) hnd hm ?_) ?_
  · refine any_goT (s := s) (HH := HH) hc ht (fun i hi => h2 i (by simp) hi) ?_ _ _ a _ α.E (by simp) ?_ ?_ ⟨⟨S, by rw [hf0, hH]; exact he.drew⟩, ?_, ?_⟩ ?_
    · intro listed a' w' E hall hM
      refine h4 a' w' ?_
      obtain ⟨S', hE⟩ := hM.er
      rw [show listed.getD s false = true from hall s hsl] at hE
      refine ⟨S', { hE with slots := fun t x hx => hE.slots t x ?_ }⟩
      exact DepsOf.finT (s := s) (HH := HH) (rs := ps.reverse) (by simpa using h1) hall (by simpa using hM) h3 hf t x hx
    · intro j o hj
      exact absurd hj (hnone j)
    · intro j _ hj
      exact absurd hj (hnone j)
    · intro j e q d hj
      exact absurd hj (hnone j)
    · exact fun t x hx _ => hx
    · have : ∀ m, m ≤ (l ++ tl).toArray.size → unl (Array.replicate (l ++ tl).toArray.size false) m ≤ m := by
        intro m
        induction m with
        | zero => simp [unl]
        | succ m ih => intro hm; simp only [unl]; have := ih (by omega); split <;> omega
      have := this l.length (by simp)
      simp at this ⊢
      omega
  · rintro e a' w' ⟨rfl, h5⟩
    exact h5

theorem V.regionT (s : Nat) (HH : Bool → List (Nat × Obj')) {id : Nat} {α : AEnv} {Q : Exit → AEnv → Prop} {L l tl : List Oper} (N m : Nat) (src : List Src) (fs : List (Nat × Option Nat)) (hs : Split m L l tl) (hsl : s < l.length) (hH : HH false = α.H) (hm : Φ.P.follows .mixedOrders = true) (hN : α.n = N)
    (hc : (chkAllT s l (ancs l) src N && chkTail l tl && fs.all (chkFin l src)) = true)
    (h : chkAllT s l (ancs l) src N = true → VPT s Φ l src N α.E HH (FinK Φ l tl N α.E (HH true) fs (Q .normal)) []) (hnd : L.all noDef = true := by rfl) : V Φ (.region id L.toArray true) Q α := by
  subst hN
  simp only [Bool.and_eq_true] at hc
  exact V.regionDT s HH l tl src fs (by rw [hs.eq]) hm hc.1.1 hc.1.2 hc.2 hsl hH h (by simpa using hnd)
end

/-! ### Method values -/
/-- A method that is bound to a box. -/
abbrev bound (f b n i j : Nat) : PV := .val (.func (.func f) #[.pointer (some ⟨b, i * n + j, none⟩)] #[])

section
variable {Φ : Ctx} {α : AEnv} {o : Oper}

theorem V1.makeBound {d f b n i j : Nat} {x : Operand} {K : AEnv → Prop} (ho : o.op = .makeFunc (.func f) #[x] #[]) (hd : o.dst = some d)
    (hx : aeval α x = some (.ref b n i j)) (hn : d < α.n) (hk : K (α.put d (bound f b n i j))) : V1 Φ o α K :=
  V1.pure hd hn (fun S a w he => by
    have h1 := he.eval hx
    unfold Rep at h1
    refine ⟨.func (.func f) #[.pointer (some ⟨b, i * n + j, none⟩)] #[], ?_, by unfold Rep; rfl⟩
    simp only [execOp, ho, Instr.makeFunc, Sem.run_bind, Sem.run_pure, Result.andThen_ok]
    simp [h1.2]) hk

theorem run_callBound {f b n i j : Nat} {c : Call} {t : Nat} {ps : List PV} (ho : o.op = .call c) (hc : c.callee = .value (.tmp t)) (ht : get α.E t = some (bound f b n i j)) (hok : callOK Φ.P f = true) (hps : argsPV α c.args.toList = some ps) :
    ∀ S a w, Env Φ S α a w → ∃ vs : List Value, (execOp a.eval o).run Φ.P w = .ok (.enter f vs.toArray) w ∧ Reps w S true (.ref b n i j :: ps) vs := by
  intro S a w he
  have h1 := he.eval (x := .tmp t) ht
  unfold Rep at h1
  refine ⟨.pointer (some ⟨b, i * n + j, none⟩) :: c.args.toList.map a.eval, ?_, ?_⟩
  · have e : (#[.pointer (some ⟨b, i * n + j, none⟩)] ++ c.args.map a.eval ++ #[] : Array Value) = (.pointer (some ⟨b, i * n + j, none⟩) :: c.args.toList.map a.eval).toArray := by apply Array.ext'; simp
    simp only [execOp, ho, resolve, hc, h1, Deferred.ofValue, Sem.run_bind, Sem.run_pure, Result.andThen_ok, invoke, run_callFunc_enter hok, e]
  · have h2 := argsPV_spec he _ _ hps
    unfold Reps
    exact ⟨_, _, rfl, by unfold Rep; exact ⟨rfl, rfl⟩, h2⟩
end
end Go.VS
