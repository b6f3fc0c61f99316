/-
  Groups of '&&' and '||' in which an own block turns; regions that draw their order and turn own blocks. Over any program. Condition: the program's orders are mixed ones.
-/
import Derived.Test.YteocnbeefedbkaaWb
set_option linter.unusedSimpArgs false
set_option linter.unusedVariables false
namespace Go.VS

section
variable {Φ : Ctx} {α : AEnv} {ops : Array Oper} {K : AEnv → Prop} {rest l : List Oper}

theorem VO.groupH {n tg r d : Nat} {want c e : Bool} {D : List Nat} {pk : Oper} {x y : Operand} (H2 : List (Nat × Obj')) (hc : get α.E tg = some (.bool c)) (hl : l.drop n = pk :: rest) (hsk : skipOK ops tg want (l.take n) [] = some D)
    (hcl : clearOf α.E D = true) (hpk : pk.op = .pick (.tmp tg) x y) (hd : pk.dst = some d) (hn : d < α.n) (hw : Wanted ops α pk)
    (hr : (if want then x else y) = .tmp r) (hno : (if want then y else x) = .const (.bool (!want))) (hoff : c = !want → α.H = H2)
    (hyes : c = want → VO Φ ops (l.take n) (fun α' => get α'.E r = some (.bool e) ∧ get α'.E tg = some (.bool want) ∧ α'.n = α.n ∧ α'.H = H2 ∧ TailOf (tg :: D) α.E α'.E) (α.put tg (.bool want)))
    (hk : VO Φ ops rest K ⟨α.n, (d, .bool (if want then c && e else c || e)) :: α.E, H2⟩) : VO Φ ops l K α := by
  intro a w he
  have hl' : l = l.take n ++ pk :: rest := by rw [← hl, List.take_append_drop]
  have hpick : ∀ (a : Act) (w : World), ER Φ ⟨α.n, α.E, H2⟩ a w → a.eval (if c then x else y) = .bool (if want then c && e else c || e) → wpList Φ.P ops (fun e a' w' => e = .normal ∧ ∃ α', K α' ∧ ER Φ α' a' w') (pk :: rest) a w := by
    intro a w he hv
    unfold wpList
    rw [if_pos ((show Wanted ops ⟨α.n, α.E, H2⟩ pk from hw).yes he)]
    refine .inl ?_
    obtain ⟨S, he⟩ := he
    have h1 : a.eval (.tmp tg) = .bool c := by
      have := he.eval (x := .tmp tg) (p := .bool c) hc
      unfold Rep at this
      exact this
    have hrun : (execOp a.eval pk).run Φ.P w = .ok (.value (.bool (if want then c && e else c || e))) w := by
      simp only [execOp, hpk, h1, asBool, Sem.run_bind, Sem.run_pure, Result.andThen_ok]
      rw [← hv]
      cases c <;> rfl
    unfold Oper.wp
    rw [hrun, Oper.upon_value, hd]
    exact hk _ _ ⟨S, he.put (d := d) hn (by unfold Rep; rfl)⟩
  rw [hl']
  by_cases hcw : c = want
  · refine wpList_append _ a w ?_
    have he' : ER Φ (α.put tg (.bool want)) a w := by
      obtain ⟨S, he⟩ := he
      refine ⟨S, { he with slots := fun t z hz => ?_ }⟩
      simp only [AEnv.put, Go.VS.get] at hz
      split at hz
      · rename_i e1
        have e1 := Nat.eq_of_beq_eq_true e1
        subst e1
        cases hz
        exact he.slots tg _ (by rw [hc, hcw])
      · exact he.slots t z hz
    have h2 := hyes hcw a w he'
    refine wpList_mono' ?_ _ a w h2
    rintro e' a' w' ⟨rfl, α', ⟨q1, qt, qn, q2, q3⟩, q4⟩
    refine ⟨rfl, ?_⟩
    obtain ⟨S', q4⟩ := q4
    have q5 : ER Φ ⟨α.n, α.E, H2⟩ a' w' := by
      refine ⟨S', { q4 with size := by rw [← qn]; exact q4.size, slots := fun t z hz => ?_, objs := by rw [← q2]; exact q4.objs, nodup := by rw [← q2]; exact q4.nodup }⟩
      simp only at hz
      by_cases ht : t = tg
      · subst ht
        rw [hc] at hz
        cases hz
        exact q4.slots t _ (by rw [qt, hcw])
      · exact q4.slots t z (q3.get (by simp only [List.mem_cons, not_or]; exact ⟨ht, clearOf.get hcl hz⟩) hz)
    refine hpick a' w' q5 ?_
    have q6 := q4.eval (x := .tmp r) q1
    unfold Rep at q6
    rw [hcw, hr, q6]
    cases want <;> rfl
  · have hcw : c = !want := (by decide : ∀ c w : Bool, ¬ c = w → c = !w) c want hcw
    have htg : a.tmps[tg]? = some (.bool (!want)) := by
      obtain ⟨S, he⟩ := he
      obtain ⟨v, h1, h2⟩ := he.slots tg _ hc
      unfold Rep at h2
      rw [h1, h2, hcw]
    refine skip_run _ [] D a hsk htg (fun t ht => by cases ht) fun a' q1 q2 q3 => ?_
    have q5 : ER Φ ⟨α.n, α.E, H2⟩ a' w := by
      obtain ⟨S, he⟩ := he
      refine ⟨S, { he with defers := by rw [q1]; exact he.defers, size := by rw [q2]; exact he.size, slots := fun t z hz => ?_, objs := by rw [← hoff hcw]; exact he.objs, nodup := by rw [← hoff hcw]; exact he.nodup }⟩
      rw [q3 t (clearOf.get hcl hz)]
      exact he.slots t z hz
    refine hpick a' w q5 ?_
    have : (if c then x else y) = .const (.bool (!want)) := by rw [← hno, hcw]; cases want <;> rfl
    rw [this, hcw]
    cases want <;> rfl

theorem VO.andH {n tg r d : Nat} {c e : Bool} {D : List Nat} {pk : Oper} (H2 : List (Nat × Obj')) (hc : get α.E tg = some (.bool c)) (hl : l.drop n = pk :: rest) (hsk : skipOK ops tg true (l.take n) [] = some D)
    (hcl : clearOf α.E D = true) (hpk : pk.op = .pick (.tmp tg) (.tmp r) (.const (.bool false))) (hd : pk.dst = some d) (hn : d < α.n) (hw : Wanted ops α pk) (hoff : c = false → α.H = H2)
    (hyes : c = true → VO Φ ops (l.take n) (fun α' => get α'.E r = some (.bool e) ∧ get α'.E tg = some (.bool true) ∧ α'.n = α.n ∧ α'.H = H2 ∧ TailOf (tg :: D) α.E α'.E) (α.put tg (.bool true)))
    (hk : VO Φ ops rest K ⟨α.n, (d, .bool (c && e)) :: α.E, H2⟩) : VO Φ ops l K α :=
  VO.groupH (want := true) H2 hc hl hsk hcl hpk hd hn hw rfl rfl hoff hyes hk

theorem VO.orH {n tg r d : Nat} {c e : Bool} {D : List Nat} {pk : Oper} (H2 : List (Nat × Obj')) (hc : get α.E tg = some (.bool c)) (hl : l.drop n = pk :: rest) (hsk : skipOK ops tg false (l.take n) [] = some D)
    (hcl : clearOf α.E D = true) (hpk : pk.op = .pick (.tmp tg) (.const (.bool true)) (.tmp r)) (hd : pk.dst = some d) (hn : d < α.n) (hw : Wanted ops α pk) (hoff : c = true → α.H = H2)
    (hyes : c = false → VO Φ ops (l.take n) (fun α' => get α'.E r = some (.bool e) ∧ get α'.E tg = some (.bool false) ∧ α'.n = α.n ∧ α'.H = H2 ∧ TailOf (tg :: D) α.E α'.E) (α.put tg (.bool false)))
    (hk : VO Φ ops rest K ⟨α.n, (d, .bool (c || e)) :: α.E, H2⟩) : VO Φ ops l K α :=
  VO.groupH (want := false) H2 hc hl hsk hcl hpk hd hn hw rfl rfl hoff hyes hk

theorem Keeps.setAt {n : Nat} {E : List (Nat × PV)} {H : List (Nat × Obj')} {p : Nat × Obj'} (k : Nat) (h : k < H.length) : Keeps Φ ⟨n, E, p :: H.eraseIdx k⟩ ⟨n, E, H.set k p⟩ := by
  rintro a w ⟨S, he⟩
  have hp : List.Perm (p :: H.eraseIdx k) (H.set k p) := by
    have h1 : (H.set k p)[k]? = some p := by simp [h]
    have h2 := perm_erase h1
    rw [List.eraseIdx_set_eq] at h2
    exact h2.symm
  exact ⟨S, { he with objs := fun b o hb => he.objs b o (hp.mem_iff.2 hb), nodup := (hp.map Prod.fst).nodup_iff.1 he.nodup }⟩
end

/-! ### Regions that draw their order and turn own blocks -/
section
variable {Φ : Ctx} {l : List Oper} {N : Nat} {I : List (Nat × Obj')} {E0 : List (Nat × PV)}

def putD : Option Nat → PV → List (Nat × PV) → List (Nat × PV)
  | some d, p, E => (d, p) :: E
  | none, _, E => E

/-- The facts that an operation draws on: slots with the place of the operation that fills it (none: filled before the region). -/
def chkDep (l : List Oper) (A : List Nat) (i : Nat) (o : Oper) : Nat × Option Nat → Bool
  | (t, some j) => (afters o).contains j && dstIs l j t
  | (t, none) => notBefore l A i t

def DepS (E0 known : List (Nat × PV)) : List (Nat × Option Nat) → List (Nat × PV) → Prop
  | [], D => D = []
  | (t, some j) :: L, D => ∃ x D1, D = (t, x) :: D1 ∧ get known j = some x ∧ DepS E0 known L D1
  | (t, none) :: L, D => ∃ x D1, D = (t, x) :: D1 ∧ get E0 t = some x ∧ DepS E0 known L D1

structure SrcS where
  facts : List (Nat × Option Nat)
  eff : Bool

def chkS1 (l : List Oper) (A : List Nat) (N i : Nat) (o : Oper) (e : SrcS) : Bool :=
  (match o.dst with | some d => Nat.blt d N && ((List.range l.length).all fun j => Nat.beq j i || !(dstIs l j d)) | none => e.eff) &&
  (afters o).all (fun j => Nat.blt j i) && (match o.guard with | none => true | some _ => false) && e.facts.all (chkDep l A i o)

def chkS (l : List Oper) (A : List Nat) (src : List SrcS) (N : Nat) : Bool :=
  Nat.beq src.length l.length && (List.range l.length).all fun i => match l[i]?, src[i]? with | some o, some e => chkS1 l A N i o e | _, _ => false

/-- Which effects stand before operation i. -/
def effAnc (A : List Nat) (src : List SrcS) (i : Nat) : List Nat := (List.range src.length).filter fun j => !(Nat.beq j i) && (A.getD i 0).testBit j && (match src[j]? with | some e => e.eff | none => false)

def isEff (src : List SrcS) (i : Nat) : Bool := match src[i]? with | some e => e.eff | none => false

/-- Operation i may come when the effects F are behind. -/
def mayCome (A : List Nat) (src : List SrcS) (F : List Nat) (i : Nat) : Bool := (effAnc A src i).all F.contains

/-- What is shown of a pure operation. -/
def PureS (Φ : Ctx) (l : List Oper) (src : List SrcS) (N : Nat) (I : List (Nat × Obj')) (E0 known : List (Nat × PV)) (j : Nat) (p : PV) : Prop :=
  ∃ o e d D, l[j]? = some o ∧ src[j]? = some e ∧ o.dst = some d ∧ DepS E0 known e.facts D ∧ ∀ E' H', (∀ q, q ∈ I → q ∈ H') → V1 Φ o ⟨N, D ++ E', H'⟩ fun α' => α' = ⟨N, (d, p) :: (D ++ E'), H'⟩

/-- All is known that is no effect and may come when F is behind. -/
def allKnown (A : List Nat) (src : List SrcS) (F : List Nat) (known : List (Nat × PV)) : Bool :=
  (List.range src.length).all fun j => (known.map Prod.fst).contains j || isEff src j || !(mayCome A src F j)

def candS (A : List Nat) (src : List SrcS) (F : List Nat) : List Nat := (List.range src.length).filter fun i => isEff src i && !(F.contains i) && mayCome A src F i

/-- The pure operations that may come now, one after the other. -/
def WalkP (Φ : Ctx) (l : List Oper) (src : List SrcS) (N : Nat) (I : List (Nat × Obj')) (E0 : List (Nat × PV)) (X : List (Nat × PV) → Prop) (known : List (Nat × PV)) : Prop :=
  ∃ more, (∀ j p, get (more ++ known) j = some p → get known j = some p ∨ (isEff src j = false ∧ PureS Φ l src N I E0 (more ++ known) j p)) ∧ (∀ j p, get known j = some p → get (more ++ known) j = some p) ∧ X (more ++ known)

def NodeS (Φ : Ctx) (l : List Oper) (src : List SrcS) (N : Nat) (I : List (Nat × Obj')) (E0 : List (Nat × PV)) (Fin : List (Nat × PV) → List (Nat × Obj') → Prop) : Nat → List Nat → List (Nat × PV) → List (Nat × Obj') → Prop
  | 0, F, known, H => (∀ q, q ∈ I → q ∈ H) ∧ candS (ancs l) src F = [] ∧ allKnown (ancs l) src F known = true ∧ ((List.range src.length).all fun j => (known.map Prod.fst).contains j) = true ∧ Fin known H
  | n + 1, F, known, H => (∀ q, q ∈ I → q ∈ H) ∧ candS (ancs l) src F ≠ [] ∧ allKnown (ancs l) src F known = true ∧ ∀ i, i ∈ candS (ancs l) src F → ∃ o e d D, l[i]? = some o ∧ src[i]? = some e ∧ o.dst = d ∧ DepS E0 known e.facts D ∧
      ∀ E', V1 Φ o ⟨N, D ++ E', H⟩ fun α' => ∃ p H', α' = ⟨N, putD d p (D ++ E'), H'⟩ ∧ WalkP Φ l src N I E0 (fun known' => NodeS Φ l src N I E0 Fin n (i :: F) known' H') ((i, p) :: known)

theorem chkS.op {src : List SrcS} (hc : chkS l (ancs l) src N = true) {i : Nat} {o : Oper} (ho : l[i]? = some o) : ∃ e, src[i]? = some e ∧ chkS1 l (ancs l) N i o e = true := by
  simp only [chkS, Bool.and_eq_true, List.all_eq_true, List.mem_range] at hc
  have hi := (List.getElem?_eq_some_iff.1 ho).1
  have := hc.2 i hi
  have hl := Nat.eq_of_beq_eq_true hc.1
  obtain ⟨e, he⟩ : ∃ e, src[i]? = some e := ⟨_, List.getElem?_eq_getElem (by omega)⟩
  exact ⟨e, he, by simpa [ho, he] using this⟩

theorem DepS.mono {known known' : List (Nat × PV)} (hm : ∀ j p, get known j = some p → get known' j = some p) : ∀ {L : List (Nat × Option Nat)} {D : List (Nat × PV)}, DepS E0 known L D → DepS E0 known' L D
  | [], _, h => h
  | (t, some j) :: L, D, h => by obtain ⟨x, D1, e, h1, h2⟩ := h; exact ⟨x, D1, e, hm _ _ h1, h2.mono hm⟩
  | (t, none) :: L, D, h => by obtain ⟨x, D1, e, h1, h2⟩ := h; exact ⟨x, D1, e, h1, h2.mono hm⟩

structure MidS (Φ : Ctx) (l : List Oper) (src : List SrcS) (N : Nat) (I : List (Nat × Obj')) (E0 : List (Nat × PV)) (Fin : List (Nat × PV) → List (Nat × Obj') → Prop) (listed : Array Bool) (a : Act) (w : World) : Prop where
  ex : ∃ (n : Nat) (F : List Nat) (known E : List (Nat × PV)) (H : List (Nat × Obj')), ER Φ ⟨N, E, H⟩ a w ∧
    (∀ j q d p, At listed j → l[j]? = some q → q.dst = some d → get known j = some p → get E d = some p) ∧
    (∀ t x, get E0 t = some x → (∀ j, At listed j → dstIs l j t = false) → get E t = some x) ∧
    (∀ i, i < l.length → isEff src i = true → (F.contains i = true ↔ At listed i)) ∧
    (∀ j p, get known j = some p → isEff src j = false → PureS Φ l src N I E0 known j p) ∧
    (∀ j, j < l.length → At listed j → ∃ p, get known j = some p) ∧ (∀ j p, get known j = some p → isEff src j = true → At listed j) ∧ NodeS Φ l src N I E0 Fin n F known H

theorem contains_get {known : List (Nat × PV)} {j : Nat} (h : (known.map Prod.fst).contains j = true) : ∃ p, get known j = some p := by
  induction known with
  | nil => simp at h
  | cons q r ih =>
    obtain ⟨t, x⟩ := q
    simp only [get]
    cases hb : Nat.beq t j with
    | true => exact ⟨x, rfl⟩
    | false =>
      simp only [List.map_cons, List.contains_cons, Bool.or_eq_true, beq_iff_eq] at h
      rcases h with h | h
      · subst h; simp at hb
      · exact ih h

theorem deps_there {src : List SrcS} (hc : chkS l (ancs l) src N = true) {ops : Array Oper} {listed : Array Bool} (hl : ∀ (j : Nat) (o : Oper), l[j]? = some o → ops[j]? = some o) (hcl : Closed ops listed) {known E : List (Nat × PV)}
    (hdone : ∀ j q d p, At listed j → l[j]? = some q → q.dst = some d → get known j = some p → get E d = some p)
    (hold : ∀ t x, get E0 t = some x → (∀ j, At listed j → dstIs l j t = false) → get E t = some x)
    {i : Nat} {o : Oper} (hi : ¬ At listed i) (haf : ∀ k, k ∈ afters o → At listed k) :
    ∀ {L : List (Nat × Option Nat)} {D : List (Nat × PV)}, DepS E0 known L D → L.all (chkDep l (ancs l) i o) = true → ∀ t x, get D t = some x → get E t = some x
  | [], D, h, _, t, x, hx => by simp only [DepS] at h; subst h; cases hx
  | (s, some j) :: L, D, h, hk, t, x, hx => by
    obtain ⟨y, D1, rfl, h1, h2⟩ := h
    simp only [List.all_cons, Bool.and_eq_true] at hk
    simp only [get] at hx
    split at hx
    · rename_i e1
      have e1 := Nat.eq_of_beq_eq_true e1
      subst e1
      cases hx
      have hk1 := hk.1
      simp only [chkDep, Bool.and_eq_true] at hk1
      obtain ⟨q, hq, hqd⟩ := dstIs_iff.1 hk1.2
      exact hdone j q _ _ (haf j (by simpa using hk1.1)) hq hqd h1
    · exact deps_there hc hl hcl hdone hold hi haf h2 hk.2 t x hx
  | (s, none) :: L, D, h, hk, t, x, hx => by
    obtain ⟨y, D1, rfl, h1, h2⟩ := h
    simp only [List.all_cons, Bool.and_eq_true] at hk
    simp only [get] at hx
    split at hx
    · rename_i e1
      have e1 := Nat.eq_of_beq_eq_true e1
      subst e1
      cases hx
      refine hold _ _ h1 fun j hj => ?_
      cases hdj : dstIs l j s with
      | false => rfl
      | true =>
        exfalso
        obtain ⟨q, hq, _⟩ := dstIs_iff.1 hdj
        have hk1 := hk.1
        simp only [chkDep, notBefore, List.all_eq_true, List.mem_range] at hk1
        have := hk1 j (List.getElem?_eq_some_iff.1 hq).1
        rw [hdj] at this
        simp only [Bool.not_true, Bool.or_false, Bool.or_eq_true] at this
        rcases this with h3 | h3
        · exact hi (by rw [← Nat.eq_of_beq_eq_true h3]; exact hj)
        · exact hi (ancs_spec hcl hl h3 hj)
    · exact deps_there hc hl hcl hdone hold hi haf h2 hk.2 t x hx

theorem MidS.step {src : List SrcS} {Fin : List (Nat × PV) → List (Nat × Obj') → Prop} {ops : Array Oper} {listed : Array Bool} {a : Act} {w : World} {Q : Exit → Act → World → Prop} (hc : chkS l (ancs l) src N = true)
    (hl : ∀ (j : Nat) (o : Oper), l[j]? = some o → ops[j]? = some o) (hcl : Closed ops listed) (hM : MidS Φ l src N I E0 Fin listed a w) {i : Nat} {o : Oper} (ho : l[i]? = some o) (hi : ¬ At listed i) (hsz : i < listed.size) (haf : ∀ k, k ∈ afters o → At listed k) :
    wpOp Φ.P ops Q i (fun a' w' => MidS Φ l src N I E0 Fin (listed.setIfInBounds i true) a' w') a w := by
  obtain ⟨e, he, hco⟩ := chkS.op hc ho
  simp only [chkS1, Bool.and_eq_true] at hco
  obtain ⟨⟨⟨c1, c2⟩, c3⟩, c4⟩ := hco
  obtain ⟨n, F, known, E, H, her, hdone, hold, heff, hpure, hkn, hnk, hnode⟩ := hM.ex
  have hil : i < l.length := (List.getElem?_eq_some_iff.1 ho).1
  have hgd : o.guard = none := by
    cases hg : o.guard with
    | none => rfl
    | some _ => rw [hg] at c3; cases c3
  have hone : ∀ d, o.dst = some d → ∀ j q, l[j]? = some q → q.dst = some d → j = i := by
    intro d hd j q hq hqd
    rw [hd] at c1
    simp only [Bool.and_eq_true, List.all_eq_true, List.mem_range] at c1
    have := c1.2 j (List.getElem?_eq_some_iff.1 hq).1
    rw [dstIs_iff.2 ⟨q, hq, hqd⟩] at this
    simp only [Bool.not_true, Bool.or_false] at this
    exact Nat.eq_of_beq_eq_true this
  -- the effects before i are behind
  have hmay : mayCome (ancs l) src F i = true := by
    simp only [mayCome, effAnc, List.all_eq_true, List.mem_filter, List.mem_range, Bool.and_eq_true]
    rintro j ⟨hj, ⟨hjne, hb⟩, hje⟩
    have hsl : src.length = l.length := by
      simp only [chkS, Bool.and_eq_true] at hc; exact Nat.eq_of_beq_eq_true hc.1
    have hcl' := hcl.set hsz (fun o' h => by rw [hl i o ho] at h; cases h; exact haf)
    have hat := ancs_spec hcl' hl hb ((At.set hsz).2 (.inl rfl))
    have hji : At listed j := by
      rcases (At.set hsz).1 hat with rfl | h
      · simp at hjne
      · exact h
    exact (heff j (by omega) hje).2 hji
  -- running it
  have go : ∀ {K0 : AEnv → Prop} {D : List (Nat × PV)}, DepS E0 known e.facts D → V1 Φ o ⟨N, D ++ E, H⟩ K0 →
      (∀ α' a' w', K0 α' → ER Φ α' a' w' → (∀ t x, get D t = some x → get E t = some x) → MidS Φ l src N I E0 Fin (listed.setIfInBounds i true) a' w') →
      wpOp Φ.P ops Q i (fun a' w' => MidS Φ l src N I E0 Fin (listed.setIfInBounds i true) a' w') a w := by
    intro K0 D hD hV hnext
    have hDE := deps_there hc hl hcl hdone hold hi haf hD c4
    have hER : ER Φ ⟨N, D ++ E, H⟩ a w := by
      obtain ⟨S, hE⟩ := her
      refine ⟨S, { hE with slots := fun t x hx => hE.slots t x ?_ }⟩
      simp only [get_append] at hx
      split at hx
      · rename_i y hy; cases hx; exact hDE t x hy
      · exact hx
    unfold wpOp
    rw [hl i o ho]
    simp only
    rw [if_pos (by simp [Region.wanted, hgd])]
    left
    have := hV a w hER
    have h2 : o.wp Φ.P a w (fun a' w' => MidS Φ l src N I E0 Fin (listed.setIfInBounds i true) a' w') (fun _ _ _ => False) :=
      Oper.wp_mono (fun a' w' ⟨α', h1, h2⟩ => hnext α' a' w' h1 h2 hDE) this
    clear this
    unfold Oper.wp at *
    generalize (execOp a.eval o).run Φ.P w = r at *
    cases r with
    | ok n w' =>
      cases n <;> simp only [Oper.upon] at h2 ⊢ <;> first
        | exact h2
        | (refine Calls.mono h2 ?_; intro e w'' he; cases e <;> first | exact he | exact he.elim | (obtain ⟨_, _, h⟩ := he; exact h.elim))
    | halt x w' => cases x <;> simp only [Oper.upon] at h2 ⊢
  -- the next environment's facts
  have facts : ∀ {D : List (Nat × PV)} {p : PV}, (∀ t x, get D t = some x → get E t = some x) → (∀ t, o.dst ≠ some t → get (putD o.dst p (D ++ E)) t = get E t) ∧ (∀ d, o.dst = some d → get (putD o.dst p (D ++ E)) d = some p) := by
    intro D p hDE
    have hDE' : ∀ t, get (D ++ E) t = get E t := by
      intro t
      simp only [get_append]
      cases hdt : get D t with
      | none => rfl
      | some y => exact (hDE t y hdt).symm
    cases hd : o.dst with
    | none => exact ⟨fun t _ => hDE' t, fun d h => by cases h⟩
    | some d =>
      refine ⟨fun t ht => ?_, fun d' h => by cases h; simp only [putD, get, Nat.beq_refl]⟩
      simp only [putD, get]
      have : Nat.beq d t = false := by
        cases hb : Nat.beq d t with
        | true => exact absurd (by rw [Nat.eq_of_beq_eq_true hb]) ht
        | false => rfl
      rw [this]
      exact hDE' t
  have hold' : ∀ {E' : List (Nat × PV)}, (∀ t, o.dst ≠ some t → get E' t = get E t) → ∀ t x, get E0 t = some x → (∀ j, At (listed.setIfInBounds i true) j → dstIs l j t = false) → get E' t = some x := by
    intro E' hE' t y hy hno
    have hne : o.dst ≠ some t := by
      intro hd
      have := hno i ((At.set hsz).2 (.inl rfl))
      rw [dstIs_iff.2 ⟨o, ho, hd⟩] at this
      cases this
    rw [hE' t hne]
    exact hold t y hy fun j hj => hno j ((At.set hsz).2 (.inr hj))
  cases hie : isEff src i with
  | true =>
    have hcand : i ∈ candS (ancs l) src F := by
      simp only [candS, List.mem_filter, List.mem_range, Bool.and_eq_true, Bool.not_eq_true']
      refine ⟨?_, ⟨hie, ?_⟩, hmay⟩
      · exact (List.getElem?_eq_some_iff.1 he).1
      · cases hb : F.contains i with
        | false => rfl
        | true => exact absurd ((heff i hil hie).1 hb) hi
    cases n with
    | zero => obtain ⟨_, h1, _⟩ := hnode; rw [h1] at hcand; cases hcand
    | succ n =>
      obtain ⟨_, _, _, hstep⟩ := hnode
      obtain ⟨o', e', d', D, ho', he', hd', hD, hV⟩ := hstep i hcand
      rw [ho] at ho'; cases ho'
      rw [he] at he'; cases he'
      subst hd'
      refine go hD (hV E) ?_
      rintro α' a' w' ⟨p, H', hα, more, hw1, hw2, hw3⟩ her' hDE
      -- α' is over some E'
      obtain ⟨hf1, hf2⟩ := facts (p := p) hDE
      refine ⟨⟨n, i :: F, more ++ (i, p) :: known, putD o.dst p (D ++ E), H', by rw [← hα]; exact her', ?_, hold' hf1, ?_, ?_, ?_, ?_, hw3⟩⟩
      · intro j q dj pj hj hq hqd hpj
        rcases (At.set hsz).1 hj with rfl | hj'
        · rw [ho] at hq; cases hq
          have := hw2 j p (by simp only [get, Nat.beq_refl])
          rw [this] at hpj; cases hpj
          exact hf2 dj hqd
        · have hji : j ≠ i := by rintro rfl; exact hi hj'
          obtain ⟨p0, hp0⟩ := hkn j (List.getElem?_eq_some_iff.1 hq).1 hj'
          have h3 := hw2 j p0 (by
            simp only [get]
            have : Nat.beq i j = false := by
              cases hb : Nat.beq i j with
              | true => exact absurd (Nat.eq_of_beq_eq_true hb).symm hji
              | false => rfl
            rw [this]; exact hp0)
          rw [h3] at hpj; cases hpj
          have hne : o.dst ≠ some dj := fun hd => hji (hone dj hd j q hq hqd)
          rw [hf1 dj hne]
          exact hdone j q dj _ hj' hq hqd hp0
      · intro k hk hke
        simp only [List.contains_cons, Bool.or_eq_true, beq_iff_eq]
        rw [At.set hsz, heff k hk hke]
      · intro j pj hpj hje
        have hmono : ∀ j p', get known j = some p' → get (more ++ (i, p) :: known) j = some p' ∨ j = i := by
          intro j p' hj
          by_cases hji : j = i
          · exact .inr hji
          · left
            refine hw2 j p' ?_
            simp only [get]
            have : Nat.beq i j = false := by
              cases hb : Nat.beq i j with
              | true => exact absurd (Nat.eq_of_beq_eq_true hb).symm hji
              | false => rfl
            rw [this]; exact hj
        rcases hw1 j pj hpj with h3 | ⟨_, h3⟩
        · simp only [get] at h3
          split at h3
          · rename_i e1
            have e1 := Nat.eq_of_beq_eq_true e1
            subst e1
            rw [hie] at hje; cases hje
          · obtain ⟨o2, e2, d2, D2, k1, k2, k3, k4, k5⟩ := hpure j pj h3 hje
            refine ⟨o2, e2, d2, D2, k1, k2, k3, ?_, k5⟩
            -- what it draws on is known as before: the effect i was not known before
            refine k4.mono fun j' p' h4 => ?_
            rcases hmono j' p' h4 with h5 | h5
            · exact h5
            · subst h5
              exfalso
              have hkF : ∀ q, get known j' = some q → False := by
                intro q hq
                exact hi (hnk j' q hq hie)
              exact hkF _ h4
        · exact h3
      · intro j hj hja
        rcases (At.set hsz).1 hja with rfl | hj'
        · exact ⟨p, hw2 j p (by simp only [get, Nat.beq_refl])⟩
        · obtain ⟨p0, hp0⟩ := hkn j hj hj'
          have hji : j ≠ i := by rintro rfl; exact hi hj'
          refine ⟨p0, hw2 j p0 ?_⟩
          simp only [get]
          have : Nat.beq i j = false := by
            cases hb : Nat.beq i j with
            | true => exact absurd (Nat.eq_of_beq_eq_true hb).symm hji
            | false => rfl
          rw [this]; exact hp0
      · intro j pj hpj hje
        rcases hw1 j pj hpj with h3 | ⟨h3, _⟩
        · simp only [get] at h3
          split at h3
          · rename_i e1
            rw [← Nat.eq_of_beq_eq_true e1]
            exact (At.set hsz).2 (.inl rfl)
          · exact (At.set hsz).2 (.inr (hnk j pj h3 hje))
        · rw [h3] at hje; cases hje
  | false =>
    have hall : allKnown (ancs l) src F known = true := by
      cases n with
      | zero => exact hnode.2.2.1
      | succ n => exact hnode.2.2.1
    have hI : ∀ q, q ∈ I → q ∈ H := by
      cases n with
      | zero => exact hnode.1
      | succ n => exact hnode.1
    obtain ⟨p, hp⟩ : ∃ p, get known i = some p := by
      refine contains_get ?_
      simp only [allKnown, List.all_eq_true, List.mem_range] at hall
      have := hall i (List.getElem?_eq_some_iff.1 he).1
      rw [hie, hmay] at this
      simpa using this
    obtain ⟨o', e', d', D, ho', he', hd', hD, hV⟩ := hpure i p hp hie
    rw [ho] at ho'; cases ho'
    rw [he] at he'; cases he'
    refine go hD (hV E H hI) ?_
    intro α' a' w' hα her' hDE
    obtain ⟨hf1, hf2⟩ := facts (p := p) hDE
    refine ⟨⟨n, F, known, putD o.dst p (D ++ E), H, by rw [hd']; rw [hα] at her'; exact her', ?_, hold' hf1, ?_, hpure, ?_, ?_, hnode⟩⟩
    · intro j q dj pj hj hq hqd hpj
      rcases (At.set hsz).1 hj with rfl | hj'
      · rw [ho] at hq; cases hq
        rw [hp] at hpj; cases hpj
        exact hf2 dj hqd
      · have hne : o.dst ≠ some dj := fun hd => absurd (hone dj hd j q hq hqd) (by rintro rfl; exact hi hj')
        rw [hf1 dj hne]
        exact hdone j q dj _ hj' hq hqd hpj
    · intro k hk hke
      rw [At.set hsz, heff k hk hke]
      constructor
      · exact .inr
      · rintro (rfl | h)
        · rw [hie] at hke; cases hke
        · exact h
    · intro j hj hja
      rcases (At.set hsz).1 hja with rfl | hj'
      · exact ⟨p, hp⟩
      · exact hkn j hj hj'
    · intro j pj hpj hje
      exact (At.set hsz).2 (.inr (hnk j pj hpj hje))

theorem any_goS {src : List SrcS} {Fin : List (Nat × PV) → List (Nat × Obj') → Prop} {tl : List Oper} {Q : Exit → Act → World → Prop} (hc : chkS l (ancs l) src N = true) (ht : chkTail l tl = true)
    (hfin : ∀ listed a w, (∀ j, j < l.length → At listed j) → MidS Φ l src N I E0 Fin listed a w → wpList Φ.P (l ++ tl).toArray Q tl a w) :
    ∀ (fuel : Nat) (listed : Array Bool) (a : Act) (w : World), listed.size = (l ++ tl).toArray.size → Closed (l ++ tl).toArray listed → (∀ j, l.length ≤ j → ¬ At listed j) → MidS Φ l src N I E0 Fin listed a w →
      unl listed l.length + tl.length ≤ fuel → wpAny Φ.P .any (l ++ tl).toArray Q fuel listed a w := by
  intro fuel
  have hl : ∀ (j : Nat) (o : Oper), l[j]? = some o → (l ++ tl).toArray[j]? = some o := by
    intro j o h
    have := (List.getElem?_eq_some_iff.1 h).1
    simp only [List.getElem?_toArray]
    rw [List.getElem?_append_left this]; exact h
  induction fuel with
  | zero =>
    intro listed a w hs hcl hno hM hf
    have hall := unl_zero (listed := listed) (m := l.length) (by omega)
    exact tail_go ht 0 0 listed a w hs hcl (fun j => ⟨fun h => by rcases Nat.lt_or_ge j l.length with h1 | h1; exact h1; exact absurd h (hno j h1), fun h => hall j h⟩) (by omega) (by omega) (hfin listed a w hall hM)
  | succ fuel ih =>
    intro listed a w hs hcl hno hM hf
    by_cases hall : ∀ j, j < l.length → At listed j
    · exact tail_go ht (fuel + 1) 0 listed a w hs hcl (fun j => ⟨fun h => by rcases Nat.lt_or_ge j l.length with h1 | h1; exact h1; exact absurd h (hno j h1), fun h => hall j h⟩) (by omega) (by omega) (hfin listed a w hall hM)
    · obtain ⟨j, hj⟩ : ∃ j, j < l.length ∧ ¬ At listed j := by
        refine Classical.byContradiction fun h => hall fun j hj => Classical.byContradiction fun h' => h ⟨j, hj, h'⟩
      obtain ⟨j, ⟨hj, hju⟩, hleast⟩ := least (p := fun j => j < l.length ∧ ¬ At listed j) ⟨j, hj⟩
      have waits : ∀ (i : Nat) (o : Oper), l[i]? = some o → ∀ k, k ∈ afters o → k < i := by
        intro i o ho k hk
        obtain ⟨e, _, hco⟩ := chkS.op hc ho
        simp only [chkS1, Bool.and_eq_true, List.all_eq_true] at hco
        exact ltb (hco.1.1.2 k hk)
      refine wpAny_all (rs := Region.ready .any (l ++ tl).toArray listed) rfl ?_ ?_
      · intro h
        have hq : l[j]? = some l[j] := List.getElem?_eq_getElem hj
        have : j ∈ Region.ready .any (l ++ tl).toArray listed := (ready_iff hs).2 ⟨hju, _, hl j _ hq, fun k hk => by
          have hkj := waits j _ hq k hk
          exact Classical.byContradiction fun h => absurd (hleast k ⟨by omega, h⟩) (by omega)⟩
        rw [h] at this
        cases this
      · intro i hi
        obtain ⟨hni, o, ho, hw⟩ := (ready_iff hs).1 hi
        have hil : i < l.length := by
          rcases Nat.lt_or_ge i l.length with h | h
          · exact h
          · exact absurd (tail_ready ht hs hcl hi h j (by omega)) hju
        have ho' : l[i]? = some o := by
          simp only [List.getElem?_toArray] at ho
          rw [List.getElem?_append_left hil] at ho; exact ho
        have hsz : i < listed.size := by rw [hs]; simp; omega
        refine wpOp_mono (fun a' w' h => ?_) (MidS.step (Q := Q) hc hl hcl hM ho' hni hsz hw)
        refine ih _ a' w' (by simpa using hs) (hcl.set hsz fun o' h => by rw [ho] at h; cases h; exact hw) (fun k hk h => ?_) h ?_
        · rcases (At.set hsz).1 h with rfl | h
          · omega
          · exact hno k hk h
        · have := unl_set hsz (by unfold At at hni; simpa using hni) l.length
          rw [if_pos hil] at this
          omega

/-- The slots that are needed behind the region, with the place of the operation that fills each. -/
def chkFinS (l : List Oper) : Nat × Option Nat → Bool
  | (t, some j) => Nat.blt j l.length && dstIs l j t
  | (t, none) => (List.range l.length).all fun j => !(dstIs l j t)

theorem DepS.fin {src : List SrcS} {listed : Array Bool} {known E : List (Nat × PV)} (hall : ∀ j, j < l.length → At listed j)
    (hdone : ∀ j q d p, At listed j → l[j]? = some q → q.dst = some d → get known j = some p → get E d = some p)
    (hold : ∀ t x, get E0 t = some x → (∀ j, At listed j → dstIs l j t = false) → get E t = some x) :
    ∀ {fs : List (Nat × Option Nat)} {D : List (Nat × PV)}, DepS E0 known fs D → fs.all (chkFinS l) = true → ∀ t x, get D t = some x → get E t = some x
  | [], D, h, _, t, x, hx => by simp only [DepS] at h; subst h; cases hx
  | (s, some r) :: fs, D, h, hc, t, x, hx => by
    obtain ⟨y, D1, rfl, h1, h2⟩ := h
    simp only [List.all_cons, Bool.and_eq_true] at hc
    simp only [get] at hx
    split at hx
    · rename_i e1
      have e1 := Nat.eq_of_beq_eq_true e1
      subst e1
      cases hx
      have hc1 := hc.1
      simp only [chkFinS, Bool.and_eq_true] at hc1
      obtain ⟨q, hq, hqd⟩ := dstIs_iff.1 hc1.2
      exact hdone r q _ _ (hall r (ltb hc1.1)) hq hqd h1
    · exact DepS.fin (src := src) hall hdone hold h2 hc.2 t x hx
  | (s, none) :: fs, D, h, hc, t, x, hx => by
    obtain ⟨y, D1, rfl, h1, h2⟩ := h
    simp only [List.all_cons, Bool.and_eq_true] at hc
    simp only [get] at hx
    split at hx
    · rename_i e1
      have e1 := Nat.eq_of_beq_eq_true e1
      subst e1
      cases hx
      refine hold s _ h1 fun j _ => ?_
      have hc1 := hc.1
      simp only [chkFinS, List.all_eq_true, List.mem_range] at hc1
      rcases Nat.lt_or_ge j l.length with h | h
      · simpa using hc1 j h
      · unfold dstIs
        rw [List.getElem?_eq_none h]
    · exact DepS.fin (src := src) hall hdone hold h2 hc.2 t x hx

/-- Behind all of l. -/
def FinS (Φ : Ctx) (l tl : List Oper) (N : Nat) (E0 : List (Nat × PV)) (fs : List (Nat × Option Nat)) (K : AEnv → Prop) (known : List (Nat × PV)) (H : List (Nat × Obj')) : Prop :=
  ∃ D, DepS E0 known fs D ∧ VO Φ (l ++ tl).toArray tl K ⟨N, D, H⟩

/-- A region that draws its order: pure operations at any time; those that turn own blocks in each order that may be; then those of tl. -/
theorem V.regionS (I : List (Nat × Obj')) {id : Nat} {α : AEnv} {Q : Exit → AEnv → Prop} {L l tl : List Oper} (N m : Nat) (src : List SrcS) (fs : List (Nat × Option Nat)) (n : Nat) (hs : Split m L l tl) (hm : Φ.P.follows .mixedOrders = true) (hN : α.n = N)
    (hc : (chkS l (ancs l) src N && chkTail l tl && fs.all (chkFinS l)) = true)
    (h : WalkP Φ l src N I α.E (fun known => NodeS Φ l src N I α.E (FinS Φ l tl N α.E fs (Q .normal)) n [] known α.H) []) (hnd : L.all noDef = true := by rfl) : V Φ (.region id L.toArray true) Q α := by
  subst hN
  have hnd' : (l ++ tl).toArray.toList.all noDef = true := by rw [← hs.eq]; simpa using hnd
  rw [hs.eq]
  simp only [Bool.and_eq_true] at hc
  obtain ⟨⟨hc1, ht⟩, hf⟩ := hc
  rintro a w ⟨S, he⟩
  obtain ⟨more, h1, _, h3⟩ := h
  have hnone : ∀ j, ¬ At (Array.replicate (l ++ tl).toArray.size false) j := by
    intro j hj
    unfold At at hj
    rw [Array.getD_eq_getD_getElem?, Array.getElem?_replicate] at hj
    split at hj <;> simp at hj
  refine wpIn_mono (wpIn_region_anyR (Q := fun e a' w' => e = .normal ∧ ∃ α', Q .normal α' ∧ ER Φ α' a' w') (fun ⟨_, _, h, _⟩ => by cases h) hnd' hm ?_) ?_
  · refine any_goS (src := src) (N := α.n) (I := I) (E0 := α.E) (Fin := FinS Φ l tl α.n α.E fs (Q .normal)) hc1 ht ?_ _ _ a _ (by simp) ?_ ?_ ?_ ?_
    · intro listed a' w' hall hM
      obtain ⟨k, F, known, E, H, her, hdone, hold, heff, hpure, hkn, hnk, hnode⟩ := hM.ex
      have hcand : candS (ancs l) src F = [] := by
        rw [List.eq_nil_iff_forall_not_mem]
        intro i hi
        simp only [candS, List.mem_filter, List.mem_range, Bool.and_eq_true, Bool.not_eq_true'] at hi
        have hsl : src.length = l.length := by
          simp only [chkS, Bool.and_eq_true] at hc1; exact Nat.eq_of_beq_eq_true hc1.1
        have := (heff i (by omega) hi.2.1.1).2 (hall i (by omega))
        rw [hi.2.1.2] at this
        cases this
      cases k with
      | succ k => exact absurd hcand hnode.2.1
      | zero =>
        obtain ⟨_, _, _, _, D, h4, h5⟩ := hnode
        refine h5 a' w' ?_
        obtain ⟨S', hE⟩ := her
        refine ⟨S', { hE with slots := fun t x hx => hE.slots t x ?_ }⟩
        exact DepS.fin (src := src) hall hdone hold h4 hf t x hx
    · intro j o hj
      exact absurd hj (hnone j)
    · intro j _ hj
      exact absurd hj (hnone j)
    · refine ⟨⟨n, [], more ++ [], α.E, α.H, ⟨S, he.drew⟩, ?_, ?_, ?_, ?_, ?_, ?_, h3⟩⟩
      · intro j q d p hj; exact absurd hj (hnone j)
      · exact fun t x hx _ => hx
      · intro i hi hie
        exact ⟨fun h => by simp at h, fun h => absurd h (hnone i)⟩
      · intro j p hp hje
        rcases h1 j p hp with h | h
        · cases h
        · exact h.2
      · intro j hj hja; exact absurd hja (hnone j)
      · intro j p hp hje
        rcases h1 j p hp with h | h
        · cases h
        · rw [h.1] at hje; cases hje
    · have : ∀ m, m ≤ (l ++ tl).toArray.size → unl (Array.replicate (l ++ tl).toArray.size false) m ≤ m := by
        intro m
        induction m with
        | zero => simp [unl]
        | succ m ih => intro hm; simp only [unl]; have := ih (by omega); split <;> omega
      have := this l.length (by simp)
      simp at this ⊢
      omega
  · rintro e a' w' ⟨rfl, h5⟩
    exact h5

theorem WalkP.nil {src : List SrcS} {X : List (Nat × PV) → Prop} {known : List (Nat × PV)} (h : X known) : WalkP Φ l src N I E0 X known :=
  ⟨[], fun _ _ h => .inl h, fun _ _ h => h, h⟩

theorem WalkP.step {src : List SrcS} {X : List (Nat × PV) → Prop} {known : List (Nat × PV)} (j : Nat) {o : Oper} {e : SrcS} {d : Nat} {p : PV} {D : List (Nat × PV)} (ho : l[j]? = some o) (he : src[j]? = some e) (hd : o.dst = some d) (hne : e.eff = false) (hnew : get known j = none)
    (hD : DepS E0 known e.facts D) (hV : ∀ E' H', (∀ q, q ∈ I → q ∈ H') → V1 Φ o ⟨N, D ++ E', H'⟩ fun α' => α' = ⟨N, (d, p) :: (D ++ E'), H'⟩) (rest : WalkP Φ l src N I E0 X ((j, p) :: known)) : WalkP Φ l src N I E0 X known := by
  obtain ⟨more, h1, h2, h3⟩ := rest
  have e1 : (more ++ [(j, p)]) ++ known = more ++ (j, p) :: known := by simp
  have hm : ∀ j' p', get known j' = some p' → get (more ++ (j, p) :: known) j' = some p' := by
    intro j' p' h
    refine h2 j' p' ?_
    simp only [get]
    cases hb : Nat.beq j j' with
    | true => rw [← Nat.eq_of_beq_eq_true hb, hnew] at h; cases h
    | false => exact h
  refine ⟨more ++ [(j, p)], ?_, ?_, by rw [e1]; exact h3⟩
  · rw [e1]
    intro j' p' h
    rcases h1 j' p' h with h4 | h4
    · simp only [get] at h4
      split at h4
      · rename_i e2
        have e2 := Nat.eq_of_beq_eq_true e2
        subst e2
        cases h4
        exact .inr ⟨by simp only [isEff, he]; exact hne, o, e, d, D, ho, he, hd, hD.mono hm, hV⟩
      · exact .inl h4
    · exact .inr h4
  · rw [e1]; exact hm

def EffS (Φ : Ctx) (l : List Oper) (src : List SrcS) (N : Nat) (I : List (Nat × Obj')) (E0 : List (Nat × PV)) (Fin : List (Nat × PV) → List (Nat × Obj') → Prop) (n : Nat) (F : List Nat) (known : List (Nat × PV)) (H : List (Nat × Obj')) (i : Nat) : Prop :=
  ∃ o e d D, l[i]? = some o ∧ src[i]? = some e ∧ o.dst = d ∧ DepS E0 known e.facts D ∧
      ∀ E', V1 Φ o ⟨N, D ++ E', H⟩ fun α' => ∃ p H', α' = ⟨N, putD d p (D ++ E'), H'⟩ ∧ WalkP Φ l src N I E0 (fun known' => NodeS Φ l src N I E0 Fin n (i :: F) known' H') ((i, p) :: known)

theorem inNil {H : List (Nat × Obj')} : ∀ q, q ∈ ([] : List (Nat × Obj')) → q ∈ H := fun q h => by cases h
theorem inCons {H L : List (Nat × Obj')} {p : Nat × Obj'} (k : Nat) (h : H[k]? = some p) (r : ∀ q, q ∈ L → q ∈ H) : ∀ q, q ∈ p :: L → q ∈ H := fun q hq => by
  rcases List.mem_cons.1 hq with rfl | hq
  · exact List.mem_of_getElem? h
  · exact r q hq
theorem inGet {I H : List (Nat × Obj')} {p : Nat × Obj'} (k : Nat) (h : I[k]? = some p) (hi : ∀ q, q ∈ I → q ∈ H) : ∃ m : Nat, H[m]? = some p := List.mem_iff_getElem?.1 (hi p (List.mem_of_getElem? h))

def AllC (P : Nat → Prop) : List Nat → Prop
  | [] => True
  | i :: is => P i ∧ AllC P is

theorem AllC.mem {P : Nat → Prop} : ∀ {cs : List Nat}, AllC P cs → ∀ i, i ∈ cs → P i
  | c :: cs, h, i, hi => by
    rcases List.mem_cons.1 hi with rfl | hi
    · exact h.1
    · exact AllC.mem h.2 i hi

theorem NodeS.branch {src : List SrcS} {Fin : List (Nat × PV) → List (Nat × Obj') → Prop} {n : Nat} {F : List Nat} {known : List (Nat × PV)} {H : List (Nat × Obj')} (cs : List Nat) (hI : ∀ q, q ∈ I → q ∈ H) (hcs : candS (ancs l) src F = cs) (hk : allKnown (ancs l) src F known = true) (hne : cs.isEmpty = false)
    (h : AllC (EffS Φ l src N I E0 Fin n F known H) cs) : NodeS Φ l src N I E0 Fin (n + 1) F known H := by
  refine ⟨hI, (by rw [hcs]; intro e; rw [e] at hne; cases hne), hk, fun i hi => ?_⟩
  rw [hcs] at hi
  exact h.mem i hi

theorem NodeS.fin {src : List SrcS} {tl : List Oper} {K : AEnv → Prop} {fs : List (Nat × Option Nat)} {F : List Nat} {known D : List (Nat × PV)} {H : List (Nat × Obj')} (hI : ∀ q, q ∈ I → q ∈ H) (hcs : candS (ancs l) src F = []) (hk : allKnown (ancs l) src F known = true)
    (hall : ((List.range src.length).all fun j => (known.map Prod.fst).contains j) = true) (hD : DepS E0 known fs D) (h : VO Φ (l ++ tl).toArray tl K ⟨N, D, H⟩) : NodeS Φ l src N I E0 (FinS Φ l tl N E0 fs K) 0 F known H :=
  ⟨hI, hcs, hk, hall, D, hD, h⟩
end
end Go.VS
