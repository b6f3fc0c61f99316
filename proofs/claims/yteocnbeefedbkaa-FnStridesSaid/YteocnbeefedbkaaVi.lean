/-
  Guarded operations, calls by what the callee does, returns, blocks that are given away. Over any program. Conditions as at 'Does'.
-/
import Derived.Test.YteocnbeefedbkaaVh
set_option linter.unusedSimpArgs false
set_option linter.unusedVariables false
namespace Go.VS

section
variable {Φ : Ctx} {S : Nat → Nat → Prop} {α : AEnv} {a : Act} {w : World} {ops : Array Oper} {K : AEnv → Prop} {o : Oper} {rest l : List Oper}

/-! ### Guards -/
/-- The operation's guard says yes. -/
def Wanted (ops : Array Oper) (α : AEnv) (o : Oper) : Prop :=
  o.guard = none ∨ ∃ j b t, o.guard = some (j, b) ∧ (ops[j]?).bind (·.dst) = some t ∧ get α.E t = some (.bool b)

theorem Wanted.none (h : o.guard = .none) : Wanted ops α o := .inl h
theorem Wanted.some {j t : Nat} {b : Bool} (h : o.guard = .some (j, b)) (h1 : (ops[j]?).bind (·.dst) = .some t) (h2 : get α.E t = .some (.bool b)) : Wanted ops α o := .inr ⟨j, b, t, h, h1, h2⟩

theorem Wanted.yes (h : Wanted ops α o) (he : ER Φ α a w) : Region.wanted o (yielded ops a.tmps) = true := by
  obtain ⟨S, he⟩ := he
  rcases h with h | ⟨j, b, t, h, h1, h2⟩
  · simp [Region.wanted, h]
  · obtain ⟨v, h3, h4⟩ := he.slots t _ h2
    unfold Rep at h4
    subst h4
    simp [Region.wanted, h, yielded, h1, h3]

theorem wp_to_list {P : Program} {ops : Array Oper} {rest : List Oper} {o : Oper} {a : Act} {w : World} {K : AEnv → Prop} {Φ : Ctx} (hP : Φ.P = P)
    (h : o.wp P a w (fun a' w' => ∃ α', VO Φ ops rest K α' ∧ ER Φ α' a' w') (fun _ _ _ => False)) :
    o.wp P a w (wpList P ops (fun e a' w' => e = .normal ∧ ∃ α', K α' ∧ ER Φ α' a' w') rest) (fun e a' w' => e = .normal ∧ ∃ α', K α' ∧ ER Φ α' a' w') := by
  subst hP
  unfold Oper.wp at *
  generalize (execOp a.eval o).run Φ.P w = r at *
  cases r with
  | ok n w' =>
    cases n <;> simp only [Oper.upon] at h ⊢ <;> first
      | (obtain ⟨α', h1, h2⟩ := h; exact h1 _ _ h2)
      | (refine Calls.mono h ?_; intro e w'' he; cases e <;> first | (obtain ⟨α', h1, h2⟩ := he; exact h1 _ _ h2) | exact he.elim | (obtain ⟨_, _, h⟩ := he; exact h.elim))
      | (refine Rows.mono h ?_; intro v w'' he; obtain ⟨α', h1, h2⟩ := he; exact h1 _ _ h2)
  | halt x w' => cases x <;> simp only [Oper.upon] at h ⊢

theorem VO.step (hg : Wanted ops α o) (h : V1 Φ o α (VO Φ ops rest K)) : VO Φ ops (o :: rest) K α := fun a w he => by
  unfold wpList
  rw [if_pos (hg.yes he)]
  exact .inl (wp_to_list rfl (h a w he))

/-- What a list of operations under a guard that says no comes to: which slots it leaves empty. -/
def skipOK (ops : Array Oper) (tg : Nat) (want : Bool) : List Oper → List Nat → Option (List Nat)
  | [], done => some done
  | o :: l, done => match o.guard with
    | some (j, b) => match o.dst with
      | some d => match (ops[j]?).bind (·.dst) with
        | some t => match ((Nat.beq t tg && (b == want)) || done.contains t) && !(Nat.beq d tg) with
          | true => skipOK ops tg want l (d :: done)
          | false => none
        | none => none
      | none => none
    | none => none

theorem skip_run {P : Program} {Q : Exit → Act → World → Prop} {tg : Nat} {want : Bool} {R : List Oper} : ∀ (l : List Oper) (done done' : List Nat) (a : Act), skipOK ops tg want l done = some done' →
    a.tmps[tg]? = some (.bool (!want)) → (∀ t, t ∈ done → a.tmps[t]? = some undef ∨ a.tmps[t]? = none) →
    (∀ a' : Act, a'.defers = a.defers → a'.tmps.size = a.tmps.size → (∀ t, t ∉ done' → a'.tmps[t]? = a.tmps[t]?) → wpList P ops Q R a' w) → wpList P ops Q (l ++ R) a w
  | [], done, done', a, h, _, _, hk => hk a rfl rfl fun _ _ => rfl
  | o :: l, done, done', a, h, h1, h2, hk => by
    simp only [skipOK] at h
    split at h
    · rename_i j b hg
      split at h
      · rename_i d hd
        split at h
        · rename_i t ht
          split at h
          · rename_i hc
            simp only [Bool.and_eq_true, Bool.or_eq_true, Bool.not_eq_true'] at hc
            obtain ⟨hc, hdt⟩ := hc
            have hdt : d ≠ tg := Nat.ne_of_beq_eq_false hdt
            have hno : Region.wanted o (yielded ops a.tmps) = false := by
              simp only [Region.wanted, hg, yielded, ht, Option.bind_some]
              rcases hc with ⟨e1, e2⟩ | e1
              · have e1 := Nat.eq_of_beq_eq_true e1
                subst e1
                rw [h1]
                have : b = want := by simpa using e2
                subst this
                cases b <;> rfl
              · rcases h2 t (by simpa using e1) with e3 | e3 <;> rw [e3] <;> rfl
            simp only [List.cons_append, wpList]
            rw [if_neg (by rw [hno]; simp)]
            have hput : a.put o.dst undef = a.put (some d) undef := by rw [hd]
            rw [hput]
            refine skip_run l (d :: done) done' (a.put (some d) undef) h ?_ ?_ ?_
            · simp [Act.put, Array.getElem?_setIfInBounds_ne hdt, h1]
            · intro t' ht'
              simp only [Act.put]
              by_cases e : d = t'
              · subst e
                by_cases hlt : d < a.tmps.size
                · left; rw [Array.getElem?_setIfInBounds_self_of_lt hlt]
                · right; exact Array.getElem?_eq_none (by simpa using hlt)
              · rw [Array.getElem?_setIfInBounds_ne e]
                rcases List.mem_cons.1 ht' with e' | e'
                · exact absurd e'.symm e
                · exact h2 t' e'
            · intro a' q1 q2 q3
              refine hk a' q1 (by rw [q2]; simp [Act.put]) fun t' ht' => ?_
              rw [q3 t' ht']
              have hdm : d ∈ done' := by
                have mono : ∀ (l : List Oper) (D D' : List Nat), skipOK ops tg want l D = some D' → ∀ x, x ∈ D → x ∈ D' := by
                  intro l
                  induction l with
                  | nil => intro D D' h x hx; simp [skipOK] at h; subst h; exact hx
                  | cons o l ih =>
                    intro D D' h x hx
                    simp only [skipOK] at h
                    split at h
                    · split at h
                      · split at h
                        · split at h
                          · exact ih _ _ h x (List.mem_cons_of_mem _ hx)
                          · cases h
                        · cases h
                      · cases h
                    · cases h
                exact mono l (d :: done) done' h d (by simp)
              have hne : d ≠ t' := fun e => ht' (e ▸ hdm)
              simp [Act.put, Array.getElem?_setIfInBounds_ne hne]
          · cases h
        · cases h
      · cases h
    · cases h

theorem wpList_append {P : Program} {Q : Exit → Act → World → Prop} {R : List Oper} : ∀ (G : List Oper) (a : Act) (w : World),
    wpList P ops (fun e a w => e = .normal ∧ wpList P ops Q R a w) G a w → wpList P ops Q (G ++ R) a w
  | [], a, w, h => h.2
  | o :: G, a, w, h => by
    simp only [List.cons_append]
    unfold wpList at h ⊢
    split at h
    · rename_i hw
      rw [if_pos hw]
      rcases h with h | ⟨_, _, _, h, _⟩
      · left
        unfold Oper.wp at *
        generalize (execOp a.eval o).run P w = r at *
        cases r with
        | ok n w' =>
          cases n <;> simp only [Oper.upon] at h ⊢ <;> first
            | exact wpList_append G _ _ h
            | (refine Calls.mono h ?_; intro e w'' he; cases e <;> first | exact wpList_append G _ _ he | (exact absurd he.1 (by simp)) | (obtain ⟨_, _, h, _⟩ := he; cases h))
            | (refine Rows.mono h ?_; intro v w'' he; exact wpList_append G _ _ he)
        | halt x w' => cases x <;> simp only [Oper.upon] at h ⊢ <;> (exact absurd h.1 (by simp))
      · cases h
    · rename_i hw
      rw [if_neg hw]
      exact wpList_append G _ _ h

theorem wpList_mono' {P : Program} {ops : Array Oper} {Q Q' : Exit → Act → World → Prop} (hq : ∀ e a w, Q e a w → Q' e a w) : ∀ (G : List Oper) (a : Act) (w : World), wpList P ops Q G a w → wpList P ops Q' G a w
  | [], a, w, h => hq _ _ _ h
  | o :: G, a, w, h => by
    unfold wpList at h ⊢
    split at h
    · rename_i hw
      rw [if_pos hw]
      rcases h with h | ⟨h1, a', w', h2⟩
      · left
        unfold Oper.wp at *
        generalize (execOp a.eval o).run P w = r at *
        cases r with
        | ok n w' =>
          cases n <;> simp only [Oper.upon] at h ⊢ <;> first
            | exact wpList_mono' hq G _ _ h
            | (refine Calls.mono h ?_; intro e w'' he; cases e <;> first | exact wpList_mono' hq G _ _ he | exact hq _ _ _ he | (obtain ⟨a', w', h⟩ := he; exact ⟨a', w', hq _ _ _ h⟩))
            | (refine Rows.mono h ?_; intro v w'' he; exact wpList_mono' hq G _ _ he)
        | halt x w' => cases x <;> simp only [Oper.upon] at h ⊢ <;> exact hq _ _ _ h
      · exact .inr ⟨h1, a', w', hq _ _ _ h2⟩
    · rename_i hw
      rw [if_neg hw]
      exact wpList_mono' hq G _ _ h

/-- E' is E with further facts ahead, on slots of D alone. -/
def TailOf (D : List Nat) (E : List (Nat × PV)) : List (Nat × PV) → Prop
  | [] => [] = E
  | (d, x) :: E' => (d, x) :: E' = E ∨ (D.contains d = true ∧ TailOf D E E')

theorem TailOf.get {D : List Nat} {E : List (Nat × PV)} : ∀ {E' : List (Nat × PV)}, TailOf D E E' → ∀ {t : Nat} {x : PV}, t ∉ D → get E t = some x → Go.VS.get E' t = some x
  | [], h, t, x, _, hx => by simp only [TailOf] at h; rw [h]; exact hx
  | (d, y) :: E', h, t, x, ht, hx => by
    rcases h with h | ⟨h1, h2⟩
    · rw [h]; exact hx
    · simp only [Go.VS.get]
      split
      · rename_i e
        have e := Nat.eq_of_beq_eq_true e
        subst e
        exact absurd (by simpa using h1) ht
      · exact h2.get ht hx

def clearOf (E : List (Nat × PV)) (D : List Nat) : Bool := E.all fun p => !(D.contains p.1)

theorem clearOf.get {E : List (Nat × PV)} {D : List Nat} (h : clearOf E D = true) {t : Nat} {x : PV} (hx : get E t = some x) : t ∉ D := by
  induction E with
  | nil => cases hx
  | cons p E ih =>
    obtain ⟨s, y⟩ := p
    simp only [clearOf, List.all_cons, Bool.and_eq_true] at h
    simp only [Go.VS.get] at hx
    split at hx
    · rename_i e
      have e := Nat.eq_of_beq_eq_true e
      subst e
      simpa using h.1
    · exact ih h.2 hx

/-- 'c && e', 'c || e': the operations of e run only where c says so; then a 'pick'. -/
theorem VO.group {n tg r d : Nat} {want c e : Bool} {D : List Nat} {pk : Oper} {x y : Operand} (hc : get α.E tg = some (.bool c)) (hl : l.drop n = pk :: rest) (hsk : skipOK ops tg want (l.take n) [] = some D)
    (hcl : clearOf α.E D = true) (hpk : pk.op = .pick (.tmp tg) x y) (hd : pk.dst = some d) (hn : d < α.n) (hw : Wanted ops α pk)
    (hr : (if want then x else y) = .tmp r) (hno : (if want then y else x) = .const (.bool (!want)))
    (hyes : c = want → VO Φ ops (l.take n) (fun α' => get α'.E r = some (.bool e) ∧ get α'.E tg = some (.bool want) ∧ α'.n = α.n ∧ α'.H = α.H ∧ TailOf (tg :: D) α.E α'.E) (α.put tg (.bool want)))
    (hk : VO Φ ops rest K (α.put d (.bool (if want then c && e else c || e)))) : VO Φ ops l K α := by
  intro a w he
  have hl' : l = l.take n ++ pk :: rest := by rw [← hl, List.take_append_drop]
  -- the pick, in a frame that shows α and whose chosen slot is right
  have hpick : ∀ (a : Act) (w : World), ER Φ α a w → a.eval (if c then x else y) = .bool (if want then c && e else c || e) → wpList Φ.P ops (fun e a' w' => e = .normal ∧ ∃ α', K α' ∧ ER Φ α' a' w') (pk :: rest) a w := by
    intro a w he hv
    unfold wpList
    rw [if_pos (hw.yes he)]
    refine .inl ?_
    obtain ⟨S, he⟩ := he
    have h1 : a.eval (.tmp tg) = .bool c := by
      have := he.eval (x := .tmp tg) hc
      unfold Rep at this
      exact this
    have hrun : (execOp a.eval pk).run Φ.P w = .ok (.value (.bool (if want then c && e else c || e))) w := by
      simp only [execOp, hpk, h1, asBool, Sem.run_bind, Sem.run_pure, Result.andThen_ok]
      rw [← hv]
      cases c <;> rfl
    unfold Oper.wp
    rw [hrun, Oper.upon_value, hd]
    exact hk _ _ ⟨S, he.put hn (by unfold Rep; rfl)⟩
  rw [hl']
  by_cases hcw : c = want
  · refine wpList_append _ a w ?_
    have he' : ER Φ (α.put tg (.bool want)) a w := by
      obtain ⟨S, he⟩ := he
      refine ⟨S, { he with slots := fun t z hz => ?_ }⟩
      simp only [AEnv.put, Go.VS.get] at hz
      split at hz
      · rename_i e1
        have e1 := Nat.eq_of_beq_eq_true e1
        subst e1
        cases hz
        exact he.slots tg _ (by rw [hc, hcw])
      · exact he.slots t z hz
    have h2 := hyes hcw a w he'
    refine wpList_mono' ?_ _ a w h2
    rintro e' a' w' ⟨rfl, α', ⟨q1, qt, qn, q2, q3⟩, q4⟩
    refine ⟨rfl, ?_⟩
    obtain ⟨S', q4⟩ := q4
    have q5 : ER Φ α a' w' := by
      refine ⟨S', { q4 with size := by rw [← qn]; exact q4.size, slots := fun t z hz => ?_, objs := by rw [← q2]; exact q4.objs, nodup := by rw [← q2]; exact q4.nodup }⟩
      by_cases ht : t = tg
      · subst ht
        rw [hc] at hz
        cases hz
        exact q4.slots t _ (by rw [qt, hcw])
      · exact q4.slots t z (q3.get (by simp only [List.mem_cons, not_or]; exact ⟨ht, clearOf.get hcl hz⟩) hz)
    refine hpick a' w' q5 ?_
    have q6 := q4.eval (x := .tmp r) q1
    unfold Rep at q6
    rw [hcw, hr, q6]
    cases want <;> rfl
  · have hcw : c = !want := (by decide : ∀ c w : Bool, ¬ c = w → c = !w) c want hcw
    have htg : a.tmps[tg]? = some (.bool (!want)) := by
      obtain ⟨S, he⟩ := he
      obtain ⟨v, h1, h2⟩ := he.slots tg _ hc
      unfold Rep at h2
      rw [h1, h2, hcw]
    refine skip_run _ [] D a hsk htg (fun t ht => by cases ht) fun a' q1 q2 q3 => ?_
    have q5 : ER Φ α a' w := by
      obtain ⟨S, he⟩ := he
      refine ⟨S, { he with defers := by rw [q1]; exact he.defers, size := by rw [q2]; exact he.size, slots := fun t z hz => ?_ }⟩
      rw [q3 t (clearOf.get hcl hz)]
      exact he.slots t z hz
    refine hpick a' w q5 ?_
    have : (if c then x else y) = .const (.bool (!want)) := by rw [← hno, hcw]; cases want <;> rfl
    rw [this, hcw]
    cases want <;> rfl

/-- 'c && e' -/
theorem VO.and {n tg r d : Nat} {c e : Bool} {D : List Nat} {pk : Oper} (hc : get α.E tg = some (.bool c)) (hl : l.drop n = pk :: rest) (hsk : skipOK ops tg true (l.take n) [] = some D)
    (hcl : clearOf α.E D = true) (hpk : pk.op = .pick (.tmp tg) (.tmp r) (.const (.bool false))) (hd : pk.dst = some d) (hn : d < α.n) (hw : Wanted ops α pk)
    (hyes : c = true → VO Φ ops (l.take n) (fun α' => get α'.E r = some (.bool e) ∧ get α'.E tg = some (.bool true) ∧ α'.n = α.n ∧ α'.H = α.H ∧ TailOf (tg :: D) α.E α'.E) (α.put tg (.bool true)))
    (hk : VO Φ ops rest K (α.put d (.bool (c && e)))) : VO Φ ops l K α :=
  VO.group (want := true) hc hl hsk hcl hpk hd hn hw rfl rfl hyes hk

/-- 'c || e' -/
theorem VO.or {n tg r d : Nat} {c e : Bool} {D : List Nat} {pk : Oper} (hc : get α.E tg = some (.bool c)) (hl : l.drop n = pk :: rest) (hsk : skipOK ops tg false (l.take n) [] = some D)
    (hcl : clearOf α.E D = true) (hpk : pk.op = .pick (.tmp tg) (.const (.bool true)) (.tmp r)) (hd : pk.dst = some d) (hn : d < α.n) (hw : Wanted ops α pk)
    (hyes : c = false → VO Φ ops (l.take n) (fun α' => get α'.E r = some (.bool e) ∧ get α'.E tg = some (.bool false) ∧ α'.n = α.n ∧ α'.H = α.H ∧ TailOf (tg :: D) α.E α'.E) (α.put tg (.bool false)))
    (hk : VO Φ ops rest K (α.put d (.bool (c || e)))) : VO Φ ops l K α :=
  VO.group (want := false) hc hl hsk hcl hpk hd hn hw rfl rfl hyes hk
end
end Go.VS
