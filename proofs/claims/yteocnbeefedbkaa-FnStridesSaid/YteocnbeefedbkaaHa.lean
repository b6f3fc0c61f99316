/-
  Records and schedules: what the models of the program and of the reference answer. Plain.
-/
import Derived.Test.YteocnbeefedbkaaPq
import Derived.Test.YteocnbeefedbkaaPf
set_option linter.unusedSimpArgs false
set_option linter.unusedVariables false
namespace Go.Proofs.Yteocnbeefedbkaa
open Go.VS

/-! ### Small things -/
def inR (x a b : Int) : Bool := decide (a ≤ x) && decide (x ≤ b)
theorem inR_true {x a b : Int} : inR x a b = true ↔ a ≤ x ∧ x ≤ b := by simp [inR]
theorem inR_false {x a b : Int} : inR x a b = false ↔ ¬(a ≤ x ∧ x ≤ b) := by rw [← inR_true]; simp
theorem withinI (n l h : Int) : M.impl_within n l h = some (inR n l h) := rfl
theorem isDayI (n : Int) : M.impl_isDay n = some (inR n 0 20000) := rfl
theorem isIdI (n : Int) : M.impl_isId n = some (inR n 1 99) := rfl
theorem l1InS (n l h : Int) : M.spec_l1In n l h = some (inR n l h) := rfl
theorem l2DayS (n : Int) : M.spec_l2Day n = some (inR n 0 20000) := rfl

theorem toNat_pred (k : Nat) : ((k : Int) - 1).toNat = k - 1 := by omega
theorem bif_some {β : Type} (c : Bool) (x y : β) : (bif c then some x else some y) = some (bif c then x else y) := by cases c <;> rfl
theorem bif_inr {β γ : Type} (c : Bool) (x y : γ) : (bif c then (Sum.inr x : β ⊕ γ) else Sum.inr y) = Sum.inr (bif c then x else y) := by cases c <;> rfl

/-- A loop over a list that asks of each element whether it is valid and follows the one before it. -/
theorem iter_rise {step : Int → Option (Int ⊕ (Unit ⊕ Bool))} {n : Nat} {bad : Nat → Bool} (hn : n < 1000000000000)
    (hs : ∀ k, k < n → step (k : Int) = some (bif bad k then .inr (.inr false) else .inl ((k : Int) + 1))) (he : step (n : Int) = some (.inr (.inl ()))) :
    iterO step 0 = some (bif (List.range n).any bad then .inr false else .inl ()) :=
  iter_any (step := step) (s := 0) (fun k => (k : Int)) n bad (.inr false) (.inl ()) rfl hn (fun k hk hp => by rw [hs k hk, hp]; simp) (fun k hk hp => by rw [hs k hk, hp]; rfl) he

/-- What is bad at place k: the element itself, or how it follows the one before it. -/
def riseB {β : Type} [Inhabited β] (p : β → Bool) (q : β → β → Bool) (l : List β) (k : Nat) : Bool := p (l.getD k default) || (decide ((k : Int) > 0) && q (l.getD (k - 1) default) (l.getD k default))
def rise {β : Type} [Inhabited β] (p : β → Bool) (q : β → β → Bool) (l : List β) : Bool := !(List.range l.length).any (riseB p q l)

theorem rise_iff {β : Type} [Inhabited β] {p : β → Bool} {q : β → β → Bool} {l : List β} : rise p q l = true ↔ (∀ k, k < l.length → p (l.getD k default) = false) ∧ ∀ k, 0 < k → k < l.length → q (l.getD (k - 1) default) (l.getD k default) = false := by
  unfold rise
  simp only [Bool.not_eq_true', List.any_eq_false, List.mem_range, Bool.not_eq_true]
  constructor
  · intro h
    constructor
    · intro k hk
      have := h k hk
      simp only [riseB, Bool.or_eq_false_iff] at this
      exact this.1
    · intro k h0 hk
      have := h k hk
      simp only [riseB, Bool.or_eq_false_iff, Bool.and_eq_false_iff, decide_eq_false_iff_not] at this
      rcases this.2 with h1 | h1
      · omega
      · exact h1
  · intro h k hk
    simp only [riseB, Bool.or_eq_false_iff, Bool.and_eq_false_iff, decide_eq_false_iff_not]
    refine ⟨h.1 k hk, ?_⟩
    by_cases h0 : 0 < k
    · exact .inr (h.2 k h0 hk)
    · left; omega

theorem rise_all {β : Type} [Inhabited β] {p : β → Bool} {q : β → β → Bool} {l : List β} (h : rise p q l = true) : ∀ x ∈ l, p x = false := by
  intro x hx
  obtain ⟨k, hk, rfl⟩ := List.getElem_of_mem hx
  have := (rise_iff.1 h).1 k hk
  simpa [List.getD, hk] using this

/-- In a rising list a key rises. -/
theorem rise_key {β : Type} [Inhabited β] {p : β → Bool} {q : β → β → Bool} {l : List β} (h : rise p q l = true) (key : β → Int) (hq : ∀ a b, q a b = false → key a < key b) : ∀ j k, j < k → k < l.length → key (l.getD j default) < key (l.getD k default) := by
  intro j k hj
  induction k with
  | zero => omega
  | succ k ih =>
    intro hk
    have h1 := hq _ _ ((rise_iff.1 h).2 (k + 1) (by omega) hk)
    rw [Nat.add_sub_cancel] at h1
    by_cases e : j = k
    · subst e; exact h1
    · exact Int.lt_trans (ih (by omega) (by omega)) h1

theorem getD_el {β : Type} [Inhabited β] {l : List β} {k : Nat} (h : k < l.length) : l.getD k default = l[k] := by simp [List.getD, h]

/-- A list that rises, element by element, rises as a whole. -/
theorem rise_pw {β : Type} [Inhabited β] {p : β → Bool} {q : β → β → Bool} {l : List β} (tr : ∀ a b c, q a b = false → q b c = false → q a c = false) :
    rise p q l = true ↔ (∀ x ∈ l, p x = false) ∧ l.Pairwise (fun a b => q a b = false) := by
  constructor
  · intro h
    refine ⟨rise_all h, List.pairwise_iff_getElem.2 ?_⟩
    have h2 := (rise_iff.1 h).2
    intro i j hi hj hij
    induction j with
    | zero => omega
    | succ j ih =>
      have h1 := h2 (j + 1) (by omega) hj
      rw [Nat.add_sub_cancel, getD_el hj, getD_el (show j < l.length by omega)] at h1
      by_cases e : i = j
      · subst e; exact h1
      · exact tr _ _ _ (ih (by omega) (by omega)) h1
  · rintro ⟨h1, h2⟩
    refine rise_iff.2 ⟨fun k hk => h1 _ (getD_mem hk), fun k h0 hk => ?_⟩
    rw [getD_el hk, getD_el (show k - 1 < l.length by omega)]
    exact List.pairwise_iff_getElem.1 h2 (k - 1) k (by omega) hk (by omega)

/-! ### Records -/
def evOk (e : Event) : Bool := inR e.Kind 1 9 && inR e.Day 0 20000
theorem evI (e : Event) : M.impl_IsEvent e = some (evOk e) := by
  unfold M.impl_IsEvent evOk
  simp only [withinI, isDayI, Option.bind_some]
  cases inR e.Kind 1 9 <;> rfl
theorem evS (e : Event) : M.spec_l2Event e = some (evOk e) := by
  unfold M.spec_l2Event evOk
  simp only [l1InS, l2DayS, Option.bind_some]
  cases inR e.Kind 1 9 <;> rfl

def evsOk (r : Record) : Bool := rise (fun e => !evOk e || decide (e.Day < r.Made)) (fun a b => decide (a.Kind ≥ b.Kind)) r.Events
def recOk (r : Record) : Bool := (((inR r.Id 1 999 && inR r.Series 1 99) && inR r.Made 0 20000) && decide (r.Events.length ≤ 6)) && evsOk r

theorem evsI (r : Record) (hl : r.Events.length < 1000000) : iterO (M.impl_IsRecord_l0 r) 0 = some (bif evsOk r then .inl () else .inr false) := by
  rw [iter_rise (n := r.Events.length) (bad := riseB (fun e => !evOk e || decide (e.Day < r.Made)) (fun a b => decide (a.Kind ≥ b.Kind)) r.Events) (by omega) (fun k hk => by
    unfold M.impl_IsRecord_l0 riseB
    simp (disch := first | omega | (intros; simp only [decide_eq_true_eq, decide_eq_false_iff_not, Bool.not_eq_true, Bool.not_eq_false, Bool.not_true, Bool.not_false] at *; omega)) only [cast_succ, asrt_pos, wrap64_id, Option.bind_some, cond_true, cond_false, decide_eq_true, decide_eq_false, Int.toNat_natCast, Bool.not_true, Bool.not_false, Bool.and_true, Bool.true_and, Bool.and_false, Bool.false_and, Bool.or_true, Bool.true_or, Bool.or_false, Bool.false_or, evI, toNat_pred, bif_some]) (by
    unfold M.impl_IsRecord_l0
    simp (disch := first | omega | (intros; simp only [decide_eq_true_eq, decide_eq_false_iff_not, Bool.not_eq_true, Bool.not_eq_false, Bool.not_true, Bool.not_false] at *; omega)) only [cast_succ, asrt_pos, wrap64_id, Option.bind_some, cond_true, cond_false, decide_eq_true, decide_eq_false, Int.toNat_natCast, Bool.not_true, Bool.not_false, Bool.and_true, Bool.true_and, Bool.and_false, Bool.false_and, Bool.or_true, Bool.true_or, Bool.or_false, Bool.false_or])]
  unfold evsOk rise
  cases (List.range r.Events.length).any _ <;> rfl

theorem evsS (r : Record) (hl : r.Events.length < 1000000) : iterO (M.spec_l2Record_l0 r) 0 = some (bif evsOk r then .inl () else .inr false) := by
  rw [iter_rise (n := r.Events.length) (bad := riseB (fun e => !evOk e || decide (e.Day < r.Made)) (fun a b => decide (a.Kind ≥ b.Kind)) r.Events) (by omega) (fun k hk => by
    unfold M.spec_l2Record_l0 riseB
    simp (disch := first | omega | (intros; simp only [decide_eq_true_eq, decide_eq_false_iff_not, Bool.not_eq_true, Bool.not_eq_false, Bool.not_true, Bool.not_false] at *; omega)) only [cast_succ, asrt_pos, wrap64_id, Option.bind_some, cond_true, cond_false, decide_eq_true, decide_eq_false, Int.toNat_natCast, Bool.not_true, Bool.not_false, Bool.and_true, Bool.true_and, Bool.and_false, Bool.false_and, Bool.or_true, Bool.true_or, Bool.or_false, Bool.false_or, evS, toNat_pred, bif_some]) (by
    unfold M.spec_l2Record_l0
    simp (disch := first | omega | (intros; simp only [decide_eq_true_eq, decide_eq_false_iff_not, Bool.not_eq_true, Bool.not_eq_false, Bool.not_true, Bool.not_false] at *; omega)) only [cast_succ, asrt_pos, wrap64_id, Option.bind_some, cond_true, cond_false, decide_eq_true, decide_eq_false, Int.toNat_natCast, Bool.not_true, Bool.not_false, Bool.and_true, Bool.true_and, Bool.and_false, Bool.false_and, Bool.or_true, Bool.true_or, Bool.or_false, Bool.false_or])]
  unfold evsOk rise
  cases (List.range r.Events.length).any _ <;> rfl

theorem recI (r : Record) (hl : r.Events.length < 1000000) : M.impl_IsRecord r = some (recOk r) := by
  unfold M.impl_IsRecord recOk
  simp only [withinI, isIdI, isDayI, Option.bind_some, evsI r hl]
  rw [show decide ((r.Events.length : Int) > 6) = !decide (r.Events.length ≤ 6) by rw [Bool.eq_iff_iff]; simp; omega]
  cases inR r.Id 1 999 <;> cases inR r.Series 1 99 <;> cases inR r.Made 0 20000 <;> cases decide (r.Events.length ≤ 6) <;> cases evsOk r <;> rfl

theorem recS (r : Record) (hl : r.Events.length < 1000000) : M.spec_l2Record r = some (recOk r) := by
  unfold M.spec_l2Record recOk
  simp only [l1InS, l2DayS, evsS r hl]
  rw [show decide ((r.Events.length : Int) ≤ 6) = decide (r.Events.length ≤ 6) by simp; omega]
  cases inR r.Id 1 999 <;> cases inR r.Series 1 99 <;> cases inR r.Made 0 20000 <;> cases decide (r.Events.length ≤ 6) <;> cases evsOk r <;> rfl

/-- Lengths that nothing exceeds. -/
def RecB (r : Record) : Prop := r.Events.length < 1000000
def RecsB (l : List Record) : Prop := l.length < 1000000 ∧ ∀ r ∈ l, RecB r
theorem RecsB.at {l : List Record} (h : RecsB l) {k : Nat} (hk : k < l.length) : RecB (l.getD k default) := h.2 _ (getD_mem hk)

def recsOk (l : List Record) : Bool := rise (fun r => !recOk r) (fun a b => decide (a.Id ≥ b.Id)) l && decide (l.length ≤ 10)

theorem recsI (l : List Record) (hl : RecsB l) : M.impl_AreRecords l = some (recsOk l) := by
  unfold M.impl_AreRecords
  have := hl.1
  rw [iter_rise (n := l.length) (bad := riseB (fun r => !recOk r) (fun a b => decide (a.Id ≥ b.Id)) l) (by omega) (fun k hk => by
    unfold M.impl_AreRecords_l0 riseB
    have hr := recI _ (hl.at hk)
    simp (disch := first | omega | (intros; simp only [decide_eq_true_eq, decide_eq_false_iff_not, Bool.not_eq_true, Bool.not_eq_false, Bool.not_true, Bool.not_false] at *; omega)) only [cast_succ, asrt_pos, wrap64_id, Option.bind_some, cond_true, cond_false, decide_eq_true, decide_eq_false, Int.toNat_natCast, Bool.not_true, Bool.not_false, Bool.and_true, Bool.true_and, Bool.and_false, Bool.false_and, Bool.or_true, Bool.true_or, Bool.or_false, Bool.false_or, hr, toNat_pred, bif_some]) (by
    unfold M.impl_AreRecords_l0
    simp (disch := first | omega | (intros; simp only [decide_eq_true_eq, decide_eq_false_iff_not, Bool.not_eq_true, Bool.not_eq_false, Bool.not_true, Bool.not_false] at *; omega)) only [cast_succ, asrt_pos, wrap64_id, Option.bind_some, cond_true, cond_false, decide_eq_true, decide_eq_false, Int.toNat_natCast, Bool.not_true, Bool.not_false, Bool.and_true, Bool.true_and, Bool.and_false, Bool.false_and, Bool.or_true, Bool.true_or, Bool.or_false, Bool.false_or])]
  unfold recsOk rise
  rw [show decide ((l.length : Int) ≤ 10) = decide (l.length ≤ 10) by simp; omega]
  cases (List.range l.length).any _ <;> rfl

theorem recsS (l : List Record) (hl : RecsB l) : M.spec_l2Records l = some (recsOk l) := by
  unfold M.spec_l2Records
  have := hl.1
  rw [iter_rise (n := l.length) (bad := riseB (fun r => !recOk r) (fun a b => decide (a.Id ≥ b.Id)) l) (by omega) (fun k hk => by
    unfold M.spec_l2Records_l0 riseB
    have hr := recS _ (hl.at hk)
    simp (disch := first | omega | (intros; simp only [decide_eq_true_eq, decide_eq_false_iff_not, Bool.not_eq_true, Bool.not_eq_false, Bool.not_true, Bool.not_false] at *; omega)) only [cast_succ, asrt_pos, wrap64_id, Option.bind_some, cond_true, cond_false, decide_eq_true, decide_eq_false, Int.toNat_natCast, Bool.not_true, Bool.not_false, Bool.and_true, Bool.true_and, Bool.and_false, Bool.false_and, Bool.or_true, Bool.true_or, Bool.or_false, Bool.false_or, hr, toNat_pred, bif_some]) (by
    unfold M.spec_l2Records_l0
    simp (disch := first | omega | (intros; simp only [decide_eq_true_eq, decide_eq_false_iff_not, Bool.not_eq_true, Bool.not_eq_false, Bool.not_true, Bool.not_false] at *; omega)) only [cast_succ, asrt_pos, wrap64_id, Option.bind_some, cond_true, cond_false, decide_eq_true, decide_eq_false, Int.toNat_natCast, Bool.not_true, Bool.not_false, Bool.and_true, Bool.true_and, Bool.and_false, Bool.false_and, Bool.or_true, Bool.true_or, Bool.or_false, Bool.false_or])]
  unfold recsOk rise
  rw [show decide ((l.length : Int) ≤ 10) = decide (l.length ≤ 10) by simp; omega]
  cases (List.range l.length).any _ <;> rfl

theorem recOk_spec {r : Record} (h : recOk r = true) : (1 ≤ r.Id ∧ r.Id ≤ 999) ∧ (1 ≤ r.Series ∧ r.Series ≤ 99) ∧ (0 ≤ r.Made ∧ r.Made ≤ 20000) ∧ r.Events.length ≤ 6 ∧ (∀ e ∈ r.Events, (1 ≤ e.Kind ∧ e.Kind ≤ 9) ∧ (r.Made ≤ e.Day ∧ e.Day ≤ 20000)) := by
  unfold recOk at h
  simp only [Bool.and_eq_true, inR_true, decide_eq_true_eq] at h
  refine ⟨h.1.1.1.1, h.1.1.1.2, h.1.1.2, h.1.2, fun e he => ?_⟩
  have := rise_all h.2 e he
  simp only [evOk, Bool.or_eq_false_iff, Bool.not_eq_false', Bool.and_eq_true, inR_true, decide_eq_false_iff_not] at this
  omega

/-! ### Days of events -/
def dayOf (r : Record) (kind : Int) : Int := if kind = 0 then r.Made else match r.Events.find? (fun e => e.Kind == kind) with | some e => e.Day | none => -1

theorem find_at {β : Type} [Inhabited β] {p : β → Bool} {l : List β} {k : Nat} (hk : k < l.length) (h : p (l.getD k default) = true) (hj : ∀ j, j < k → p (l.getD j default) = false) : l.find? p = some (l.getD k default) := by
  induction l generalizing k with
  | nil => simp at hk
  | cons x t ih =>
    cases k with
    | zero => simp only [List.getD_cons_zero] at h ⊢; simp [h]
    | succ k =>
      have h0 := hj 0 (by omega)
      simp only [List.getD_cons_zero] at h0
      rw [List.find?_cons, h0]
      simp only [List.getD_cons_succ] at h ⊢
      exact ih (by simpa using hk) h (fun j hj' => by have := hj (j + 1) (by omega); simpa using this)

theorem find_none' {β : Type} [Inhabited β] {p : β → Bool} {l : List β} (h : ∀ j, j < l.length → p (l.getD j default) = false) : l.find? p = none := by
  rw [List.find?_eq_none]
  intro x hx
  obtain ⟨k, hk, rfl⟩ := List.getElem_of_mem hx
  have := h k hk
  simp only [List.getD, hk, List.getElem?_eq_getElem, Option.getD_some] at this
  simp [this]

theorem dayOf_bd {r : Record} (h : recOk r = true) (kind : Int) : dayOf r kind = -1 ∨ (r.Made ≤ dayOf r kind ∧ dayOf r kind ≤ 20000) := by
  obtain ⟨_, _, h3, _, h5⟩ := recOk_spec h
  unfold dayOf
  split
  · right; omega
  · split
    · rename_i e he
      right
      exact (h5 e (List.mem_of_find?_eq_some he)).2
    · exact .inl rfl

/-! ### Rules -/
def cmpI (x y : Int) : Int := if x < y then -1 else if x > y then 1 else 0
/-! ### Ends, and what decides -/
end Go.Proofs.Yteocnbeefedbkaa
