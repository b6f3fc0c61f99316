/-
  Records and schedules: what the models of the program and of the reference answer. Plain.
-/
import Derived.Test.YthcmelnpcaijaaaGreatDoorPq
import Derived.Test.YthcmelnpcaijaaaGreatDoorPf
set_option linter.unusedSimpArgs false
set_option linter.unusedVariables false
namespace Go.Proofs.YthcmelnpcaijaaaGreatDoor
open Go.VS

/-! ### Small things -/
def inR (x a b : Int) : Bool := decide (a ≤ x) && decide (x ≤ b)
theorem inR_true {x a b : Int} : inR x a b = true ↔ a ≤ x ∧ x ≤ b := by simp [inR]
theorem inR_false {x a b : Int} : inR x a b = false ↔ ¬(a ≤ x ∧ x ≤ b) := by rw [← inR_true]; simp
theorem withinI (n l h : Int) : M.impl_within n l h = some (inR n l h) := rfl
theorem isIdI (n : Int) : M.impl_isId n = some (inR n 1 99) := rfl
theorem l1InS (n l h : Int) : M.spec_l1In n l h = some (inR n l h) := rfl
theorem toNat_pred (k : Nat) : ((k : Int) - 1).toNat = k - 1 := by omega
theorem bif_some {β : Type} (c : Bool) (x y : β) : (bif c then some x else some y) = some (bif c then x else y) := by cases c <;> rfl
theorem bif_inr {β γ : Type} (c : Bool) (x y : γ) : (bif c then (Sum.inr x : β ⊕ γ) else Sum.inr y) = Sum.inr (bif c then x else y) := by cases c <;> rfl

/-- A loop over a list that asks of each element whether it is valid and follows the one before it. -/
theorem iter_rise {step : Int → Option (Int ⊕ (Unit ⊕ Bool))} {n : Nat} {bad : Nat → Bool} (hn : n < 1000000000000)
    (hs : ∀ k, k < n → step (k : Int) = some (bif bad k then .inr (.inr false) else .inl ((k : Int) + 1))) (he : step (n : Int) = some (.inr (.inl ()))) :
    iterO step 0 = some (bif (List.range n).any bad then .inr false else .inl ()) :=
  iter_any (step := step) (s := 0) (fun k => (k : Int)) n bad (.inr false) (.inl ()) rfl hn (fun k hk hp => by rw [hs k hk, hp]; simp) (fun k hk hp => by rw [hs k hk, hp]; rfl) he

/-- What is bad at place k: the element itself, or how it follows the one before it. -/
def riseB {β : Type} [Inhabited β] (p : β → Bool) (q : β → β → Bool) (l : List β) (k : Nat) : Bool := p (l.getD k default) || (decide ((k : Int) > 0) && q (l.getD (k - 1) default) (l.getD k default))
def rise {β : Type} [Inhabited β] (p : β → Bool) (q : β → β → Bool) (l : List β) : Bool := !(List.range l.length).any (riseB p q l)

theorem rise_iff {β : Type} [Inhabited β] {p : β → Bool} {q : β → β → Bool} {l : List β} : rise p q l = true ↔ (∀ k, k < l.length → p (l.getD k default) = false) ∧ ∀ k, 0 < k → k < l.length → q (l.getD (k - 1) default) (l.getD k default) = false := by
  unfold rise
  simp only [Bool.not_eq_true', List.any_eq_false, List.mem_range, Bool.not_eq_true]
  constructor
  · intro h
    constructor
    · intro k hk
      have := h k hk
      simp only [riseB, Bool.or_eq_false_iff] at this
      exact this.1
    · intro k h0 hk
      have := h k hk
      simp only [riseB, Bool.or_eq_false_iff, Bool.and_eq_false_iff, decide_eq_false_iff_not] at this
      rcases this.2 with h1 | h1
      · omega
      · exact h1
  · intro h k hk
    simp only [riseB, Bool.or_eq_false_iff, Bool.and_eq_false_iff, decide_eq_false_iff_not]
    refine ⟨h.1 k hk, ?_⟩
    by_cases h0 : 0 < k
    · exact .inr (h.2 k h0 hk)
    · left; omega

theorem rise_all {β : Type} [Inhabited β] {p : β → Bool} {q : β → β → Bool} {l : List β} (h : rise p q l = true) : ∀ x ∈ l, p x = false := by
  intro x hx
  obtain ⟨k, hk, rfl⟩ := List.getElem_of_mem hx
  have := (rise_iff.1 h).1 k hk
  simpa [List.getD, hk] using this

/-- In a rising list a key rises. -/
theorem rise_key {β : Type} [Inhabited β] {p : β → Bool} {q : β → β → Bool} {l : List β} (h : rise p q l = true) (key : β → Int) (hq : ∀ a b, q a b = false → key a < key b) : ∀ j k, j < k → k < l.length → key (l.getD j default) < key (l.getD k default) := by
  intro j k hj
  induction k with
  | zero => omega
  | succ k ih =>
    intro hk
    have h1 := hq _ _ ((rise_iff.1 h).2 (k + 1) (by omega) hk)
    rw [Nat.add_sub_cancel] at h1
    by_cases e : j = k
    · subst e; exact h1
    · exact Int.lt_trans (ih (by omega) (by omega)) h1

theorem getD_el {β : Type} [Inhabited β] {l : List β} {k : Nat} (h : k < l.length) : l.getD k default = l[k] := by simp [List.getD, h]

/-- A list that rises, element by element, rises as a whole. -/
theorem rise_pw {β : Type} [Inhabited β] {p : β → Bool} {q : β → β → Bool} {l : List β} (tr : ∀ a b c, q a b = false → q b c = false → q a c = false) :
    rise p q l = true ↔ (∀ x ∈ l, p x = false) ∧ l.Pairwise (fun a b => q a b = false) := by
  constructor
  · intro h
    refine ⟨rise_all h, List.pairwise_iff_getElem.2 ?_⟩
    have h2 := (rise_iff.1 h).2
    intro i j hi hj hij
    induction j with
    | zero => omega
    | succ j ih =>
      have h1 := h2 (j + 1) (by omega) hj
      rw [Nat.add_sub_cancel, getD_el hj, getD_el (show j < l.length by omega)] at h1
      by_cases e : i = j
      · subst e; exact h1
      · exact tr _ _ _ (ih (by omega) (by omega)) h1
  · rintro ⟨h1, h2⟩
    refine rise_iff.2 ⟨fun k hk => h1 _ (getD_mem hk), fun k h0 hk => ?_⟩
    rw [getD_el hk, getD_el (show k - 1 < l.length by omega)]
    exact List.pairwise_iff_getElem.1 h2 (k - 1) k (by omega) hk (by omega)

/-! ### Records -/
/-! ### Days of events -/
theorem find_at {β : Type} [Inhabited β] {p : β → Bool} {l : List β} {k : Nat} (hk : k < l.length) (h : p (l.getD k default) = true) (hj : ∀ j, j < k → p (l.getD j default) = false) : l.find? p = some (l.getD k default) := by
  induction l generalizing k with
  | nil => simp at hk
  | cons x t ih =>
    cases k with
    | zero => simp only [List.getD_cons_zero] at h ⊢; simp [h]
    | succ k =>
      have h0 := hj 0 (by omega)
      simp only [List.getD_cons_zero] at h0
      rw [List.find?_cons, h0]
      simp only [List.getD_cons_succ] at h ⊢
      exact ih (by simpa using hk) h (fun j hj' => by have := hj (j + 1) (by omega); simpa using this)

theorem find_none' {β : Type} [Inhabited β] {p : β → Bool} {l : List β} (h : ∀ j, j < l.length → p (l.getD j default) = false) : l.find? p = none := by
  rw [List.find?_eq_none]
  intro x hx
  obtain ⟨k, hk, rfl⟩ := List.getElem_of_mem hx
  have := h k hk
  simp only [List.getD, hk, List.getElem?_eq_getElem, Option.getD_some] at this
  simp [this]

/-! ### Rules -/
def ruleOk (r : Rule) : Bool := ((inR r.Series 1 99 && inR r.Event 0 9) && inR r.Days 0 20000) && inR r.Act 1 3
theorem ruleI (r : Rule) : M.impl_IsRule r = some (ruleOk r) := by
  unfold M.impl_IsRule M.impl_isAct ruleOk
  simp only [withinI, isIdI, Option.bind_some]
  cases inR r.Series 1 99 <;> cases inR r.Event 0 9 <;> cases inR r.Days 0 20000 <;> rfl
theorem ruleS (r : Rule) : M.spec_l4One r = some (ruleOk r) := by
  unfold M.spec_l4One ruleOk
  simp only [l1InS, Option.bind_some]
  cases inR r.Series 1 99 <;> cases inR r.Event 0 9 <;> cases inR r.Days 0 20000 <;> rfl

def before (a b : Rule) : Bool := decide (a.Series < b.Series) || ((a.Series == b.Series) && decide (a.Event < b.Event))
theorem beforeS (a b : Rule) : M.spec_l4Before a b = some (before a b) := rfl

def cmpI (x y : Int) : Int := if x < y then -1 else if x > y then 1 else 0
theorem cmpIntI (x y : Int) : M.cmp_Compare_int x y = some (cmpI x y) := by
  unfold M.cmp_Compare_int M.cmp_isNaN_int cmpI
  by_cases h1 : x < y
  · simp [h1]
  · by_cases h2 : y < x
    · simp [h1, h2]
    · simp [h1, h2]

theorem or2I (x y : Int) : M.cmp_Or_int [x, y] = some (if x ≠ 0 then x else y) := by
  unfold M.cmp_Or_int
  by_cases hx : x = 0
  · by_cases hy : y = 0
    · rw [iter_up (s := 0) (step := M.cmp_Or_int_l0 [x, y]) (e := .inl ()) (fun k => (k : Int)) 2 rfl (by omega) (fun k hk => by
        unfold M.cmp_Or_int_l0
        rcases (by omega : k = 0 ∨ k = 1) with rfl | rfl
        · subst hx; rfl
        · subst hy; rfl) rfl]
      simp [hx, hy]
    · rw [iter_up (s := 0) (step := M.cmp_Or_int_l0 [x, y]) (e := .inr y) (fun k => (k : Int)) 1 rfl (by omega) (fun k hk => by
        obtain rfl : k = 0 := by omega
        unfold M.cmp_Or_int_l0
        subst hx; rfl) (by
        unfold M.cmp_Or_int_l0
        have h1 : (y != 0) = true := by simp [hy]
        simp [asrt, h1])]
      simp [hx]
  · rw [iter_up (s := 0) (step := M.cmp_Or_int_l0 [x, y]) (e := .inr x) (fun k => (k : Int)) 0 rfl (by omega) (fun k hk => absurd hk (Nat.not_lt_zero _)) (by
        unfold M.cmp_Or_int_l0
        have h1 : (x != 0) = true := by simp [hx]
        simp [asrt, h1])]
    simp [hx]

def cmpR (a b : Rule) : Int := if cmpI a.Series b.Series ≠ 0 then cmpI a.Series b.Series else cmpI a.Event b.Event
theorem cmpRI (a b : Rule) : M.impl_compareRules a b = some (cmpR a b) := by
  unfold M.impl_compareRules
  simp only [cmpIntI, Option.bind_some, or2I]
  rfl
theorem cmpR_ge (a b : Rule) : decide (cmpR a b ≥ 0) = !before a b := by
  unfold cmpR before cmpI
  by_cases h1 : a.Series < b.Series
  · simp [h1]
  · by_cases h2 : a.Series > b.Series
    · have : ¬ a.Series = b.Series := by omega
      simp [h1, h2, this]
    · have : a.Series = b.Series := by omega
      by_cases h3 : a.Event < b.Event
      · simp [this, h3]
      · by_cases h4 : a.Event > b.Event
        · simp [this, h3, h4]
        · simp [this, h3, h4]

def schedOk (l : List Rule) : Bool := rise (fun r => !ruleOk r) (fun a b => !before a b) l && decide (l.length ≤ 8)

theorem schedI (l : List Rule) (hl : l.length < 1000000) : M.impl_IsSchedule l = some (schedOk l) := by
  unfold M.impl_IsSchedule
  rw [iter_rise (n := l.length) (bad := riseB (fun r => !ruleOk r) (fun a b => !before a b) l) (by omega) (fun k hk => by
    unfold M.impl_IsSchedule_l0 riseB
    simp (disch := first | omega | (intros; simp only [decide_eq_true_eq, decide_eq_false_iff_not, Bool.not_eq_true, Bool.not_eq_false, Bool.not_true, Bool.not_false] at *; omega)) only [cast_succ, asrt_pos, wrap64_id, Option.bind_some, cond_true, cond_false, decide_eq_true, decide_eq_false, Int.toNat_natCast, Bool.not_true, Bool.not_false, Bool.and_true, Bool.true_and, Bool.and_false, Bool.false_and, Bool.or_true, Bool.true_or, Bool.or_false, Bool.false_or, ruleI, cmpRI, toNat_pred, bif_some]
    cases ruleOk (l.getD k default) <;> cases decide ((k : Int) > 0) <;> simp [cmpR_ge]) (by
    unfold M.impl_IsSchedule_l0
    simp (disch := first | omega | (intros; simp only [decide_eq_true_eq, decide_eq_false_iff_not, Bool.not_eq_true, Bool.not_eq_false, Bool.not_true, Bool.not_false] at *; omega)) only [cast_succ, asrt_pos, wrap64_id, Option.bind_some, cond_true, cond_false, decide_eq_true, decide_eq_false, Int.toNat_natCast, Bool.not_true, Bool.not_false, Bool.and_true, Bool.true_and, Bool.and_false, Bool.false_and, Bool.or_true, Bool.true_or, Bool.or_false, Bool.false_or])]
  unfold schedOk rise
  rw [show decide ((l.length : Int) ≤ 8) = decide (l.length ≤ 8) by simp; omega]
  cases (List.range l.length).any _ <;> rfl

theorem schedS (l : List Rule) (hl : l.length < 1000000) : M.spec_l4Good l = some (schedOk l) := by
  unfold M.spec_l4Good
  rw [iter_rise (n := l.length) (bad := riseB (fun r => !ruleOk r) (fun a b => !before a b) l) (by omega) (fun k hk => by
    unfold M.spec_l4Good_l0 riseB
    simp (disch := first | omega | (intros; simp only [decide_eq_true_eq, decide_eq_false_iff_not, Bool.not_eq_true, Bool.not_eq_false, Bool.not_true, Bool.not_false] at *; omega)) only [cast_succ, asrt_pos, wrap64_id, Option.bind_some, cond_true, cond_false, decide_eq_true, decide_eq_false, Int.toNat_natCast, Bool.not_true, Bool.not_false, Bool.and_true, Bool.true_and, Bool.and_false, Bool.false_and, Bool.or_true, Bool.true_or, Bool.or_false, Bool.false_or, ruleS, beforeS, toNat_pred, bif_some]
    cases ruleOk (l.getD k default) <;> cases decide ((k : Int) > 0) <;> simp) (by
    unfold M.spec_l4Good_l0
    simp (disch := first | omega | (intros; simp only [decide_eq_true_eq, decide_eq_false_iff_not, Bool.not_eq_true, Bool.not_eq_false, Bool.not_true, Bool.not_false] at *; omega)) only [cast_succ, asrt_pos, wrap64_id, Option.bind_some, cond_true, cond_false, decide_eq_true, decide_eq_false, Int.toNat_natCast, Bool.not_true, Bool.not_false, Bool.and_true, Bool.true_and, Bool.and_false, Bool.false_and, Bool.or_true, Bool.true_or, Bool.or_false, Bool.false_or])]
  unfold schedOk rise
  rw [show decide ((l.length : Int) ≤ 8) = decide (l.length ≤ 8) by simp; omega]
  cases (List.range l.length).any _ <;> rfl

theorem schedOk_spec {l : List Rule} (h : schedOk l = true) : l.length ≤ 8 ∧ ∀ r ∈ l, (1 ≤ r.Series ∧ r.Series ≤ 99) ∧ (0 ≤ r.Event ∧ r.Event ≤ 9) ∧ (0 ≤ r.Days ∧ r.Days ≤ 20000) ∧ (1 ≤ r.Act ∧ r.Act ≤ 3) := by
  unfold schedOk at h
  simp only [Bool.and_eq_true, decide_eq_true_eq] at h
  refine ⟨h.2, fun r hr => ?_⟩
  have := rise_all h.1 r hr
  simp only [Bool.not_eq_false', ruleOk, Bool.and_eq_true, inR_true] at this
  exact ⟨this.1.1.1, this.1.1.2, this.1.2, this.2⟩

def rulesFor (l : List Rule) (s : Int) : List Rule := l.filter fun r => r.Series == s

theorem forI (l : List Rule) (s : Int) (hl : l.length < 1000000) : M.impl_rulesFor l s = some (rulesFor l s) := by
  unfold M.impl_rulesFor
  rw [iter_coll (s := (([] : List Rule), (0 : Int))) (step := M.impl_rulesFor_l0 l s) (fun a k => (a, (k : Int))) (fun r : Rule => bif r.Series == s then [r] else []) id l rfl (by omega) (fun k _ => if_len _ _) (fun a k hk ha => by
    unfold M.impl_rulesFor_l0
    simp (disch := first | omega | (intros; simp only [decide_eq_true_eq, decide_eq_false_iff_not, Bool.not_eq_true, Bool.not_eq_false, Bool.not_true, Bool.not_false] at *; omega)) only [cast_succ, asrt_pos, wrap64_id, Option.bind_some, cond_true, cond_false, decide_eq_true, decide_eq_false, Int.toNat_natCast, Bool.not_true, Bool.not_false, Bool.and_true, Bool.true_and, Bool.and_false, Bool.false_and, Bool.or_true, Bool.true_or, Bool.or_false, Bool.false_or, app_if, List.length_singleton]
    cases (l.getD k default).Series == s <;> simp <;> (try (rw [asrt_pos (by simp; omega)]; rfl))) (fun a ha => by
    unfold M.impl_rulesFor_l0
    simp (disch := first | omega | (intros; simp only [decide_eq_true_eq, decide_eq_false_iff_not, Bool.not_eq_true, Bool.not_eq_false, Bool.not_true, Bool.not_false] at *; omega)) only [cast_succ, asrt_pos, wrap64_id, Option.bind_some, cond_true, cond_false, decide_eq_true, decide_eq_false, Int.toNat_natCast, Bool.not_true, Bool.not_false, Bool.and_true, Bool.true_and, Bool.and_false, Bool.false_and, Bool.or_true, Bool.true_or, Bool.or_false, Bool.false_or, id])]
  simp only [id, Option.bind_some, flatMap_if, List.map_id']
  rfl

theorem forS (l : List Rule) (s : Int) (hl : l.length < 1000000) : M.spec_l4For l s = some (rulesFor l s) := by
  unfold M.spec_l4For
  rw [iter_coll (s := (([] : List Rule), (0 : Int))) (step := M.spec_l4For_l0 l s) (fun a k => (a, (k : Int))) (fun r : Rule => bif r.Series == s then [r] else []) id l rfl (by omega) (fun k _ => if_len _ _) (fun a k hk ha => by
    unfold M.spec_l4For_l0
    simp (disch := first | omega | (intros; simp only [decide_eq_true_eq, decide_eq_false_iff_not, Bool.not_eq_true, Bool.not_eq_false, Bool.not_true, Bool.not_false] at *; omega)) only [cast_succ, asrt_pos, wrap64_id, Option.bind_some, cond_true, cond_false, decide_eq_true, decide_eq_false, Int.toNat_natCast, Bool.not_true, Bool.not_false, Bool.and_true, Bool.true_and, Bool.and_false, Bool.false_and, Bool.or_true, Bool.true_or, Bool.or_false, Bool.false_or, app_if, List.length_singleton]
    cases (l.getD k default).Series == s <;> simp <;> (try (rw [asrt_pos (by simp; omega)]; rfl))) (fun a ha => by
    unfold M.spec_l4For_l0
    simp (disch := first | omega | (intros; simp only [decide_eq_true_eq, decide_eq_false_iff_not, Bool.not_eq_true, Bool.not_eq_false, Bool.not_true, Bool.not_false] at *; omega)) only [cast_succ, asrt_pos, wrap64_id, Option.bind_some, cond_true, cond_false, decide_eq_true, decide_eq_false, Int.toNat_natCast, Bool.not_true, Bool.not_false, Bool.and_true, Bool.true_and, Bool.and_false, Bool.false_and, Bool.or_true, Bool.true_or, Bool.or_false, Bool.false_or, id])]
  simp only [id, Option.bind_some, flatMap_if, List.map_id']
  rfl

/-! ### Ends, and what decides -/
def noRule : Rule := ⟨0, 0, 0, 0⟩
theorem rulesFor_days {l : List Rule} {s : Int} (h : schedOk l = true) : ∀ u ∈ rulesFor l s, 0 ≤ u.Days ∧ u.Days ≤ 20000 := fun u hu => ((schedOk_spec h).2 u (List.mem_filter.1 hu).1).2.2.1
theorem rulesFor_len {l : List Rule} {s : Int} : (rulesFor l s).length ≤ l.length := List.length_filter_le _ _

end Go.Proofs.YthcmelnpcaijaaaGreatDoor
