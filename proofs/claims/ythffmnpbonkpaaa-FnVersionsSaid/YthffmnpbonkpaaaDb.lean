/-
  Versions of schedules: the plain law of 'versions'. Plain.
-/
import Derived.Test.YthffmnpbonkpaaaDa
set_option linter.unusedSimpArgs false
set_option linter.unusedVariables false
namespace Go.Proofs.Ythffmnpbonkpaaa
open Go.VS

def verOk (v : Version) : Bool := inR v.From 0 20000 && schedOk v.Rules
def versOk (l : List Version) : Bool := rise (fun v => !verOk v) (fun a b => decide (a.From ≥ b.From)) l && decide (l.length ≤ 5)
def VersB (l : List Version) : Prop := l.length < 1000000 ∧ ∀ v ∈ l, v.Rules.length < 1000000
theorem VersB.elt {l : List Version} (h : VersB l) {k : Nat} (hk : k < l.length) : (l.getD k default).Rules.length < 1000000 := h.2 _ (getD_mem hk)

theorem versI (l : List Version) (hl : VersB l) : M.impl_AreVersions l = some (versOk l) := by
  unfold M.impl_AreVersions
  have := hl.1
  rw [iter_rise (n := l.length) (bad := riseB (fun v => !verOk v) (fun a b => decide (a.From ≥ b.From)) l) (by omega) (fun k hk => by
    unfold M.impl_AreVersions_l0 riseB verOk
    have hr := schedI _ (hl.elt hk)
    simp (disch := first | omega | (intros; simp only [decide_eq_true_eq, decide_eq_false_iff_not, Bool.not_eq_true, Bool.not_eq_false, Bool.not_true, Bool.not_false] at *; omega)) only [cast_succ, asrt_pos, wrap64_id, Option.bind_some, cond_true, cond_false, decide_eq_true, decide_eq_false, Int.toNat_natCast, Bool.not_true, Bool.not_false, Bool.and_true, Bool.true_and, Bool.and_false, Bool.false_and, Bool.or_true, Bool.true_or, Bool.or_false, Bool.false_or, hr, isDayI, toNat_pred, bif_some]
    cases inR (l.getD k default).From 0 20000 <;> cases schedOk (l.getD k default).Rules <;> cases decide ((k : Int) > 0) <;> simp) (by
    unfold M.impl_AreVersions_l0
    simp (disch := first | omega | (intros; simp only [decide_eq_true_eq, decide_eq_false_iff_not, Bool.not_eq_true, Bool.not_eq_false, Bool.not_true, Bool.not_false] at *; omega)) only [cast_succ, asrt_pos, wrap64_id, Option.bind_some, cond_true, cond_false, decide_eq_true, decide_eq_false, Int.toNat_natCast, Bool.not_true, Bool.not_false, Bool.and_true, Bool.true_and, Bool.and_false, Bool.false_and, Bool.or_true, Bool.true_or, Bool.or_false, Bool.false_or])]
  unfold versOk rise
  rw [show decide ((l.length : Int) ≤ 5) = decide (l.length ≤ 5) by simp; omega]
  cases (List.range l.length).any _ <;> rfl

theorem versS (l : List Version) (hl : VersB l) : M.spec_l8Good l = some (versOk l) := by
  unfold M.spec_l8Good
  have := hl.1
  rw [iter_rise (n := l.length) (bad := riseB (fun v => !verOk v) (fun a b => decide (a.From ≥ b.From)) l) (by omega) (fun k hk => by
    unfold M.spec_l8Good_l0 riseB verOk
    have hr := schedS _ (hl.elt hk)
    simp (disch := first | omega | (intros; simp only [decide_eq_true_eq, decide_eq_false_iff_not, Bool.not_eq_true, Bool.not_eq_false, Bool.not_true, Bool.not_false] at *; omega)) only [cast_succ, asrt_pos, wrap64_id, Option.bind_some, cond_true, cond_false, decide_eq_true, decide_eq_false, Int.toNat_natCast, Bool.not_true, Bool.not_false, Bool.and_true, Bool.true_and, Bool.and_false, Bool.false_and, Bool.or_true, Bool.true_or, Bool.or_false, Bool.false_or, hr, l2DayS, toNat_pred, bif_some]
    cases inR (l.getD k default).From 0 20000 <;> cases schedOk (l.getD k default).Rules <;> cases decide ((k : Int) > 0) <;> simp) (by
    unfold M.spec_l8Good_l0
    simp (disch := first | omega | (intros; simp only [decide_eq_true_eq, decide_eq_false_iff_not, Bool.not_eq_true, Bool.not_eq_false, Bool.not_true, Bool.not_false] at *; omega)) only [cast_succ, asrt_pos, wrap64_id, Option.bind_some, cond_true, cond_false, decide_eq_true, decide_eq_false, Int.toNat_natCast, Bool.not_true, Bool.not_false, Bool.and_true, Bool.true_and, Bool.and_false, Bool.false_and, Bool.or_true, Bool.true_or, Bool.or_false, Bool.false_or])]
  unfold versOk rise
  rw [show decide ((l.length : Int) ≤ 5) = decide (l.length ≤ 5) by simp; omega]
  cases (List.range l.length).any _ <;> rfl
theorem versS' (l : List Version) (hl : VersB l) : M.spec_AreVersions l = some (versOk l) := by
  unfold M.spec_AreVersions; rw [versS l hl]; rfl

theorem versOk_spec {l : List Version} (h : versOk l = true) : l.length ≤ 5 ∧ (∀ k, k < l.length → (0 ≤ (l.getD k default).From ∧ (l.getD k default).From ≤ 20000) ∧ schedOk (l.getD k default).Rules = true) ∧ ∀ j k, j < k → k < l.length → (l.getD j default).From < (l.getD k default).From := by
  unfold versOk at h
  simp only [Bool.and_eq_true, decide_eq_true_eq] at h
  refine ⟨h.2, fun k hk => ?_, rise_key h.1 (·.From) (fun a b hab => by simp only [decide_eq_false_iff_not] at hab; omega)⟩
  have := rise_all h.1 _ (getD_mem hk)
  simp only [verOk, Bool.not_eq_false', Bool.and_eq_true, inR_true] at this
  exact this

/-! ### The version in force -/
def OnP (l : List Version) (d : Int) (n : Nat) (a : Int) : Prop :=
  (a = -1 ∧ ∀ j, j < n → d < (l.getD j default).From) ∨ ∃ k : Nat, k < n ∧ a = (k : Int) ∧ (l.getD k default).From ≤ d ∧ ∀ j, k < j → j < n → d < (l.getD j default).From

theorem verOnT (l : List Version) (d : Int) (hl : l.length < 1000000) : T (M.impl_versionOn l d) (OnP l d l.length) := by
  unfold M.impl_versionOn
  refine T.then (Q := OnP l d l.length) (T_iter (fun s => ∃ n : Nat, s.2 = (n : Int) ∧ n ≤ l.length ∧ OnP l d n s.1) (fun s => l.length - s.2.toNat) _ ⟨0, rfl, by omega, .inl ⟨rfl, fun j h => absurd h (Nat.not_lt_zero _)⟩⟩ (by simp only; omega) ?_) (fun a ha => T_ret ha)
  rintro ⟨a, _⟩ ⟨n, rfl, h1, h2⟩
  simp only at h2
  unfold M.impl_versionOn_l0
  dsimp only
  refine T_if (fun hq => ?_) (fun hq => ?_)
  · simp only [decide_eq_true_eq] at hq
    simp only [Int.toNat_natCast]
    refine T_in (T_ask ⟨by omega, hq⟩ ?_)
    refine T_if (fun hd => T_ret (T_ret ?_)) (fun hd => T_ret (T_ret ?_))
    · simp only [decide_eq_true_eq] at hd
      simp only
      rw [wrap64_id (by omega) (by omega)]
      exact ⟨⟨n + 1, by omega, by omega, .inr ⟨n, by omega, rfl, hd, fun j g1 g2 => absurd g1 (by omega)⟩⟩, by omega⟩
    · simp only [decide_eq_false_iff_not] at hd
      simp only
      rw [wrap64_id (by omega) (by omega)]
      refine ⟨⟨n + 1, by omega, by omega, ?_⟩, by omega⟩
      have key : ∀ j, j < n + 1 → (j < n → d < (l.getD j default).From) → d < (l.getD j default).From := by
        intro j hj h
        by_cases e : j < n
        · exact h e
        · obtain rfl : j = n := by omega
          omega
      rcases h2 with ⟨rfl, h2⟩ | ⟨k, g1, g2, g3, g4⟩
      · exact .inl ⟨rfl, fun j hj => key j hj (h2 j)⟩
      · exact .inr ⟨k, by omega, g2, g3, fun j q1 q2 => key j q2 (g4 j q1)⟩
  · simp only [decide_eq_false_iff_not] at hq
    obtain rfl : n = l.length := by omega
    exact T_ret h2

def verAt (l : List Version) (d : Int) : Int := (M.impl_versionOn l d).getD (-1)
theorem verOnI (l : List Version) (d : Int) (hl : l.length < 1000000) : M.impl_versionOn l d = some (verAt l d) := by
  obtain ⟨a, h, _⟩ := verOnT l d hl
  unfold verAt; rw [h]; rfl
theorem verOnS (l : List Version) (d : Int) (hl : l.length < 1000000) : M.spec_l8On l d = some (verAt l d) :=
  (show M.spec_l8On l d = M.impl_versionOn l d from rfl).trans (verOnI l d hl)
theorem verAt_spec (l : List Version) (d : Int) (hl : l.length < 1000000) : OnP l d l.length (verAt l d) := by
  obtain ⟨a, h, h2⟩ := verOnT l d hl
  unfold verAt; rw [h]; exact h2
theorem verAt_bd (l : List Version) (d : Int) (hl : l.length < 1000000) : (verAt l d < 0) ∨ ((0 : Int) ≤ verAt l d ∧ verAt l d < (l.length : Int)) := by
  rcases verAt_spec l d hl with ⟨h, _⟩ | ⟨k, h1, h2, _⟩
  · left; omega
  · right; omega
/-- The version in force is k, if k's day is at most d and the next one's is later. -/
theorem verAt_eq {l : List Version} {d : Int} (hv : versOk l = true) {k : Nat} (hk : k < l.length) (h1 : (l.getD k default).From ≤ d) (h2 : k + 1 < l.length → d < (l.getD (k + 1) default).From) : verAt l d = (k : Int) := by
  obtain ⟨g1, g2, g3⟩ := versOk_spec hv
  rcases verAt_spec l d (by omega) with ⟨_, h⟩ | ⟨q, q1, q2, q3, q4⟩
  · have := h k hk; omega
  · rw [q2]
    rcases Nat.lt_trichotomy q k with e | e | e
    · have := q4 k e hk; omega
    · rw [e]
    · have h3 := h2 (by omega)
      by_cases e2 : q = k + 1
      · subst e2; omega
      · have := g3 (k + 1) q (by omega) q1; omega
theorem verAt_none {l : List Version} {d : Int} (hv : versOk l = true) (h : 0 < l.length → d < (l.getD 0 default).From) : verAt l d = -1 := by
  obtain ⟨g1, g2, g3⟩ := versOk_spec hv
  rcases verAt_spec l d (by omega) with ⟨h1, _⟩ | ⟨q, q1, q2, q3, q4⟩
  · exact h1
  · have h4 := h (by omega)
    by_cases e : q = 0
    · subst e; omega
    · have := g3 0 q (by omega) q1; omega

def inForce (l : List Version) (r : Record) (d : Int) : Bool := (versOk l && recOk r) && inR d 0 20000
theorem forceI (l : List Version) (r : Record) (d : Int) (hl : VersB l) (hr : RecB r) : M.impl_areInForce l r d = some (inForce l r d) := by
  unfold M.impl_areInForce inForce
  simp only [versI l hl, recI r hr, isDayI, Option.bind_some, bif_some]
  cases versOk l <;> cases recOk r <;> rfl
theorem askedS (l : List Version) (r : Record) (d : Int) (hl : VersB l) (hr : RecB r) : M.spec_l8Asked l r d = some (inForce l r d) := by
  unfold M.spec_l8Asked inForce
  simp only [versS l hl, recS r hr, l2DayS, Option.bind_some, bif_some]
  cases versOk l <;> cases recOk r <;> rfl
theorem inForce_spec {l : List Version} {r : Record} {d : Int} (h : inForce l r d = true) : versOk l = true ∧ recOk r = true ∧ 0 ≤ d ∧ d ≤ 20000 := by
  unfold inForce at h
  simp only [Bool.and_eq_true, inR_true] at h
  exact ⟨h.1.1, h.1.2, h.2⟩

def rulesAt (l : List Version) (d : Int) : List Rule := (l.getD (verAt l d).toNat default).Rules
/-- The day on which a record is due in version k. -/
def dueIn (l : List Version) (r : Record) (k : Nat) : Int := (deciding r (l.getD k default).Rules).1
theorem rulesAt_ok {l : List Version} {d : Int} (hv : versOk l = true) (h : ¬ verAt l d < 0) : schedOk (rulesAt l d) = true ∧ ((0 : Int) ≤ verAt l d ∧ verAt l d < (l.length : Int)) := by
  have g := versOk_spec hv
  rcases verAt_bd l d (by omega) with h1 | h1
  · exact absurd h1 h
  · exact ⟨(g.2.1 _ (by omega)).2, h1⟩

/-! ### Why -/
def why (l : List Version) (r : Record) (d : Int) : List UInt8 :=
  bif decide (verAt l d < 0) then [110, 111, 110, 101] else bif ((rulesFor (rulesAt l d) r.Series).length : Int) == 0 then [115, 101, 114, 105, 101, 115] else
  bif decide ((deciding r (rulesAt l d)).1 < 0) then [101, 118, 101, 110, 116] else bif decide ((deciding r (rulesAt l d)).1 > d) then [101, 97, 114, 108, 121] else [100, 117, 101]
def WhyD (l : List Version) (r : Record) (d : Int) : List UInt8 × Bool := bif inForce l r d then (why l r d, true) else ([], false)

theorem whyI (l : List Version) (r : Record) (d : Int) (hl : VersB l) (hr : RecB r) : M.impl_WhyOn l r d = some (WhyD l r d) := by
  unfold M.impl_WhyOn WhyD
  rw [forceI l r d hl hr, Option.bind_some]
  cases h : inForce l r d
  · rfl
  obtain ⟨h1, h2, h3⟩ := inForce_spec h
  simp only [Bool.not_true, cond_false, cond_true, verOnI l d hl.1, Option.bind_some]
  unfold why
  cases hc : decide (verAt l d < 0)
  · obtain ⟨g1, g2⟩ := rulesAt_ok h1 (by simpa using hc)
    have e1 := decidingI r (rulesAt l d) h2 g1
    have e2 := forI (rulesAt l d) r.Series (by have := (schedOk_spec g1).1; omega)
    unfold rulesAt at e1 e2 ⊢
    rw [cond_false, cond_false, asrt_pos g2, e1, Option.bind_some, e2, Option.bind_some]
    dsimp only
    cases hd : decide ((deciding r (l.getD (verAt l d).toNat default).Rules).1 < 0)
    · simp only [decide_eq_false_iff_not] at hd
      rw [decide_eq_true (show (deciding r (l.getD (verAt l d).toNat default).Rules).1 ≥ 0 by omega)]
      simp only [Bool.not_true, cond_false]
      cases ((rulesFor (l.getD (verAt l d).toNat default).Rules r.Series).length : Int) == 0 <;> cases decide ((deciding r (l.getD (verAt l d).toNat default).Rules).1 > d) <;> rfl
    · simp only [decide_eq_true_eq] at hd
      rw [decide_eq_false (show ¬ (deciding r (l.getD (verAt l d).toNat default).Rules).1 ≥ 0 by omega)]
      cases ((rulesFor (l.getD (verAt l d).toNat default).Rules r.Series).length : Int) == 0 <;> rfl
  · rfl

theorem whyS (l : List Version) (r : Record) (d : Int) (hl : VersB l) (hr : RecB r) : M.spec_WhyOn l r d = some (WhyD l r d) := by
  unfold M.spec_WhyOn WhyD
  rw [askedS l r d hl hr, Option.bind_some]
  cases h : inForce l r d
  · rfl
  obtain ⟨h1, h2, h3⟩ := inForce_spec h
  simp only [Bool.not_true, cond_false, cond_true, verOnS l d hl.1, Option.bind_some]
  unfold why
  cases hc : decide (verAt l d < 0)
  · obtain ⟨g1, g2⟩ := rulesAt_ok h1 (by simpa using hc)
    have e1 := decidingS r (rulesAt l d) h2 g1
    have e2 := forS (rulesAt l d) r.Series (by have := (schedOk_spec g1).1; omega)
    unfold rulesAt at e1 e2 ⊢
    rw [cond_false, cond_false, asrt_pos g2, e1, Option.bind_some, asrt_pos g2, e2, Option.bind_some]
    dsimp only
    cases ((rulesFor (l.getD (verAt l d).toNat default).Rules r.Series).length : Int) == 0 <;> cases decide ((deciding r (l.getD (verAt l d).toNat default).Rules).1 < 0) <;> cases decide ((deciding r (l.getD (verAt l d).toNat default).Rules).1 > d) <;> rfl
  · rfl

/-! ### What decides, and whether it is due -/
def DecD (l : List Version) (r : Record) (d : Int) : Rule × Bool := bif inForce l r d && !decide (verAt l d < 0) then ((deciding r (rulesAt l d)).2, decide ((deciding r (rulesAt l d)).1 ≥ 0)) else (⟨0, 0, 0, 0⟩, false)

theorem decDI (l : List Version) (r : Record) (d : Int) (hl : VersB l) (hr : RecB r) : M.impl_DecidesOn l r d = some (DecD l r d) := by
  unfold M.impl_DecidesOn DecD
  simp only [forceI l r d hl hr, verOnI l d hl.1, Option.bind_some, bif_some]
  cases h : inForce l r d
  · rfl
  obtain ⟨h1, h2, h3⟩ := inForce_spec h
  cases hc : decide (verAt l d < 0)
  · obtain ⟨g1, g2⟩ := rulesAt_ok h1 (by simpa using hc)
    have e1 := decidingI r (rulesAt l d) h2 g1
    unfold rulesAt at e1 ⊢
    simp only [Bool.not_true, cond_false, hc, Bool.or_self, Bool.not_false, Bool.and_self, cond_true]
    rw [asrt_pos g2, e1, Option.bind_some]
  · simp only [Bool.not_true, cond_false, hc]; rfl

theorem decDS (l : List Version) (r : Record) (d : Int) (hl : VersB l) (hr : RecB r) : M.spec_DecidesOn l r d = some (DecD l r d) := by
  unfold M.spec_DecidesOn DecD
  simp only [askedS l r d hl hr, verOnS l d hl.1, Option.bind_some, bif_some]
  cases h : inForce l r d
  · rfl
  obtain ⟨h1, h2, h3⟩ := inForce_spec h
  cases hc : decide (verAt l d < 0)
  · obtain ⟨g1, g2⟩ := rulesAt_ok h1 (by simpa using hc)
    have e1 := decidingS r (rulesAt l d) h2 g1
    unfold rulesAt at e1 ⊢
    simp only [Bool.not_true, cond_false, hc, Bool.or_self, Bool.not_false, Bool.and_self, cond_true]
    rw [asrt_pos g2, e1, Option.bind_some]
  · simp only [Bool.not_true, cond_false, hc]; rfl

/-- Due on a day. -/
def dueOn (l : List Version) (r : Record) (d : Int) : Bool := !decide (verAt l d < 0) && inR (deciding r (rulesAt l d)).1 0 d
def DueOnD (l : List Version) (r : Record) (d : Int) : Bool × Bool := bif inForce l r d then (dueOn l r d, true) else (false, false)

theorem why_due (l : List Version) (r : Record) (d : Int) : (why l r d == [100, 117, 101]) = dueOn l r d := by
  unfold why dueOn
  cases hc : decide (verAt l d < 0)
  · simp only [cond_false, Bool.not_false, Bool.true_and]
    cases h0 : ((rulesFor (rulesAt l d) r.Series).length : Int) == 0
    · simp only [cond_false]
      cases h1 : decide ((deciding r (rulesAt l d)).1 < 0)
      · simp only [cond_false]
        simp only [decide_eq_false_iff_not] at h1
        cases h2 : decide ((deciding r (rulesAt l d)).1 > d)
        · simp only [decide_eq_false_iff_not] at h2
          rw [inR_true.2 ⟨by omega, by omega⟩]; rfl
        · simp only [decide_eq_true_eq] at h2
          rw [inR_false.2 (by omega)]; rfl
      · simp only [decide_eq_true_eq] at h1
        rw [inR_false.2 (by omega)]; rfl
    · have h3 : rulesFor (rulesAt l d) r.Series = [] := by
        rw [beq_iff_eq] at h0
        exact List.length_eq_zero_iff.1 (by omega)
      have h4 : (deciding r (rulesAt l d)).1 = -1 := by unfold deciding; rw [h3]; rfl
      rw [h4, inR_false.2 (by omega)]; rfl
  · rfl

theorem dueOnI (l : List Version) (r : Record) (d : Int) (hl : VersB l) (hr : RecB r) : M.impl_DueOn l r d = some (DueOnD l r d) := by
  unfold M.impl_DueOn DueOnD
  rw [whyI l r d hl hr, Option.bind_some]
  unfold WhyD
  cases h : inForce l r d
  · rfl
  · simp only [cond_true, why_due]

theorem dueOnS (l : List Version) (r : Record) (d : Int) (hl : VersB l) (hr : RecB r) : M.spec_DueOn l r d = some (DueOnD l r d) := by
  unfold M.spec_DueOn DueOnD M.spec_l8Due
  rw [askedS l r d hl hr, Option.bind_some]
  cases h : inForce l r d
  · rfl
  obtain ⟨h1, h2, h3⟩ := inForce_spec h
  simp only [Bool.not_true, cond_false, cond_true, verOnS l d hl.1, Option.bind_some]
  unfold dueOn
  by_cases hc : verAt l d < 0
  · rw [asrt_pos (fun q => by simp only [decide_eq_true_eq] at q; omega), decide_eq_true hc, decide_eq_false (show ¬ verAt l d ≥ 0 by omega)]
    rfl
  · obtain ⟨g1, g2⟩ := rulesAt_ok h1 hc
    have e1 := l6DueS r (rulesAt l d) d h2 g1
    unfold rulesAt at e1 ⊢
    rw [asrt_pos (fun q => g2), decide_eq_false hc, decide_eq_true (show verAt l d ≥ 0 by omega), cond_true, e1, Option.bind_some]
    rfl

/-! ### Due days -/
def DaysD (l : List Version) (r : Record) : List Int × Bool := bif versOk l && recOk r then (l.map fun v => (deciding r v.Rules).1, true) else ([], false)

theorem flatMap_one {β γ : Type} (f : β → γ) (l : List β) : l.flatMap (fun x => [f x]) = l.map f := by
  induction l with
  | nil => rfl
  | cons x t ih => simp only [List.flatMap_cons, ih, List.map_cons]; rfl

theorem daysI (l : List Version) (r : Record) (hl : VersB l) (hr : RecB r) : M.impl_DueDays l r = some (DaysD l r) := by
  unfold M.impl_DueDays DaysD
  simp only [versI l hl, recI r hr, Option.bind_some, bif_some]
  cases h1 : versOk l
  · rfl
  cases h2 : recOk r
  · rfl
  obtain ⟨g1, g2, g3⟩ := versOk_spec h1
  simp only [Bool.not_true, cond_false, Bool.or_self, Bool.and_self, cond_true]
  rw [iter_coll (s := (([] : List Int), (0 : Int))) (step := M.impl_DueDays_l0 l r) (fun a k => (a, (k : Int))) (fun v : Version => [(deciding r v.Rules).1]) id l rfl (by omega) (fun k _ => by simp) (fun a k hk ha => by
    unfold M.impl_DueDays_l0
    have h3 := (g2 k hk).2
    have h4 := decidingI r _ h2 h3
    have h5 := deciding_bd h2 h3
    by_cases h0 : (deciding r (l.getD k default).Rules).1 ≥ 0
    · simp (disch := first | omega | (intros; simp only [decide_eq_true_eq, decide_eq_false_iff_not, Bool.not_eq_true, Bool.not_eq_false, Bool.not_true, Bool.not_false] at *; omega)) only [cast_succ, asrt_pos, wrap64_id, Option.bind_some, cond_true, cond_false, decide_eq_true, decide_eq_false, Int.toNat_natCast, Bool.not_true, Bool.not_false, Bool.and_true, Bool.true_and, Bool.and_false, Bool.false_and, Bool.or_true, Bool.true_or, Bool.or_false, Bool.false_or, h4, decide_eq_true h0, due_max h0, List.length_singleton]
    · have h6 : (deciding r (l.getD k default).Rules).1 = -1 := by
        rcases h5 with h5 | h5
        · rw [h5]
        · omega
      simp (disch := first | omega | (intros; simp only [decide_eq_true_eq, decide_eq_false_iff_not, Bool.not_eq_true, Bool.not_eq_false, Bool.not_true, Bool.not_false] at *; omega)) only [cast_succ, asrt_pos, wrap64_id, Option.bind_some, cond_true, cond_false, decide_eq_true, decide_eq_false, Int.toNat_natCast, Bool.not_true, Bool.not_false, Bool.and_true, Bool.true_and, Bool.and_false, Bool.false_and, Bool.or_true, Bool.true_or, Bool.or_false, Bool.false_or, h4, decide_eq_false h0, h6, List.length_singleton]) (fun a ha => by
    unfold M.impl_DueDays_l0
    simp (disch := first | omega | (intros; simp only [decide_eq_true_eq, decide_eq_false_iff_not, Bool.not_eq_true, Bool.not_eq_false, Bool.not_true, Bool.not_false] at *; omega)) only [cast_succ, asrt_pos, wrap64_id, Option.bind_some, cond_true, cond_false, decide_eq_true, decide_eq_false, Int.toNat_natCast, Bool.not_true, Bool.not_false, Bool.and_true, Bool.true_and, Bool.and_false, Bool.false_and, Bool.or_true, Bool.true_or, Bool.or_false, Bool.false_or, id])]
  simp only [id, flatMap_one]
  rfl

theorem daysS (l : List Version) (r : Record) (hl : VersB l) (hr : RecB r) : M.spec_DueDays l r = some (DaysD l r) := by
  unfold M.spec_DueDays DaysD
  rw [askedS l r 0 hl hr, Option.bind_some]
  unfold inForce
  rw [inR_true.2 ⟨Int.le_refl 0, by omega⟩, Bool.and_true]
  cases h1 : versOk l
  · rfl
  cases h2 : recOk r
  · rfl
  obtain ⟨g1, g2, g3⟩ := versOk_spec h1
  simp only [Bool.not_true, cond_false, Bool.or_self, Bool.and_self, cond_true]
  rw [iter_coll (s := (([] : List Int), (0 : Int))) (step := M.spec_DueDays_l0 l r) (fun a k => (a, (k : Int))) (fun v : Version => [(deciding r v.Rules).1]) id l rfl (by omega) (fun k _ => by simp) (fun a k hk ha => by
    unfold M.spec_DueDays_l0
    have h3 := (g2 k hk).2
    have h4 := decidingS r _ h2 h3
    simp (disch := first | omega | (intros; simp only [decide_eq_true_eq, decide_eq_false_iff_not, Bool.not_eq_true, Bool.not_eq_false, Bool.not_true, Bool.not_false] at *; omega)) only [cast_succ, asrt_pos, wrap64_id, Option.bind_some, cond_true, cond_false, decide_eq_true, decide_eq_false, Int.toNat_natCast, Bool.not_true, Bool.not_false, Bool.and_true, Bool.true_and, Bool.and_false, Bool.false_and, Bool.or_true, Bool.true_or, Bool.or_false, Bool.false_or, h4, List.length_singleton]) (fun a ha => by
    unfold M.spec_DueDays_l0
    simp (disch := first | omega | (intros; simp only [decide_eq_true_eq, decide_eq_false_iff_not, Bool.not_eq_true, Bool.not_eq_false, Bool.not_true, Bool.not_false] at *; omega)) only [cast_succ, asrt_pos, wrap64_id, Option.bind_some, cond_true, cond_false, decide_eq_true, decide_eq_false, Int.toNat_natCast, Bool.not_true, Bool.not_false, Bool.and_true, Bool.true_and, Bool.and_false, Bool.false_and, Bool.or_true, Bool.true_or, Bool.or_false, Bool.false_or, id])]
  simp only [id, flatMap_one]
  rfl

/-! ### The first due day -/
def lastOf (l : List Version) (k : Nat) : Int := if k + 1 < l.length then (l.getD (k + 1) default).From - 1 else 20000
def hits (l : List Version) (r : Record) (k : Nat) : Bool := decide (dueIn l r k ≥ 0) && decide (dueIn l r k ≤ lastOf l k)
def firstOf (l : List Version) (r : Record) (k : Nat) : Int := bif decide (dueIn l r k < (l.getD k default).From) then (l.getD k default).From else dueIn l r k
theorem firstOf_max {l : List Version} {r : Record} {k : Nat} : firstOf l r k = max (dueIn l r k) (l.getD k default).From := by
  unfold firstOf
  by_cases h : dueIn l r k < (l.getD k default).From
  · rw [decide_eq_true h, cond_true]; omega
  · rw [decide_eq_false h, cond_false]; omega

theorem lastOf_bd {l : List Version} (hv : versOk l = true) {k : Nat} (hk : k < l.length) : (l.getD k default).From ≤ lastOf l k ∧ lastOf l k ≤ 20000 := by
  obtain ⟨g1, g2, g3⟩ := versOk_spec hv
  have h1 := g2 k hk
  unfold lastOf
  split
  · rename_i h
    have h2 := g2 (k + 1) h
    have h3 := g3 k (k + 1) (by omega) h
    omega
  · omega

theorem firstStepI (l : List Version) (r : Record) (hv : versOk l = true) (k : Nat) (hk : k < l.length) :
    M.impl_FirstDueDay_l0 l (l.map fun v => (deciding r v.Rules).1, true) (k : Int) = some (bif hits l r k then .inr (.inr (firstOf l r k, true)) else .inl ((k + 1 : Nat) : Int)) := by
  obtain ⟨g1, g2, g3⟩ := versOk_spec hv
  have hb := lastOf_bd hv hk
  have e0 : (l.map fun v => (deciding r v.Rules).1).getD k default = dueIn l r k := by
    unfold dueIn
    simp [List.getD, hk]
  unfold M.impl_FirstDueDay_l0
  dsimp only
  simp only [List.length_map, Int.toNat_natCast, e0]
  rw [decide_eq_true (show (k : Int) < (l.length : Int) by omega), cond_true, wrap64_id (by omega) (by omega), show ((k : Int) + 1).toNat = k + 1 by omega, asrt_pos ⟨by omega, by omega⟩]
  have e1 : (bif decide ((k : Int) + 1 < (l.length : Int)) then asrt (0 ≤ (k : Int) + 1 ∧ (k : Int) + 1 < (l.length : Int)) (some (IntKind.i64.wrap ((l.getD (k + 1) default).From - 1))) else some 20000) = some (lastOf l k) := by
    unfold lastOf
    by_cases h : k + 1 < l.length
    · have := g2 (k + 1) h
      rw [decide_eq_true (show (k : Int) + 1 < (l.length : Int) by omega), cond_true, asrt_pos ⟨by omega, by omega⟩, if_pos h, wrap64_id (by omega) (by omega)]
    · rw [decide_eq_false (show ¬ (k : Int) + 1 < (l.length : Int) by omega), cond_false, if_neg h]
  rw [e1, Option.bind_some, asrt_pos ⟨by omega, by omega⟩]
  have e2 : (decide (dueIn l r k ≥ 0) && decide ((bif decide (dueIn l r k < (l.getD k default).From) then (l.getD k default).From else dueIn l r k) ≤ lastOf l k)) = hits l r k := by
    unfold hits
    rw [Bool.eq_iff_iff]
    simp only [Bool.and_eq_true, decide_eq_true_eq]
    have := firstOf_max (l := l) (r := r) (k := k)
    unfold firstOf at this
    rw [this]
    omega
  rw [e2]
  cases hits l r k <;> rfl

theorem firstStepS (l : List Version) (r : Record) (hv : versOk l = true) (hr : recOk r = true) (k : Nat) (hk : k < l.length) :
    M.spec_FirstDueDay_l0 l r (k : Int) = some (bif hits l r k then .inr (.inr (firstOf l r k, true)) else .inl ((k + 1 : Nat) : Int)) := by
  obtain ⟨g1, g2, g3⟩ := versOk_spec hv
  unfold M.spec_FirstDueDay_l0
  dsimp only
  simp only [Int.toNat_natCast]
  rw [decide_eq_true (show (k : Int) < (l.length : Int) by omega), cond_true, wrap64_id (by omega) (by omega), show ((k : Int) + 1).toNat = k + 1 by omega]
  have e1 : (bif decide ((k : Int) + 1 < (l.length : Int)) then asrt (0 ≤ (k : Int) + 1 ∧ (k : Int) + 1 < (l.length : Int)) (some (IntKind.i64.wrap ((l.getD (k + 1) default).From - 1))) else some 20000) = some (lastOf l k) := by
    unfold lastOf
    by_cases h : k + 1 < l.length
    · have := g2 (k + 1) h
      rw [decide_eq_true (show (k : Int) + 1 < (l.length : Int) by omega), cond_true, asrt_pos ⟨by omega, by omega⟩, if_pos h, wrap64_id (by omega) (by omega)]
    · rw [decide_eq_false (show ¬ (k : Int) + 1 < (l.length : Int) by omega), cond_false, if_neg h]
  rw [e1, Option.bind_some, asrt_pos ⟨by omega, by omega⟩, decidingS r _ hr (g2 k hk).2, Option.bind_some, asrt_pos ⟨by omega, by omega⟩]
  dsimp only
  have e2 : (decide ((deciding r (l.getD k default).Rules).1 ≥ 0) && decide ((deciding r (l.getD k default).Rules).1 ≤ lastOf l k)) = hits l r k := rfl
  rw [e2]
  have e3 : M.spec_l1Most (deciding r (l.getD k default).Rules).1 (l.getD k default).From = some (firstOf l r k) := by
    unfold M.spec_l1Most
    rw [firstOf_max, bif_some]
    unfold dueIn
    by_cases h : (deciding r (l.getD k default).Rules).1 > (l.getD k default).From
    · rw [decide_eq_true h, cond_true]; congr 1; omega
    · rw [decide_eq_false h, cond_false]; congr 1; omega
  rw [e3, Option.bind_some]
  cases hits l r k <;> rfl

/-- The first due day is f. -/
def FirstP (l : List Version) (r : Record) (f : Int) : Prop := ∃ k, k < l.length ∧ hits l r k = true ∧ f = firstOf l r k ∧ ∀ j, j < k → hits l r j = false

theorem firstBoth (l : List Version) (r : Record) (hl : VersB l) (hr : RecB r) : ∃ x : Int × Bool, M.impl_FirstDueDay l r = some x ∧ M.spec_FirstDueDay l r = some x ∧ (x.2 = true → versOk l = true ∧ recOk r = true ∧ FirstP l r x.1) := by
  unfold M.impl_FirstDueDay M.spec_FirstDueDay
  rw [daysI l r hl hr, askedS l r 0 hl hr, Option.bind_some, Option.bind_some]
  unfold DaysD inForce
  rw [inR_true.2 ⟨Int.le_refl 0, by omega⟩, Bool.and_true]
  cases h : versOk l && recOk r
  · exact ⟨(0, false), rfl, rfl, by simp⟩
  simp only [Bool.and_eq_true] at h
  obtain ⟨h1, h2⟩ := h
  obtain ⟨g1, g2, g3⟩ := versOk_spec h1
  simp only [Bool.not_true, cond_false, cond_true]
  rcases find_cases (n := l.length) (hits l r) with ⟨k, q1, q2, q3⟩ | q
  · refine ⟨(firstOf l r k, true), ?_, ?_, fun _ => ⟨h1, h2, k, q1, q2, rfl, q3⟩⟩
    · rw [iter_up (s := (0 : Int)) (step := M.impl_FirstDueDay_l0 l (l.map fun v => (deciding r v.Rules).1, true)) (e := .inr (firstOf l r k, true)) (fun k => (k : Int)) k rfl (by omega) (fun j hj => by rw [firstStepI l r h1 j (by omega), q3 j hj]; rfl) (by rw [firstStepI l r h1 k q1, q2]; rfl)]
      rfl
    · rw [iter_up (s := (0 : Int)) (step := M.spec_FirstDueDay_l0 l r) (e := .inr (firstOf l r k, true)) (fun k => (k : Int)) k rfl (by omega) (fun j hj => by rw [firstStepS l r h1 h2 j (by omega), q3 j hj]; rfl) (by rw [firstStepS l r h1 h2 k q1, q2]; rfl)]
      rfl
  · refine ⟨(0, false), ?_, ?_, by simp⟩
    · rw [iter_up (s := (0 : Int)) (step := M.impl_FirstDueDay_l0 l (l.map fun v => (deciding r v.Rules).1, true)) (e := .inl ()) (fun k => (k : Int)) l.length rfl (by omega) (fun j hj => by rw [firstStepI l r h1 j (by omega), q j hj]; rfl) (by
        unfold M.impl_FirstDueDay_l0
        simp)]
      rfl
    · rw [iter_up (s := (0 : Int)) (step := M.spec_FirstDueDay_l0 l r) (e := .inl ()) (fun k => (k : Int)) l.length rfl (by omega) (fun j hj => by rw [firstStepS l r h1 h2 j (by omega), q j hj]; rfl) (by
        unfold M.spec_FirstDueDay_l0
        simp)]
      rfl

/-- On the first due day it is due, and something decides; on the day before it is not. -/
theorem first_due {l : List Version} {r : Record} {f : Int} (hv : versOk l = true) (hr : recOk r = true) (h : FirstP l r f) :
    inForce l r f = true ∧ verAt l f ≥ 0 ∧ dueOn l r f = true ∧ 0 ≤ (deciding r (rulesAt l f)).1 ∧ (f > 0 → inForce l r (f - 1) = true ∧ dueOn l r (f - 1) = false) := by
  obtain ⟨k, h1, h2, rfl, h4⟩ := h
  obtain ⟨g1, g2, g3⟩ := versOk_spec hv
  have gk := g2 k h1
  have hb := lastOf_bd hv h1
  unfold hits at h2
  simp only [Bool.and_eq_true, decide_eq_true_eq] at h2
  have hf := firstOf_max (l := l) (r := r) (k := k)
  generalize hfe : firstOf l r k = f at hf
  have hat : verAt l f = (k : Int) := verAt_eq hv h1 (by omega) (fun hk1 => by
    unfold lastOf at h2 hb
    rw [if_pos hk1] at h2 hb
    omega)
  have hru : rulesAt l f = (l.getD k default).Rules := by unfold rulesAt; rw [hat]; rfl
  have hdu : (deciding r (rulesAt l f)).1 = dueIn l r k := by rw [hru]; rfl
  have fin : ∀ x, 0 ≤ x → x ≤ 20000 → inForce l r x = true := by
    intro x q1 q2
    unfold inForce
    rw [hv, hr, inR_true.2 ⟨q1, q2⟩]; rfl
  refine ⟨fin f (by omega) (by omega), by omega, ?_, by omega, fun hpos => ⟨fin _ (by omega) (by omega), ?_⟩⟩
  · unfold dueOn
    rw [decide_eq_false (by omega), hdu, inR_true.2 ⟨by omega, by omega⟩]; rfl
  · unfold dueOn
    by_cases hc : (l.getD k default).From ≤ f - 1
    · have e1 : verAt l (f - 1) = (k : Int) := verAt_eq hv h1 hc (fun hk1 => by
        unfold lastOf at h2 hb
        rw [if_pos hk1] at h2 hb
        omega)
      have e2 : (deciding r (rulesAt l (f - 1))).1 = dueIn l r k := by unfold rulesAt; rw [e1]; rfl
      rw [e2, inR_false.2 (by omega), Bool.and_false]
    · cases k with
      | zero =>
        rw [verAt_none hv (fun _ => by omega)]; rfl
      | succ j =>
        have hj := h4 j (by omega)
        have e0 := g3 j (j + 1) (by omega) h1
        have e1 : verAt l (f - 1) = (j : Int) := verAt_eq hv (by omega) (by omega) (fun _ => by omega)
        have e2 : (deciding r (rulesAt l (f - 1))).1 = dueIn l r j := by unfold rulesAt; rw [e1]; rfl
        rw [e2, inR_false.2 ?_, Bool.and_false]
        rintro ⟨p1, p2⟩
        unfold hits lastOf at hj
        rw [if_pos h1] at hj
        simp only [Bool.and_eq_false_iff, decide_eq_false_iff_not] at hj
        omega

/-! ### Draws -/
def VersD (l : List Version) : Prop := l.length ≤ 20 ∧ ∀ v ∈ l, v.Rules.length ≤ 20
theorem VersD.bb {l : List Version} (h : VersD l) : VersB l := ⟨by have := h.1; omega, fun v hv => by have := h.2 v hv; omega⟩
theorem VersD.snc {l : List Version} {x : Version} (h : ∀ v ∈ l, v.Rules.length ≤ 20) (hx : x.Rules.length ≤ 20) : ∀ v ∈ l ++ [x], v.Rules.length ≤ 20 := by
  intro y hy
  rcases List.mem_append.1 hy with hy | hy
  · exact h y hy
  · rw [List.mem_singleton] at hy; subst hy; exact hx

theorem drawVersions {code : List Int} {k : Nat} {c : Cur} (hb : Bytes code) (h : Good code k c) (hk : k < 400000000) (r : Record) : T (M.spec_l1Cur_versions c r) (fun q => VersD q.1 ∧ Good code (k + 5000) q.2) := by
  unfold M.spec_l1Cur_versions
  refine T_among hb h (by omega) (by simp) ?_
  intro x c1 _ h1
  refine T_pick hb h1 (by omega) ?_
  intro n c2 _ hn h2
  have hn := hn (by omega)
  dsimp only
  refine T.then (Q := fun q => (q.1.length ≤ 3 ∧ ∀ v ∈ q.1, v.Rules.length ≤ 20) ∧ Good code (k + 4500) q.2) (T_iter (fun s => 0 ≤ s.2.2.1 ∧ (s.1.length : Int) + s.2.2.1 ≤ 3 ∧ (∀ v ∈ s.1, v.Rules.length ≤ 20) ∧ Good code (k + 4500 - 1300 * s.2.2.1.toNat) s.2.2.2) (fun s => s.2.2.1.toNat) _ ⟨hn.1, by simp only [List.length_nil]; omega, by simp, h2.up (by simp only; omega)⟩ (by (first | omega | (simp only; omega) | (dsimp only; omega) | (simp; omega))) ?_) ?_
  · rintro ⟨l, fr, n, c3⟩ ⟨g1, g2, g3, g4⟩
    simp only at g1 g2 g3 g4
    unfold M.spec_l1Cur_versions_l0
    dsimp only
    refine T_if (fun hq => ?_) (fun hq => T_ret ⟨⟨by simp only; omega, g3⟩, g4.up (by omega)⟩)
    simp only [decide_eq_true_eq] at hq
    refine T_in ?_
    refine T.mono (Q := fun q => (q.1.length : Int) + n ≤ 4 ∧ (∀ v ∈ q.1, v.Rules.length ≤ 20) ∧ Good code (k + 4500 - 1300 * n.toNat + 1210) q.2.2) ?_ ?_
    · refine (drawSuited hb g4 (by omega) r).then ?_
      rintro ⟨s, c4⟩ ⟨h5, h6⟩
      simp only at h5 h6
      refine T_in ?_
      refine T.mono (Q := fun q => q.1.length ≤ 20 ∧ Good code (k + 4500 - 1300 * n.toNat + 1202) q.2) ?_ ?_
      · cases hc : decide ((l.length : Int) > 0)
        · simp only [cond_false, Bool.false_and, Option.bind_some]
          exact T_ret ⟨h5, h6.up (by omega)⟩
        · simp only [cond_true, Bool.true_and]
          simp only [decide_eq_true_eq] at hc
          refine T_one hb h6 (by omega) ?_
          intro b c5 h7
          refine T_if (fun _ => ?_) (fun _ => T_ret ⟨h5, h7.up (by omega)⟩)
          rw [wrap64_id (by omega) (by omega)]
          have hm := g3 _ (getD_mem (l := l) (i := ((l.length : Int) - 1).toNat) (by omega))
          refine T_ask ⟨by omega, by omega⟩ (T_ask (by simp only [List.length_nil]; omega) (T_ret ⟨?_, h7.up (by omega)⟩))
          rw [List.nil_append]; exact hm
      · rintro ⟨s2, c5⟩ ⟨p1, p2⟩
        simp only at p1 p2
        refine T_ask (by simp; omega) ?_
        refine T_among hb p2 (by omega) (by simp) ?_
        intro y c6 _ h8
        refine T_ret ⟨by simp; omega, VersD.snc g3 p1, h8.up (by omega)⟩
    · rintro ⟨l2, fr2, c4⟩ ⟨p1, p2, p3⟩
      refine T_ret ?_
      simp only at p1 p2 p3 ⊢
      rw [wrap64_id (by omega) (by omega)]
      exact ⟨⟨by omega, by omega, p2, p3.up (by omega)⟩, by omega⟩
  · rintro ⟨l, c3⟩ ⟨⟨h3, h4⟩, h5⟩
    simp only at h3 h4 h5
    refine T_pick hb h5 (by omega) ?_
    intro y c4 _ _ h6
    refine T_in ?_
    dsimp only
    refine T.mono (Q := fun q => VersD q.1 ∧ Good code (k + 5000) q.2) ?_ (fun r hr => T_ret hr)
    refine T_if (fun hq => ?_) (fun hq => T_if (fun hq => ?_) (fun hq => T_ret ⟨⟨by simp only; omega, h4⟩, h6.up (by omega)⟩))
    · refine T_among hb h6 (by omega) (by simp) ?_
      intro z c5 _ h7
      exact T_ask (by simp; omega) (T_ret ⟨⟨by simp; omega, VersD.snc h4 (by simp)⟩, h7.up (by omega)⟩)
    · refine T.then (Q := fun q => q.1.length ≤ 10 ∧ (∀ v ∈ q.1, v.Rules.length ≤ 20) ∧ Good code (k + 4600) q.2) (T_iter (fun s => s.1.length ≤ 10 ∧ (∀ v ∈ s.1, v.Rules.length ≤ 20) ∧ Good code (k + 4510 + 2 * s.1.length) s.2) (fun s => 10 - s.1.length) _ ⟨by simp only; omega, h4, h6.up (by omega)⟩ (by simp only; omega) ?_) (fun r hr => T_ret ⟨⟨Nat.le_trans hr.1 (by omega), hr.2.1⟩, hr.2.2.up (by omega)⟩)
      rintro ⟨m, c5⟩ ⟨g1, g2, g3⟩
      simp only at g1 g2 g3
      unfold M.spec_l1Cur_versions_l1
      dsimp only
      refine T_pick hb g3 (by omega) ?_
      intro z c6 _ y2 y3
      have := y2 (by omega)
      dsimp only
      rw [wrap64_id (n := 5 + z) (by omega) (by omega)]
      refine T_if (fun hq => ?_) (fun hq => T_ret ⟨g1, g2, y3.up (by omega)⟩)
      simp only [decide_eq_true_eq] at hq
      refine T_ask (by simp; omega) (T_ret ?_)
      simp only [List.length_append, List.length_cons, List.length_nil]
      exact ⟨⟨by omega, VersD.snc g2 (by simp), y3.up (by omega)⟩, by omega⟩

theorem drawDayNear {code : List Int} {k : Nat} {c : Cur} (hb : Bytes code) (h : Good code k c) (hk : k < 400000000) (l : List Version) (r : Record) (hl : VersB l) (hr : RecB r) : T (M.spec_l1Cur_dayNear c l r) (fun q => Good code (k + 20) q.2) := by
  unfold M.spec_l1Cur_dayNear
  obtain ⟨x, _, e1, _⟩ := firstBoth l r hl hr
  rw [e1, Option.bind_some]
  have rest : ∀ c1, Good code (k + 2) c1 → T (((bif (decide ((l.length : Int) > (0 : Int))) then M.spec_l1Cur_one c1 (2 : Int) else some default)).bind fun y3 =>
    bif ((decide ((l.length : Int) > (0 : Int))) && y3.1) then (
      (M.spec_l1Cur_pick (bif (decide ((l.length : Int) > (0 : Int))) then y3.2 else c1) (l.length : Int)).bind fun y4 =>
      asrt ((0 : Int) ≤ y4.1 ∧ y4.1 < (l.length : Int)) <|
      (M.spec_l1Cur_pick y4.2 (2 : Int)).bind fun y5 =>
      some ((IntKind.i64.wrap (((l.getD (Int.toNat y4.1) default).From) - y5.1)), y5.2))
    else (
      (M.spec_l1Cur_day (bif (decide ((l.length : Int) > (0 : Int))) then y3.2 else c1)).bind fun y6 =>
      some (y6.1, y6.2))) (fun q => Good code (k + 20) q.2) := by
    intro c1 h1
    cases hc : decide ((l.length : Int) > 0)
    · simp only [cond_false, Bool.false_and, Option.bind_some]
      exact (drawDay hb h1 (by omega)).then fun q hq => T_ret (hq.up (by omega))
    · simp only [cond_true, Bool.true_and]
      simp only [decide_eq_true_eq] at hc
      refine T_one hb h1 (by omega) ?_
      intro b c2 h2
      refine T_if (fun _ => ?_) (fun _ => (drawDay hb h2 (by omega)).then fun q hq => T_ret (hq.up (by omega)))
      refine T_pick hb h2 (by omega) ?_
      intro y c3 _ y2 h3
      refine T_ask (y2 (by omega)) ?_
      refine T_pick hb h3 (by omega) ?_
      intro z c4 _ _ h4
      exact T_ret (h4.up (by omega))
  cases hx : x.2
  · simp only [cond_false, Bool.false_and, Option.bind_some]
    exact rest c (h.up (by omega))
  · simp only [cond_true, Bool.true_and]
    refine T_one hb h (by omega) ?_
    intro b c1 h1
    refine T_if (fun _ => ?_) (fun _ => rest c1 h1)
    refine T_pick hb h1 (by omega) ?_
    intro y c2 _ _ h2
    exact T_ret (h2.up (by omega))

theorem dDays {code : List Int} (hb : Bytes code) : T (M.spec_DrawDueDays code) (fun q => VersB q.1 ∧ RecB q.2) := by
  unfold M.spec_DrawDueDays
  refine (drawRecord hb good0 (by omega) 12).then ?_
  rintro ⟨r, c1⟩ ⟨h1, h2⟩
  refine (drawVersions hb h2 (by omega) r).then ?_
  rintro ⟨l, c2⟩ ⟨h3, h4⟩
  exact T_ret ⟨h3.bb, by unfold RecB; simp only at h1 ⊢; omega⟩
theorem dFirst8 {code : List Int} (hb : Bytes code) : T (M.spec_DrawFirstDueDay code) (fun q => VersB q.1 ∧ RecB q.2) := by
  unfold M.spec_DrawFirstDueDay
  exact (dDays hb).then fun q hq => T_ret hq
theorem dDecides {code : List Int} (hb : Bytes code) : T (M.spec_DrawDecidesOn code) (fun q => VersB q.1 ∧ RecB q.2.1) := by
  unfold M.spec_DrawDecidesOn
  refine (drawRecord hb good0 (by omega) 12).then ?_
  rintro ⟨r, c1⟩ ⟨h1, h2⟩
  have hr : RecB r := by unfold RecB; simp only at h1 ⊢; omega
  refine (drawVersions hb h2 (by omega) r).then ?_
  rintro ⟨l, c2⟩ ⟨h3, h4⟩
  refine (drawDayNear hb h4 (by omega) l r h3.bb hr).then ?_
  rintro ⟨d, c3⟩ h5
  exact T_ret ⟨h3.bb, hr⟩

theorem DaysD_len {l : List Version} {r : Record} (hl : VersB l) : (DaysD l r).1.length < 1000000 := by
  unfold DaysD
  have := hl.1
  cases versOk l && recOk r
  · simp
  · simpa using this

theorem law_FnVersions (code : List Int) (h1 : code.length ≤ 9223372036854775807) (h2 : ∀ x, x ∈ code → 0 ≤ x ∧ x ≤ 255) : M.laws_FnVersions code = some true := by
  apply T.eq
  unfold M.laws_FnVersions M.laws_vBig
  rw [Option.bind_some]
  refine T_if (fun _ => T_ret rfl) (fun hq => ?_)
  simp only [decide_eq_false_iff_not] at hq
  have hb : Bytes code := ⟨by omega, h2⟩
  refine (dFirst8 hb).then ?_
  rintro ⟨l, r⟩ ⟨hl, hr⟩
  simp only at hl hr
  obtain ⟨x, e1, e2, e3⟩ := firstBoth l r hl hr
  simp only [e1, e2, versI l hl, versS' l hl, Option.bind_some, beq_self_eq_true, bne_self_eq_false, Bool.not_true, Bool.or_self, cond_false]
  refine T.then (Q := fun e => e = .inl ()) (T_if (fun hm => ?_) (fun _ => T_ret rfl)) ?_
  · obtain ⟨k1, k2, k3⟩ := e3 hm
    obtain ⟨p1, p2, p3, p4, p5⟩ := first_due k1 k2 k3
    simp only [dueOnI l r _ hl hr, decDI l r _ hl hr, whyI l r _ hl hr, Option.bind_some]
    have q1 : DueOnD l r x.1 = (true, true) := by unfold DueOnD; rw [p1, p3]; rfl
    have q2 : (DecD l r x.1).2 = true := by
      unfold DecD
      rw [p1, decide_eq_false (show ¬ verAt l x.1 < 0 by omega), decide_eq_true (show (deciding r (rulesAt l x.1)).1 ≥ 0 from p4)]; rfl
    have q3 : WhyD l r x.1 = (why l r x.1, true) := by unfold WhyD; rw [p1]; rfl
    rw [q1, q2, q3]
    simp only [why_due, p3, Bool.not_true, Bool.or_self, cond_false]
    refine T_if (fun hp => ?_) (fun _ => T_ret rfl)
    simp only [decide_eq_true_eq] at hp
    obtain ⟨p6, p7⟩ := p5 hp
    have := (inForce_spec p1).2.2
    rw [wrap64_id (by omega) (by omega)]
    have q4 : DueOnD l r (x.1 - 1) = (false, true) := by unfold DueOnD; rw [p6, p7]; rfl
    rw [q4]
    exact T_ret rfl
  rintro _ rfl
  dsimp only
  refine (dDecides hb).then ?_
  rintro ⟨l, r, d⟩ ⟨hl, hr⟩
  simp only at hl hr
  simp only [dueOnI l r _ hl hr, decDI l r _ hl hr, whyI l r _ hl hr, dueOnS l r _ hl hr, decDS l r _ hl hr, whyS l r _ hl hr, Option.bind_some, beq_self_eq_true, Bool.and_self, Bool.and_true, Bool.not_true, Bool.or_self, cond_false]
  have q1 : (((!((WhyD l r d).2 == (DueOnD l r d).2)) || ((DueOnD l r d).2 && (!((DueOnD l r d).1 == ((WhyD l r d).1 == [100, 117, 101]))))) || (((DecD l r d).2 && (!((WhyD l r d).1 == [100, 117, 101]))) && (!((WhyD l r d).1 == [101, 97, 114, 108, 121])))) = false := by
    unfold WhyD DueOnD DecD
    cases h : inForce l r d
    · rfl
    simp only [cond_true, why_due, Bool.true_and, beq_self_eq_true, Bool.not_true, Bool.or_self, Bool.false_or]
    cases hc : decide (verAt l d < 0)
    · simp only [Bool.not_false, cond_true]
      by_cases h0 : (deciding r (rulesAt l d)).1 ≥ 0
      · rw [decide_eq_true h0]
        simp only [Bool.true_and]
        cases hd : dueOn l r d
        · have hw : why l r d = [101, 97, 114, 108, 121] := by
            unfold why
            unfold dueOn at hd
            rw [hc] at hd
            simp only [Bool.not_false, Bool.true_and] at hd
            rw [inR_false] at hd
            rw [hc, decide_eq_false (show ¬ (deciding r (rulesAt l d)).1 < 0 by omega), decide_eq_true (show (deciding r (rulesAt l d)).1 > d by omega)]
            have : (((rulesFor (rulesAt l d) r.Series).length : Int) == 0) = false := by
              rw [beq_eq_false_iff_ne]
              intro e
              have h3 : rulesFor (rulesAt l d) r.Series = [] := List.length_eq_zero_iff.1 (by omega)
              have h4 : (deciding r (rulesAt l d)).1 = -1 := by unfold deciding; rw [h3]; rfl
              omega
            rw [this]; rfl
          rw [hw]; rfl
        · rfl
      · rw [decide_eq_false h0]; rfl
    · rfl
  simp only [Bool.false_or]
  rw [q1, cond_false]
  refine (dDays hb).then ?_
  rintro ⟨l, r⟩ ⟨hl, hr⟩
  simp only at hl hr
  simp only [daysI l r hl hr, daysS l r hl hr, Option.bind_some, beq_self_eq_true, cond_true, vInts_self _ (DaysD_len hl), Bool.true_and]
  exact T_ret rfl

end Go.Proofs.Ythffmnpbonkpaaa
