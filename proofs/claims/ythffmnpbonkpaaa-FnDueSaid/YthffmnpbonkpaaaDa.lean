/-
  Due days of records: the plain law of 'due'. Plain.
-/
import Derived.Test.YthffmnpbonkpaaaHd
set_option linter.unusedSimpArgs false
set_option linter.unusedVariables false
namespace Go.Proofs.Ythffmnpbonkpaaa
open Go.VS

theorem bothS (r : Record) (s : List Rule) (hr : RecB r) (hs : s.length < 1000000) : M.spec_l6Asked r s = some (both r s) := by
  unfold M.spec_l6Asked both
  simp only [recS r hr, schedS s hs, Option.bind_some, bif_some]
  cases recOk r <;> rfl
theorem both_spec {r : Record} {s : List Rule} (h : both r s = true) : recOk r = true ∧ schedOk s = true := by
  unfold both at h; simpa using h

def DueD (r : Record) (s : List Rule) : Int × Bool := bif both r s && decide (0 ≤ (deciding r s).1) then ((deciding r s).1, true) else (0, false)
theorem dueDI (r : Record) (s : List Rule) (hr : RecB r) (hs : s.length < 1000000) : M.impl_DueDay r s = some (DueD r s) := by
  unfold M.impl_DueDay DueD
  rw [bothI r s hr hs, Option.bind_some]
  cases h : both r s
  · rfl
  · obtain ⟨h1, h2⟩ := both_spec h
    simp only [Bool.not_true, cond_false, decidingI r s h1 h2, Option.bind_some, Bool.true_and]
    by_cases h3 : 0 ≤ (deciding r s).1
    · rw [due_max h3, decide_eq_true h3]; simp [h3]
    · rw [decide_eq_false h3, decide_eq_true (show (deciding r s).1 < 0 by omega)]; simp <;> omega
theorem dueDS (r : Record) (s : List Rule) (hr : RecB r) (hs : s.length < 1000000) : M.spec_DueDay r s = some (DueD r s) := by
  unfold M.spec_DueDay DueD
  rw [bothS r s hr hs, Option.bind_some]
  cases h : both r s
  · rfl
  · obtain ⟨h1, h2⟩ := both_spec h
    simp only [Bool.not_true, cond_false, decidingS r s h1 h2, Option.bind_some, Bool.true_and]
    by_cases h3 : 0 ≤ (deciding r s).1
    · rw [decide_eq_true h3, decide_eq_false (show ¬ (deciding r s).1 < 0 by omega)]; rfl
    · rw [decide_eq_false h3, decide_eq_true (show (deciding r s).1 < 0 by omega)]; rfl

theorem l6DueS (r : Record) (s : List Rule) (d : Int) (hr : recOk r = true) (hs : schedOk s = true) : M.spec_l6Due r s d = some (inR (deciding r s).1 0 d) := by
  unfold M.spec_l6Due
  rw [decidingS r s hr hs, Option.bind_some, l1InS]; rfl

theorem isDueS (r : Record) (s : List Rule) (d : Int) (hr : RecB r) (hs : s.length < 1000000) : M.spec_IsDue r s d = some (bif both r s && inR d 0 20000 then (decide (0 ≤ (deciding r s).1) && decide ((deciding r s).1 ≤ d), true) else (false, false)) := by
  unfold M.spec_IsDue
  simp only [bothS r s hr hs, l2DayS, Option.bind_some, bif_some]
  cases h : both r s
  · rfl
  cases h5 : inR d 0 20000
  · rfl
  obtain ⟨h1, h2⟩ := both_spec h
  simp only [Bool.not_true, cond_false, Bool.or_false, l6DueS r s d h1 h2, Option.bind_some, Bool.and_true, cond_true]
  rfl

def allOk (l : List Record) (s : List Rule) : Bool := recsOk l && schedOk s
theorem allI (l : List Record) (s : List Rule) (hl : RecsB l) (hs : s.length < 1000000) : M.impl_areAll l s = some (allOk l s) := by
  unfold M.impl_areAll allOk
  simp only [recsI l hl, schedI s hs, Option.bind_some, bif_some]
  cases recsOk l <;> rfl
theorem allOk_spec {l : List Record} {s : List Rule} (h : allOk l s = true) : (∀ k, k < l.length → recOk (l.getD k default) = true) ∧ schedOk s = true ∧ l.length ≤ 10 := by
  unfold allOk recsOk at h
  simp only [Bool.and_eq_true, decide_eq_true_eq] at h
  exact ⟨fun k hk => by simpa using rise_all h.1.1 _ (getD_mem hk), h.2, h.1.2⟩

/-! ### Due records -/
def dueP (s : List Rule) (d act : Int) (r : Record) : Bool := (((deciding r s).2.Act == act) && decide (0 ≤ (deciding r s).1)) && decide ((deciding r s).1 ≤ d)
def dueL (l : List Record) (s : List Rule) (d act : Int) : List Int := (l.filter fun r => dueP s d act r).map (·.Id)

theorem dueLoopI (l : List Record) (s : List Rule) (d act : Int) (hr : ∀ k, k < l.length → recOk (l.getD k default) = true) (hs : schedOk s = true) (hl : l.length ≤ 10) : iterO (M.impl_DueRecords_l0 l s d act) ([], 0) = some (dueL l s d act) := by
  rw [iter_coll (s := (([] : List Int), (0 : Int))) (step := M.impl_DueRecords_l0 l s d act) (fun a k => (a, (k : Int))) (fun r : Record => bif dueP s d act r then [r.Id] else []) id l rfl (by omega) (fun k _ => if_len _ _) (fun a k hk ha => by
    unfold M.impl_DueRecords_l0
    have h2 := decidingI (l.getD k default) s (hr k hk) hs
    have h3 : ((decide ((deciding (l.getD k default) s).1 ≥ 0) && decide ((bif decide ((deciding (l.getD k default) s).1 < 0) then 0 else (deciding (l.getD k default) s).1) ≤ d)) && ((deciding (l.getD k default) s).2.Act == act)) = dueP s d act (l.getD k default) := by
      unfold dueP
      by_cases h0 : 0 ≤ (deciding (l.getD k default) s).1
      · rw [due_max h0, decide_eq_true h0]
        simp only [Bool.true_and, Bool.and_true]
        exact Bool.and_comm _ _
      · rw [decide_eq_false h0]; simp
    simp (disch := first | omega | (intros; simp only [decide_eq_true_eq, decide_eq_false_iff_not, Bool.not_eq_true, Bool.not_eq_false, Bool.not_true, Bool.not_false] at *; omega)) only [cast_succ, asrt_pos, wrap64_id, Option.bind_some, cond_true, cond_false, decide_eq_true, decide_eq_false, Int.toNat_natCast, Bool.not_true, Bool.not_false, Bool.and_true, Bool.true_and, Bool.and_false, Bool.false_and, Bool.or_true, Bool.true_or, Bool.or_false, Bool.false_or, app_if, List.length_singleton, h2, h3]
    cases dueP s d act (l.getD k default) <;> rfl) (fun a ha => by
    unfold M.impl_DueRecords_l0
    simp (disch := first | omega | (intros; simp only [decide_eq_true_eq, decide_eq_false_iff_not, Bool.not_eq_true, Bool.not_eq_false, Bool.not_true, Bool.not_false] at *; omega)) only [cast_succ, asrt_pos, wrap64_id, Option.bind_some, cond_true, cond_false, decide_eq_true, decide_eq_false, Int.toNat_natCast, Bool.not_true, Bool.not_false, Bool.and_true, Bool.true_and, Bool.and_false, Bool.false_and, Bool.or_true, Bool.true_or, Bool.or_false, Bool.false_or, id])]
  simp only [id, flatMap_if]
  rfl

theorem dueLoopS (l : List Record) (s : List Rule) (d act : Int) (hr : ∀ k, k < l.length → recOk (l.getD k default) = true) (hs : schedOk s = true) (hl : l.length ≤ 10) : iterO (M.spec_DueRecords_l0 l s d act) ([], 0) = some (dueL l s d act) := by
  rw [iter_coll (s := (([] : List Int), (0 : Int))) (step := M.spec_DueRecords_l0 l s d act) (fun a k => (a, (k : Int))) (fun r : Record => bif dueP s d act r then [r.Id] else []) id l rfl (by omega) (fun k _ => if_len _ _) (fun a k hk ha => by
    unfold M.spec_DueRecords_l0
    have h2 := decidingS (l.getD k default) s (hr k hk) hs
    have h3 := l6DueS (l.getD k default) s d (hr k hk) hs
    have h4 : dueP s d act (l.getD k default) = (((deciding (l.getD k default) s).2.Act == act) && inR (deciding (l.getD k default) s).1 0 d) := by
      unfold dueP inR; rw [Bool.and_assoc]
    simp (disch := first | omega | (intros; simp only [decide_eq_true_eq, decide_eq_false_iff_not, Bool.not_eq_true, Bool.not_eq_false, Bool.not_true, Bool.not_false] at *; omega)) only [cast_succ, asrt_pos, wrap64_id, Option.bind_some, cond_true, cond_false, decide_eq_true, decide_eq_false, Int.toNat_natCast, Bool.not_true, Bool.not_false, Bool.and_true, Bool.true_and, Bool.and_false, Bool.false_and, Bool.or_true, Bool.true_or, Bool.or_false, Bool.false_or, app_if, List.length_singleton, h2, h3, h4, bif_some]
    cases ((deciding (l.getD k default) s).2.Act == act) <;> cases inR (deciding (l.getD k default) s).1 0 d <;> rfl) (fun a ha => by
    unfold M.spec_DueRecords_l0
    simp (disch := first | omega | (intros; simp only [decide_eq_true_eq, decide_eq_false_iff_not, Bool.not_eq_true, Bool.not_eq_false, Bool.not_true, Bool.not_false] at *; omega)) only [cast_succ, asrt_pos, wrap64_id, Option.bind_some, cond_true, cond_false, decide_eq_true, decide_eq_false, Int.toNat_natCast, Bool.not_true, Bool.not_false, Bool.and_true, Bool.true_and, Bool.and_false, Bool.false_and, Bool.or_true, Bool.true_or, Bool.or_false, Bool.false_or, id])]
  simp only [id, flatMap_if]
  rfl

def DueR (l : List Record) (s : List Rule) (d act : Int) : List Int × Bool := bif (allOk l s && inR d 0 20000) && inR act 1 3 then (dueL l s d act, true) else ([], false)
theorem dueRI (l : List Record) (s : List Rule) (d act : Int) (hl : RecsB l) (hs : s.length < 1000000) : M.impl_DueRecords l s d act = some (DueR l s d act) := by
  unfold M.impl_DueRecords M.impl_isAct DueR
  simp only [allI l s hl hs, isDayI, withinI, Option.bind_some, bif_some]
  cases h1 : allOk l s
  · rfl
  cases h2 : inR d 0 20000
  · rfl
  cases h3 : inR act 1 3
  · rfl
  obtain ⟨g1, g2, g3⟩ := allOk_spec h1
  simp only [Bool.not_true, Bool.or_false, cond_false, Bool.and_self, cond_true, dueLoopI l s d act g1 g2 g3, Option.bind_some]
theorem dueRS (l : List Record) (s : List Rule) (d act : Int) (hl : RecsB l) (hs : s.length < 1000000) : M.spec_DueRecords l s d act = some (DueR l s d act) := by
  unfold M.spec_DueRecords DueR allOk
  simp only [recsS l hl, schedS s hs, l2DayS, l1InS, Option.bind_some, bif_some]
  cases h1 : recsOk l
  · rfl
  cases h4 : schedOk s
  · rfl
  cases h2 : inR d 0 20000
  · rfl
  cases h3 : inR act 1 3
  · rfl
  obtain ⟨g1, g2, g3⟩ := allOk_spec (l := l) (s := s) (by unfold allOk; rw [h1, h4]; rfl)
  simp only [Bool.not_true, Bool.or_false, cond_false, Bool.and_self, cond_true, dueLoopS l s d act g1 g2 g3, Option.bind_some]
theorem dueL_len {l : List Record} {s : List Rule} {d act : Int} : (dueL l s d act).length ≤ l.length := by
  unfold dueL; rw [List.length_map]; exact List.length_filter_le _ _
theorem DueR_len {l : List Record} {s : List Rule} {d act : Int} (hl : RecsB l) : (DueR l s d act).1.length < 1000000 := by
  unfold DueR
  cases (allOk l s && inR d 0 20000) && inR act 1 3
  · simp
  · have := dueL_len (l := l) (s := s) (d := d) (act := act); have := hl.1; simp only [cond_true]; omega

/-! ### The record that is due next -/
/-- What is known of the next one: there is none (id 0), or it is at place k. -/
def NextP (l : List Record) (s : List Rule) (d : Int) (n : Nat) (none : Bool) (id due : Int) : Prop :=
  (∀ j, j < n → d < (deciding (l.getD j default) s).1 → none = false ∧ due ≤ (deciding (l.getD j default) s).1) ∧
  (none = false → ∃ k, k < n ∧ (l.getD k default).Id = id ∧ (deciding (l.getD k default) s).1 = due ∧ d < due ∧ ∀ j, j < k → d < (deciding (l.getD j default) s).1 → due < (deciding (l.getD j default) s).1)

theorem NextP.one {l : List Record} {s : List Rule} {d : Int} {n : Nat} {b b' : Bool} {i i' e e' : Int} (h : NextP l s d n b i e) (h' : NextP l s d n b' i' e') : b = b' ∧ (b = false → i = i' ∧ e = e') := by
  have key : ∀ {b b' : Bool} {i i' e e' : Int}, NextP l s d n b i e → NextP l s d n b' i' e' → b = false → b' = false ∧ e' ≤ e := by
    intro b b' i i' e e' h h' hb
    obtain ⟨k, h1, h2, h3, h4, _⟩ := h.2 hb
    obtain ⟨g1, g2⟩ := h'.1 k h1 (by omega)
    exact ⟨g1, by omega⟩
  have hb : b = b' := by
    cases b with
    | false => exact (key h h' rfl).1.symm
    | true => cases b' with
      | false => exact absurd (key h' h rfl).1 (by simp)
      | true => rfl
  subst hb
  refine ⟨rfl, fun hb => ?_⟩
  have e1 := (key h h' hb).2
  have e2 := (key h' h hb).2
  have ee : e = e' := by omega
  subst ee
  obtain ⟨k, h1, h2, h3, h4, h5⟩ := h.2 hb
  obtain ⟨k', g1, g2, g3, g4, g5⟩ := h'.2 hb
  have : k = k' := by
    rcases Nat.lt_trichotomy k k' with q | q | q
    · have := g5 k q (by omega); omega
    · exact q
    · have := h5 k' q (by omega); omega
  subst this
  exact ⟨by omega, rfl⟩

theorem NextP.step {l : List Record} {s : List Rule} {d : Int} {n : Nat} {b : Bool} {i e : Int} (h : NextP l s d n b i e) :
    (d < (deciding (l.getD n default) s).1 → (b = true ∨ (deciding (l.getD n default) s).1 < e) → NextP l s d (n + 1) false (l.getD n default).Id (deciding (l.getD n default) s).1) ∧
    (¬(d < (deciding (l.getD n default) s).1 ∧ (b = true ∨ (deciding (l.getD n default) s).1 < e)) → NextP l s d (n + 1) b i e) := by
  obtain ⟨h1, h2⟩ := h
  constructor
  · intro g1 g2
    refine ⟨fun j hj hd => ⟨rfl, ?_⟩, fun _ => ⟨n, by omega, rfl, rfl, g1, fun j hj hd => ?_⟩⟩
    · by_cases hjn : j < n
      · obtain ⟨q1, q2⟩ := h1 j hjn hd
        rcases g2 with g2 | g2
        · rw [q1] at g2; cases g2
        · omega
      · obtain rfl : j = n := by omega
        exact Int.le_refl _
    · obtain ⟨q1, q2⟩ := h1 j hj hd
      rcases g2 with g2 | g2
      · rw [q1] at g2; cases g2
      · omega
  · intro g
    refine ⟨fun j hj hd => ?_, fun hb => ?_⟩
    · by_cases hjn : j < n
      · exact h1 j hjn hd
      · obtain rfl : j = n := by omega
        cases b with
        | true => exact absurd ⟨hd, .inl rfl⟩ g
        | false => exact ⟨rfl, Int.not_lt.1 fun hc => g ⟨hd, .inr hc⟩⟩
    · obtain ⟨k, q1, q2, q3, q4, q5⟩ := h2 hb
      exact ⟨k, by omega, q2, q3, q4, q5⟩

theorem nextLoopI (l : List Record) (s : List Rule) (d : Int) (hr : ∀ k, k < l.length → recOk (l.getD k default) = true) (hs : schedOk s = true) (hl : l.length ≤ 10) (hd : 0 ≤ d) :
    T (iterO (M.impl_NextDue_l0 l s d) (0, 0, 0)) (fun e => 0 ≤ e.1 ∧ (e.1 = 0 → e.2 = 0) ∧ NextP l s d l.length (e.1 == 0) e.1 e.2) := by
  refine T_iter (fun q => ∃ v : Nat, q.2.2 = (v : Int) ∧ v ≤ l.length ∧ 0 ≤ q.1 ∧ (q.1 = 0 → q.2.1 = 0) ∧ NextP l s d v (q.1 == 0) q.1 q.2.1) (fun q => l.length - q.2.2.toNat) _
    ⟨0, rfl, by omega, Int.le_refl _, fun _ => rfl, fun j h => absurd h (Nat.not_lt_zero _), fun h => by cases h⟩ (by simp only; omega) ?_
  rintro ⟨i, e, _⟩ ⟨v, rfl, h1, h2, h3, h4⟩
  simp only at h2 h3 h4
  unfold M.impl_NextDue_l0
  dsimp only
  refine T_if (fun hv => ?_) (fun hv => ?_)
  · simp only [decide_eq_true_eq] at hv
    have hv' : v < l.length := by omega
    simp only [Int.toNat_natCast]
    refine T_in (T_ask ⟨by omega, hv⟩ ?_)
    have hrec := hr v hv'
    have hid := (recOk_spec hrec).1
    rw [decidingI _ s hrec hs, Option.bind_some]
    refine T_if (fun hq => T_ret (T_ret ?_)) (fun hq => T_ret (T_ret ?_))
    · simp only [Bool.and_eq_true, Bool.or_eq_true, decide_eq_true_eq, beq_iff_eq] at hq
      have h0 : 0 ≤ (deciding (l.getD v default) s).1 := hq.1.1
      rw [due_max h0] at hq
      simp only
      rw [wrap64_id (by omega) (by omega), due_max h0]
      refine ⟨⟨v + 1, by omega, by omega, by omega, by omega, ?_⟩, by omega⟩
      rw [show ((l.getD v default).Id == 0) = false by rw [beq_eq_false_iff_ne]; omega]
      exact h4.step.1 (by omega) (by rw [beq_iff_eq]; exact hq.2)
    · simp only
      rw [wrap64_id (by omega) (by omega)]
      refine ⟨⟨v + 1, by omega, by omega, h2, h3, h4.step.2 ?_⟩, by omega⟩
      rintro ⟨g1, g2⟩
      have h0 : 0 ≤ (deciding (l.getD v default) s).1 := by omega
      rw [due_max h0, decide_eq_true (show (deciding (l.getD v default) s).1 ≥ 0 from h0), decide_eq_true (show (deciding (l.getD v default) s).1 > d from g1)] at hq
      simp only [Bool.true_and, Bool.or_eq_false_iff, decide_eq_false_iff_not] at hq
      rcases g2 with g2 | g2
      · rw [hq.1] at g2; cases g2
      · exact hq.2 g2
  · simp only [decide_eq_false_iff_not] at hv
    obtain rfl : v = l.length := by omega
    exact T_ret ⟨h2, h3, h4⟩

theorem nextLoopS (l : List Record) (s : List Rule) (d : Int) (hr : ∀ k, k < l.length → recOk (l.getD k default) = true) (hs : schedOk s = true) (hl : l.length ≤ 10) (hd : 0 ≤ d) :
    T (iterO (M.spec_NextDue_l0 l s d) (0, -1, 0)) (fun e => NextP l s d l.length (decide (e.2 < 0)) e.1 e.2) := by
  refine T_iter (fun q => ∃ v : Nat, q.2.2 = (v : Int) ∧ v ≤ l.length ∧ NextP l s d v (decide (q.2.1 < 0)) q.1 q.2.1) (fun q => l.length - q.2.2.toNat) _
    ⟨0, rfl, by omega, fun j h => absurd h (Nat.not_lt_zero _), fun h => by cases h⟩ (by simp only; omega) ?_
  rintro ⟨i, e, _⟩ ⟨v, rfl, h1, h4⟩
  simp only at h4
  unfold M.spec_NextDue_l0
  dsimp only
  refine T_if (fun hv => ?_) (fun hv => ?_)
  · simp only [decide_eq_true_eq] at hv
    have hv' : v < l.length := by omega
    simp only [Int.toNat_natCast]
    refine T_in (T_ask ⟨by omega, hv⟩ ?_)
    have hrec := hr v hv'
    rw [decidingS _ s hrec hs, Option.bind_some]
    refine T_if (fun hq => T_ask ⟨by omega, hv⟩ (T_ret (T_ret ?_))) (fun hq => T_ret (T_ret ?_))
    · simp only [Bool.and_eq_true, Bool.or_eq_true, decide_eq_true_eq] at hq
      simp only
      rw [wrap64_id (by omega) (by omega)]
      refine ⟨⟨v + 1, by omega, by omega, ?_⟩, by omega⟩
      rw [decide_eq_false (by omega)]
      exact h4.step.1 (by omega) (by rw [decide_eq_true_eq]; exact hq.2)
    · simp only
      rw [wrap64_id (by omega) (by omega)]
      refine ⟨⟨v + 1, by omega, by omega, h4.step.2 ?_⟩, by omega⟩
      rintro ⟨g1, g2⟩
      rw [decide_eq_true (show (deciding (l.getD v default) s).1 > d from g1)] at hq
      simp only [Bool.true_and, Bool.or_eq_false_iff, decide_eq_false_iff_not] at hq
      rcases g2 with g2 | g2
      · simp only [decide_eq_true_eq] at g2; exact hq.1 g2
      · exact hq.2 g2
  · simp only [decide_eq_false_iff_not] at hv
    obtain rfl : v = l.length := by omega
    exact T_ret h4

theorem nextBoth (l : List Record) (s : List Rule) (d : Int) (hl : RecsB l) (hs : s.length < 1000000) : ∃ x : Int × Int × Bool, M.impl_NextDue l s d = some x ∧ M.spec_NextDue l s d = some x ∧
    (x.2.2 = true → allOk l s = true ∧ 0 ≤ d ∧ NextP l s d l.length false x.1 x.2.1) := by
  unfold M.impl_NextDue M.spec_NextDue
  simp only [allI l s hl hs, recsS l hl, schedS s hs, isDayI, l2DayS, Option.bind_some, bif_some]
  cases h1 : recsOk l
  · exact ⟨(0, 0, false), by simp [allOk, h1], rfl, by simp⟩
  cases h4 : schedOk s
  · exact ⟨(0, 0, false), by simp [allOk, h1, h4], rfl, by simp⟩
  have ha : allOk l s = true := by unfold allOk; rw [h1, h4]; rfl
  cases h2 : inR d 0 20000
  · exact ⟨(0, 0, false), by simp [ha], rfl, by simp⟩
  obtain ⟨g1, g2, g3⟩ := allOk_spec ha
  have hd := (inR_true.1 h2).1
  obtain ⟨⟨i, e⟩, e1, q1, q2, q3⟩ := nextLoopI l s d g1 g2 g3 hd
  obtain ⟨⟨i', e'⟩, e2, p3⟩ := nextLoopS l s d g1 g2 g3 hd
  simp only at q1 q2 q3 p3
  obtain ⟨hb, he⟩ := q3.one p3
  simp only [ha, Bool.not_true, Bool.or_false, cond_false, e1, e2, Option.bind_some]
  cases hz : (i == 0)
  · rw [hz] at hb he q3
    obtain ⟨rfl, rfl⟩ := he rfl
    refine ⟨(i, e, true), ?_, by rw [← hb]; rfl, fun _ => ⟨by trivial, hd, q3⟩⟩
    rw [beq_eq_false_iff_ne] at hz
    rw [decide_eq_true (show i > 0 by omega)]
  · rw [hz] at hb
    rw [beq_iff_eq] at hz
    have := q2 hz
    subst hz this
    exact ⟨(0, 0, false), rfl, by rw [← hb]; rfl, by simp⟩

/-! ### Not scheduled -/
def notL (l : List Record) (s : List Rule) : List Int := (l.filter fun r => ((rulesFor s r.Series).length : Int) == 0).map (·.Id)
theorem notLoopI (l : List Record) (s : List Rule) (hs : s.length < 1000000) (hl : l.length ≤ 10) : iterO (M.impl_NotScheduled_l0 l s) ([], 0) = some (notL l s) := by
  rw [iter_coll (s := (([] : List Int), (0 : Int))) (step := M.impl_NotScheduled_l0 l s) (fun a k => (a, (k : Int))) (fun r : Record => bif ((rulesFor s r.Series).length : Int) == 0 then [r.Id] else []) id l rfl (by omega) (fun k _ => if_len _ _) (fun a k hk ha => by
    unfold M.impl_NotScheduled_l0
    have h2 := forI s (l.getD k default).Series hs
    simp (disch := first | omega | (intros; simp only [decide_eq_true_eq, decide_eq_false_iff_not, Bool.not_eq_true, Bool.not_eq_false, Bool.not_true, Bool.not_false] at *; omega)) only [cast_succ, asrt_pos, wrap64_id, Option.bind_some, cond_true, cond_false, decide_eq_true, decide_eq_false, Int.toNat_natCast, Bool.not_true, Bool.not_false, Bool.and_true, Bool.true_and, Bool.and_false, Bool.false_and, Bool.or_true, Bool.true_or, Bool.or_false, Bool.false_or, app_if, List.length_singleton, h2]
    cases ((rulesFor s (l.getD k default).Series).length : Int) == 0 <;> rfl) (fun a ha => by
    unfold M.impl_NotScheduled_l0
    simp (disch := first | omega | (intros; simp only [decide_eq_true_eq, decide_eq_false_iff_not, Bool.not_eq_true, Bool.not_eq_false, Bool.not_true, Bool.not_false] at *; omega)) only [cast_succ, asrt_pos, wrap64_id, Option.bind_some, cond_true, cond_false, decide_eq_true, decide_eq_false, Int.toNat_natCast, Bool.not_true, Bool.not_false, Bool.and_true, Bool.true_and, Bool.and_false, Bool.false_and, Bool.or_true, Bool.true_or, Bool.or_false, Bool.false_or, id])]
  simp only [id, flatMap_if]
  rfl
theorem notLoopS (l : List Record) (s : List Rule) (hs : s.length < 1000000) (hl : l.length ≤ 10) : iterO (M.spec_NotScheduled_l0 l s) ([], 0) = some (notL l s) := by
  rw [iter_coll (s := (([] : List Int), (0 : Int))) (step := M.spec_NotScheduled_l0 l s) (fun a k => (a, (k : Int))) (fun r : Record => bif ((rulesFor s r.Series).length : Int) == 0 then [r.Id] else []) id l rfl (by omega) (fun k _ => if_len _ _) (fun a k hk ha => by
    unfold M.spec_NotScheduled_l0
    have h2 := forS s (l.getD k default).Series hs
    simp (disch := first | omega | (intros; simp only [decide_eq_true_eq, decide_eq_false_iff_not, Bool.not_eq_true, Bool.not_eq_false, Bool.not_true, Bool.not_false] at *; omega)) only [cast_succ, asrt_pos, wrap64_id, Option.bind_some, cond_true, cond_false, decide_eq_true, decide_eq_false, Int.toNat_natCast, Bool.not_true, Bool.not_false, Bool.and_true, Bool.true_and, Bool.and_false, Bool.false_and, Bool.or_true, Bool.true_or, Bool.or_false, Bool.false_or, app_if, List.length_singleton, h2]
    cases ((rulesFor s (l.getD k default).Series).length : Int) == 0 <;> rfl) (fun a ha => by
    unfold M.spec_NotScheduled_l0
    simp (disch := first | omega | (intros; simp only [decide_eq_true_eq, decide_eq_false_iff_not, Bool.not_eq_true, Bool.not_eq_false, Bool.not_true, Bool.not_false] at *; omega)) only [cast_succ, asrt_pos, wrap64_id, Option.bind_some, cond_true, cond_false, decide_eq_true, decide_eq_false, Int.toNat_natCast, Bool.not_true, Bool.not_false, Bool.and_true, Bool.true_and, Bool.and_false, Bool.false_and, Bool.or_true, Bool.true_or, Bool.or_false, Bool.false_or, id])]
  simp only [id, flatMap_if]
  rfl
def NotD (l : List Record) (s : List Rule) : List Int × Bool := bif allOk l s then (notL l s, true) else ([], false)
theorem notI (l : List Record) (s : List Rule) (hl : RecsB l) (hs : s.length < 1000000) : M.impl_NotScheduled l s = some (NotD l s) := by
  unfold M.impl_NotScheduled NotD
  rw [allI l s hl hs, Option.bind_some]
  cases h : allOk l s
  · rfl
  · rw [notLoopI l s hs (allOk_spec h).2.2]; rfl
theorem notS (l : List Record) (s : List Rule) (hl : RecsB l) (hs : s.length < 1000000) : M.spec_NotScheduled l s = some (NotD l s) := by
  unfold M.spec_NotScheduled NotD allOk
  simp only [recsS l hl, schedS s hs, Option.bind_some, bif_some]
  cases h1 : recsOk l
  · rfl
  cases h2 : schedOk s
  · rfl
  have h : allOk l s = true := by unfold allOk; rw [h1, h2]; rfl
  simp only [Bool.not_true, Bool.or_false, cond_false, Bool.and_self, cond_true, notLoopS l s hs (allOk_spec h).2.2, Option.bind_some]
theorem NotD_len {l : List Record} {s : List Rule} (hl : RecsB l) : (NotD l s).1.length < 1000000 := by
  unfold NotD
  cases allOk l s
  · simp
  · have : (notL l s).length ≤ l.length := by unfold notL; rw [List.length_map]; exact List.length_filter_le _ _
    have := hl.1; simp only [cond_true]; omega

/-! ### Draws, and the law -/
theorem good0 {code : List Int} : Good code 0 (⟨code, 0, 0⟩ : Cur) := ⟨rfl, Int.le_refl _, Int.le_refl _⟩

theorem dIsDue {code : List Int} (hb : Bytes code) : T (M.spec_DrawIsDue code) (fun r => RecB r.1 ∧ r.2.1.length < 1000000) := by
  unfold M.spec_DrawIsDue
  refine (drawRecord hb good0 (by omega) 12).then ?_
  rintro ⟨r, c2⟩ ⟨h3, h4⟩
  refine (drawSuited hb h4 (by omega) r).then ?_
  rintro ⟨s, c3⟩ ⟨h5, h6⟩
  simp only at h3 h5 h6
  have hr : RecB r := by unfold RecB; omega
  have hs : s.length < 1000000 := by omega
  simp only [dueDS r s hr hs, l2DayS, Option.bind_some, bif_some]
  have fin : ∀ c4, Good code (0 + 100 + 1200 + 2) c4 → T ((M.spec_l1Cur_day c4).bind fun y6 => some (r, s, y6.1)) (fun r => RecB r.1 ∧ r.2.1.length < 1000000) := by
    intro c4 h7
    exact (drawDay hb h7 (by omega)).then fun q hq => T_ret ⟨hr, hs⟩
  refine T_in ?_
  cases hc : (DueD r s).2 && (bif (DueD r s).2 then inR (DueD r s).1 0 20000 else default)
  · simp only [cond_false, Bool.false_and]
    exact T_ret (fin _ (h6.up (by omega)))
  · simp only [cond_true, Bool.true_and]
    refine T.mono (Q := fun r => Good code (0 + 100 + 1200 + 2) r.2) ((one_ok hb h6 (by omega)).mono fun r hr => hr) ?_
    rintro ⟨b, c4⟩ h7
    refine T_if (fun _ => ?_) (fun _ => fin _ h7)
    exact (pick_ok hb h7 (by omega)).then fun q hq => T_ret ⟨hr, hs⟩

theorem dDueRecords {code : List Int} (hb : Bytes code) : T (M.spec_DrawDueRecords code) (fun r => RecsB r.1 ∧ r.2.1.length < 1000000) := by
  unfold M.spec_DrawDueRecords
  refine (drawHeld hb good0 (by omega)).then ?_
  rintro ⟨l, c2⟩ ⟨h3, h4⟩
  refine (drawSchedule hb h4 (by omega)).then ?_
  rintro ⟨s, c3⟩ ⟨h5, h6⟩
  refine (drawDay hb h6 (by omega)).then ?_
  rintro ⟨d, c4⟩ h7
  refine T_among hb h7 (by omega) (by simp) ?_
  intro x c5 _ _
  exact T_ret ⟨h3, by simp only at h5 ⊢; omega⟩

theorem dNextDue {code : List Int} (hb : Bytes code) : T (M.spec_DrawNextDue code) (fun r => RecsB r.1 ∧ r.2.1.length < 1000000) := by
  unfold M.spec_DrawNextDue
  refine (drawHeld hb good0 (by omega)).then ?_
  rintro ⟨l, c2⟩ ⟨h3, h4⟩
  refine (drawSchedule hb h4 (by omega)).then ?_
  rintro ⟨s, c3⟩ ⟨h5, h6⟩
  refine (drawDay hb h6 (by omega)).then ?_
  rintro ⟨d, c4⟩ h7
  exact T_ret ⟨h3, by simp only at h5 ⊢; omega⟩

theorem dNotScheduled {code : List Int} (hb : Bytes code) : T (M.spec_DrawNotScheduled code) (fun r => RecsB r.1 ∧ r.2.length < 1000000) := by
  unfold M.spec_DrawNotScheduled
  refine (drawHeld hb good0 (by omega)).then ?_
  rintro ⟨l, c2⟩ ⟨h3, h4⟩
  refine (drawSchedule hb h4 (by omega)).then ?_
  rintro ⟨s, c3⟩ ⟨h5, h6⟩
  exact T_ret ⟨h3, by simp only at h5 ⊢; omega⟩

theorem law_FnDue (code : List Int) (h1 : code.length ≤ 9223372036854775807) (h2 : ∀ x, x ∈ code → 0 ≤ x ∧ x ≤ 255) : M.laws_FnDue code = some true := by
  apply T.eq
  unfold M.laws_FnDue M.laws_vBig
  rw [Option.bind_some]
  refine T_if (fun _ => T_ret rfl) (fun hq => ?_)
  simp only [decide_eq_false_iff_not] at hq
  have hb : Bytes code := ⟨by omega, h2⟩
  refine (dIsDue hb).then ?_
  rintro ⟨r, s, d⟩ ⟨hr, hs⟩
  simp only at hr hs
  simp only [isDueI r s d hr hs, isDueS r s d hr hs, dueDI r s hr hs, Option.bind_some, beq_self_eq_true, Bool.not_true, Bool.or_self, cond_false]
  refine T.then (Q := fun e => e = .inl ()) (T_if (fun hm => ?_) (fun _ => T_ret rfl)) ?_
  · cases h : both r s && inR d 0 20000
    · rw [h] at hm; cases hm
    · simp only [Bool.and_eq_true] at h
      unfold DueD
      rw [h.1]
      simp only [Bool.true_and, cond_true]
      by_cases h0 : 0 ≤ (deciding r s).1
      · rw [decide_eq_true h0]
        simp only [cond_true, Bool.true_and, beq_self_eq_true, Bool.not_true, cond_false]
        exact T_ret rfl
      · rw [decide_eq_false h0]
        simp only [cond_false, Bool.false_and, beq_self_eq_true, Bool.not_true]
        exact T_ret rfl
  rintro _ rfl
  dsimp only
  refine (dDueRecords hb).then ?_
  rintro ⟨l, s, d, act⟩ ⟨hl, hs⟩
  simp only at hl hs
  simp only [dueRI l s d act hl hs, dueRS l s d act hl hs, Option.bind_some, beq_self_eq_true, Bool.not_true, cond_false, vInts_self _ (DueR_len hl), Bool.or_self]
  refine (dNextDue hb).then ?_
  rintro ⟨l, s, d⟩ ⟨hl, hs⟩
  simp only at hl hs
  obtain ⟨x, e1, e2, e3⟩ := nextBoth l s d hl hs
  simp only [e1, e2, Option.bind_some, beq_self_eq_true, bne_self_eq_false, Bool.not_true, Bool.or_self, Bool.false_or]
  have hlate : (x.2.2 && decide (x.2.1 ≤ d)) = false := by
    cases hx : x.2.2
    · rfl
    · obtain ⟨_, _, h⟩ := e3 hx
      obtain ⟨k, _, _, _, h4, _⟩ := h.2 rfl
      rw [decide_eq_false (by omega)]; rfl
  rw [hlate, cond_false]
  have hloop : iterO (M.laws_FnDue_l0 (l, s, d) x) (0 : Int) = some (.inl ()) := by
    apply T.eq
    refine T_iter (fun q => ∃ v : Nat, q = (v : Int) ∧ v ≤ l.length) (fun q => l.length - q.toNat) _ ⟨0, rfl, by omega⟩ (by have := hl.1; show l.length - (0 : Int).toNat < _; omega) ?_
    rintro _ ⟨v, rfl, hv0⟩
    have hl1 := hl.1
    unfold M.laws_FnDue_l0
    dsimp only
    refine T_if (fun hv => ?_) (fun hv => T_ret ?_)
    · simp only [Bool.and_eq_true, decide_eq_true_eq] at hv
      have hv' : v < l.length := by omega
      simp only [Int.toNat_natCast]
      obtain ⟨ha, hd0, hN⟩ := e3 hv.2
      obtain ⟨g1, g2, g3⟩ := allOk_spec ha
      have hrv := g1 v hv'
      have hrecB := hl.at hv'
      refine T_ask ⟨by omega, hv.1⟩ ?_
      rw [dueDI _ s hrecB hs, Option.bind_some]
      have hD : DueD (l.getD v default) s = bif decide (0 ≤ (deciding (l.getD v default) s).1) then ((deciding (l.getD v default) s).1, true) else (0, false) := by
        unfold DueD both; rw [hrv, g2]; rfl
      have hno : (((((DueD (l.getD v default) s).2 && decide ((DueD (l.getD v default) s).1 > d)) && decide ((DueD (l.getD v default) s).1 < x.2.1))) || (((l.getD v default).Id == x.1) && (!(DueD (l.getD v default) s).2 || ((DueD (l.getD v default) s).1 != x.2.1)))) = false := by
        rw [Bool.or_eq_false_iff]
        constructor
        · by_cases h0 : 0 ≤ (deciding (l.getD v default) s).1
          · rw [hD, decide_eq_true h0]
            simp only [cond_true, Bool.true_and]
            by_cases hgt : (deciding (l.getD v default) s).1 > d
            · have := (hN.1 v hv' hgt).2
              rw [decide_eq_false (show ¬ (deciding (l.getD v default) s).1 < x.2.1 by omega), Bool.and_false]
            · rw [decide_eq_false hgt]; rfl
          · rw [hD, decide_eq_false h0]; rfl
        · cases hid : ((l.getD v default).Id == x.1)
          · rfl
          · obtain ⟨k, k1, k2, k3, k4, _⟩ := hN.2 rfl
            have hkv : v = k := by
              unfold allOk recsOk at ha
              simp only [Bool.and_eq_true] at ha
              have key := rise_key ha.1.1 (·.Id) (fun a b hab => by simp only [decide_eq_false_iff_not] at hab; omega)
              rw [beq_iff_eq] at hid
              rcases Nat.lt_trichotomy v k with g | g | g
              · have := key v k g k1; omega
              · exact g
              · have := key k v g hv'; omega
            subst hkv
            have h0 : 0 ≤ (deciding (l.getD v default) s).1 := by omega
            rw [hD, decide_eq_true h0]
            simp only [cond_true, k3, bne_self_eq_false]; rfl
      refine T_ask (fun _ => ⟨by omega, hv.1⟩) ?_
      rw [hno, cond_false]
      refine T_ret ?_
      simp only
      rw [wrap64_id (by omega) (by omega)]
      exact ⟨⟨v + 1, by omega, by omega⟩, by omega⟩
    · rfl
  rw [hloop, Option.bind_some]
  dsimp only
  refine (dNotScheduled hb).then ?_
  rintro ⟨l, s⟩ ⟨hl, hs⟩
  simp only at hl hs
  simp only [notI l s hl hs, notS l s hl hs, Option.bind_some, beq_self_eq_true, cond_true, vInts_self _ (NotD_len hl), Bool.true_and]
  exact T_ret rfl

end Go.Proofs.Ythffmnpbonkpaaa
