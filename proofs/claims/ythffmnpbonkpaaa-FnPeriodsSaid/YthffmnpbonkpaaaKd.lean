/-
  What the deciding rule is; an event added does not turn what has begun to run. Plain.
-/
import Derived.Test.YthffmnpbonkpaaaKc
set_option linter.unusedSimpArgs false
set_option linter.unusedVariables false
namespace Go.Proofs.Ythffmnpbonkpaaa
open Go.VS

theorem dec_spec {r : Record} {s : List Rule} (h : 0 ≤ (deciding r s).1) : (∀ u ∈ rulesFor s r.Series, waitB r u = false) ∧ ∃ u ∈ rulesFor s r.Series, deciding r s = (endOf r u, u) ∧ ∀ v ∈ rulesFor s r.Series, endOf r v ≤ (deciding r s).1 := by
  by_cases hw : ∃ u ∈ rulesFor s r.Series, waitB r u = true
  · have e : deciding r s = (-1, noRule) := decF_wait _ _ hw
    rw [e] at h
    simp only at h
    omega
  · have hn : ∀ u ∈ rulesFor s r.Series, waitB r u = false := fun u hu => by
      cases q : waitB r u
      · rfl
      · exact absurd ⟨u, hu, q⟩ hw
    obtain ⟨g1, g2, g3⟩ := decF_top (rulesFor s r.Series) (-1, noRule) hn
    refine ⟨hn, ?_⟩
    rcases g1 with g1 | ⟨u, hu, g1⟩
    · have e : deciding r s = (-1, noRule) := g1
      rw [e] at h
      simp only at h
      omega
    · exact ⟨u, hu, g1, g3⟩
theorem dec_none {r : Record} {s : List Rule} (h : ¬ 0 ≤ (deciding r s).1) : (∃ u ∈ rulesFor s r.Series, waitB r u = true) ∨ rulesFor s r.Series = [] := by
  by_cases hw : ∃ u ∈ rulesFor s r.Series, waitB r u = true
  · exact .inl hw
  · right
    have hn : ∀ u ∈ rulesFor s r.Series, waitB r u = false := fun u hu => by
      cases q : waitB r u
      · rfl
      · exact absurd ⟨u, hu, q⟩ hw
    obtain ⟨g1, g2, g3⟩ := decF_top (rulesFor s r.Series) (-1, noRule) hn
    cases hq : rulesFor s r.Series with
    | nil => rfl
    | cons u t =>
      exfalso
      have hm : u ∈ rulesFor s r.Series := by rw [hq]; exact List.mem_cons_self ..
      have h1 := g3 u hm
      have h2 := hn u hm
      unfold waitB at h2
      simp only [decide_eq_false_iff_not] at h2
      have h3 : (deciding r s).1 = (forE (decB r) id (rulesFor s r.Series) (-1, noRule)).1 := rfl
      omega

theorem dueFlag (r : Record) (s : List Rule) : (DueD r s).2 = (((EndsD r s).2 && decide (((EndsD r s).1.length : Int) > 0)) && (((WaitsD r s).1.length : Int) == 0)) := by
  unfold DueD EndsD WaitsD
  cases h : both r s
  · rfl
  simp only [Bool.true_and, cond_true]
  by_cases h0 : 0 ≤ (deciding r s).1
  · obtain ⟨hn, u, hu, _⟩ := dec_spec h0
    have e1 : (waitsL r s).length = 0 := by
      unfold waitsL
      rw [List.length_map, List.filter_eq_nil_iff.2 (fun u hu => by rw [hn u hu]; simp)]
      rfl
    have e2 : 0 < (endsL r s).length := by
      unfold endsL
      rw [List.length_map]
      exact List.length_pos_of_mem hu
    rw [decide_eq_true h0, cond_true, e1, decide_eq_true (show ((endsL r s).length : Int) > 0 by omega)]
    rfl
  · rw [decide_eq_false h0, cond_false]
    rcases dec_none h0 with ⟨u, hu, hw⟩ | h1
    · have e1 : 0 < (waitsL r s).length := by
        unfold waitsL
        rw [List.length_map]
        exact List.length_pos_of_mem (List.mem_filter.2 ⟨hu, hw⟩)
      rw [show (((waitsL r s).length : Int) == 0) = false by rw [beq_eq_false_iff_ne]; omega, Bool.and_false]
    · unfold endsL
      rw [h1]
      rfl

theorem dayOf_ins {r : Record} {e : Event} {p : Nat} {kind : Int} (hk : kind ≠ e.Kind) : dayOf (insE r e p) kind = dayOf r kind := by
  have h : (insE r e p).Events.find? (fun x => x.Kind == kind) = r.Events.find? (fun x => x.Kind == kind) := by
    have e1 : r.Events.find? (fun x => x.Kind == kind) = (r.Events.take p ++ r.Events.drop p).find? (fun x => x.Kind == kind) := by rw [List.take_append_drop]
    have e2 : [e].find? (fun x => x.Kind == kind) = none := by simp [Ne.symm hk]
    rw [e1]
    simp only [insE, List.find?_append, e2, Option.or_none]
  unfold dayOf
  rw [h]
  rfl

theorem forE_congr {A E β : Type} {b b' : A → β → A ⊕ E} {off : A → E} : ∀ (l : List β) (a : A), (∀ x ∈ l, ∀ a, b a x = b' a x) → forE b off l a = forE b' off l a
  | [], a, _ => rfl
  | x :: t, a, h => by
    simp only [forE, h x (List.mem_cons_self ..) a]
    cases b' a x with
    | inl a' => exact forE_congr t a' fun y hy => h y (List.mem_cons_of_mem _ hy)
    | inr e => rfl

/-- Where nothing waits, an event more turns nothing. -/
theorem dec_ins {r : Record} {s : List Rule} {e : Event} {p : Nat} (h : 0 ≤ (deciding r s).1) (hd : dayOf r e.Kind < 0) : deciding (insE r e p) s = deciding r s := by
  obtain ⟨hn, _⟩ := dec_spec h
  unfold deciding
  refine forE_congr _ _ fun u hu a => ?_
  have h1 := hn u hu
  have hne : u.Event ≠ e.Kind := by
    intro q
    unfold waitB endOf at h1
    rw [q, decide_eq_true hd] at h1
    cases h1
  have h2 : endOf (insE r e p) u = endOf r u := by unfold endOf; rw [dayOf_ins hne]
  unfold decB
  rw [h2]
end Go.Proofs.Ythffmnpbonkpaaa
