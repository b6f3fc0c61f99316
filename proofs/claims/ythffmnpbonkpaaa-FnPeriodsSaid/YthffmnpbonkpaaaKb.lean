/-
  An event added; due after it; the plain law of 'periods'. Plain.
-/
import Derived.Test.YthffmnpbonkpaaaKa
set_option linter.unusedSimpArgs false
set_option linter.unusedVariables false
namespace Go.Proofs.Ythffmnpbonkpaaa
open Go.VS

/-- The place of an event among the others. -/
theorem placeE (r : Record) (e : Event) (hl : r.Events.length < 1000000) : T (iterO (M.impl_AddEvent_l0 r e) 0) (fun i => ∃ p : Nat, i = (p : Int) ∧ p ≤ r.Events.length ∧ (∀ j, j < p → (r.Events.getD j default).Kind < e.Kind) ∧ (p < r.Events.length → e.Kind ≤ (r.Events.getD p default).Kind)) := by
  refine T_iter (fun i => ∃ p : Nat, i = (p : Int) ∧ p ≤ r.Events.length ∧ ∀ j, j < p → (r.Events.getD j default).Kind < e.Kind) (fun i => r.Events.length - i.toNat) _ ⟨0, rfl, Nat.zero_le _, fun j h => absurd h (by omega)⟩ (by omega) ?_
  rintro _ ⟨p, rfl, g1, g2⟩
  unfold M.impl_AddEvent_l0
  try dsimp only
  refine T_ask (fun h => ⟨by omega, of_decide_eq_true h⟩) (T_if (fun hq => ?_) (fun hq => ?_))
  · simp only [Bool.and_eq_true, decide_eq_true_eq, Int.toNat_natCast] at hq
    rw [wrap64_id (n := (p : Int) + 1) (by omega) (by omega)]
    refine T_ret ⟨⟨p + 1, by omega, by omega, fun j hj => ?_⟩, by omega⟩
    by_cases h : j = p
    · subst h; exact hq.2
    · exact g2 j (by omega)
  · simp only [Bool.and_eq_false_iff, decide_eq_false_iff_not, Int.toNat_natCast] at hq
    exact T_ret ⟨p, rfl, g1, g2, fun h => by rcases hq with hq | hq <;> omega⟩

def noRec : Record := ⟨0, 0, 0, []⟩
def insE (r : Record) (e : Event) (p : Nat) : Record := ⟨r.Id, r.Series, r.Made, r.Events.take p ++ [e] ++ r.Events.drop p⟩
theorem insE_len {r : Record} {e : Event} {p : Nat} : (insE r e p).Events.length = r.Events.length + 1 := by
  simp only [insE, List.length_append, List.length_take, List.length_drop, List.length_singleton]
  omega

theorem addI (r : Record) (e : Event) (hr : r.Events.length < 100000) {p : Nat} (hp : iterO (M.impl_AddEvent_l0 r e) 0 = some (p : Int)) (hpl : p ≤ r.Events.length) :
    M.impl_AddEvent r e = some (bif (recOk r && evOk e) && recOk (insE r e p) then (insE r e p, true) else (noRec, false)) := by
  unfold M.impl_AddEvent
  simp only [recI r (by omega), evI, Option.bind_some, bif_some]
  cases h1 : recOk r
  · rfl
  cases h2 : evOk e
  · rfl
  simp only [Bool.not_true, cond_false, Bool.or_self, hp, Option.bind_some]
  unfold M.slices_Clone_impl_Event_impl_Event M.slices_Insert_impl_Event_impl_Event
  rw [asrt_pos (by omega), Option.bind_some, asrt_pos ⟨by omega, by omega, by omega, rfl⟩, Option.bind_some]
  simp only [Option.bind_some, Int.toNat_natCast]
  have h3 := recI (insE r e p) (by rw [insE_len]; omega)
  unfold insE at h3 ⊢
  rw [h3, Option.bind_some]
  cases recOk _ <;> rfl

theorem slc_l {β : Type} {l : List β} {p : Nat} : slc l 0 (p : Int) = l.take p := by simp [slc]
theorem slc_r {β : Type} {l : List β} {p : Nat} : slc l (p : Int) (l.length : Int) = l.drop p := by simp [slc]

theorem addS (r : Record) (e : Event) (hr : r.Events.length < 100000) {p : Nat} (hp : iterO (M.impl_AddEvent_l0 r e) 0 = some (p : Int)) (hpl : p ≤ r.Events.length) :
    M.spec_AddEvent r e = some (bif ((recOk r && evOk e) && !decide (dayOf r e.Kind ≥ 0)) && recOk (insE r e p) then (insE r e p, true) else (noRec, false)) := by
  have hp' : iterO (M.spec_AddEvent_l0 r e) 0 = some (p : Int) := hp
  unfold M.spec_AddEvent
  simp only [recS r (by omega), evS, dayS r e.Kind (by omega), Option.bind_some, bif_some]
  cases h1 : recOk r
  · rfl
  cases h2 : evOk e
  · rfl
  simp only [Bool.not_true, cond_false, Bool.or_self, Bool.false_or, Bool.and_self, Bool.true_and]
  cases h3 : decide (dayOf r e.Kind ≥ 0)
  · have ht : (r.Events.take p).length = p := by rw [List.length_take]; omega
    have hd : (r.Events.drop p).length = r.Events.length - p := List.length_drop
    simp only [cond_false, hp', Option.bind_some, slc_l, slc_r, List.nil_append, Bool.not_false, Bool.true_and]
    rw [asrt_pos ⟨by omega, by omega, by omega⟩, asrt_pos (by rw [ht]; simp; omega), asrt_pos (by rw [ht]; simp; omega), asrt_pos ⟨by omega, by omega, by omega⟩, asrt_pos (by rw [List.length_append, ht, hd]; simp; omega)]
    have h4 := recS (insE r e p) (by rw [insE_len]; omega)
    unfold insE at h4 ⊢
    simp only [Option.bind_some, h4]
    cases recOk _ <;> rfl
  · rfl

theorem insE_at {r : Record} {e : Event} {p : Nat} (hpl : p ≤ r.Events.length) : (insE r e p).Events.getD p default = e := by
  have ht : (r.Events.take p).length = p := by rw [List.length_take]; omega
  simp only [insE, List.getD]
  rw [List.append_assoc, List.getElem?_append_right (by omega), ht, Nat.sub_self]
  rfl
theorem insE_behind {r : Record} {e : Event} {p k : Nat} (hpl : p ≤ r.Events.length) (hk : p ≤ k) : (insE r e p).Events.getD (k + 1) default = r.Events.getD k default := by
  have ht : (r.Events.take p).length = p := by rw [List.length_take]; omega
  have ht2 : (r.Events.take p ++ [e]).length = p + 1 := by rw [List.length_append, ht]; rfl
  simp only [insE, List.getD]
  rw [List.getElem?_append_right (by omega), ht2, List.getElem?_drop, show p + (k + 1 - (p + 1)) = k by omega]

theorem dupNo {r : Record} {e : Event} {p : Nat} (he : evOk e = true) (h3 : dayOf r e.Kind ≥ 0) (hpl : p ≤ r.Events.length) (hb : ∀ j, j < p → (r.Events.getD j default).Kind < e.Kind) : recOk (insE r e p) = false := by
  cases h : recOk (insE r e p)
  · rfl
  exfalso
  have hk : e.Kind ≠ 0 := by
    unfold evOk at he
    simp only [Bool.and_eq_true, inR_true] at he
    omega
  unfold dayOf at h3
  rw [if_neg hk] at h3
  split at h3
  · rename_i x hx
    have hm := List.mem_of_find?_eq_some hx
    have hkx := List.find?_some hx
    simp only [beq_iff_eq] at hkx
    obtain ⟨k, hk1, hk2⟩ := List.getElem_of_mem hm
    have e1 : r.Events.getD k default = x := by rw [← hk2]; simp [List.getD, hk1]
    have hpk : p ≤ k := by
      by_cases q : p ≤ k
      · exact q
      · have := hb k (by omega)
        rw [e1] at this
        omega
    have r2 : evsOk (insE r e p) = true := by
      unfold recOk at h
      simp only [Bool.and_eq_true] at h
      exact h.2
    unfold evsOk at r2
    have key := rise_key r2 (fun e => e.Kind) (fun a b hq => by simpa using hq) p (k + 1) (by omega) (by rw [insE_len]; omega)
    rw [insE_at hpl, insE_behind hpl hpk, e1] at key
    omega
  · omega

def AddX (r : Record) (e : Event) (p : Nat) : Record × Bool := bif (recOk r && evOk e) && recOk (insE r e p) then (insE r e p, true) else (noRec, false)
theorem addBoth (r : Record) (e : Event) (hr : r.Events.length < 100000) : ∃ p : Nat, p ≤ r.Events.length ∧ (∀ j, j < p → (r.Events.getD j default).Kind < e.Kind) ∧ (p < r.Events.length → e.Kind ≤ (r.Events.getD p default).Kind) ∧
    M.impl_AddEvent r e = some (AddX r e p) ∧ M.spec_AddEvent r e = some (AddX r e p) ∧ ((AddX r e p).2 = true → dayOf r e.Kind < 0) := by
  obtain ⟨i, hi, p, rfl, g1, g2, g3⟩ := placeE r e (by omega)
  refine ⟨p, g1, g2, g3, addI r e hr hi g1, ?_, fun h => ?_⟩
  · rw [addS r e hr hi g1]
    unfold AddX
    cases h1 : recOk r
    · rfl
    cases h2 : evOk e
    · rfl
    cases h3 : decide (dayOf r e.Kind ≥ 0)
    · rfl
    · rw [dupNo h2 (of_decide_eq_true h3) g1 g2]
      rfl
  · unfold AddX at h
    cases h1 : (recOk r && evOk e) && recOk (insE r e p)
    · rw [h1] at h; cases h
    · simp only [Bool.and_eq_true] at h1
      by_cases q : dayOf r e.Kind < 0
      · exact q
      · have := dupNo (r := r) h1.1.2 (by omega) g1 g2
        rw [h1.2] at this
        cases this
end Go.Proofs.Ythffmnpbonkpaaa
