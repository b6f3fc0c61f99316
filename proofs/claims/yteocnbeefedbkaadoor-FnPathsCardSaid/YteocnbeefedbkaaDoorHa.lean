/-
  Records and schedules: what the models of the program and of the reference answer. Plain.
-/
import Derived.Test.YteocnbeefedbkaaDoorPq
import Derived.Test.YteocnbeefedbkaaDoorPf
set_option linter.unusedSimpArgs false
set_option linter.unusedVariables false
namespace Go.Proofs.YteocnbeefedbkaaDoor
open Go.VS

def inR (x a b : Int) : Bool := decide (a ≤ x) && decide (x ≤ b)
theorem inR_true {x a b : Int} : inR x a b = true ↔ a ≤ x ∧ x ≤ b := by simp [inR]
theorem withinI (n l h : Int) : M.impl_within n l h = some (inR n l h) := rfl
theorem isDayI (n : Int) : M.impl_isDay n = some (inR n 0 20000) := rfl
theorem l1InS (n l h : Int) : M.spec_l1In n l h = some (inR n l h) := rfl
theorem l2DayS (n : Int) : M.spec_l2Day n = some (inR n 0 20000) := rfl

theorem toNat_pred (k : Nat) : ((k : Int) - 1).toNat = k - 1 := by omega
theorem bif_some {β : Type} (c : Bool) (x y : β) : (bif c then some x else some y) = some (bif c then x else y) := by cases c <;> rfl
theorem iter_rise {step : Int → Option (Int ⊕ (Unit ⊕ Bool))} {n : Nat} {bad : Nat → Bool} (hn : n < 1000000000000)
    (hs : ∀ k, k < n → step (k : Int) = some (bif bad k then .inr (.inr false) else .inl ((k : Int) + 1))) (he : step (n : Int) = some (.inr (.inl ()))) :
    iterO step 0 = some (bif (List.range n).any bad then .inr false else .inl ()) :=
  iter_any (step := step) (s := 0) (fun k => (k : Int)) n bad (.inr false) (.inl ()) rfl hn (fun k hk hp => by rw [hs k hk, hp]; simp) (fun k hk hp => by rw [hs k hk, hp]; rfl) he

def riseB {β : Type} [Inhabited β] (p : β → Bool) (q : β → β → Bool) (l : List β) (k : Nat) : Bool := p (l.getD k default) || (decide ((k : Int) > 0) && q (l.getD (k - 1) default) (l.getD k default))
def rise {β : Type} [Inhabited β] (p : β → Bool) (q : β → β → Bool) (l : List β) : Bool := !(List.range l.length).any (riseB p q l)

theorem rise_iff {β : Type} [Inhabited β] {p : β → Bool} {q : β → β → Bool} {l : List β} : rise p q l = true ↔ (∀ k, k < l.length → p (l.getD k default) = false) ∧ ∀ k, 0 < k → k < l.length → q (l.getD (k - 1) default) (l.getD k default) = false := by
  unfold rise
  simp only [Bool.not_eq_true', List.any_eq_false, List.mem_range, Bool.not_eq_true]
  constructor
  · intro h
    constructor
    · intro k hk
      have := h k hk
      simp only [riseB, Bool.or_eq_false_iff] at this
      exact this.1
    · intro k h0 hk
      have := h k hk
      simp only [riseB, Bool.or_eq_false_iff, Bool.and_eq_false_iff, decide_eq_false_iff_not] at this
      rcases this.2 with h1 | h1
      · omega
      · exact h1
  · intro h k hk
    simp only [riseB, Bool.or_eq_false_iff, Bool.and_eq_false_iff, decide_eq_false_iff_not]
    refine ⟨h.1 k hk, ?_⟩
    by_cases h0 : 0 < k
    · exact .inr (h.2 k h0 hk)
    · left; omega

theorem getD_el {β : Type} [Inhabited β] {l : List β} {k : Nat} (h : k < l.length) : l.getD k default = l[k] := by simp [List.getD, h]

end Go.Proofs.YteocnbeefedbkaaDoor
