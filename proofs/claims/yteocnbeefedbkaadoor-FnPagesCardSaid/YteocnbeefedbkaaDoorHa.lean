/-
  Records and schedules: what the models of the program and of the reference answer. Plain.
-/
import Derived.Test.YteocnbeefedbkaaDoorPq
import Derived.Test.YteocnbeefedbkaaDoorPf
set_option linter.unusedSimpArgs false
set_option linter.unusedVariables false
namespace Go.Proofs.YteocnbeefedbkaaDoor
open Go.VS

def inR (x a b : Int) : Bool := decide (a ≤ x) && decide (x ≤ b)
theorem inR_true {x a b : Int} : inR x a b = true ↔ a ≤ x ∧ x ≤ b := by simp [inR]
theorem withinI (n l h : Int) : M.impl_within n l h = some (inR n l h) := rfl
theorem isDayI (n : Int) : M.impl_isDay n = some (inR n 0 20000) := rfl
theorem isIdI (n : Int) : M.impl_isId n = some (inR n 1 99) := rfl
theorem l1InS (n l h : Int) : M.spec_l1In n l h = some (inR n l h) := rfl
theorem l2DayS (n : Int) : M.spec_l2Day n = some (inR n 0 20000) := rfl

theorem toNat_pred (k : Nat) : ((k : Int) - 1).toNat = k - 1 := by omega
theorem bif_some {β : Type} (c : Bool) (x y : β) : (bif c then some x else some y) = some (bif c then x else y) := by cases c <;> rfl
theorem iter_rise {step : Int → Option (Int ⊕ (Unit ⊕ Bool))} {n : Nat} {bad : Nat → Bool} (hn : n < 1000000000000)
    (hs : ∀ k, k < n → step (k : Int) = some (bif bad k then .inr (.inr false) else .inl ((k : Int) + 1))) (he : step (n : Int) = some (.inr (.inl ()))) :
    iterO step 0 = some (bif (List.range n).any bad then .inr false else .inl ()) :=
  iter_any (step := step) (s := 0) (fun k => (k : Int)) n bad (.inr false) (.inl ()) rfl hn (fun k hk hp => by rw [hs k hk, hp]; simp) (fun k hk hp => by rw [hs k hk, hp]; rfl) he

theorem getD_el {β : Type} [Inhabited β] {l : List β} {k : Nat} (h : k < l.length) : l.getD k default = l[k] := by simp [List.getD, h]

end Go.Proofs.YteocnbeefedbkaaDoor
