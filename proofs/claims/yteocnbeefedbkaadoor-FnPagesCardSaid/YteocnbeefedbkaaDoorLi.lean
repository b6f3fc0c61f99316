/-
  Lists of numbers: elements deleted, put to their places, lists in order. Plain.
-/
import Derived.Test.YteocnbeefedbkaaDoorTc
import Derived.Test.YteocnbeefedbkaaDoorHb
set_option linter.unusedSimpArgs false
set_option linter.unusedVariables false
namespace Go.Proofs.YteocnbeefedbkaaDoor
open Go.VS

theorem strict_ext : ∀ {a b : List Int}, a.Pairwise (· < ·) → b.Pairwise (· < ·) → (∀ y, y ∈ a ↔ y ∈ b) → a = b
  | [], [], _, _, _ => rfl
  | [], y :: t, _, _, h => absurd ((h y).2 (by simp)) (by simp)
  | x :: s, [], _, _, h => absurd ((h x).1 (by simp)) (by simp)
  | x :: s, y :: t, ha, hb, h => by
    obtain ⟨a1, a2⟩ := List.pairwise_cons.1 ha
    obtain ⟨b1, b2⟩ := List.pairwise_cons.1 hb
    have hxy : x = y := by
      have h1 := (h x).1 (by simp)
      have h2 := (h y).2 (by simp)
      rcases List.mem_cons.1 h1 with e | e
      · exact e
      · rcases List.mem_cons.1 h2 with f | f
        · exact f.symm
        · have := b1 x e; have := a1 y f; omega
    subst hxy
    congr 1
    refine strict_ext a2 b2 fun z => ?_
    have hz := h z
    rw [List.mem_cons, List.mem_cons] at hz
    constructor
    · intro g
      rcases hz.1 (.inr g) with e | e
      · have := a1 z g; omega
      · exact e
    · intro g
      rcases hz.2 (.inr g) with e | e
      · have := b1 z g; omega
      · exact e

end Go.Proofs.YteocnbeefedbkaaDoor
