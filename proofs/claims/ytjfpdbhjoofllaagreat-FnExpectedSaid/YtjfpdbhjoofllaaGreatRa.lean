/-
  Rules put and dropped: both sides say the same. Plain.
-/
import Derived.Test.YtjfpdbhjoofllaaGreatHc
set_option linter.unusedSimpArgs false
set_option linter.unusedVariables false
namespace Go.Proofs.YtjfpdbhjoofllaaGreat
open Go.VS

theorem before_iff {a b : Rule} : before a b = true ↔ a.Series < b.Series ∨ (a.Series = b.Series ∧ a.Event < b.Event) := by simp [before]
theorem schedOk_iff {l : List Rule} : schedOk l = true ↔ (∀ r ∈ l, ruleOk r = true) ∧ l.Pairwise (fun a b => before a b = true) ∧ l.length ≤ 8 := by
  unfold schedOk
  rw [Bool.and_eq_true, rise_pw (fun a b c h1 h2 => by
    simp only [Bool.not_eq_false', before_iff] at h1 h2 ⊢
    omega)]
  simp only [Bool.not_eq_false', decide_eq_true_eq, and_assoc]

end Go.Proofs.YtjfpdbhjoofllaaGreat
