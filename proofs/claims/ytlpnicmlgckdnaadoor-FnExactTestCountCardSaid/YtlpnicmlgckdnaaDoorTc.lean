/-
  The cursor of the draws in the form in which a walk over a draw uses it. Plain.
-/
import Derived.Test.YtlpnicmlgckdnaaDoorPq
import Derived.Test.YtlpnicmlgckdnaaDoorPf
set_option linter.unusedSimpArgs false
set_option linter.unusedVariables false
namespace Go.Proofs.YtlpnicmlgckdnaaDoor
open Go.VS

section
variable {β : Type} {Q : β → Prop}
/-- A call that is made only if c holds. -/
theorem T_gcall {γ : Type} {b : Bool} {m : Option γ} {z : γ} {f : γ → Option β} (h1 : b = true → T (m.bind f) Q) (h2 : b = false → T (f z) Q) : T ((bif b then m else some z).bind f) Q := by
  cases b
  · exact h2 rfl
  · exact h1 rfl
theorem T_gcall' {γ : Type} {b : Bool} {m : Option γ} {z : γ} {f : γ → Option β} (h1 : b = true → T (f z) Q) (h2 : b = false → T (m.bind f) Q) : T ((bif b then some z else m).bind f) Q := by
  cases b
  · exact h2 rfl
  · exact h1 rfl
theorem T_ask {P : Prop} [Decidable P] {m : Option β} (h : P) (h' : T m Q) : T (asrt P m) Q := T_asrt.2 ⟨h, h'⟩
theorem T_if {b : Bool} {m n : Option β} (h1 : b = true → T m Q) (h2 : b = false → T n Q) : T (bif b then m else n) Q := T_bif.2 ⟨h1, h2⟩
theorem T_in {γ : Type} {m : Option γ} {f : γ → Option β} (h : T m (fun x => T (f x) Q)) : T (m.bind f) Q := T_bind.2 h
theorem T_ret {x : β} (h : Q x) : T (some x) Q := T_some.2 h
theorem T_eq {γ : Type} {m : Option γ} {x : γ} {f : γ → Option β} (h : m = some x) (h' : T (f x) Q) : T (m.bind f) Q := by rw [h]; exact h'
end
end Go.Proofs.YtlpnicmlgckdnaaDoor
