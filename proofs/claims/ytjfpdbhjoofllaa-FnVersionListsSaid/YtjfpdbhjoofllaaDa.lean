/-
  Due days of records: the plain law of 'due'. Plain.
-/
import Derived.Test.YtjfpdbhjoofllaaHd
set_option linter.unusedSimpArgs false
set_option linter.unusedVariables false
namespace Go.Proofs.Ytjfpdbhjoofllaa
open Go.VS
def NextP (l : List Record) (s : List Rule) (d : Int) (n : Nat) (none : Bool) (id due : Int) : Prop :=
  (∀ j, j < n → d < (deciding (l.getD j default) s).1 → none = false ∧ due ≤ (deciding (l.getD j default) s).1) ∧
  (none = false → ∃ k, k < n ∧ (l.getD k default).Id = id ∧ (deciding (l.getD k default) s).1 = due ∧ d < due ∧ ∀ j, j < k → d < (deciding (l.getD j default) s).1 → due < (deciding (l.getD j default) s).1)
theorem NextP.one {l : List Record} {s : List Rule} {d : Int} {n : Nat} {b b' : Bool} {i i' e e' : Int} (h : NextP l s d n b i e) (h' : NextP l s d n b' i' e') : b = b' ∧ (b = false → i = i' ∧ e = e') := by
  have key : ∀ {b b' : Bool} {i i' e e' : Int}, NextP l s d n b i e → NextP l s d n b' i' e' → b = false → b' = false ∧ e' ≤ e := by
    intro b b' i i' e e' h h' hb
    obtain ⟨k, h1, h2, h3, h4, _⟩ := h.2 hb
    obtain ⟨g1, g2⟩ := h'.1 k h1 (by omega)
    exact ⟨g1, by omega⟩
  have hb : b = b' := by
    cases b with
    | false => exact (key h h' rfl).1.symm
    | true => cases b' with
      | false => exact absurd (key h' h rfl).1 (by simp)
      | true => rfl
  subst hb
  refine ⟨rfl, fun hb => ?_⟩
  have e1 := (key h h' hb).2
  have e2 := (key h' h hb).2
  have ee : e = e' := by omega
  subst ee
  obtain ⟨k, h1, h2, h3, h4, h5⟩ := h.2 hb
  obtain ⟨k', g1, g2, g3, g4, g5⟩ := h'.2 hb
  have : k = k' := by
    rcases Nat.lt_trichotomy k k' with q | q | q
    · have := g5 k q (by omega); omega
    · exact q
    · have := h5 k' q (by omega); omega
  subst this
  exact ⟨by omega, rfl⟩
theorem NextP.step {l : List Record} {s : List Rule} {d : Int} {n : Nat} {b : Bool} {i e : Int} (h : NextP l s d n b i e) :
    (d < (deciding (l.getD n default) s).1 → (b = true ∨ (deciding (l.getD n default) s).1 < e) → NextP l s d (n + 1) false (l.getD n default).Id (deciding (l.getD n default) s).1) ∧
    (¬(d < (deciding (l.getD n default) s).1 ∧ (b = true ∨ (deciding (l.getD n default) s).1 < e)) → NextP l s d (n + 1) b i e) := by
  obtain ⟨h1, h2⟩ := h
  constructor
  · intro g1 g2
    refine ⟨fun j hj hd => ⟨rfl, ?_⟩, fun _ => ⟨n, by omega, rfl, rfl, g1, fun j hj hd => ?_⟩⟩
    · by_cases hjn : j < n
      · obtain ⟨q1, q2⟩ := h1 j hjn hd
        rcases g2 with g2 | g2
        · rw [q1] at g2; cases g2
        · omega
      · obtain rfl : j = n := by omega
        exact Int.le_refl _
    · obtain ⟨q1, q2⟩ := h1 j hj hd
      rcases g2 with g2 | g2
      · rw [q1] at g2; cases g2
      · omega
  · intro g
    refine ⟨fun j hj hd => ?_, fun hb => ?_⟩
    · by_cases hjn : j < n
      · exact h1 j hjn hd
      · obtain rfl : j = n := by omega
        cases b with
        | true => exact absurd ⟨hd, .inl rfl⟩ g
        | false => exact ⟨rfl, Int.not_lt.1 fun hc => g ⟨hd, .inr hc⟩⟩
    · obtain ⟨k, q1, q2, q3, q4, q5⟩ := h2 hb
      exact ⟨k, by omega, q2, q3, q4, q5⟩
end Go.Proofs.Ytjfpdbhjoofllaa
