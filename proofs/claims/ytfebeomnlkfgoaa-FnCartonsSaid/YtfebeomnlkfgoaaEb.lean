/-
  Cartons: lists to pull, loads of rooms, empty cartons, what is free. Plain.
-/
import Derived.Test.YtfebeomnlkfgoaaEa
set_option linter.unusedSimpArgs false
set_option linter.unusedVariables false
namespace Go.Proofs.Ytfebeomnlkfgoaa
open Go.VS
structure PullS (l : List Carton) (files : List Int) (k : Nat) (I : List Int) : Prop where
  nd : I.Nodup
  mem : ∀ x, x ∈ I ↔ ∃ j, j < k ∧ idx l (files.getD j default) = x
  ok : ∀ j, j < k → 0 ≤ idx l (files.getD j default)
theorem PullS.bd {l : List Carton} {files : List Int} {k : Nat} {I : List Int} (h : PullS l files k I) : ∀ i ∈ I, 0 ≤ i ∧ i < (l.length : Int) := by
  intro i hi
  obtain ⟨j, hj, rfl⟩ := (h.mem i).1 hi
  exact ⟨h.ok j hj, idx_bd.2⟩
theorem PullS.nil {l : List Carton} {files : List Int} : PullS l files 0 [] := ⟨List.Pairwise.nil, fun x => by simp, fun j h => absurd h (Nat.not_lt_zero _)⟩
theorem PullS.step {l : List Carton} {files : List Int} {k : Nat} {I J : List Int} (h : PullS l files k I) (h0 : 0 ≤ idx l (files.getD k default)) (hn : J.Nodup) (hm : ∀ x, x ∈ J ↔ x = idx l (files.getD k default) ∨ x ∈ I) : PullS l files (k + 1) J := by
  refine ⟨hn, fun x => (hm x).trans ?_, fun j hj => ?_⟩
  · rw [h.mem]
    constructor
    · rintro (e | ⟨j, hj, e⟩)
      · exact ⟨k, by omega, e.symm⟩
      · exact ⟨j, by omega, e⟩
    · rintro ⟨j, hj, e⟩
      by_cases q : j = k
      · subst q; exact .inl e.symm
      · exact .inr ⟨j, by omega, e⟩
  · by_cases q : j = k
    · subst q; exact h0
    · exact h.ok j (by omega)
theorem PullS.len {l : List Carton} {files : List Int} {k : Nat} {I : List Int} (h : PullS l files k I) : I.length ≤ l.length := by
  have key : ∀ (m : Nat) (J : List Int), J.Nodup → (∀ x ∈ J, 0 ≤ x ∧ x < (m : Int)) → J.length ≤ m := by
    intro m
    induction m with
    | zero =>
      intro J _ hJ
      cases J with
      | nil => simp
      | cons x t => have := hJ x (by simp); omega
    | succ m ih =>
      intro J hn hJ
      have h1 := ih (J.erase (m : Int)) (hn.erase _) (fun x hx => by
        have h2 := (hn.mem_erase_iff).1 hx
        have := hJ x h2.2
        omega)
      by_cases hm : (m : Int) ∈ J
      · rw [List.length_erase_of_mem hm] at h1; omega
      · rw [List.erase_of_not_mem hm] at h1; omega
  exact key _ _ h.nd h.bd
def FreeD (l : List Carton) (r s : Int) : Int × Bool := bif good l && (inB r 1 9 && inB s 1 30) then (100 - taken l r s, true) else (0, false)
theorem freeOnI (l : List Carton) (r s : Int) (hl : Small l) : M.impl_FreeOn l r s = some (FreeD l r s) := by
  unfold M.impl_FreeOn FreeD M.impl_isRoom M.impl_isShelf
  rw [e_iAreCartons hl, Option.bind_some]
  cases hg : good l
  · rfl
  simp only [e_within, Option.bind_some]
  rw [e_freeOn (good_thin hg)]
  cases inB r 1 9 <;> cases inB s 1 30 <;> rfl
end Go.Proofs.Ytfebeomnlkfgoaa
