/-
  Holds: what the models of the program and of the reference answer. Plain.
-/
import Derived.Test.YtfebeomnlkfgoaaHa
set_option linter.unusedSimpArgs false
set_option linter.unusedVariables false
namespace Go.Proofs.Ytfebeomnlkfgoaa
open Go.VS
theorem any_range {β : Type} [Inhabited β] (p : β → Bool) (l : List β) : ((List.range l.length).any fun k => p (l.getD k default)) = l.any p := any_getD.symm
theorem indexI (m : List Int) (x : Int) (hl : m.length < 1000000) : ∃ i : Int, M.slices_Index_int_int m x = some i ∧ decide (i ≥ 0) = m.any (fun y => x == y) := by
  unfold M.slices_Index_int_int
  rcases iter_find (step := M.slices_Index_int_int_l0 m x) (s := 0) (fun k => (k : Int)) m.length (fun k => x == m.getD k default) (fun k => .inr (k : Int)) (.inl ()) rfl (by omega)
    (fun k hk hp => by
      unfold M.slices_Index_int_int_l0
      simp (disch := first | omega | (intros; simp only [decide_eq_true_eq, decide_eq_false_iff_not, Bool.not_eq_true, Bool.not_eq_false, Bool.not_true, Bool.not_false] at *; omega)) only [cast_succ, asrt_pos, wrap64_id, Option.bind_some, cond_true, cond_false, decide_eq_true, decide_eq_false, Int.toNat_natCast, Bool.not_true, Bool.not_false, Bool.and_true, Bool.true_and, Bool.and_false, Bool.false_and, Bool.or_true, Bool.true_or, Bool.or_false, Bool.false_or, hp])
    (fun k hk hp => by
      unfold M.slices_Index_int_int_l0
      simp (disch := first | omega | (intros; simp only [decide_eq_true_eq, decide_eq_false_iff_not, Bool.not_eq_true, Bool.not_eq_false, Bool.not_true, Bool.not_false] at *; omega)) only [cast_succ, asrt_pos, wrap64_id, Option.bind_some, cond_true, cond_false, decide_eq_true, decide_eq_false, Int.toNat_natCast, Bool.not_true, Bool.not_false, Bool.and_true, Bool.true_and, Bool.and_false, Bool.false_and, Bool.or_true, Bool.true_or, Bool.or_false, Bool.false_or, hp])
    (by
      unfold M.slices_Index_int_int_l0
      simp (disch := first | omega | (intros; simp only [decide_eq_true_eq, decide_eq_false_iff_not, Bool.not_eq_true, Bool.not_eq_false, Bool.not_true, Bool.not_false] at *; omega)) only [cast_succ, asrt_pos, wrap64_id, Option.bind_some, cond_true, cond_false, decide_eq_true, decide_eq_false, Int.toNat_natCast, Bool.not_true, Bool.not_false, Bool.and_true, Bool.true_and, Bool.and_false, Bool.false_and, Bool.or_true, Bool.true_or, Bool.or_false, Bool.false_or]) with ⟨k, h1, h2, h3, h4⟩ | ⟨h1, h2⟩
  · refine ⟨k, by rw [h4]; rfl, ?_⟩
    rw [show decide ((k : Int) ≥ 0) = true by simp, eq_comm, List.any_eq_true]
    exact ⟨_, getD_mem h1, h2⟩
  · refine ⟨-1, by rw [h2]; rfl, ?_⟩
    rw [show decide ((-1 : Int) ≥ 0) = false by decide, eq_comm, ← any_range, List.any_eq_false]
    intro k hk
    simpa using h1 k (List.mem_range.1 hk)
end Go.Proofs.Ytfebeomnlkfgoaa
