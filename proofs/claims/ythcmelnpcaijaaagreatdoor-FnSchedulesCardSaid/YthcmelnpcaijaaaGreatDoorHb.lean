/-
  Holds: what the models of the program and of the reference answer. Plain.
-/
import Derived.Test.YthcmelnpcaijaaaGreatDoorHa
set_option linter.unusedSimpArgs false
set_option linter.unusedVariables false
namespace Go.Proofs.YthcmelnpcaijaaaGreatDoor
open Go.VS

/-! ### Lists of numbers -/
def serOk (l : List Int) : Bool := rise (fun n => !inR n 1 99) (fun a b => decide (a ≥ b)) l

theorem any_range {β : Type} [Inhabited β] (p : β → Bool) (l : List β) : ((List.range l.length).any fun k => p (l.getD k default)) = l.any p := any_getD.symm

theorem indexI (m : List Int) (x : Int) (hl : m.length < 1000000) : ∃ i : Int, M.slices_Index_int_int m x = some i ∧ decide (i ≥ 0) = m.any (fun y => x == y) := by
  unfold M.slices_Index_int_int
  rcases iter_find (step := M.slices_Index_int_int_l0 m x) (s := 0) (fun k => (k : Int)) m.length (fun k => x == m.getD k default) (fun k => .inr (k : Int)) (.inl ()) rfl (by omega)
    (fun k hk hp => by
      unfold M.slices_Index_int_int_l0
      simp (disch := first | omega | (intros; simp only [decide_eq_true_eq, decide_eq_false_iff_not, Bool.not_eq_true, Bool.not_eq_false, Bool.not_true, Bool.not_false] at *; omega)) only [cast_succ, asrt_pos, wrap64_id, Option.bind_some, cond_true, cond_false, decide_eq_true, decide_eq_false, Int.toNat_natCast, Bool.not_true, Bool.not_false, Bool.and_true, Bool.true_and, Bool.and_false, Bool.false_and, Bool.or_true, Bool.true_or, Bool.or_false, Bool.false_or, hp])
    (fun k hk hp => by
      unfold M.slices_Index_int_int_l0
      simp (disch := first | omega | (intros; simp only [decide_eq_true_eq, decide_eq_false_iff_not, Bool.not_eq_true, Bool.not_eq_false, Bool.not_true, Bool.not_false] at *; omega)) only [cast_succ, asrt_pos, wrap64_id, Option.bind_some, cond_true, cond_false, decide_eq_true, decide_eq_false, Int.toNat_natCast, Bool.not_true, Bool.not_false, Bool.and_true, Bool.true_and, Bool.and_false, Bool.false_and, Bool.or_true, Bool.true_or, Bool.or_false, Bool.false_or, hp])
    (by
      unfold M.slices_Index_int_int_l0
      simp (disch := first | omega | (intros; simp only [decide_eq_true_eq, decide_eq_false_iff_not, Bool.not_eq_true, Bool.not_eq_false, Bool.not_true, Bool.not_false] at *; omega)) only [cast_succ, asrt_pos, wrap64_id, Option.bind_some, cond_true, cond_false, decide_eq_true, decide_eq_false, Int.toNat_natCast, Bool.not_true, Bool.not_false, Bool.and_true, Bool.true_and, Bool.and_false, Bool.false_and, Bool.or_true, Bool.true_or, Bool.or_false, Bool.false_or]) with ⟨k, h1, h2, h3, h4⟩ | ⟨h1, h2⟩
  · refine ⟨k, by rw [h4]; rfl, ?_⟩
    rw [show decide ((k : Int) ≥ 0) = true by simp, eq_comm, List.any_eq_true]
    exact ⟨_, getD_mem h1, h2⟩
  · refine ⟨-1, by rw [h2]; rfl, ?_⟩
    rw [show decide ((-1 : Int) ≥ 0) = false by decide, eq_comm, ← any_range, List.any_eq_false]
    intro k hk
    simpa using h1 k (List.mem_range.1 hk)

theorem contI (m : List Int) (x : Int) (hl : m.length < 1000000) : M.slices_Contains_int_int m x = some (m.any fun y => x == y) := by
  unfold M.slices_Contains_int_int
  obtain ⟨i, h1, h2⟩ := indexI m x hl
  rw [h1, Option.bind_some, h2]

theorem hasS (m : List Int) (x : Int) (hl : m.length < 1000000) : M.spec_l1Has m x = some (m.any fun y => x == y) := by
  unfold M.spec_l1Has
  rw [iter_any (step := M.spec_l1Has_l0 m x) (s := 0) (fun k => (k : Int)) m.length (fun k => x == m.getD k default) (.inr true) (.inl ()) rfl (by omega)
    (fun k hk hp => by
      unfold M.spec_l1Has_l0
      have hp' : (m.getD k default == x) = false := by rw [← hp]; exact Bool.beq_comm
      simp (disch := first | omega | (intros; simp only [decide_eq_true_eq, decide_eq_false_iff_not, Bool.not_eq_true, Bool.not_eq_false, Bool.not_true, Bool.not_false] at *; omega)) only [cast_succ, asrt_pos, wrap64_id, Option.bind_some, cond_true, cond_false, decide_eq_true, decide_eq_false, Int.toNat_natCast, Bool.not_true, Bool.not_false, Bool.and_true, Bool.true_and, Bool.and_false, Bool.false_and, Bool.or_true, Bool.true_or, Bool.or_false, Bool.false_or, hp'])
    (fun k hk hp => by
      unfold M.spec_l1Has_l0
      have hp' : (m.getD k default == x) = true := by rw [← hp]; exact Bool.beq_comm
      simp (disch := first | omega | (intros; simp only [decide_eq_true_eq, decide_eq_false_iff_not, Bool.not_eq_true, Bool.not_eq_false, Bool.not_true, Bool.not_false] at *; omega)) only [cast_succ, asrt_pos, wrap64_id, Option.bind_some, cond_true, cond_false, decide_eq_true, decide_eq_false, Int.toNat_natCast, Bool.not_true, Bool.not_false, Bool.and_true, Bool.true_and, Bool.and_false, Bool.false_and, Bool.or_true, Bool.true_or, Bool.or_false, Bool.false_or, hp'])
    (by
      unfold M.spec_l1Has_l0
      simp (disch := first | omega | (intros; simp only [decide_eq_true_eq, decide_eq_false_iff_not, Bool.not_eq_true, Bool.not_eq_false, Bool.not_true, Bool.not_false] at *; omega)) only [cast_succ, asrt_pos, wrap64_id, Option.bind_some, cond_true, cond_false, decide_eq_true, decide_eq_false, Int.toNat_natCast, Bool.not_true, Bool.not_false, Bool.and_true, Bool.true_and, Bool.and_false, Bool.false_and, Bool.or_true, Bool.true_or, Bool.or_false, Bool.false_or]), any_range (fun y => x == y) m]
  cases m.any fun y => x == y <;> rfl

/-! ### Holds -/
/-! ### Free days -/
theorem countP_lt {β : Type} {p q : β → Bool} {l : List β} (h : ∀ x ∈ l, q x = true → p x = true) (x : β) (hx : x ∈ l) (h1 : p x = true) (h2 : q x = false) : l.countP q < l.countP p := by
  induction l with
  | nil => cases hx
  | cons y t ih =>
    have hm : t.countP q ≤ t.countP p := List.countP_mono_left (fun z hz => h z (by simp [hz]))
    simp only [List.countP_cons]
    rcases List.mem_cons.1 hx with rfl | hx
    · simp only [h1, h2, Bool.false_eq_true, if_false, if_true]; omega
    · have := ih (fun z hz => h z (by simp [hz])) hx
      have h3 := h y (by simp)
      cases hq : q y
      · cases hp : p y <;> simp [hq, hp] <;> omega
      · simp [h3 hq, hq]; omega

end Go.Proofs.YthcmelnpcaijaaaGreatDoor
