/-
  Cartons: where files are, lists to pull. Plain.
-/
import Derived.Test.YtfebeomnlkfgoaaPe
import Derived.Test.YtfebeomnlkfgoaaLi
set_option linter.unusedSimpArgs false
set_option linter.unusedVariables false
namespace Go.Proofs.Ytfebeomnlkfgoaa
open Go.VS
theorem inB_true {x a b : Int} : inB x a b = true ↔ a ≤ x ∧ x ≤ b := by simp [inB]
structure GoodP (l : List Carton) : Prop where
  len : l.length ≤ 10
  gd : ∀ k, k < l.length → goodOne (l.getD k default) = true
  up : ∀ j k, j < k → k < l.length → (l.getD j default).Id < (l.getD k default).Id
theorem good_P {l : List Carton} (h : good l = true) : GoodP l := by
  simp only [good, Bool.and_eq_true, decide_eq_true_eq, Bool.not_eq_true', List.any_eq_false, List.mem_range] at h
  have h2 : ∀ k, k < l.length → okA l k = false := fun k hk => okAt_okA (by simpa using h.2 k hk)
  refine ⟨by omega, fun k hk => okA_good (h2 k hk), ?_⟩
  intro j k hj
  induction k with
  | zero => omega
  | succ k ih =>
    intro hk
    have h1 := h2 (k + 1) hk
    simp only [okA, Bool.or_eq_false_iff, Bool.and_eq_false_iff, decide_eq_false_iff_not, Nat.add_sub_cancel] at h1
    by_cases e : j = k
    · subst e; omega
    · have := ih (by omega) (by omega); omega
theorem goodOne_spec {c : Carton} (h : goodOne c = true) : (1 ≤ c.Id ∧ c.Id ≤ 99) ∧ (1 ≤ c.Room ∧ c.Room ≤ 9) ∧ (1 ≤ c.Shelf ∧ c.Shelf ≤ 30) ∧ c.Files.length ≤ 12 ∧ ris2 c.Files 1 999 = true ∧ (1 ≤ c.Thick ∧ c.Thick ≤ 40) := by
  unfold goodOne at h
  simp only [Bool.and_eq_true, inB_true, decide_eq_true_eq] at h
  exact ⟨h.1.1.1.1, h.1.1.1.2.1, h.1.1.1.2.2, by have := h.1.1.2; omega, h.1.2, h.2⟩
def idx (l : List Carton) (f : Int) : Int := firstAt (hasF f) l
theorem withI (l : List Carton) (f : Int) (hl : Small l) : M.impl_cartonWith l f = some (idx l f) := by
  have hl1 := hl.1
  unfold M.impl_cartonWith M.slices_IndexFunc_impl_Carton_impl_Carton idx
  rcases iter_find (step := M.slices_IndexFunc_impl_Carton_impl_Carton_l0 l (fun x0 => M.impl_cartonWith_1 x0 f)) (s := 0) (fun k => (k : Int)) l.length (fun k => hasF f (l.getD k default)) (fun k => .inr (k : Int)) (.inl ()) rfl (by omega)
    (fun k hk hp => by
      have h1 : M.impl_cartonWith_1 (l.getD k default) f = some (hasF f (l.getD k default)) := by
        unfold M.impl_cartonWith_1 hasF
        rw [e_Contains (hl.2 _ (getD_mem hk)), Option.bind_some]
        congr 2
        funext x
        rw [Bool.eq_iff_iff, beq_iff_eq, beq_iff_eq]; exact eq_comm
      unfold M.slices_IndexFunc_impl_Carton_impl_Carton_l0; simp (disch := first | omega | (intros; simp only [decide_eq_true_eq, decide_eq_false_iff_not, Bool.not_eq_true, Bool.not_eq_false, Bool.not_true, Bool.not_false] at *; omega)) only [cast_succ, asrt_pos, wrap64_id, Option.bind_some, cond_true, cond_false, decide_eq_true, decide_eq_false, Int.toNat_natCast, Bool.not_true, Bool.not_false, Bool.and_true, Bool.true_and, Bool.and_false, Bool.false_and, Bool.or_true, Bool.true_or, Bool.or_false, Bool.false_or, h1, hp])
    (fun k hk hp => by
      have h1 : M.impl_cartonWith_1 (l.getD k default) f = some (hasF f (l.getD k default)) := by
        unfold M.impl_cartonWith_1 hasF
        rw [e_Contains (hl.2 _ (getD_mem hk)), Option.bind_some]
        congr 2
        funext x
        rw [Bool.eq_iff_iff, beq_iff_eq, beq_iff_eq]; exact eq_comm
      unfold M.slices_IndexFunc_impl_Carton_impl_Carton_l0; simp (disch := first | omega | (intros; simp only [decide_eq_true_eq, decide_eq_false_iff_not, Bool.not_eq_true, Bool.not_eq_false, Bool.not_true, Bool.not_false] at *; omega)) only [cast_succ, asrt_pos, wrap64_id, Option.bind_some, cond_true, cond_false, decide_eq_true, decide_eq_false, Int.toNat_natCast, Bool.not_true, Bool.not_false, Bool.and_true, Bool.true_and, Bool.and_false, Bool.false_and, Bool.or_true, Bool.true_or, Bool.or_false, Bool.false_or, h1, hp])
    (by unfold M.slices_IndexFunc_impl_Carton_impl_Carton_l0; simp (disch := first | omega | (intros; simp only [decide_eq_true_eq, decide_eq_false_iff_not, Bool.not_eq_true, Bool.not_eq_false, Bool.not_true, Bool.not_false] at *; omega)) only [cast_succ, asrt_pos, wrap64_id, Option.bind_some, cond_true, cond_false, decide_eq_true, decide_eq_false, Int.toNat_natCast, Bool.not_true, Bool.not_false, Bool.and_true, Bool.true_and, Bool.and_false, Bool.false_and, Bool.or_true, Bool.true_or, Bool.or_false, Bool.false_or]) with ⟨k, h1, h2, h3, h4⟩ | ⟨h1, h2⟩
  · rw [h4, firstAt_some h1 h3 h2]; rfl
  · rw [h2, firstAt_none h1]; rfl
theorem atCI (l : List Carton) (i : Int) (hl : l.length < 2000000) : M.impl_cartonAt l i = some (firstAt (fun c : Carton => c.Id == i) l) := by
  unfold M.impl_cartonAt M.slices_IndexFunc_impl_Carton_impl_Carton
  rcases iter_find (step := M.slices_IndexFunc_impl_Carton_impl_Carton_l0 l (fun x0 => M.impl_cartonAt_1 x0 i)) (s := 0) (fun k => (k : Int)) l.length (fun k => (l.getD k default).Id == i) (fun k => .inr (k : Int)) (.inl ()) rfl (by omega)
    (fun k hk hp => by unfold M.slices_IndexFunc_impl_Carton_impl_Carton_l0 M.impl_cartonAt_1; simp (disch := first | omega | (intros; simp only [decide_eq_true_eq, decide_eq_false_iff_not, Bool.not_eq_true, Bool.not_eq_false, Bool.not_true, Bool.not_false] at *; omega)) only [cast_succ, asrt_pos, wrap64_id, Option.bind_some, cond_true, cond_false, decide_eq_true, decide_eq_false, Int.toNat_natCast, Bool.not_true, Bool.not_false, Bool.and_true, Bool.true_and, Bool.and_false, Bool.false_and, Bool.or_true, Bool.true_or, Bool.or_false, Bool.false_or, hp])
    (fun k hk hp => by unfold M.slices_IndexFunc_impl_Carton_impl_Carton_l0 M.impl_cartonAt_1; simp (disch := first | omega | (intros; simp only [decide_eq_true_eq, decide_eq_false_iff_not, Bool.not_eq_true, Bool.not_eq_false, Bool.not_true, Bool.not_false] at *; omega)) only [cast_succ, asrt_pos, wrap64_id, Option.bind_some, cond_true, cond_false, decide_eq_true, decide_eq_false, Int.toNat_natCast, Bool.not_true, Bool.not_false, Bool.and_true, Bool.true_and, Bool.and_false, Bool.false_and, Bool.or_true, Bool.true_or, Bool.or_false, Bool.false_or, hp])
    (by unfold M.slices_IndexFunc_impl_Carton_impl_Carton_l0; simp (disch := first | omega | (intros; simp only [decide_eq_true_eq, decide_eq_false_iff_not, Bool.not_eq_true, Bool.not_eq_false, Bool.not_true, Bool.not_false] at *; omega)) only [cast_succ, asrt_pos, wrap64_id, Option.bind_some, cond_true, cond_false, decide_eq_true, decide_eq_false, Int.toNat_natCast, Bool.not_true, Bool.not_false, Bool.and_true, Bool.true_and, Bool.and_false, Bool.false_and, Bool.or_true, Bool.true_or, Bool.or_false, Bool.false_or]) with ⟨k, h1, h2, h3, h4⟩ | ⟨h1, h2⟩
  · rw [h4, firstAt_some (p := fun c : Carton => c.Id == i) h1 h3 h2]; rfl
  · rw [h2, firstAt_none (p := fun c : Carton => c.Id == i) h1]; rfl
theorem idx_bd {l : List Carton} {f : Int} : -1 ≤ idx l f ∧ idx l f < (l.length : Int) := firstAt_bd
end Go.Proofs.Ytfebeomnlkfgoaa
