/-
  Cartons: where files are, lists to pull. Plain.
-/
import Derived.Test.YtfebeomnlkfgoaaPe
import Derived.Test.YtfebeomnlkfgoaaLi
set_option linter.unusedSimpArgs false
set_option linter.unusedVariables false
namespace Go.Proofs.Ytfebeomnlkfgoaa
open Go.VS

/-! ### Valid cartons -/
theorem inB_true {x a b : Int} : inB x a b = true ↔ a ≤ x ∧ x ≤ b := by simp [inB]
structure GoodP (l : List Carton) : Prop where
  len : l.length ≤ 10
  gd : ∀ k, k < l.length → goodOne (l.getD k default) = true
  up : ∀ j k, j < k → k < l.length → (l.getD j default).Id < (l.getD k default).Id
theorem good_P {l : List Carton} (h : good l = true) : GoodP l := by
  simp only [good, Bool.and_eq_true, decide_eq_true_eq, Bool.not_eq_true', List.any_eq_false, List.mem_range] at h
  have h2 : ∀ k, k < l.length → okA l k = false := fun k hk => okAt_okA (by simpa using h.2 k hk)
  refine ⟨by omega, fun k hk => okA_good (h2 k hk), ?_⟩
  intro j k hj
  induction k with
  | zero => omega
  | succ k ih =>
    intro hk
    have h1 := h2 (k + 1) hk
    simp only [okA, Bool.or_eq_false_iff, Bool.and_eq_false_iff, decide_eq_false_iff_not, Nat.add_sub_cancel] at h1
    by_cases e : j = k
    · subst e; omega
    · have := ih (by omega) (by omega); omega
theorem goodOne_spec {c : Carton} (h : goodOne c = true) : (1 ≤ c.Id ∧ c.Id ≤ 99) ∧ (1 ≤ c.Room ∧ c.Room ≤ 9) ∧ (1 ≤ c.Shelf ∧ c.Shelf ≤ 30) ∧ c.Files.length ≤ 12 ∧ ris2 c.Files 1 999 = true ∧ (1 ≤ c.Thick ∧ c.Thick ≤ 40) := by
  unfold goodOne at h
  simp only [Bool.and_eq_true, inB_true, decide_eq_true_eq] at h
  exact ⟨h.1.1.1.1, h.1.1.1.2.1, h.1.1.1.2.2, by have := h.1.1.2; omega, h.1.2, h.2⟩
theorem GoodP.elt {l : List Carton} (h : GoodP l) {i : Int} (h0 : 0 ≤ i) (h1 : i < (l.length : Int)) : goodOne (l.getD i.toNat default) = true := h.gd _ (by omega)

/-! ### Where a file is -/
def idx (l : List Carton) (f : Int) : Int := firstAt (hasF f) l
theorem atCI (l : List Carton) (i : Int) (hl : l.length < 2000000) : M.impl_cartonAt l i = some (firstAt (fun c : Carton => c.Id == i) l) := by
  unfold M.impl_cartonAt M.slices_IndexFunc_impl_Carton_impl_Carton
  rcases iter_find (step := M.slices_IndexFunc_impl_Carton_impl_Carton_l0 l (fun x0 => M.impl_cartonAt_1 x0 i)) (s := 0) (fun k => (k : Int)) l.length (fun k => (l.getD k default).Id == i) (fun k => .inr (k : Int)) (.inl ()) rfl (by omega)
    (fun k hk hp => by unfold M.slices_IndexFunc_impl_Carton_impl_Carton_l0 M.impl_cartonAt_1; simp (disch := first | omega | (intros; simp only [decide_eq_true_eq, decide_eq_false_iff_not, Bool.not_eq_true, Bool.not_eq_false, Bool.not_true, Bool.not_false] at *; omega)) only [cast_succ, asrt_pos, wrap64_id, Option.bind_some, cond_true, cond_false, decide_eq_true, decide_eq_false, Int.toNat_natCast, Bool.not_true, Bool.not_false, Bool.and_true, Bool.true_and, Bool.and_false, Bool.false_and, Bool.or_true, Bool.true_or, Bool.or_false, Bool.false_or, hp])
    (fun k hk hp => by unfold M.slices_IndexFunc_impl_Carton_impl_Carton_l0 M.impl_cartonAt_1; simp (disch := first | omega | (intros; simp only [decide_eq_true_eq, decide_eq_false_iff_not, Bool.not_eq_true, Bool.not_eq_false, Bool.not_true, Bool.not_false] at *; omega)) only [cast_succ, asrt_pos, wrap64_id, Option.bind_some, cond_true, cond_false, decide_eq_true, decide_eq_false, Int.toNat_natCast, Bool.not_true, Bool.not_false, Bool.and_true, Bool.true_and, Bool.and_false, Bool.false_and, Bool.or_true, Bool.true_or, Bool.or_false, Bool.false_or, hp])
    (by unfold M.slices_IndexFunc_impl_Carton_impl_Carton_l0; simp (disch := first | omega | (intros; simp only [decide_eq_true_eq, decide_eq_false_iff_not, Bool.not_eq_true, Bool.not_eq_false, Bool.not_true, Bool.not_false] at *; omega)) only [cast_succ, asrt_pos, wrap64_id, Option.bind_some, cond_true, cond_false, decide_eq_true, decide_eq_false, Int.toNat_natCast, Bool.not_true, Bool.not_false, Bool.and_true, Bool.true_and, Bool.and_false, Bool.false_and, Bool.or_true, Bool.true_or, Bool.or_false, Bool.false_or]) with ⟨k, h1, h2, h3, h4⟩ | ⟨h1, h2⟩
  · rw [h4, firstAt_some (p := fun c : Carton => c.Id == i) h1 h3 h2]; rfl
  · rw [h2, firstAt_none (p := fun c : Carton => c.Id == i) h1]; rfl
theorem idx_bd {l : List Carton} {f : Int} : -1 ≤ idx l f ∧ idx l f < (l.length : Int) := firstAt_bd

/-! ### Sorted by a key -/
def insPosC (K : Carton → Int) (P : List Carton) (x : Carton) : Nat → Nat
  | 0 => 0
  | k + 1 => if K x < K (P.getD k default) then insPosC K P x k else k + 1
def insC (K : Carton → Int) (P : List Carton) (x : Carton) : List Carton := P.take (insPosC K P x P.length) ++ x :: P.drop (insPosC K P x P.length)
def srtC (K : Carton → Int) (D : List Carton) : List Carton := D.foldl (insC K) []
theorem insC_perm {K : Carton → Int} {P : List Carton} {x : Carton} : List.Perm (insC K P x) (x :: P) := by
  unfold insC
  refine List.perm_middle.trans ?_
  rw [List.take_append_drop]
theorem srtC_snoc {K : Carton → Int} {D : List Carton} {x : Carton} : srtC K (D ++ [x]) = insC K (srtC K D) x := by unfold srtC; rw [List.foldl_append]; rfl
theorem insPosC_spec {K : Carton → Int} {P : List Carton} {x : Carton} : ∀ k, insPosC K P x k ≤ k ∧ (∀ j, insPosC K P x k ≤ j → j < k → K x < K (P.getD j default)) ∧ (0 < insPosC K P x k → K (P.getD (insPosC K P x k - 1) default) ≤ K x)
  | 0 => ⟨Nat.le_refl _, fun j h1 h2 => absurd h2 (Nat.not_lt_zero _), fun h => absurd h (Nat.lt_irrefl _)⟩
  | k + 1 => by
    obtain ⟨h1, h2, h3⟩ := insPosC_spec (K := K) (P := P) (x := x) k
    unfold insPosC
    split
    · rename_i hq
      refine ⟨by omega, fun j g1 g2 => ?_, h3⟩
      by_cases e : j = k
      · subst e; exact hq
      · exact h2 j g1 (by omega)
    · rename_i hq
      refine ⟨Nat.le_refl _, fun j g1 g2 => by omega, fun _ => ?_⟩
      rw [Nat.add_sub_cancel]; omega
theorem insC_sorted {K : Carton → Int} {P : List Carton} {x : Carton} (h : P.Pairwise fun a b => K a ≤ K b) : (insC K P x).Pairwise fun a b => K a ≤ K b := by
  obtain ⟨h1, h2, h3⟩ := insPosC_spec (K := K) (P := P) (x := x) P.length
  unfold insC
  generalize insPosC K P x P.length = p at h1 h2 h3
  have hpw := List.pairwise_iff_getElem.1 h
  rw [List.pairwise_append, List.pairwise_cons]
  have hd : ∀ b ∈ P.drop p, K x < K b := by
    intro b hb
    obtain ⟨j, hj, rfl⟩ := List.getElem_of_mem hb
    rw [List.length_drop] at hj
    rw [List.getElem_drop]
    have := h2 (p + j) (by omega) (by omega)
    rwa [getD_el (by omega)] at this
  have ht : ∀ a ∈ P.take p, K a ≤ K x := by
    intro a ha
    obtain ⟨j, hj, rfl⟩ := List.getElem_of_mem ha
    rw [List.length_take] at hj
    rw [List.getElem_take]
    have g := h3 (by omega)
    rw [getD_el (by omega)] at g
    by_cases e : j = p - 1
    · subst e; exact g
    · exact Int.le_trans (hpw j (p - 1) (by omega) (by omega) (by omega)) g
  refine ⟨h.sublist (List.take_sublist _ _), ⟨fun b hb => Int.le_of_lt (hd b hb), h.sublist (List.drop_sublist _ _)⟩, fun a ha b hb => ?_⟩
  rcases List.mem_cons.1 hb with e | e
  · subst e; exact ht a ha
  · exact Int.le_trans (ht a ha) (Int.le_of_lt (hd b e))
theorem srtC_ok (K : Carton → Int) (D : List Carton) : List.Perm (srtC K D) D ∧ (srtC K D).Pairwise fun a b => K a ≤ K b := by
  have key : ∀ (E P : List Carton), (P.Pairwise fun a b => K a ≤ K b) → List.Perm (E.foldl (insC K) P) (P ++ E) ∧ (E.foldl (insC K) P).Pairwise fun a b => K a ≤ K b := by
    intro E
    induction E with
    | nil => intro P h; exact ⟨by simp, h⟩
    | cons x E ih =>
      intro P h
      obtain ⟨h1, h2⟩ := ih (insC K P x) (insC_sorted h)
      exact ⟨h1.trans ((insC_perm.append_right E).trans List.perm_middle.symm), h2⟩
  exact key D [] List.Pairwise.nil
theorem srtC_len {K : Carton → Int} {D : List Carton} : (srtC K D).length = D.length := (srtC_ok K D).1.length_eq
theorem swap_atC {p x : Carton} {B : List Carton} : ∀ A : List Carton, (A ++ p :: x :: B).getD A.length default = p ∧ (A ++ p :: x :: B).getD (A.length + 1) default = x ∧ ((A ++ p :: x :: B).set (A.length + 1) p).set A.length x = A ++ x :: p :: B
  | [] => ⟨rfl, rfl, rfl⟩
  | a :: A => by
    obtain ⟨h1, h2, h3⟩ := swap_atC (p := p) (x := x) (B := B) A
    refine ⟨?_, ?_, ?_⟩
    · simp
    · simp
    · simp

/-! ### The key of a carton -/
def keyC (c : Carton) : Int := c.Room * 10000 + c.Shelf * 100 + c.Id
theorem key_id {c : Carton} (h : goodOne c = true) : keyC c % 100 = c.Id := by
  have := goodOne_spec h
  unfold keyC
  omega
def cmpC (x y : Int) : Int := if x < y then -1 else if x > y then 1 else 0
end Go.Proofs.Ytfebeomnlkfgoaa
