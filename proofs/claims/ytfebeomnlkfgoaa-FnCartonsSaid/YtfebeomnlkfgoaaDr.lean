/-
  Cartons that are moved: the copy, the move, the exact law. Plain.
-/
import Derived.Test.YtfebeomnlkfgoaaDq
set_option linter.unusedSimpArgs false
set_option linter.unusedVariables false
namespace Go.Proofs.Ytfebeomnlkfgoaa
open Go.VS
theorem set_same {β : Type} [Inhabited β] : ∀ {l : List β} {k : Nat}, l.set k (l.getD k default) = l
  | [], _ => rfl
  | x :: l, 0 => rfl
  | x :: l, k + 1 => by rw [List.set_cons_succ, List.getD_cons_succ, set_same]
theorem Small.set {l : List Carton} {k : Nat} {x : Carton} (h : Small l) (hx : x.Files.length ≤ 1048576) : Small (l.set k x) := by
  refine ⟨by rw [List.length_set]; exact h.1, fun c hc => ?_⟩
  rcases List.mem_or_eq_of_mem_set hc with hc | hc
  · exact h.2 c hc
  · rw [hc]; exact hx
theorem Small.get {l : List Carton} (h : Small l) (k : Nat) : (l.getD k default).Files.length ≤ 1048576 := by
  rcases Nat.lt_or_ge k l.length with hk | hk
  · exact h.2 _ (getD_mem hk)
  · rw [List.getD_eq_getElem?_getD, List.getElem?_eq_none hk]
    exact Nat.zero_le _
theorem Small.nil : Small [] := ⟨by simp, by simp⟩
theorem copyI (l : List Carton) (hl : Small l) : M.impl_copyCartons l = some l := by
  have hl1 := hl.1
  unfold M.impl_copyCartons M.slices_Clone_impl_Carton_impl_Carton
  rw [asrt_pos (by omega), Option.bind_some, iter_up (s := (l, (0 : Int))) (step := M.impl_copyCartons_l0 l) (e := l) (fun k => (l, (k : Int))) l.length rfl (by omega) (fun k hk => by
    have hf := hl.2 _ (getD_mem hk)
    unfold M.impl_copyCartons_l0 M.slices_Clone_int_int
    try dsimp only
    rw [decide_eq_true (by omega), cond_true, asrt_pos ⟨by omega, by omega⟩, Int.toNat_natCast, asrt_pos (by omega), Option.bind_some, asrt_pos ⟨by omega, by omega⟩, wrap64_id (n := (k : Int) + 1) (by omega) (by omega)]
    show some (Sum.inl (l.set k (l.getD k default), (k : Int) + 1)) = _
    rw [set_same, cast_succ]) (by
    unfold M.impl_copyCartons_l0
    try dsimp only
    rw [decide_eq_false (by omega), cond_false])]
  rfl
theorem ownS (l : List Carton) (hl : Small l) : M.spec_l18Own l = some l := by
  have hl1 := hl.1
  unfold M.spec_l18Own
  rw [iter_up (s := (([] : List Carton), (0 : Int))) (step := M.spec_l18Own_l0 l) (e := l) (fun k => (l.take k, (k : Int))) l.length rfl (by omega) (fun k hk => by
    have hf := hl.2 _ (getD_mem hk)
    unfold M.spec_l18Own_l0 M.spec_l1Own
    try dsimp only
    rw [decide_eq_true (by omega), cond_true, asrt_pos ⟨by omega, by omega⟩, Int.toNat_natCast, asrt_pos (by simp only [List.length_nil]; omega), Option.bind_some, asrt_pos (by simp only [List.length_cons, List.length_nil, List.length_take]; omega), wrap64_id (n := (k : Int) + 1) (by omega) (by omega), take_succ_getD hk, cast_succ]
    rfl) (by
    unfold M.spec_l18Own_l0
    try dsimp only
    rw [decide_eq_false (by omega), cond_false, List.take_of_length_le (Nat.le_refl _)])]
  rfl
theorem findS (l : List Carton) (i : Int) (hl : l.length < 2000000) : M.spec_l18Find l i = some (firstAt (fun c : Carton => c.Id == i) l) := by
  unfold M.spec_l18Find
  rcases iter_find (step := M.spec_l18Find_l0 l i) (s := 0) (fun k => (k : Int)) l.length (fun k => (l.getD k default).Id == i) (fun k => .inr (k : Int)) (.inl ()) rfl (by omega)
    (fun k hk hp => by unfold M.spec_l18Find_l0; simp (disch := first | omega | (intros; simp only [decide_eq_true_eq, decide_eq_false_iff_not, Bool.not_eq_true, Bool.not_eq_false, Bool.not_true, Bool.not_false] at *; omega)) only [cast_succ, asrt_pos, wrap64_id, Option.bind_some, cond_true, cond_false, decide_eq_true, decide_eq_false, Int.toNat_natCast, Bool.not_true, Bool.not_false, Bool.and_true, Bool.true_and, Bool.and_false, Bool.false_and, Bool.or_true, Bool.true_or, Bool.or_false, Bool.false_or, hp])
    (fun k hk hp => by unfold M.spec_l18Find_l0; simp (disch := first | omega | (intros; simp only [decide_eq_true_eq, decide_eq_false_iff_not, Bool.not_eq_true, Bool.not_eq_false, Bool.not_true, Bool.not_false] at *; omega)) only [cast_succ, asrt_pos, wrap64_id, Option.bind_some, cond_true, cond_false, decide_eq_true, decide_eq_false, Int.toNat_natCast, Bool.not_true, Bool.not_false, Bool.and_true, Bool.true_and, Bool.and_false, Bool.false_and, Bool.or_true, Bool.true_or, Bool.or_false, Bool.false_or, hp])
    (by unfold M.spec_l18Find_l0; simp (disch := first | omega | (intros; simp only [decide_eq_true_eq, decide_eq_false_iff_not, Bool.not_eq_true, Bool.not_eq_false, Bool.not_true, Bool.not_false] at *; omega)) only [cast_succ, asrt_pos, wrap64_id, Option.bind_some, cond_true, cond_false, decide_eq_true, decide_eq_false, Int.toNat_natCast, Bool.not_true, Bool.not_false, Bool.and_true, Bool.true_and, Bool.and_false, Bool.false_and, Bool.or_true, Bool.true_or, Bool.or_false, Bool.false_or]) with ⟨k, h1, h2, h3, h4⟩ | ⟨h1, h2⟩
  · rw [h4, firstAt_some (p := fun c : Carton => c.Id == i) h1 h3 h2]; rfl
  · rw [h2, firstAt_none (p := fun c : Carton => c.Id == i) h1]; rfl
def atC (l : List Carton) (i : Int) : Int := firstAt (fun c : Carton => c.Id == i) l
theorem atC_bd {l : List Carton} {i : Int} : -1 ≤ atC l i ∧ atC l i < (l.length : Int) := firstAt_bd
def putC (c : Carton) (r s : Int) : Carton := ⟨c.Id, s, r, c.Files, c.Thick⟩
def movedC (l : List Carton) (i r s : Int) : List Carton := l.set (atC l i).toNat (putC (l.getD (atC l i).toNat default) r s)
def MoveD (l : List Carton) (i r s : Int) : List Carton × Bool := bif !(good l) || decide (atC l i < 0) then ([], false) else (bif !(good (movedC l i r s)) then ([], false) else (movedC l i r s, true))
theorem movedC_small {l : List Carton} {i r s : Int} (hl : Small l) : Small (movedC l i r s) := hl.set (hl.get _)
theorem MoveD_small {l : List Carton} {i r s : Int} (hl : Small l) : Small (MoveD l i r s).1 := by
  unfold MoveD
  cases !(good l) || decide (atC l i < 0)
  · cases !(good (movedC l i r s))
    · exact movedC_small hl
    · exact Small.nil
  · exact Small.nil
theorem moveI (l : List Carton) (i r s : Int) (hl : Small l) : M.impl_MoveCarton l i r s = some (MoveD l i r s) := by
  have hl1 := hl.1
  have hb := atC_bd (l := l) (i := i)
  unfold M.impl_MoveCarton MoveD
  rw [atCI l i (by omega), Option.bind_some, e_iAreCartons hl, Option.bind_some]
  show (bif !(good l) || decide (atC l i < 0) then _ else _) = _
  cases hq : !(good l) || decide (atC l i < 0)
  · have hat : 0 ≤ atC l i := by
      simp only [Bool.or_eq_false_iff, decide_eq_false_iff_not] at hq
      omega
    have hm := e_iAreCartons (movedC_small (i := i) (r := r) (s := s) hl)
    unfold movedC putC at hm
    rw [cond_false, cond_false, copyI l hl, Option.bind_some]
    have e : firstAt (fun c : Carton => c.Id == i) l = atC l i := rfl
    rw [e, asrt_pos ⟨hat, hb.2⟩, asrt_pos ⟨hat, by rw [List.length_set]; exact hb.2⟩, hm, Option.bind_some]
    unfold movedC putC
    cases !(good (l.set (atC l i).toNat ⟨(l.getD (atC l i).toNat default).Id, s, r, (l.getD (atC l i).toNat default).Files, (l.getD (atC l i).toNat default).Thick⟩)) <;> rfl
  · rfl
theorem moveS (l : List Carton) (i r s : Int) (hl : Small l) : M.spec_MoveCarton l i r s = some (MoveD l i r s) := by
  have hl1 := hl.1
  have hb := atC_bd (l := l) (i := i)
  unfold M.spec_MoveCarton MoveD
  rw [findS l i (by omega), Option.bind_some, e_l18Good hl, Option.bind_some]
  show (bif !(good l) || decide (atC l i < 0) then _ else _) = _
  cases hq : !(good l) || decide (atC l i < 0)
  · have hat : 0 ≤ atC l i := by
      simp only [Bool.or_eq_false_iff, decide_eq_false_iff_not] at hq
      omega
    have hm := e_l18Good (movedC_small (i := i) (r := r) (s := s) hl)
    unfold movedC putC at hm
    rw [cond_false, cond_false, ownS l hl, Option.bind_some]
    have e : firstAt (fun c : Carton => c.Id == i) l = atC l i := rfl
    rw [e, asrt_pos ⟨hat, hb.2⟩, asrt_pos ⟨hat, hb.2⟩, hm, Option.bind_some]
    unfold movedC putC
    cases !(good (l.set (atC l i).toNat ⟨(l.getD (atC l i).toNat default).Id, s, r, (l.getD (atC l i).toNat default).Files, (l.getD (atC l i).toNat default).Thick⟩)) <;> rfl
  · rfl
end Go.Proofs.Ytfebeomnlkfgoaa
