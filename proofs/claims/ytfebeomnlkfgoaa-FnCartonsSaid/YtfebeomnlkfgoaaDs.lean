/-
  A file that is filed anew: the exact law. Plain.
-/
import Derived.Test.YtfebeomnlkfgoaaDr
set_option linter.unusedSimpArgs false
set_option linter.unusedVariables false
namespace Go.Proofs.Ytfebeomnlkfgoaa
open Go.VS
theorem srt_mem {l : List Int} {x : Int} : x ∈ sortL l ↔ x ∈ l := (List.mergeSort_perm l _).mem_iff
theorem srt_strict {l : List Int} (h : l.Nodup) : (sortL l).Pairwise (· < ·) := by
  have h1 : (sortL l).Pairwise (fun a b => decide (a ≤ b) = true) := List.pairwise_mergeSort (le := fun x y : Int => decide (x ≤ y)) (fun a b c g1 g2 => by simp only [decide_eq_true_eq] at *; omega) (fun a b => by simp only [Bool.or_eq_true, decide_eq_true_eq]; omega) l
  have h2 : (sortL l).Nodup := (List.mergeSort_perm l _).symm.nodup_iff.1 h
  have h3 := h1.and h2
  exact h3.imp (fun {a b} g => by
    have g1 := g.1
    have g2 : a ≠ b := g.2
    simp only [decide_eq_true_eq] at g1
    omega)
theorem ris2_pw {l : List Int} {a b : Int} (h : ris2 l a b = true) : l.Pairwise (· < ·) := by
  unfold ris2 at h
  simp only [Bool.not_eq_true', List.any_eq_false, List.mem_range, bad, Bool.or_eq_true, Bool.and_eq_true, decide_eq_true_eq, not_or, not_and] at h
  have up : ∀ j k, j < k → k < l.length → l.getD j default < l.getD k default := by
    intro j k hj
    induction k with
    | zero => omega
    | succ k ih =>
      intro hk
      have h1 := (h (k + 1) hk).2 (by omega)
      rw [Nat.add_sub_cancel] at h1
      by_cases e : j = k
      · subst e; omega
      · have := ih (by omega) (by omega); omega
  rw [List.pairwise_iff_getElem]
  intro i j hi hj hij
  have := up i j hij hj
  rwa [getD_el hi, getD_el hj] at this
theorem pw_nodup {l : List Int} (h : l.Pairwise (· < ·)) : l.Nodup := h.imp (fun g => by omega)
theorem putSort {m : List Int} {n : Int} (hm : m.Pairwise (· < ·)) (hn : n ∉ m) (hl : m.length < 1000000) : M.spec_l1Put m n = some (sortL (m ++ [n])) := by
  obtain ⟨m', h1, h2, h3, h4⟩ := putInt m n hm hn hl
  have hd : (m ++ [n]).Nodup := by
    rw [List.nodup_append]
    exact ⟨pw_nodup hm, by simp, fun a ha b hb e => hn (by rw [List.mem_singleton] at hb; rw [← hb, ← e]; exact ha)⟩
  rw [h1, strict_ext h2 (srt_strict hd) (fun y => by rw [h3, srt_mem, List.mem_append, List.mem_singleton]; exact Or.comm)]
theorem withoutS (F : List Int) (f : Int) (hl : F.length < 1000000) : M.spec_l18Without F f = some (F.filter fun x => !(x == f)) := by
  unfold M.spec_l18Without
  rw [iter_coll (s := (([] : List Int), (0 : Int))) (step := M.spec_l18Without_l0 F f) (fun acc k => (acc, (k : Int))) (fun x : Int => bif !(x == f) then [x] else []) (fun acc => acc) F rfl (by omega) (fun k hk => if_len _ _) (fun acc k hk hI => ?_) (fun acc hI => ?_), Option.bind_some, flatMap_if (fun x => !(x == f)) (fun x => x), List.map_id']
  · unfold M.spec_l18Without_l0
    dsimp only
    rw [decide_eq_true (show (k : Int) < (F.length : Int) by omega), cond_true, asrt_pos ⟨by omega, by omega⟩, Int.toNat_natCast, wrap64_id (n := (k : Int) + 1) (by omega) (by omega), app_if]
    show (Option.bind (bif !(F.getD k default == f) then _ else _) _) = _
    cases !(F.getD k default == f)
    · rfl
    · rw [cond_true, cond_true, asrt_pos ⟨by omega, by omega⟩, asrt_pos (by simp only [List.length_cons, List.length_nil]; omega)]; rfl
  · unfold M.spec_l18Without_l0
    dsimp only
    rw [decide_eq_false (by omega)]
    rfl
theorem good_apart {l : List Carton} (h : good l = true) {a b : Nat} (hab : a < b) (hb : b < l.length) {f : Int} (ha : hasF f (l.getD a default) = true) : hasF f (l.getD b default) = false := by
  simp only [good, Bool.and_eq_true, decide_eq_true_eq, Bool.not_eq_true', List.any_eq_false, List.mem_range] at h
  have h1 : okAt l b = true := by simpa using h.2 b hb
  simp only [okAt, Bool.and_eq_true, Bool.not_eq_true'] at h1
  have h2 := h1.2
  rw [clash_swap, List.any_eq_false] at h2
  cases hq : hasF f (l.getD b default) with
  | false => rfl
  | true =>
    exfalso
    unfold hasF at hq
    obtain ⟨x, hx, e⟩ := List.any_eq_true.1 hq
    rw [beq_iff_eq] at e
    subst e
    refine h2 _ hx (List.any_eq_true.2 ⟨l.getD a default, ?_, ha⟩)
    rw [List.mem_iff_getElem]
    exact ⟨a, by rw [List.length_take]; omega, by rw [List.getElem_take, getD_el (by omega)]⟩
theorem firstAt_hit {p : Carton → Bool} : ∀ {l : List Carton}, 0 ≤ firstAt p l → p (l.getD (firstAt p l).toNat default) = true
  | [], h => by simp [firstAt] at h
  | x :: t, h => by
    unfold firstAt at h ⊢
    cases hx : p x with
    | true => simpa using hx
    | false =>
      simp only [hx, Bool.false_eq_true, if_false] at h ⊢
      have hb := firstAt_bd (p := p) (l := t)
      by_cases hn : firstAt p t = -1
      · rw [if_pos hn] at h; omega
      · rw [if_neg hn]
        have := firstAt_hit (l := t) (p := p) (by omega)
        rw [show (firstAt p t + 1).toNat = (firstAt p t).toNat + 1 by omega, List.getD_cons_succ]
        exact this
def upF (c : Carton) (F : List Int) : Carton := ⟨c.Id, c.Shelf, c.Room, F, c.Thick⟩
def outF (c : Carton) (f : Int) : Carton := upF c (c.Files.filter fun x => !(x == f))
def inF (c : Carton) (f : Int) : Carton := upF c (sortL (c.Files ++ [f]))
def refC (l : List Carton) (f : Int) (p q : Nat) : List Carton := (l.set p (outF (l.getD p default) f)).set q (inF (l.getD q default) f)
def RefD (l : List Carton) (f i : Int) : List Carton × Bool :=
  bif ((!(good l) || decide (idx l f < 0)) || decide (atC l i < 0)) || (idx l f == atC l i) then ([], false) else (bif !(good (refC l f (idx l f).toNat (atC l i).toNat)) then ([], false) else (refC l f (idx l f).toNat (atC l i).toNat, true))
theorem refC_small {l : List Carton} {f : Int} {p q : Nat} (hl : Small l) (hq : (l.getD q default).Files.length ≤ 1000000) : Small (refC l f p q) := by
  refine Small.set (Small.set hl ?_) ?_
  · exact Nat.le_trans (List.length_filter_le _ _) (hl.get p)
  · show (sortL _).length ≤ _
    rw [sortL_len, List.length_append]
    simp only [List.length_cons, List.length_nil]
    omega
theorem ref_case {l : List Carton} {f i : Int} (hl : Small l) (hq : (((!(good l) || decide (idx l f < 0)) || decide (atC l i < 0)) || (idx l f == atC l i)) = false) :
    ∃ p q : Nat, idx l f = (p : Int) ∧ atC l i = (q : Int) ∧ p < l.length ∧ q < l.length ∧ p ≠ q ∧ good l = true ∧ l.length ≤ 10 ∧ (l.getD p default).Files.length ≤ 12 ∧ (l.getD q default).Files.length ≤ 12 ∧ (l.getD q default).Files.Pairwise (· < ·) ∧ f ∉ (l.getD q default).Files := by
  simp only [Bool.or_eq_false_iff, Bool.not_eq_false', decide_eq_false_iff_not, beq_eq_false_iff_ne, ne_eq] at hq
  obtain ⟨⟨⟨hg, h1⟩, h2⟩, h3⟩ := hq
  have hP := good_P hg
  have hb1 := idx_bd (l := l) (f := f)
  have hb2 := atC_bd (l := l) (i := i)
  have g1 := goodOne_spec (hP.gd (idx l f).toNat (by omega))
  have g2 := goodOne_spec (hP.gd (atC l i).toNat (by omega))
  refine ⟨(idx l f).toNat, (atC l i).toNat, by omega, by omega, by omega, by omega, by omega, hg, hP.len, g1.2.2.2.1, g2.2.2.2.1, ris2_pw g2.2.2.2.2.1, fun hm => ?_⟩
  have hit : hasF f (l.getD (idx l f).toNat default) = true := firstAt_hit (p := hasF f) (show 0 ≤ firstAt (hasF f) l by have : idx l f = firstAt (hasF f) l := rfl; omega)
  have hit2 : hasF f (l.getD (atC l i).toNat default) = true := by
    unfold hasF
    exact List.any_eq_true.2 ⟨f, hm, by simp⟩
  rcases Nat.lt_or_gt_of_ne (show (idx l f).toNat ≠ (atC l i).toNat by omega) with h | h
  · rw [good_apart hg h (by omega) hit] at hit2; cases hit2
  · rw [good_apart hg h (by omega) hit2] at hit; cases hit
theorem set_ne_getD {l : List Carton} {p q : Nat} {x : Carton} (h : p ≠ q) : (l.set p x).getD q default = l.getD q default := by simp [List.getD, List.getElem?_set, h]
theorem set_eq_getD {l : List Carton} {q : Nat} {x : Carton} (h : q < l.length) : (l.set q x).getD q default = x := by simp [List.getD, List.getElem?_set, h]
theorem refI (l : List Carton) (f i : Int) (hl : Small l) : M.impl_RefileTo l f i = some (RefD l f i) := by
  have hl1 := hl.1
  unfold M.impl_RefileTo RefD
  rw [withI l f hl, Option.bind_some, atCI l i (by omega), Option.bind_some, e_iAreCartons hl, Option.bind_some]
  show (bif ((!(good l) || decide (idx l f < 0)) || decide (atC l i < 0)) || (idx l f == atC l i) then _ else _) = _
  cases hq : ((!(good l) || decide (idx l f < 0)) || decide (atC l i < 0)) || (idx l f == atC l i)
  · obtain ⟨p, q, e1, e2, hp, hq2, hne, hg, hlen, hF1, hF2, hpw, hno⟩ := ref_case hl hq
    have e3 : firstAt (fun c : Carton => c.Id == i) l = (q : Int) := e2
    rw [cond_false, cond_false, copyI l hl, Option.bind_some, e1, e2, e3, Int.toNat_natCast, Int.toNat_natCast, asrt_pos ⟨by omega, by omega⟩, delI _ (fun x => x == f) (fun x0 => M.impl_RefileTo_1 x0 f) (fun x _ => rfl) (by omega), Option.bind_some, asrt_pos ⟨by omega, by omega⟩]
    have u1 : (⟨(l.getD p default).Id, (l.getD p default).Shelf, (l.getD p default).Room, (l.getD p default).Files.filter (fun x => !(x == f)), (l.getD p default).Thick⟩ : Carton) = outF (l.getD p default) f := rfl
    rw [u1, set_ne_getD hne, List.length_set, asrt_pos ⟨by omega, by omega⟩, asrt_pos ⟨by omega, by omega⟩, asrt_pos (by simp only [List.length_cons, List.length_nil]; omega), asrt_pos ⟨by omega, by omega⟩, Option.bind_some]
    try dsimp only
    have hs := e_iAreCartons (refC_small (f := f) (p := p) (q := q) hl (by omega))
    rw [asrt_pos ⟨by omega, by rw [List.length_set, List.length_set]; omega⟩, set_eq_getD (by rw [List.length_set]; exact hq2)]
    try dsimp only
    unfold M.slices_Sort_int_int
    rw [asrt_pos (by simp only [List.length_append, List.length_cons, List.length_nil]; omega), Option.bind_some, asrt_pos (sortL_len _), List.set_set]
    show ((M.impl_AreCartons (refC l f p q)).bind fun y6 => bif !y6 then some (([] : List Carton), false) else some (refC l f p q, true)) = _
    rw [hs, Option.bind_some]
    cases !(good (refC l f p q)) <;> rfl
  · rfl
theorem refS (l : List Carton) (f i : Int) (hl : Small l) : M.spec_RefileTo l f i = some (RefD l f i) := by
  have hl1 := hl.1
  unfold M.spec_RefileTo RefD
  rw [e_l18Holds hl, Option.bind_some, findS l i (by omega), Option.bind_some, e_l18Good hl, Option.bind_some]
  show (bif ((!(good l) || decide (idx l f < 0)) || decide (atC l i < 0)) || (idx l f == atC l i) then _ else _) = _
  cases hq : ((!(good l) || decide (idx l f < 0)) || decide (atC l i < 0)) || (idx l f == atC l i)
  · obtain ⟨p, q, e1, e2, hp, hq2, hne, hg, hlen, hF1, hF2, hpw, hno⟩ := ref_case hl hq
    have e3 : firstAt (fun c : Carton => c.Id == i) l = (q : Int) := e2
    have e4 : firstAt (hasF f) l = (p : Int) := e1
    rw [cond_false, cond_false, ownS l hl, Option.bind_some, e1, e2, e3, e4, Int.toNat_natCast, Int.toNat_natCast, asrt_pos ⟨by omega, by omega⟩, asrt_pos ⟨by omega, by omega⟩, Option.bind_some]
    try dsimp only
    have hs := e_l18Good (refC_small (f := f) (p := p) (q := q) hl (by omega))
    rw [withoutS _ _ (by omega), Option.bind_some, putSort hpw hno (by omega), Option.bind_some, asrt_pos ⟨by omega, by omega⟩, List.length_set, asrt_pos ⟨by omega, by omega⟩]
    show ((M.spec_l18Good (refC l f p q)).bind fun y6 => bif !y6 then some (([] : List Carton), false) else some (refC l f p q, true)) = _
    rw [hs, Option.bind_some]
    cases !(good (refC l f p q)) <;> rfl
  · rfl
theorem RefD_small {l : List Carton} {f i : Int} (hl : Small l) : Small (RefD l f i).1 := by
  unfold RefD
  cases hq : ((!(good l) || decide (idx l f < 0)) || decide (atC l i < 0)) || (idx l f == atC l i)
  · obtain ⟨p, q, e1, e2, hp, hq2, hne, hg, hlen, hF1, hF2, hpw, hno⟩ := ref_case hl hq
    rw [e1, e2, Int.toNat_natCast, Int.toNat_natCast]
    cases !(good (refC l f p q))
    · exact refC_small hl (by omega)
    · exact Small.nil
  · exact Small.nil
end Go.Proofs.Ytfebeomnlkfgoaa
