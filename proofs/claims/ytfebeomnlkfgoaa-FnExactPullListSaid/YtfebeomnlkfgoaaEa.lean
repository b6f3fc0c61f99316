/-
  Cartons: where files are, lists to pull. Plain.
-/
import Derived.Test.YtfebeomnlkfgoaaPe
import Derived.Test.YtfebeomnlkfgoaaLi
set_option linter.unusedSimpArgs false
set_option linter.unusedVariables false
namespace Go.Proofs.Ytfebeomnlkfgoaa
open Go.VS

/-! ### Valid cartons -/
theorem inB_true {x a b : Int} : inB x a b = true ↔ a ≤ x ∧ x ≤ b := by simp [inB]
structure GoodP (l : List Carton) : Prop where
  len : l.length ≤ 10
  gd : ∀ k, k < l.length → goodOne (l.getD k default) = true
  up : ∀ j k, j < k → k < l.length → (l.getD j default).Id < (l.getD k default).Id
theorem good_P {l : List Carton} (h : good l = true) : GoodP l := by
  simp only [good, Bool.and_eq_true, decide_eq_true_eq, Bool.not_eq_true', List.any_eq_false, List.mem_range] at h
  have h2 : ∀ k, k < l.length → okA l k = false := fun k hk => okAt_okA (by simpa using h.2 k hk)
  refine ⟨by omega, fun k hk => okA_good (h2 k hk), ?_⟩
  intro j k hj
  induction k with
  | zero => omega
  | succ k ih =>
    intro hk
    have h1 := h2 (k + 1) hk
    simp only [okA, Bool.or_eq_false_iff, Bool.and_eq_false_iff, decide_eq_false_iff_not, Nat.add_sub_cancel] at h1
    by_cases e : j = k
    · subst e; omega
    · have := ih (by omega) (by omega); omega
theorem goodOne_spec {c : Carton} (h : goodOne c = true) : (1 ≤ c.Id ∧ c.Id ≤ 99) ∧ (1 ≤ c.Room ∧ c.Room ≤ 9) ∧ (1 ≤ c.Shelf ∧ c.Shelf ≤ 30) ∧ c.Files.length ≤ 12 ∧ ris2 c.Files 1 999 = true ∧ (1 ≤ c.Thick ∧ c.Thick ≤ 40) := by
  unfold goodOne at h
  simp only [Bool.and_eq_true, inB_true, decide_eq_true_eq] at h
  exact ⟨h.1.1.1.1, h.1.1.1.2.1, h.1.1.1.2.2, by have := h.1.1.2; omega, h.1.2, h.2⟩
theorem GoodP.elt {l : List Carton} (h : GoodP l) {i : Int} (h0 : 0 ≤ i) (h1 : i < (l.length : Int)) : goodOne (l.getD i.toNat default) = true := h.gd _ (by omega)

/-! ### Where a file is -/
def idx (l : List Carton) (f : Int) : Int := firstAt (hasF f) l
theorem withI (l : List Carton) (f : Int) (hl : Small l) : M.impl_cartonWith l f = some (idx l f) := by
  have hl1 := hl.1
  unfold M.impl_cartonWith M.slices_IndexFunc_impl_Carton_impl_Carton idx
  rcases iter_find (step := M.slices_IndexFunc_impl_Carton_impl_Carton_l0 l (fun x0 => M.impl_cartonWith_1 x0 f)) (s := 0) (fun k => (k : Int)) l.length (fun k => hasF f (l.getD k default)) (fun k => .inr (k : Int)) (.inl ()) rfl (by omega)
    (fun k hk hp => by
      have h1 : M.impl_cartonWith_1 (l.getD k default) f = some (hasF f (l.getD k default)) := by
        unfold M.impl_cartonWith_1 hasF
        rw [e_Contains (hl.2 _ (getD_mem hk)), Option.bind_some]
        congr 2
        funext x
        rw [Bool.eq_iff_iff, beq_iff_eq, beq_iff_eq]; exact eq_comm
      unfold M.slices_IndexFunc_impl_Carton_impl_Carton_l0; simp (disch := first | omega | (intros; simp only [decide_eq_true_eq, decide_eq_false_iff_not, Bool.not_eq_true, Bool.not_eq_false, Bool.not_true, Bool.not_false] at *; omega)) only [cast_succ, asrt_pos, wrap64_id, Option.bind_some, cond_true, cond_false, decide_eq_true, decide_eq_false, Int.toNat_natCast, Bool.not_true, Bool.not_false, Bool.and_true, Bool.true_and, Bool.and_false, Bool.false_and, Bool.or_true, Bool.true_or, Bool.or_false, Bool.false_or, h1, hp])
    (fun k hk hp => by
      have h1 : M.impl_cartonWith_1 (l.getD k default) f = some (hasF f (l.getD k default)) := by
        unfold M.impl_cartonWith_1 hasF
        rw [e_Contains (hl.2 _ (getD_mem hk)), Option.bind_some]
        congr 2
        funext x
        rw [Bool.eq_iff_iff, beq_iff_eq, beq_iff_eq]; exact eq_comm
      unfold M.slices_IndexFunc_impl_Carton_impl_Carton_l0; simp (disch := first | omega | (intros; simp only [decide_eq_true_eq, decide_eq_false_iff_not, Bool.not_eq_true, Bool.not_eq_false, Bool.not_true, Bool.not_false] at *; omega)) only [cast_succ, asrt_pos, wrap64_id, Option.bind_some, cond_true, cond_false, decide_eq_true, decide_eq_false, Int.toNat_natCast, Bool.not_true, Bool.not_false, Bool.and_true, Bool.true_and, Bool.and_false, Bool.false_and, Bool.or_true, Bool.true_or, Bool.or_false, Bool.false_or, h1, hp])
    (by unfold M.slices_IndexFunc_impl_Carton_impl_Carton_l0; simp (disch := first | omega | (intros; simp only [decide_eq_true_eq, decide_eq_false_iff_not, Bool.not_eq_true, Bool.not_eq_false, Bool.not_true, Bool.not_false] at *; omega)) only [cast_succ, asrt_pos, wrap64_id, Option.bind_some, cond_true, cond_false, decide_eq_true, decide_eq_false, Int.toNat_natCast, Bool.not_true, Bool.not_false, Bool.and_true, Bool.true_and, Bool.and_false, Bool.false_and, Bool.or_true, Bool.true_or, Bool.or_false, Bool.false_or]) with ⟨k, h1, h2, h3, h4⟩ | ⟨h1, h2⟩
  · rw [h4, firstAt_some h1 h3 h2]; rfl
  · rw [h2, firstAt_none h1]; rfl
theorem atCI (l : List Carton) (i : Int) (hl : l.length < 2000000) : M.impl_cartonAt l i = some (firstAt (fun c : Carton => c.Id == i) l) := by
  unfold M.impl_cartonAt M.slices_IndexFunc_impl_Carton_impl_Carton
  rcases iter_find (step := M.slices_IndexFunc_impl_Carton_impl_Carton_l0 l (fun x0 => M.impl_cartonAt_1 x0 i)) (s := 0) (fun k => (k : Int)) l.length (fun k => (l.getD k default).Id == i) (fun k => .inr (k : Int)) (.inl ()) rfl (by omega)
    (fun k hk hp => by unfold M.slices_IndexFunc_impl_Carton_impl_Carton_l0 M.impl_cartonAt_1; simp (disch := first | omega | (intros; simp only [decide_eq_true_eq, decide_eq_false_iff_not, Bool.not_eq_true, Bool.not_eq_false, Bool.not_true, Bool.not_false] at *; omega)) only [cast_succ, asrt_pos, wrap64_id, Option.bind_some, cond_true, cond_false, decide_eq_true, decide_eq_false, Int.toNat_natCast, Bool.not_true, Bool.not_false, Bool.and_true, Bool.true_and, Bool.and_false, Bool.false_and, Bool.or_true, Bool.true_or, Bool.or_false, Bool.false_or, hp])
    (fun k hk hp => by unfold M.slices_IndexFunc_impl_Carton_impl_Carton_l0 M.impl_cartonAt_1; simp (disch := first | omega | (intros; simp only [decide_eq_true_eq, decide_eq_false_iff_not, Bool.not_eq_true, Bool.not_eq_false, Bool.not_true, Bool.not_false] at *; omega)) only [cast_succ, asrt_pos, wrap64_id, Option.bind_some, cond_true, cond_false, decide_eq_true, decide_eq_false, Int.toNat_natCast, Bool.not_true, Bool.not_false, Bool.and_true, Bool.true_and, Bool.and_false, Bool.false_and, Bool.or_true, Bool.true_or, Bool.or_false, Bool.false_or, hp])
    (by unfold M.slices_IndexFunc_impl_Carton_impl_Carton_l0; simp (disch := first | omega | (intros; simp only [decide_eq_true_eq, decide_eq_false_iff_not, Bool.not_eq_true, Bool.not_eq_false, Bool.not_true, Bool.not_false] at *; omega)) only [cast_succ, asrt_pos, wrap64_id, Option.bind_some, cond_true, cond_false, decide_eq_true, decide_eq_false, Int.toNat_natCast, Bool.not_true, Bool.not_false, Bool.and_true, Bool.true_and, Bool.and_false, Bool.false_and, Bool.or_true, Bool.true_or, Bool.or_false, Bool.false_or]) with ⟨k, h1, h2, h3, h4⟩ | ⟨h1, h2⟩
  · rw [h4, firstAt_some (p := fun c : Carton => c.Id == i) h1 h3 h2]; rfl
  · rw [h2, firstAt_none (p := fun c : Carton => c.Id == i) h1]; rfl
theorem idx_bd {l : List Carton} {f : Int} : -1 ≤ idx l f ∧ idx l f < (l.length : Int) := firstAt_bd

/-! ### Sorted by a key -/
def insPosC (K : Carton → Int) (P : List Carton) (x : Carton) : Nat → Nat
  | 0 => 0
  | k + 1 => if K x < K (P.getD k default) then insPosC K P x k else k + 1
def insC (K : Carton → Int) (P : List Carton) (x : Carton) : List Carton := P.take (insPosC K P x P.length) ++ x :: P.drop (insPosC K P x P.length)
def srtC (K : Carton → Int) (D : List Carton) : List Carton := D.foldl (insC K) []
theorem insC_perm {K : Carton → Int} {P : List Carton} {x : Carton} : List.Perm (insC K P x) (x :: P) := by
  unfold insC
  refine List.perm_middle.trans ?_
  rw [List.take_append_drop]
theorem srtC_snoc {K : Carton → Int} {D : List Carton} {x : Carton} : srtC K (D ++ [x]) = insC K (srtC K D) x := by unfold srtC; rw [List.foldl_append]; rfl
theorem insPosC_spec {K : Carton → Int} {P : List Carton} {x : Carton} : ∀ k, insPosC K P x k ≤ k ∧ (∀ j, insPosC K P x k ≤ j → j < k → K x < K (P.getD j default)) ∧ (0 < insPosC K P x k → K (P.getD (insPosC K P x k - 1) default) ≤ K x)
  | 0 => ⟨Nat.le_refl _, fun j h1 h2 => absurd h2 (Nat.not_lt_zero _), fun h => absurd h (Nat.lt_irrefl _)⟩
  | k + 1 => by
    obtain ⟨h1, h2, h3⟩ := insPosC_spec (K := K) (P := P) (x := x) k
    unfold insPosC
    split
    · rename_i hq
      refine ⟨by omega, fun j g1 g2 => ?_, h3⟩
      by_cases e : j = k
      · subst e; exact hq
      · exact h2 j g1 (by omega)
    · rename_i hq
      refine ⟨Nat.le_refl _, fun j g1 g2 => by omega, fun _ => ?_⟩
      rw [Nat.add_sub_cancel]; omega
theorem insC_sorted {K : Carton → Int} {P : List Carton} {x : Carton} (h : P.Pairwise fun a b => K a ≤ K b) : (insC K P x).Pairwise fun a b => K a ≤ K b := by
  obtain ⟨h1, h2, h3⟩ := insPosC_spec (K := K) (P := P) (x := x) P.length
  unfold insC
  generalize insPosC K P x P.length = p at h1 h2 h3
  have hpw := List.pairwise_iff_getElem.1 h
  rw [List.pairwise_append, List.pairwise_cons]
  have hd : ∀ b ∈ P.drop p, K x < K b := by
    intro b hb
    obtain ⟨j, hj, rfl⟩ := List.getElem_of_mem hb
    rw [List.length_drop] at hj
    rw [List.getElem_drop]
    have := h2 (p + j) (by omega) (by omega)
    rwa [getD_el (by omega)] at this
  have ht : ∀ a ∈ P.take p, K a ≤ K x := by
    intro a ha
    obtain ⟨j, hj, rfl⟩ := List.getElem_of_mem ha
    rw [List.length_take] at hj
    rw [List.getElem_take]
    have g := h3 (by omega)
    rw [getD_el (by omega)] at g
    by_cases e : j = p - 1
    · subst e; exact g
    · exact Int.le_trans (hpw j (p - 1) (by omega) (by omega) (by omega)) g
  refine ⟨h.sublist (List.take_sublist _ _), ⟨fun b hb => Int.le_of_lt (hd b hb), h.sublist (List.drop_sublist _ _)⟩, fun a ha b hb => ?_⟩
  rcases List.mem_cons.1 hb with e | e
  · subst e; exact ht a ha
  · exact Int.le_trans (ht a ha) (Int.le_of_lt (hd b e))
theorem srtC_ok (K : Carton → Int) (D : List Carton) : List.Perm (srtC K D) D ∧ (srtC K D).Pairwise fun a b => K a ≤ K b := by
  have key : ∀ (E P : List Carton), (P.Pairwise fun a b => K a ≤ K b) → List.Perm (E.foldl (insC K) P) (P ++ E) ∧ (E.foldl (insC K) P).Pairwise fun a b => K a ≤ K b := by
    intro E
    induction E with
    | nil => intro P h; exact ⟨by simp, h⟩
    | cons x E ih =>
      intro P h
      obtain ⟨h1, h2⟩ := ih (insC K P x) (insC_sorted h)
      exact ⟨h1.trans ((insC_perm.append_right E).trans List.perm_middle.symm), h2⟩
  exact key D [] List.Pairwise.nil
theorem srtC_len {K : Carton → Int} {D : List Carton} : (srtC K D).length = D.length := (srtC_ok K D).1.length_eq
theorem swap_atC {p x : Carton} {B : List Carton} : ∀ A : List Carton, (A ++ p :: x :: B).getD A.length default = p ∧ (A ++ p :: x :: B).getD (A.length + 1) default = x ∧ ((A ++ p :: x :: B).set (A.length + 1) p).set A.length x = A ++ x :: p :: B
  | [] => ⟨rfl, rfl, rfl⟩
  | a :: A => by
    obtain ⟨h1, h2, h3⟩ := swap_atC (p := p) (x := x) (B := B) A
    refine ⟨?_, ?_, ?_⟩
    · simp
    · simp
    · simp

theorem insInnerC (K : Carton → Int) (fm : Carton → Carton → Option Int) (P R : List Carton) (x : Carton) (hl : (P ++ x :: R).length < 1000000) (hfm : ∀ e ∈ P, ∃ c, fm x e = some c ∧ (c < 0 ↔ K x < K e)) :
    iterO (M.slices_insertionSortCmpFunc_impl_Carton_l1 0 fm) (P ++ x :: R, (P.length : Int)) = some (insC K P x ++ R) := by
  apply T.eq
  have hl' : P.length < 1000000 := by simp at hl; omega
  refine T_iter (fun s => ∃ k : Nat, s = (P.take k ++ x :: (P.drop k ++ R), (k : Int)) ∧ k ≤ P.length ∧ insPosC K P x k = insPosC K P x P.length) (fun s => s.2.toNat) _ ⟨P.length, by simp, Nat.le_refl _, rfl⟩ (by simp only; omega) ?_
  rintro _ ⟨k, rfl, h1, h2⟩
  unfold M.slices_insertionSortCmpFunc_impl_Carton_l1
  try dsimp only
  cases k with
  | zero =>
    refine T_ask (fun hq => by simp at hq) (T_ask (fun hq => by simp at hq) ?_)
    rw [decide_eq_false (show ¬ (((0 : Nat) : Int) > 0) by omega), cond_false, Option.bind_some, Bool.false_and, cond_false]
    refine T_ret ?_
    unfold insC
    rw [← h2]
    simp [insPosC]
  | succ k =>
    have hk : k < P.length := by omega
    have hA : (P.take k).length = k := by rw [List.length_take]; omega
    have ePd : P.drop k = P.getD k default :: P.drop (k + 1) := by
      rw [List.drop_eq_getElem_cons hk, getD_el hk]
    have eD : P.take (k + 1) ++ x :: (P.drop (k + 1) ++ R) = P.take k ++ P.getD k default :: x :: (P.drop (k + 1) ++ R) := by
      rw [take_succ_getD hk]; simp
    have hlen : (P.take (k + 1) ++ x :: (P.drop (k + 1) ++ R)).length = (P ++ x :: R).length := by
      simp; omega
    obtain ⟨s1, s2, s3⟩ := swap_atC (p := P.getD k default) (x := x) (B := P.drop (k + 1) ++ R) (P.take k)
    rw [hA, ← eD] at s1 s2 s3
    have hL : k + 1 < (P ++ x :: R).length := by simp; omega
    rw [wrap64_id (n := ((k + 1 : Nat) : Int) - 1) (by omega) (by omega), show ((k + 1 : Nat) : Int) - 1 = (k : Int) by omega, Int.toNat_natCast, Int.toNat_natCast, hlen, s1, s2]
    refine T_ask (fun _ => ⟨by omega, by omega⟩) (T_ask (fun _ => ⟨by omega, by omega⟩) ?_)
    obtain ⟨c, hc1, hc2⟩ := hfm (P.getD k default) (getD_mem hk)
    rw [decide_eq_true (show ((k + 1 : Nat) : Int) > 0 by omega), cond_true, hc1, Option.bind_some, Bool.true_and]
    have eI : insPosC K P x (k + 1) = if K x < K (P.getD k default) then insPosC K P x k else k + 1 := rfl
    refine T_if (fun hq => ?_) (fun hq => ?_)
    · simp only [decide_eq_true_eq] at hq
      refine T_ask ⟨by omega, by omega⟩ (T_ask ⟨by omega, by omega⟩ (T_ask ⟨by omega, by omega⟩ (T_ask ⟨by omega, by rw [List.length_set, hlen]; omega⟩ ?_)))
      refine T_ret ?_
      rw [s3]
      refine ⟨⟨k, ?_, by omega, ?_⟩, by simp only; omega⟩
      · rw [ePd]; simp
      · rw [← h2, eI, if_pos (hc2.1 hq)]
    · simp only [decide_eq_false_iff_not] at hq
      refine T_ret ?_
      unfold insC
      rw [← h2, eI, if_neg (fun h => hq (hc2.2 h))]
      simp

theorem insOuterC (K : Carton → Int) (fm : Carton → Carton → Option Int) (D : List Carton) (hn : D.length < 100000) (hfm : ∀ a ∈ D, ∀ b ∈ D, ∃ c, fm a b = some c ∧ (c < 0 ↔ K a < K b)) : M.slices_insertionSortCmpFunc_impl_Carton D 0 (D.length : Int) fm = some (srtC K D) := by
  unfold M.slices_insertionSortCmpFunc_impl_Carton
  rw [show IntKind.i64.wrap (0 + 1) = 1 from wrap64_id (by omega) (by omega)]
  cases D with
  | nil =>
    rw [iterO_now (e := ([] : List Carton)) (by unfold M.slices_insertionSortCmpFunc_impl_Carton_l0; rfl)]
    rfl
  | cons d E =>
    obtain ⟨D, hD⟩ : ∃ D, d :: E = D := ⟨_, rfl⟩
    have hlen : D.length = E.length + 1 := by rw [← hD]; rfl
    rw [hD] at hn hfm ⊢
    rw [iter_up (s := (D, (1 : Int))) (step := M.slices_insertionSortCmpFunc_impl_Carton_l0 0 (D.length : Int) fm) (e := srtC K D) (fun k => (srtC K (D.take (k + 1)) ++ D.drop (k + 1), ((k + 1 : Nat) : Int))) E.length (by rw [← hD]; rfl) (by omega) (fun k hk => by
      unfold M.slices_insertionSortCmpFunc_impl_Carton_l0
      try dsimp only
      have hk1 : k + 1 < D.length := by omega
      rw [decide_eq_true (show ((k + 1 : Nat) : Int) < (D.length : Int) by omega), cond_true, List.drop_eq_getElem_cons hk1]
      have hP : (srtC K (D.take (k + 1))).length = k + 1 := by rw [srtC_len, List.length_take]; omega
      have := insInnerC K fm (srtC K (D.take (k + 1))) (D.drop (k + 1 + 1)) D[k + 1] (by simp [hP]; omega) (fun e he => by
        have he2 := (srtC_ok K (D.take (k + 1))).1.mem_iff.1 he
        exact hfm _ (List.getElem_mem hk1) _ (List.mem_of_mem_take he2))
      rw [hP] at this
      rw [this, Option.bind_some]
      try dsimp only
      rw [wrap64_id (by omega) (by omega), take_succ_getD hk1, srtC_snoc, getD_el hk1]
      rfl) (by
      unfold M.slices_insertionSortCmpFunc_impl_Carton_l0
      try dsimp only
      rw [decide_eq_false (by omega), cond_false, List.drop_eq_nil_of_le (by omega), List.append_nil, List.take_of_length_le (by omega)])]
    rfl

theorem bitsLenC : ∀ n : Nat, n ≤ 12 → ∃ v, M.math_bits_Len (IntKind.u64.wrap (n : Int)) = some v := by
  have h : ∀ n : Fin 13, (M.math_bits_Len (IntKind.u64.wrap ((n : Nat) : Int))).isSome = true := by decide +kernel
  intro n hn
  have := h ⟨n, by omega⟩
  simp only at this
  exact Option.isSome_iff_exists.1 this
theorem sortCI (K : Carton → Int) (fm : Carton → Carton → Option Int) (D : List Carton) (hn : D.length ≤ 12) (hfm : ∀ a ∈ D, ∀ b ∈ D, ∃ c, fm a b = some c ∧ (c < 0 ↔ K a < K b)) : M.slices_SortFunc_impl_Carton_impl_Carton D fm = some (srtC K D) := by
  unfold M.slices_SortFunc_impl_Carton_impl_Carton M.slices_pdqsortCmpFunc_impl_Carton
  obtain ⟨v, hv⟩ := bitsLenC D.length hn
  rw [hv, Option.bind_some, iterO_now (e := srtC K D) (by
    unfold M.slices_pdqsortCmpFunc_impl_Carton_l0
    try dsimp only
    rw [wrap64_id (by omega) (by omega), asrt_pos (by rw [decide_eq_true_eq]; omega), insOuterC K fm D (by omega) hfm, Option.bind_some, asrt_pos srtC_len]), Option.bind_some]
  try dsimp only
  rw [Option.bind_some, asrt_pos srtC_len]

/-! ### The key of a carton -/
def keyC (c : Carton) : Int := c.Room * 10000 + c.Shelf * 100 + c.Id
theorem key_id {c : Carton} (h : goodOne c = true) : keyC c % 100 = c.Id := by
  have := goodOne_spec h
  unfold keyC
  omega
def cmpC (x y : Int) : Int := if x < y then -1 else if x > y then 1 else 0
theorem cmpCI (x y : Int) : M.cmp_Compare_int x y = some (cmpC x y) := by
  unfold M.cmp_Compare_int M.cmp_isNaN_int cmpC
  by_cases h1 : x < y
  · simp [h1]
  · by_cases h2 : y < x
    · simp [h1, h2]
    · simp [h1, h2]
theorem or3I (x y z : Int) : M.cmp_Or_int [x, y, z] = some (if x ≠ 0 then x else if y ≠ 0 then y else z) := by
  have key : iterO (M.cmp_Or_int_l0 [x, y, z]) 0 = some (if x ≠ 0 then .inr x else if y ≠ 0 then .inr y else if z ≠ 0 then .inr z else .inl ()) := by
    have s0 : M.cmp_Or_int_l0 [x, y, z] 0 = some (bif x != 0 then .inr (.inr x) else .inl 1) := by
      have e : M.cmp_Or_int_l0 [x, y, z] 0 = (bif x != 0 then some (.inr (.inr x)) else some (.inl (IntKind.i64.wrap (0 + 1)))) := rfl
      rw [e, show IntKind.i64.wrap (0 + 1) = 1 from wrap64_id (by omega) (by omega)]
      cases x != 0 <;> rfl
    have s1 : M.cmp_Or_int_l0 [x, y, z] 1 = some (bif y != 0 then .inr (.inr y) else .inl 2) := by
      have e : M.cmp_Or_int_l0 [x, y, z] 1 = (bif y != 0 then some (.inr (.inr y)) else some (.inl (IntKind.i64.wrap (1 + 1)))) := rfl
      rw [e, show IntKind.i64.wrap (1 + 1) = 2 from wrap64_id (by omega) (by omega)]
      cases y != 0 <;> rfl
    have s2 : M.cmp_Or_int_l0 [x, y, z] 2 = some (bif z != 0 then .inr (.inr z) else .inl 3) := by
      have e : M.cmp_Or_int_l0 [x, y, z] 2 = (bif z != 0 then some (.inr (.inr z)) else some (.inl (IntKind.i64.wrap (2 + 1)))) := rfl
      rw [e, show IntKind.i64.wrap (2 + 1) = 3 from wrap64_id (by omega) (by omega)]
      cases z != 0 <;> rfl
    have s3 : M.cmp_Or_int_l0 [x, y, z] 3 = some (.inr (.inl ())) := rfl
    by_cases hx : x = 0
    · rw [show (x != 0) = false by simp [hx]] at s0
      by_cases hy : y = 0
      · rw [show (y != 0) = false by simp [hy]] at s1
        by_cases hz : z = 0
        · rw [show (z != 0) = false by simp [hz]] at s2
          rw [if_neg (by simp [hx]), if_neg (by simp [hy]), if_neg (by simp [hz])]
          exact iter_up (s := 0) (fun k => (k : Int)) 3 rfl (by omega) (fun k hk => by
            rcases (by omega : k = 0 ∨ k = 1 ∨ k = 2) with rfl | rfl | rfl
            · exact s0
            · exact s1
            · exact s2) s3
        · rw [show (z != 0) = true by simp [hz]] at s2
          rw [if_neg (by simp [hx]), if_neg (by simp [hy]), if_pos hz]
          exact iter_up (s := 0) (fun k => (k : Int)) 2 rfl (by omega) (fun k hk => by
            rcases (by omega : k = 0 ∨ k = 1) with rfl | rfl
            · exact s0
            · exact s1) s2
      · rw [show (y != 0) = true by simp [hy]] at s1
        rw [if_neg (by simp [hx]), if_pos hy]
        exact iter_up (s := 0) (fun k => (k : Int)) 1 rfl (by omega) (fun k hk => by
          obtain rfl : k = 0 := by omega
          exact s0) s1
    · rw [show (x != 0) = true by simp [hx]] at s0
      rw [if_pos hx]
      exact iter_up (s := 0) (fun k => (k : Int)) 0 rfl (by omega) (fun k hk => absurd hk (Nat.not_lt_zero _)) s0
  unfold M.cmp_Or_int
  rw [key, Option.bind_some]
  by_cases hx : x = 0
  · by_cases hy : y = 0
    · by_cases hz : z = 0
      · simp [hx, hy, hz]
      · simp [hx, hy, hz]
    · simp [hx, hy]
  · simp [hx]
theorem cmpKey (a b : Carton) (ha : goodOne a = true) (hb : goodOne b = true) : ∃ c, M.impl_PullList_1 a b = some c ∧ (c < 0 ↔ keyC a < keyC b) := by
  have h1 := goodOne_spec ha
  have h2 := goodOne_spec hb
  refine ⟨_, by unfold M.impl_PullList_1; rw [cmpCI, Option.bind_some, cmpCI, Option.bind_some, cmpCI, Option.bind_some, or3I, Option.bind_some], ?_⟩
  unfold keyC cmpC
  by_cases r1 : a.Room < b.Room
  · simp only [r1, if_true]; simp; omega
  · by_cases r2 : a.Room > b.Room
    · simp only [r1, r2, if_true, if_false]; simp; omega
    · have r3 : a.Room = b.Room := by omega
      by_cases s1 : a.Shelf < b.Shelf
      · simp only [r3, s1, if_true, Int.lt_irrefl, if_false]; simp; omega
      · by_cases s2 : a.Shelf > b.Shelf
        · simp only [r3, s1, s2, if_true, Int.lt_irrefl, if_false]; simp; omega
        · have s3 : a.Shelf = b.Shelf := by omega
          by_cases i1 : a.Id < b.Id
          · simp only [r3, s3, i1, if_true, Int.lt_irrefl, if_false]; simp; omega
          · by_cases i2 : a.Id > b.Id
            · simp only [r3, s3, i1, i2, if_true, Int.lt_irrefl, if_false]; simp; omega
            · have i3 : a.Id = b.Id := by omega
              simp only [r3, s3, i3, Int.lt_irrefl, if_false]; simp
end Go.Proofs.Ytfebeomnlkfgoaa
