/-
  Words that are hidden: the spans put in order, hidden words, the law. Plain.
-/
import Derived.Test.YteocnbeefedbkaaDoorHv
set_option linter.unusedSimpArgs false
set_option linter.unusedVariables false
namespace Go.Proofs.YteocnbeefedbkaaDoor
open Go.VS

/-! ### Sorting spans -/
def insPosP (K : Span → Int) (P : List Span) (x : Span) : Nat → Nat
  | 0 => 0
  | k + 1 => if K x < K (P.getD k default) then insPosP K P x k else k + 1
def insP (K : Span → Int) (P : List Span) (x : Span) : List Span := P.take (insPosP K P x P.length) ++ x :: P.drop (insPosP K P x P.length)
def srtP (K : Span → Int) (D : List Span) : List Span := D.foldl (insP K) []
theorem insP_perm {K : Span → Int} {P : List Span} {x : Span} : List.Perm (insP K P x) (x :: P) := by
  unfold insP
  refine List.perm_middle.trans ?_
  rw [List.take_append_drop]
theorem srtP_snoc {K : Span → Int} {D : List Span} {x : Span} : srtP K (D ++ [x]) = insP K (srtP K D) x := by unfold srtP; rw [List.foldl_append]; rfl
theorem insPosP_spec {K : Span → Int} {P : List Span} {x : Span} : ∀ k, insPosP K P x k ≤ k ∧ (∀ j, insPosP K P x k ≤ j → j < k → K x < K (P.getD j default)) ∧ (0 < insPosP K P x k → K (P.getD (insPosP K P x k - 1) default) ≤ K x)
  | 0 => ⟨Nat.le_refl _, fun j h1 h2 => absurd h2 (Nat.not_lt_zero _), fun h => absurd h (Nat.lt_irrefl _)⟩
  | k + 1 => by
    obtain ⟨h1, h2, h3⟩ := insPosP_spec (K := K) (P := P) (x := x) k
    unfold insPosP
    split
    · rename_i hq
      refine ⟨by omega, fun j g1 g2 => ?_, h3⟩
      by_cases e : j = k
      · subst e; exact hq
      · exact h2 j g1 (by omega)
    · rename_i hq
      refine ⟨Nat.le_refl _, fun j g1 g2 => by omega, fun _ => ?_⟩
      rw [Nat.add_sub_cancel]; omega
theorem insP_sorted {K : Span → Int} {P : List Span} {x : Span} (h : P.Pairwise fun a b => K a ≤ K b) : (insP K P x).Pairwise fun a b => K a ≤ K b := by
  obtain ⟨h1, h2, h3⟩ := insPosP_spec (K := K) (P := P) (x := x) P.length
  unfold insP
  generalize insPosP K P x P.length = p at h1 h2 h3
  have hpw := List.pairwise_iff_getElem.1 h
  rw [List.pairwise_append, List.pairwise_cons]
  have hd : ∀ b ∈ P.drop p, K x < K b := by
    intro b hb
    obtain ⟨j, hj, rfl⟩ := List.getElem_of_mem hb
    rw [List.length_drop] at hj
    rw [List.getElem_drop]
    have := h2 (p + j) (by omega) (by omega)
    rwa [getD_el (by omega)] at this
  have ht : ∀ a ∈ P.take p, K a ≤ K x := by
    intro a ha
    obtain ⟨j, hj, rfl⟩ := List.getElem_of_mem ha
    rw [List.length_take] at hj
    rw [List.getElem_take]
    have g := h3 (by omega)
    rw [getD_el (by omega)] at g
    by_cases e : j = p - 1
    · subst e; exact g
    · exact Int.le_trans (hpw j (p - 1) (by omega) (by omega) (by omega)) g
  refine ⟨h.sublist (List.take_sublist _ _), ⟨fun b hb => Int.le_of_lt (hd b hb), h.sublist (List.drop_sublist _ _)⟩, fun a ha b hb => ?_⟩
  rcases List.mem_cons.1 hb with e | e
  · subst e; exact ht a ha
  · exact Int.le_trans (ht a ha) (Int.le_of_lt (hd b e))
theorem srtP_ok (K : Span → Int) (D : List Span) : List.Perm (srtP K D) D ∧ (srtP K D).Pairwise fun a b => K a ≤ K b := by
  have key : ∀ (E P : List Span), (P.Pairwise fun a b => K a ≤ K b) → List.Perm (E.foldl (insP K) P) (P ++ E) ∧ (E.foldl (insP K) P).Pairwise fun a b => K a ≤ K b := by
    intro E
    induction E with
    | nil => intro P h; exact ⟨by simp, h⟩
    | cons x E ih =>
      intro P h
      obtain ⟨h1, h2⟩ := ih (insP K P x) (insP_sorted h)
      exact ⟨h1.trans ((insP_perm.append_right E).trans List.perm_middle.symm), h2⟩
  exact key D [] List.Pairwise.nil
theorem srtP_len {K : Span → Int} {D : List Span} : (srtP K D).length = D.length := (srtP_ok K D).1.length_eq
theorem swap_atP {p x : Span} {B : List Span} : ∀ A : List Span, (A ++ p :: x :: B).getD A.length default = p ∧ (A ++ p :: x :: B).getD (A.length + 1) default = x ∧ ((A ++ p :: x :: B).set (A.length + 1) p).set A.length x = A ++ x :: p :: B
  | [] => ⟨rfl, rfl, rfl⟩
  | a :: A => by
    obtain ⟨h1, h2, h3⟩ := swap_atP (p := p) (x := x) (B := B) A
    refine ⟨?_, ?_, ?_⟩
    · simp
    · simp
    · simp

theorem insInnerP (K : Span → Int) (fm : Span → Span → Option Int) (P R : List Span) (x : Span) (hl : (P ++ x :: R).length < 1000000) (hfm : ∀ e ∈ P, ∃ c, fm x e = some c ∧ (c < 0 ↔ K x < K e)) :
    iterO (M.slices_insertionSortCmpFunc_impl_Span_l1 0 fm) (P ++ x :: R, (P.length : Int)) = some (insP K P x ++ R) := by
  apply T.eq
  have hl' : P.length < 1000000 := by simp at hl; omega
  refine T_iter (fun s => ∃ k : Nat, s = (P.take k ++ x :: (P.drop k ++ R), (k : Int)) ∧ k ≤ P.length ∧ insPosP K P x k = insPosP K P x P.length) (fun s => s.2.toNat) _ ⟨P.length, by simp, Nat.le_refl _, rfl⟩ (by simp only; omega) ?_
  rintro _ ⟨k, rfl, h1, h2⟩
  unfold M.slices_insertionSortCmpFunc_impl_Span_l1
  try dsimp only
  cases k with
  | zero =>
    refine T_ask (fun hq => by simp at hq) (T_ask (fun hq => by simp at hq) ?_)
    rw [decide_eq_false (show ¬ (((0 : Nat) : Int) > 0) by omega), cond_false, Option.bind_some, Bool.false_and, cond_false]
    refine T_ret ?_
    unfold insP
    rw [← h2]
    simp [insPosP]
  | succ k =>
    have hk : k < P.length := by omega
    have hA : (P.take k).length = k := by rw [List.length_take]; omega
    have ePd : P.drop k = P.getD k default :: P.drop (k + 1) := by
      rw [List.drop_eq_getElem_cons hk, getD_el hk]
    have eD : P.take (k + 1) ++ x :: (P.drop (k + 1) ++ R) = P.take k ++ P.getD k default :: x :: (P.drop (k + 1) ++ R) := by
      rw [take_succ_getD hk]; simp
    have hlen : (P.take (k + 1) ++ x :: (P.drop (k + 1) ++ R)).length = (P ++ x :: R).length := by
      simp; omega
    obtain ⟨s1, s2, s3⟩ := swap_atP (p := P.getD k default) (x := x) (B := P.drop (k + 1) ++ R) (P.take k)
    rw [hA, ← eD] at s1 s2 s3
    have hL : k + 1 < (P ++ x :: R).length := by simp; omega
    rw [wrap64_id (n := ((k + 1 : Nat) : Int) - 1) (by omega) (by omega), show ((k + 1 : Nat) : Int) - 1 = (k : Int) by omega, Int.toNat_natCast, Int.toNat_natCast, hlen, s1, s2]
    refine T_ask (fun _ => ⟨by omega, by omega⟩) (T_ask (fun _ => ⟨by omega, by omega⟩) ?_)
    obtain ⟨c, hc1, hc2⟩ := hfm (P.getD k default) (getD_mem hk)
    rw [decide_eq_true (show ((k + 1 : Nat) : Int) > 0 by omega), cond_true, hc1, Option.bind_some, Bool.true_and]
    have eI : insPosP K P x (k + 1) = if K x < K (P.getD k default) then insPosP K P x k else k + 1 := rfl
    refine T_if (fun hq => ?_) (fun hq => ?_)
    · simp only [decide_eq_true_eq] at hq
      refine T_ask ⟨by omega, by omega⟩ (T_ask ⟨by omega, by omega⟩ (T_ask ⟨by omega, by omega⟩ (T_ask ⟨by omega, by rw [List.length_set, hlen]; omega⟩ ?_)))
      refine T_ret ?_
      rw [s3]
      refine ⟨⟨k, ?_, by omega, ?_⟩, by simp only; omega⟩
      · rw [ePd]; simp
      · rw [← h2, eI, if_pos (hc2.1 hq)]
    · simp only [decide_eq_false_iff_not] at hq
      refine T_ret ?_
      unfold insP
      rw [← h2, eI, if_neg (fun h => hq (hc2.2 h))]
      simp

theorem insOuterP (K : Span → Int) (fm : Span → Span → Option Int) (D : List Span) (hn : D.length < 100000) (hfm : ∀ a ∈ D, ∀ b ∈ D, ∃ c, fm a b = some c ∧ (c < 0 ↔ K a < K b)) : M.slices_insertionSortCmpFunc_impl_Span D 0 (D.length : Int) fm = some (srtP K D) := by
  unfold M.slices_insertionSortCmpFunc_impl_Span
  rw [show IntKind.i64.wrap (0 + 1) = 1 from wrap64_id (by omega) (by omega)]
  cases D with
  | nil =>
    rw [iterO_now (e := ([] : List Span)) (by unfold M.slices_insertionSortCmpFunc_impl_Span_l0; rfl)]
    rfl
  | cons d E =>
    obtain ⟨D, hD⟩ : ∃ D, d :: E = D := ⟨_, rfl⟩
    have hlen : D.length = E.length + 1 := by rw [← hD]; rfl
    rw [hD] at hn hfm ⊢
    rw [iter_up (s := (D, (1 : Int))) (step := M.slices_insertionSortCmpFunc_impl_Span_l0 0 (D.length : Int) fm) (e := srtP K D) (fun k => (srtP K (D.take (k + 1)) ++ D.drop (k + 1), ((k + 1 : Nat) : Int))) E.length (by rw [← hD]; rfl) (by omega) (fun k hk => by
      unfold M.slices_insertionSortCmpFunc_impl_Span_l0
      try dsimp only
      have hk1 : k + 1 < D.length := by omega
      rw [decide_eq_true (show ((k + 1 : Nat) : Int) < (D.length : Int) by omega), cond_true, List.drop_eq_getElem_cons hk1]
      have hP : (srtP K (D.take (k + 1))).length = k + 1 := by rw [srtP_len, List.length_take]; omega
      have := insInnerP K fm (srtP K (D.take (k + 1))) (D.drop (k + 1 + 1)) D[k + 1] (by simp [hP]; omega) (fun e he => by
        have he2 := (srtP_ok K (D.take (k + 1))).1.mem_iff.1 he
        exact hfm _ (List.getElem_mem hk1) _ (List.mem_of_mem_take he2))
      rw [hP] at this
      rw [this, Option.bind_some]
      try dsimp only
      rw [wrap64_id (by omega) (by omega), take_succ_getD hk1, srtP_snoc, getD_el hk1]
      rfl) (by
      unfold M.slices_insertionSortCmpFunc_impl_Span_l0
      try dsimp only
      rw [decide_eq_false (by omega), cond_false, List.drop_eq_nil_of_le (by omega), List.append_nil, List.take_of_length_le (by omega)])]
    rfl


theorem srtP_id {K : Span → Int} : ∀ (E P : List Span), (P ++ E).Pairwise (fun a b => K a ≤ K b) → E.foldl (insP K) P = P ++ E
  | [], P, _ => by simp
  | x :: E, P, h => by
    have hx : ∀ e ∈ P, K e ≤ K x := fun e he => (List.pairwise_append.1 h).2.2 e he x (List.mem_cons_self ..)
    have e1 : insP K P x = P ++ [x] := by
      have e2 : insPosP K P x P.length = P.length := by
        cases hP : P.length with
        | zero => rfl
        | succ k =>
          unfold insPosP
          rw [if_neg (by have := hx _ (getD_mem (i := k) (by omega)); omega)]
      unfold insP
      rw [e2, List.take_length, List.drop_length]
    rw [List.foldl_cons, e1, srtP_id E (P ++ [x]) (by rw [List.append_assoc]; exact h), List.append_assoc]
    rfl
theorem bitsLenP : ∀ n : Nat, n < 50 → ∃ v, M.math_bits_Len (IntKind.u64.wrap (n : Int)) = some v ∧ (0 < n → (v == 0) = false) := by
  have h : ∀ n : Fin 50, (match M.math_bits_Len (IntKind.u64.wrap ((n : Nat) : Int)) with | some v => decide (n.val = 0) || !(v == 0) | none => false) = true := by decide +kernel
  intro n hn
  have := h ⟨n, hn⟩
  simp only at this
  cases hm : M.math_bits_Len (IntKind.u64.wrap (n : Int)) with
  | none => rw [hm] at this; cases this
  | some v =>
    rw [hm] at this
    refine ⟨v, rfl, fun h0 => ?_⟩
    simp only [Bool.or_eq_true, decide_eq_true_eq, Bool.not_eq_true'] at this
    rcases this with h | h
    · omega
    · exact h
theorem sortSP (K : Span → Int) (fm : Span → Span → Option Int) (D : List Span) (h : D.length ≤ 12 ∨ (D.length < 50 ∧ D.Pairwise fun a b => K a ≤ K b)) (hfm : ∀ a ∈ D, ∀ b ∈ D, ∃ c, fm a b = some c ∧ (c < 0 ↔ K a < K b)) : M.slices_SortFunc_impl_Span_impl_Span D fm = some (srtP K D) := by
  unfold M.slices_SortFunc_impl_Span_impl_Span M.slices_pdqsortCmpFunc_impl_Span
  obtain ⟨v, hv, hv0⟩ := bitsLenP D.length (by omega)
  rw [hv, Option.bind_some, iterO_now (e := srtP K D) (by
    unfold M.slices_pdqsortCmpFunc_impl_Span_l0
    try dsimp only
    rw [wrap64_id (n := (D.length : Int) - 0) (by omega) (by omega)]
    by_cases hq : D.length ≤ 12
    · rw [decide_eq_true (by omega), cond_true, insOuterP K fm D (by omega) hfm, Option.bind_some, asrt_pos srtP_len]
    · obtain ⟨h1, h2⟩ := h.resolve_left hq
      have hpw := List.pairwise_iff_getElem.1 h2
      have le : ∀ i j : Nat, i < j → j < D.length → K (D.getD i default) ≤ K (D.getD j default) := fun i j hij hj => by
        rw [getD_el (by omega), getD_el hj]
        exact hpw i j (by omega) hj hij
      have cmp : ∀ i j : Nat, i < j → j < D.length → ∃ c, fm (D.getD j default) (D.getD i default) = some c ∧ decide (c < 0) = false := fun i j hij hj => by
        obtain ⟨c, hc1, hc2⟩ := hfm _ (getD_mem hj) _ (getD_mem (i := i) (by omega))
        refine ⟨c, hc1, decide_eq_false fun hc => ?_⟩
        have := le i j hij hj
        have := hc2.1 hc
        omega
      have o2 : ∀ (i j : Nat) (z : Int), i < j → j < D.length → M.slices_order2CmpFunc_impl_Span D (i : Int) (j : Int) z fm = some ((i : Int), (j : Int), z) := fun i j z hij hj => by
        obtain ⟨c, hc1, hc2⟩ := cmp i j hij hj
        unfold M.slices_order2CmpFunc_impl_Span
        rw [asrt_pos ⟨by omega, by omega⟩, asrt_pos ⟨by omega, by omega⟩, Int.toNat_natCast, Int.toNat_natCast, hc1, Option.bind_some, hc2, cond_false]
      obtain ⟨q, hq4⟩ : ∃ q : Nat, q = D.length / 4 := ⟨_, rfl⟩
      have piv : M.slices_choosePivotCmpFunc_impl_Span D 0 (D.length : Int) fm = some (((2 * q : Nat) : Int), 1) := by
        unfold M.slices_choosePivotCmpFunc_impl_Span
        have e4 : Int.tdiv (D.length : Int) 4 = (q : Int) := by rw [Int.tdiv_eq_ediv_of_nonneg (by omega)]; omega
        rw [wrap64_id (n := (D.length : Int) - 0) (by omega) (by omega), show (D.length : Int) - 0 = (D.length : Int) by omega, e4, wrap64_id (n := (q : Int)) (by omega) (by omega), decide_eq_true (by omega), cond_true, decide_eq_false (by omega), cond_false, Option.bind_some]
        try dsimp only
        rw [wrap64_id (n := (q : Int) * 1) (by omega) (by omega), wrap64_id (n := (q : Int) * 2) (by omega) (by omega), wrap64_id (n := (q : Int) * 3) (by omega) (by omega), wrap64_id (n := 0 + (q : Int) * 1) (by omega) (by omega), wrap64_id (n := 0 + (q : Int) * 2) (by omega) (by omega), wrap64_id (n := 0 + (q : Int) * 3) (by omega) (by omega)]
        rw [show 0 + (q : Int) * 1 = ((q : Nat) : Int) by omega, show 0 + (q : Int) * 2 = ((2 * q : Nat) : Int) by omega, show 0 + (q : Int) * 3 = ((3 * q : Nat) : Int) by omega]
        unfold M.slices_medianCmpFunc_impl_Span
        rw [o2 q (2 * q) 0 (by omega) (by omega), Option.bind_some]
        try dsimp only
        rw [o2 (2 * q) (3 * q) 0 (by omega) (by omega), Option.bind_some]
        try dsimp only
        rw [o2 q (2 * q) 0 (by omega) (by omega), Option.bind_some, Option.bind_some, Option.bind_some]
        rfl
      have par : M.slices_partialInsertionSortCmpFunc_impl_Span D 0 (D.length : Int) fm = some (true, D) := by
        unfold M.slices_partialInsertionSortCmpFunc_impl_Span
        rw [asrt_pos (by omega), show IntKind.i64.wrap (0 + 1) = 1 from wrap64_id (by omega) (by omega), iterO_now (e := .inr (true, D)) (by
          unfold M.slices_partialInsertionSortCmpFunc_impl_Span_l0
          try dsimp only
          rw [decide_eq_true (by omega), cond_true, iter_up (s := (1 : Int)) (step := M.slices_partialInsertionSortCmpFunc_impl_Span_l1 (D.length : Int) fm D) (e := (D.length : Int)) (fun k => ((k + 1 : Nat) : Int)) (D.length - 1) rfl (by omega) (fun k hk => by
            obtain ⟨c, hc1, hc2⟩ := cmp k (k + 1) (by omega) (by omega)
            unfold M.slices_partialInsertionSortCmpFunc_impl_Span_l1
            try dsimp only
            rw [wrap64_id (n := ((k + 1 : Nat) : Int) - 1) (by omega) (by omega), show ((k + 1 : Nat) : Int) - 1 = (k : Int) by omega, asrt_pos (fun _ => ⟨by omega, by omega⟩), asrt_pos (fun _ => ⟨by omega, by omega⟩), decide_eq_true (by omega), cond_true, Int.toNat_natCast, Int.toNat_natCast, hc1, Option.bind_some, hc2, Bool.not_false, Bool.and_self, cond_true, wrap64_id (by omega) (by omega), cast_succ (k + 1)]) (by
            unfold M.slices_partialInsertionSortCmpFunc_impl_Span_l1
            try dsimp only
            rw [asrt_pos (fun h => by rw [decide_eq_true_eq] at h; omega), asrt_pos (fun h => by rw [decide_eq_true_eq] at h; omega), decide_eq_false (by omega), cond_false, Option.bind_some, Bool.false_and, cond_false, show ((D.length - 1 + 1 : Nat) : Int) = (D.length : Int) by omega]), Option.bind_some]
          try dsimp only
          rw [beq_self_eq_true, cond_true, Option.bind_some]), Option.bind_some]
      rw [decide_eq_false (by omega), cond_false, asrt_pos (hv0 (by omega)), asrt_pos (show (!true) = false from rfl), Option.bind_some]
      try dsimp only
      rw [piv, Option.bind_some]
      try dsimp only
      rw [asrt_pos (show ((1 : Int) == 2) = false from rfl), Option.bind_some]
      try dsimp only
      rw [asrt_pos (show (true && true && (1 : Int) == 1) = true from rfl), par, Option.bind_some]
      try dsimp only
      rw [asrt_pos (show D.length = D.length from rfl), asrt_pos (show true = true from rfl), show srtP K D = D from by unfold srtP; rw [srtP_id D [] (by simpa using h2)]; rfl]), Option.bind_some]
  try dsimp only
  rw [Option.bind_some, asrt_pos srtP_len]

/-! ### The reference's insertion -/
def keyS (s : Span) : Int := s.From
def insB (l : List Span) (s : Span) : List Span := l.takeWhile (fun e => decide (e.From < s.From)) ++ s :: l.dropWhile (fun e => decide (e.From < s.From))
theorem tw_take {β : Type} [Inhabited β] {q : β → Bool} : ∀ (p : Nat) (l : List β), p ≤ l.length → (∀ j, j < p → q (l.getD j default) = true) → (p < l.length → q (l.getD p default) = false) → l.takeWhile q = l.take p ∧ l.dropWhile q = l.drop p
  | 0, [], _, _, _ => ⟨rfl, rfl⟩
  | 0, x :: l, _, _, h => by
    have := h (by simp)
    simp only [List.getD_cons_zero] at this
    simp [List.takeWhile_cons, List.dropWhile_cons, this]
  | p + 1, [], h, _, _ => by simp at h
  | p + 1, x :: l, h, h1, h2 => by
    have e := h1 0 (by omega)
    simp only [List.getD_cons_zero] at e
    obtain ⟨g1, g2⟩ := tw_take p l (by simpa using h) (fun j hj => by have := h1 (j + 1) (by omega); simpa using this) (fun hp => by have := h2 (by simpa using hp); simpa using this)
    rw [List.takeWhile_cons, List.dropWhile_cons, e, if_pos rfl, if_pos rfl, g1, g2]
    exact ⟨rfl, rfl⟩
theorem tw_get {β : Type} [Inhabited β] {q : β → Bool} : ∀ (l : List β), (∀ j, j < (l.takeWhile q).length → q (l.getD j default) = true) ∧ ((l.takeWhile q).length < l.length → q (l.getD (l.takeWhile q).length default) = false) ∧ (l.takeWhile q).length ≤ l.length
  | [] => ⟨fun j h => by simp at h, fun h => by simp at h, Nat.le_refl _⟩
  | x :: l => by
    obtain ⟨h1, h2, h3⟩ := tw_get (q := q) l
    rw [List.takeWhile_cons]
    cases hx : q x
    · refine ⟨fun j h => by simp at h, fun _ => by simpa using hx, by simp⟩
    · simp only [if_true, List.length_cons]
      refine ⟨fun j h => ?_, fun h => ?_, by omega⟩
      · cases j with
        | zero => simpa using hx
        | succ j => have := h1 j (by omega); simpa using this
      · have := h2 (by omega); simpa using this
theorem insB_P {P : List Span} {x : Span} (h : P.Pairwise fun a b => a.From ≤ b.From) (hne : ∀ e ∈ P, e.From ≠ x.From) : insB P x = insP keyS P x := by
  obtain ⟨h1, h2, h3⟩ := insPosP_spec (K := keyS) (P := P) (x := x) P.length
  unfold insB insP
  generalize insPosP keyS P x P.length = p at h1 h2 h3
  have hpw := List.pairwise_iff_getElem.1 h
  obtain ⟨g1, g2⟩ := tw_take (q := fun e : Span => decide (e.From < x.From)) p P h1 (fun j hj => by
    rw [decide_eq_true_eq]
    have a1 := h3 (by omega)
    have a2 := hne _ (getD_mem (i := j) (l := P) (by omega))
    have a3 : (P.getD j default).From ≤ (P.getD (p - 1) default).From := by
      by_cases e : j = p - 1
      · rw [e]; omega
      · rw [getD_el (by omega), getD_el (by omega)]; exact hpw j (p - 1) (by omega) (by omega) (by omega)
    unfold keyS at a1
    omega) (fun hp => by
    rw [decide_eq_false_iff_not]
    have := h2 p (Nat.le_refl _) hp
    unfold keyS at this
    omega)
  rw [g1, g2]
theorem foldB_P : ∀ (E P : List Span), (P.Pairwise fun a b => a.From ≤ b.From) → ((P ++ E).Pairwise fun a b => a.From ≠ b.From) → E.foldl insB P = E.foldl (insP keyS) P
  | [], _, _, _ => rfl
  | x :: E, P, h, hd => by
    have hd0 := List.pairwise_append.1 hd
    rw [List.foldl_cons, List.foldl_cons, insB_P h (fun e he => hd0.2.2 e he x (List.mem_cons_self ..))]
    refine foldB_P E _ (insP_sorted (K := keyS) h) ?_
    have hp : List.Perm (P ++ x :: E) (insP keyS P x ++ E) := List.perm_middle.trans ((insP_perm (K := keyS)).append_right E).symm
    exact (hp.pairwise_iff (R := fun a b : Span => a.From ≠ b.From) (fun h => Ne.symm h)).1 hd
theorem insertS (l : List Span) (s : Span) (hl : l.length < 1000000) : M.spec_l15Insert l s = some (insB l s) := by
  obtain ⟨h1, h2, h3⟩ := tw_get (q := fun e : Span => decide (e.From < s.From)) l
  have g := tw_take (q := fun e : Span => decide (e.From < s.From)) _ l h3 h1 h2
  unfold M.spec_l15Insert insB
  rw [g.1, g.2]
  generalize (l.takeWhile fun e => decide (e.From < s.From)).length = p at h1 h2 h3
  rw [iter_up (s := (0 : Int)) (step := M.spec_l15Insert_l0 l s) (e := (p : Int)) (fun k => (k : Int)) p rfl (by omega) (fun k hk => by
    have := h1 k hk
    unfold M.spec_l15Insert_l0
    try dsimp only
    rw [asrt_pos (fun _ => ⟨by omega, by omega⟩), Int.toNat_natCast, this, decide_eq_true (by omega), Bool.and_self, cond_true, wrap64_id (by omega) (by omega), cast_succ]) (by
    unfold M.spec_l15Insert_l0
    try dsimp only
    rw [asrt_pos (fun h => by rw [decide_eq_true_eq] at h; exact ⟨by omega, h⟩), Int.toNat_natCast]
    by_cases hp : p < l.length
    · rw [h2 hp, Bool.and_false, cond_false]
    · rw [decide_eq_false (by omega), Bool.false_and, cond_false]), Option.bind_some]
  try dsimp only
  have e1 : slc l 0 (p : Int) = l.take p := by unfold slc; simp
  have e2 : slc l (p : Int) (l.length : Int) = l.drop p := by unfold slc; simp
  rw [e1, e2, asrt_pos ⟨by omega, by omega, by omega⟩, asrt_pos (by simp only [List.length_nil, List.length_take]; omega), asrt_pos (by simp only [List.length_append, List.length_nil, List.length_cons, List.length_take]; omega), asrt_pos ⟨by omega, by omega, by omega⟩, asrt_pos (by simp only [List.length_append, List.length_nil, List.length_cons, List.length_take, List.length_drop]; omega)]
  simp

/-! ### The new spans -/
def nwS (l : List Span) (n r : Int) (ps : List Int) : List Span := (ps.filter fun x => !tch l x (x + n)).map fun x => ⟨x, x + n, r⟩
theorem nwS_snoc {l : List Span} {n r x : Int} {ps : List Int} : nwS l n r (ps ++ [x]) = nwS l n r ps ++ (bif !tch l x (x + n) then [⟨x, x + n, r⟩] else []) := by
  unfold nwS
  rw [List.filter_append, List.map_append]
  cases h : tch l x (x + n) <;> simp [h]
theorem nwS_len {l : List Span} {n r : Int} {ps : List Int} : (nwS l n r ps).length ≤ ps.length := by
  unfold nwS
  rw [List.length_map]
  exact List.length_filter_le _ _
theorem nwS_mem {l : List Span} {n r : Int} {ps : List Int} {s : Span} (h : s ∈ nwS l n r ps) : ∃ x ∈ ps, tch l x (x + n) = false ∧ s = ⟨x, x + n, r⟩ := by
  unfold nwS at h
  obtain ⟨x, hx, rfl⟩ := List.mem_map.1 h
  rw [List.mem_filter] at hx
  exact ⟨x, hx.1, by simpa using hx.2, rfl⟩
theorem spB_pw {n : Int} : ∀ {l : List Span} {b : Int}, spB n b l = true → (∀ s ∈ l, b ≤ s.From ∧ s.From < s.To ∧ s.To ≤ n) ∧ l.Pairwise fun a b => a.To ≤ b.From
  | [], _, _ => ⟨fun s h => (by cases h), .nil⟩
  | x :: l, b, h => by
    obtain ⟨h1, h2⟩ := spB_cons h
    obtain ⟨g1, g2⟩ := spB_pw h2
    refine ⟨fun s hs => ?_, List.pairwise_cons.2 ⟨fun s hs => (g1 s hs).1, g2⟩⟩
    rcases List.mem_cons.1 hs with e | e
    · subst e; omega
    · have := g1 s e; omega
/-- What is known of the places: in the text, and with a gap between them. -/
structure PlOk (t : List UInt8) (n : Int) (ps : List Int) : Prop where
  pos : 1 ≤ n ∧ n ≤ 10
  mem : ∀ x ∈ ps, 0 ≤ x ∧ x + n ≤ (t.length : Int)
  gap : ps.Pairwise fun x y => x + n < y
theorem nwS_pw {l : List Span} {t : List UInt8} {n r : Int} {ps : List Int} (h : PlOk t n ps) : (nwS l n r ps).Pairwise fun a b => a.From < b.From := by
  unfold nwS
  rw [List.pairwise_map]
  exact (h.gap.sublist List.filter_sublist).imp fun g => by have := h.pos; dsimp only; omega
theorem all_ne {l : List Span} {t : List UInt8} {n r : Int} {ps : List Int} (h : PlOk t n ps) (hs : spB (t.length : Int) 0 l = true) : (l ++ nwS l n r ps).Pairwise fun a b => a.From ≠ b.From := by
  obtain ⟨g1, g2⟩ := spB_pw hs
  rw [List.pairwise_append]
  refine ⟨?_, (nwS_pw h).imp fun g => by omega, fun a ha b hb => ?_⟩
  · have key : ∀ m : List Span, (∀ s ∈ m, s.From < s.To) → m.Pairwise (fun a b => a.To ≤ b.From) → m.Pairwise fun a b => a.From ≠ b.From := by
      intro m hm hp
      induction m with
      | nil => exact .nil
      | cons x m ih =>
        rw [List.pairwise_cons] at hp ⊢
        refine ⟨fun b hb => ?_, ih (fun s hs => hm s (List.mem_cons_of_mem _ hs)) hp.2⟩
        have := hp.1 b hb
        have := hm x (List.mem_cons_self ..)
        omega
    exact key l (fun s hs => (g1 s hs).2.1) g2
  · obtain ⟨x, hx, ht, rfl⟩ := nwS_mem hb
    have q1 := tch_false ht ha
    have q2 := g1 a ha
    have := h.pos
    simp only
    omega
theorem sp_sorted {n : Int} {l : List Span} (hs : spB n 0 l = true) : l.Pairwise fun a b => a.From ≤ b.From := by
  obtain ⟨g1, g2⟩ := spB_pw hs
  have key : ∀ m : List Span, (∀ s ∈ m, s.From < s.To) → m.Pairwise (fun a b => a.To ≤ b.From) → m.Pairwise fun a b => a.From ≤ b.From := by
    intro m hm hp
    induction m with
    | nil => exact .nil
    | cons x m ih =>
      rw [List.pairwise_cons] at hp ⊢
      refine ⟨fun b hb => ?_, ih (fun s hs => hm s (List.mem_cons_of_mem _ hs)) hp.2⟩
      have := hp.1 b hb
      have := hm x (List.mem_cons_self ..)
      omega
  exact key l (fun s hs => (g1 s hs).2.1) g2
def hwO (t : List UInt8) (l : List Span) (w : List UInt8) (r : Int) : List Span := srtP keyS (l ++ nwS l (w.length : Int) r (plW w 0 (splitC 32 t)))
def HwD (t : List UInt8) (l : List Span) (w : List UInt8) (r : Int) : List Span × Bool := bif (spOk t l && wordOk w) && inR r 1 9 then (bif spOk t (hwO t l w r) then (hwO t l w r, true) else ([], false)) else ([], false)
theorem plOk_of {t w : List UInt8} (ht : t.all lowsp = true) (hw : wordOk w = true) : PlOk t (w.length : Int) (plW w 0 (splitC 32 t)) :=
  ⟨by have := (word_spec hw).1; omega, fun x hx => let g := pl_mem ht hw x hx; ⟨g.1, g.2.1⟩, plW_gap _ _⟩
theorem spOk_low {t : List UInt8} {l : List Span} (h : spOk t l = true) : t.all lowsp = true := by
  have := (spOk_spec h).1
  unfold txtOk at this
  simp only [Bool.and_eq_true] at this
  exact this.2
theorem pl_lt {t w : List UInt8} : (plW w 0 (splitC 32 t)).length ≤ t.length + 1 := by
  refine Nat.le_trans (plW_len _ _) ?_
  rw [splitC_cnt]
  have := List.count_le_length (a := (32 : UInt8)) (l := t)
  omega
theorem cmpSI (x y : Int) : M.cmp_Compare_int x y = some (if x < y then -1 else if x > y then 1 else 0) := by
  unfold M.cmp_Compare_int M.cmp_isNaN_int
  by_cases h1 : x < y
  · simp [h1]
  · by_cases h2 : y < x
    · simp [h1, h2]
    · simp [h1, h2]
theorem hwI (t : List UInt8) (l : List Span) (w : List UInt8) (r : Int) (hx : t.length < 1000000) (hl : l.length < 1000000) (hww : w.length < 1000000)
    (hlen : spOk t l = true → wordOk w = true → (l ++ nwS l (w.length : Int) r (plW w 0 (splitC 32 t))).length ≤ 12 ∨ ((l ++ nwS l (w.length : Int) r (plW w 0 (splitC 32 t))).length < 50 ∧ (l ++ nwS l (w.length : Int) r (plW w 0 (splitC 32 t))).Pairwise fun a b => keyS a ≤ keyS b)) :
    M.impl_HideWord t l w r = some (HwD t l w r) := by
  unfold M.impl_HideWord HwD
  rw [spansI t l hx hl, Option.bind_some]
  cases hs : spOk t l
  · rfl
  cases hw : wordOk w
  · simp [wordI w hww, hw]
  cases hr : inR r 1 9
  · simp [wordI w hww, hw, reasonI, hr]
  obtain ⟨s1, s2, s3, s4⟩ := spOk_spec hs
  have hlen := hlen hs hw
  have hp := pl_lt (t := t) (w := w)
  simp only [Bool.not_true, cond_false, wordI w hww, hw, Option.bind_some, Bool.or_self, reasonI, hr, Bool.and_self, cond_true]
  unfold M.slices_Clone_impl_Span_impl_Span
  rw [asrt_pos (by omega), Option.bind_some, placesI t w hx, Option.bind_some]
  generalize hP : plW w 0 (splitC 32 t) = ps at hlen hp
  have hmem : ∀ x ∈ ps, 0 ≤ x ∧ x + (w.length : Int) ≤ (t.length : Int) := by rw [← hP]; exact (plOk_of (spOk_low hs) hw).mem
  rw [iter_up (s := (l, (0 : Int))) (step := M.impl_HideWord_l0 l w r ps) (e := l ++ nwS l (w.length : Int) r ps) (fun k => (l ++ nwS l (w.length : Int) r (ps.take k), (k : Int))) ps.length (by simp [nwS]) (by omega) (fun k hk => by
    have hg := hmem _ (getD_mem hk)
    have hn := nwS_len (l := l) (n := (w.length : Int)) (r := r) (ps := ps.take k)
    rw [List.length_take] at hn
    unfold M.impl_HideWord_l0
    try dsimp only
    rw [decide_eq_true (by omega), cond_true, asrt_pos ⟨by omega, by omega⟩, Int.toNat_natCast, wrap64_id (n := ps.getD k default + (w.length : Int)) (by omega) (by omega), tchI l _ _ hl, Option.bind_some, take_succ_getD hk, nwS_snoc, wrap64_id (by omega) (by omega), cast_succ]
    cases tch l (ps.getD k default) (ps.getD k default + (w.length : Int))
    · rw [Bool.not_false, cond_true, cond_true, asrt_pos (by simp only [List.length_append, List.length_cons, List.length_nil]; omega), Option.bind_some, List.append_assoc]
    · rw [Bool.not_true, cond_false, cond_false, Option.bind_some, List.append_nil]) (by
    unfold M.impl_HideWord_l0
    try dsimp only
    rw [decide_eq_false (by omega), cond_false, List.take_length]), Option.bind_some]
  try dsimp only
  rw [sortSP keyS _ _ hlen (fun a _ b _ => by
    refine ⟨_, by unfold M.impl_HideWord_1; rw [cmpSI, Option.bind_some], ?_⟩
    unfold keyS
    by_cases h1 : a.From < b.From
    · simp [h1]
    · simp only [h1, if_false, iff_false]
      split <;> omega), Option.bind_some]
  have ho : srtP keyS (l ++ nwS l (w.length : Int) r ps) = hwO t l w r := by unfold hwO; rw [hP]
  rw [asrt_pos srtP_len, ho, spansI t _ hx (by rw [← ho, srtP_len]; rcases hlen with h | h <;> omega), Option.bind_some]
  cases spOk t (hwO t l w r) <;> rfl
theorem inS (x a b : Int) : M.spec_l1In x a b = some (inR x a b) := by
  unfold M.spec_l1In inR
  rw [show decide (x ≥ a) = decide (a ≤ x) from rfl]
theorem hwS (t : List UInt8) (l : List Span) (w : List UInt8) (r : Int) (hx : t.length < 1000000) (hl : l.length < 1000000) (hww : w.length < 1000000) : M.spec_HideWord t l w r = some (HwD t l w r) := by
  unfold M.spec_HideWord HwD
  rw [spansS t l hx hl, Option.bind_some]
  cases hs : spOk t l
  · rfl
  cases hw : wordOk w
  · simp [wordS w hww, hw]
  cases hr : inR r 1 9
  · simp [wordS w hww, hw, inS, hr]
  obtain ⟨s1, s2, s3, s4⟩ := spOk_spec hs
  have hp := pl_lt (t := t) (w := w)
  simp only [Bool.not_true, cond_false, wordS w hww, hw, Option.bind_some, Bool.or_self, inS, hr, Bool.and_self, cond_true]
  have hOk := plOk_of (spOk_low hs) hw
  have hO : hwO t l w r = (nwS l (w.length : Int) r (plW w 0 (splitC 32 t))).foldl insB l := by
    rw [foldB_P _ _ (sp_sorted s3) (all_ne hOk s3)]
    unfold hwO srtP
    rw [List.foldl_append, srtP_id l [] (by simpa [keyS] using sp_sorted s3), List.nil_append]
  rw [placesS t w hx (spOk_low hs) hw, Option.bind_some]
  generalize hP : plW w 0 (splitC 32 t) = ps at hp hO hOk
  have hmem := hOk.mem
  have hB : ∀ (E P : List Span), (E.foldl insB P).length = P.length + E.length := by
    intro E
    induction E with
    | nil => intro P; rfl
    | cons x E ih =>
      intro P
      rw [List.foldl_cons, ih]
      have : (insB P x).length = P.length + 1 := by
        unfold insB
        have := congrArg List.length (List.takeWhile_append_dropWhile (p := fun e : Span => decide (e.From < x.From)) (l := P))
        rw [List.length_append] at this
        rw [List.length_append, List.length_cons]
        omega
      rw [List.length_cons]; omega
  rw [asrt_pos (by simp only [List.length_nil]; omega), List.nil_append, iter_up (s := (l, (0 : Int))) (step := M.spec_HideWord_l0 l w r ps) (e := (nwS l (w.length : Int) r ps).foldl insB l) (fun k => ((nwS l (w.length : Int) r (ps.take k)).foldl insB l, (k : Int))) ps.length (by simp [nwS]) (by omega) (fun k hk => by
    have hg := hmem _ (getD_mem hk)
    have hn := nwS_len (l := l) (n := (w.length : Int)) (r := r) (ps := ps.take k)
    rw [List.length_take] at hn
    unfold M.spec_HideWord_l0
    try dsimp only
    rw [decide_eq_true (by omega), cond_true, asrt_pos ⟨by omega, by omega⟩, asrt_pos ⟨by omega, by omega⟩, Int.toNat_natCast, wrap64_id (n := ps.getD k default + (w.length : Int)) (by omega) (by omega), tchS l _ _ hl, Option.bind_some, take_succ_getD hk, nwS_snoc, wrap64_id (by omega) (by omega), cast_succ]
    cases tch l (ps.getD k default) (ps.getD k default + (w.length : Int))
    · simp only [Bool.not_false, cond_true]
      rw [asrt_pos ⟨by omega, by omega⟩, insertS _ _ (by rw [hB]; omega), Option.bind_some, Option.bind_some, List.foldl_append]
      rfl
    · simp only [Bool.not_true, cond_false, Option.bind_some, List.append_nil]) (by
    unfold M.spec_HideWord_l0
    try dsimp only
    rw [decide_eq_false (by omega), cond_false, List.take_length]), Option.bind_some]
  try dsimp only
  rw [← hO, spansS t _ hx (by rw [hO, hB]; have := nwS_len (l := l) (n := (w.length : Int)) (r := r) (ps := ps); omega), Option.bind_some]
  cases spOk t (hwO t l w r) <;> rfl

/-! ### Is a word hidden? -/
def HidW (t : List UInt8) (l : List Span) (w : List UInt8) : Bool × Bool := bif spOk t l && wordOk w then ((plW w 0 (splitC 32 t)).all (fun x => tch l x (x + (w.length : Int))), true) else (false, false)
theorem contZ (t : List Int) (p : Int → Bool) (fm : Int → Option Bool) (hfm : ∀ x ∈ t, fm x = some (p x)) (hl : t.length < 1000000) : M.slices_ContainsFunc_int_int t fm = some (t.any p) := by
  unfold M.slices_ContainsFunc_int_int M.slices_IndexFunc_int_int
  have h := iter_first (step := M.slices_IndexFunc_int_int_l0 t fm) p t (by omega) (fun k hk => by
    have := hfm _ (getD_mem hk)
    unfold M.slices_IndexFunc_int_int_l0
    simp (disch := first | omega | (intros; simp only [decide_eq_true_eq, decide_eq_false_iff_not, Bool.not_eq_true, Bool.not_eq_false, Bool.not_true, Bool.not_false] at *; omega)) only [cast_succ, asrt_pos, wrap64_id, Option.bind_some, cond_true, cond_false, decide_eq_true, decide_eq_false, Int.toNat_natCast, Bool.not_true, Bool.not_false, Bool.and_true, Bool.true_and, Bool.and_false, Bool.false_and, Bool.or_true, Bool.true_or, Bool.or_false, Bool.false_or, bif_some, this]) (by
    unfold M.slices_IndexFunc_int_int_l0
    simp (disch := first | omega | (intros; simp only [decide_eq_true_eq, decide_eq_false_iff_not, Bool.not_eq_true, Bool.not_eq_false, Bool.not_true, Bool.not_false] at *; omega)) only [cast_succ, asrt_pos, wrap64_id, Option.bind_some, cond_true, cond_false, decide_eq_true, decide_eq_false, Int.toNat_natCast, Bool.not_true, Bool.not_false, Bool.and_true, Bool.true_and, Bool.and_false, Bool.false_and, Bool.or_true, Bool.true_or, Bool.or_false, Bool.false_or])
  refine (congrArg (fun q => q.bind fun y0 => some (decide (y0 ≥ 0))) h).trans ?_
  rw [Option.bind_some, firstAt_any]
theorem hidWI (t : List UInt8) (l : List Span) (w : List UInt8) (hx : t.length < 1000000) (hl : l.length < 1000000) (hww : w.length < 1000000) : M.impl_IsHidden t l w = some (HidW t l w) := by
  unfold M.impl_IsHidden HidW
  rw [spansI t l hx hl, Option.bind_some]
  cases hs : spOk t l
  · rfl
  cases hw : wordOk w
  · simp [wordI w hww, hw]
  have hp := pl_lt (t := t) (w := w)
  have s4 := (spOk_spec hs).2.2.2
  simp only [Bool.not_true, cond_false, wordI w hww, hw, Option.bind_some, Bool.or_self, Bool.and_self, cond_true]
  rw [placesI t w hx, Option.bind_some]
  have hmem := (plOk_of (spOk_low hs) hw).mem
  rw [contZ _ (fun x => !tch l x (x + (w.length : Int))) _ (fun x hx2 => by
    have := hmem x hx2
    unfold M.impl_IsHidden_1
    rw [wrap64_id (n := x + (w.length : Int)) (by omega) (by omega), tchI l _ _ hl, Option.bind_some]) (by omega), Option.bind_some]
  rw [List.all_eq_not_any_not]
theorem hidWS (t : List UInt8) (l : List Span) (w : List UInt8) (hx : t.length < 1000000) (hl : l.length < 1000000) (hww : w.length < 1000000) : M.spec_IsHidden t l w = some (HidW t l w) := by
  unfold M.spec_IsHidden HidW
  rw [spansS t l hx hl, Option.bind_some]
  cases hs : spOk t l
  · rfl
  cases hw : wordOk w
  · simp [wordS w hww, hw]
  have hp := pl_lt (t := t) (w := w)
  simp only [Bool.not_true, cond_false, wordS w hww, hw, Option.bind_some, Bool.or_self, Bool.and_self, cond_true]
  rw [placesS t w hx (spOk_low hs) hw, Option.bind_some]
  have hmem := (plOk_of (spOk_low hs) hw).mem
  generalize plW w 0 (splitC 32 t) = ps at hp hmem
  rw [iter_any (step := M.spec_IsHidden_l0 l w ps) (s := 0) (fun k => (k : Int)) ps.length (fun k => !tch l (ps.getD k default) (ps.getD k default + (w.length : Int))) (.inr (false, true)) (.inl ()) rfl (by omega)
    (fun k hk hp => by
      have hg := hmem _ (getD_mem hk)
      unfold M.spec_IsHidden_l0
      dsimp only
      rw [Int.toNat_natCast, decide_eq_true (by omega), cond_true, asrt_pos ⟨by omega, by omega⟩, asrt_pos ⟨by omega, by omega⟩, wrap64_id (n := ps.getD k default + (w.length : Int)) (by omega) (by omega), tchS l _ _ hl, Option.bind_some, hp, cond_false, wrap64_id (by omega) (by omega), cast_succ])
    (fun k hk hp => by
      have hg := hmem _ (getD_mem hk)
      unfold M.spec_IsHidden_l0
      dsimp only
      rw [Int.toNat_natCast, decide_eq_true (by omega), cond_true, asrt_pos ⟨by omega, by omega⟩, asrt_pos ⟨by omega, by omega⟩, wrap64_id (n := ps.getD k default + (w.length : Int)) (by omega) (by omega), tchS l _ _ hl, Option.bind_some, hp, cond_true])
    (by
      unfold M.spec_IsHidden_l0
      dsimp only
      rw [decide_eq_false (by omega), cond_false])]
  rw [← any_getD (p := fun x : Int => !tch l x (x + (w.length : Int))), List.all_eq_not_any_not]
  cases ps.any fun x : Int => !tch l x (x + (w.length : Int)) <;> rfl
end Go.Proofs.YteocnbeefedbkaaDoor
