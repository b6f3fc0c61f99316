/-
  What the library's functions on lists answer: Sort (of at most 12), Compact, Delete, DeleteFunc. Plain.
-/
import Derived.Test.YtmpknfachmfbaaaTc
import Derived.Test.YtmpknfachmfbaaaHa
set_option linter.unusedSimpArgs false
set_option linter.unusedVariables false
namespace Go.Proofs.Ytmpknfachmfbaaa
open Go.VS

/-! ### Insertion -/
/-- Where x goes into P: behind all that are not greater. -/
def inPos (P : List Int) (x : Int) : Nat → Nat
  | 0 => 0
  | k + 1 => if x < P.getD k default then inPos P x k else k + 1
def inK (P : List Int) (x : Int) : List Int := P.take (inPos P x P.length) ++ x :: P.drop (inPos P x P.length)
def srt (D : List Int) : List Int := D.foldl inK []

theorem inPos_spec {P : List Int} {x : Int} : ∀ k, inPos P x k ≤ k ∧ (∀ j, inPos P x k ≤ j → j < k → x < P.getD j default) ∧ (inPos P x k = 0 ∨ P.getD (inPos P x k - 1) default ≤ x)
  | 0 => ⟨Nat.le_refl _, fun j _ h => absurd h (Nat.not_lt_zero _), .inl rfl⟩
  | k + 1 => by
    obtain ⟨h1, h2, h3⟩ := inPos_spec (P := P) (x := x) k
    unfold inPos
    split
    · rename_i h
      refine ⟨by omega, fun j g1 g2 => ?_, h3⟩
      by_cases e : j < k
      · exact h2 j g1 e
      · obtain rfl : j = k := by omega
        exact h
    · rename_i h
      exact ⟨Nat.le_refl _, fun j g1 g2 => absurd g2 (by omega), .inr (by rw [Nat.add_sub_cancel]; omega)⟩
theorem inK_perm {P : List Int} {x : Int} : List.Perm (inK P x) (x :: P) := by
  unfold inK
  refine List.perm_middle.trans ?_
  rw [List.take_append_drop]
theorem inK_len {P : List Int} {x : Int} : (inK P x).length = P.length + 1 := by simpa using (inK_perm (P := P) (x := x)).length_eq

theorem pairwise_getD {R : Int → Int → Prop} {l : List Int} (h : l.Pairwise R) {i j : Nat} (hij : i < j) (hj : j < l.length) : R (l.getD i default) (l.getD j default) := by
  have := List.pairwise_iff_getElem.1 h i j (by omega) hj hij
  simpa [List.getD, hj, show i < l.length by omega] using this

theorem inK_sorted {P : List Int} {x : Int} (h : P.Pairwise (· ≤ ·)) : (inK P x).Pairwise (· ≤ ·) := by
  obtain ⟨h1, h2, h3⟩ := inPos_spec (P := P) (x := x) P.length
  unfold inK
  generalize inPos P x P.length = k at h1 h2 h3
  have hs := h
  rw [← List.take_append_drop k P, List.pairwise_append] at hs
  obtain ⟨s1, s2, s3⟩ := hs
  rw [List.pairwise_append]
  have hx : ∀ b ∈ P.drop k, x ≤ b := by
    intro b hb
    obtain ⟨j, hj, rfl⟩ := List.getElem_of_mem hb
    rw [List.length_drop] at hj
    rw [List.getElem_drop]
    have := h2 (k + j) (by omega) (by omega)
    have e : P.getD (k + j) default = P[k + j] := by simp [List.getD, show k + j < P.length by omega]
    omega
  refine ⟨s1, List.pairwise_cons.2 ⟨hx, s2⟩, fun a ha b hb => ?_⟩
  rcases List.mem_cons.1 hb with rfl | hb
  · obtain ⟨j, hj, rfl⟩ := List.getElem_of_mem ha
    rw [List.length_take] at hj
    rw [List.getElem_take]
    have e : P.getD j default = P[j] := by simp [List.getD, show j < P.length by omega]
    rcases h3 with h3 | h3
    · omega
    · by_cases q : j = k - 1
      · subst q; omega
      · have := pairwise_getD h (i := j) (j := k - 1) (by omega) (by omega); omega
  · exact s3 a ha b hb

theorem srt_snoc {D : List Int} {x : Int} : srt (D ++ [x]) = inK (srt D) x := by unfold srt; rw [List.foldl_append]; rfl
theorem srt_ok (D : List Int) : List.Perm (srt D) D ∧ (srt D).Pairwise (· ≤ ·) := by
  have key : ∀ (E P : List Int), P.Pairwise (· ≤ ·) → List.Perm (E.foldl inK P) (P ++ E) ∧ (E.foldl inK P).Pairwise (· ≤ ·) := by
    intro E
    induction E with
    | nil => intro P h; exact ⟨by simp, h⟩
    | cons x E ih =>
      intro P h
      obtain ⟨h1, h2⟩ := ih (inK P x) (inK_sorted h)
      refine ⟨h1.trans ?_, h2⟩
      exact (inK_perm.append_right E).trans List.perm_middle.symm
  exact key D [] List.Pairwise.nil
theorem srt_len {D : List Int} : (srt D).length = D.length := (srt_ok D).1.length_eq
theorem srt_mem {D : List Int} {x : Int} : x ∈ srt D ↔ x ∈ D := (srt_ok D).1.mem_iff

theorem swap_atL {p x : Int} {B : List Int} : ∀ A : List Int, (A ++ p :: x :: B).getD A.length default = p ∧ (A ++ p :: x :: B).getD (A.length + 1) default = x ∧ ((A ++ p :: x :: B).set (A.length + 1) p).set A.length x = A ++ x :: p :: B
  | [] => ⟨rfl, rfl, rfl⟩
  | a :: A => by
    obtain ⟨h1, h2, h3⟩ := swap_atL (p := p) (x := x) (B := B) A
    refine ⟨?_, ?_, ?_⟩
    · simp
    · simp
    · simp

theorem lessI (x y : Int) : M.cmp_Less_int x y = some (decide (x < y)) := by
  unfold M.cmp_Less_int M.cmp_isNaN_int
  simp

theorem sortInner (P R : List Int) (x : Int) (hl : (P ++ x :: R).length < 1000000) : iterO (M.slices_insertionSortOrdered_int_l1 0) (P ++ x :: R, (P.length : Int)) = some (inK P x ++ R) := by
  apply T.eq
  have hl' : P.length < 1000000 := by simp at hl; omega
  refine T_iter (fun s => ∃ k : Nat, s = (P.take k ++ x :: (P.drop k ++ R), (k : Int)) ∧ k ≤ P.length ∧ inPos P x k = inPos P x P.length) (fun s => s.2.toNat) _ ⟨P.length, by simp, Nat.le_refl _, rfl⟩ (by simp only; omega) ?_
  rintro _ ⟨k, rfl, h1, h2⟩
  unfold M.slices_insertionSortOrdered_int_l1
  try dsimp only
  cases k with
  | zero =>
    refine T_ask (fun hq => by simp at hq) (T_ask (fun hq => by simp at hq) ?_)
    rw [decide_eq_false (show ¬ (((0 : Nat) : Int) > 0) by omega)]
    simp only [cond_false, Option.bind_some, Bool.false_and]
    refine T_ret ?_
    simp only
    unfold inK
    rw [← h2]
    simp [inPos]
  | succ k =>
    have hk : k < P.length := by omega
    have hA : (P.take k).length = k := by rw [List.length_take]; omega
    have ePd : P.drop k = P.getD k default :: P.drop (k + 1) := by
      rw [List.drop_eq_getElem_cons hk]; simp [List.getD, hk]
    have eD : P.take (k + 1) ++ x :: (P.drop (k + 1) ++ R) = P.take k ++ P.getD k default :: x :: (P.drop (k + 1) ++ R) := by
      rw [take_succ_getD hk]; simp
    have hlen : (P.take (k + 1) ++ x :: (P.drop (k + 1) ++ R)).length = (P ++ x :: R).length := by
      simp; omega
    obtain ⟨s1, s2, s3⟩ := swap_atL (p := P.getD k default) (x := x) (B := P.drop (k + 1) ++ R) (P.take k)
    rw [hA, ← eD] at s1 s2 s3
    have hL : k + 1 < (P ++ x :: R).length := by simp; omega
    rw [wrap64_id (n := ((k + 1 : Nat) : Int) - 1) (by omega) (by omega), show ((k + 1 : Nat) : Int) - 1 = (k : Int) by omega, Int.toNat_natCast, Int.toNat_natCast, hlen, s1, s2]
    refine T_ask (fun _ => ⟨by omega, by omega⟩) (T_ask (fun _ => ⟨by omega, by omega⟩) ?_)
    rw [decide_eq_true (show ((k + 1 : Nat) : Int) > 0 by omega)]
    simp only [cond_true, lessI, Option.bind_some, Bool.true_and]
    have eI : inPos P x (k + 1) = if x < P.getD k default then inPos P x k else k + 1 := rfl
    refine T_if (fun hq => ?_) (fun hq => ?_)
    · simp only [decide_eq_true_eq] at hq
      refine T_ask ⟨by omega, by omega⟩ (T_ask ⟨by omega, by omega⟩ (T_ask ⟨by omega, by omega⟩ (T_ask ⟨by omega, by rw [List.length_set, hlen]; omega⟩ ?_)))
      refine T_ret ?_
      rw [s3]
      refine ⟨⟨k, ?_, by omega, ?_⟩, by simp only; omega⟩
      · rw [ePd]; simp
      · rw [← h2, eI, if_pos hq]
    · simp only [decide_eq_false_iff_not] at hq
      refine T_ret ?_
      simp only
      unfold inK
      rw [← h2, eI, if_neg hq]
      simp

theorem sortOuter (D : List Int) (hn : D.length < 100000) : M.slices_insertionSortOrdered_int D 0 (D.length : Int) = some (srt D) := by
  unfold M.slices_insertionSortOrdered_int
  rw [show IntKind.i64.wrap (0 + 1) = 1 from wrap64_id (by omega) (by omega)]
  cases D with
  | nil =>
    rw [iterO_now (e := ([] : List Int)) (by unfold M.slices_insertionSortOrdered_int_l0; rfl)]
    rfl
  | cons d E =>
    obtain ⟨D, hD⟩ : ∃ D, d :: E = D := ⟨_, rfl⟩
    have hlen : D.length = E.length + 1 := by rw [← hD]; rfl
    rw [hD] at hn ⊢
    rw [iter_up (s := (D, (1 : Int))) (step := M.slices_insertionSortOrdered_int_l0 0 (D.length : Int)) (e := srt D) (fun k => (srt (D.take (k + 1)) ++ D.drop (k + 1), ((k + 1 : Nat) : Int))) E.length (by rw [← hD]; rfl) (by omega) (fun k hk => by
      unfold M.slices_insertionSortOrdered_int_l0
      try dsimp only
      have hk1 : k + 1 < D.length := by omega
      rw [decide_eq_true (show ((k + 1 : Nat) : Int) < (D.length : Int) by omega), cond_true, List.drop_eq_getElem_cons hk1]
      have hP : (srt (D.take (k + 1))).length = k + 1 := by rw [srt_len, List.length_take]; omega
      have := sortInner (srt (D.take (k + 1))) (D.drop (k + 1 + 1)) D[k + 1] (by simp [hP]; omega)
      rw [hP] at this
      rw [this, Option.bind_some]
      try dsimp only
      rw [wrap64_id (by omega) (by omega), take_succ_getD hk1, srt_snoc]
      have e : D.getD (k + 1) default = D[k + 1] := by simp [List.getD, hk1]
      rw [e]; rfl) (by
      unfold M.slices_insertionSortOrdered_int_l0
      try dsimp only
      rw [decide_eq_false (by omega), cond_false, List.drop_eq_nil_of_le (by omega), List.append_nil, List.take_of_length_le (by omega)])]
    rfl

theorem bitsLen : ∀ n : Nat, n ≤ 12 → ∃ v, M.math_bits_Len (IntKind.u64.wrap (n : Int)) = some v := by
  have h : ∀ n : Fin 13, (M.math_bits_Len (IntKind.u64.wrap ((n : Nat) : Int))).isSome = true := by decide +kernel
  intro n hn
  have := h ⟨n, by omega⟩
  simp only at this
  exact Option.isSome_iff_exists.1 this

theorem sortI (D : List Int) (hn : D.length ≤ 12) : M.slices_Sort_int_int D = some (srt D) := by
  unfold M.slices_Sort_int_int M.slices_pdqsortOrdered_int
  obtain ⟨v, hv⟩ := bitsLen D.length hn
  rw [hv, Option.bind_some, iterO_now (e := srt D) (by
    unfold M.slices_pdqsortOrdered_int_l0
    try dsimp only
    rw [wrap64_id (by omega) (by omega), asrt_pos (by rw [decide_eq_true_eq]; omega), sortOuter D (by omega), Option.bind_some, asrt_pos srt_len]), Option.bind_some]
  try dsimp only
  rw [Option.bind_some, asrt_pos srt_len]

/-! ### Compact -/
/-- Without those that are as the one before them. -/
def ddFrom (p : Int) : List Int → List Int
  | [] => []
  | y :: t => if y = p then ddFrom p t else y :: ddFrom y t
def dd : List Int → List Int
  | [] => []
  | x :: t => x :: ddFrom x t

theorem ddFrom_snoc : ∀ (l : List Int) (p y : Int), ddFrom p (l ++ [y]) = ddFrom p l ++ (if y = (p :: l).getLast (by simp) then [] else [y])
  | [], p, y => by
    simp only [List.nil_append, ddFrom, List.getLast_singleton]
    first | rfl | (split <;> rfl)
  | x :: t, p, y => by
    simp only [List.cons_append, ddFrom]
    by_cases h : x = p
    · subst h
      rw [if_pos rfl, if_pos rfl, ddFrom_snoc t x y]
      rfl
    · rw [if_neg h, if_neg h, ddFrom_snoc t x y]
      rfl
theorem dd_snoc {l : List Int} {y : Int} (h : l ≠ []) : dd (l ++ [y]) = dd l ++ (if y = l.getLast h then [] else [y]) := by
  cases l with
  | nil => exact absurd rfl h
  | cons x t =>
    simp only [List.cons_append, dd]
    rw [ddFrom_snoc]
theorem take_last {l : List Int} {k : Nat} (h : k < l.length) (hne : l.take (k + 1) ≠ []) : (l.take (k + 1)).getLast hne = l.getD k default := by
  rw [List.getLast_eq_getElem]
  have e : (l.take (k + 1)).length = k + 1 := by rw [List.length_take]; omega
  simp [List.getElem_take, List.getD, h, e]
theorem dd_take {l : List Int} {k : Nat} (h : k + 1 < l.length) : dd (l.take (k + 2)) = dd (l.take (k + 1)) ++ (if l.getD (k + 1) default = l.getD k default then [] else [l.getD (k + 1) default]) := by
  rw [take_succ_getD h]
  have hne : l.take (k + 1) ≠ [] := by
    intro e
    have := congrArg List.length e
    rw [List.length_take, List.length_nil] at this
    omega
  rw [dd_snoc hne, take_last (by omega) hne]

theorem ddFrom_spec : ∀ (l : List Int) (p : Int), (∀ y ∈ l, p ≤ y) → l.Pairwise (· ≤ ·) → (∀ y ∈ ddFrom p l, p < y) ∧ (ddFrom p l).Pairwise (· < ·) ∧ (∀ y, y ∈ ddFrom p l ∨ y = p ↔ y ∈ l ∨ y = p)
  | [], p, _, _ => ⟨by simp [ddFrom], by simp [ddFrom], by simp [ddFrom]⟩
  | x :: t, p, h1, h2 => by
    obtain ⟨q1, q2⟩ := List.pairwise_cons.1 h2
    have hp := h1 x (by simp)
    unfold ddFrom
    by_cases h : x = p
    · subst h
      rw [if_pos rfl]
      obtain ⟨g1, g2, g3⟩ := ddFrom_spec t x q1 q2
      refine ⟨g1, g2, fun y => ?_⟩
      rw [g3 y, List.mem_cons]
      constructor
      · rintro (h | h)
        · exact .inl (.inr h)
        · exact .inr h
      · rintro ((h | h) | h)
        · exact .inr h
        · exact .inl h
        · exact .inr h
    · rw [if_neg h]
      obtain ⟨g1, g2, g3⟩ := ddFrom_spec t x q1 q2
      refine ⟨fun y hy => ?_, List.pairwise_cons.2 ⟨g1, g2⟩, fun y => ?_⟩
      · rcases List.mem_cons.1 hy with rfl | hy
        · omega
        · have := g1 y hy; omega
      · have := g3 y
        rw [List.mem_cons, List.mem_cons]
        constructor
        · rintro ((h | h) | h)
          · exact .inl (.inl h)
          · rcases this.1 (.inl h) with h | h
            · exact .inl (.inr h)
            · exact .inl (.inl h)
          · exact .inr h
        · rintro ((h | h) | h)
          · exact .inl (.inl h)
          · rcases this.2 (.inl h) with h | h
            · exact .inl (.inr h)
            · exact .inl (.inl h)
          · exact .inr h
/-- Of an ascending list: strictly ascending, with the same members. -/
theorem dd_spec {l : List Int} (h : l.Pairwise (· ≤ ·)) : (dd l).Pairwise (· < ·) ∧ ∀ y, y ∈ dd l ↔ y ∈ l := by
  cases l with
  | nil => exact ⟨List.Pairwise.nil, fun y => Iff.rfl⟩
  | cons x t =>
    obtain ⟨q1, q2⟩ := List.pairwise_cons.1 h
    obtain ⟨g1, g2, g3⟩ := ddFrom_spec t x q1 q2
    refine ⟨List.pairwise_cons.2 ⟨g1, g2⟩, fun y => ?_⟩
    have := g3 y
    unfold dd
    rw [List.mem_cons, List.mem_cons]
    constructor
    · rintro (h | h)
      · exact .inl h
      · rcases this.1 (.inl h) with h | h
        · exact .inr h
        · exact .inl h
    · rintro (h | h)
      · exact .inl h
      · rcases this.2 (.inl h) with h | h
        · exact .inr h
        · exact .inl h
theorem dd_len {l : List Int} : (dd l).length ≤ l.length := by
  have key : ∀ (l : List Int) (p : Int), (ddFrom p l).length ≤ l.length := by
    intro l
    induction l with
    | nil => intro p; simp [ddFrom]
    | cons x t ih =>
      intro p
      unfold ddFrom
      split
      · exact Nat.le_trans (ih p) (by simp)
      · simpa using ih x
  cases l with
  | nil => simp [dd]
  | cons x t => simpa [dd] using key t x

theorem strict_ext : ∀ {a b : List Int}, a.Pairwise (· < ·) → b.Pairwise (· < ·) → (∀ y, y ∈ a ↔ y ∈ b) → a = b
  | [], [], _, _, _ => rfl
  | [], y :: t, _, _, h => absurd ((h y).2 (by simp)) (by simp)
  | x :: s, [], _, _, h => absurd ((h x).1 (by simp)) (by simp)
  | x :: s, y :: t, ha, hb, h => by
    obtain ⟨a1, a2⟩ := List.pairwise_cons.1 ha
    obtain ⟨b1, b2⟩ := List.pairwise_cons.1 hb
    have hxy : x = y := by
      have h1 := (h x).1 (by simp)
      have h2 := (h y).2 (by simp)
      rcases List.mem_cons.1 h1 with e | e
      · exact e
      · rcases List.mem_cons.1 h2 with f | f
        · exact f.symm
        · have := b1 x e; have := a1 y f; omega
    subst hxy
    congr 1
    refine strict_ext a2 b2 fun z => ?_
    have hz := h z
    rw [List.mem_cons, List.mem_cons] at hz
    constructor
    · intro g
      rcases hz.1 (.inr g) with e | e
      · have := a1 z g; omega
      · exact e
    · intro g
      rcases hz.2 (.inr g) with e | e
      · have := b1 z g; omega
      · exact e

theorem take_set_eq {l : List Int} {k : Nat} {v : Int} (h : k < l.length) : (l.set k v).take (k + 1) = l.take k ++ [v] := by
  rw [take_succ_getD (by simpa using h), List.take_set_of_le (Nat.le_refl k)]
  congr 1
  simp [List.getD, h]
theorem getD_setL {l : List Int} {k j : Nat} {v : Int} (hk : k < l.length) : (l.set k v).getD j default = if k = j then v else l.getD j default := by
  simp only [List.getD, List.getElem?_set]
  by_cases e : k = j
  · subst e; simp [hk]
  · simp [e]

theorem compact1 (s : List Int) (k : Nat) (h1 : 1 ≤ k) (hk : k < s.length) (hl : s.length < 1000000) (hd : dd (s.take (k + 1)) = s.take k) :
    T (iterO (M.slices_Compact_int_int_l1 s (k : Int)) (s, (k : Int), 1)) (fun e => ∃ m : Nat, e.2 = (m : Int) ∧ m ≤ s.length ∧ e.1.length = s.length ∧ e.1.take m = dd s) := by
  have e0 : Int.toNat (((List.length s) : Nat) : Int) - Int.toNat (k : Int) = s.length - k := by omega
  refine T_iter (fun q => ∃ (m j : Nat), q.2.1 = (m : Int) ∧ q.2.2 = (j : Int) ∧ 1 ≤ j ∧ k + j ≤ s.length ∧ m + 1 ≤ k + j ∧ q.1.length = s.length ∧ q.1.take m = dd (s.take (k + j)) ∧ ∀ i, k + j ≤ i + 1 → q.1.getD i default = s.getD i default) (fun q => s.length - q.2.2.toNat) _
    ⟨k, 1, rfl, rfl, by omega, by omega, by omega, rfl, hd.symm, fun i _ => rfl⟩ (by simp only; omega) ?_
  rintro ⟨s1, _, _⟩ ⟨m, j, rfl, rfl, g1, g2, g3, g4, g5, g6⟩
  simp only at g4 g5 g6
  unfold M.slices_Compact_int_int_l1
  try dsimp only
  rw [e0]
  refine T_if (fun hq => ?_) (fun hq => ?_)
  · simp only [decide_eq_true_eq] at hq
    have hj : k + j < s.length := by omega
    have w1 : IntKind.i64.wrap ((j : Int) - 1) = ((j - 1 : Nat) : Int) := by rw [wrap64_id (by omega) (by omega)]; omega
    rw [w1]
    simp only [Int.toNat_natCast, Nat.zero_add]
    have q1 : s1.getD (k + j) default = s.getD (k + j) default := g6 _ (by omega)
    have q2 : s1.getD (k + (j - 1)) default = s.getD (k + j - 1) default := by rw [show k + (j - 1) = k + j - 1 by omega]; exact g6 _ (by omega)
    have hdd := dd_take (l := s) (k := k + j - 1) (by omega)
    rw [show k + j - 1 + 2 = k + (j + 1) by omega, show k + j - 1 + 1 = k + j by omega] at hdd
    refine T_in (T_ask ⟨by omega, by omega⟩ (T_ask (by omega) (T_ask ⟨by omega, by omega⟩ (T_ask (by omega) ?_))))
    rw [q1, q2]
    refine T_if (fun hc => ?_) (fun hc => ?_)
    · simp only [bne_iff_ne, ne_eq] at hc
      rw [if_neg hc] at hdd
      refine T_ask ⟨by omega, by omega⟩ (T_ask (by omega) (T_ask ⟨by omega, by omega⟩ (T_ret (T_ret ?_))))
      simp only
      rw [wrap64_id (n := (m : Int) + 1) (by omega) (by omega), wrap64_id (n := (j : Int) + 1) (by omega) (by omega)]
      refine ⟨⟨m + 1, j + 1, by omega, by omega, by omega, by omega, by omega, by simpa using g4, ?_, fun i hi => ?_⟩, by omega⟩
      · rw [take_set_eq (by omega), g5, hdd]
      · rw [getD_setL (by omega), if_neg (by omega)]
        exact g6 i (by omega)
    · simp only [bne_eq_false_iff_eq] at hc
      rw [if_pos hc, List.append_nil] at hdd
      refine T_ret (T_ret ?_)
      simp only
      rw [wrap64_id (n := (j : Int) + 1) (by omega) (by omega)]
      exact ⟨⟨m, j + 1, rfl, by omega, by omega, by omega, by omega, g4, by rw [g5, hdd], fun i hi => g6 i (by omega)⟩, by omega⟩
  · simp only [decide_eq_false_iff_not] at hq
    have : k + j = s.length := by omega
    rw [this, List.take_length] at g5
    exact T_ret ⟨m, rfl, by omega, g4, g5⟩

theorem compactI (s : List Int) (hl : s.length < 1000000) : M.slices_Compact_int_int s = some (dd s) := by
  unfold M.slices_Compact_int_int
  by_cases h2 : s.length < 2
  · rw [decide_eq_true (by omega), cond_true]
    match s, h2 with
    | [], _ => rfl
    | [x], _ => rfl
  · rw [decide_eq_false (by omega), cond_false]
    apply T.eq
    refine T.then (Q := fun e => e = .inl () ∧ dd s = s ∨ e = .inr (dd s)) (T_iter (fun q => ∃ k : Nat, q = (k : Int) ∧ 1 ≤ k ∧ k ≤ s.length ∧ dd (s.take k) = s.take k) (fun q => s.length - q.toNat) _ ⟨1, rfl, by omega, by omega, by
        match s, h2 with
        | x :: t, _ => rfl⟩ (by omega) ?_) ?_
    · rintro _ ⟨k, rfl, h1, h3, h4⟩
      unfold M.slices_Compact_int_int_l0
      try dsimp only
      refine T_if (fun hq => ?_) (fun hq => ?_)
      · simp only [decide_eq_true_eq] at hq
        have w1 : IntKind.i64.wrap ((k : Int) - 1) = ((k - 1 : Nat) : Int) := by rw [wrap64_id (by omega) (by omega)]; omega
        rw [w1]
        simp only [Int.toNat_natCast]
        have hdd := dd_take (l := s) (k := k - 1) (by omega)
        rw [show k - 1 + 2 = k + 1 by omega, show k - 1 + 1 = k by omega] at hdd
        refine T_ask ⟨by omega, by omega⟩ (T_ask ⟨by omega, by omega⟩ (T_if (fun hc => ?_) (fun hc => ?_)))
        · simp only [beq_iff_eq] at hc
          rw [if_pos hc, List.append_nil, h4] at hdd
          refine T_ask ⟨by omega, by omega, by omega⟩ ?_
          refine (compact1 s k h1 (by omega) hl hdd).then ?_
          rintro ⟨s0, _⟩ ⟨m, rfl, g1, g2, g3⟩
          simp only at g1 g2 g3
          try dsimp only
          simp only [Int.toNat_natCast, Nat.zero_add]
          refine T_ask ⟨by omega, by omega, by omega⟩ (T_ask (by omega) (T_ask ⟨by omega, by omega, by simp; omega⟩ (T_ask (by simp; omega) (T_ret (.inr ?_)))))
          congr 1
          rw [show m - Int.toNat 0 = m from rfl, List.append_assoc, List.take_append_of_le_length (by rw [List.length_take]; omega), List.take_take, Nat.min_self, g3]
        · simp only [beq_eq_false_iff_ne, ne_eq] at hc
          rw [if_neg hc, h4] at hdd
          refine T_ret ?_
          simp only
          rw [wrap64_id (by omega) (by omega)]
          refine ⟨⟨k + 1, by omega, by omega, by omega, ?_⟩, by omega⟩
          rw [hdd, take_succ_getD (by omega)]
      · simp only [decide_eq_false_iff_not] at hq
        have : k = s.length := by omega
        rw [this, List.take_length] at h4
        exact T_ret (.inl ⟨rfl, h4⟩)
    · rintro _ (⟨rfl, h⟩ | rfl)
      · exact T_ret h.symm
      · exact T_ret rfl

/-- The program's 'each once, ascending'. -/
def once (l : List Int) : List Int := dd (srt l)
theorem once_spec (l : List Int) : (once l).Pairwise (· < ·) ∧ ∀ y, y ∈ once l ↔ y ∈ l := by
  obtain ⟨h1, h2⟩ := srt_ok l
  obtain ⟨g1, g2⟩ := dd_spec h2
  exact ⟨g1, fun y => (g2 y).trans h1.mem_iff⟩
theorem once_len {l : List Int} : (once l).length ≤ l.length := Nat.le_trans dd_len (Nat.le_of_eq srt_len)

end Go.Proofs.Ytmpknfachmfbaaa
