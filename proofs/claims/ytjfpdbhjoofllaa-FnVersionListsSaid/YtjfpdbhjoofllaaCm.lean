/-
  slices.Compact of numbers: what it leaves. Plain.
-/
import Derived.Test.YtjfpdbhjoofllaaLi
set_option linter.unusedSimpArgs false
set_option linter.unusedVariables false
namespace Go.Proofs.Ytjfpdbhjoofllaa
open Go.VS
def ddFrom (p : Int) : List Int → List Int
  | [] => []
  | y :: t => if y = p then ddFrom p t else y :: ddFrom y t
def dd : List Int → List Int
  | [] => []
  | x :: t => x :: ddFrom x t
theorem ddFrom_snoc : ∀ (l : List Int) (p y : Int), ddFrom p (l ++ [y]) = ddFrom p l ++ (if y = (p :: l).getLast (by simp) then [] else [y])
  | [], p, y => by
    simp only [List.nil_append, ddFrom, List.getLast_singleton]
    first | rfl | (split <;> rfl)
  | x :: t, p, y => by
    simp only [List.cons_append, ddFrom]
    by_cases h : x = p
    · subst h
      rw [if_pos rfl, if_pos rfl, ddFrom_snoc t x y]
      rfl
    · rw [if_neg h, if_neg h, ddFrom_snoc t x y]
      rfl
theorem dd_snoc {l : List Int} {y : Int} (h : l ≠ []) : dd (l ++ [y]) = dd l ++ (if y = l.getLast h then [] else [y]) := by
  cases l with
  | nil => exact absurd rfl h
  | cons x t =>
    simp only [List.cons_append, dd]
    rw [ddFrom_snoc]
theorem take_last {l : List Int} {k : Nat} (h : k < l.length) (hne : l.take (k + 1) ≠ []) : (l.take (k + 1)).getLast hne = l.getD k default := by
  rw [List.getLast_eq_getElem]
  have e : (l.take (k + 1)).length = k + 1 := by rw [List.length_take]; omega
  simp [List.getElem_take, List.getD, h, e]
theorem dd_take {l : List Int} {k : Nat} (h : k + 1 < l.length) : dd (l.take (k + 2)) = dd (l.take (k + 1)) ++ (if l.getD (k + 1) default = l.getD k default then [] else [l.getD (k + 1) default]) := by
  rw [take_succ_getD h]
  have hne : l.take (k + 1) ≠ [] := by
    intro e
    have := congrArg List.length e
    rw [List.length_take, List.length_nil] at this
    omega
  rw [dd_snoc hne, take_last (by omega) hne]
theorem ddFrom_spec : ∀ (l : List Int) (p : Int), (∀ y ∈ l, p ≤ y) → l.Pairwise (· ≤ ·) → (∀ y ∈ ddFrom p l, p < y) ∧ (ddFrom p l).Pairwise (· < ·) ∧ (∀ y, y ∈ ddFrom p l ∨ y = p ↔ y ∈ l ∨ y = p)
  | [], p, _, _ => ⟨by simp [ddFrom], by simp [ddFrom], by simp [ddFrom]⟩
  | x :: t, p, h1, h2 => by
    obtain ⟨q1, q2⟩ := List.pairwise_cons.1 h2
    have hp := h1 x (by simp)
    unfold ddFrom
    by_cases h : x = p
    · subst h
      rw [if_pos rfl]
      obtain ⟨g1, g2, g3⟩ := ddFrom_spec t x q1 q2
      refine ⟨g1, g2, fun y => ?_⟩
      rw [g3 y, List.mem_cons]
      constructor
      · rintro (h | h)
        · exact .inl (.inr h)
        · exact .inr h
      · rintro ((h | h) | h)
        · exact .inr h
        · exact .inl h
        · exact .inr h
    · rw [if_neg h]
      obtain ⟨g1, g2, g3⟩ := ddFrom_spec t x q1 q2
      refine ⟨fun y hy => ?_, List.pairwise_cons.2 ⟨g1, g2⟩, fun y => ?_⟩
      · rcases List.mem_cons.1 hy with rfl | hy
        · omega
        · have := g1 y hy; omega
      · have := g3 y
        rw [List.mem_cons, List.mem_cons]
        constructor
        · rintro ((h | h) | h)
          · exact .inl (.inl h)
          · rcases this.1 (.inl h) with h | h
            · exact .inl (.inr h)
            · exact .inl (.inl h)
          · exact .inr h
        · rintro ((h | h) | h)
          · exact .inl (.inl h)
          · rcases this.2 (.inl h) with h | h
            · exact .inl (.inr h)
            · exact .inl (.inl h)
          · exact .inr h
theorem dd_spec {l : List Int} (h : l.Pairwise (· ≤ ·)) : (dd l).Pairwise (· < ·) ∧ ∀ y, y ∈ dd l ↔ y ∈ l := by
  cases l with
  | nil => exact ⟨List.Pairwise.nil, fun y => Iff.rfl⟩
  | cons x t =>
    obtain ⟨q1, q2⟩ := List.pairwise_cons.1 h
    obtain ⟨g1, g2, g3⟩ := ddFrom_spec t x q1 q2
    refine ⟨List.pairwise_cons.2 ⟨g1, g2⟩, fun y => ?_⟩
    have := g3 y
    unfold dd
    rw [List.mem_cons, List.mem_cons]
    constructor
    · rintro (h | h)
      · exact .inl h
      · rcases this.1 (.inl h) with h | h
        · exact .inr h
        · exact .inl h
    · rintro (h | h)
      · exact .inl h
      · rcases this.2 (.inl h) with h | h
        · exact .inr h
        · exact .inl h
theorem dd_len {l : List Int} : (dd l).length ≤ l.length := by
  have key : ∀ (l : List Int) (p : Int), (ddFrom p l).length ≤ l.length := by
    intro l
    induction l with
    | nil => intro p; simp [ddFrom]
    | cons x t ih =>
      intro p
      unfold ddFrom
      split
      · exact Nat.le_trans (ih p) (by simp)
      · simpa using ih x
  cases l with
  | nil => simp [dd]
  | cons x t => simpa [dd] using key t x
theorem take_set_eq {l : List Int} {k : Nat} {v : Int} (h : k < l.length) : (l.set k v).take (k + 1) = l.take k ++ [v] := by
  rw [take_succ_getD (by simpa using h), List.take_set_of_le (Nat.le_refl k)]
  congr 1
  simp [List.getD, h]
theorem getD_setL {l : List Int} {k j : Nat} {v : Int} (hk : k < l.length) : (l.set k v).getD j default = if k = j then v else l.getD j default := by
  simp only [List.getD, List.getElem?_set]
  by_cases e : k = j
  · subst e; simp [hk]
  · simp [e]
theorem compact1 (s : List Int) (k : Nat) (h1 : 1 ≤ k) (hk : k < s.length) (hl : s.length < 1000000) (hd : dd (s.take (k + 1)) = s.take k) :
    T (iterO (M.slices_Compact_int_int_l1 s (k : Int)) (s, (k : Int), 1)) (fun e => ∃ m : Nat, e.2 = (m : Int) ∧ m ≤ s.length ∧ e.1.length = s.length ∧ e.1.take m = dd s) := by
  have e0 : Int.toNat (((List.length s) : Nat) : Int) - Int.toNat (k : Int) = s.length - k := by omega
  refine T_iter (fun q => ∃ (m j : Nat), q.2.1 = (m : Int) ∧ q.2.2 = (j : Int) ∧ 1 ≤ j ∧ k + j ≤ s.length ∧ m + 1 ≤ k + j ∧ q.1.length = s.length ∧ q.1.take m = dd (s.take (k + j)) ∧ ∀ i, k + j ≤ i + 1 → q.1.getD i default = s.getD i default) (fun q => s.length - q.2.2.toNat) _
    ⟨k, 1, rfl, rfl, by omega, by omega, by omega, rfl, hd.symm, fun i _ => rfl⟩ (by simp only; omega) ?_
  rintro ⟨s1, _, _⟩ ⟨m, j, rfl, rfl, g1, g2, g3, g4, g5, g6⟩
  simp only at g4 g5 g6
  unfold M.slices_Compact_int_int_l1
  try dsimp only
  rw [e0]
  refine T_if (fun hq => ?_) (fun hq => ?_)
  · simp only [decide_eq_true_eq] at hq
    have hj : k + j < s.length := by omega
    have w1 : IntKind.i64.wrap ((j : Int) - 1) = ((j - 1 : Nat) : Int) := by rw [wrap64_id (by omega) (by omega)]; omega
    rw [w1]
    simp only [Int.toNat_natCast, Nat.zero_add]
    have q1 : s1.getD (k + j) default = s.getD (k + j) default := g6 _ (by omega)
    have q2 : s1.getD (k + (j - 1)) default = s.getD (k + j - 1) default := by rw [show k + (j - 1) = k + j - 1 by omega]; exact g6 _ (by omega)
    have hdd := dd_take (l := s) (k := k + j - 1) (by omega)
    rw [show k + j - 1 + 2 = k + (j + 1) by omega, show k + j - 1 + 1 = k + j by omega] at hdd
    refine T_in (T_ask ⟨by omega, by omega⟩ (T_ask (by omega) (T_ask ⟨by omega, by omega⟩ (T_ask (by omega) ?_))))
    rw [q1, q2]
    refine T_if (fun hc => ?_) (fun hc => ?_)
    · simp only [bne_iff_ne, ne_eq] at hc
      rw [if_neg hc] at hdd
      refine T_ask ⟨by omega, by omega⟩ (T_ask (by omega) (T_ask ⟨by omega, by omega⟩ (T_ret (T_ret ?_))))
      simp only
      rw [wrap64_id (n := (m : Int) + 1) (by omega) (by omega), wrap64_id (n := (j : Int) + 1) (by omega) (by omega)]
      refine ⟨⟨m + 1, j + 1, by omega, by omega, by omega, by omega, by omega, by simpa using g4, ?_, fun i hi => ?_⟩, by omega⟩
      · rw [take_set_eq (by omega), g5, hdd]
      · rw [getD_setL (by omega), if_neg (by omega)]
        exact g6 i (by omega)
    · simp only [bne_eq_false_iff_eq] at hc
      rw [if_pos hc, List.append_nil] at hdd
      refine T_ret (T_ret ?_)
      simp only
      rw [wrap64_id (n := (j : Int) + 1) (by omega) (by omega)]
      exact ⟨⟨m, j + 1, rfl, by omega, by omega, by omega, by omega, g4, by rw [g5, hdd], fun i hi => g6 i (by omega)⟩, by omega⟩
  · simp only [decide_eq_false_iff_not] at hq
    have : k + j = s.length := by omega
    rw [this, List.take_length] at g5
    exact T_ret ⟨m, rfl, by omega, g4, g5⟩
theorem compactI (s : List Int) (hl : s.length < 1000000) : M.slices_Compact_int_int s = some (dd s) := by
  unfold M.slices_Compact_int_int
  by_cases h2 : s.length < 2
  · rw [decide_eq_true (by omega), cond_true]
    match s, h2 with
    | [], _ => rfl
    | [x], _ => rfl
  · rw [decide_eq_false (by omega), cond_false]
    apply T.eq
    refine T.then (Q := fun e => e = .inl () ∧ dd s = s ∨ e = .inr (dd s)) (T_iter (fun q => ∃ k : Nat, q = (k : Int) ∧ 1 ≤ k ∧ k ≤ s.length ∧ dd (s.take k) = s.take k) (fun q => s.length - q.toNat) _ ⟨1, rfl, by omega, by omega, by
        match s, h2 with
        | x :: t, _ => rfl⟩ (by omega) ?_) ?_
    · rintro _ ⟨k, rfl, h1, h3, h4⟩
      unfold M.slices_Compact_int_int_l0
      try dsimp only
      refine T_if (fun hq => ?_) (fun hq => ?_)
      · simp only [decide_eq_true_eq] at hq
        have w1 : IntKind.i64.wrap ((k : Int) - 1) = ((k - 1 : Nat) : Int) := by rw [wrap64_id (by omega) (by omega)]; omega
        rw [w1]
        simp only [Int.toNat_natCast]
        have hdd := dd_take (l := s) (k := k - 1) (by omega)
        rw [show k - 1 + 2 = k + 1 by omega, show k - 1 + 1 = k by omega] at hdd
        refine T_ask ⟨by omega, by omega⟩ (T_ask ⟨by omega, by omega⟩ (T_if (fun hc => ?_) (fun hc => ?_)))
        · simp only [beq_iff_eq] at hc
          rw [if_pos hc, List.append_nil, h4] at hdd
          refine T_ask ⟨by omega, by omega, by omega⟩ ?_
          refine (compact1 s k h1 (by omega) hl hdd).then ?_
          rintro ⟨s0, _⟩ ⟨m, rfl, g1, g2, g3⟩
          simp only at g1 g2 g3
          try dsimp only
          simp only [Int.toNat_natCast, Nat.zero_add]
          refine T_ask ⟨by omega, by omega, by omega⟩ (T_ask (by omega) (T_ask ⟨by omega, by omega, by simp; omega⟩ (T_ask (by simp; omega) (T_ret (.inr ?_)))))
          congr 1
          rw [show m - Int.toNat 0 = m from rfl, List.append_assoc, List.take_append_of_le_length (by rw [List.length_take]; omega), List.take_take, Nat.min_self, g3]
        · simp only [beq_eq_false_iff_ne, ne_eq] at hc
          rw [if_neg hc, h4] at hdd
          refine T_ret ?_
          simp only
          rw [wrap64_id (by omega) (by omega)]
          refine ⟨⟨k + 1, by omega, by omega, by omega, ?_⟩, by omega⟩
          rw [hdd, take_succ_getD (by omega)]
      · simp only [decide_eq_false_iff_not] at hq
        have : k = s.length := by omega
        rw [this, List.take_length] at h4
        exact T_ret (.inl ⟨rfl, h4⟩)
    · rintro _ (⟨rfl, h⟩ | rfl)
      · exact T_ret h.symm
      · exact T_ret rfl
end Go.Proofs.Ytjfpdbhjoofllaa
