/-
  Lists of numbers: elements deleted, put to their places, lists in order. Plain.
-/
import Derived.Test.YteocnbeefedbkaaTc
import Derived.Test.YteocnbeefedbkaaHb
set_option linter.unusedSimpArgs false
set_option linter.unusedVariables false
namespace Go.Proofs.Yteocnbeefedbkaa
open Go.VS

theorem strict_ext : ∀ {a b : List Int}, a.Pairwise (· < ·) → b.Pairwise (· < ·) → (∀ y, y ∈ a ↔ y ∈ b) → a = b
  | [], [], _, _, _ => rfl
  | [], y :: t, _, _, h => absurd ((h y).2 (by simp)) (by simp)
  | x :: s, [], _, _, h => absurd ((h x).1 (by simp)) (by simp)
  | x :: s, y :: t, ha, hb, h => by
    obtain ⟨a1, a2⟩ := List.pairwise_cons.1 ha
    obtain ⟨b1, b2⟩ := List.pairwise_cons.1 hb
    have hxy : x = y := by
      have h1 := (h x).1 (by simp)
      have h2 := (h y).2 (by simp)
      rcases List.mem_cons.1 h1 with e | e
      · exact e
      · rcases List.mem_cons.1 h2 with f | f
        · exact f.symm
        · have := b1 x e; have := a1 y f; omega
    subst hxy
    congr 1
    refine strict_ext a2 b2 fun z => ?_
    have hz := h z
    rw [List.mem_cons, List.mem_cons] at hz
    constructor
    · intro g
      rcases hz.1 (.inr g) with e | e
      · have := a1 z g; omega
      · exact e
    · intro g
      rcases hz.2 (.inr g) with e | e
      · have := b1 z g; omega
      · exact e

theorem take_setB {β : Type} [Inhabited β] {l : List β} {k : Nat} {v : β} (h : k < l.length) : (l.set k v).take (k + 1) = l.take k ++ [v] := by
  rw [take_succ_getD (by simpa using h), List.take_set_of_le (Nat.le_refl k)]
  congr 1
  simp [List.getD, h]
theorem getD_setB {β : Type} [Inhabited β] {l : List β} {k j : Nat} {v : β} (hk : k < l.length) : (l.set k v).getD j default = if k = j then v else l.getD j default := by
  simp only [List.getD, List.getElem?_set]
  by_cases e : k = j
  · subst e; simp [hk]
  · simp [e]

theorem slc_take {β : Type} {l : List β} {k : Nat} (h : k ≤ l.length) : slc l 0 (k : Int) = l.take k ∧ slc l (k : Int) (l.length : Int) = l.drop k := by
  unfold slc
  simp

/-- A number is put to its place. -/
theorem putInt (m : List Int) (n : Int) (hm : m.Pairwise (· < ·)) (hn : n ∉ m) (hl : m.length < 1000000) : ∃ m', M.spec_l1Put m n = some m' ∧ m'.Pairwise (· < ·) ∧ (∀ x, x ∈ m' ↔ x = n ∨ x ∈ m) ∧ m'.length = m.length + 1 := by
  have h1 : T (iterO (M.spec_l1Put_l0 m n) 0) (fun k => ∃ j : Nat, k = (j : Int) ∧ j ≤ m.length ∧ (∀ i, i < j → m.getD i default < n) ∧ (j < m.length → ¬ m.getD j default < n)) := by
    refine T_iter (fun s => ∃ j : Nat, s = (j : Int) ∧ j ≤ m.length ∧ ∀ i, i < j → m.getD i default < n) (fun s => m.length - s.toNat) _ ⟨0, rfl, by omega, fun i h => absurd h (Nat.not_lt_zero _)⟩ (by omega) ?_
    rintro _ ⟨j, rfl, h2, h3⟩
    unfold M.spec_l1Put_l0
    simp only [Int.toNat_natCast]
    refine T_ask (fun h => by simp only [decide_eq_true_eq] at h; omega) (T_if (fun hq => T_ret ?_) (fun hq => T_ret ⟨j, rfl, h2, h3, ?_⟩))
    · simp only [Bool.and_eq_true, decide_eq_true_eq] at hq
      simp only
      rw [wrap64_id (by omega) (by omega)]
      refine ⟨⟨j + 1, by omega, by omega, fun i hi => ?_⟩, by omega⟩
      by_cases hij : i < j
      · exact h3 i hij
      · obtain rfl : i = j := by omega
        exact hq.2
    · intro h4 h5
      rw [decide_eq_true (by omega), decide_eq_true h5] at hq
      cases hq
  unfold M.spec_l1Put
  obtain ⟨_, h2, j, rfl, h3, h4, h5⟩ := h1
  rw [h2]
  simp only [Option.bind_some, Int.toNat_natCast]
  rw [asrt_pos (fun h => by simp only [decide_eq_true_eq] at h; omega)]
  have h6 : (decide ((j : Int) < (m.length : Int)) && (m.getD j default == n)) = false := by
    by_cases hj : j < m.length
    · have : (m.getD j default == n) = false := beq_eq_false_iff_ne.2 fun e => hn (e ▸ getD_mem hj)
      rw [this, Bool.and_false]
    · rw [decide_eq_false (by omega), Bool.false_and]
  rw [h6, cond_false, (slc_take h3).1, (slc_take h3).2]
  have l1 : (m.take j).length = j := by rw [List.length_take]; omega
  have l2 : (m.drop j).length = m.length - j := List.length_drop
  rw [asrt_pos (by omega), asrt_pos (by simp; omega), asrt_pos (by simp; omega), asrt_pos (by omega), asrt_pos (by simp; omega)]
  have hlt : ∀ x ∈ m.take j, x < n := by
    intro x hx
    obtain ⟨i, hi, rfl⟩ := List.getElem_of_mem hx
    have := h4 i (by omega)
    rw [l1] at hi
    rw [List.getElem_take]
    simpa [List.getD, show i < m.length by omega] using this
  have hgt : ∀ x ∈ m.drop j, n < x := by
    intro x hx
    obtain ⟨i, hi, rfl⟩ := List.getElem_of_mem hx
    rw [l2] at hi
    rw [List.getElem_drop]
    have hj : j < m.length := by omega
    have h7 := h5 hj
    have h8 : m.getD j default ≠ n := fun e => hn (e ▸ getD_mem hj)
    rw [show m.getD j default = m[j] by simp [List.getD, hj]] at h7 h8
    by_cases hi0 : i = 0
    · subst hi0; simp only [Nat.add_zero]; omega
    · have := List.pairwise_iff_getElem.1 hm j (j + i) hj (by omega) (by omega)
      omega
  refine ⟨m.take j ++ [n] ++ m.drop j, by simp, ?_, ?_, by simp; omega⟩
  · rw [List.pairwise_append, List.pairwise_append]
    refine ⟨⟨hm.sublist (List.take_sublist _ _), by simp, fun a ha b hb => ?_⟩, hm.sublist (List.drop_sublist _ _), fun a ha b hb => ?_⟩
    · rw [List.mem_singleton] at hb; subst hb; exact hlt a ha
    · have := hgt b hb
      rcases List.mem_append.1 ha with ha | ha
      · have := hlt a ha; omega
      · rw [List.mem_singleton] at ha; subst ha; exact this
  · intro x
    have : x ∈ m ↔ x ∈ m.take j ∨ x ∈ m.drop j := by rw [← List.mem_append, List.take_append_drop]
    rw [this]
    simp only [List.mem_append, List.mem_singleton]
    constructor
    · rintro ((h | h) | h)
      · exact .inr (.inl h)
      · exact .inl h
      · exact .inr (.inr h)
    · rintro (h | h | h)
      · exact .inl (.inr h)
      · exact .inl (.inl h)
      · exact .inr h

/-- slices.Delete of one element. -/
theorem delAtI (s : List Int) (k : Nat) (hk : k < s.length) (hl : s.length < 1000000) : M.slices_Delete_int_int s (k : Int) ((k : Int) + 1) = some (s.take k ++ s.drop (k + 1)) := by
  unfold M.slices_Delete_int_int
  have e1 : Int.toNat ((k : Int) + 1) = k + 1 := by omega
  have e2 : ((k : Int) == (k : Int) + 1) = false := by rw [beq_eq_false_iff_ne]; omega
  rw [asrt_pos ⟨by omega, by omega, by omega, by omega⟩, e2, cond_false]
  simp only [e1, Int.toNat_natCast, Int.toNat_zero, Nat.sub_zero, Nat.zero_add]
  have hd : (s.drop (k + 1)).length = s.length - (k + 1) := List.length_drop
  rw [List.take_of_length_le (Nat.le_of_eq hd)]
  have ht : (s.take k).length = k := by rw [List.length_take]; omega
  have hX : (s.take k ++ s.drop (k + 1)).length = k + (s.drop (k + 1)).length := by rw [List.length_append, ht]
  have hdd : (s.drop (k + (s.drop (k + 1)).length)).length = s.length - (k + (s.drop (k + 1)).length) := List.length_drop
  rw [asrt_pos (by omega), asrt_pos (by omega), asrt_pos (by omega), asrt_pos (by omega)]
  have hY : (s.take k ++ s.drop (k + 1) ++ s.drop (k + (s.drop (k + 1)).length)).length = s.length := by rw [List.length_append, hX, hdd]; omega
  rw [asrt_pos ⟨by omega, by omega, by simp only [hY]; omega⟩, asrt_pos (by rw [hY]; omega)]
  have t1 : (s.take k ++ s.drop (k + 1) ++ s.drop (k + (s.drop (k + 1)).length)).take (k + (s.drop (k + 1)).length) = s.take k ++ s.drop (k + 1) := by
    rw [← hX, List.take_left]
  rw [t1, asrt_pos (by rw [List.length_append, List.length_append, hX]; omega), List.append_assoc, ← hX, List.take_left]
end Go.Proofs.Yteocnbeefedbkaa
