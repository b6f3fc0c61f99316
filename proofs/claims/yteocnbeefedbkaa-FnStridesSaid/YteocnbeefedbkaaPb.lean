/-
  Plain facts on loops of models and on lists. No program, no condition.
-/
import Derived.Test.YteocnbeefedbkaaWc
set_option linter.unusedSimpArgs false
set_option linter.unusedVariables false
namespace Go.VS

theorem loopO_up {S E : Type} {step : S → Option (S ⊕ E)} {e : E} (f : Nat → S) (n : Nat) (hs : ∀ k, k < n → step (f k) = some (.inl (f (k + 1)))) (he : step (f n) = some (.inr e)) : ∀ (d k m : Nat), k + d = n → d < m → loopO step m (f k) = some e
  | _, _, 0, _, h => absurd h (Nat.not_lt_zero _)
  | 0, k, m + 1, h, _ => by obtain rfl : k = n := by omega
                            simp only [loopO, he]
  | d + 1, k, m + 1, h, h1 => by
    simp only [loopO, hs k (by omega)]
    exact loopO_up f n hs he d (k + 1) m (by omega) (by omega)

/-- A loop whose states are f 0, f 1, .. f n, and that is left at f n. -/
theorem iter_up {S E : Type} {step : S → Option (S ⊕ E)} {e : E} {s : S} (f : Nat → S) (n : Nat) (h0 : s = f 0) (hn : n < 1000000000000) (hs : ∀ k, k < n → step (f k) = some (.inl (f (k + 1)))) (he : step (f n) = some (.inr e)) : iterO step s = some e := by
  subst h0
  exact loopO_up f n hs he n 0 rounds (by omega) (by unfold rounds; omega)

/-- The first place from which on p fails to be false: where a search stops. -/
theorem find_cases {n : Nat} (p : Nat → Bool) : (∃ k, k < n ∧ p k = true ∧ ∀ j, j < k → p j = false) ∨ ∀ j, j < n → p j = false := by
  induction n with
  | zero => exact .inr fun j h => absurd h (Nat.not_lt_zero _)
  | succ n ih =>
    rcases ih with ⟨k, h1, h2, h3⟩ | h
    · exact .inl ⟨k, by omega, h2, h3⟩
    · cases hp : p n with
      | true => exact .inl ⟨n, by omega, hp, h⟩
      | false => exact .inr (step_lt h hp)

theorem cast_succ (k : Nat) : ((k + 1 : Nat) : Int) = (k : Int) + 1 := by omega

/-- A search: rounds at which p is false go on; the first at which it is true leaves with 'hit', the end with 'off'. -/
theorem iter_find {S E : Type} {step : S → Option (S ⊕ E)} {s : S} (f : Nat → S) (n : Nat) (p : Nat → Bool) (hit : Nat → E) (off : E) (h0 : s = f 0) (hn : n < 1000000000000) (hs : ∀ k, k < n → p k = false → step (f k) = some (.inl (f (k + 1))))
    (hh : ∀ k, k < n → p k = true → step (f k) = some (.inr (hit k))) (he : step (f n) = some (.inr off)) :
    (∃ k, k < n ∧ p k = true ∧ (∀ j, j < k → p j = false) ∧ iterO step s = some (hit k)) ∨ ((∀ j, j < n → p j = false) ∧ iterO step s = some off) := by
  rcases find_cases (n := n) p with ⟨k, h1, h2, h3⟩ | h
  · exact .inl ⟨k, h1, h2, h3, iter_up f k h0 (by omega) (fun j hj => hs j (by omega) (h3 j hj)) (hh k h1 h2)⟩
  · exact .inr ⟨h, iter_up f n h0 hn (fun j hj => hs j hj (h j hj)) he⟩

/-- A search for whether there is such a place. -/
theorem iter_any {S E : Type} {step : S → Option (S ⊕ E)} {s : S} (f : Nat → S) (n : Nat) (p : Nat → Bool) (hit off : E) (h0 : s = f 0) (hn : n < 1000000000000) (hs : ∀ k, k < n → p k = false → step (f k) = some (.inl (f (k + 1))))
    (hh : ∀ k, k < n → p k = true → step (f k) = some (.inr hit)) (he : step (f n) = some (.inr off)) : iterO step s = some (bif (List.range n).any p then hit else off) := by
  rcases iter_find f n p (fun _ => hit) off h0 hn hs hh he with ⟨k, h1, h2, _, h3⟩ | ⟨h1, h2⟩
  · rw [h3, List.any_eq_true.2 ⟨k, List.mem_range.2 h1, h2⟩]; rfl
  · rw [h2, show (List.range n).any p = false from by
      rw [List.any_eq_false]; intro x hx; rw [h1 x (List.mem_range.1 hx)]; simp]; rfl

/-- The same; the rounds know what was not so before. -/
theorem iter_find' {S E : Type} {step : S → Option (S ⊕ E)} {s : S} (f : Nat → S) (n : Nat) (p : Nat → Bool) (hit : Nat → E) (off : E) (h0 : s = f 0) (hn : n < 1000000000000) (hs : ∀ k, k < n → (∀ j, j < k → p j = false) → p k = false → step (f k) = some (.inl (f (k + 1))))
    (hh : ∀ k, k < n → (∀ j, j < k → p j = false) → p k = true → step (f k) = some (.inr (hit k))) (he : step (f n) = some (.inr off)) :
    (∃ k, k < n ∧ p k = true ∧ (∀ j, j < k → p j = false) ∧ iterO step s = some (hit k)) ∨ ((∀ j, j < n → p j = false) ∧ iterO step s = some off) := by
  rcases find_cases (n := n) p with ⟨k, h1, h2, h3⟩ | h
  · exact .inl ⟨k, h1, h2, h3, iter_up f k h0 (by omega) (fun j hj => hs j (by omega) (fun i hi => h3 i (by omega)) (h3 j hj)) (hh k h1 h3 h2)⟩
  · exact .inr ⟨h, iter_up f n h0 hn (fun j hj => hs j hj (fun i hi => h i (by omega)) (h j hj)) he⟩

theorem iter_any' {S E : Type} {step : S → Option (S ⊕ E)} {s : S} (f : Nat → S) (n : Nat) (p : Nat → Bool) (hit off : E) (h0 : s = f 0) (hn : n < 1000000000000) (hs : ∀ k, k < n → (∀ j, j < k → p j = false) → p k = false → step (f k) = some (.inl (f (k + 1))))
    (hh : ∀ k, k < n → (∀ j, j < k → p j = false) → p k = true → step (f k) = some (.inr hit)) (he : step (f n) = some (.inr off)) : iterO step s = some (bif (List.range n).any p then hit else off) := by
  rcases iter_find' f n p (fun _ => hit) off h0 hn hs hh he with ⟨k, h1, h2, _, h3⟩ | ⟨h1, h2⟩
  · rw [h3, List.any_eq_true.2 ⟨k, List.mem_range.2 h1, h2⟩]; rfl
  · rw [h2, show (List.range n).any p = false from by
      rw [List.any_eq_false]; intro x hx; rw [h1 x (List.mem_range.1 hx)]; simp]; rfl

theorem any_getD {β : Type} [Inhabited β] {l : List β} {p : β → Bool} : l.any p = (List.range l.length).any fun k => p (l.getD k default) := by
  rw [Bool.eq_iff_iff, List.any_eq_true, List.any_eq_true]
  constructor
  · rintro ⟨x, hx, h⟩
    obtain ⟨k, hk, rfl⟩ := List.getElem_of_mem hx
    exact ⟨k, List.mem_range.2 hk, by rwa [List.getD_eq_getElem?_getD, List.getElem?_eq_getElem hk]⟩
  · rintro ⟨k, hk, h⟩
    exact ⟨_, getD_mem (List.mem_range.1 hk), h⟩

/-- What a list gives, element by element, from the left. -/
theorem foldl_take {β γ : Type} [Inhabited β] {g : γ → β → γ} {z : γ} {l : List β} {k : Nat} (h : k < l.length) : (l.take (k + 1)).foldl g z = g ((l.take k).foldl g z) (l.getD k default) := by
  rw [take_succ_getD h, List.foldl_append]; rfl

theorem firstAt_take_none {β : Type} {p : β → Bool} {l : List β} : firstAt p l = -1 ↔ l.any p = false := by
  induction l with
  | nil => simp [firstAt]
  | cons x l ih =>
    have := firstAt_bd (p := p) (l := l)
    simp only [firstAt, List.any_cons, Bool.or_eq_false_iff]
    cases p x with
    | true => simp
    | false =>
      simp only [Bool.false_eq_true, if_false, true_and]
      rw [← ih]
      split <;> omega

/-- A row that is set from the front. -/
theorem set_take {β : Type} [Inhabited β] {l m : List β} {k : Nat} (h : k < l.length) (hm : k < m.length) : (l.take k ++ m.drop k).set k (l.getD k default) = l.take (k + 1) ++ m.drop (k + 1) := by
  rw [take_succ_getD h, List.set_append_right _ _ (by rw [List.length_take]; omega), List.length_take, Nat.min_eq_left (Nat.le_of_lt h), Nat.sub_self]
  rw [List.drop_eq_getElem_cons hm, List.set_cons_zero, List.append_assoc]
  rfl
end Go.VS
