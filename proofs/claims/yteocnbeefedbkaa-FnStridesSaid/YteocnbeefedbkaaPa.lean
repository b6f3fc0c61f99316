/-
  Plain facts on lists and trees that the functions' contracts speak of. No program, no condition.
-/
import Derived.Test.YteocnbeefedbkaaVm
set_option linter.unusedSimpArgs false
set_option linter.unusedVariables false
namespace Go.VS

abbrev encInt (n : Int) : PV := .int .i64 n

theorem all_range_succ {p : Nat → Bool} {k : Nat} : (List.range (k + 1)).all p = ((List.range k).all p && p k) := by
  rw [List.range_succ, List.all_append]; simp

theorem all_range_false {p : Nat → Bool} {n k : Nat} (hk : k < n) (h : p k = false) : (List.range n).all p = false := by
  rw [List.all_eq_false]; exact ⟨k, List.mem_range.2 hk, by simp [h]⟩

theorem all_getD {β : Type} [Inhabited β] {l : List β} {p : β → Bool} : l.all p = (List.range l.length).all fun k => p (l.getD k default) := by
  rw [Bool.eq_iff_iff, List.all_eq_true, List.all_eq_true]
  constructor
  · intro h k hk
    rw [List.mem_range] at hk
    rw [List.getD_eq_getElem?_getD, List.getElem?_eq_getElem hk]
    exact h _ (List.getElem_mem hk)
  · intro h x hx
    obtain ⟨k, hk, rfl⟩ := List.getElem_of_mem hx
    have := h k (List.mem_range.2 hk)
    rwa [List.getD_eq_getElem?_getD, List.getElem?_eq_getElem hk] at this

theorem take_succ_getD {β : Type} [Inhabited β] {l : List β} {k : Nat} (h : k < l.length) : l.take (k + 1) = l.take k ++ [l.getD k default] := by
  rw [List.take_add_one, List.getElem?_eq_getElem h, List.getD_eq_getElem?_getD, List.getElem?_eq_getElem h]; rfl

/-- The first place at which p holds, or -1. -/
def firstAt {β : Type} (p : β → Bool) : List β → Int
  | [] => -1
  | x :: l => if p x then 0 else if firstAt p l = -1 then -1 else firstAt p l + 1

theorem firstAt_bd {β : Type} {p : β → Bool} : ∀ {l : List β}, -1 ≤ firstAt p l ∧ firstAt p l < l.length
  | [] => by simp [firstAt]
  | x :: l => by
    have := firstAt_bd (p := p) (l := l)
    simp only [firstAt, List.length_cons]
    split
    · omega
    · split <;> omega

theorem firstAt_any {β : Type} {p : β → Bool} : ∀ {l : List β}, decide (firstAt p l ≥ 0) = l.any p
  | [] => by simp [firstAt]
  | x :: l => by
    have ih := firstAt_any (p := p) (l := l)
    have hb := firstAt_bd (p := p) (l := l)
    rw [List.any_cons, ← ih]
    simp only [firstAt]
    by_cases hp : p x = true
    · simp [hp]
    · simp only [Bool.not_eq_true] at hp
      by_cases h : firstAt p l = -1
      · simp [h, hp]
      · simp [h, hp]; omega

theorem firstAt_none {β : Type} [Inhabited β] {p : β → Bool} : ∀ {l : List β}, (∀ j, j < l.length → p (l.getD j default) = false) → firstAt p l = -1
  | [], _ => rfl
  | x :: l, h => by
    have h0 := h 0 (by simp)
    simp only [List.getD_cons_zero] at h0
    have := firstAt_none (p := p) (l := l) (fun j hj => by have := h (j + 1) (by simpa using hj); simpa using this)
    simp [firstAt, h0, this]

theorem firstAt_some {β : Type} [Inhabited β] {p : β → Bool} : ∀ {l : List β} {k : Nat}, k < l.length → (∀ j, j < k → p (l.getD j default) = false) → p (l.getD k default) = true → firstAt p l = k
  | [], k, hk, _, _ => by simp at hk
  | x :: l, 0, _, _, h1 => by simp at h1; simp [firstAt, h1]
  | x :: l, k + 1, hk, h, h1 => by
    have h0 := h 0 (by simp)
    simp only [List.getD_cons_zero] at h0
    have := firstAt_some (p := p) (l := l) (k := k) (by simpa using hk) (fun j hj => by have := h (j + 1) (by omega); simpa using this) (by simpa using h1)
    simp [firstAt, h0, this]

/-- A row that is filled from the front. -/
theorem fill_set {β γ : Type} [Inhabited β] {f : β → γ} {z : γ} {l : List β} {k : Nat} (h : k < l.length) :
    ((l.take k).map f ++ List.replicate (l.length - k) z).set k (f (l.getD k default)) = (l.take (k + 1)).map f ++ List.replicate (l.length - (k + 1)) z := by
  rw [take_succ_getD h, List.map_append]
  have : l.length - k = (l.length - (k + 1)) + 1 := by omega
  rw [this, List.replicate_succ, List.set_append_right _ _ (by simp only [List.length_map, List.length_take]; omega)]
  simp [Nat.min_eq_left (Nat.le_of_lt h)]
  try omega

theorem fill_get {β γ : Type} {f : β → γ} {z : γ} {l : List β} {k : Nat} (h : k < l.length) : ((l.take k).map f ++ List.replicate (l.length - k) z)[k]? = some z := by
  rw [List.getElem?_append_right (by simp only [List.length_map, List.length_take]; omega), List.getElem?_replicate, if_pos (by simp only [List.length_map, List.length_take]; omega)]

theorem all_range_and {p q : Nat → Bool} {n : Nat} : ((List.range n).all p && (List.range n).all q) = (List.range n).all fun k => p k && q k := by
  rw [Bool.eq_iff_iff]
  simp only [Bool.and_eq_true, List.all_eq_true]
  exact ⟨fun h x hx => ⟨h.1 x hx, h.2 x hx⟩, fun h => ⟨fun x hx => (h x hx).1, fun x hx => (h x hx).2⟩⟩

theorem getD_mem {β : Type} [Inhabited β] {l : List β} {k : Nat} (h : k < l.length) : l.getD k default ∈ l := by
  rw [List.getD_eq_getElem?_getD, List.getElem?_eq_getElem h]; exact List.getElem_mem h

theorem any_true {β : Type} [Inhabited β] {l : List β} {p : β → Bool} {k : Nat} (hk : k < l.length) (h : p (l.getD k default) = true) : l.any p = true :=
  List.any_eq_true.2 ⟨_, getD_mem hk, h⟩

theorem any_false {β : Type} [Inhabited β] {l : List β} {p : β → Bool} (h : ∀ j, j < l.length → p (l.getD j default) = false) : l.any p = false := by
  rw [List.any_eq_false]
  intro x hx
  obtain ⟨k, hk, rfl⟩ := List.getElem_of_mem hx
  have := h k hk
  rw [List.getD_eq_getElem?_getD, List.getElem?_eq_getElem hk] at this
  simpa using this

theorem step_lt {p : Nat → Prop} {k : Nat} (h : ∀ j, j < k → p j) (hk : p k) : ∀ j, j < k + 1 → p j := fun j hj => by
  rcases Nat.lt_or_ge j k with h1 | h1
  · exact h j h1
  · obtain rfl : j = k := by omega
    exact hk
end Go.VS
