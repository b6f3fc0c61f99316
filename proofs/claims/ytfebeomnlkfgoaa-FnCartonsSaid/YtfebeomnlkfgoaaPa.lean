/-
  Plain facts on lists and trees that the functions' contracts speak of. No program, no condition.
-/
import Derived.Test.YtfebeomnlkfgoaaVm
set_option linter.unusedSimpArgs false
set_option linter.unusedVariables false
namespace Go.VS
abbrev encInt (n : Int) : PV := .int .i64 n
theorem take_succ_getD {β : Type} [Inhabited β] {l : List β} {k : Nat} (h : k < l.length) : l.take (k + 1) = l.take k ++ [l.getD k default] := by
  rw [List.take_add_one, List.getElem?_eq_getElem h, List.getD_eq_getElem?_getD, List.getElem?_eq_getElem h]; rfl
def firstAt {β : Type} (p : β → Bool) : List β → Int
  | [] => -1
  | x :: l => if p x then 0 else if firstAt p l = -1 then -1 else firstAt p l + 1
theorem firstAt_bd {β : Type} {p : β → Bool} : ∀ {l : List β}, -1 ≤ firstAt p l ∧ firstAt p l < l.length
  | [] => by simp [firstAt]
  | x :: l => by
    have := firstAt_bd (p := p) (l := l)
    simp only [firstAt, List.length_cons]
    split
    · omega
    · split <;> omega
theorem firstAt_any {β : Type} {p : β → Bool} : ∀ {l : List β}, decide (firstAt p l ≥ 0) = l.any p
  | [] => by simp [firstAt]
  | x :: l => by
    have ih := firstAt_any (p := p) (l := l)
    have hb := firstAt_bd (p := p) (l := l)
    rw [List.any_cons, ← ih]
    simp only [firstAt]
    by_cases hp : p x = true
    · simp [hp]
    · simp only [Bool.not_eq_true] at hp
      by_cases h : firstAt p l = -1
      · simp [h, hp]
      · simp [h, hp]; omega
theorem firstAt_none {β : Type} [Inhabited β] {p : β → Bool} : ∀ {l : List β}, (∀ j, j < l.length → p (l.getD j default) = false) → firstAt p l = -1
  | [], _ => rfl
  | x :: l, h => by
    have h0 := h 0 (by simp)
    simp only [List.getD_cons_zero] at h0
    have := firstAt_none (p := p) (l := l) (fun j hj => by have := h (j + 1) (by simpa using hj); simpa using this)
    simp [firstAt, h0, this]
theorem firstAt_some {β : Type} [Inhabited β] {p : β → Bool} : ∀ {l : List β} {k : Nat}, k < l.length → (∀ j, j < k → p (l.getD j default) = false) → p (l.getD k default) = true → firstAt p l = k
  | [], k, hk, _, _ => by simp at hk
  | x :: l, 0, _, _, h1 => by simp at h1; simp [firstAt, h1]
  | x :: l, k + 1, hk, h, h1 => by
    have h0 := h 0 (by simp)
    simp only [List.getD_cons_zero] at h0
    have := firstAt_some (p := p) (l := l) (k := k) (by simpa using hk) (fun j hj => by have := h (j + 1) (by omega); simpa using this) (by simpa using h1)
    simp [firstAt, h0, this]
theorem getD_mem {β : Type} [Inhabited β] {l : List β} {k : Nat} (h : k < l.length) : l.getD k default ∈ l := by
  rw [List.getD_eq_getElem?_getD, List.getElem?_eq_getElem h]; exact List.getElem_mem h
theorem step_lt {p : Nat → Prop} {k : Nat} (h : ∀ j, j < k → p j) (hk : p k) : ∀ j, j < k + 1 → p j := fun j hj => by
  rcases Nat.lt_or_ge j k with h1 | h1
  · exact h j h1
  · obtain rfl : j = k := by omega
    exact hk
end Go.VS
