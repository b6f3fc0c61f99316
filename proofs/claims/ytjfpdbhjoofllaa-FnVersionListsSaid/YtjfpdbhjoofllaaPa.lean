/-
  Plain facts on lists and trees that the functions' contracts speak of. No program, no condition.
-/
import Derived.Test.YtjfpdbhjoofllaaVm
set_option linter.unusedSimpArgs false
set_option linter.unusedVariables false
namespace Go.VS
abbrev encInt (n : Int) : PV := .int .i64 n
theorem take_succ_getD {β : Type} [Inhabited β] {l : List β} {k : Nat} (h : k < l.length) : l.take (k + 1) = l.take k ++ [l.getD k default] := by
  rw [List.take_add_one, List.getElem?_eq_getElem h, List.getD_eq_getElem?_getD, List.getElem?_eq_getElem h]; rfl
theorem getD_mem {β : Type} [Inhabited β] {l : List β} {k : Nat} (h : k < l.length) : l.getD k default ∈ l := by
  rw [List.getD_eq_getElem?_getD, List.getElem?_eq_getElem h]; exact List.getElem_mem h
theorem step_lt {p : Nat → Prop} {k : Nat} (h : ∀ j, j < k → p j) (hk : p k) : ∀ j, j < k + 1 → p j := fun j hj => by
  rcases Nat.lt_or_ge j k with h1 | h1
  · exact h j h1
  · obtain rfl : j = k := by omega
    exact hk
end Go.VS
