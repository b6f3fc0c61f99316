/-
  Words, draws of words: what the program (strings.Trim) and the reference say of them. Plain.
-/
import Derived.Test.YtlpnicmlgckdnaaDoorTc
import Derived.Test.YtlpnicmlgckdnaaDoorHa
set_option linter.unusedSimpArgs false
set_option linter.unusedVariables false
namespace Go.Proofs.YtlpnicmlgckdnaaDoor
open Go.VS

/-! ### Words -/
def lower (b : UInt8) : Bool := decide (97 ≤ b.toNat) && decide (b.toNat ≤ 122)
def wordOk (s : List UInt8) : Bool := inR (s.length : Int) 1 10 && s.all lower

theorem dropW_nil {β : Type} {p : β → Bool} : ∀ {l : List β}, l.dropWhile p = [] ↔ l.all p = true
  | [] => by simp
  | x :: t => by
    simp only [List.dropWhile_cons, List.all_cons, Bool.and_eq_true]
    cases h : p x
    · simp
    · simpa [h] using dropW_nil (l := t)
theorem trimS_nil {l cs : List UInt8} : Go.Lib.trimS l cs = [] ↔ l.all (cs.contains ·) = true := by
  unfold Go.Lib.trimS Go.Lib.trimLeftS Go.Lib.trimRightS
  rw [dropW_nil, List.all_reverse]
  constructor
  · intro h
    by_cases hq : l.reverse.dropWhile (cs.contains ·) = []
    · rw [dropW_nil, List.all_reverse] at hq; exact hq
    · exfalso
      have h1 := List.head_dropWhile_not (cs.contains ·) hq
      have h2 := List.all_eq_true.1 h _ (List.head_mem hq)
      rw [h2] at h1
      cases h1
  · intro h
    have : l.reverse.dropWhile (cs.contains ·) = [] := by rw [dropW_nil, List.all_reverse]; exact h
    rw [this]; rfl

def letters : List UInt8 := [97, 98, 99, 100, 101, 102, 103, 104, 105, 106, 107, 108, 109, 110, 111, 112, 113, 114, 115, 116, 117, 118, 119, 120, 121, 122]
theorem letters_all : ∀ n : Fin 256, letters.contains (UInt8.ofNat n.val) = lower (UInt8.ofNat n.val) := by decide +kernel
theorem letters_lower (b : UInt8) : letters.contains b = lower b := by
  have := letters_all ⟨b.toNat, b.toNat_lt⟩
  simpa using this

/-! ### Draws -/
theorem slc_len0 {β : Type} {l : List β} {j : Int} (h0 : 0 ≤ j) (h1 : j ≤ (l.length : Int)) : (slc l 0 j).length = j.toNat := by
  unfold slc
  simp only [Int.toNat_zero, List.drop_zero, List.length_take]
  omega
theorem slc_ne {β : Type} {l : List β} {j : Int} (h0 : 0 < j) (h1 : j ≤ (l.length : Int)) : slc l 0 j ≠ [] := by
  intro e
  have := slc_len0 (l := l) (j := j) (by omega) h1
  rw [e] at this
  simp at this
  omega
theorem slc_mem {β : Type} {l : List β} {i j : Int} {x : β} (h : x ∈ slc l i j) : x ∈ l := List.mem_of_mem_take (List.mem_of_mem_drop h)

end Go.Proofs.YtlpnicmlgckdnaaDoor
