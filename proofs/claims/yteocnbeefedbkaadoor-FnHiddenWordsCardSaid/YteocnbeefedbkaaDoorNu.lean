/-
  Numbers as texts: the program's and the reference's. Plain.
-/
import Derived.Test.YteocnbeefedbkaaDoorTc
import Derived.Lib.ItoaNum
set_option linter.unusedSimpArgs false
set_option linter.unusedVariables false
namespace Go.Proofs.YteocnbeefedbkaaDoor
open Go.VS

/-- A digit's byte. -/
def digB (d : Nat) : UInt8 := UInt8.ofNat (48 + d)
/-- A natural number in decimal. -/
def numN (u : Nat) : List UInt8 := Go.Lib.decDigits u
def numT (n : Int) : List UInt8 := Go.Lib.itoa n
theorem numN_small {u : Nat} (h : u < 10) : numN u = [digB u] := by
  unfold numN
  rw [Go.Lib.decDigits, dif_pos h]
  rfl
theorem numN_big {u : Nat} (h : 10 ≤ u) : numN u = numN (u / 10) ++ [digB (u % 10)] := by
  unfold numN
  rw [Go.Lib.decDigits, dif_neg (by omega)]
  rfl
theorem numN_len : ∀ u : Nat, (numN u).length ≤ u + 1 := by
  intro u
  induction u using Nat.strongRecOn with
  | ind u ih =>
    rcases Nat.lt_or_ge u 10 with h | h
    · rw [numN_small h]; simp
    · rw [numN_big h, List.length_append]
      have := ih (u / 10) (by omega)
      simp only [List.length_cons, List.length_nil]
      omega
theorem numN_pos (u : Nat) : 1 ≤ (numN u).length := by
  rcases Nat.lt_or_ge u 10 with h | h
  · rw [numN_small h]; simp
  · rw [numN_big h, List.length_append]; simp
theorem numT_nat (u : Nat) : numT (u : Int) = numN u := by
  unfold numT Go.Lib.itoa
  rw [if_neg (by omega), Int.toNat_natCast]
  rfl
theorem numT_neg {u : Nat} (h : 0 < u) : numT (-(u : Int)) = 45 :: numN u := by
  unfold numT Go.Lib.itoa
  rw [if_pos (by omega)]
  have : (-(u : Int)).natAbs = u := by omega
  rw [this]
  rfl
theorem numT_len {n : Int} : (numT n).length ≤ n.natAbs + 2 := by
  by_cases h : n < 0
  · have e : n = -((n.natAbs : Nat) : Int) := by omega
    rw [e, numT_neg (by omega)]
    have := numN_len n.natAbs
    simp only [List.length_cons]
    omega
  · have e : n = ((n.natAbs : Nat) : Int) := by omega
    rw [e, numT_nat]
    have := numN_len n.natAbs
    omega
theorem slcDig : ∀ d : Fin 10, slc ([48, 49, 50, 51, 52, 53, 54, 55, 56, 57] : List UInt8) (d.1 : Int) ((d.1 : Int) + 1) = [digB d.1] := by decide
theorem slcD {d : Nat} (h : d < 10) : slc ([48, 49, 50, 51, 52, 53, 54, 55, 56, 57] : List UInt8) (d : Int) ((d : Int) + 1) = [digB d] := slcDig ⟨d, h⟩
end Go.Proofs.YteocnbeefedbkaaDoor
