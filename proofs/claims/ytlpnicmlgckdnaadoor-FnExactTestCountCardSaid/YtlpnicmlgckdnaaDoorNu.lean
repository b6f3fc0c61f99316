/-
  Numbers as texts: the program's and the reference's. Plain.
-/
import Derived.Test.YtlpnicmlgckdnaaDoorTc
import Derived.Lib.ItoaNum
set_option linter.unusedSimpArgs false
set_option linter.unusedVariables false
namespace Go.Proofs.YtlpnicmlgckdnaaDoor
open Go.VS

/-- A digit's byte. -/
def digB (d : Nat) : UInt8 := UInt8.ofNat (48 + d)
/-- A natural number in decimal. -/
def numN (u : Nat) : List UInt8 := Go.Lib.decDigits u
def numT (n : Int) : List UInt8 := Go.Lib.itoa n
theorem numN_small {u : Nat} (h : u < 10) : numN u = [digB u] := by
  unfold numN
  rw [Go.Lib.decDigits, dif_pos h]
  rfl
theorem numN_big {u : Nat} (h : 10 ≤ u) : numN u = numN (u / 10) ++ [digB (u % 10)] := by
  unfold numN
  rw [Go.Lib.decDigits, dif_neg (by omega)]
  rfl
theorem numN_len : ∀ u : Nat, (numN u).length ≤ u + 1 := by
  intro u
  induction u using Nat.strongRecOn with
  | ind u ih =>
    rcases Nat.lt_or_ge u 10 with h | h
    · rw [numN_small h]; simp
    · rw [numN_big h, List.length_append]
      have := ih (u / 10) (by omega)
      simp only [List.length_cons, List.length_nil]
      omega
theorem numN_pos (u : Nat) : 1 ≤ (numN u).length := by
  rcases Nat.lt_or_ge u 10 with h | h
  · rw [numN_small h]; simp
  · rw [numN_big h, List.length_append]; simp
theorem numT_nat (u : Nat) : numT (u : Int) = numN u := by
  unfold numT Go.Lib.itoa
  rw [if_neg (by omega), Int.toNat_natCast]
  rfl
theorem numT_neg {u : Nat} (h : 0 < u) : numT (-(u : Int)) = 45 :: numN u := by
  unfold numT Go.Lib.itoa
  rw [if_pos (by omega)]
  have : (-(u : Int)).natAbs = u := by omega
  rw [this]
  rfl
theorem numT_len {n : Int} : (numT n).length ≤ n.natAbs + 2 := by
  by_cases h : n < 0
  · have e : n = -((n.natAbs : Nat) : Int) := by omega
    rw [e, numT_neg (by omega)]
    have := numN_len n.natAbs
    simp only [List.length_cons]
    omega
  · have e : n = ((n.natAbs : Nat) : Int) := by omega
    rw [e, numT_nat]
    have := numN_len n.natAbs
    omega
theorem decI (n : Int) (h0 : -1000000000 ≤ n) (h1 : n ≤ 1000000000) : M.impl_decimal n = some (numT n) := by
  unfold M.impl_decimal M.strconv_Itoa
  rw [asrt_pos ⟨by omega, by omega⟩]
  rfl
theorem slcDig : ∀ d : Fin 10, slc ([48, 49, 50, 51, 52, 53, 54, 55, 56, 57] : List UInt8) (d.1 : Int) ((d.1 : Int) + 1) = [digB d.1] := by decide
theorem slcD {d : Nat} (h : d < 10) : slc ([48, 49, 50, 51, 52, 53, 54, 55, 56, 57] : List UInt8) (d : Int) ((d : Int) + 1) = [digB d] := slcDig ⟨d, h⟩
theorem numR : ∀ (k u : Nat), u < k → u ≤ 1000000000 → M.spec_l1Num_r k (u : Int) = some (numN u)
  | 0, _, h, _ => absurd h (Nat.not_lt_zero _)
  | k + 1, u, h, hu => by
    show M.spec_l1Num_s (M.spec_l1Num_r k) (u : Int) = _
    unfold M.spec_l1Num_s
    rw [decide_eq_false (show ¬ (u : Int) < 0 by omega), cond_false]
    rcases Nat.lt_or_ge u 10 with h9 | h9
    · rw [decide_eq_true (show (u : Int) < 10 by omega), cond_true, wrap64_id (n := (u : Int) + 1) (by omega) (by omega), asrt_pos ⟨by omega, by omega, by show (u : Int) + 1 ≤ 10; omega⟩, slcD h9, numN_small h9]
    · have e1 : Int.tdiv (u : Int) 10 = ((u / 10 : Nat) : Int) := by rw [Int.tdiv_eq_ediv_of_nonneg (by omega)]; omega
      have e2 : Int.tmod (u : Int) 10 = ((u % 10 : Nat) : Int) := by rw [Int.tmod_eq_emod_of_nonneg (by omega)]; omega
      have hl := numN_len (u / 10)
      rw [decide_eq_false (show ¬ (u : Int) < 10 by omega), cond_false, e1, e2, wrap64_id (n := ((u / 10 : Nat) : Int)) (by omega) (by omega), numR k (u / 10) (by omega) (by omega), Option.bind_some, wrap64_id (n := ((u % 10 : Nat) : Int) + 1) (by omega) (by omega), asrt_pos ⟨by omega, by omega, by show ((u % 10 : Nat) : Int) + 1 ≤ 10; omega⟩, slcD (by omega), asrt_pos (by simp only [List.length_cons, List.length_nil]; omega), numN_big h9]
theorem numS (n : Int) (h0 : -1000000000 ≤ n) (h1 : n ≤ 1000000000) : M.spec_l1Num n = some (numT n) := by
  unfold M.spec_l1Num
  by_cases h : n < 0
  · obtain ⟨u, hu⟩ : ∃ u : Nat, n = -(u : Int) := ⟨n.natAbs, by omega⟩
    subst hu
    have hr : rounds = (rounds - 1) + 1 := by unfold rounds; rfl
    rw [hr]
    show M.spec_l1Num_s (M.spec_l1Num_r (rounds - 1)) (-(u : Int)) = _
    unfold M.spec_l1Num_s
    have hl := numN_len u
    rw [decide_eq_true (by omega), cond_true, show (0 : Int) - (-(u : Int)) = (u : Int) by omega, wrap64_id (n := (u : Int)) (by omega) (by omega), numR (rounds - 1) u (by unfold rounds; omega) (by omega), Option.bind_some, asrt_pos (by simp only [List.length_cons, List.length_nil]; omega), numT_neg (by omega)]
    rfl
  · obtain ⟨u, hu⟩ : ∃ u : Nat, n = (u : Int) := ⟨n.toNat, by omega⟩
    subst hu
    rw [numR rounds u (by unfold rounds; omega) (by omega), numT_nat]
end Go.Proofs.YtlpnicmlgckdnaaDoor
