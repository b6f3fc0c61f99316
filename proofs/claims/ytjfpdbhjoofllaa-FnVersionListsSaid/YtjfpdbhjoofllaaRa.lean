/-
  Rules put and dropped: both sides say the same. Plain.
-/
import Derived.Test.YtjfpdbhjoofllaaHc
set_option linter.unusedSimpArgs false
set_option linter.unusedVariables false
namespace Go.Proofs.Ytjfpdbhjoofllaa
open Go.VS
theorem getD_app_l {β : Type} [Inhabited β] {a b : List β} {k : Nat} (h : k < a.length) : (a ++ b).getD k default = a.getD k default := by simp [List.getD, List.getElem?_append_left h]
theorem getD_app_r {β : Type} [Inhabited β] {a b : List β} {k : Nat} (h : a.length ≤ k) : (a ++ b).getD k default = b.getD (k - a.length) default := by simp [List.getD, List.getElem?_append_right h]
theorem half_id {i j : Int} (h0 : 0 ≤ i) (h1 : i ≤ j) (h2 : j < 1000000) : IntKind.i64.wrap (Int.fdiv (IntKind.u64.wrap (IntKind.i64.wrap (i + j))) (2 ^ (min (Int.toNat (1 : Int)) IntKind.u64.bits))) = (i + j) / 2 := by
  have e1 : IntKind.i64.wrap (i + j) = i + j := wrap64_id (by omega) (by omega)
  have e2 : IntKind.u64.wrap (i + j) = i + j := by
    unfold IntKind.wrap
    simp [IntKind.signed, IntKind.bits]
    omega
  have e3 : (2 ^ (min (Int.toNat (1 : Int)) IntKind.u64.bits) : Int) = 2 := by decide
  rw [e1, e2, e3, Int.fdiv_eq_ediv_of_nonneg _ (by omega), wrap64_id (by omega) (by omega)]
end Go.Proofs.Ytjfpdbhjoofllaa
