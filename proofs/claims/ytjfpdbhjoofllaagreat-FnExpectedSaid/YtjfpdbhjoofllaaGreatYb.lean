/-
  Triggers dropped, series without a rule, contradictions; the plain law of cycles. Plain.
-/
import Derived.Test.YtjfpdbhjoofllaaGreatYa
import Derived.Test.YtjfpdbhjoofllaaGreatHc
import Derived.Test.YtjfpdbhjoofllaaGreatLi
import Derived.Test.YtjfpdbhjoofllaaGreatRa
set_option linter.unusedSimpArgs false
set_option linter.unusedVariables false
namespace Go.Proofs.YtjfpdbhjoofllaaGreat
open Go.VS

theorem contR (t : List Rule) (p : Rule → Bool) (fm : Rule → Option Bool) (hfm : ∀ x ∈ t, fm x = some (p x)) (hl : t.length < 1000000) : M.slices_ContainsFunc_impl_Rule_impl_Rule t fm = some (t.any p) := by
  unfold M.slices_ContainsFunc_impl_Rule_impl_Rule M.slices_IndexFunc_impl_Rule_impl_Rule
  have h := iter_first (step := M.slices_IndexFunc_impl_Rule_impl_Rule_l0 t fm) p t (by omega) (fun k hk => by
    have := hfm _ (getD_mem hk)
    unfold M.slices_IndexFunc_impl_Rule_impl_Rule_l0
    simp (disch := first | omega | (intros; simp only [decide_eq_true_eq, decide_eq_false_iff_not, Bool.not_eq_true, Bool.not_eq_false, Bool.not_true, Bool.not_false] at *; omega)) only [cast_succ, asrt_pos, wrap64_id, Option.bind_some, cond_true, cond_false, decide_eq_true, decide_eq_false, Int.toNat_natCast, Bool.not_true, Bool.not_false, Bool.and_true, Bool.true_and, Bool.and_false, Bool.false_and, Bool.or_true, Bool.true_or, Bool.or_false, Bool.false_or, bif_some, this]) (by
    unfold M.slices_IndexFunc_impl_Rule_impl_Rule_l0
    simp (disch := first | omega | (intros; simp only [decide_eq_true_eq, decide_eq_false_iff_not, Bool.not_eq_true, Bool.not_eq_false, Bool.not_true, Bool.not_false] at *; omega)) only [cast_succ, asrt_pos, wrap64_id, Option.bind_some, cond_true, cond_false, decide_eq_true, decide_eq_false, Int.toNat_natCast, Bool.not_true, Bool.not_false, Bool.and_true, Bool.true_and, Bool.and_false, Bool.false_and, Bool.or_true, Bool.true_or, Bool.or_false, Bool.false_or])
  refine (congrArg (fun q => q.bind fun y0 => some (decide (y0 ≥ 0))) h).trans ?_
  rw [Option.bind_some, firstAt_any]
end Go.Proofs.YtjfpdbhjoofllaaGreat
