/-
  The law of holds. Plain.
-/
import Derived.Test.YthffmnpbonkpaaaHc
set_option linter.unusedSimpArgs false
set_option linter.unusedVariables false
namespace Go.Proofs.Ythffmnpbonkpaaa
open Go.VS

theorem vInts_self (a : List Int) (hl : a.length < 1000000) : M.laws_vInts a a = some true := by
  unfold M.laws_vInts
  simp only [bne_self_eq_false, cond_false]
  rw [iter_up (s := 0) (step := M.laws_vInts_l0 a a) (e := .inl ()) (fun k => (k : Int)) a.length rfl (by omega) (fun k hk => by
    unfold M.laws_vInts_l0
    simp (disch := first | omega | (intros; simp only [decide_eq_true_eq, decide_eq_false_iff_not, Bool.not_eq_true, Bool.not_eq_false, Bool.not_true, Bool.not_false] at *; omega)) only [cast_succ, asrt_pos, wrap64_id, Option.bind_some, cond_true, cond_false, decide_eq_true, decide_eq_false, Int.toNat_natCast, Bool.not_true, Bool.not_false, Bool.and_true, Bool.true_and, Bool.and_false, Bool.false_and, Bool.or_true, Bool.true_or, Bool.or_false, Bool.false_or, bne_self_eq_false]) (by
    unfold M.laws_vInts_l0
    simp (disch := first | omega | (intros; simp only [decide_eq_true_eq, decide_eq_false_iff_not, Bool.not_eq_true, Bool.not_eq_false, Bool.not_true, Bool.not_false] at *; omega)) only [cast_succ, asrt_pos, wrap64_id, Option.bind_some, cond_true, cond_false, decide_eq_true, decide_eq_false, Int.toNat_natCast, Bool.not_true, Bool.not_false, Bool.and_true, Bool.true_and, Bool.and_false, Bool.false_and, Bool.or_true, Bool.true_or, Bool.or_false, Bool.false_or])]
  rfl

def both (r : Record) (s : List Rule) : Bool := recOk r && schedOk s
theorem bothI (r : Record) (s : List Rule) (hr : RecB r) (hs : s.length < 1000000) : M.impl_areBoth r s = some (both r s) := by
  unfold M.impl_areBoth both
  simp only [recI r hr, schedI s hs, Option.bind_some, bif_some]
  cases recOk r <;> rfl

theorem due_max {a : Int} (h : 0 ≤ a) : (bif decide (a < 0) then 0 else a) = a := by rw [show decide (a < 0) = false from decide_eq_false (by omega)]; rfl

theorem act3 {r : Record} {s : List Rule} (hr : recOk r = true) (hs : schedOk s = true) (h : ((deciding r s).2.Act == 3) = true) : 0 ≤ (deciding r s).1 ∧ (deciding r s).1 ≤ 40000 := by
  rcases deciding_bd hr hs with h1 | h1
  · rw [h1] at h; cases h
  · exact h1

/-! ### Draws -/
end Go.Proofs.Ythffmnpbonkpaaa
