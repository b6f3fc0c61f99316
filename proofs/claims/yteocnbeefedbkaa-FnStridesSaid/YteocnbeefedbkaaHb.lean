/-
  Holds: what the models of the program and of the reference answer. Plain.
-/
import Derived.Test.YteocnbeefedbkaaHa
set_option linter.unusedSimpArgs false
set_option linter.unusedVariables false
namespace Go.Proofs.Yteocnbeefedbkaa
open Go.VS

/-! ### Lists of numbers -/
def serOk (l : List Int) : Bool := rise (fun n => !inR n 1 99) (fun a b => decide (a ≥ b)) l

theorem serS (l : List Int) (hl : l.length < 1000000) : M.spec_l1Rising l 1 99 = some (serOk l) := by
  unfold M.spec_l1Rising
  rw [iter_rise (n := l.length) (bad := riseB (fun n => !inR n 1 99) (fun a b => decide (a ≥ b)) l) (by omega) (fun k hk => by
    unfold M.spec_l1Rising_l0 riseB
    simp (disch := first | omega | (intros; simp only [decide_eq_true_eq, decide_eq_false_iff_not, Bool.not_eq_true, Bool.not_eq_false, Bool.not_true, Bool.not_false] at *; omega)) only [cast_succ, asrt_pos, wrap64_id, Option.bind_some, cond_true, cond_false, decide_eq_true, decide_eq_false, Int.toNat_natCast, Bool.not_true, Bool.not_false, Bool.and_true, Bool.true_and, Bool.and_false, Bool.false_and, Bool.or_true, Bool.true_or, Bool.or_false, Bool.false_or, l1InS, toNat_pred, bif_some]) (by
    unfold M.spec_l1Rising_l0
    simp (disch := first | omega | (intros; simp only [decide_eq_true_eq, decide_eq_false_iff_not, Bool.not_eq_true, Bool.not_eq_false, Bool.not_true, Bool.not_false] at *; omega)) only [cast_succ, asrt_pos, wrap64_id, Option.bind_some, cond_true, cond_false, decide_eq_true, decide_eq_false, Int.toNat_natCast, Bool.not_true, Bool.not_false, Bool.and_true, Bool.true_and, Bool.and_false, Bool.false_and, Bool.or_true, Bool.true_or, Bool.or_false, Bool.false_or])]
  unfold serOk rise
  cases (List.range l.length).any _ <;> rfl

theorem any_range {β : Type} [Inhabited β] (p : β → Bool) (l : List β) : ((List.range l.length).any fun k => p (l.getD k default)) = l.any p := any_getD.symm

/-! ### Holds -/
/-! ### Free days -/
theorem countP_lt {β : Type} {p q : β → Bool} {l : List β} (h : ∀ x ∈ l, q x = true → p x = true) (x : β) (hx : x ∈ l) (h1 : p x = true) (h2 : q x = false) : l.countP q < l.countP p := by
  induction l with
  | nil => cases hx
  | cons y t ih =>
    have hm : t.countP q ≤ t.countP p := List.countP_mono_left (fun z hz => h z (by simp [hz]))
    simp only [List.countP_cons]
    rcases List.mem_cons.1 hx with rfl | hx
    · simp only [h1, h2, Bool.false_eq_true, if_false, if_true]; omega
    · have := ih (fun z hz => h z (by simp [hz])) hx
      have h3 := h y (by simp)
      cases hq : q y
      · cases hp : p y <;> simp [hq, hp] <;> omega
      · simp [h3 hq, hq]; omega

end Go.Proofs.Yteocnbeefedbkaa
