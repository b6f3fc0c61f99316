/-
  The law of holds. Plain.
-/
import Derived.Test.YtjbgllhimnopaaaHc
set_option linter.unusedSimpArgs false
set_option linter.unusedVariables false
namespace Go.Proofs.Ytjbgllhimnopaaa
open Go.VS

theorem vInts_self (a : List Int) (hl : a.length < 1000000) : M.laws_vInts a a = some true := by
  unfold M.laws_vInts
  simp only [bne_self_eq_false, cond_false]
  rw [iter_up (s := 0) (step := M.laws_vInts_l0 a a) (e := .inl ()) (fun k => (k : Int)) a.length rfl (by omega) (fun k hk => by
    unfold M.laws_vInts_l0
    simp (disch := first | omega | (intros; simp only [decide_eq_true_eq, decide_eq_false_iff_not, Bool.not_eq_true, Bool.not_eq_false, Bool.not_true, Bool.not_false] at *; omega)) only [cast_succ, asrt_pos, wrap64_id, Option.bind_some, cond_true, cond_false, decide_eq_true, decide_eq_false, Int.toNat_natCast, Bool.not_true, Bool.not_false, Bool.and_true, Bool.true_and, Bool.and_false, Bool.false_and, Bool.or_true, Bool.true_or, Bool.or_false, Bool.false_or, bne_self_eq_false]) (by
    unfold M.laws_vInts_l0
    simp (disch := first | omega | (intros; simp only [decide_eq_true_eq, decide_eq_false_iff_not, Bool.not_eq_true, Bool.not_eq_false, Bool.not_true, Bool.not_false] at *; omega)) only [cast_succ, asrt_pos, wrap64_id, Option.bind_some, cond_true, cond_false, decide_eq_true, decide_eq_false, Int.toNat_natCast, Bool.not_true, Bool.not_false, Bool.and_true, Bool.true_and, Bool.and_false, Bool.false_and, Bool.or_true, Bool.true_or, Bool.or_false, Bool.false_or])]
  rfl

def held (l : List Hold) (r : Record) (d : Int) : Bool := (holdsOk l && recOk r) && inR d 0 20000

theorem heldI (l : List Hold) (r : Record) (d : Int) (hl : HoldsB l) (hr : RecB r) : M.impl_areHeld l r d = some (held l r d) := by
  unfold M.impl_areHeld held
  simp only [holdsI l hl, recI r hr, isDayI, Option.bind_some, bif_some]
  cases holdsOk l <;> cases recOk r <;> rfl
theorem heldS (l : List Hold) (r : Record) (d : Int) (hl : HoldsB l) (hr : RecB r) : M.spec_l9Asked l r d = some (held l r d) := by
  unfold M.spec_l9Asked held
  simp only [holdsS l hl, recS r hr, l2DayS, Option.bind_some, bif_some]
  cases holdsOk l <;> cases recOk r <;> rfl
theorem held_spec {l : List Hold} {r : Record} {d : Int} (h : held l r d = true) : holdsOk l = true ∧ recOk r = true ∧ 0 ≤ d ∧ d ≤ 20000 := by
  unfold held at h
  simp only [Bool.and_eq_true, inR_true] at h
  exact ⟨h.1.1, h.1.2, h.2⟩

def HoldsOn (l : List Hold) (r : Record) (d : Int) : List Int × Bool := bif held l r d then (onD l r d, true) else ([], false)
theorem holdsOnI (l : List Hold) (r : Record) (d : Int) (hl : HoldsB l) (hr : RecB r) : M.impl_HoldsOn l r d = some (HoldsOn l r d) := by
  unfold M.impl_HoldsOn HoldsOn
  rw [heldI l r d hl hr, Option.bind_some]
  cases h : held l r d
  · rfl
  · rw [onI l r d (held_spec h).1]; rfl
theorem HoldsOn_len (l : List Hold) (r : Record) (d : Int) (hl : HoldsB l) : (HoldsOn l r d).1.length < 1000000 := by
  unfold HoldsOn
  cases held l r d
  · simp
  · have := onD_len (l := l) (r := r) (d := d); have := hl.1; simp only [cond_true]; omega

noncomputable def FreeD (l : List Hold) (r : Record) (d : Int) : Int × Bool := bif held l r d then fday l r d else (0, false)
theorem due_max {a : Int} (h : 0 ≤ a) : (bif decide (a < 0) then 0 else a) = a := by rw [show decide (a < 0) = false from decide_eq_false (by omega)]; rfl

/-! ### Draws -/
structure Drawn (l : List Hold) (r : Record) : Prop where
  l : HoldsB l
  r : RecB r

end Go.Proofs.Ytjbgllhimnopaaa
