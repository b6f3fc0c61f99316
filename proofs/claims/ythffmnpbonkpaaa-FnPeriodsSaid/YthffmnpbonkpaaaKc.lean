/-
  Due after an event; the plain law of 'periods'. Plain.
-/
import Derived.Test.YthffmnpbonkpaaaKb
set_option linter.unusedSimpArgs false
set_option linter.unusedVariables false
namespace Go.Proofs.Ythffmnpbonkpaaa
open Go.VS

theorem AddX_ok {r : Record} {e : Event} {p : Nat} (h : (AddX r e p).2 = true) : recOk r = true ∧ recOk (insE r e p) = true ∧ (AddX r e p).1 = insE r e p := by
  unfold AddX at h ⊢
  cases h1 : (recOk r && evOk e) && recOk (insE r e p)
  · rw [h1] at h; cases h
  · simp only [Bool.and_eq_true] at h1
    exact ⟨h1.1.1, h1.2, rfl⟩

def AfterX (r : Record) (s : List Rule) (e : Event) (p : Nat) : Int × Bool := bif (AddX r e p).2 then DueD (insE r e p) s else (0, false)
theorem afterI (r : Record) (s : List Rule) (e : Event) (hr : r.Events.length < 100000) (hs : s.length < 1000000) {p : Nat} (h1 : M.impl_AddEvent r e = some (AddX r e p)) : M.impl_DueAfter r s e = some (AfterX r s e p) := by
  unfold M.impl_DueAfter AfterX
  rw [h1, Option.bind_some]
  cases h : (AddX r e p).2
  · rfl
  · obtain ⟨g1, g2, g3⟩ := AddX_ok h
    simp only [Bool.not_true, cond_false, cond_true, g3]
    rw [dueDI (insE r e p) s (by unfold RecB; rw [insE_len]; omega) hs, Option.bind_some]
theorem afterS (r : Record) (s : List Rule) (e : Event) (hr : r.Events.length < 100000) (hs : s.length < 1000000) {p : Nat} (h1 : M.spec_AddEvent r e = some (AddX r e p)) : M.spec_DueAfter r s e = some (AfterX r s e p) := by
  unfold M.spec_DueAfter AfterX
  rw [h1, Option.bind_some]
  cases h : (AddX r e p).2
  · rfl
  · obtain ⟨g1, g2, g3⟩ := AddX_ok h
    simp only [Bool.not_true, cond_false, cond_true, g3, schedS s hs, Option.bind_some, Bool.false_or]
    unfold DueD both
    rw [g2, Bool.true_and]
    cases h2 : schedOk s
    · rfl
    simp only [Bool.not_true, cond_false, decidingS (insE r e p) s g2 h2, Option.bind_some, Bool.true_and]
    by_cases q : 0 ≤ (deciding (insE r e p) s).1
    · rw [decide_eq_false (show ¬ (deciding (insE r e p) s).1 < 0 by omega), decide_eq_true q]
      rfl
    · rw [decide_eq_true (show (deciding (insE r e p) s).1 < 0 by omega), decide_eq_false q]
      rfl

theorem drawEvent {code : List Int} {k : Nat} {c : Cur} (hb : Bytes code) (h : Good code k c) (hk : k < 700000000) (f : Int) : T (M.spec_l1Cur_event c f) (fun r => Good code (k + 20) r.2) := by
  unfold M.spec_l1Cur_event
  repeat' (first
    | ((with_reducible (refine T_pick hb (by assumption) ?_ ?_)); omega; intro x_ c_ hx1_ hx2_ hc_; try dsimp only)
    | ((with_reducible (refine T_among hb (by assumption) ?_ ?_ ?_)); omega; simp; intro x_ c_ hx_ hc_; try dsimp only)
    | ((with_reducible (refine T_one hb (by assumption) ?_ ?_)); omega; intro x_ c_ hc_; try dsimp only)
    | ((with_reducible (refine T_next hb (by assumption) ?_ ?_)); omega; intro x_ c_ hx_ hc_; try dsimp only)
    | ((with_reducible (refine T_ask ?_ ?_)); (first | omega | (simp at *; omega) | (intros; simp at *; omega)))
    | (with_reducible (refine T_if (fun hq_ => ?_) (fun hq_ => ?_)))
    | ((with_reducible (refine T_ret ?_)); try dsimp only)
    | (with_reducible (refine T_in ?_)))
  all_goals exact Good.up (by assumption) (by omega)

theorem dEndsOf {code : List Int} (hb : Bytes code) : T (M.spec_DrawEndsOf code) (fun r => r.1.Events.length ≤ 7 ∧ r.2.length < 1000000) := by
  unfold M.spec_DrawEndsOf
  refine (drawRecord hb good0 (by omega) 12).then ?_
  rintro ⟨r, c2⟩ ⟨h3, h4⟩
  refine (drawSuited hb h4 (by omega) r).then ?_
  rintro ⟨s, c3⟩ ⟨h5, h6⟩
  simp only at h3 h5
  exact T_ret ⟨h3, by simp only; omega⟩

theorem dDueAfter {code : List Int} (hb : Bytes code) : T (M.spec_DrawDueAfter code) (fun r => r.1.Events.length ≤ 7 ∧ r.2.1.length < 1000000) := by
  unfold M.spec_DrawDueAfter
  refine (drawRecord hb good0 (by omega) 12).then ?_
  rintro ⟨r, c2⟩ ⟨h3, h4⟩
  refine (drawSuited hb h4 (by omega) r).then ?_
  rintro ⟨s, c3⟩ ⟨h5, h6⟩
  simp only at h3 h5 h6
  refine (drawEvent hb h6 (by omega) r.Made).then ?_
  rintro ⟨e, c4⟩ _
  exact T_ret ⟨h3, by simp only; omega⟩
end Go.Proofs.Ythffmnpbonkpaaa
