/-
  Ends of periods, what a record waits for, the rule that decides: both sides say the same. Plain.
-/
import Derived.Test.YthffmnpbonkpaaaDa
set_option linter.unusedSimpArgs false
set_option linter.unusedVariables false
namespace Go.Proofs.Ythffmnpbonkpaaa
open Go.VS

def endsL (r : Record) (s : List Rule) : List Int := (rulesFor s r.Series).map (endOf r)
def EndsD (r : Record) (s : List Rule) : List Int × Bool := bif both r s then (endsL r s, true) else ([], false)
def waitB (r : Record) (u : Rule) : Bool := decide (endOf r u < 0)
def waitsL (r : Record) (s : List Rule) : List Int := ((rulesFor s r.Series).filter (waitB r)).map (·.Event)
def WaitsD (r : Record) (s : List Rule) : List Int × Bool := bif both r s then (waitsL r s, true) else ([], false)
def DecD (r : Record) (s : List Rule) : Rule × Bool := bif both r s then ((deciding r s).2, decide ((deciding r s).1 ≥ 0)) else (⟨0, 0, 0, 0⟩, false)

theorem endsLoopI (r : Record) (q : List Rule) (hr : recOk r = true) (hd : ∀ u ∈ q, 0 ≤ u.Days ∧ u.Days ≤ 20000) (hl : q.length < 1000000) : iterO (M.impl_EndsOf_l0 r q) ([], 0) = some (q.map (endOf r)) := by
  rw [iter_coll (s := (([] : List Int), (0 : Int))) (step := M.impl_EndsOf_l0 r q) (fun a k => (a, (k : Int))) (fun u : Rule => [endOf r u]) id q rfl (by omega) (fun k _ => Nat.le_refl _) (fun a k hk ha => by
    unfold M.impl_EndsOf_l0
    have h2 := endI r (q.getD k default) hr (hd _ (getD_mem hk))
    simp (disch := first | omega | (intros; simp only [decide_eq_true_eq, decide_eq_false_iff_not, Bool.not_eq_true, Bool.not_eq_false, Bool.not_true, Bool.not_false] at *; omega)) only [cast_succ, asrt_pos, wrap64_id, Option.bind_some, cond_true, cond_false, decide_eq_true, decide_eq_false, Int.toNat_natCast, Bool.not_true, Bool.not_false, Bool.and_true, Bool.true_and, Bool.and_false, Bool.false_and, Bool.or_true, Bool.true_or, Bool.or_false, Bool.false_or, List.length_singleton, h2]) (fun a ha => by
    unfold M.impl_EndsOf_l0
    simp (disch := first | omega | (intros; simp only [decide_eq_true_eq, decide_eq_false_iff_not, Bool.not_eq_true, Bool.not_eq_false, Bool.not_true, Bool.not_false] at *; omega)) only [cast_succ, asrt_pos, wrap64_id, Option.bind_some, cond_true, cond_false, decide_eq_true, decide_eq_false, Int.toNat_natCast, Bool.not_true, Bool.not_false, Bool.and_true, Bool.true_and, Bool.and_false, Bool.false_and, Bool.or_true, Bool.true_or, Bool.or_false, Bool.false_or, id])]
  simp only [id, List.map_eq_flatMap]
theorem endsLoopS (r : Record) (q : List Rule) (hr : recOk r = true) (hd : ∀ u ∈ q, 0 ≤ u.Days ∧ u.Days ≤ 20000) (hl : q.length < 1000000) : iterO (M.spec_EndsOf_l0 r q) ([], 0) = some (q.map (endOf r)) := by
  rw [iter_coll (s := (([] : List Int), (0 : Int))) (step := M.spec_EndsOf_l0 r q) (fun a k => (a, (k : Int))) (fun u : Rule => [endOf r u]) id q rfl (by omega) (fun k _ => Nat.le_refl _) (fun a k hk ha => by
    unfold M.spec_EndsOf_l0
    have h2 := endS r (q.getD k default) hr (hd _ (getD_mem hk))
    simp (disch := first | omega | (intros; simp only [decide_eq_true_eq, decide_eq_false_iff_not, Bool.not_eq_true, Bool.not_eq_false, Bool.not_true, Bool.not_false] at *; omega)) only [cast_succ, asrt_pos, wrap64_id, Option.bind_some, cond_true, cond_false, decide_eq_true, decide_eq_false, Int.toNat_natCast, Bool.not_true, Bool.not_false, Bool.and_true, Bool.true_and, Bool.and_false, Bool.false_and, Bool.or_true, Bool.true_or, Bool.or_false, Bool.false_or, List.length_singleton, h2]) (fun a ha => by
    unfold M.spec_EndsOf_l0
    simp (disch := first | omega | (intros; simp only [decide_eq_true_eq, decide_eq_false_iff_not, Bool.not_eq_true, Bool.not_eq_false, Bool.not_true, Bool.not_false] at *; omega)) only [cast_succ, asrt_pos, wrap64_id, Option.bind_some, cond_true, cond_false, decide_eq_true, decide_eq_false, Int.toNat_natCast, Bool.not_true, Bool.not_false, Bool.and_true, Bool.true_and, Bool.and_false, Bool.false_and, Bool.or_true, Bool.true_or, Bool.or_false, Bool.false_or, id])]
  simp only [id, List.map_eq_flatMap]

theorem rulesFor_lt {l : List Rule} {s : Int} (h : l.length < 1000000) : (rulesFor l s).length < 1000000 := Nat.lt_of_le_of_lt rulesFor_len h

theorem endsOfI (r : Record) (s : List Rule) (hr : RecB r) (hs : s.length < 1000000) : M.impl_EndsOf r s = some (EndsD r s) := by
  unfold M.impl_EndsOf EndsD
  rw [bothI r s hr hs, Option.bind_some]
  cases h1 : both r s
  · rfl
  obtain ⟨g1, g2⟩ := both_spec h1
  simp only [Bool.not_true, cond_false, cond_true, forI s r.Series hs, Option.bind_some, endsLoopI r _ g1 (rulesFor_days g2) (rulesFor_lt hs)]
  rfl
theorem endsOfS (r : Record) (s : List Rule) (hr : RecB r) (hs : s.length < 1000000) : M.spec_EndsOf r s = some (EndsD r s) := by
  unfold M.spec_EndsOf EndsD
  rw [bothS r s hr hs, Option.bind_some]
  cases h1 : both r s
  · rfl
  obtain ⟨g1, g2⟩ := both_spec h1
  simp only [Bool.not_true, cond_false, cond_true, forS s r.Series hs, Option.bind_some, endsLoopS r _ g1 (rulesFor_days g2) (rulesFor_lt hs)]
  rfl

theorem waitsLoopI (r : Record) (q : List Rule) (hr : recOk r = true) (hd : ∀ u ∈ q, 0 ≤ u.Days ∧ u.Days ≤ 20000) (hl : q.length < 1000000) : iterO (M.impl_WaitsFor_l0 r q) ([], 0) = some ((q.filter (waitB r)).map (·.Event)) := by
  rw [iter_coll (s := (([] : List Int), (0 : Int))) (step := M.impl_WaitsFor_l0 r q) (fun a k => (a, (k : Int))) (fun u : Rule => bif waitB r u then [u.Event] else []) id q rfl (by omega) (fun k _ => if_len _ _) (fun a k hk ha => by
    unfold M.impl_WaitsFor_l0
    have h2 := endI r (q.getD k default) hr (hd _ (getD_mem hk))
    have h3 : decide (endOf r (q.getD k default) < 0) = waitB r (q.getD k default) := rfl
    simp (disch := first | omega | (intros; simp only [decide_eq_true_eq, decide_eq_false_iff_not, Bool.not_eq_true, Bool.not_eq_false, Bool.not_true, Bool.not_false] at *; omega)) only [cast_succ, asrt_pos, wrap64_id, Option.bind_some, cond_true, cond_false, decide_eq_true, decide_eq_false, Int.toNat_natCast, Bool.not_true, Bool.not_false, Bool.and_true, Bool.true_and, Bool.and_false, Bool.false_and, Bool.or_true, Bool.true_or, Bool.or_false, Bool.false_or, app_if, List.length_singleton, h2, h3]
    cases waitB r (q.getD k default) <;> rfl) (fun a ha => by
    unfold M.impl_WaitsFor_l0
    simp (disch := first | omega | (intros; simp only [decide_eq_true_eq, decide_eq_false_iff_not, Bool.not_eq_true, Bool.not_eq_false, Bool.not_true, Bool.not_false] at *; omega)) only [cast_succ, asrt_pos, wrap64_id, Option.bind_some, cond_true, cond_false, decide_eq_true, decide_eq_false, Int.toNat_natCast, Bool.not_true, Bool.not_false, Bool.and_true, Bool.true_and, Bool.and_false, Bool.false_and, Bool.or_true, Bool.true_or, Bool.or_false, Bool.false_or, id])]
  simp only [id, flatMap_if]
theorem waitsLoopS (r : Record) (q : List Rule) (hr : recOk r = true) (hd : ∀ u ∈ q, 0 ≤ u.Days ∧ u.Days ≤ 20000) (hl : q.length < 1000000) : iterO (M.spec_WaitsFor_l0 r q) ([], 0) = some ((q.filter (waitB r)).map (·.Event)) := by
  rw [iter_coll (s := (([] : List Int), (0 : Int))) (step := M.spec_WaitsFor_l0 r q) (fun a k => (a, (k : Int))) (fun u : Rule => bif waitB r u then [u.Event] else []) id q rfl (by omega) (fun k _ => if_len _ _) (fun a k hk ha => by
    unfold M.spec_WaitsFor_l0
    have h2 := endS r (q.getD k default) hr (hd _ (getD_mem hk))
    have h3 : decide (endOf r (q.getD k default) < 0) = waitB r (q.getD k default) := rfl
    simp (disch := first | omega | (intros; simp only [decide_eq_true_eq, decide_eq_false_iff_not, Bool.not_eq_true, Bool.not_eq_false, Bool.not_true, Bool.not_false] at *; omega)) only [cast_succ, asrt_pos, wrap64_id, Option.bind_some, cond_true, cond_false, decide_eq_true, decide_eq_false, Int.toNat_natCast, Bool.not_true, Bool.not_false, Bool.and_true, Bool.true_and, Bool.and_false, Bool.false_and, Bool.or_true, Bool.true_or, Bool.or_false, Bool.false_or, app_if, List.length_singleton, h2, h3]
    cases waitB r (q.getD k default) <;> rfl) (fun a ha => by
    unfold M.spec_WaitsFor_l0
    simp (disch := first | omega | (intros; simp only [decide_eq_true_eq, decide_eq_false_iff_not, Bool.not_eq_true, Bool.not_eq_false, Bool.not_true, Bool.not_false] at *; omega)) only [cast_succ, asrt_pos, wrap64_id, Option.bind_some, cond_true, cond_false, decide_eq_true, decide_eq_false, Int.toNat_natCast, Bool.not_true, Bool.not_false, Bool.and_true, Bool.true_and, Bool.and_false, Bool.false_and, Bool.or_true, Bool.true_or, Bool.or_false, Bool.false_or, id])]
  simp only [id, flatMap_if]

theorem waitsI (r : Record) (s : List Rule) (hr : RecB r) (hs : s.length < 1000000) : M.impl_WaitsFor r s = some (WaitsD r s) := by
  unfold M.impl_WaitsFor WaitsD
  rw [bothI r s hr hs, Option.bind_some]
  cases h1 : both r s
  · rfl
  obtain ⟨g1, g2⟩ := both_spec h1
  simp only [Bool.not_true, cond_false, cond_true, forI s r.Series hs, Option.bind_some, waitsLoopI r _ g1 (rulesFor_days g2) (rulesFor_lt hs)]
  rfl
theorem waitsS (r : Record) (s : List Rule) (hr : RecB r) (hs : s.length < 1000000) : M.spec_WaitsFor r s = some (WaitsD r s) := by
  unfold M.spec_WaitsFor WaitsD
  rw [bothS r s hr hs, Option.bind_some]
  cases h1 : both r s
  · rfl
  obtain ⟨g1, g2⟩ := both_spec h1
  simp only [Bool.not_true, cond_false, cond_true, forS s r.Series hs, Option.bind_some, waitsLoopS r _ g1 (rulesFor_days g2) (rulesFor_lt hs)]
  rfl

theorem decI (r : Record) (s : List Rule) (hr : RecB r) (hs : s.length < 1000000) : M.impl_DecidingRule r s = some (DecD r s) := by
  unfold M.impl_DecidingRule DecD
  rw [bothI r s hr hs, Option.bind_some]
  cases h1 : both r s
  · rfl
  obtain ⟨g1, g2⟩ := both_spec h1
  simp only [Bool.not_true, cond_false, cond_true, decidingI r s g1 g2, Option.bind_some]
theorem decS (r : Record) (s : List Rule) (hr : RecB r) (hs : s.length < 1000000) : M.spec_DecidingRule r s = some (DecD r s) := by
  unfold M.spec_DecidingRule DecD
  rw [bothS r s hr hs, Option.bind_some]
  cases h1 : both r s
  · rfl
  obtain ⟨g1, g2⟩ := both_spec h1
  simp only [Bool.not_true, cond_false, cond_true, decidingS r s g1 g2, Option.bind_some]

/-! ### The rule that decides, among those of its series -/
/-- What a fold that has not stopped has found. -/
theorem decF_top {r : Record} : ∀ (l : List Rule) (a : Int × Rule), (∀ u ∈ l, waitB r u = false) → (forE (decB r) id l a = a ∨ ∃ u ∈ l, forE (decB r) id l a = (endOf r u, u)) ∧ a.1 ≤ (forE (decB r) id l a).1 ∧ ∀ u ∈ l, endOf r u ≤ (forE (decB r) id l a).1
  | [], a, _ => ⟨.inl rfl, Int.le_refl _, fun u hu => by cases hu⟩
  | u :: t, a, h => by
    have hu : decide (endOf r u < 0) = false := h u (List.mem_cons_self ..)
    have ht : ∀ v ∈ t, waitB r v = false := fun v hv => h v (List.mem_cons_of_mem _ hv)
    cases hc : (decide (endOf r u > a.1) || ((endOf r u == a.1) && decide (u.Act < a.2.Act)))
    · have e : forE (decB r) id (u :: t) a = forE (decB r) id t a := by
        have e0 : decB r a u = .inl a := by unfold decB; rw [hu, hc]; rfl
        simp only [forE, e0]
      obtain ⟨g1, g2, g3⟩ := decF_top t a ht
      rw [e]
      simp only [Bool.or_eq_false_iff, decide_eq_false_iff_not] at hc
      refine ⟨g1.imp id fun ⟨v, hv, q⟩ => ⟨v, List.mem_cons_of_mem _ hv, q⟩, g2, fun v hv => ?_⟩
      rcases List.mem_cons.1 hv with rfl | hv
      · omega
      · exact g3 v hv
    · have e : forE (decB r) id (u :: t) a = forE (decB r) id t (endOf r u, u) := by
        have e0 : decB r a u = .inl (endOf r u, u) := by unfold decB; rw [hu, hc]; rfl
        simp only [forE, e0]
      obtain ⟨g1, g2, g3⟩ := decF_top t (endOf r u, u) ht
      rw [e]
      simp only [Bool.or_eq_true, Bool.and_eq_true, decide_eq_true_eq, beq_iff_eq] at hc
      simp only at g2
      refine ⟨.inr ?_, by omega, fun v hv => ?_⟩
      · rcases g1 with g1 | ⟨v, hv, q⟩
        · exact ⟨u, List.mem_cons_self .., g1⟩
        · exact ⟨v, List.mem_cons_of_mem _ hv, q⟩
      · rcases List.mem_cons.1 hv with rfl | hv
        · exact g2
        · exact g3 v hv
/-- One that waits stops the fold. -/
theorem decF_wait {r : Record} : ∀ (l : List Rule) (a : Int × Rule), (∃ u ∈ l, waitB r u = true) → forE (decB r) id l a = (-1, noRule)
  | [], a, h => by obtain ⟨u, hu, _⟩ := h; cases hu
  | u :: t, a, h => by
    cases hu : decide (endOf r u < 0)
    · have ht : ∃ v ∈ t, waitB r v = true := by
        obtain ⟨v, hv, q⟩ := h
        rcases List.mem_cons.1 hv with rfl | hv
        · unfold waitB at q; rw [hu] at q; cases q
        · exact ⟨v, hv, q⟩
      obtain ⟨a', e0⟩ : ∃ a', decB r a u = .inl a' := by unfold decB; rw [hu]; exact ⟨_, rfl⟩
      simp only [forE, e0]
      exact decF_wait t _ ht
    · have e0 : decB r a u = .inr (-1, noRule) := by unfold decB; rw [hu]; rfl
      simp only [forE, e0]
end Go.Proofs.Ythffmnpbonkpaaa
