/-
  Due days of records: the plain law of 'due'. Plain.
-/
import Derived.Test.YthffmnpbonkpaaaHd
set_option linter.unusedSimpArgs false
set_option linter.unusedVariables false
namespace Go.Proofs.Ythffmnpbonkpaaa
open Go.VS

theorem bothS (r : Record) (s : List Rule) (hr : RecB r) (hs : s.length < 1000000) : M.spec_l6Asked r s = some (both r s) := by
  unfold M.spec_l6Asked both
  simp only [recS r hr, schedS s hs, Option.bind_some, bif_some]
  cases recOk r <;> rfl
theorem both_spec {r : Record} {s : List Rule} (h : both r s = true) : recOk r = true ∧ schedOk s = true := by
  unfold both at h; simpa using h

def DueD (r : Record) (s : List Rule) : Int × Bool := bif both r s && decide (0 ≤ (deciding r s).1) then ((deciding r s).1, true) else (0, false)
theorem dueDI (r : Record) (s : List Rule) (hr : RecB r) (hs : s.length < 1000000) : M.impl_DueDay r s = some (DueD r s) := by
  unfold M.impl_DueDay DueD
  rw [bothI r s hr hs, Option.bind_some]
  cases h : both r s
  · rfl
  · obtain ⟨h1, h2⟩ := both_spec h
    simp only [Bool.not_true, cond_false, decidingI r s h1 h2, Option.bind_some, Bool.true_and]
    by_cases h3 : 0 ≤ (deciding r s).1
    · rw [due_max h3, decide_eq_true h3]; simp [h3]
    · rw [decide_eq_false h3, decide_eq_true (show (deciding r s).1 < 0 by omega)]; simp <;> omega
theorem dueDS (r : Record) (s : List Rule) (hr : RecB r) (hs : s.length < 1000000) : M.spec_DueDay r s = some (DueD r s) := by
  unfold M.spec_DueDay DueD
  rw [bothS r s hr hs, Option.bind_some]
  cases h : both r s
  · rfl
  · obtain ⟨h1, h2⟩ := both_spec h
    simp only [Bool.not_true, cond_false, decidingS r s h1 h2, Option.bind_some, Bool.true_and]
    by_cases h3 : 0 ≤ (deciding r s).1
    · rw [decide_eq_true h3, decide_eq_false (show ¬ (deciding r s).1 < 0 by omega)]; rfl
    · rw [decide_eq_false h3, decide_eq_true (show (deciding r s).1 < 0 by omega)]; rfl

def allOk (l : List Record) (s : List Rule) : Bool := recsOk l && schedOk s
theorem allOk_spec {l : List Record} {s : List Rule} (h : allOk l s = true) : (∀ k, k < l.length → recOk (l.getD k default) = true) ∧ schedOk s = true ∧ l.length ≤ 10 := by
  unfold allOk recsOk at h
  simp only [Bool.and_eq_true, decide_eq_true_eq] at h
  exact ⟨fun k hk => by simpa using rise_all h.1.1 _ (getD_mem hk), h.2, h.1.2⟩

/-! ### Due records -/
def dueP (s : List Rule) (d act : Int) (r : Record) : Bool := (((deciding r s).2.Act == act) && decide (0 ≤ (deciding r s).1)) && decide ((deciding r s).1 ≤ d)
def dueL (l : List Record) (s : List Rule) (d act : Int) : List Int := (l.filter fun r => dueP s d act r).map (·.Id)

def DueR (l : List Record) (s : List Rule) (d act : Int) : List Int × Bool := bif (allOk l s && inR d 0 20000) && inR act 1 3 then (dueL l s d act, true) else ([], false)
theorem dueL_len {l : List Record} {s : List Rule} {d act : Int} : (dueL l s d act).length ≤ l.length := by
  unfold dueL; rw [List.length_map]; exact List.length_filter_le _ _
theorem DueR_len {l : List Record} {s : List Rule} {d act : Int} (hl : RecsB l) : (DueR l s d act).1.length < 1000000 := by
  unfold DueR
  cases (allOk l s && inR d 0 20000) && inR act 1 3
  · simp
  · have := dueL_len (l := l) (s := s) (d := d) (act := act); have := hl.1; simp only [cond_true]; omega

/-! ### The record that is due next -/
/-- What is known of the next one: there is none (id 0), or it is at place k. -/
def NextP (l : List Record) (s : List Rule) (d : Int) (n : Nat) (none : Bool) (id due : Int) : Prop :=
  (∀ j, j < n → d < (deciding (l.getD j default) s).1 → none = false ∧ due ≤ (deciding (l.getD j default) s).1) ∧
  (none = false → ∃ k, k < n ∧ (l.getD k default).Id = id ∧ (deciding (l.getD k default) s).1 = due ∧ d < due ∧ ∀ j, j < k → d < (deciding (l.getD j default) s).1 → due < (deciding (l.getD j default) s).1)

theorem NextP.one {l : List Record} {s : List Rule} {d : Int} {n : Nat} {b b' : Bool} {i i' e e' : Int} (h : NextP l s d n b i e) (h' : NextP l s d n b' i' e') : b = b' ∧ (b = false → i = i' ∧ e = e') := by
  have key : ∀ {b b' : Bool} {i i' e e' : Int}, NextP l s d n b i e → NextP l s d n b' i' e' → b = false → b' = false ∧ e' ≤ e := by
    intro b b' i i' e e' h h' hb
    obtain ⟨k, h1, h2, h3, h4, _⟩ := h.2 hb
    obtain ⟨g1, g2⟩ := h'.1 k h1 (by omega)
    exact ⟨g1, by omega⟩
  have hb : b = b' := by
    cases b with
    | false => exact (key h h' rfl).1.symm
    | true => cases b' with
      | false => exact absurd (key h' h rfl).1 (by simp)
      | true => rfl
  subst hb
  refine ⟨rfl, fun hb => ?_⟩
  have e1 := (key h h' hb).2
  have e2 := (key h' h hb).2
  have ee : e = e' := by omega
  subst ee
  obtain ⟨k, h1, h2, h3, h4, h5⟩ := h.2 hb
  obtain ⟨k', g1, g2, g3, g4, g5⟩ := h'.2 hb
  have : k = k' := by
    rcases Nat.lt_trichotomy k k' with q | q | q
    · have := g5 k q (by omega); omega
    · exact q
    · have := h5 k' q (by omega); omega
  subst this
  exact ⟨by omega, rfl⟩

theorem NextP.step {l : List Record} {s : List Rule} {d : Int} {n : Nat} {b : Bool} {i e : Int} (h : NextP l s d n b i e) :
    (d < (deciding (l.getD n default) s).1 → (b = true ∨ (deciding (l.getD n default) s).1 < e) → NextP l s d (n + 1) false (l.getD n default).Id (deciding (l.getD n default) s).1) ∧
    (¬(d < (deciding (l.getD n default) s).1 ∧ (b = true ∨ (deciding (l.getD n default) s).1 < e)) → NextP l s d (n + 1) b i e) := by
  obtain ⟨h1, h2⟩ := h
  constructor
  · intro g1 g2
    refine ⟨fun j hj hd => ⟨rfl, ?_⟩, fun _ => ⟨n, by omega, rfl, rfl, g1, fun j hj hd => ?_⟩⟩
    · by_cases hjn : j < n
      · obtain ⟨q1, q2⟩ := h1 j hjn hd
        rcases g2 with g2 | g2
        · rw [q1] at g2; cases g2
        · omega
      · obtain rfl : j = n := by omega
        exact Int.le_refl _
    · obtain ⟨q1, q2⟩ := h1 j hj hd
      rcases g2 with g2 | g2
      · rw [q1] at g2; cases g2
      · omega
  · intro g
    refine ⟨fun j hj hd => ?_, fun hb => ?_⟩
    · by_cases hjn : j < n
      · exact h1 j hjn hd
      · obtain rfl : j = n := by omega
        cases b with
        | true => exact absurd ⟨hd, .inl rfl⟩ g
        | false => exact ⟨rfl, Int.not_lt.1 fun hc => g ⟨hd, .inr hc⟩⟩
    · obtain ⟨k, q1, q2, q3, q4, q5⟩ := h2 hb
      exact ⟨k, by omega, q2, q3, q4, q5⟩

/-! ### Not scheduled -/
def notL (l : List Record) (s : List Rule) : List Int := (l.filter fun r => ((rulesFor s r.Series).length : Int) == 0).map (·.Id)
def NotD (l : List Record) (s : List Rule) : List Int × Bool := bif allOk l s then (notL l s, true) else ([], false)
theorem NotD_len {l : List Record} {s : List Rule} (hl : RecsB l) : (NotD l s).1.length < 1000000 := by
  unfold NotD
  cases allOk l s
  · simp
  · have : (notL l s).length ≤ l.length := by unfold notL; rw [List.length_map]; exact List.length_filter_le _ _
    have := hl.1; simp only [cond_true]; omega

/-! ### Draws, and the law -/
theorem good0 {code : List Int} : Good code 0 (⟨code, 0, 0⟩ : Cur) := ⟨rfl, Int.le_refl _, Int.le_refl _⟩

end Go.Proofs.Ythffmnpbonkpaaa
