/-
  Valid requests and their due days. Plain.
-/
import Derived.Test.YtjfpdbhjoofllaaPr
set_option linter.unusedSimpArgs false
set_option linter.unusedVariables false
namespace Go.Proofs.Ytjfpdbhjoofllaa
open Go.VS

def inR (x a b : Int) : Bool := decide (a ≤ x) && decide (x ≤ b)
theorem inR_true {x a b : Int} : inR x a b = true ↔ a ≤ x ∧ x ≤ b := by simp [inR]
theorem inR_false {x a b : Int} : inR x a b = false ↔ ¬(a ≤ x ∧ x ≤ b) := by rw [← inR_true]; simp
theorem withinI (n l h : Int) : M.impl_within n l h = some (inR n l h) := rfl
theorem isDayI (n : Int) : M.impl_isDay n = some (inR n 0 20000) := rfl
theorem isIdI (n : Int) : M.impl_isId n = some (inR n 1 99) := rfl
theorem l1InS (n l h : Int) : M.spec_l1In n l h = some (inR n l h) := rfl
theorem l2DayS (n : Int) : M.spec_l2Day n = some (inR n 0 20000) := rfl
theorem areDaysI (a b : Int) : M.impl_areDays a b = some ((inR a 0 20000 && inR b 0 20000) && decide (a ≤ b)) := by
  unfold M.impl_areDays
  simp only [isDayI, Option.bind_some]
  cases inR a 0 20000 <;> rfl

/-- Stops follow each other. -/
def gf : Int → List (Int × Int) → Bool
  | _, [] => true
  | last, s :: t => (decide (last < s.1) && decide (s.1 ≤ s.2) && decide (s.2 ≤ 20000)) && gf s.2 t

theorem gf_le : ∀ (l : List (Int × Int)) (a : Int), gf a l = true → ∀ s ∈ l, s.2 ≤ 20000
  | [], _, _, _, h => by cases h
  | x :: t, a, h, s, hs => by
    simp only [gf, Bool.and_eq_true, decide_eq_true_eq] at h
    rcases List.mem_cons.1 hs with rfl | hs
    · exact h.1.2
    · exact gf_le t _ h.2 s hs

def V (r : Request) : Bool := ((((inR r.Id 1 99 && inR r.Came 0 20000) && inR r.Working 1 60) && inR r.Extended 0 40) && decide (r.Stops.length ≤ 4)) && gf r.Came r.Stops

theorem drop_at {β : Type} [Inhabited β] {l : List β} {v : Nat} (h : v < l.length) : l.drop v = l.getD v default :: l.drop (v + 1) := by
  rw [List.drop_eq_getElem_cons h]
  congr 1
  simp [List.getD, h]

theorem goodLoopI (r : Request) (hl : r.Stops.length ≤ 4) (h0 : 0 ≤ r.Came) : iterO (M.impl_IsRequest_l0 r) (r.Came, 0) = some (bif gf r.Came r.Stops then .inl () else .inr false) := by
  apply T.eq
  refine T_iter (fun s => ∃ v : Nat, s.2 = (v : Int) ∧ v ≤ r.Stops.length ∧ 0 ≤ s.1 ∧ gf s.1 (r.Stops.drop v) = gf r.Came r.Stops) (fun s => r.Stops.length - s.2.toNat) _ ⟨0, rfl, by omega, h0, rfl⟩ (by simp only; omega) ?_
  rintro ⟨before, _⟩ ⟨v, rfl, h1, h2, h3⟩
  simp only at h2 h3
  unfold M.impl_IsRequest_l0
  simp only [T_bif, T_some, T_asrt, decide_eq_true_eq, decide_eq_false_iff_not, Int.toNat_natCast]
  refine ⟨fun hv => ⟨⟨by omega, hv⟩, ?_⟩, fun hv => ?_⟩
  · have hv' : v < r.Stops.length := by omega
    rw [drop_at hv'] at h3
    obtain ⟨s, hs'⟩ : ∃ s, s = r.Stops.getD v default := ⟨_, rfl⟩
    simp only [← hs'] at h3 ⊢
    simp only [gf] at h3
    by_cases hs : s.1 ≤ before
    · rw [show decide (before < s.1) = false by simp; omega] at h3
      simp only [Bool.false_and] at h3
      simp only [hs, decide_true, cond_true, Option.bind_some, Bool.true_or, T_some, ← h3, cond_false]
    · rw [show decide (before < s.1) = true by simp; omega] at h3
      simp only [Bool.true_and] at h3
      simp only [hs, decide_false, cond_false, areDaysI, Option.bind_some, Bool.false_or, T_bif, T_some]
      refine ⟨fun hx => ?_, fun hx => ?_⟩
      · have : (decide (s.1 ≤ s.2) && decide (s.2 ≤ 20000)) = false := by
          simp only [inR, Bool.not_eq_true', Bool.and_eq_false_iff, decide_eq_false_iff_not] at hx ⊢
          omega
        rw [this] at h3
        simp only [Bool.false_and] at h3
        rw [← h3]; rfl
      · have : (decide (s.1 ≤ s.2) && decide (s.2 ≤ 20000)) = true := by
          simp only [inR, Bool.not_eq_false', Bool.and_eq_true, decide_eq_true_eq] at hx ⊢
          omega
        rw [this] at h3
        simp only [Bool.and_eq_true, decide_eq_true_eq] at this
        refine ⟨⟨v + 1, ?_, by omega, by omega, by simpa using h3⟩, ?_⟩
        · rw [wrap64_id (by omega) (by omega)]; omega
        · rw [wrap64_id (by omega) (by omega)]; omega
  · have : r.Stops.drop v = [] := by rw [List.drop_eq_nil_iff]; omega
    rw [this] at h3
    rw [← h3]; rfl

theorem goodLoopS (r : Request) (hl : r.Stops.length ≤ 4) : iterO (M.spec_l13Good_l0 r) (r.Came, 0) = some (bif gf r.Came r.Stops then .inl () else .inr false) := by
  apply T.eq
  refine T_iter (fun s => ∃ v : Nat, s.2 = (v : Int) ∧ v ≤ r.Stops.length ∧ gf s.1 (r.Stops.drop v) = gf r.Came r.Stops) (fun s => r.Stops.length - s.2.toNat) _ ⟨0, rfl, by omega, rfl⟩ (by simp only; omega) ?_
  rintro ⟨before, _⟩ ⟨v, rfl, h1, h3⟩
  simp only at h3
  unfold M.spec_l13Good_l0
  simp only [T_bif, T_some, T_asrt, decide_eq_true_eq, decide_eq_false_iff_not, Int.toNat_natCast]
  refine ⟨fun hv => ⟨⟨by omega, hv⟩, ⟨by omega, hv⟩, ?_⟩, fun hv => ?_⟩
  · have hv' : v < r.Stops.length := by omega
    rw [drop_at hv'] at h3
    obtain ⟨s, hs'⟩ : ∃ s, s = r.Stops.getD v default := ⟨_, rfl⟩
    simp only [← hs'] at h3 ⊢
    simp only [gf] at h3
    refine ⟨fun hx => ?_, fun hx => ?_⟩
    · have : (decide (before < s.1) && decide (s.1 ≤ s.2) && decide (s.2 ≤ 20000)) = false := by
        simp only [Bool.or_eq_true, Bool.and_eq_false_iff, decide_eq_false_iff_not, decide_eq_true_eq] at hx ⊢
        omega
      rw [this] at h3
      simp only [Bool.false_and] at h3
      rw [← h3]; rfl
    · have : (decide (before < s.1) && decide (s.1 ≤ s.2) && decide (s.2 ≤ 20000)) = true := by
        simp only [Bool.or_eq_false_iff, Bool.and_eq_true, decide_eq_false_iff_not, decide_eq_true_eq] at hx ⊢
        omega
      rw [this] at h3
      refine ⟨⟨v + 1, ?_, by omega, by simpa using h3⟩, ?_⟩
      · rw [wrap64_id (by omega) (by omega)]; omega
      · rw [wrap64_id (by omega) (by omega)]; omega
  · have : r.Stops.drop v = [] := by rw [List.drop_eq_nil_iff]; omega
    rw [this] at h3
    rw [← h3]; rfl

theorem goodI (r : Request) : M.impl_IsRequest r = some (V r) := by
  unfold M.impl_IsRequest V
  simp only [isIdI, isDayI, withinI, Option.bind_some]
  cases h1 : inR r.Id 1 99
  · rfl
  cases h2 : inR r.Came 0 20000
  · rfl
  cases h3 : inR r.Working 1 60
  · rfl
  cases h4 : inR r.Extended 0 40
  · rfl
  by_cases h5 : r.Stops.length ≤ 4
  · rw [goodLoopI r h5 (inR_true.1 h2).1, show decide ((r.Stops.length : Int) > 4) = false by simp; omega]
    simp only [h5]
    cases gf r.Came r.Stops <;> rfl
  · rw [show decide ((r.Stops.length : Int) > 4) = true by simp; omega]
    simp [h5]

theorem goodS (r : Request) : M.spec_l13Good r = some (V r) := by
  unfold M.spec_l13Good V
  simp only [l1InS, l2DayS, Option.bind_some]
  cases h1 : inR r.Id 1 99
  · rfl
  cases h2 : inR r.Came 0 20000
  · rfl
  cases h3 : inR r.Working 1 60
  · rfl
  cases h4 : inR r.Extended 0 40
  · rfl
  by_cases h5 : r.Stops.length ≤ 4
  · rw [goodLoopS r h5, show decide ((r.Stops.length : Int) > 4) = false by simp; omega]
    simp only [h5]
    cases gf r.Came r.Stops <;> rfl
  · rw [show decide ((r.Stops.length : Int) > 4) = true by simp; omega]
    simp [h5]

theorem V_spec {r : Request} (h : V r = true) : (1 ≤ r.Id ∧ r.Id ≤ 99) ∧ (0 ≤ r.Came ∧ r.Came ≤ 20000) ∧ (1 ≤ r.Working ∧ r.Working ≤ 60) ∧ (0 ≤ r.Extended ∧ r.Extended ≤ 40) ∧ r.Stops.length ≤ 4 ∧ gf r.Came r.Stops = true := by
  unfold V at h
  simp only [Bool.and_eq_true, inR_true, decide_eq_true_eq] at h
  exact ⟨h.1.1.1.1.1, h.1.1.1.1.2, h.1.1.1.2, h.1.1.2, h.1.2, h.2⟩

def nOf (r : Request) : Nat := (r.Working + r.Extended).toNat

theorem dueEx {r : Request} (h : V r = true) : ∃ e, Due (Cn r) (nOf r) r.Came e ∧ e ≤ 21000 := by
  obtain ⟨_, h2, h3, h4, _, h6⟩ := V_spec h
  have hn : nOf r ≤ 100 := by unfold nOf; omega
  obtain ⟨e, h7, h8⟩ := Due.total (C := Cn r) (fun D hD => by
    obtain ⟨k, k1, k2, k3⟩ := wd_some (D := D) (by omega)
    refine ⟨k, k1, k2, ?_⟩
    unfold Cn
    rw [k3, Bool.true_and, Bool.not_eq_true']
    unfold inSt
    rw [List.any_eq_false]
    intro s hs
    have := gf_le _ _ h6 s hs
    simp only [Bool.and_eq_true, decide_eq_true_eq]
    omega) (nOf r) 20000 r.Came h2.2 (Int.le_refl _)
  exact ⟨e, h7, by omega⟩

noncomputable def dueOf (r : Request) : Int := open Classical in if h : ∃ e, Due (Cn r) (nOf r) r.Came e ∧ e ≤ 21000 then h.choose else 0

theorem dueOf_spec {r : Request} (h : V r = true) : Due (Cn r) (nOf r) r.Came (dueOf r) ∧ dueOf r ≤ 21000 := by
  unfold dueOf
  rw [dif_pos (dueEx h)]
  exact (dueEx h).choose_spec

theorem dueOf_ge {r : Request} (h : V r = true) : 0 ≤ dueOf r := by
  have := (dueOf_spec h).1.le.1
  have := (V_spec h).2.1
  omega

theorem l13DueS {r : Request} (h : V r = true) : M.spec_l13Due r = some (dueOf r) := by
  obtain ⟨_, h2, h3, h4, h5, _⟩ := V_spec h
  exact dueS (n := nOf r) (by omega) h2.1 (by unfold nOf; omega) (by unfold nOf; omega) (by have := (dueOf_spec h).2; omega) (dueOf_spec h).1

theorem r_dueI {r : Request} (h : V r = true) : M.impl_Request_due r = some (if dueOf r ≤ 20000 then (dueOf r, true) else (0, false)) := by
  obtain ⟨_, h2, h3, h4, h5, _⟩ := V_spec h
  exact dueI (n := nOf r) (by omega) h2.1 h2.2 (by unfold nOf; omega) (by unfold nOf; omega) (by unfold nOf; omega) (dueOf_spec h).1

/-- The due day of a request, where it has one. -/
noncomputable def rd (r : Request) : Int × Bool := bif V r && decide (dueOf r ≤ 20000) then (dueOf r, true) else (0, false)

theorem rdI (r : Request) : M.impl_RequestDue r = some (rd r) := by
  unfold M.impl_RequestDue rd
  rw [goodI]
  cases h : V r with
  | false => rfl
  | true =>
    rw [Option.bind_some, r_dueI h]
    by_cases hd : dueOf r ≤ 20000 <;> simp [hd]

theorem rdS (r : Request) : M.spec_RequestDue r = some (rd r) := by
  unfold M.spec_RequestDue rd
  rw [goodS]
  cases h : V r with
  | false => rfl
  | true =>
    simp only [Option.bind_some, Bool.not_true, cond_false, l13DueS h]
    by_cases hd : dueOf r ≤ 20000
    · simp [hd, Int.not_lt.2 hd]
    · simp [hd, Int.not_le.1 hd]

end Go.Proofs.Ytjfpdbhjoofllaa
