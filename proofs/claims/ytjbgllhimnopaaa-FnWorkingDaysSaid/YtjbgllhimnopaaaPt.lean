/-
  Lists of requests. Plain.
-/
import Derived.Test.YtjbgllhimnopaaaPs
set_option linter.unusedSimpArgs false
set_option linter.unusedVariables false
namespace Go.Proofs.Ytjbgllhimnopaaa
open Go.VS

/-- The request at place j is valid, is due in time, and follows the one before it. -/
def okAt (l : List Request) (j : Nat) : Prop := V (l.getD j default) = true ∧ dueOf (l.getD j default) ≤ 20000 ∧ (0 < j → (l.getD (j - 1) default).Id < (l.getD j default).Id)
def AllOk (l : List Request) : Prop := ∀ j, j < l.length → okAt l j

theorem take_snoc {β γ : Type} [Inhabited β] {l : List β} {g : β → γ} {v : Nat} (h : v < l.length) : (l.take v).map g ++ [g (l.getD v default)] = (l.take (v + 1)).map g := by
  rw [List.take_add_one, List.map_append]
  simp [List.getD, h]

theorem rd_ok {r : Request} : (rd r).2 = true ↔ V r = true ∧ dueOf r ≤ 20000 := by
  unfold rd
  cases h : V r <;> by_cases hd : dueOf r ≤ 20000 <;> simp [h, hd]

theorem rd_fst {r : Request} (h : (rd r).2 = true) : (rd r).1 = dueOf r := by
  obtain ⟨h1, h2⟩ := rd_ok.1 h
  unfold rd
  simp [h1, h2]

theorem dueDaysLoop (l : List Request) (hl : l.length ≤ 1000) : T (iterO (M.impl_dueDays_l0 l) (([] : List Int), (0 : Int))) (fun e => (AllOk l ∧ e = .inl (l.map dueOf)) ∨ (¬AllOk l ∧ e = .inr ([], false))) := by
  refine T_iter (fun s => ∃ v : Nat, s.2 = (v : Int) ∧ v ≤ l.length ∧ s.1 = (l.take v).map dueOf ∧ ∀ j, j < v → okAt l j) (fun s => l.length - s.2.toNat) _ ⟨0, rfl, by omega, rfl, fun j h => absurd h (Nat.not_lt_zero _)⟩ (by simp only; omega) ?_
  rintro ⟨days, _⟩ ⟨v, rfl, h1, rfl, h3⟩
  unfold M.impl_dueDays_l0
  simp only [T_bif, T_bind, T_some, T_asrt, rdI, decide_eq_true_eq, decide_eq_false_iff_not, Int.toNat_natCast]
  refine ⟨fun hv => ⟨⟨by omega, hv⟩, ?_, ?_, ?_⟩, fun hv => ?_⟩
  · intro _ h5
    rw [wrap64_id (by omega) (by omega)]
    omega
  · intro h5
    refine .inr ⟨fun hA => ?_, by trivial⟩
    have hj := hA v (by omega)
    have h6 : (rd (l.getD v default)).2 = true := rd_ok.2 ⟨hj.1, hj.2.1⟩
    simp only [h6, Bool.not_true, Bool.false_or, Bool.and_eq_true, decide_eq_true_eq] at h5
    obtain ⟨h7, h8⟩ := h5
    rw [wrap64_id (by omega) (by omega), show ((v : Int) - 1).toNat = v - 1 by omega] at h8
    have := hj.2.2 (by omega)
    omega
  · intro h5
    simp only [Bool.or_eq_false_iff, Bool.not_eq_false', Bool.and_eq_false_iff, decide_eq_false_iff_not] at h5
    obtain ⟨h6, h7⟩ := h5
    have hv' : v < l.length := by omega
    obtain ⟨g1, g2⟩ := rd_ok.1 h6
    refine ⟨by simp; omega, ⟨v + 1, ?_, by omega, ?_, ?_⟩, ?_⟩
    · rw [wrap64_id (by omega) (by omega)]; omega
    · rw [rd_fst h6]; exact take_snoc hv'
    · intro j hj
      by_cases hjv : j < v
      · exact h3 j hjv
      · obtain rfl : j = v := by omega
        refine ⟨g1, g2, fun h0 => ?_⟩
        rcases h7 with h7 | h7
        · omega
        · rw [wrap64_id (by omega) (by omega), show ((j : Int) - 1).toNat = j - 1 by omega] at h7
          omega
    · rw [wrap64_id (by omega) (by omega)]; omega
  · refine .inl ⟨fun j hj => h3 j (by omega), ?_⟩
    rw [show v = l.length by omega, List.take_length]

theorem dueDaysI (l : List Request) (hl : l.length ≤ 1000) : (AllOk l ∧ l.length ≤ 8 ∧ M.impl_dueDays l = some (l.map dueOf, true)) ∨ (¬(AllOk l ∧ l.length ≤ 8) ∧ M.impl_dueDays l = some ([], false)) := by
  unfold M.impl_dueDays
  by_cases h8 : l.length ≤ 8
  · rw [show decide ((l.length : Int) > 8) = false by simp; omega]
    obtain ⟨e, h1, ⟨h2, rfl⟩ | ⟨h2, rfl⟩⟩ := dueDaysLoop l hl
    · exact .inl ⟨h2, h8, by rw [h1]; rfl⟩
    · exact .inr ⟨fun h => h2 h.1, by rw [h1]; rfl⟩
  · rw [show decide ((l.length : Int) > 8) = true by simp; omega]
    exact .inr ⟨fun h => h8 h.2, rfl⟩

theorem listLoopS (l : List Request) (hl : l.length ≤ 1000) : T (iterO (M.spec_l13List_l0 l) (0 : Int)) (fun e => (AllOk l ∧ e = .inl ()) ∨ (¬AllOk l ∧ e = .inr false)) := by
  refine T_iter (fun s => ∃ v : Nat, s = (v : Int) ∧ v ≤ l.length ∧ ∀ j, j < v → okAt l j) (fun s => l.length - s.toNat) _ ⟨0, rfl, by omega, fun j h => absurd h (Nat.not_lt_zero _)⟩ (by show l.length - (0 : Int).toNat < 1000000000000; omega) ?_
  rintro _ ⟨v, rfl, h1, h3⟩
  unfold M.spec_l13List_l0
  simp only [T_bif, T_some, T_asrt, goodS, decide_eq_true_eq, decide_eq_false_iff_not, Int.toNat_natCast, Option.bind_some]
  refine ⟨fun hv => ⟨⟨by omega, hv⟩, fun _ => ⟨by omega, hv⟩, ?_⟩, fun hv => .inl ⟨fun j hj => h3 j (by omega), by trivial⟩⟩
  have hv' : v < l.length := by omega
  cases hV : V (l.getD v default) with
  | false =>
    simp only [Bool.not_false, cond_true, Option.bind_some, Bool.true_or, Bool.true_eq_false, false_imp_iff, T_asrt, T_some, true_and]
    exact .inr ⟨fun hA => (by rw [(hA v hv').1] at hV; cases hV), by trivial⟩
  | true =>
    simp only [Bool.not_true, cond_false, l13DueS hV, Option.bind_some, Bool.false_or, T_asrt, T_some, T_bif, decide_eq_true_eq, decide_eq_false_iff_not]
    refine ⟨fun _ h5 => ?_, fun _ _ => ⟨by omega, hv⟩, ?_, ?_⟩
    · rw [wrap64_id (by omega) (by omega)]; omega
    · intro h5
      refine .inr ⟨fun hA => ?_, by trivial⟩
      have hj := hA v hv'
      simp only [Bool.or_eq_true, Bool.and_eq_true, decide_eq_true_eq] at h5
      rcases h5 with h5 | ⟨h7, h8⟩
      · have := hj.2.1; omega
      · rw [wrap64_id (by omega) (by omega), show ((v : Int) - 1).toNat = v - 1 by omega] at h8
        have := hj.2.2 (by omega)
        omega
    · intro h5
      simp only [Bool.or_eq_false_iff, Bool.and_eq_false_iff, decide_eq_false_iff_not] at h5
      refine ⟨⟨v + 1, ?_, by omega, ?_⟩, ?_⟩
      · rw [wrap64_id (by omega) (by omega)]; omega
      · intro j hj
        by_cases hjv : j < v
        · exact h3 j hjv
        · obtain rfl : j = v := by omega
          refine ⟨hV, by omega, fun h0 => ?_⟩
          rcases h5.2 with h7 | h7
          · omega
          · rw [wrap64_id (by omega) (by omega), show ((j : Int) - 1).toNat = j - 1 by omega] at h7
            omega
      · rw [wrap64_id (by omega) (by omega)]; omega

theorem listS (l : List Request) (hl : l.length ≤ 1000) : (AllOk l ∧ l.length ≤ 8 ∧ M.spec_l13List l = some true) ∨ (¬(AllOk l ∧ l.length ≤ 8) ∧ M.spec_l13List l = some false) := by
  unfold M.spec_l13List
  obtain ⟨e, h1, ⟨h2, rfl⟩ | ⟨h2, rfl⟩⟩ := listLoopS l hl
  · rw [h1]
    by_cases h8 : l.length ≤ 8
    · exact .inl ⟨h2, h8, by simp; omega⟩
    · exact .inr ⟨fun h => h8 h.2, by simp; omega⟩
  · exact .inr ⟨fun h => h2 h.1, by rw [h1]; rfl⟩

/-! ### The first least one -/

/-- k is the first place of a least element. -/
def Least (m : List Int) (k : Nat) : Prop := k < m.length ∧ (∀ j, j < m.length → m.getD k default ≤ m.getD j default) ∧ ∀ j, j < k → m.getD k default < m.getD j default

theorem least_one {m : List Int} {k j : Nat} (h : Least m k) (h' : Least m j) : k = j := by
  rcases Nat.lt_trichotomy k j with hk | hk | hk
  · have := h'.2.2 k hk; have := h.2.1 j h'.1; omega
  · exact hk
  · have := h.2.2 j hk; have := h'.2.1 k h.1; omega

theorem minI (m : List Int) (h0 : 0 < m.length) (hl : m.length ≤ 1000) : T (M.slices_Min_int_int m) (fun x => (∃ k, k < m.length ∧ m.getD k default = x) ∧ ∀ j, j < m.length → x ≤ m.getD j default) := by
  unfold M.slices_Min_int_int
  rw [show decide ((m.length : Int) < 1) = false by simp; omega]
  simp only [cond_false, Option.bind_some, T_asrt]
  refine ⟨by omega, ?_⟩
  refine T.then (Q := fun x => (∃ k, k < m.length ∧ m.getD k default = x) ∧ ∀ j, j < m.length → x ≤ m.getD j default) (T_iter (fun s => ∃ v : Nat, s.2 = (v : Int) ∧ v ≤ m.length ∧ (∃ k, k < m.length ∧ m.getD k default = s.1) ∧ ∀ j, j < v → s.1 ≤ m.getD j default) (fun s => m.length - s.2.toNat) _ ⟨1, rfl, by omega, ⟨0, h0, rfl⟩, fun j hj => (by rw [show j = 0 by omega]; exact Int.le_refl _)⟩ (by simp only; omega) ?_) (fun x hx => by rw [T_some]; exact hx)
  rintro ⟨x, _⟩ ⟨v, rfl, h1, h2, h3⟩
  simp only at h2 h3
  unfold M.slices_Min_int_int_l0
  simp only [T_bif, T_some, T_asrt, decide_eq_true_eq, decide_eq_false_iff_not, Int.toNat_natCast]
  refine ⟨fun hv => ⟨⟨by omega, hv⟩, ⟨v + 1, ?_, by omega, ?_, ?_⟩, ?_⟩, fun hv => ⟨h2, fun j hj => h3 j (by omega)⟩⟩
  · rw [wrap64_id (by omega) (by omega)]; omega
  · by_cases hx : m.getD v default < x
    · rw [show decide (m.getD v default < x) = true by simpa using hx]; exact ⟨v, by omega, rfl⟩
    · rw [show decide (m.getD v default < x) = false by simpa using hx]; exact h2
  · intro j hj
    by_cases hx : m.getD v default < x
    · rw [show decide (m.getD v default < x) = true by simpa using hx]
      simp only [cond_true]
      by_cases hjv : j < v
      · have := h3 j hjv; omega
      · obtain rfl : j = v := by omega
        exact Int.le_refl _
    · rw [show decide (m.getD v default < x) = false by simpa using hx]
      simp only [cond_false]
      by_cases hjv : j < v
      · exact h3 j hjv
      · obtain rfl : j = v := by omega
        omega
  · rw [wrap64_id (by omega) (by omega)]; omega

theorem indexI (m : List Int) (x : Int) (hx : ∃ k, k < m.length ∧ m.getD k default = x) (hl : m.length ≤ 1000) : ∃ k : Nat, k < m.length ∧ m.getD k default = x ∧ (∀ j, j < k → m.getD j default ≠ x) ∧ M.slices_Index_int_int m x = some (k : Int) := by
  unfold M.slices_Index_int_int
  have h := iter_find (step := M.slices_Index_int_int_l0 m x) (s := 0) (fun k => (k : Int)) m.length (fun k => x == m.getD k default) (fun k => .inr (k : Int)) (.inl ()) rfl (by omega)
    (fun k hk hp => by
      unfold M.slices_Index_int_int_l0
      simp (disch := first | omega | (intros; simp only [decide_eq_true_eq, decide_eq_false_iff_not, Bool.not_eq_true, Bool.not_eq_false, Bool.not_true, Bool.not_false] at *; omega)) only [cast_succ, asrt_pos, wrap64_id, Option.bind_some, cond_true, cond_false, decide_eq_true, decide_eq_false, Int.toNat_natCast, Bool.not_true, Bool.not_false, Bool.and_true, Bool.true_and, Bool.and_false, Bool.false_and, Bool.or_true, Bool.true_or, Bool.or_false, Bool.false_or, hp])
    (fun k hk hp => by
      unfold M.slices_Index_int_int_l0
      simp (disch := first | omega | (intros; simp only [decide_eq_true_eq, decide_eq_false_iff_not, Bool.not_eq_true, Bool.not_eq_false, Bool.not_true, Bool.not_false] at *; omega)) only [cast_succ, asrt_pos, wrap64_id, Option.bind_some, cond_true, cond_false, decide_eq_true, decide_eq_false, Int.toNat_natCast, Bool.not_true, Bool.not_false, Bool.and_true, Bool.true_and, Bool.and_false, Bool.false_and, Bool.or_true, Bool.true_or, Bool.or_false, Bool.false_or, hp])
    (by
      unfold M.slices_Index_int_int_l0
      simp (disch := first | omega | (intros; simp only [decide_eq_true_eq, decide_eq_false_iff_not, Bool.not_eq_true, Bool.not_eq_false, Bool.not_true, Bool.not_false] at *; omega)) only [cast_succ, asrt_pos, wrap64_id, Option.bind_some, cond_true, cond_false, decide_eq_true, decide_eq_false, Int.toNat_natCast, Bool.not_true, Bool.not_false, Bool.and_true, Bool.true_and, Bool.and_false, Bool.false_and, Bool.or_true, Bool.true_or, Bool.or_false, Bool.false_or])
  rcases h with ⟨k, h1, h2, h3, h4⟩ | ⟨h1, _⟩
  · refine ⟨k, h1, ?_, ?_, by rw [h4]; rfl⟩
    · simp only [beq_iff_eq] at h2; exact h2.symm
    · intro j hj e
      have := h3 j hj
      rw [e] at this
      simp at this
  · obtain ⟨k, hk, e⟩ := hx
    have := h1 k hk
    rw [e] at this
    simp at this

theorem map_at {l : List Request} {k : Nat} (h : k < l.length) : (l.map dueOf).getD k default = dueOf (l.getD k default) := by
  simp [List.getD, h]

theorem firstI (l : List Request) (hl : l.length ≤ 1000) : (¬(AllOk l ∧ l.length ≤ 8 ∧ l ≠ []) ∧ M.impl_FirstRequest l = some (0, 0, false)) ∨ ∃ k, AllOk l ∧ l.length ≤ 8 ∧ Least (l.map dueOf) k ∧ M.impl_FirstRequest l = some ((l.getD k default).Id, dueOf (l.getD k default), true) := by
  unfold M.impl_FirstRequest
  rcases dueDaysI l hl with ⟨h1, h2, h3⟩ | ⟨h1, h3⟩
  · rw [h3]
    by_cases h0 : l = []
    · subst h0
      exact .inl ⟨fun h => h.2.2 rfl, rfl⟩
    · have hp : 0 < l.length := List.length_pos_iff.2 h0
      simp only [Option.bind_some, Bool.not_true, Bool.false_or]
      rw [show ((l.length : Int) == 0) = false by simp; exact h0]
      simp only [cond_false]
      obtain ⟨x, g1, g2, g3⟩ := minI (l.map dueOf) (by simpa using hp) (by simpa using hl)
      obtain ⟨k, g4, g5, g6, g7⟩ := indexI (l.map dueOf) x g2 (by simpa using hl)
      have g4' : k < l.length := by simpa using g4
      refine .inr ⟨k, h1, h2, ⟨g4, fun j hj => by rw [g5]; exact g3 j hj, fun j hj => ?_⟩, ?_⟩
      · have := g3 j (by omega); have := g6 j hj; omega
      · rw [g1, Option.bind_some, g7, Option.bind_some, asrt_pos (by omega), Int.toNat_natCast, ← map_at g4', g5]
  · rw [h3]
    exact .inl ⟨fun h => h1 ⟨h.1, h.2.1⟩, rfl⟩

theorem firstS (l : List Request) (hl : l.length ≤ 1000) : (¬(AllOk l ∧ l.length ≤ 8 ∧ l ≠ []) ∧ M.spec_FirstRequest l = some (0, 0, false)) ∨ ∃ k, AllOk l ∧ l.length ≤ 8 ∧ Least (l.map dueOf) k ∧ M.spec_FirstRequest l = some ((l.getD k default).Id, dueOf (l.getD k default), true) := by
  unfold M.spec_FirstRequest
  rcases listS l hl with ⟨h1, h2, h3⟩ | ⟨h1, h3⟩
  · rw [h3]
    by_cases h0 : l = []
    · subst h0
      exact .inl ⟨fun h => h.2.2 rfl, rfl⟩
    · have hp : 0 < l.length := List.length_pos_iff.2 h0
      simp only [Option.bind_some, Bool.not_true, Bool.false_or]
      rw [show ((l.length : Int) == 0) = false by simp; exact h0]
      simp only [cond_false]
      obtain ⟨e, g1, k, rfl, g2, g3, g4⟩ := T_iter (step := M.spec_FirstRequest_l0 l) (s := (0, 1)) (fun s => ∃ k v : Nat, s = ((k : Int), (v : Int)) ∧ v ≤ l.length ∧ k < v ∧ (∀ j, j < v → dueOf (l.getD k default) ≤ dueOf (l.getD j default)) ∧ ∀ j, j < k → dueOf (l.getD k default) < dueOf (l.getD j default)) (fun s => l.length - s.2.toNat)
        (fun e => ∃ k : Nat, e = (k : Int) ∧ k < l.length ∧ (∀ j, j < l.length → dueOf (l.getD k default) ≤ dueOf (l.getD j default)) ∧ ∀ j, j < k → dueOf (l.getD k default) < dueOf (l.getD j default))
        ⟨0, 1, rfl, by omega, by omega, fun j hj => (by rw [show j = 0 by omega]; exact Int.le_refl _), fun j hj => absurd hj (Nat.not_lt_zero _)⟩ (by simp only; omega) (by
          rintro _ ⟨k, v, rfl, q1, q2, q3, q4⟩
          unfold M.spec_FirstRequest_l0
          simp only [T_bif, T_bind, T_some, T_asrt, decide_eq_true_eq, decide_eq_false_iff_not, Int.toNat_natCast]
          refine ⟨fun hv => ⟨⟨by omega, hv⟩, ?_⟩, fun hv => ⟨k, rfl, by omega, fun j hj => q3 j (by omega), q4⟩⟩
          have hv' : v < l.length := by omega
          simp only [l13DueS (h1 v hv').1, l13DueS (h1 k (by omega)).1, T_some]
          refine ⟨⟨by omega, by omega⟩, fun h5 => ⟨⟨v, v + 1, ?_, by omega, by omega, ?_, ?_⟩, ?_⟩, fun h5 => ⟨⟨k, v + 1, ?_, by omega, by omega, ?_, q4⟩, ?_⟩⟩
          · rw [wrap64_id (by omega) (by omega)]; simp
          · intro j hj
            by_cases hjv : j < v
            · have := q3 j hjv; omega
            · obtain rfl : j = v := by omega
              exact Int.le_refl _
          · intro j hj
            have := q3 j hj; omega
          · rw [wrap64_id (by omega) (by omega)]; omega
          · rw [wrap64_id (by omega) (by omega)]; simp
          · intro j hj
            by_cases hjv : j < v
            · exact q3 j hjv
            · obtain rfl : j = v := by omega
              omega
          · rw [wrap64_id (by omega) (by omega)]; omega)
      refine .inr ⟨k, h1, h2, ⟨by simpa using g2, fun j hj => ?_, fun j hj => ?_⟩, ?_⟩
      · rw [map_at g2, map_at (by simpa using hj)]; exact g3 j (by simpa using hj)
      · rw [map_at g2, map_at (by omega)]; exact g4 j hj
      · rw [g1, Option.bind_some]
        simp only [Int.toNat_natCast]
        rw [asrt_pos (by omega), asrt_pos (by omega), l13DueS (h1 k g2).1]
        rfl
  · rw [h3]
    exact .inl ⟨fun h => h1 ⟨h.1, h.2.1⟩, rfl⟩

theorem first_same (l : List Request) (hl : l.length ≤ 1000) : M.spec_FirstRequest l = M.impl_FirstRequest l := by
  rcases firstI l hl with ⟨h1, h2⟩ | ⟨k, h1, h2, h3, h4⟩ <;> rcases firstS l hl with ⟨g1, g2⟩ | ⟨j, g1, g2, g3, g4⟩
  · rw [h2, g2]
  · exact absurd ⟨g1, g2, fun e => by subst e; simp [Least] at g3⟩ h1
  · exact absurd ⟨h1, h2, fun e => by subst e; simp [Least] at h3⟩ g1
  · obtain rfl := least_one h3 g3
    rw [h4, g4]

/-! ### Overdue -/

noncomputable def late (l : List Request) (d : Int) : List Int := (l.filter fun r => decide (dueOf r < d)).map (·.Id)

theorem late_snoc {l : List Request} {d : Int} {v : Nat} (h : v < l.length) : late (l.take (v + 1)) d = bif decide (dueOf (l.getD v default) < d) then late (l.take v) d ++ [(l.getD v default).Id] else late (l.take v) d := by
  unfold late
  rw [List.take_add_one, List.filter_append, List.map_append]
  have : l[v]?.toList = [l.getD v default] := by simp [List.getD, h]
  rw [this]
  by_cases hd : dueOf (l.getD v default) < d
  · rw [List.filter_cons_of_pos (by simpa using hd)]; simp only [hd, decide_true, cond_true, List.map_cons, List.map_nil, List.filter_nil]
  · rw [List.filter_cons_of_neg (by simpa using hd)]; simp only [hd, decide_false, cond_false, List.map_nil, List.append_nil, List.filter_nil]

theorem late_length (l : List Request) (d : Int) : (late l d).length ≤ l.length := by
  unfold late; rw [List.length_map]; exact List.length_filter_le _ _

theorem overdueI (l : List Request) (d : Int) (hl : l.length ≤ 1000) : (AllOk l ∧ l.length ≤ 8 ∧ inR d 0 20000 = true ∧ M.impl_OverdueOn l d = some (late l d, true)) ∨ (¬(AllOk l ∧ l.length ≤ 8 ∧ inR d 0 20000 = true) ∧ M.impl_OverdueOn l d = some ([], false)) := by
  unfold M.impl_OverdueOn
  rcases dueDaysI l hl with ⟨h1, h2, h3⟩ | ⟨h1, h3⟩
  · rw [h3]
    simp only [Option.bind_some, Bool.not_true, cond_false, isDayI, Bool.false_or]
    cases hd : inR d 0 20000 with
    | false => exact .inr ⟨fun h => (nomatch h.2.2), rfl⟩
    | true =>
      refine .inl ⟨h1, h2, rfl, ?_⟩
      apply T.eq
      simp only [Bool.not_true, cond_false]
      refine T.then (Q := fun x => x = late l d) (T_iter (fun s => ∃ v : Nat, s.2 = (v : Int) ∧ v ≤ l.length ∧ s.1 = late (l.take v) d) (fun s => l.length - s.2.toNat) _ ⟨0, rfl, by omega, rfl⟩ (by simp only; omega) ?_) (fun x hx => by rw [T_some, hx])
      rintro ⟨ids, _⟩ ⟨v, rfl, q1, rfl⟩
      unfold M.impl_OverdueOn_l0
      simp only [T_bif, T_bind, T_some, T_asrt, decide_eq_true_eq, decide_eq_false_iff_not, Int.toNat_natCast, List.length_map]
      refine ⟨fun hv => ⟨⟨by omega, hv⟩, fun h5 => ?_, fun h5 => ?_⟩, fun hv => ?_⟩
      · have hv' : v < l.length := by omega
        rw [map_at hv'] at h5
        have := late_length (l.take v) d
        refine ⟨⟨by omega, hv⟩, by simp at this ⊢; omega, ⟨v + 1, ?_, by omega, ?_⟩, ?_⟩
        · rw [wrap64_id (by omega) (by omega)]; omega
        · rw [late_snoc hv']; simp only [h5, decide_true, decide_false, cond_true, cond_false]
        · rw [wrap64_id (by omega) (by omega)]; omega
      · have hv' : v < l.length := by omega
        rw [map_at hv'] at h5
        refine ⟨⟨v + 1, ?_, by omega, ?_⟩, ?_⟩
        · rw [wrap64_id (by omega) (by omega)]; omega
        · rw [late_snoc hv']; simp only [h5, decide_true, decide_false, cond_true, cond_false]
        · rw [wrap64_id (by omega) (by omega)]; omega
      · rw [show v = l.length by omega, List.take_length]
  · rw [h3]
    exact .inr ⟨fun h => h1 ⟨h.1, h.2.1⟩, rfl⟩

theorem overdueS (l : List Request) (d : Int) (hl : l.length ≤ 1000) : M.spec_OverdueOn l d = M.impl_OverdueOn l d := by
  unfold M.spec_OverdueOn
  rcases listS l hl with ⟨h1, h2, h3⟩ | ⟨h1, h3⟩
  · rw [h3]
    simp only [Option.bind_some, Bool.not_true, cond_false, l2DayS, Bool.false_or]
    rcases overdueI l d hl with ⟨_, _, hd, h4⟩ | ⟨hd, h4⟩
    · rw [h4]
      apply T.eq
      simp only [hd, Bool.not_true, cond_false]
      refine T.then (Q := fun x => x = late l d) (T_iter (fun s => ∃ v : Nat, s.2 = (v : Int) ∧ v ≤ l.length ∧ s.1 = late (l.take v) d) (fun s => l.length - s.2.toNat) _ ⟨0, rfl, by omega, rfl⟩ (by simp only; omega) ?_) (fun x hx => by rw [T_some, hx])
      rintro ⟨ids, _⟩ ⟨v, rfl, q1, rfl⟩
      unfold M.spec_OverdueOn_l0
      simp only [T_bif, T_bind, T_some, T_asrt, decide_eq_true_eq, decide_eq_false_iff_not, Int.toNat_natCast]
      refine ⟨fun hv => ⟨⟨by omega, hv⟩, ?_⟩, fun hv => ?_⟩
      · have hv' : v < l.length := by omega
        simp only [l13DueS (h1 v hv').1, T_some]
        have := late_length (l.take v) d
        refine ⟨fun h5 => ⟨⟨by omega, hv⟩, by simp at this ⊢; omega, ⟨v + 1, ?_, by omega, ?_⟩, ?_⟩, fun h5 => ⟨⟨v + 1, ?_, by omega, ?_⟩, ?_⟩⟩
        · rw [wrap64_id (by omega) (by omega)]; omega
        · rw [late_snoc hv']; simp only [h5, decide_true, decide_false, cond_true, cond_false]
        · rw [wrap64_id (by omega) (by omega)]; omega
        · rw [wrap64_id (by omega) (by omega)]; omega
        · rw [late_snoc hv']; simp only [h5, decide_true, decide_false, cond_true, cond_false]
        · rw [wrap64_id (by omega) (by omega)]; omega
      · rw [show v = l.length by omega, List.take_length]
    · have : inR d 0 20000 = false := by
        cases h : inR d 0 20000 with
        | false => rfl
        | true => exact absurd ⟨h1, h2, h⟩ hd
      rw [h4, this]; rfl
  · rw [h3]
    rcases overdueI l d hl with ⟨g1, g2, _, _⟩ | ⟨_, h4⟩
    · exact absurd ⟨g1, g2⟩ h1
    · rw [h4]; rfl

end Go.Proofs.Ytjbgllhimnopaaa
