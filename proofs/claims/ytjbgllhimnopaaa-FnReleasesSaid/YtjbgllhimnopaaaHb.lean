/-
  Holds: what the models of the program and of the reference answer. Plain.
-/
import Derived.Test.YtjbgllhimnopaaaHa
set_option linter.unusedSimpArgs false
set_option linter.unusedVariables false
namespace Go.Proofs.Ytjbgllhimnopaaa
open Go.VS

/-! ### Lists of numbers -/
def serOk (l : List Int) : Bool := rise (fun n => !inR n 1 99) (fun a b => decide (a ≥ b)) l

theorem serI (l : List Int) (m : Int) (hl : l.length < 1000000) : M.impl_areSeries l m = some (serOk l && decide ((l.length : Int) ≤ m)) := by
  unfold M.impl_areSeries
  rw [iter_rise (n := l.length) (bad := riseB (fun n => !inR n 1 99) (fun a b => decide (a ≥ b)) l) (by omega) (fun k hk => by
    unfold M.impl_areSeries_l0 riseB
    simp (disch := first | omega | (intros; simp only [decide_eq_true_eq, decide_eq_false_iff_not, Bool.not_eq_true, Bool.not_eq_false, Bool.not_true, Bool.not_false] at *; omega)) only [cast_succ, asrt_pos, wrap64_id, Option.bind_some, cond_true, cond_false, decide_eq_true, decide_eq_false, Int.toNat_natCast, Bool.not_true, Bool.not_false, Bool.and_true, Bool.true_and, Bool.and_false, Bool.false_and, Bool.or_true, Bool.true_or, Bool.or_false, Bool.false_or, isIdI, toNat_pred, bif_some]) (by
    unfold M.impl_areSeries_l0
    simp (disch := first | omega | (intros; simp only [decide_eq_true_eq, decide_eq_false_iff_not, Bool.not_eq_true, Bool.not_eq_false, Bool.not_true, Bool.not_false] at *; omega)) only [cast_succ, asrt_pos, wrap64_id, Option.bind_some, cond_true, cond_false, decide_eq_true, decide_eq_false, Int.toNat_natCast, Bool.not_true, Bool.not_false, Bool.and_true, Bool.true_and, Bool.and_false, Bool.false_and, Bool.or_true, Bool.true_or, Bool.or_false, Bool.false_or])]
  unfold serOk rise
  cases (List.range l.length).any _ <;> rfl

theorem serS (l : List Int) (hl : l.length < 1000000) : M.spec_l1Rising l 1 99 = some (serOk l) := by
  unfold M.spec_l1Rising
  rw [iter_rise (n := l.length) (bad := riseB (fun n => !inR n 1 99) (fun a b => decide (a ≥ b)) l) (by omega) (fun k hk => by
    unfold M.spec_l1Rising_l0 riseB
    simp (disch := first | omega | (intros; simp only [decide_eq_true_eq, decide_eq_false_iff_not, Bool.not_eq_true, Bool.not_eq_false, Bool.not_true, Bool.not_false] at *; omega)) only [cast_succ, asrt_pos, wrap64_id, Option.bind_some, cond_true, cond_false, decide_eq_true, decide_eq_false, Int.toNat_natCast, Bool.not_true, Bool.not_false, Bool.and_true, Bool.true_and, Bool.and_false, Bool.false_and, Bool.or_true, Bool.true_or, Bool.or_false, Bool.false_or, l1InS, toNat_pred, bif_some]) (by
    unfold M.spec_l1Rising_l0
    simp (disch := first | omega | (intros; simp only [decide_eq_true_eq, decide_eq_false_iff_not, Bool.not_eq_true, Bool.not_eq_false, Bool.not_true, Bool.not_false] at *; omega)) only [cast_succ, asrt_pos, wrap64_id, Option.bind_some, cond_true, cond_false, decide_eq_true, decide_eq_false, Int.toNat_natCast, Bool.not_true, Bool.not_false, Bool.and_true, Bool.true_and, Bool.and_false, Bool.false_and, Bool.or_true, Bool.true_or, Bool.or_false, Bool.false_or])]
  unfold serOk rise
  cases (List.range l.length).any _ <;> rfl

theorem any_range {β : Type} [Inhabited β] (p : β → Bool) (l : List β) : ((List.range l.length).any fun k => p (l.getD k default)) = l.any p := any_getD.symm

theorem indexI (m : List Int) (x : Int) (hl : m.length < 1000000) : ∃ i : Int, M.slices_Index_int_int m x = some i ∧ decide (i ≥ 0) = m.any (fun y => x == y) := by
  unfold M.slices_Index_int_int
  rcases iter_find (step := M.slices_Index_int_int_l0 m x) (s := 0) (fun k => (k : Int)) m.length (fun k => x == m.getD k default) (fun k => .inr (k : Int)) (.inl ()) rfl (by omega)
    (fun k hk hp => by
      unfold M.slices_Index_int_int_l0
      simp (disch := first | omega | (intros; simp only [decide_eq_true_eq, decide_eq_false_iff_not, Bool.not_eq_true, Bool.not_eq_false, Bool.not_true, Bool.not_false] at *; omega)) only [cast_succ, asrt_pos, wrap64_id, Option.bind_some, cond_true, cond_false, decide_eq_true, decide_eq_false, Int.toNat_natCast, Bool.not_true, Bool.not_false, Bool.and_true, Bool.true_and, Bool.and_false, Bool.false_and, Bool.or_true, Bool.true_or, Bool.or_false, Bool.false_or, hp])
    (fun k hk hp => by
      unfold M.slices_Index_int_int_l0
      simp (disch := first | omega | (intros; simp only [decide_eq_true_eq, decide_eq_false_iff_not, Bool.not_eq_true, Bool.not_eq_false, Bool.not_true, Bool.not_false] at *; omega)) only [cast_succ, asrt_pos, wrap64_id, Option.bind_some, cond_true, cond_false, decide_eq_true, decide_eq_false, Int.toNat_natCast, Bool.not_true, Bool.not_false, Bool.and_true, Bool.true_and, Bool.and_false, Bool.false_and, Bool.or_true, Bool.true_or, Bool.or_false, Bool.false_or, hp])
    (by
      unfold M.slices_Index_int_int_l0
      simp (disch := first | omega | (intros; simp only [decide_eq_true_eq, decide_eq_false_iff_not, Bool.not_eq_true, Bool.not_eq_false, Bool.not_true, Bool.not_false] at *; omega)) only [cast_succ, asrt_pos, wrap64_id, Option.bind_some, cond_true, cond_false, decide_eq_true, decide_eq_false, Int.toNat_natCast, Bool.not_true, Bool.not_false, Bool.and_true, Bool.true_and, Bool.and_false, Bool.false_and, Bool.or_true, Bool.true_or, Bool.or_false, Bool.false_or]) with ⟨k, h1, h2, h3, h4⟩ | ⟨h1, h2⟩
  · refine ⟨k, by rw [h4]; rfl, ?_⟩
    rw [show decide ((k : Int) ≥ 0) = true by simp, eq_comm, List.any_eq_true]
    exact ⟨_, getD_mem h1, h2⟩
  · refine ⟨-1, by rw [h2]; rfl, ?_⟩
    rw [show decide ((-1 : Int) ≥ 0) = false by decide, eq_comm, ← any_range, List.any_eq_false]
    intro k hk
    simpa using h1 k (List.mem_range.1 hk)

theorem contI (m : List Int) (x : Int) (hl : m.length < 1000000) : M.slices_Contains_int_int m x = some (m.any fun y => x == y) := by
  unfold M.slices_Contains_int_int
  obtain ⟨i, h1, h2⟩ := indexI m x hl
  rw [h1, Option.bind_some, h2]

theorem hasS (m : List Int) (x : Int) (hl : m.length < 1000000) : M.spec_l1Has m x = some (m.any fun y => x == y) := by
  unfold M.spec_l1Has
  rw [iter_any (step := M.spec_l1Has_l0 m x) (s := 0) (fun k => (k : Int)) m.length (fun k => x == m.getD k default) (.inr true) (.inl ()) rfl (by omega)
    (fun k hk hp => by
      unfold M.spec_l1Has_l0
      have hp' : (m.getD k default == x) = false := by rw [← hp]; exact Bool.beq_comm
      simp (disch := first | omega | (intros; simp only [decide_eq_true_eq, decide_eq_false_iff_not, Bool.not_eq_true, Bool.not_eq_false, Bool.not_true, Bool.not_false] at *; omega)) only [cast_succ, asrt_pos, wrap64_id, Option.bind_some, cond_true, cond_false, decide_eq_true, decide_eq_false, Int.toNat_natCast, Bool.not_true, Bool.not_false, Bool.and_true, Bool.true_and, Bool.and_false, Bool.false_and, Bool.or_true, Bool.true_or, Bool.or_false, Bool.false_or, hp'])
    (fun k hk hp => by
      unfold M.spec_l1Has_l0
      have hp' : (m.getD k default == x) = true := by rw [← hp]; exact Bool.beq_comm
      simp (disch := first | omega | (intros; simp only [decide_eq_true_eq, decide_eq_false_iff_not, Bool.not_eq_true, Bool.not_eq_false, Bool.not_true, Bool.not_false] at *; omega)) only [cast_succ, asrt_pos, wrap64_id, Option.bind_some, cond_true, cond_false, decide_eq_true, decide_eq_false, Int.toNat_natCast, Bool.not_true, Bool.not_false, Bool.and_true, Bool.true_and, Bool.and_false, Bool.false_and, Bool.or_true, Bool.true_or, Bool.or_false, Bool.false_or, hp'])
    (by
      unfold M.spec_l1Has_l0
      simp (disch := first | omega | (intros; simp only [decide_eq_true_eq, decide_eq_false_iff_not, Bool.not_eq_true, Bool.not_eq_false, Bool.not_true, Bool.not_false] at *; omega)) only [cast_succ, asrt_pos, wrap64_id, Option.bind_some, cond_true, cond_false, decide_eq_true, decide_eq_false, Int.toNat_natCast, Bool.not_true, Bool.not_false, Bool.and_true, Bool.true_and, Bool.and_false, Bool.false_and, Bool.or_true, Bool.true_or, Bool.or_false, Bool.false_or]), any_range (fun y => x == y) m]
  cases m.any fun y => x == y <;> rfl

/-! ### Holds -/
def untilOk (h : Hold) : Bool := (h.Until == -1) || inR h.Until (h.From + 1) 20000
def holdOk (h : Hold) : Bool := ((((inR h.Id 1 99 && inR h.From 0 20000) && untilOk h) && (serOk h.Series && decide ((h.Series.length : Int) ≤ 5))) && ((inR h.First 0 20000 && inR h.Last 0 20000) && decide (h.First ≤ h.Last)))
def HoldB (h : Hold) : Prop := h.Series.length < 1000000
def HoldsB (l : List Hold) : Prop := l.length < 1000000 ∧ ∀ h ∈ l, HoldB h
theorem HoldsB.at {l : List Hold} (h : HoldsB l) {k : Nat} (hk : k < l.length) : HoldB (l.getD k default) := h.2 _ (getD_mem hk)

theorem areDaysI (a b : Int) : M.impl_areDays a b = some ((inR a 0 20000 && inR b 0 20000) && decide (a ≤ b)) := by
  unfold M.impl_areDays
  simp only [isDayI, Option.bind_some]
  cases inR a 0 20000 <;> rfl

theorem holdI (h : Hold) (hb : HoldB h) : M.impl_isHold h = some (holdOk h) := by
  unfold M.impl_isHold holdOk untilOk
  simp only [isIdI, isDayI, withinI, Option.bind_some, serI h.Series 5 hb, areDaysI]
  cases h1 : inR h.Id 1 99
  · rfl
  cases h2 : inR h.From 0 20000
  · rfl
  rw [inR_true] at h2
  rw [wrap64_id (by omega) (by omega)]
  cases h.Until == -1 <;> cases inR h.Until (h.From + 1) 20000 <;> cases serOk h.Series <;> cases decide ((h.Series.length : Int) ≤ 5) <;> rfl

theorem holdS (h : Hold) (hb : HoldB h) : M.spec_l9One h = some (holdOk h) := by
  unfold M.spec_l9One holdOk untilOk
  simp only [l1InS, l2DayS, Option.bind_some, serS h.Series hb]
  cases h1 : inR h.Id 1 99
  · rfl
  cases h2 : inR h.From 0 20000
  · rfl
  rw [inR_true] at h2
  rw [wrap64_id (by omega) (by omega)]
  have e1 : inR h.First 0 20000 = true → (inR h.Last h.First 20000) = (inR h.Last 0 20000 && decide (h.First ≤ h.Last)) := by
    intro h3
    rw [inR_true] at h3
    unfold inR
    rw [Bool.eq_iff_iff]
    simp only [Bool.and_eq_true, decide_eq_true_eq]
    omega
  rw [show (h.Until != -1) = !(h.Until == -1) from rfl]
  cases h.Until == -1 <;> cases inR h.Until (h.From + 1) 20000 <;> cases serOk h.Series <;> cases decide ((h.Series.length : Int) ≤ 5) <;> cases h3 : inR h.First 0 20000 <;> simp [e1, h3]

def holdsOk (l : List Hold) : Bool := rise (fun h => !holdOk h) (fun a b => decide (a.Id ≥ b.Id)) l && decide (l.length ≤ 8)

theorem holdsI (l : List Hold) (hl : HoldsB l) : M.impl_AreHolds l = some (holdsOk l) := by
  unfold M.impl_AreHolds
  have := hl.1
  rw [iter_rise (n := l.length) (bad := riseB (fun r => !holdOk r) (fun a b => decide (a.Id ≥ b.Id)) l) (by omega) (fun k hk => by
    unfold M.impl_AreHolds_l0 riseB
    have hr := holdI _ (hl.at hk)
    simp (disch := first | omega | (intros; simp only [decide_eq_true_eq, decide_eq_false_iff_not, Bool.not_eq_true, Bool.not_eq_false, Bool.not_true, Bool.not_false] at *; omega)) only [cast_succ, asrt_pos, wrap64_id, Option.bind_some, cond_true, cond_false, decide_eq_true, decide_eq_false, Int.toNat_natCast, Bool.not_true, Bool.not_false, Bool.and_true, Bool.true_and, Bool.and_false, Bool.false_and, Bool.or_true, Bool.true_or, Bool.or_false, Bool.false_or, hr, toNat_pred, bif_some]) (by
    unfold M.impl_AreHolds_l0
    simp (disch := first | omega | (intros; simp only [decide_eq_true_eq, decide_eq_false_iff_not, Bool.not_eq_true, Bool.not_eq_false, Bool.not_true, Bool.not_false] at *; omega)) only [cast_succ, asrt_pos, wrap64_id, Option.bind_some, cond_true, cond_false, decide_eq_true, decide_eq_false, Int.toNat_natCast, Bool.not_true, Bool.not_false, Bool.and_true, Bool.true_and, Bool.and_false, Bool.false_and, Bool.or_true, Bool.true_or, Bool.or_false, Bool.false_or])]
  unfold holdsOk rise
  rw [show decide ((l.length : Int) ≤ 8) = decide (l.length ≤ 8) by simp; omega]
  cases (List.range l.length).any _ <;> rfl

theorem holdsS (l : List Hold) (hl : HoldsB l) : M.spec_l9Good l = some (holdsOk l) := by
  unfold M.spec_l9Good
  have := hl.1
  rw [iter_rise (n := l.length) (bad := riseB (fun r => !holdOk r) (fun a b => decide (a.Id ≥ b.Id)) l) (by omega) (fun k hk => by
    unfold M.spec_l9Good_l0 riseB
    have hr := holdS _ (hl.at hk)
    simp (disch := first | omega | (intros; simp only [decide_eq_true_eq, decide_eq_false_iff_not, Bool.not_eq_true, Bool.not_eq_false, Bool.not_true, Bool.not_false] at *; omega)) only [cast_succ, asrt_pos, wrap64_id, Option.bind_some, cond_true, cond_false, decide_eq_true, decide_eq_false, Int.toNat_natCast, Bool.not_true, Bool.not_false, Bool.and_true, Bool.true_and, Bool.and_false, Bool.false_and, Bool.or_true, Bool.true_or, Bool.or_false, Bool.false_or, hr, toNat_pred, bif_some]) (by
    unfold M.spec_l9Good_l0
    simp (disch := first | omega | (intros; simp only [decide_eq_true_eq, decide_eq_false_iff_not, Bool.not_eq_true, Bool.not_eq_false, Bool.not_true, Bool.not_false] at *; omega)) only [cast_succ, asrt_pos, wrap64_id, Option.bind_some, cond_true, cond_false, decide_eq_true, decide_eq_false, Int.toNat_natCast, Bool.not_true, Bool.not_false, Bool.and_true, Bool.true_and, Bool.and_false, Bool.false_and, Bool.or_true, Bool.true_or, Bool.or_false, Bool.false_or])]
  unfold holdsOk rise
  rw [show decide ((l.length : Int) ≤ 8) = decide (l.length ≤ 8) by simp; omega]
  cases (List.range l.length).any _ <;> rfl

theorem holdOk_spec {h : Hold} (hh : holdOk h = true) : (1 ≤ h.Id ∧ h.Id ≤ 99) ∧ (0 ≤ h.From ∧ h.From ≤ 20000) ∧ (h.Until = -1 ∨ h.From + 1 ≤ h.Until ∧ h.Until ≤ 20000) ∧ h.Series.length ≤ 5 := by
  unfold holdOk untilOk at hh
  simp only [Bool.and_eq_true, Bool.or_eq_true, inR_true, decide_eq_true_eq, beq_iff_eq] at hh
  refine ⟨hh.1.1.1.1, hh.1.1.1.2, hh.1.1.2, ?_⟩
  have := hh.1.2.2
  omega

theorem holdsOk_spec {l : List Hold} (h : holdsOk l = true) : l.length ≤ 8 ∧ ∀ x ∈ l, holdOk x = true := by
  unfold holdsOk at h
  simp only [Bool.and_eq_true, decide_eq_true_eq] at h
  exact ⟨h.2, fun x hx => by simpa using rise_all h.1 x hx⟩

/-- A hold covers a record on a day. -/
def cov (h : Hold) (r : Record) (d : Int) : Bool := (decide (h.From ≤ d) && ((h.Until == -1) || decide (d < h.Until))) && (inR r.Made h.First h.Last && (((h.Series.length : Int) == 0) || h.Series.any fun y => r.Series == y))

theorem covI (h : Hold) (r : Record) (d : Int) (hh : holdOk h = true) : M.impl_Hold_covers h r d = some (cov h r d) := by
  obtain ⟨_, h2, h3, h4⟩ := holdOk_spec hh
  unfold M.impl_Hold_covers cov
  simp only [withinI, contI _ _ (show h.Series.length < 1000000 by omega)]
  rw [show decide (h.Until < 0) = (h.Until == -1) by rw [Bool.eq_iff_iff]; simp; omega]
  cases (decide (h.From ≤ d) && ((h.Until == -1) || decide (d < h.Until))) <;> cases inR r.Made h.First h.Last <;> cases ((h.Series.length : Int) == 0) <;> simp

theorem covS (h : Hold) (r : Record) (d : Int) (hh : holdOk h = true) : M.spec_l9Covers h r d = some (cov h r d) := by
  obtain ⟨_, h2, h3, h4⟩ := holdOk_spec hh
  unfold M.spec_l9Covers cov
  simp only [l1InS, hasS _ _ (show h.Series.length < 1000000 by omega)]
  cases (decide (h.From ≤ d) && ((h.Until == -1) || decide (d < h.Until))) <;> cases inR r.Made h.First h.Last <;> cases ((h.Series.length : Int) == 0) <;> cases (h.Series.any fun y => r.Series == y) <;> simp

/-- The holds that cover a record on a day. -/
def onD (l : List Hold) (r : Record) (d : Int) : List Int := (l.filter fun h => cov h r d).map (·.Id)

theorem onI (l : List Hold) (r : Record) (d : Int) (hl : holdsOk l = true) : M.impl_holdsOn l r d = some (onD l r d) := by
  obtain ⟨h1, h2⟩ := holdsOk_spec hl
  unfold M.impl_holdsOn
  rw [iter_coll (s := (([] : List Int), (0 : Int))) (step := M.impl_holdsOn_l0 l r d) (fun a k => (a, (k : Int))) (fun h : Hold => bif cov h r d then [h.Id] else []) id l rfl (by omega) (fun k _ => if_len _ _) (fun a k hk ha => by
    unfold M.impl_holdsOn_l0
    have hr := covI (l.getD k default) r d (h2 _ (getD_mem hk))
    simp (disch := first | omega | (intros; simp only [decide_eq_true_eq, decide_eq_false_iff_not, Bool.not_eq_true, Bool.not_eq_false, Bool.not_true, Bool.not_false] at *; omega)) only [cast_succ, asrt_pos, wrap64_id, Option.bind_some, cond_true, cond_false, decide_eq_true, decide_eq_false, Int.toNat_natCast, Bool.not_true, Bool.not_false, Bool.and_true, Bool.true_and, Bool.and_false, Bool.false_and, Bool.or_true, Bool.true_or, Bool.or_false, Bool.false_or, app_if, List.length_singleton, hr]
    cases cov (l.getD k default) r d
    · rfl
    · rfl) (fun a ha => by
    unfold M.impl_holdsOn_l0
    simp (disch := first | omega | (intros; simp only [decide_eq_true_eq, decide_eq_false_iff_not, Bool.not_eq_true, Bool.not_eq_false, Bool.not_true, Bool.not_false] at *; omega)) only [cast_succ, asrt_pos, wrap64_id, Option.bind_some, cond_true, cond_false, decide_eq_true, decide_eq_false, Int.toNat_natCast, Bool.not_true, Bool.not_false, Bool.and_true, Bool.true_and, Bool.and_false, Bool.false_and, Bool.or_true, Bool.true_or, Bool.or_false, Bool.false_or, id])]
  simp only [id, Option.bind_some, flatMap_if]
  rfl

theorem onS (l : List Hold) (r : Record) (d : Int) (hl : holdsOk l = true) : M.spec_l9On l r d = some (onD l r d) := by
  obtain ⟨h1, h2⟩ := holdsOk_spec hl
  unfold M.spec_l9On
  rw [iter_coll (s := (([] : List Int), (0 : Int))) (step := M.spec_l9On_l0 l r d) (fun a k => (a, (k : Int))) (fun h : Hold => bif cov h r d then [h.Id] else []) id l rfl (by omega) (fun k _ => if_len _ _) (fun a k hk ha => by
    unfold M.spec_l9On_l0
    have hr := covS (l.getD k default) r d (h2 _ (getD_mem hk))
    simp (disch := first | omega | (intros; simp only [decide_eq_true_eq, decide_eq_false_iff_not, Bool.not_eq_true, Bool.not_eq_false, Bool.not_true, Bool.not_false] at *; omega)) only [cast_succ, asrt_pos, wrap64_id, Option.bind_some, cond_true, cond_false, decide_eq_true, decide_eq_false, Int.toNat_natCast, Bool.not_true, Bool.not_false, Bool.and_true, Bool.true_and, Bool.and_false, Bool.false_and, Bool.or_true, Bool.true_or, Bool.or_false, Bool.false_or, app_if, List.length_singleton, hr]
    cases cov (l.getD k default) r d
    · rfl
    · rfl) (fun a ha => by
    unfold M.spec_l9On_l0
    simp (disch := first | omega | (intros; simp only [decide_eq_true_eq, decide_eq_false_iff_not, Bool.not_eq_true, Bool.not_eq_false, Bool.not_true, Bool.not_false] at *; omega)) only [cast_succ, asrt_pos, wrap64_id, Option.bind_some, cond_true, cond_false, decide_eq_true, decide_eq_false, Int.toNat_natCast, Bool.not_true, Bool.not_false, Bool.and_true, Bool.true_and, Bool.and_false, Bool.false_and, Bool.or_true, Bool.true_or, Bool.or_false, Bool.false_or, id])]
  simp only [id, Option.bind_some, flatMap_if]
  rfl

theorem onD_len {l : List Hold} {r : Record} {d : Int} : (onD l r d).length ≤ l.length := by
  unfold onD; rw [List.length_map]; exact List.length_filter_le _ _
theorem onD_nil {l : List Hold} {r : Record} {d : Int} : onD l r d = [] ↔ ∀ h ∈ l, cov h r d = false := by
  unfold onD
  simp [List.filter_eq_nil_iff]
theorem onD_nil' {l : List Hold} {r : Record} {d : Int} (h : onD l r d ≠ []) : ∃ h ∈ l, cov h r d = true := by
  apply Classical.byContradiction
  intro hn
  apply h
  rw [onD_nil]
  intro x hx
  cases hc : cov x r d with
  | false => rfl
  | true => exact absurd ⟨x, hx, hc⟩ hn

/-! ### Free days -/
/-- e is the first day from d on, up to the last day, without a hold. -/
def FirstFree (l : List Hold) (r : Record) (d e : Int) : Prop := d ≤ e ∧ e ≤ 20000 ∧ onD l r e = [] ∧ ∀ x, d ≤ x → x < e → onD l r x ≠ []
def NoFree (l : List Hold) (r : Record) (d : Int) : Prop := ∀ x, d ≤ x → x ≤ 20000 → onD l r x ≠ []

theorem FirstFree.one {l : List Hold} {r : Record} {d e f : Int} (h : FirstFree l r d e) (h' : FirstFree l r d f) : e = f := by
  rcases Int.lt_trichotomy e f with g | g | g
  · exact absurd h.2.2.1 (h'.2.2.2 e h.1 g)
  · exact g
  · exact absurd h'.2.2.1 (h.2.2.2 f h'.1 g)

theorem countP_lt {β : Type} {p q : β → Bool} {l : List β} (h : ∀ x ∈ l, q x = true → p x = true) (x : β) (hx : x ∈ l) (h1 : p x = true) (h2 : q x = false) : l.countP q < l.countP p := by
  induction l with
  | nil => cases hx
  | cons y t ih =>
    have hm : t.countP q ≤ t.countP p := List.countP_mono_left (fun z hz => h z (by simp [hz]))
    simp only [List.countP_cons]
    rcases List.mem_cons.1 hx with rfl | hx
    · simp only [h1, h2, Bool.false_eq_true, if_false, if_true]; omega
    · have := ih (fun z hz => h z (by simp [hz])) hx
      have h3 := h y (by simp)
      cases hq : q y
      · cases hp : p y <;> simp [hq, hp] <;> omega
      · simp [h3 hq, hq]; omega

def mu (l : List Hold) (d : Int) : Nat := l.countP fun h => decide (d < h.Until)

theorem mu_lt {l : List Hold} {d : Int} {h : Hold} (hh : h ∈ l) (h1 : d < h.Until) : mu l h.Until < mu l d :=
  countP_lt (fun x _ hx => by simp only [decide_eq_true_eq] at hx ⊢; omega) h hh (by simpa using h1) (by simp)

theorem cov_spec {h : Hold} {r : Record} {d : Int} (hc : cov h r d = true) : h.From ≤ d ∧ (h.Until = -1 ∨ d < h.Until) := by
  unfold cov at hc
  simp only [Bool.and_eq_true, Bool.or_eq_true, decide_eq_true_eq, beq_iff_eq] at hc
  exact hc.1

theorem cov_on {h : Hold} {r : Record} {d x : Int} (hc : cov h r d = true) (h1 : d ≤ x) (h2 : h.Until = -1 ∨ x < h.Until) : cov h r x = true := by
  have h3 := cov_spec hc
  unfold cov at hc ⊢
  simp only [Bool.and_eq_true, Bool.or_eq_true, decide_eq_true_eq, beq_iff_eq] at hc ⊢
  exact ⟨⟨by omega, h2⟩, hc.2⟩

theorem cov_ne {l : List Hold} {h : Hold} {r : Record} {d : Int} (hh : h ∈ l) (hc : cov h r d = true) : onD l r d ≠ [] := fun e => by
  rw [onD_nil] at e
  rw [e h hh] at hc
  cases hc

/-- One pass over the holds. -/
theorem freePass (l : List Hold) (r : Record) (d d0 : Int) (hl : holdsOk l = true) (h0 : 0 ≤ d) (g1 : d ≤ d0) (g2 : d0 ≤ 20000) (g3 : ∀ x, d ≤ x → x < d0 → onD l r x ≠ []) :
    T (iterO (M.spec_l9Free_l1 l r) (d0, 0)) (fun e => (∃ d1, e = .inl d1 ∧ d ≤ d1 ∧ d1 ≤ 20000 ∧ (∀ x, d ≤ x → x < d1 → onD l r x ≠ []) ∧ (d1 = d0 ∧ onD l r d0 = [] ∨ onD l r d0 ≠ [] ∧ mu l d1 < mu l d0)) ∨ (e = .inr 20001 ∧ NoFree l r d)) := by
  obtain ⟨hn, hh⟩ := holdsOk_spec hl
  refine T_iter (fun s => ∃ k : Nat, s.2 = (k : Int) ∧ k ≤ l.length ∧ d ≤ s.1 ∧ s.1 ≤ 20000 ∧ (∀ x, d ≤ x → x < s.1 → onD l r x ≠ []) ∧ (s.1 = d0 ∧ (∀ j, j < k → cov (l.getD j default) r d0 = false) ∨ onD l r d0 ≠ [] ∧ mu l s.1 < mu l d0)) (fun s => l.length - s.2.toNat) _
    ⟨0, rfl, by omega, g1, g2, g3, .inl ⟨rfl, fun j hj => absurd hj (Nat.not_lt_zero _)⟩⟩ (by simp only; omega) ?_
  rintro ⟨day, _⟩ ⟨k, rfl, q1, q2, q3, q4, q5⟩
  simp only at q2 q3 q4 q5
  unfold M.spec_l9Free_l1
  simp only [T_bif, T_asrt, T_bind, T_some, decide_eq_true_eq, decide_eq_false_iff_not, Int.toNat_natCast, beq_iff_eq, beq_eq_false_iff_ne]
  refine ⟨fun hk => ⟨⟨by omega, hk⟩, ?_⟩, fun hk => ?_⟩
  · have hk' : k < l.length := by omega
    have hm := getD_mem (l := l) hk'
    have hko := hh _ hm
    rw [covS _ r day hko, T_some]
    refine ⟨fun hc => ⟨⟨by omega, hk⟩, fun hu => ?_, fun hu => ?_⟩, fun hc => ?_⟩
    · refine .inr ⟨by trivial, fun x p1 p2 => ?_⟩
      by_cases p3 : x < day
      · exact q4 x p1 p3
      · exact cov_ne hm (cov_on hc (by omega) (.inl hu))
    · have c1 := cov_spec hc
      have c2 := (holdOk_spec hko).2.2.1
      refine ⟨⟨k + 1, ?_, by omega, by omega, by omega, fun x p1 p2 => ?_, .inr ⟨?_, ?_⟩⟩, ?_⟩
      · rw [wrap64_id (by omega) (by omega)]; omega
      · by_cases p3 : x < day
        · exact q4 x p1 p3
        · exact cov_ne hm (cov_on hc (by omega) (.inr p2))
      · rcases q5 with ⟨rfl, _⟩ | ⟨p, _⟩
        · exact cov_ne hm hc
        · exact p
      · have := mu_lt hm (d := day) (by omega)
        rcases q5 with ⟨rfl, _⟩ | ⟨_, p⟩
        · exact this
        · omega
      · rw [wrap64_id (by omega) (by omega)]; omega
    · refine ⟨⟨k + 1, ?_, by omega, q2, q3, q4, ?_⟩, ?_⟩
      · rw [wrap64_id (by omega) (by omega)]; omega
      · rcases q5 with ⟨rfl, p⟩ | p
        · refine .inl ⟨rfl, fun j hj => ?_⟩
          by_cases hjk : j < k
          · exact p j hjk
          · obtain rfl : j = k := by omega
            exact hc
        · exact .inr p
      · rw [wrap64_id (by omega) (by omega)]; omega
  · obtain rfl : k = l.length := by omega
    refine .inl ⟨day, rfl, q2, q3, q4, ?_⟩
    rcases q5 with ⟨rfl, p⟩ | p
    · refine .inl ⟨rfl, onD_nil.2 fun x hx => ?_⟩
      obtain ⟨j, hj, rfl⟩ := List.getElem_of_mem hx
      have := p j hj
      simpa [List.getD, hj] using this
    · exact .inr p

theorem freeS (l : List Hold) (r : Record) (d : Int) (hl : holdsOk l = true) (h0 : 0 ≤ d) (h1 : d ≤ 20000) : (∃ e, FirstFree l r d e ∧ M.spec_l9Free l r d = some e) ∨ (NoFree l r d ∧ M.spec_l9Free l r d = some 20001) := by
  obtain ⟨hn, hh⟩ := holdsOk_spec hl
  unfold M.spec_l9Free
  have h := T_iter (step := M.spec_l9Free_l0 l r) (s := (d, 0)) (fun s => ∃ n : Nat, s.2 = (n : Int) ∧ n ≤ l.length + 1 ∧ d ≤ s.1 ∧ s.1 ≤ 20000 ∧ (∀ x, d ≤ x → x < s.1 → onD l r x ≠ []) ∧ (onD l r s.1 = [] ∨ mu l s.1 + n ≤ l.length)) (fun s => l.length + 1 - s.2.toNat)
    (fun e => (∃ f, FirstFree l r d f ∧ e = .inl f) ∨ (NoFree l r d ∧ e = .inr 20001)) ⟨0, rfl, by omega, by simp, h1, fun x p1 p2 => absurd p2 (by simp only; omega), .inr (by have := List.countP_le_length (p := fun h : Hold => decide (d < h.Until)) (l := l); simpa [mu] using this)⟩ (by simp only; omega) (by
      rintro ⟨day, _⟩ ⟨n, rfl, q1, q2, q3, q4, q5⟩
      simp only at q2 q3 q4 q5
      unfold M.spec_l9Free_l0
      simp only [T_bif, decide_eq_true_eq, decide_eq_false_iff_not]
      refine ⟨fun hk => ?_, fun hk => ?_⟩
      · refine (freePass l r d day hl h0 q2 q3 q4).then ?_
        rintro _ (⟨d1, rfl, p1, p2, p3, p4⟩ | ⟨rfl, p1⟩)
        · simp only [T_some]
          refine ⟨⟨n + 1, ?_, by omega, p1, p2, p3, ?_⟩, ?_⟩
          · rw [wrap64_id (by omega) (by omega)]; omega
          · rcases p4 with ⟨rfl, p⟩ | ⟨p, p5⟩
            · exact .inl p
            · rcases q5 with q5 | q5
              · exact absurd q5 p
              · right; omega
          · rw [wrap64_id (by omega) (by omega)]; omega
        · simp only [T_some]
          exact .inr ⟨p1, by trivial⟩
      · rw [T_some]
        obtain rfl : n = l.length + 1 := by omega
        rcases q5 with q5 | q5
        · exact .inl ⟨day, ⟨q2, q3, q5, q4⟩, rfl⟩
        · omega)
  obtain ⟨e, g1, ⟨f, g2, rfl⟩ | ⟨g2, rfl⟩⟩ := h
  · exact .inl ⟨f, g2, by rw [g1]; rfl⟩
  · exact .inr ⟨g2, by rw [g1]; rfl⟩

/-- The first free day, if there is one. -/
noncomputable def fday (l : List Hold) (r : Record) (d : Int) : Int × Bool := open Classical in if h : ∃ e, FirstFree l r d e then (h.choose, true) else (0, false)

theorem fday_hit {l : List Hold} {r : Record} {d e : Int} (h : FirstFree l r d e) : fday l r d = (e, true) := by
  unfold fday
  have hx : ∃ e, FirstFree l r d e := ⟨e, h⟩
  rw [dif_pos hx, (hx.choose_spec).one h]
theorem fday_miss {l : List Hold} {r : Record} {d : Int} (h : NoFree l r d) : fday l r d = (0, false) := by
  unfold fday
  rw [dif_neg]
  rintro ⟨e, h1, h2, h3, _⟩
  exact h e h1 h2 h3
theorem fday_inv {l : List Hold} {r : Record} {d : Int} (h : (fday l r d).2 = true) : FirstFree l r d (fday l r d).1 := by
  unfold fday at h ⊢
  split at h
  · rename_i hx; rw [dif_pos hx]; exact hx.choose_spec
  · cases h

theorem fdayS (l : List Hold) (r : Record) (d : Int) (hl : holdsOk l = true) (h0 : 0 ≤ d) (h1 : d ≤ 20000) : ∃ f, M.spec_l9Free l r d = some f ∧ fday l r d = (bif decide (f > 20000) then (0, false) else (f, true)) := by
  rcases freeS l r d hl h0 h1 with ⟨e, g1, g2⟩ | ⟨g1, g2⟩
  · refine ⟨e, g2, ?_⟩
    have := g1.2.1
    rw [fday_hit g1, show decide (e > 20000) = false by simp; omega]; rfl
  · exact ⟨20001, g2, by rw [fday_miss g1]; rfl⟩

end Go.Proofs.Ytjbgllhimnopaaa
