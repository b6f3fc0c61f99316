/-
  The plain law of 'periods': ends, due days, waiting, the rule that decides, due after an event. Plain.
-/
import Derived.Test.YthffmnpbonkpaaaKd
set_option linter.unusedSimpArgs false
set_option linter.unusedVariables false
namespace Go.Proofs.Ythffmnpbonkpaaa
open Go.VS

theorem vHasP (m : List Int) (x : Int) (hl : m.length < 1000000) : M.laws_vHas m x = some (m.any fun y => y == x) := by
  unfold M.laws_vHas
  rw [iter_any (step := M.laws_vHas_l0 m x) (s := 0) (fun k => (k : Int)) m.length (fun k => m.getD k default == x) (.inr true) (.inl ()) rfl (by omega)
    (fun k hk hp => by
      unfold M.laws_vHas_l0
      simp (disch := first | omega | (intros; simp only [decide_eq_true_eq, decide_eq_false_iff_not, Bool.not_eq_true, Bool.not_eq_false, Bool.not_true, Bool.not_false] at *; omega)) only [cast_succ, asrt_pos, wrap64_id, Option.bind_some, cond_true, cond_false, decide_eq_true, decide_eq_false, Int.toNat_natCast, Bool.not_true, Bool.not_false, Bool.and_true, Bool.true_and, Bool.and_false, Bool.false_and, Bool.or_true, Bool.true_or, Bool.or_false, Bool.false_or, hp])
    (fun k hk hp => by
      unfold M.laws_vHas_l0
      simp (disch := first | omega | (intros; simp only [decide_eq_true_eq, decide_eq_false_iff_not, Bool.not_eq_true, Bool.not_eq_false, Bool.not_true, Bool.not_false] at *; omega)) only [cast_succ, asrt_pos, wrap64_id, Option.bind_some, cond_true, cond_false, decide_eq_true, decide_eq_false, Int.toNat_natCast, Bool.not_true, Bool.not_false, Bool.and_true, Bool.true_and, Bool.and_false, Bool.false_and, Bool.or_true, Bool.true_or, Bool.or_false, Bool.false_or, hp])
    (by
      unfold M.laws_vHas_l0
      simp (disch := first | omega | (intros; simp only [decide_eq_true_eq, decide_eq_false_iff_not, Bool.not_eq_true, Bool.not_eq_false, Bool.not_true, Bool.not_false] at *; omega)) only [cast_succ, asrt_pos, wrap64_id, Option.bind_some, cond_true, cond_false, decide_eq_true, decide_eq_false, Int.toNat_natCast, Bool.not_true, Bool.not_false, Bool.and_true, Bool.true_and, Bool.and_false, Bool.false_and, Bool.or_true, Bool.true_or, Bool.or_false, Bool.false_or]), any_range (fun y => y == x) m]
  cases m.any fun y => y == x <;> rfl

theorem EndsD_len {r : Record} {s : List Rule} (hs : s.length < 1000000) : (EndsD r s).1.length < 1000000 := by
  unfold EndsD endsL
  cases both r s
  · simp
  · simp only [cond_true, List.length_map]; exact rulesFor_lt hs
theorem WaitsD_len {r : Record} {s : List Rule} (hs : s.length < 1000000) : (WaitsD r s).1.length < 1000000 := by
  unfold WaitsD waitsL
  cases both r s
  · simp
  · simp only [cond_true, List.length_map]; exact Nat.lt_of_le_of_lt (List.length_filter_le _ _) (rulesFor_lt hs)

theorem DueD_ok {r : Record} {s : List Rule} (h : (DueD r s).2 = true) : both r s = true ∧ 0 ≤ (deciding r s).1 ∧ (DueD r s).1 = (deciding r s).1 := by
  unfold DueD at h ⊢
  cases h1 : both r s && decide (0 ≤ (deciding r s).1)
  · rw [h1] at h; cases h
  · simp only [Bool.and_eq_true, decide_eq_true_eq] at h1
    exact ⟨h1.1, h1.2, rfl⟩

theorem law_FnPeriods (code : List Int) (h1 : code.length ≤ 9223372036854775807) (h2 : ∀ x, x ∈ code → 0 ≤ x ∧ x ≤ 255) : M.laws_FnPeriods code = some true := by
  apply T.eq
  unfold M.laws_FnPeriods M.laws_vBig
  rw [Option.bind_some]
  refine T_if (fun _ => T_ret rfl) (fun hq => ?_)
  simp only [decide_eq_false_iff_not] at hq
  have hb : Bytes code := ⟨by omega, h2⟩
  refine (dEndsOf hb).then ?_
  rintro ⟨r, s⟩ ⟨hr7, hs⟩
  simp only at hr7 hs
  have hr : RecB r := by unfold RecB; omega
  have hf2 : (WaitsD r s).2 = (EndsD r s).2 := by unfold WaitsD EndsD; cases both r s <;> rfl
  have hdf : (DecD r s).2 = (DueD r s).2 := by
    unfold DecD DueD
    cases both r s
    · rfl
    · simp only [Bool.true_and, cond_true]
      have e0 : decide ((deciding r s).1 ≥ 0) = decide (0 ≤ (deciding r s).1) := rfl
      rw [e0]
      cases decide (0 ≤ (deciding r s).1) <;> rfl
  have hdu := (dueFlag r s).symm
  simp only [endsOfI r s hr hs, endsOfS r s hr hs, dueDI r s hr hs, dueDS r s hr hs, waitsI r s hr hs, waitsS r s hr hs, decI r s hr hs, decS r s hr hs, Option.bind_some, beq_self_eq_true, bne_self_eq_false, Bool.not_true, Bool.or_self, cond_false, vInts_self _ (EndsD_len (r := r) hs), vInts_self _ (WaitsD_len (r := r) hs), hf2, hdu, hdf, Bool.and_self]
  refine T.then (Q := fun e => e = .inl ()) (T_if (fun hm => ?_) (fun _ => T_ret rfl)) ?_
  · obtain ⟨b1, b2, b3⟩ := DueD_ok hm
    obtain ⟨hn, u, hu, hdec, hall⟩ := dec_spec b2
    obtain ⟨hrk, hsk⟩ := both_spec b1
    have hD : (DecD r s).1 = u := by unfold DecD; rw [b1, hdec]; rfl
    have hdays := rulesFor_days hsk u hu
    have hbd := endOf_bd hrk hdays
    have hw := hn u hu
    unfold waitB at hw
    simp only [decide_eq_false_iff_not] at hw
    have hday : ¬ dayOf r u.Event < 0 := by
      intro q
      unfold endOf at hw
      rw [decide_eq_true q] at hw
      simp at hw
    have hend : endOf r u = dayOf r u.Event + u.Days := by unfold endOf; rw [decide_eq_false hday]; rfl
    have hdue : (DueD r s).1 = endOf r u := by rw [b3, hdec]
    have hDay : M.impl_DayOf r u.Event = some (dayOf r u.Event, true) := by
      obtain ⟨_, _, h3, h4, h5⟩ := recOk_spec hrk
      unfold M.impl_DayOf
      rw [recI r hr, Option.bind_some, hrk]
      simp only [Bool.not_true, cond_false]
      rw [dayI r u.Event hr (fun e he => by have := h5 e he; omega) h3.1, Option.bind_some, decide_eq_false hday]
      rfl
    have hE : (EndsD r s).1 = endsL r s := by unfold EndsD; rw [b1]; rfl
    have hAny : ((EndsD r s).1.any fun y => y == (DueD r s).1) = true := List.any_eq_true.2 ⟨endOf r u, by rw [hE]; exact List.mem_map.2 ⟨u, hu, rfl⟩, by rw [hdue]; exact beq_self_eq_true _⟩
    have hser : u.Series = r.Series := by simpa using (List.mem_filter.1 hu).2
    have hloop : iterO (M.laws_FnPeriods_l0 (EndsD r s) (DueD r s)) (0 : Int) = some (.inl ()) := by
      have hl := EndsD_len (r := r) hs
      rw [iter_up (s := 0) (step := M.laws_FnPeriods_l0 (EndsD r s) (DueD r s)) (e := .inl ()) (fun k => (k : Int)) (EndsD r s).1.length rfl (by omega) (fun k hk => by
        have h9 : ¬ ((EndsD r s).1.getD k default > (DueD r s).1) := by
          have hm2 := getD_mem hk
          generalize (EndsD r s).1.getD k default = y at hm2 ⊢
          rw [hE] at hm2
          obtain ⟨v, hv, rfl⟩ := List.mem_map.1 hm2
          have := hall v hv
          rw [b3]; omega
        unfold M.laws_FnPeriods_l0
        simp (disch := first | omega | (intros; simp only [decide_eq_true_eq, decide_eq_false_iff_not, Bool.not_eq_true, Bool.not_eq_false, Bool.not_true, Bool.not_false] at *; omega)) only [cast_succ, asrt_pos, wrap64_id, Option.bind_some, cond_true, cond_false, decide_eq_true, decide_eq_false, Int.toNat_natCast, Bool.not_true, Bool.not_false, Bool.and_true, Bool.true_and, Bool.and_false, Bool.false_and, Bool.or_true, Bool.true_or, Bool.or_false, Bool.false_or, decide_eq_false h9]) (by
        unfold M.laws_FnPeriods_l0
        simp (disch := first | omega | (intros; simp only [decide_eq_true_eq, decide_eq_false_iff_not, Bool.not_eq_true, Bool.not_eq_false, Bool.not_true, Bool.not_false] at *; omega)) only [cast_succ, asrt_pos, wrap64_id, Option.bind_some, cond_true, cond_false, decide_eq_true, decide_eq_false, Int.toNat_natCast, Bool.not_true, Bool.not_false, Bool.and_true, Bool.true_and, Bool.and_false, Bool.false_and, Bool.or_true, Bool.true_or, Bool.or_false, Bool.false_or])]
    rw [hD, hDay, Option.bind_some, vHasP _ _ (EndsD_len (r := r) hs), Option.bind_some, hAny]
    dsimp only
    rw [wrap64_id (by omega) (by omega), hser, hdue, hend]
    simp only [Bool.not_true, bne_self_eq_false, Bool.or_self, cond_false]
    rw [hloop, Option.bind_some]
    exact T_ret rfl
  rintro _ rfl
  dsimp only
  refine (dDueAfter hb).then ?_
  rintro ⟨r, s, e⟩ ⟨hr7, hs⟩
  simp only at hr7 hs
  have hr : RecB r := by unfold RecB; omega
  obtain ⟨p, g1, g2, g3, g4, g5, g6⟩ := addBoth r e (by omega)
  simp only [afterI r s e (by omega) hs g4, afterS r s e (by omega) hs g5, dueDI r s hr hs, Option.bind_some, beq_self_eq_true, bne_self_eq_false, Bool.not_true, Bool.or_self, cond_false]
  refine T_if (fun hm => ?_) (fun _ => T_ret rfl)
  refine T_if (fun hx => ?_) (fun _ => T_ret rfl)
  exfalso
  simp only [Bool.and_eq_true, decide_eq_true_eq] at hx
  unfold AfterX at hm hx
  cases h : (AddX r e p).2
  · rw [h] at hm; cases hm
  · rw [h] at hm hx
    simp only [cond_true] at hm hx
    obtain ⟨_, b2, b3⟩ := DueD_ok hx.1
    obtain ⟨_, _, c3⟩ := DueD_ok hm
    have h8 := hx.2
    rw [c3, b3, dec_ins b2 (g6 h)] at h8
    omega
end Go.Proofs.Ythffmnpbonkpaaa
