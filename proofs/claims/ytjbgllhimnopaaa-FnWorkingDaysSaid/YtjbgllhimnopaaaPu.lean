/-
  The law of the working days. Plain.
-/
import Derived.Test.YtjbgllhimnopaaaPt
set_option linter.unusedSimpArgs false
set_option linter.unusedVariables false
namespace Go.Proofs.Ytjbgllhimnopaaa
open Go.VS

/-! ### The draws -/

theorem request_ok {code : List Int} {k : Nat} {c : Cur} {i : Int} (hb : Bytes code) (h : Good code k c) (hk : k < 800000000) : T (M.spec_l1Cur_request c i) (fun r => Good code (k + 100) r.2) := by
  unfold M.spec_l1Cur_request
  refine (among_ok hb h (by omega) (by simp)).then ?_
  rintro ⟨x0, c0⟩ ⟨_, h0⟩
  refine (among_ok hb h0 (by omega) (by simp)).then ?_
  rintro ⟨x1, c1⟩ ⟨_, h1⟩
  refine (among_ok hb h1 (by omega) (by simp)).then ?_
  rintro ⟨x2, c2⟩ ⟨_, h2⟩
  refine (pick_ok hb h2 (by omega)).then ?_
  rintro ⟨x3, c3⟩ ⟨_, g3, h3⟩
  simp only at h0 h1 h2 g3 h3 ⊢
  have g3' := g3 (by omega)
  refine T.then (Q := fun s => s.2.1.length ≤ 10 ∧ Good code (k + 40) s.2.2) (T_iter (fun s => ∃ m : Nat, s.2.1 = (m : Int) ∧ m ≤ 2 ∧ s.2.2.1.length + m ≤ 2 ∧ Good code (k + 30 - 4 * m) s.2.2.2) (fun s => s.2.1.toNat) _ ⟨x3.toNat, by simp only; omega, by omega, by simp only [List.length_nil]; omega, h3.up (by omega)⟩ (by simp only; omega) ?_) ?_
  · rintro ⟨a, _, st, c4⟩ ⟨m, rfl, q1, q2, q3⟩
    simp only at q2 q3
    unfold M.spec_l1Cur_request_l0
    simp only [T_bif, T_some, decide_eq_true_eq, decide_eq_false_iff_not]
    refine ⟨fun hm => ?_, fun hm => ⟨by omega, q3.up (by omega)⟩⟩
    refine (among_ok hb q3 (by omega) (by simp)).then ?_
    rintro ⟨x5, c5⟩ ⟨_, h5⟩
    refine (among_ok hb h5 (by omega) (by simp)).then ?_
    rintro ⟨x6, c6⟩ ⟨_, h6⟩
    simp only [T_asrt, T_some]
    refine ⟨by simp; omega, ⟨m - 1, ?_, by omega, by simp; omega, h6.up (by omega)⟩, ?_⟩
    · rw [wrap64_id (by omega) (by omega)]; omega
    · rw [wrap64_id (by omega) (by omega)]; omega
  · rintro ⟨a, st, c4⟩ ⟨q1, q2⟩
    simp only at q1 q2
    refine (pick_ok hb q2 (by omega)).then ?_
    rintro ⟨x7, c7⟩ ⟨_, _, h7⟩
    simp only at h7
    refine T.then (Q := fun s => Good code (k + 100) s.2.2.2.2) ?_ (fun s hs => by obtain ⟨a, b, c, d, e⟩ := s; rw [T_some]; exact hs)
    simp only [T_bif]
    refine ⟨fun _ => ?_, fun _ => ⟨fun _ => ?_, fun _ => ⟨fun _ => ?_, fun _ => ⟨fun _ => ?_, fun _ => ?_⟩⟩⟩⟩
    · refine (among_ok hb h7 (by omega) (by simp)).then ?_
      rintro ⟨x8, c8⟩ ⟨_, h8⟩
      rw [T_some]; exact h8.up (by omega)
    · refine (among_ok hb h7 (by omega) (by simp)).then ?_
      rintro ⟨x8, c8⟩ ⟨_, h8⟩
      rw [T_some]; exact h8.up (by omega)
    · refine (among_ok hb h7 (by omega) (by simp)).then ?_
      rintro ⟨x8, c8⟩ ⟨_, h8⟩
      refine (among_ok hb h8 (by omega) (by simp)).then ?_
      rintro ⟨x9, c9⟩ ⟨_, h9⟩
      simp only [T_asrt, Option.bind_some, T_some]
      exact ⟨by simp; omega, h9.up (by omega)⟩
    · refine (among_ok hb h7 (by omega) (by simp)).then ?_
      rintro ⟨x8, c8⟩ ⟨_, h8⟩
      rw [T_some]; exact h8.up (by omega)
    · rw [T_some]; exact h7.up (by omega)

theorem requests_ok {code : List Int} {k : Nat} {c : Cur} (hb : Bytes code) (h : Good code k c) (hk : k < 700000000) : T (M.spec_l1Cur_requests c) (fun r => r.1.length ≤ 100 ∧ Good code (k + 10000) r.2) := by
  unfold M.spec_l1Cur_requests
  refine T.then (Q := fun s => s.1.length ≤ 6 ∧ Good code (k + 2000) s.2) (T_iter (fun s => ∃ n : Nat, s.2.1 = (n : Int) ∧ n ≤ 6 ∧ s.1.length ≤ n ∧ Good code (k + 200 * n) s.2.2) (fun s => 6 - s.2.1.toNat) _ ⟨1, rfl, by omega, by simp, h.up (by omega)⟩ (by simp only; omega) ?_) ?_
  · rintro ⟨l, _, c0⟩ ⟨n, rfl, q1, q2, q3⟩
    simp only at q2 q3
    unfold M.spec_l1Cur_requests_l0
    simp only [T_bif, T_some, decide_eq_true_eq, decide_eq_false_iff_not]
    refine ⟨fun hn => ?_, fun hn => ⟨by omega, q3.up (by omega)⟩⟩
    refine T.then (Q := fun s => s.1.length ≤ n + 1 ∧ Good code (k + 200 * (n + 1)) s.2) ?_ ?_
    · refine (one_ok hb q3 (by omega)).then ?_
      rintro ⟨x1, c1⟩ h1
      simp only at h1
      simp only [T_bif, T_some]
      refine ⟨fun _ => ?_, fun _ => ⟨by omega, h1.up (by omega)⟩⟩
      refine (request_ok hb h1 (by omega)).then ?_
      rintro ⟨x2, c2⟩ h2
      simp only [T_asrt, T_some]
      exact ⟨by simp; omega, by simp; omega, h2.up (by omega)⟩
    · rintro ⟨l1, c1⟩ ⟨h1, h2⟩
      simp only at h1 h2
      simp only [T_some]
      refine ⟨⟨n + 1, ?_, by omega, h1, h2⟩, ?_⟩
      · rw [wrap64_id (by omega) (by omega)]; omega
      · rw [wrap64_id (by omega) (by omega)]; omega
  · rintro ⟨l, c0⟩ ⟨q1, q2⟩
    simp only at q1 q2
    refine (pick_ok hb q2 (by omega)).then ?_
    rintro ⟨x3, c3⟩ ⟨_, _, h3⟩
    simp only at h3
    refine T.then (Q := fun s => s.1.length ≤ 100 ∧ Good code (k + 10000) s.2) ?_ (fun s hs => by obtain ⟨a, b⟩ := s; rw [T_some]; exact hs)
    simp only [T_bif, T_some]
    refine ⟨fun _ => ?_, fun _ => ⟨fun _ => ?_, fun _ => ⟨by omega, h3.up (by omega)⟩⟩⟩
    · refine (among_ok hb h3 (by omega) (by simp)).then ?_
      rintro ⟨x4, c4⟩ ⟨_, h4⟩
      refine (request_ok hb h4 (by omega)).then ?_
      rintro ⟨x5, c5⟩ h5
      simp only [T_asrt, T_some]
      exact ⟨by simp; omega, by simp; omega, h5.up (by omega)⟩
    · refine T.then (Q := fun s => s.1.length ≤ 100 ∧ Good code (k + 10000) s.2) (T_iter (fun s => s.1.length ≤ 20 ∧ Good code (k + 3000 + 2 * s.1.length) s.2) (fun s => 20 - s.1.length) _ ⟨by simp only; omega, h3.up (by omega)⟩ (by simp only; omega) ?_) (fun s hs => by obtain ⟨a, b⟩ := s; rw [T_some]; exact hs)
      rintro ⟨l1, c1⟩ ⟨p1, p2⟩
      simp only at p1 p2
      unfold M.spec_l1Cur_requests_l1
      refine (pick_ok hb p2 (by omega)).then ?_
      rintro ⟨x7, c7⟩ ⟨_, g7, h7⟩
      have g7' := g7 (by omega)
      simp only at h7 g7'
      simp only [T_bif, T_some, T_asrt, decide_eq_true_eq, decide_eq_false_iff_not]
      rw [wrap64_id (by omega) (by omega)]
      refine ⟨fun hl => ⟨by simp; omega, ⟨by simp; omega, h7.up (by simp; omega)⟩, by simp; omega⟩, fun hl => ⟨by omega, h7.up (by omega)⟩⟩

theorem start {code : List Int} : Good code 0 ⟨code, 0, 0⟩ := ⟨rfl, by simp, by simp⟩

theorem drawFirst {code : List Int} (hb : Bytes code) : T (M.spec_DrawFirstRequest code) (fun l => l.length ≤ 100) := by
  unfold M.spec_DrawFirstRequest
  refine (requests_ok hb start (by omega)).then ?_
  rintro ⟨l, c⟩ ⟨h1, _⟩
  rw [T_some]; exact h1

theorem drawOver {code : List Int} (hb : Bytes code) : T (M.spec_DrawOverdueOn code) (fun r => r.1.length ≤ 100) := by
  unfold M.spec_DrawOverdueOn
  refine (requests_ok hb start (by omega)).then ?_
  rintro ⟨l, c⟩ ⟨h1, h2⟩
  simp only at h1 h2 ⊢
  refine T.then (Q := fun e => match e with | .inl c => Good code 20000 c | .inr r => r.1.length ≤ 100) ?_ ?_
  · cases hl : decide ((l.length : Int) > 0) with
    | false =>
      simp only [cond_false, Option.bind_some, Bool.false_and, T_some]
      exact h2.up (by omega)
    | true =>
      simp only [decide_eq_true_eq] at hl
      simp only [cond_true, Bool.true_and]
      refine (one_ok hb h2 (by omega)).then ?_
      rintro ⟨b, c1⟩ h3
      simp only at h3
      simp only [T_bif, T_some]
      refine ⟨fun _ => ?_, fun _ => h3.up (by omega)⟩
      refine (pick_ok hb h3 (by omega)).then ?_
      rintro ⟨x, c2⟩ ⟨_, g4, h4⟩
      have g4' := g4 (by omega)
      simp only at h4 g4'
      simp only [T_asrt, rdS, Option.bind_some, T_bif, T_some]
      refine ⟨g4', fun _ => ?_, fun _ => h4.up (by omega)⟩
      refine (pick_ok hb h4 (by omega)).then ?_
      rintro ⟨y, c3⟩ _
      rw [T_some]; exact h1
  · rintro (c1 | r) h
    · simp only at h ⊢
      unfold M.spec_l1Cur_day
      refine T.then (Q := fun _ => True) ?_ (fun _ _ => by rw [T_some]; exact h1)
      refine (among_ok hb h (by omega) (by simp)).then ?_
      rintro ⟨x, c2⟩ _
      rw [T_some]; trivial
    · simp only at h ⊢
      rw [T_some]; exact h

theorem drawAdd {code : List Int} (hb : Bytes code) : T (M.spec_DrawAddWorkingDays code) (fun _ => True) := by
  unfold M.spec_DrawAddWorkingDays
  refine (among_ok hb start (by omega) (by simp)).then ?_
  rintro ⟨x, c⟩ ⟨_, h⟩
  refine (among_ok hb h (by omega) (by simp)).then ?_
  rintro ⟨y, c⟩ _
  rw [T_some]; trivial

theorem drawWork {code : List Int} (hb : Bytes code) : T (M.spec_DrawWorkingDays code) (fun _ => True) := by
  unfold M.spec_DrawWorkingDays
  refine (among_ok hb start (by omega) (by simp)).then ?_
  rintro ⟨x, c⟩ ⟨_, h⟩
  refine (among_ok hb h (by omega) (by simp)).then ?_
  rintro ⟨y, c⟩ _
  rw [T_some]; trivial

theorem drawIs {code : List Int} (hb : Bytes code) : T (M.spec_DrawIsWorkingDay code) (fun _ => True) := by
  unfold M.spec_DrawIsWorkingDay
  refine (among_ok hb start (by omega) (by simp)).then ?_
  rintro ⟨x, c⟩ _
  rw [T_some]; trivial

/-! ### Working days -/

theorem isWorkS (d : Int) : M.spec_IsWorkingDay d = M.impl_IsWorkingDay d := rfl
theorem isWorkI (d : Int) : M.impl_IsWorkingDay d = some (bif inR d 0 20000 then (Wd d, true) else (false, false)) := by
  unfold M.impl_IsWorkingDay
  rw [isDayI]
  cases inR d 0 20000 <;> rfl

theorem workLoop (to_ : Int) (ht : to_ ≤ 20000) (from_ : Int) (hf : 0 ≤ from_) : T (iterO (M.impl_WorkingDays_l0 to_) ((0 : Int), from_)) (fun _ => True) := by
  refine T_iter (fun s => 0 ≤ s.2) (fun s => (to_ + 1 - s.2).toNat) _ hf (by simp only; omega) ?_
  rintro ⟨n, d⟩ h
  simp only at h
  unfold M.impl_WorkingDays_l0
  simp only [T_bif, T_some, decide_eq_true_eq, decide_eq_false_iff_not, and_true, implies_true]
  intro hd
  refine T.then (Q := fun _ => True) ?_ (fun n' _ => ?_)
  · unfold M.impl_isWorkingDay
    simp only [Option.bind_some, T_bif, T_some, implies_true, and_true]
  · simp only [T_some]
    rw [wrap64_id (by omega) (by omega)]
    omega

theorem workCount {n : Nat} {d e : Int} (h : Due Wd n d e) (h0 : 0 ≤ d) (he : e ≤ 20000) (hn : n ≤ 1000) : iterO (M.impl_WorkingDays_l0 e) ((0 : Int), d + 1) = some (n : Int) := by
  apply T.eq
  refine T_iter (fun s => ∃ m q : Nat, s.1 = (q : Int) ∧ q + m = n ∧ Due Wd m (s.2 - 1) e ∧ 1 ≤ s.2) (fun s => (e + 1 - s.2).toNat) _ ⟨n, 0, rfl, by omega, by simp only; rw [show d + 1 - 1 = d by omega]; exact h, by simp only; omega⟩ (by simp only; omega) ?_
  rintro ⟨_, day⟩ ⟨m, q, rfl, h1, h2, h3⟩
  simp only at h2 h3
  have hle := h2.le
  unfold M.impl_WorkingDays_l0 M.impl_isWorkingDay
  simp only [T_bif, T_bind, T_some, decide_eq_true_eq, decide_eq_false_iff_not]
  refine ⟨fun hd => ?_, fun hd => ?_⟩
  · have e1 : day - 1 + 1 = day := by omega
    have e2 : day + 1 - 1 = day := by omega
    rw [wrap64_id (n := day + 1) (by omega) (by omega)]
    cases h2 with
    | zero => omega
    | @hit p _ _ q1 q2 =>
      rw [e1] at q1 q2
      simp only [Wd, decide_eq_true_eq] at q1
      refine ⟨fun _ => ?_, fun h5 => absurd q1 h5⟩
      rw [wrap64_id (by omega) (by omega)]
      exact ⟨⟨p, q + 1, by omega, by omega, by rw [e2]; exact q2, by omega⟩, by omega⟩
    | @miss p _ _ q1 q2 =>
      rw [e1] at q1 q2
      simp only [Wd, decide_eq_false_iff_not] at q1
      refine ⟨fun h5 => absurd h5 q1, fun _ => ?_⟩
      exact ⟨⟨p + 1, q, rfl, by omega, by rw [e2]; exact q2, by omega⟩, by omega⟩
  · cases m with
    | zero => omega
    | succ p => have := hle.2 (by omega); omega

theorem work_same (a b : Int) : M.spec_WorkingDays a b = M.impl_WorkingDays a b := by
  unfold M.spec_WorkingDays M.impl_WorkingDays
  have hl : M.spec_WorkingDays_l0 b = M.impl_WorkingDays_l0 b := rfl
  simp only [areDaysI, l2DayS, Option.bind_some, hl]
  cases inR a 0 20000
  · rfl
  cases inR b 0 20000
  · rfl
  by_cases h : a ≤ b
  · simp [h, Int.not_lt.2 h]
  · simp [h, Int.not_le.1 h]

theorem work_some (a b : Int) : T (M.impl_WorkingDays a b) (fun _ => True) := by
  unfold M.impl_WorkingDays
  simp only [areDaysI, Option.bind_some, T_bif, T_some, implies_true, true_and]
  intro h
  simp only [Bool.not_eq_false', Bool.and_eq_true, inR_true] at h
  exact (workLoop b h.1.2.2 a h.1.1.1).then (fun _ _ => by rw [T_some]; trivial)

theorem work_count {n : Nat} {d e : Int} (h : Due Wd n d e) (h0 : 0 ≤ d) (he : e ≤ 20000) (hn : n ≤ 1000) (hn1 : 1 ≤ n) : M.impl_WorkingDays (d + 1) e = some ((n : Int), true) := by
  have := h.le.2 (by omega)
  unfold M.impl_WorkingDays
  rw [areDaysI, show inR (d + 1) 0 20000 = true by rw [inR_true]; omega, show inR e 0 20000 = true by rw [inR_true]; omega, show decide (d + 1 ≤ e) = true by simpa using this]
  simp only [Option.bind_some, Bool.true_and, Bool.not_true, cond_false, workCount h h0 he hn]

theorem add_ok (d n : Int) : M.spec_AddWorkingDays d n = M.impl_AddWorkingDays d n ∧ T (M.impl_AddWorkingDays d n) (fun x => x.2 = true → 0 ≤ d ∧ d ≤ 20000 ∧ 1 ≤ n ∧ n ≤ 500 ∧ x.1 ≤ 20000 ∧ Due Wd n.toNat d x.1) := by
  unfold M.spec_AddWorkingDays M.impl_AddWorkingDays
  simp only [isDayI, l2DayS, Option.bind_some, withinI, l1InS]
  cases h1 : inR d 0 20000 with
  | false => exact ⟨rfl, ⟨_, rfl, by simp⟩⟩
  | true =>
    cases h2 : inR n 1 500 with
    | false => exact ⟨rfl, ⟨_, rfl, by simp⟩⟩
    | true =>
      rw [inR_true] at h1 h2
      obtain ⟨e, h3, h4⟩ := Due.total (C := Wd) (fun D hD => wd_some (by omega)) n.toNat 20000 d h1.2 (Int.le_refl _)
      have hC : Cn ⟨0, d, n, 0, []⟩ = Wd := by funext x; exact Cn_none
      have h5 := dueI (r := ⟨0, d, n, 0, []⟩) (n := n.toNat) (e := e) (by simp) h1.1 h1.2 (by simp only; omega) (by omega) (by omega) (by rw [hC]; exact h3)
      have h6 := dueS (r := ⟨0, d, n, 0, []⟩) (n := n.toNat) (e := e) (by simp) h1.1 (by simp only; omega) (by omega) (by omega) (by rw [hC]; exact h3)
      have hl : M.spec_AddWorkingDays_l0 = M.spec_l13Due_l0 ⟨0, d, n, 0, []⟩ := by
        funext ⟨a, b⟩
        unfold M.spec_AddWorkingDays_l0 M.spec_l13Due_l0
        simp only [countsS (⟨0, d, n, 0, []⟩ : Request) _ (by simp), Cn_none]
        rfl
      have h7 : iterO M.spec_AddWorkingDays_l0 (d, n) = some e := by
        unfold M.spec_l13Due at h6
        simp only [Int.add_zero] at h6
        rw [wrap64_id (by omega) (by omega), ← hl] at h6
        cases hi : iterO M.spec_AddWorkingDays_l0 (d, n) with
        | none => rw [hi] at h6; cases h6
        | some x => rw [hi] at h6; exact h6
      simp only [Bool.not_true, cond_false, Option.bind_some, Bool.or_false, h5, h7]
      by_cases he : e ≤ 20000
      · simp only [he, if_true, show decide (e > 20000) = false by simp; omega, cond_false]
        exact ⟨trivial, ⟨_, rfl, fun _ => ⟨h1.1, h1.2, h2.1, h2.2, he, h3⟩⟩⟩
      · simp only [he, if_false, show decide (e > 20000) = true by simp; omega, cond_true]
        exact ⟨trivial, ⟨_, rfl, by simp⟩⟩

theorem vInts_self (l : List Int) (hl : l.length ≤ 1000) : M.laws_vInts l l = some true := by
  unfold M.laws_vInts
  rw [show ((l.length : Int) != (l.length : Int)) = false by simp]
  rw [cond_false, iter_up (step := M.laws_vInts_l0 l l) (e := .inl ()) (s := 0) (fun k => (k : Int)) l.length rfl (by omega)
    (fun k hk => by
      unfold M.laws_vInts_l0
      simp (disch := first | omega | (intros; simp only [decide_eq_true_eq, decide_eq_false_iff_not, Bool.not_eq_true, Bool.not_eq_false, Bool.not_true, Bool.not_false] at *; omega)) only [cast_succ, asrt_pos, wrap64_id, Option.bind_some, cond_true, cond_false, decide_eq_true, decide_eq_false, Int.toNat_natCast, Bool.not_true, Bool.not_false, Bool.and_true, Bool.true_and, Bool.and_false, Bool.false_and, Bool.or_true, Bool.true_or, Bool.or_false, Bool.false_or, bne_self_eq_false])
    (by
      unfold M.laws_vInts_l0
      simp (disch := first | omega | (intros; simp only [decide_eq_true_eq, decide_eq_false_iff_not, Bool.not_eq_true, Bool.not_eq_false, Bool.not_true, Bool.not_false] at *; omega)) only [cast_succ, asrt_pos, wrap64_id, Option.bind_some, cond_true, cond_false, decide_eq_true, decide_eq_false, Int.toNat_natCast, Bool.not_true, Bool.not_false, Bool.and_true, Bool.true_and, Bool.and_false, Bool.false_and, Bool.or_true, Bool.true_or, Bool.or_false, Bool.false_or])]
  rfl

theorem law_FnWorkingDays (code : List Int) (_ : code.length ≤ maxLen) (hb : ∀ b ∈ code, 0 ≤ b ∧ b ≤ 255) : M.laws_FnWorkingDays code = some true := by
  apply T.eq
  unfold M.laws_FnWorkingDays M.laws_vBig
  simp only [Option.bind_some]
  rw [T_bif]
  refine ⟨fun _ => by rw [T_some], fun hc => ?_⟩
  simp only [decide_eq_false_iff_not] at hc
  have hB : Bytes code := ⟨by omega, hb⟩
  refine (drawAdd hB).then ?_
  rintro ⟨d, n⟩ _
  obtain ⟨a1, x, a2, a3⟩ := add_ok d n
  simp only [a1, a2, Option.bind_some, bne_self_eq_false, Bool.or_false, beq_self_eq_true, Bool.not_true, cond_false]
  refine T.then (Q := fun e => e = .inl ()) ?_ ?_
  · rw [T_bif]
    refine ⟨fun hx => ?_, fun _ => by rw [T_some]⟩
    obtain ⟨b1, b2, b3, b4, b5, b6⟩ := a3 hx
    have e1 : ((n.toNat : Nat) : Int) = n := by omega
    have b7 := b6.le.2 (by omega)
    rw [wrap64_id (by omega) (by omega), work_count b6 b1 b5 (by omega) (by omega), isWorkI, show inR x.1 0 20000 = true by rw [inR_true]; omega, b6.last (by omega), e1]
    simp [T_some]
  · rintro _ rfl
    simp only
    refine (drawWork hB).then ?_
    rintro ⟨a, b⟩ _
    obtain ⟨y, c1, _⟩ := work_some a b
    simp only [work_same, c1, Option.bind_some, bne_self_eq_false, Bool.or_false, beq_self_eq_true, Bool.not_true, cond_false]
    refine (drawIs hB).then ?_
    intro d1 _
    simp only [isWorkS, isWorkI, Option.bind_some, bne_self_eq_false, Bool.or_false, beq_self_eq_true, Bool.not_true, cond_false]
    refine (drawFirst hB).then ?_
    intro l hl
    obtain ⟨z, c2, c3⟩ : ∃ z, M.impl_FirstRequest l = some z ∧ (z.2.2 = true → ∃ k, AllOk l ∧ l.length ≤ 8 ∧ Least (l.map dueOf) k ∧ z.2.1 = dueOf (l.getD k default)) := by
      rcases firstI l (by omega) with ⟨_, h⟩ | ⟨k, h1, h2, h3, h⟩
      · exact ⟨_, h, by simp⟩
      · exact ⟨_, h, fun _ => ⟨k, h1, h2, h3, rfl⟩⟩
    simp only [first_same l (by omega), c2, Option.bind_some, bne_self_eq_false, Bool.or_false, beq_self_eq_true, Bool.not_true, cond_false]
    refine T.then (Q := fun e => e = .inl ()) ?_ ?_
    · rw [T_bif]
      refine ⟨fun hz => ?_, fun _ => by rw [T_some]⟩
      obtain ⟨k, k1, k2, k3, k4⟩ := c3 hz
      have hk : k < l.length := by simpa using k3.1
      have hlate : late l z.2.1 = [] := by
        unfold late
        rw [List.map_eq_nil_iff, List.filter_eq_nil_iff]
        intro r hr
        obtain ⟨j, hj, rfl⟩ := List.getElem_of_mem hr
        have := k3.2.1 j (by simpa using hj)
        rw [map_at hk, map_at hj] at this
        have e2 : l.getD j default = l[j] := by simp [List.getD, hj]
        rw [e2] at this
        simp only [decide_eq_true_eq]
        omega
      rcases overdueI l z.2.1 (by omega) with ⟨_, _, _, h⟩ | ⟨h, _⟩
      · rw [h, hlate]
        simp [T_some]
      · refine absurd ⟨k1, k2, ?_⟩ h
        rw [inR_true, k4]
        exact ⟨dueOf_ge (k1 k hk).1, (k1 k hk).2.1⟩
    · rintro _ rfl
      simp only
      refine (drawOver hB).then ?_
      rintro ⟨l2, d2⟩ hl2
      simp only at hl2 ⊢
      obtain ⟨u, c4, c5⟩ : ∃ u, M.impl_OverdueOn l2 d2 = some u ∧ u.1.length ≤ 1000 := by
        rcases overdueI l2 d2 (by omega) with ⟨_, _, _, h⟩ | ⟨_, h⟩
        · exact ⟨_, h, by have := late_length l2 d2; simp only; omega⟩
        · exact ⟨_, h, by simp⟩
      simp only [overdueS l2 d2 (by omega), c4, Option.bind_some, beq_self_eq_true, cond_true, vInts_self _ c5, Bool.true_and, T_some]

end Go.Proofs.Ytjbgllhimnopaaa
