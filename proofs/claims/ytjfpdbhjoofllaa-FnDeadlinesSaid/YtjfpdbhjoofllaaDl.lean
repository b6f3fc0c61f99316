/-
  Requests: a stop or an extension never makes the due day an earlier one, and on the due day nothing is left. Plain.
-/
import Derived.Test.YtjfpdbhjoofllaaPs
import Derived.Test.YtjfpdbhjoofllaaTc
set_option linter.unusedSimpArgs false
set_option linter.unusedVariables false
namespace Go.Proofs.Ytjfpdbhjoofllaa
open Go.VS

/-! ### Days that count -/
theorem Due.cnt {C : Int → Bool} {n : Nat} {d e : Int} (h : Due C n d e) : d + n ≤ e := by
  induction h with
  | zero => omega
  | hit _ _ ih => omega
  | miss _ _ ih => omega
theorem Due.rises {C C' : Int → Bool} (hC : ∀ d, C' d = true → C d = true) {n : Nat} {d e' : Int} (h' : Due C' n d e') : ∀ {m : Nat} {e : Int}, Due C m d e → m ≤ n → e + (n - m : Int) ≤ e' := by
  induction h' with
  | zero d =>
    intro m e h hm
    obtain rfl : m = 0 := by omega
    rw [h.at0]; omega
  | @hit n d e' q1 q2 ih =>
    intro m e h hm
    cases m with
    | zero => have := q2.cnt; rw [h.at0]; omega
    | succ p =>
      cases h with
      | hit p1 p2 => have := ih p2 (by omega); omega
      | miss p1 _ => rw [hC _ q1] at p1; cases p1
  | @miss n d e' q1 q2 ih =>
    intro m e h hm
    cases m with
    | zero => have := q2.cnt; rw [h.at0]; omega
    | succ p =>
      cases h with
      | hit p1 p2 => have := ih p2 (by omega); omega
      | miss p1 p2 => have := ih p2 (by omega); omega
theorem Due.from {C : Int → Bool} {n : Nat} {d e : Int} (h : Due C n d e) : ∀ (x : Int), d ≤ x → x ≤ e → ∃ m : Nat, m ≤ n ∧ Due C m x e := by
  induction h with
  | zero d =>
    intro x h1 h2
    obtain rfl : x = d := by omega
    exact ⟨0, Nat.le_refl _, .zero _⟩
  | @hit n d e q1 q2 ih =>
    intro x h1 h2
    by_cases hx : x = d
    · subst hx; exact ⟨n + 1, Nat.le_refl _, .hit q1 q2⟩
    · obtain ⟨m, m1, m2⟩ := ih x (by omega) h2
      exact ⟨m, by omega, m2⟩
  | @miss n d e q1 q2 ih =>
    intro x h1 h2
    by_cases hx : x = d
    · subst hx; exact ⟨n + 1, Nat.le_refl _, .miss q1 q2⟩
    · obtain ⟨m, m1, m2⟩ := ih x (by omega) h2
      exact ⟨m, by omega, m2⟩

/-! ### Stops -/
def noReq : Request := ⟨0, 0, 0, 0, []⟩
def stopR (r : Request) (a b : Int) : Request := ⟨r.Id, r.Came, r.Working, r.Extended, r.Stops ++ [(a, b)]⟩
noncomputable def StopD (r : Request) (a b : Int) : Request × Bool := bif V r && V (stopR r a b) then (stopR r a b, true) else (noReq, false)
theorem stopI (r : Request) (a b : Int) (hl : r.Stops.length ≤ 1000) : M.impl_StopClock r a b = some (StopD r a b) := by
  unfold M.impl_StopClock StopD
  rw [goodI, Option.bind_some]
  cases h1 : V r
  · rfl
  rw [Bool.not_true, cond_false, Bool.true_and]
  unfold M.slices_Clone_2_int_2_int
  rw [asrt_pos (by omega), Option.bind_some, asrt_pos (by simp; omega)]
  show ((M.impl_IsRequest (stopR r a b)).bind fun y2 => bif (!y2) then some (noReq, false) else some (stopR r a b, true)) = _
  rw [goodI, Option.bind_some]
  cases V (stopR r a b) <;> rfl
theorem stopS (r : Request) (a b : Int) (hl : r.Stops.length ≤ 1000) : M.spec_StopClock r a b = some (StopD r a b) := by
  unfold M.spec_StopClock M.spec_l13Own StopD
  rw [asrt_pos (by simp; omega), Option.bind_some]
  dsimp only
  rw [List.nil_append, asrt_pos (by simp; omega), goodS, Option.bind_some]
  show ((bif !(V r) then some default else M.spec_l13Good (stopR r a b)).bind fun y2 => bif ((!(V r)) || (!y2)) then some (noReq, false) else some (stopR r a b, true)) = _
  cases h1 : V r
  · rfl
  rw [Bool.not_true, cond_false, goodS, Option.bind_some, Bool.true_and]
  cases V (stopR r a b) <;> rfl
theorem StopD_len {r : Request} {a b : Int} (hl : r.Stops.length ≤ 1000) : (StopD r a b).1.Stops.length ≤ 1001 := by
  unfold StopD
  cases V r && V (stopR r a b)
  · simp [noReq]
  · simp [stopR]; omega
theorem stop_fewer {r : Request} {a b : Int} : ∀ d, Cn (stopR r a b) d = true → Cn r d = true := by
  intro d h
  unfold Cn inSt stopR at h
  unfold Cn inSt
  simp only [List.any_append, Bool.and_eq_true, Bool.not_eq_true', Bool.or_eq_false_iff] at h ⊢
  exact ⟨h.1, h.2.1⟩
theorem rd_yes {r : Request} (h : (rd r).2 = true) : V r = true ∧ dueOf r ≤ 20000 ∧ (rd r).1 = dueOf r := by
  unfold rd at h ⊢
  cases h1 : V r
  · rw [h1] at h; cases h
  cases h2 : decide (dueOf r ≤ 20000)
  · rw [h1, h2] at h; cases h
  · exact ⟨rfl, by simpa using h2, rfl⟩
theorem rd_of {r : Request} (h1 : V r = true) (h2 : dueOf r ≤ 20000) : rd r = (dueOf r, true) := by
  unfold rd
  rw [h1, decide_eq_true h2]; rfl
theorem stop_later {r : Request} {a b : Int} (h1 : V r = true) (h : (rd (stopR r a b)).2 = true) : rd r = (dueOf r, true) ∧ dueOf r ≤ (rd (stopR r a b)).1 := by
  obtain ⟨h2, h3, h4⟩ := rd_yes h
  have q := Due.rises stop_fewer (dueOf_spec h2).1 (dueOf_spec h1).1 (Nat.le_refl _)
  have e : nOf (stopR r a b) = nOf r := rfl
  rw [e] at q
  exact ⟨rd_of h1 (by omega), by omega⟩

/-! ### Extensions -/
def extR (r : Request) (n : Int) : Request := ⟨r.Id, r.Came, r.Working, r.Extended + n, r.Stops⟩
noncomputable def ExtD (r : Request) (n : Int) : Request × Bool := bif V r && inR n 1 (40 - r.Extended) then (extR r n, true) else (noReq, false)
theorem ext_V {r : Request} {n : Int} (h : V r = true) (hn : 1 ≤ n ∧ n ≤ 40) : V (extR r n) = inR n 1 (40 - r.Extended) := by
  have he := (V_spec h).2.2.2.1
  unfold V at h
  simp only [Bool.and_eq_true] at h
  unfold V extR
  dsimp only
  rw [h.1.1.1.1.1, h.1.1.1.1.2, h.1.1.1.2, h.1.2, h.2]
  simp only [Bool.true_and, Bool.and_true]
  rw [Bool.eq_iff_iff, inR_true, inR_true]
  omega
theorem extI (r : Request) (n : Int) (hl : r.Stops.length ≤ 1000) : M.impl_ExtendRequest r n = some (ExtD r n) := by
  unfold M.impl_ExtendRequest ExtD
  rw [goodI, Option.bind_some]
  cases h1 : V r
  · rfl
  have he := (V_spec h1).2.2.2.1
  rw [Bool.not_true, cond_false, wrap64_id (n := 40 - r.Extended) (by omega) (by omega), withinI, Option.bind_some, Bool.true_and]
  cases h2 : inR n 1 (40 - r.Extended)
  · rfl
  have h2 := inR_true.1 h2
  unfold M.slices_Clone_2_int_2_int
  rw [Bool.not_true, Bool.or_self, cond_false, asrt_pos (by omega), Option.bind_some, wrap64_id (n := r.Extended + n) (by omega) (by omega)]
  rfl
theorem extS (r : Request) (n : Int) (hl : r.Stops.length ≤ 1000) : M.spec_ExtendRequest r n = some (ExtD r n) := by
  unfold M.spec_ExtendRequest M.spec_l13Own ExtD
  rw [asrt_pos (by simp; omega), Option.bind_some]
  dsimp only
  rw [List.nil_append, goodS, Option.bind_some]
  cases h1 : V r
  · rfl
  have he := (V_spec h1).2.2.2.1
  rw [Bool.not_true, cond_false, l1InS, Option.bind_some, Bool.true_and]
  cases h2 : inR n 1 40
  · have : inR n 1 (40 - r.Extended) = false := by
      rw [inR_false]
      have := inR_false.1 h2
      omega
    rw [this]; rfl
  have h2 := inR_true.1 h2
  rw [Bool.not_true, Bool.or_self, cond_false, wrap64_id (n := r.Extended + n) (by omega) (by omega)]
  show ((M.spec_l13Good (extR r n)).bind fun y3 => bif (!y3) then some (noReq, false) else some (extR r n, true)) = _
  rw [goodS, Option.bind_some, ext_V h1 h2]
  cases inR n 1 (40 - r.Extended) <;> rfl
theorem ExtD_len {r : Request} {n : Int} (hl : r.Stops.length ≤ 1000) : (ExtD r n).1.Stops.length ≤ 1001 := by
  unfold ExtD
  cases V r && inR n 1 (40 - r.Extended)
  · simp [noReq]
  · show r.Stops.length ≤ 1001; omega
theorem ext_later {r : Request} {n : Int} (h1 : V r = true) (hn : 1 ≤ n ∧ n ≤ 40 - r.Extended) (h : (rd (extR r n)).2 = true) : rd r = (dueOf r, true) ∧ dueOf r + n ≤ (rd (extR r n)).1 := by
  obtain ⟨h2, h3, h4⟩ := rd_yes h
  have hv := V_spec h1
  have e : (nOf (extR r n) : Int) = nOf r + n := by unfold nOf extR; dsimp only; omega
  have q := Due.rises (C := Cn r) (C' := Cn (extR r n)) (fun d h => h) (dueOf_spec h2).1 (dueOf_spec h1).1 (by omega)
  exact ⟨rd_of h1 (by omega), by omega⟩

/-! ### Days left -/
theorem leftLoop (r : Request) (hl : r.Stops.length < 1000000) {n : Nat} {d e : Int} (h : Due (Cn r) n d e) (h0 : 0 ≤ d) (he : e ≤ 20000) (hn : n ≤ 1000) : iterO (M.impl_DaysLeftFor_l0 r (e, true)) ((0 : Int), d + 1) = some (n : Int) := by
  apply T.eq
  refine T_iter (fun s => ∃ m q : Nat, s.1 = (q : Int) ∧ q + m = n ∧ Due (Cn r) m (s.2 - 1) e ∧ 1 ≤ s.2) (fun s => (e + 1 - s.2).toNat) _ ⟨n, 0, rfl, by omega, by simp only; rw [show d + 1 - 1 = d by omega]; exact h, by simp only; omega⟩ (by simp only; omega) ?_
  rintro ⟨_, day⟩ ⟨m, q, rfl, h1, h2, h3⟩
  simp only at h2 h3
  have hle := h2.le
  unfold M.impl_DaysLeftFor_l0
  simp only [T_bif, T_bind, T_some, countsI r _ hl, decide_eq_true_eq, decide_eq_false_iff_not]
  refine ⟨fun hd => ?_, fun hd => ?_⟩
  · have e1 : day - 1 + 1 = day := by omega
    have e2 : day + 1 - 1 = day := by omega
    rw [wrap64_id (n := day + 1) (by omega) (by omega)]
    cases h2 with
    | zero => omega
    | @hit p _ _ q1 q2 =>
      rw [e1] at q1 q2
      refine ⟨fun _ => ?_, fun h5 => by rw [q1] at h5; cases h5⟩
      rw [wrap64_id (by omega) (by omega)]
      exact ⟨⟨p, q + 1, by omega, by omega, by rw [e2]; exact q2, by omega⟩, by omega⟩
    | @miss p _ _ q1 q2 =>
      rw [e1] at q1 q2
      refine ⟨fun h5 => (by rw [q1] at h5; cases h5), fun _ => ?_⟩
      exact ⟨⟨p + 1, q, rfl, by omega, by rw [e2]; exact q2, by omega⟩, by omega⟩
  · cases m with
    | zero => omega
    | succ p => have := hle.2 (by omega); omega
theorem leftDone (r : Request) {d e : Int} (h : e < d) : iterO (M.impl_DaysLeftFor_l0 r (e, true)) ((0 : Int), d) = some (0 : Int) := by
  refine iter_up (s := ((0 : Int), d)) (fun _ => ((0 : Int), d)) 0 rfl (by omega) (fun k hk => absurd hk (Nat.not_lt_zero _)) ?_
  unfold M.impl_DaysLeftFor_l0
  dsimp only
  rw [decide_eq_false (by omega)]
  rfl
/-- What is left on a day: told, and as the law wants it. -/
def LeftOk (r : Request) (day : Int) (x : Int × Bool) : Prop :=
  x = (0, false) ∨ (rd r = (dueOf r, true) ∧ V r = true ∧ r.Came ≤ day ∧ inR day 0 20000 = true ∧ x.2 = true ∧ (day ≤ dueOf r → ∃ m : Nat, x.1 = m ∧ m ≤ nOf r ∧ Due (Cn r) m day (dueOf r)) ∧ (dueOf r < day → x.1 = 0))
theorem leftI (r : Request) (day : Int) : T (M.impl_DaysLeftFor r day) (fun x => M.spec_DaysLeftFor r day = some x ∧ LeftOk r day x ∧ (rd r = (dueOf r, true) → V r = true → r.Came ≤ day → inR day 0 20000 = true → x.2 = true)) := by
  unfold M.impl_DaysLeftFor M.spec_DaysLeftFor
  rw [rdI, goodS]
  cases h1 : V r
  · have : rd r = (0, false) := by unfold rd; rw [h1]; rfl
    rw [this]
    exact T_ret ⟨rfl, .inl rfl, fun h => by have := congrArg Prod.snd h; cases this⟩
  by_cases h2 : dueOf r ≤ 20000
  · have hr := rd_of h1 h2
    have hv := V_spec h1
    have hn : nOf r ≤ 100 := by unfold nOf; omega
    rw [hr, Option.bind_some, Option.bind_some, Bool.not_true, cond_false, cond_false, areDaysI, Option.bind_some, l2DayS, Option.bind_some, inR_true.2 hv.2.1]
    cases h3 : inR day 0 20000
    · exact T_ret ⟨rfl, .inl rfl, fun _ _ _ h => by cases h⟩
    have h3' := inR_true.1 h3
    by_cases h4 : r.Came ≤ day
    · rw [decide_eq_true h4, decide_eq_false (show ¬ day < r.Came by omega)]
      simp only [Bool.not_true, Bool.and_self, Bool.or_self, cond_false, l13DueS h1, Option.bind_some, decide_eq_false (show ¬ dueOf r > 20000 by omega)]
      rw [wrap64_id (n := day + 1) (by omega) (by omega)]
      have eL : M.spec_DaysLeftFor_l0 r = M.impl_DaysLeftFor_l0 r (dueOf r, true) := by
        funext ⟨n, k⟩
        unfold M.spec_DaysLeftFor_l0 M.impl_DaysLeftFor_l0
        simp only [l13DueS h1, Option.bind_some, countsI r _ (show r.Stops.length < 1000000 by omega), countsS r _ (show r.Stops.length < 1000000 by omega)]
      rw [eL]
      by_cases h5 : day ≤ dueOf r
      · obtain ⟨m, m1, m2⟩ := (dueOf_spec h1).1.from day h4 h5
        rw [leftLoop r (by omega) m2 (by omega) h2 (by omega), Option.bind_some]
        exact T_ret ⟨rfl, .inr ⟨hr, h1, h4, h3, rfl, fun _ => ⟨m, rfl, m1, m2⟩, fun h => absurd h5 (by omega)⟩, fun _ _ _ _ => rfl⟩
      · rw [leftDone r (by omega), Option.bind_some]
        exact T_ret ⟨rfl, .inr ⟨hr, h1, h4, h3, rfl, fun h => absurd h h5, fun _ => rfl⟩, fun _ _ _ _ => rfl⟩
    · rw [decide_eq_false h4, decide_eq_true (show day < r.Came by omega)]
      exact T_ret ⟨rfl, .inl rfl, fun _ _ h => absurd h h4⟩
  · have hr : rd r = (0, false) := by unfold rd; rw [h1, decide_eq_false h2]; rfl
    rw [hr]
    refine T_ret ⟨?_, .inl rfl, fun h => by have := congrArg Prod.snd h; cases this⟩
    rw [Option.bind_some, Bool.not_true, cond_false, l2DayS, Option.bind_some]
    cases inR day 0 20000
    · rfl
    cases decide (day < r.Came)
    · rw [Bool.not_true, Bool.or_self, Bool.or_self, cond_false, l13DueS h1, Option.bind_some, decide_eq_true (by omega)]; rfl
    · rfl

/-! ### Draws -/
theorem reqLen {code : List Int} {k : Nat} {c : Cur} {i : Int} (hb : Bytes code) (h : Good code k c) (hk : k < 700000000) : T (M.spec_l1Cur_request c i) (fun r => r.1.Stops.length ≤ 20 ∧ Good code (k + 100) r.2) := by
  unfold M.spec_l1Cur_request
  refine T_among hb h (by omega) (by simp) ?_
  intro x0 c0 _ h0
  refine T_among hb h0 (by omega) (by simp) ?_
  intro x1 c1 _ h1
  refine T_among hb h1 (by omega) (by simp) ?_
  intro x2 c2 _ h2
  refine T_pick hb h2 (by omega) ?_
  intro x3 c3 _ g3 h3
  have g3' := g3 (by omega)
  dsimp only
  refine T.then (Q := fun s => s.2.1.length ≤ 10 ∧ Good code (k + 40) s.2.2) (T_iter (fun s => ∃ m : Nat, s.2.1 = (m : Int) ∧ m ≤ 2 ∧ s.2.2.1.length + m ≤ 2 ∧ Good code (k + 30 - 4 * m) s.2.2.2) (fun s => s.2.1.toNat) _ ⟨x3.toNat, by simp only; omega, by omega, by simp only [List.length_nil]; omega, h3.up (by omega)⟩ (by simp only; omega) ?_) ?_
  · rintro ⟨a, _, st, c4⟩ ⟨m, rfl, q1, q2, q3⟩
    simp only at q2 q3
    unfold M.spec_l1Cur_request_l0
    dsimp only
    refine T_if (fun hm => ?_) (fun hm => T_ret ⟨by simp only; omega, q3.up (by omega)⟩)
    simp only [decide_eq_true_eq] at hm
    refine T_among hb q3 (by omega) (by simp) ?_
    intro x5 c5 _ h5
    refine T_among hb h5 (by omega) (by simp) ?_
    intro x6 c6 _ h6
    refine T_ask (by simp; omega) (T_ret ⟨⟨m - 1, ?_, by omega, by simp; omega, h6.up (by omega)⟩, ?_⟩)
    · simp only; rw [wrap64_id (by omega) (by omega)]; omega
    · simp only; rw [wrap64_id (by omega) (by omega)]; omega
  · rintro ⟨a, st, c4⟩ ⟨q1, q2⟩
    simp only at q1 q2
    dsimp only
    refine T_pick hb q2 (by omega) ?_
    intro x7 c7 _ _ h7
    dsimp only
    refine T.then (Q := fun s => s.2.2.2.1.length ≤ 20 ∧ Good code (k + 100) s.2.2.2.2) ?_ (fun s hs => by obtain ⟨a, b, c, d, e⟩ := s; exact T_ret hs)
    refine T_if (fun _ => ?_) (fun _ => T_if (fun _ => ?_) (fun _ => T_if (fun _ => ?_) (fun _ => T_if (fun _ => ?_) (fun _ => T_ret ⟨by simp only; omega, h7.up (by omega)⟩))))
    · refine T_among hb h7 (by omega) (by simp) ?_
      intro x8 c8 _ h8
      exact T_ret ⟨by simp only; omega, h8.up (by omega)⟩
    · refine T_among hb h7 (by omega) (by simp) ?_
      intro x8 c8 _ h8
      exact T_ret ⟨by simp only; omega, h8.up (by omega)⟩
    · refine T_among hb h7 (by omega) (by simp) ?_
      intro x8 c8 _ h8
      refine T_among hb h8 (by omega) (by simp) ?_
      intro x9 c9 _ h9
      refine T_ask (by simp; omega) ?_
      rw [Option.bind_some]
      exact T_ret ⟨by simp; omega, h9.up (by omega)⟩
    · refine T_among hb h7 (by omega) (by simp) ?_
      intro x8 c8 _ h8
      exact T_ret ⟨by simp only; omega, h8.up (by omega)⟩
theorem good0d {code : List Int} : Good code 0 (⟨code, 0, 0⟩ : Cur) := ⟨rfl, Int.le_refl _, Int.le_refl _⟩
theorem drawStop {code : List Int} (hb : Bytes code) : T (M.spec_DrawStopClock code) (fun r => r.1.Stops.length ≤ 20) := by
  unfold M.spec_DrawStopClock
  refine (reqLen hb good0d (by omega)).then ?_
  rintro ⟨r, c⟩ ⟨g1, g2⟩
  simp only at g1 g2
  refine T_among hb g2 (by omega) (by simp) ?_
  intro x1 c1 _ h1
  refine T_among hb h1 (by omega) (by simp) ?_
  intro x2 c2 _ _
  exact T_ret g1
theorem drawExt {code : List Int} (hb : Bytes code) : T (M.spec_DrawExtendRequest code) (fun r => r.1.Stops.length ≤ 20) := by
  unfold M.spec_DrawExtendRequest
  refine (reqLen hb good0d (by omega)).then ?_
  rintro ⟨r, c⟩ ⟨g1, g2⟩
  simp only at g1 g2
  refine T_among hb g2 (by omega) (by simp) ?_
  intro x1 c1 _ h1
  exact T_ret g1
theorem drawLeft {code : List Int} (hb : Bytes code) : T (M.spec_DrawDaysLeftFor code) (fun r => r.1.Stops.length ≤ 20) := by
  unfold M.spec_DrawDaysLeftFor
  refine (reqLen hb good0d (by omega)).then ?_
  rintro ⟨r, c⟩ ⟨g1, g2⟩
  simp only at g1 g2
  refine T_among hb g2 (by omega) (by simp) ?_
  intro x1 c1 _ h1
  exact T_ret g1
theorem drawDue {code : List Int} (hb : Bytes code) : T (M.spec_DrawRequestDue code) (fun r => r.Stops.length ≤ 20) := by
  unfold M.spec_DrawRequestDue M.spec_DrawIsRequest
  refine T_in ?_
  refine T_among hb good0d (by omega) (by simp) ?_
  intro x1 c1 _ h1
  refine (reqLen hb h1 (by omega)).then ?_
  rintro ⟨r, c⟩ ⟨g1, g2⟩
  exact T_ret (T_ret g1)

/-! ### The law -/
theorem vPairsD (a : List (Int × Int)) (hl : a.length < 1000000) : M.laws_vPairs a a = some true := by
  unfold M.laws_vPairs
  rw [bne_self_eq_false, cond_false]
  rw [iter_up (s := 0) (step := M.laws_vPairs_l0 a a) (e := .inl ()) (fun k => (k : Int)) a.length rfl (by omega) (fun k hk => by
    unfold M.laws_vPairs_l0
    simp (disch := first | omega | (intros; simp only [decide_eq_true_eq, decide_eq_false_iff_not, Bool.not_eq_true, Bool.not_eq_false, Bool.not_true, Bool.not_false] at *; omega)) only [cast_succ, asrt_pos, wrap64_id, Option.bind_some, cond_true, cond_false, decide_eq_true, decide_eq_false, Int.toNat_natCast, Bool.not_true, Bool.not_false, Bool.and_true, Bool.true_and, Bool.and_false, Bool.false_and, Bool.or_true, Bool.true_or, Bool.or_false, Bool.false_or, beq_self_eq_true]) (by
    unfold M.laws_vPairs_l0
    simp (disch := first | omega | (intros; simp only [decide_eq_true_eq, decide_eq_false_iff_not, Bool.not_eq_true, Bool.not_eq_false, Bool.not_true, Bool.not_false] at *; omega)) only [cast_succ, asrt_pos, wrap64_id, Option.bind_some, cond_true, cond_false, decide_eq_true, decide_eq_false, Int.toNat_natCast, Bool.not_true, Bool.not_false, Bool.and_true, Bool.true_and, Bool.and_false, Bool.false_and, Bool.or_true, Bool.true_or, Bool.or_false, Bool.false_or])]
  rfl
theorem vReqD (a : Request) (hl : a.Stops.length < 1000000) : M.laws_vRequest a a = some true := by
  unfold M.laws_vRequest
  rw [beq_self_eq_true, beq_self_eq_true, beq_self_eq_true, beq_self_eq_true, Bool.and_self, Bool.and_self, Bool.and_self, cond_true, vPairsD _ hl]
  rfl
theorem isReqS (r : Request) : M.spec_IsRequest r = some (V r) := by
  unfold M.spec_IsRequest
  rw [goodS]; rfl
theorem worksI (d : Int) : M.impl_IsWorkingDay d = some (bif inR d 0 20000 then (Wd d, true) else (false, false)) := by
  unfold M.impl_IsWorkingDay
  rw [isDayI]
  cases inR d 0 20000 <;> rfl

theorem law_FnDeadlines (code : List Int) (h1 : code.length ≤ 9223372036854775807) (h2 : ∀ x, x ∈ code → 0 ≤ x ∧ x ≤ 255) : M.laws_FnDeadlines code = some true := by
  apply T.eq
  unfold M.laws_FnDeadlines M.laws_vBig
  rw [Option.bind_some]
  refine T_if (fun _ => T_ret rfl) (fun hq => ?_)
  simp only [decide_eq_false_iff_not] at hq
  have hb : Bytes code := ⟨by omega, h2⟩
  refine (drawStop hb).then ?_
  rintro ⟨r, a, b⟩ hl
  simp only at hl
  dsimp only
  have hS := StopD_len (r := r) (a := a) (b := b) (by omega)
  rw [stopI r a b (by omega), Option.bind_some, stopS r a b (by omega), Option.bind_some, beq_self_eq_true, Bool.not_true, cond_false, vReqD _ (by omega), Option.bind_some, Bool.not_true, Bool.or_self, cond_false, goodI, Option.bind_some, cond_false, isReqS, Option.bind_some, beq_self_eq_true, Bool.not_true, Bool.or_self, cond_false]
  refine T.then (Q := fun e => e = .inl ()) ?_ ?_
  · refine T_if (fun ht => ?_) (fun _ => T_ret rfl)
    cases h3 : V r && V (stopR r a b)
    · unfold StopD at ht; rw [h3] at ht; cases ht
    have e : StopD r a b = (stopR r a b, true) := by unfold StopD; rw [h3]; rfl
    rw [Bool.and_eq_true] at h3
    rw [e, rdI, Option.bind_some, rdI, Option.bind_some]
    cases h4 : (rd (stopR r a b)).2
    · exact T_ret rfl
    · obtain ⟨q1, q2⟩ := stop_later h3.1 h4
      rw [q1]
      dsimp only
      rw [decide_eq_false (by omega)]
      exact T_ret rfl
  rintro _ rfl
  dsimp only
  refine (drawExt hb).then ?_
  rintro ⟨x, n⟩ hx
  simp only at hx
  dsimp only
  have hE := ExtD_len (r := x) (n := n) (by omega)
  rw [extI x n (by omega), Option.bind_some, extS x n (by omega), Option.bind_some, beq_self_eq_true, Bool.not_true, cond_false, vReqD _ (by omega), Option.bind_some, Bool.not_true, Bool.or_self, cond_false]
  refine T.then (Q := fun e => e = .inl ()) ?_ ?_
  · refine T_if (fun ht => ?_) (fun _ => T_ret rfl)
    cases h3 : V x && inR n 1 (40 - x.Extended)
    · unfold ExtD at ht; rw [h3] at ht; cases ht
    have e : ExtD x n = (extR x n, true) := by unfold ExtD; rw [h3]; rfl
    rw [Bool.and_eq_true] at h3
    have hn := inR_true.1 h3.2
    have hv := V_spec h3.1
    rw [e, rdI, Option.bind_some, rdI, Option.bind_some]
    cases h4 : (rd (extR x n)).2
    · exact T_ret rfl
    · obtain ⟨q1, q2⟩ := ext_later h3.1 hn h4
      have hd := (dueOf_spec h3.1).2
      have hd0 := dueOf_ge h3.1
      rw [q1]
      dsimp only
      rw [wrap64_id (n := dueOf x + n) (by omega) (by omega), decide_eq_false (by omega)]
      exact T_ret rfl
  rintro _ rfl
  dsimp only
  refine (drawLeft hb).then ?_
  rintro ⟨y, day⟩ hy
  simp only at hy
  dsimp only
  refine (leftI y day).then ?_
  rintro w ⟨w1, w2, _⟩
  rw [w1, Option.bind_some, bne_self_eq_false, beq_self_eq_true, Bool.not_true, Bool.or_self, cond_false]
  refine T.then (Q := fun e => e = .inl ()) ?_ ?_
  · refine T_if (fun ht => ?_) (fun _ => T_ret rfl)
    rcases w2 with w2 | ⟨q1, q2, q3, q4, q5, q6, q7⟩
    · rw [w2] at ht; cases ht
    have hv := V_spec q2
    have hD := (dueOf_spec q2).1
    rw [rdI, Option.bind_some, q1]
    refine (leftI y y.Came).then ?_
    rintro z ⟨_, z2, z3⟩
    have z4 := z3 q1 q2 (Int.le_refl _) (inR_true.2 hv.2.1)
    rcases z2 with z2 | ⟨_, _, _, _, _, z6, _⟩
    · rw [z2] at z4; cases z4
    obtain ⟨m, m1, m2, m3⟩ := z6 hD.le.1
    have hm : m = nOf y := by
      have a1 := Due.rises (C := Cn y) (C' := Cn y) (fun d h => h) hD m3 m2
      omega
    have hN : (nOf y : Int) = y.Working + y.Extended := by unfold nOf; omega
    dsimp only
    rw [z4, m1, hm, wrap64_id (n := y.Working + y.Extended) (by omega) (by omega), hN, bne_self_eq_false]
    have hw : w.1 ≤ y.Working + y.Extended ∧ ((w.1 == 0) = decide (day ≥ dueOf y)) := by
      by_cases hd : day ≤ dueOf y
      · obtain ⟨p, p1, p2, p3⟩ := q6 hd
        refine ⟨by omega, ?_⟩
        rw [Bool.eq_iff_iff, beq_iff_eq, decide_eq_true_eq]
        constructor
        · intro h0
          obtain rfl : p = 0 := by omega
          rw [p3.at0]; exact Int.le_refl _
        · intro h0
          have := p3.le.2
          by_cases hp : p = 0
          · omega
          · have := this hp; omega
      · have p1 := q7 (by omega)
        refine ⟨by omega, ?_⟩
        rw [p1, decide_eq_true (show day ≥ dueOf y by omega)]; rfl
    rw [hw.2, beq_self_eq_true, decide_eq_false (show ¬ w.1 > y.Working + y.Extended by omega)]
    exact T_ret rfl
  rintro _ rfl
  dsimp only
  refine (drawDue hb).then ?_
  intro z hz
  rw [rdI, Option.bind_some, rdS, Option.bind_some, bne_self_eq_false, beq_self_eq_true, Bool.not_true, Bool.or_self, cond_false]
  refine T_if (fun ht => ?_) (fun _ => T_ret rfl)
  obtain ⟨q1, q2, q3⟩ := rd_yes ht
  have hv := V_spec q1
  have hD := (dueOf_spec q1).1
  have hn : nOf z ≠ 0 := by unfold nOf; omega
  have hw : Wd (dueOf z) = true := by
    have := hD.last hn
    unfold Cn at this
    rw [Bool.and_eq_true] at this
    exact this.1
  have hg := hD.le.2 hn
  rw [worksI, q3, inR_true.2 ⟨by omega, q2⟩, Option.bind_some]
  refine T_ret ?_
  rw [cond_true, hw, decide_eq_true (show dueOf z > z.Came by omega)]
  rfl
end Go.Proofs.Ytjfpdbhjoofllaa
