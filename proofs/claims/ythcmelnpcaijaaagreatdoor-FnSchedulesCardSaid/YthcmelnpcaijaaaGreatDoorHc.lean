/-
  Draws of records, schedules and holds. Plain.
-/
import Derived.Test.YthcmelnpcaijaaaGreatDoorTc
import Derived.Test.YthcmelnpcaijaaaGreatDoorHb
set_option linter.unusedSimpArgs false
set_option linter.unusedVariables false
namespace Go.Proofs.YthcmelnpcaijaaaGreatDoor
open Go.VS

theorem drawRule {code : List Int} {k : Nat} {c : Cur} (hb : Bytes code) (h : Good code k c) (hk : k < 700000000) : T (M.spec_l1Cur_rule c) (fun r => Good code (k + 20) r.2) := by
  unfold M.spec_l1Cur_rule
  repeat' (first
    | ((with_reducible (refine T_pick hb (by assumption) ?_ ?_)); omega; intro x_ c_ hx1_ hx2_ hc_; try dsimp only)
    | ((with_reducible (refine T_among hb (by assumption) ?_ ?_ ?_)); omega; simp; intro x_ c_ hx_ hc_; try dsimp only)
    | ((with_reducible (refine T_one hb (by assumption) ?_ ?_)); omega; intro x_ c_ hc_; try dsimp only)
    | ((with_reducible (refine T_next hb (by assumption) ?_ ?_)); omega; intro x_ c_ hx_ hc_; try dsimp only)
    | ((with_reducible (refine T_ask ?_ ?_)); (first | omega | (simp at *; omega) | (intros; simp at *; omega)))
    | (with_reducible (refine T_if (fun hq_ => ?_) (fun hq_ => ?_)))
    | ((with_reducible (refine T_ret ?_)); try dsimp only)
    | (with_reducible (refine T_in ?_)))
  all_goals exact Good.up (by assumption) (by omega)

theorem withoutS (l : List Rule) (s e : Int) (hl : l.length < 1000000) : M.spec_l4Without l s e = some (l.filter fun r => (r.Series != s) || (r.Event != e)) := by
  unfold M.spec_l4Without
  rw [iter_coll (s := (([] : List Rule), (0 : Int))) (step := M.spec_l4Without_l0 l s e) (fun a k => (a, (k : Int))) (fun r : Rule => bif (r.Series != s) || (r.Event != e) then [r] else []) id l rfl (by omega) (fun k _ => if_len _ _) (fun a k hk ha => by
    unfold M.spec_l4Without_l0
    simp (disch := first | omega | (intros; simp only [decide_eq_true_eq, decide_eq_false_iff_not, Bool.not_eq_true, Bool.not_eq_false, Bool.not_true, Bool.not_false] at *; omega)) only [cast_succ, asrt_pos, wrap64_id, Option.bind_some, cond_true, cond_false, decide_eq_true, decide_eq_false, Int.toNat_natCast, Bool.not_true, Bool.not_false, Bool.and_true, Bool.true_and, Bool.and_false, Bool.false_and, Bool.or_true, Bool.true_or, Bool.or_false, Bool.false_or, app_if, List.length_singleton]
    cases ((l.getD k default).Series != s) || ((l.getD k default).Event != e)
    · rfl
    · rfl) (fun a ha => by
    unfold M.spec_l4Without_l0
    simp (disch := first | omega | (intros; simp only [decide_eq_true_eq, decide_eq_false_iff_not, Bool.not_eq_true, Bool.not_eq_false, Bool.not_true, Bool.not_false] at *; omega)) only [cast_succ, asrt_pos, wrap64_id, Option.bind_some, cond_true, cond_false, decide_eq_true, decide_eq_false, Int.toNat_natCast, Bool.not_true, Bool.not_false, Bool.and_true, Bool.true_and, Bool.and_false, Bool.false_and, Bool.or_true, Bool.true_or, Bool.or_false, Bool.false_or, id])]
  simp only [id, Option.bind_some, flatMap_if, List.map_id']

theorem putPlace (u : Rule) (l : List Rule) (hl : l.length < 1000000) : T (iterO (M.spec_PutRule_l0 u l) 0) (fun k => 0 ≤ k ∧ k ≤ (l.length : Int)) := by
  refine T_iter (fun s => 0 ≤ s ∧ s ≤ (l.length : Int)) (fun s => l.length - s.toNat) _ ⟨by omega, by omega⟩ (by omega) ?_
  rintro k ⟨h1, h2⟩
  unfold M.spec_PutRule_l0
  rw [T_asrt]
  refine ⟨fun h => by simp only [decide_eq_true_eq] at h; omega, ?_⟩
  refine T_in ?_
  rw [T_bif]
  refine ⟨fun hq => ?_, fun hq => ?_⟩
  · simp only [decide_eq_true_eq] at hq
    rw [beforeS, T_some]
    refine T_if (fun hq => ?_) (fun hq => T_ret ⟨h1, h2⟩)
    refine T_ret ?_
    simp only
    rw [wrap64_id (by omega) (by omega)]
    exact ⟨by omega, by omega⟩
  · rw [T_some, hq]
    exact T_ret ⟨h1, h2⟩

theorem slc_len {β : Type} {l : List β} {a b : Int} : (slc l a b).length ≤ l.length := by
  unfold slc
  simp only [List.length_drop, List.length_take]
  omega

theorem putS (l : List Rule) (u : Rule) (hl : l.length < 1000000) : T (M.spec_PutRule l u) (fun r => r.1.length ≤ 8) := by
  unfold M.spec_PutRule
  rw [schedS l hl, Option.bind_some]
  simp only [ruleS, bif_some, Option.bind_some]
  refine T_if (fun hq => T_ret (by simp)) (fun hq => ?_)
  have hs : schedOk l = true := by
    cases h : schedOk l
    · rw [h] at hq; cases hq
    · rfl
  have h8 := (schedOk_spec hs).1
  rw [withoutS l _ _ hl, Option.bind_some]
  have h9 : (l.filter fun r => (r.Series != u.Series) || (r.Event != u.Event)).length ≤ l.length := List.length_filter_le _ _
  generalize hf : (l.filter fun r => (r.Series != u.Series) || (r.Event != u.Event)) = m at h9
  refine (putPlace u m (by omega)).then ?_
  rintro k ⟨h1, h2⟩
  have g1 : (slc m 0 k).length ≤ m.length := slc_len
  have g2 : (slc m k (m.length : Int)).length ≤ m.length := slc_len
  refine T_ask (by omega) (T_ask (by (first | omega | (simp only; omega) | (dsimp only; omega) | (simp; omega))) (T_ask (by (first | omega | (simp only; omega) | (dsimp only; omega) | (simp; omega))) (T_ask (by omega) (T_ask (by (first | omega | (simp only; omega) | (dsimp only; omega) | (simp; omega))) ?_))))
  generalize hw : ([] ++ slc m 0 k ++ [u] ++ slc m k (m.length : Int)) = w
  have hwl : w.length < 1000000 := by rw [← hw]; simp; omega
  rw [schedS w hwl, Option.bind_some]
  refine T_ret ?_
  cases h : schedOk w
  · simp
  · exact (schedOk_spec h).1

theorem drawSchedule {code : List Int} {k : Nat} {c : Cur} (hb : Bytes code) (h : Good code k c) (hk : k < 600000000) : T (M.spec_l1Cur_schedule c) (fun r => r.1.length ≤ 20 ∧ Good code (k + 1000) r.2) := by
  unfold M.spec_l1Cur_schedule
  refine T_pick hb h (by omega) ?_
  intro n c1 hn1 hn2 hc1
  have hn := hn2 (by omega)
  refine T.then (Q := fun r => r.1.length ≤ 8 ∧ Good code (k + 502) r.2) (T_iter (fun s => 0 ≤ s.2.1 ∧ s.2.1 ≤ 6 ∧ s.1.length ≤ 8 ∧ Good code (k + 502 - 20 * s.2.1.toNat) s.2.2) (fun s => s.2.1.toNat) _ ⟨hn.1, by (first | omega | (simp only; omega) | (dsimp only; omega) | (simp; omega)), by simp, hc1.up (by (first | omega | (simp only; omega) | (dsimp only; omega) | (simp; omega)))⟩ (by (first | omega | (simp only; omega) | (dsimp only; omega) | (simp; omega))) ?_) ?_
  · rintro ⟨l, n, c2⟩ ⟨h1, h2, h3, h4⟩
    simp only at h1 h2 h3 h4
    unfold M.spec_l1Cur_schedule_l0
    dsimp only
    refine T_if (fun hq => ?_) (fun hq => T_ret ⟨h3, h4.up (by omega)⟩)
    simp only [decide_eq_true_eq] at hq
    refine T_in ?_
    refine (drawRule hb h4 (by omega)).then ?_
    rintro ⟨u, c3⟩ h5
    refine (putS l u (by omega)).then ?_
    rintro ⟨m, ok⟩ h6
    simp only at h5 h6
    refine T_if (fun _ => T_ret ?_) (fun _ => T_ret ?_)
    · refine T_ret ?_
      simp only
      rw [wrap64_id (by omega) (by omega)]
      exact ⟨⟨by omega, by omega, h6, h5.up (by omega)⟩, by omega⟩
    · refine T_ret ?_
      simp only
      rw [wrap64_id (by omega) (by omega)]
      exact ⟨⟨by omega, by omega, h3, h5.up (by omega)⟩, by omega⟩
  · rintro ⟨l, c2⟩ ⟨h1, h2⟩
    simp only at h1 h2
    refine T_pick hb h2 (by omega) ?_
    intro x c3 _ _ h3
    refine T_in ?_
    dsimp only
    refine T_if (fun hq => ?_) (fun hq => T_if (fun hq => ?_) (fun hq => ?_))
    · refine (drawRule hb h3 (by omega)).then ?_
      rintro ⟨u, c4⟩ h4
      refine T_ask (by (first | omega | (simp only; omega) | (dsimp only; omega) | (simp; omega))) (T_ret (T_ret ⟨by (first | omega | (simp only; omega) | (dsimp only; omega) | (simp; omega)), h4.up (by omega)⟩))
    · refine T.then (Q := fun r => r.1.length ≤ 10 ∧ Good code (k + 600) r.2) (T_iter (fun s => s.1.length ≤ 10 ∧ Good code (k + 504 + 2 * s.1.length) s.2) (fun s => 10 - s.1.length) _ ⟨by simp, h3.up (by omega)⟩ (by (first | omega | (simp only; omega) | (dsimp only; omega) | (simp; omega))) ?_) ?_
      · rintro ⟨m, c4⟩ ⟨g1, g2⟩
        simp only at g1 g2
        unfold M.spec_l1Cur_schedule_l1
        dsimp only
        refine T_pick hb g2 (by omega) ?_
        intro y c5 y1 y2 y3
        have := y2 (by omega)
        dsimp only
        rw [wrap64_id (by omega) (by omega)]
        refine T_if (fun hq => ?_) (fun hq => T_ret ⟨g1, y3.up (by (first | omega | (simp only; omega) | (dsimp only; omega) | (simp; omega)))⟩)
        simp only [decide_eq_true_eq] at hq
        refine T_ask (by (first | omega | (simp only; omega) | (dsimp only; omega) | (simp; omega))) (T_ret ?_)
        simp only [List.length_append, List.length_cons, List.length_nil]
        exact ⟨⟨by omega, y3.up (by omega)⟩, by omega⟩
      · rintro ⟨m, c4⟩ ⟨g1, g2⟩
        exact T_ret (T_ret ⟨by simp only at g1 ⊢; omega, g2.up (by omega)⟩)
    · exact T_ret (T_ret ⟨by (first | omega | (simp only; omega) | (dsimp only; omega) | (simp; omega)), h3.up (by omega)⟩)

end Go.Proofs.YthcmelnpcaijaaaGreatDoor
