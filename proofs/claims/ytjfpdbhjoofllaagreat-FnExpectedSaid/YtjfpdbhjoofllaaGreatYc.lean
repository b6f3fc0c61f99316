/-
  Draws of triggers; the plain law of cycles. Plain.
-/
import Derived.Test.YtjfpdbhjoofllaaGreatYb
set_option linter.unusedSimpArgs false
set_option linter.unusedVariables false
namespace Go.Proofs.YtjfpdbhjoofllaaGreat
open Go.VS

theorem good0y {code : List Int} : Good code 0 (⟨code, 0, 0⟩ : Cur) := ⟨rfl, Int.le_refl _, Int.le_refl _⟩

theorem trigIn {code : List Int} (hb : Bytes code) (K : Nat) (hK : K < 10000) (event : Int) (l0 : List Trigger) (hl : l0.length ≤ 10) (c : Cur) (hc : Good code K c) : T (iterO (M.spec_l1Cur_triggers_l1 event) (l0, (0 : Int), c)) (fun r => r.1.length ≤ 10 ∧ Good code (K + 56) r.2) := by
  refine T_iter (fun s => ∃ m : Nat, s.2.1 = (m : Int) ∧ m ≤ 7 ∧ s.1.length ≤ 10 ∧ Good code (K + m * 8) s.2.2) (fun s => 7 - s.2.1.toNat) _ ⟨0, rfl, by omega, hl, hc.up (by omega)⟩ (by simp only; omega) ?_
  rintro ⟨l, _, c0⟩ ⟨m, rfl, g1, g2, g3⟩
  simp only at g2 g3
  unfold M.spec_l1Cur_triggers_l1
  dsimp only
  refine T_if (fun hq => ?_) (fun hq => T_ret ⟨g2, g3.up (by omega)⟩)
  simp only [decide_eq_true_eq] at hq
  refine T.then (Q := fun e => e.1.length ≤ 10 ∧ Good code (K + (m + 1) * 8) e.2) ?_ ?_
  · cases he : ((m : Int) == event)
    · rw [cond_false]
      refine T.then (Q := fun e => (decide ((m : Int) > event) = true → Good code (K + m * 8 + 2) e.2)) ?_ ?_
      · cases hd : decide ((m : Int) > event)
        · rw [cond_false]; exact T_ret (fun h => by cases h)
        · rw [cond_true]
          exact (one_ok hb g3 (by omega)).mono fun r hr _ => hr
      · rintro ⟨b2, c2⟩ h2
        simp only at h2
        dsimp only
        have h3 : Good code (K + m * 8 + 2) (bif decide ((m : Int) > event) then c2 else c0) := by
          cases hd : decide ((m : Int) > event)
          · exact g3.up (by omega)
          · exact h2 hd
        rw [Bool.false_or, cond_false]
        generalize (bif decide ((m : Int) > event) then c2 else c0) = c3 at h3 ⊢
        cases hx : (decide ((m : Int) > event) && !b2)
        · rw [cond_false]
          refine T_one hb h3 (by omega) ?_
          intro b4 c4 h4
          dsimp only
          rw [Bool.false_or, cond_false]
          refine T_if (fun _ => T_ret ⟨g2, h4.up (by omega)⟩) (fun hn => ?_)
          refine T_among hb h4 (by omega) (by simp) ?_
          intro x5 c5 _ h5
          simp only [Bool.or_eq_false_iff, beq_eq_false_iff_ne] at hn
          exact T_ask (by simp; omega) (T_ret ⟨by simp; omega, h5.up (by omega)⟩)
        · rw [cond_true, Option.bind_some, Bool.true_or, Bool.true_or, cond_true, cond_true]
          exact T_ret ⟨g2, h3.up (by omega)⟩
    · rw [cond_true, Option.bind_some, Bool.true_or, cond_true, Option.bind_some, Bool.true_or, Bool.true_or, cond_true, cond_true, cond_true]
      exact T_ret ⟨g2, g3.up (by omega)⟩
  · rintro ⟨l2, c9⟩ ⟨a1, a2⟩
    simp only at a1 a2
    refine T_ret ?_
    simp only
    rw [wrap64_id (by omega) (by omega)]
    exact ⟨⟨m + 1, by omega, by omega, a1, a2⟩, by omega⟩

theorem trigLoop2 {code : List Int} (hb : Bytes code) (K : Nat) (hK : K < 10000) (c : Cur) (hc : Good code K c) : T (iterO (M.spec_l1Cur_triggers_l2) (([] : List Trigger), c)) (fun r => r.1.length ≤ 11 ∧ Good code (K + 40) r.2) := by
  refine T_iter (fun s => s.1.length ≤ 11 ∧ Good code (K + s.1.length * 2) s.2) (fun s => 11 - s.1.length) _ ⟨by simp, hc.up (by omega)⟩ (by simp only; omega) ?_
  rintro ⟨l, c0⟩ ⟨g1, g2⟩
  simp only at g1 g2
  unfold M.spec_l1Cur_triggers_l2
  dsimp only
  refine T_pick hb g2 (by omega) ?_
  intro x c1 _ hx h1
  have hx := hx (by omega)
  dsimp only
  rw [wrap64_id (n := 10 + x) (by omega) (by omega)]
  refine T_if (fun hq => ?_) (fun hq => T_ret ⟨g1, h1.up (by omega)⟩)
  simp only [decide_eq_true_eq] at hq
  refine T_ask (by simp; omega) (T_ret ?_)
  simp only [List.length_append, List.length_singleton]
  exact ⟨⟨by omega, h1.up (by omega)⟩, by omega⟩

theorem drawTrig {code : List Int} {c : Cur} {k : Nat} (hb : Bytes code) (h : Good code k c) (hk : k < 1000) : T (M.spec_l1Cur_triggers c) (fun r => r.1.length ≤ 11 ∧ Good code (k + 500) r.2) := by
  unfold M.spec_l1Cur_triggers
  refine T.then (Q := fun e => e.1.length ≤ 10 ∧ Good code (k + 400) e.2) (T_iter (fun s => ∃ m : Nat, s.2.1 = (m : Int) ∧ 1 ≤ m ∧ m ≤ 7 ∧ s.1.length ≤ 10 ∧ Good code (k + (m - 1) * 56) s.2.2) (fun s => 7 - s.2.1.toNat) _ ⟨1, rfl, by omega, by omega, by simp, h.up (by omega)⟩ (by simp only; omega) ?_) ?_
  · rintro ⟨l, _, c0⟩ ⟨m, rfl, g0, g1, g2, g3⟩
    simp only at g2 g3
    unfold M.spec_l1Cur_triggers_l0
    dsimp only
    refine T_if (fun hq => ?_) (fun hq => T_ret ⟨g2, g3.up (by omega)⟩)
    simp only [decide_eq_true_eq] at hq
    refine (trigIn hb _ (by omega) (m : Int) l g2 c0 g3).then ?_
    rintro ⟨l2, c2⟩ ⟨a1, a2⟩
    refine T_ret ?_
    simp only at a1 a2 ⊢
    rw [wrap64_id (by omega) (by omega)]
    exact ⟨⟨m + 1, by omega, by omega, by omega, a1, a2.up (by omega)⟩, by omega⟩
  · rintro ⟨l, c1⟩ ⟨g1, g2⟩
    simp only at g1 g2
    dsimp only
    refine T_pick hb g2 (by omega) ?_
    intro x c2 _ _ h2
    dsimp only
    refine T.then (Q := fun e => e.1.length ≤ 11 ∧ Good code (k + 500) e.2) ?_ ?_
    · refine T_if (fun _ => ?_) (fun _ => T_if (fun _ => ?_) (fun _ => T_ret ⟨by simp only; omega, h2.up (by omega)⟩))
      · refine T_among hb h2 (by omega) (by simp) ?_
        intro x3 c3 _ h3
        refine T_among hb h3 (by omega) (by simp) ?_
        intro x4 c4 _ h4
        refine T_among hb h4 (by omega) (by simp) ?_
        intro x5 c5 _ h5
        exact T_ask (by simp; omega) (T_ret ⟨by simp; omega, h5.up (by omega)⟩)
      · refine (trigLoop2 hb _ (by omega) c2 h2).then ?_
        rintro ⟨l2, c3⟩ ⟨a1, a2⟩
        exact T_ret ⟨a1, a2.up (by omega)⟩
    · rintro ⟨l2, c3⟩ ⟨a1, a2⟩
      exact T_ret ⟨a1, a2⟩

theorem drawCons {code : List Int} (hb : Bytes code) : T (M.spec_DrawContradictions code) (fun r => r.length ≤ 20) := by
  unfold M.spec_DrawContradictions
  refine (drawSchedule hb good0y (by omega)).then ?_
  rintro ⟨l, c1⟩ ⟨g1, g2⟩
  simp only at g1 g2
  dsimp only
  refine T.then (Q := fun e => e.1.length ≤ 20) (T_iter (fun s => ∃ m : Nat, s.2.1 = (m : Int) ∧ 1 ≤ m ∧ m ≤ 21 ∧ s.1.length ≤ 20 ∧ Good code (1000 + m * 2) s.2.2) (fun s => 21 - s.2.1.toNat) _ ⟨1, rfl, by omega, by omega, g1, g2.up (by omega)⟩ (by simp only; omega) ?_) ?_
  · rintro ⟨l, _, c0⟩ ⟨m, rfl, a0, a1, a2, a3⟩
    simp only at a2 a3
    unfold M.spec_DrawContradictions_l0
    dsimp only
    refine T_if (fun hq => ?_) (fun hq => T_ret a2)
    simp only [decide_eq_true_eq] at hq
    refine T.then (Q := fun e => e.1.length ≤ 20 ∧ Good code (1000 + (m + 1) * 2) e.2) ?_ ?_
    · refine T_one hb a3 (by omega) ?_
      intro b c2 h2
      refine T_if (fun _ => ?_) (fun _ => T_ret ⟨a2, h2.up (by omega)⟩)
      rw [wrap64_id (n := (m : Int) - 1) (by omega) (by omega)]
      exact T_ask ⟨by omega, by omega⟩ (T_ask ⟨by omega, by omega⟩ (T_ret ⟨by rw [List.length_set]; exact a2, h2.up (by omega)⟩))
    · rintro ⟨l2, c9⟩ ⟨b1, b2⟩
      simp only at b1 b2
      refine T_ret ?_
      simp only
      rw [wrap64_id (by omega) (by omega)]
      exact ⟨⟨m + 1, by omega, by omega, by omega, b1, b2⟩, by omega⟩
  · rintro ⟨l2, c2⟩ h2
    exact T_ret h2

theorem vIntsY (a : List Int) (hl : a.length < 1000000) : M.laws_vInts a a = some true := by
  unfold M.laws_vInts
  rw [bne_self_eq_false, cond_false]
  rw [iter_up (s := 0) (step := M.laws_vInts_l0 a a) (e := .inl ()) (fun k => (k : Int)) a.length rfl (by omega) (fun k hk => by
    unfold M.laws_vInts_l0
    simp (disch := first | omega | (intros; simp only [decide_eq_true_eq, decide_eq_false_iff_not, Bool.not_eq_true, Bool.not_eq_false, Bool.not_true, Bool.not_false] at *; omega)) only [cast_succ, asrt_pos, wrap64_id, Option.bind_some, cond_true, cond_false, decide_eq_true, decide_eq_false, Int.toNat_natCast, Bool.not_true, Bool.not_false, Bool.and_true, Bool.true_and, Bool.and_false, Bool.false_and, Bool.or_true, Bool.true_or, Bool.or_false, Bool.false_or, bne_self_eq_false]) (by
    unfold M.laws_vInts_l0
    simp (disch := first | omega | (intros; simp only [decide_eq_true_eq, decide_eq_false_iff_not, Bool.not_eq_true, Bool.not_eq_false, Bool.not_true, Bool.not_false] at *; omega)) only [cast_succ, asrt_pos, wrap64_id, Option.bind_some, cond_true, cond_false, decide_eq_true, decide_eq_false, Int.toNat_natCast, Bool.not_true, Bool.not_false, Bool.and_true, Bool.true_and, Bool.and_false, Bool.false_and, Bool.or_true, Bool.true_or, Bool.or_false, Bool.false_or])]
  rfl
end Go.Proofs.YtjfpdbhjoofllaaGreat
