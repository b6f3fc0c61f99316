/-
  Draws of triggers; the plain law of cycles. Plain.
-/
import Derived.Test.YthffmnpbonkpaaaYb
set_option linter.unusedSimpArgs false
set_option linter.unusedVariables false
namespace Go.Proofs.Ythffmnpbonkpaaa
open Go.VS

theorem good0y {code : List Int} : Good code 0 (⟨code, 0, 0⟩ : Cur) := ⟨rfl, Int.le_refl _, Int.le_refl _⟩

theorem trigIn {code : List Int} (hb : Bytes code) (K : Nat) (hK : K < 10000) (event : Int) (l0 : List Trigger) (hl : l0.length ≤ 10) (c : Cur) (hc : Good code K c) : T (iterO (M.spec_l1Cur_triggers_l1 event) (l0, (0 : Int), c)) (fun r => r.1.length ≤ 10 ∧ Good code (K + 56) r.2) := by
  refine T_iter (fun s => ∃ m : Nat, s.2.1 = (m : Int) ∧ m ≤ 7 ∧ s.1.length ≤ 10 ∧ Good code (K + m * 8) s.2.2) (fun s => 7 - s.2.1.toNat) _ ⟨0, rfl, by omega, hl, hc.up (by omega)⟩ (by simp only; omega) ?_
  rintro ⟨l, _, c0⟩ ⟨m, rfl, g1, g2, g3⟩
  simp only at g2 g3
  unfold M.spec_l1Cur_triggers_l1
  dsimp only
  refine T_if (fun hq => ?_) (fun hq => T_ret ⟨g2, g3.up (by omega)⟩)
  simp only [decide_eq_true_eq] at hq
  refine T.then (Q := fun e => e.1.length ≤ 10 ∧ Good code (K + (m + 1) * 8) e.2) ?_ ?_
  · cases he : ((m : Int) == event)
    · rw [cond_false]
      refine T.then (Q := fun e => (decide ((m : Int) > event) = true → Good code (K + m * 8 + 2) e.2)) ?_ ?_
      · cases hd : decide ((m : Int) > event)
        · rw [cond_false]; exact T_ret (fun h => by cases h)
        · rw [cond_true]
          exact (one_ok hb g3 (by omega)).mono fun r hr _ => hr
      · rintro ⟨b2, c2⟩ h2
        simp only at h2
        dsimp only
        have h3 : Good code (K + m * 8 + 2) (bif decide ((m : Int) > event) then c2 else c0) := by
          cases hd : decide ((m : Int) > event)
          · exact g3.up (by omega)
          · exact h2 hd
        rw [Bool.false_or, cond_false]
        generalize (bif decide ((m : Int) > event) then c2 else c0) = c3 at h3 ⊢
        cases hx : (decide ((m : Int) > event) && !b2)
        · rw [cond_false]
          refine T_one hb h3 (by omega) ?_
          intro b4 c4 h4
          dsimp only
          rw [Bool.false_or, cond_false]
          refine T_if (fun _ => T_ret ⟨g2, h4.up (by omega)⟩) (fun hn => ?_)
          refine T_among hb h4 (by omega) (by simp) ?_
          intro x5 c5 _ h5
          simp only [Bool.or_eq_false_iff, beq_eq_false_iff_ne] at hn
          exact T_ask (by simp; omega) (T_ret ⟨by simp; omega, h5.up (by omega)⟩)
        · rw [cond_true, Option.bind_some, Bool.true_or, Bool.true_or, cond_true, cond_true]
          exact T_ret ⟨g2, h3.up (by omega)⟩
    · rw [cond_true, Option.bind_some, Bool.true_or, cond_true, Option.bind_some, Bool.true_or, Bool.true_or, cond_true, cond_true, cond_true]
      exact T_ret ⟨g2, g3.up (by omega)⟩
  · rintro ⟨l2, c9⟩ ⟨a1, a2⟩
    simp only at a1 a2
    refine T_ret ?_
    simp only
    rw [wrap64_id (by omega) (by omega)]
    exact ⟨⟨m + 1, by omega, by omega, a1, a2⟩, by omega⟩

theorem trigLoop2 {code : List Int} (hb : Bytes code) (K : Nat) (hK : K < 10000) (c : Cur) (hc : Good code K c) : T (iterO (M.spec_l1Cur_triggers_l2) (([] : List Trigger), c)) (fun r => r.1.length ≤ 11 ∧ Good code (K + 40) r.2) := by
  refine T_iter (fun s => s.1.length ≤ 11 ∧ Good code (K + s.1.length * 2) s.2) (fun s => 11 - s.1.length) _ ⟨by simp, hc.up (by omega)⟩ (by simp only; omega) ?_
  rintro ⟨l, c0⟩ ⟨g1, g2⟩
  simp only at g1 g2
  unfold M.spec_l1Cur_triggers_l2
  dsimp only
  refine T_pick hb g2 (by omega) ?_
  intro x c1 _ hx h1
  have hx := hx (by omega)
  dsimp only
  rw [wrap64_id (n := 10 + x) (by omega) (by omega)]
  refine T_if (fun hq => ?_) (fun hq => T_ret ⟨g1, h1.up (by omega)⟩)
  simp only [decide_eq_true_eq] at hq
  refine T_ask (by simp; omega) (T_ret ?_)
  simp only [List.length_append, List.length_singleton]
  exact ⟨⟨by omega, h1.up (by omega)⟩, by omega⟩

theorem drawTrig {code : List Int} {c : Cur} {k : Nat} (hb : Bytes code) (h : Good code k c) (hk : k < 1000) : T (M.spec_l1Cur_triggers c) (fun r => r.1.length ≤ 11 ∧ Good code (k + 500) r.2) := by
  unfold M.spec_l1Cur_triggers
  refine T.then (Q := fun e => e.1.length ≤ 10 ∧ Good code (k + 400) e.2) (T_iter (fun s => ∃ m : Nat, s.2.1 = (m : Int) ∧ 1 ≤ m ∧ m ≤ 7 ∧ s.1.length ≤ 10 ∧ Good code (k + (m - 1) * 56) s.2.2) (fun s => 7 - s.2.1.toNat) _ ⟨1, rfl, by omega, by omega, by simp, h.up (by omega)⟩ (by simp only; omega) ?_) ?_
  · rintro ⟨l, _, c0⟩ ⟨m, rfl, g0, g1, g2, g3⟩
    simp only at g2 g3
    unfold M.spec_l1Cur_triggers_l0
    dsimp only
    refine T_if (fun hq => ?_) (fun hq => T_ret ⟨g2, g3.up (by omega)⟩)
    simp only [decide_eq_true_eq] at hq
    refine (trigIn hb _ (by omega) (m : Int) l g2 c0 g3).then ?_
    rintro ⟨l2, c2⟩ ⟨a1, a2⟩
    refine T_ret ?_
    simp only at a1 a2 ⊢
    rw [wrap64_id (by omega) (by omega)]
    exact ⟨⟨m + 1, by omega, by omega, by omega, a1, a2.up (by omega)⟩, by omega⟩
  · rintro ⟨l, c1⟩ ⟨g1, g2⟩
    simp only at g1 g2
    dsimp only
    refine T_pick hb g2 (by omega) ?_
    intro x c2 _ _ h2
    dsimp only
    refine T.then (Q := fun e => e.1.length ≤ 11 ∧ Good code (k + 500) e.2) ?_ ?_
    · refine T_if (fun _ => ?_) (fun _ => T_if (fun _ => ?_) (fun _ => T_ret ⟨by simp only; omega, h2.up (by omega)⟩))
      · refine T_among hb h2 (by omega) (by simp) ?_
        intro x3 c3 _ h3
        refine T_among hb h3 (by omega) (by simp) ?_
        intro x4 c4 _ h4
        refine T_among hb h4 (by omega) (by simp) ?_
        intro x5 c5 _ h5
        exact T_ask (by simp; omega) (T_ret ⟨by simp; omega, h5.up (by omega)⟩)
      · refine (trigLoop2 hb _ (by omega) c2 h2).then ?_
        rintro ⟨l2, c3⟩ ⟨a1, a2⟩
        exact T_ret ⟨a1, a2.up (by omega)⟩
    · rintro ⟨l2, c3⟩ ⟨a1, a2⟩
      exact T_ret ⟨a1, a2⟩

theorem drawGaps {code : List Int} (hb : Bytes code) : T (M.spec_DrawSeriesGaps code) (fun r => r.1.length ≤ 20 ∧ r.2.length ≤ 30) := by
  unfold M.spec_DrawSeriesGaps
  refine T.then (Q := fun e => e.1.length ≤ 6 ∧ Good code 12 e.2) (T_iter (fun s => ∃ m : Nat, s.2.1 = (m : Int) ∧ m ≤ 6 ∧ s.1.length ≤ m ∧ Good code (m * 2) s.2.2) (fun s => 6 - s.2.1.toNat) _ ⟨0, rfl, by omega, by simp, good0y.up (by omega)⟩ (by simp only; omega) ?_) ?_
  · rintro ⟨l, _, c0⟩ ⟨m, rfl, g1, g2, g3⟩
    simp only at g2 g3
    unfold M.spec_DrawSeriesGaps_l0
    dsimp only
    refine T_if (fun hq => ?_) (fun hq => T_ret ⟨by simp only; omega, g3.up (by omega)⟩)
    simp only [decide_eq_true_eq, List.length_cons, List.length_nil] at hq
    refine T.then (Q := fun e => e.1.length ≤ m + 1 ∧ Good code ((m + 1) * 2) e.2) ?_ ?_
    · refine T_ask ⟨by omega, by simp; omega⟩ ?_
      refine T_one hb g3 (by omega) ?_
      intro b c1 h1
      exact T_if (fun _ => T_ask (by simp; omega) (T_ret ⟨by simp; omega, h1.up (by omega)⟩)) (fun _ => T_ret ⟨by simp only; omega, h1.up (by omega)⟩)
    · rintro ⟨l2, c9⟩ ⟨a1, a2⟩
      simp only at a1 a2
      refine T_ret ?_
      simp only
      rw [wrap64_id (by omega) (by omega)]
      exact ⟨⟨m + 1, by omega, by omega, a1, a2⟩, by omega⟩
  · rintro ⟨ser, c1⟩ ⟨g1, g2⟩
    simp only at g1 g2
    dsimp only
    refine T.then (Q := fun e => e.1.length ≤ 30 ∧ Good code 100 e.2) ?_ ?_
    · refine T_pick hb g2 (by omega) ?_
      intro x c2 _ _ h2
      dsimp only
      refine T.then (Q := fun e => e.1.length ≤ 30 ∧ Good code 100 e.2) ?_ ?_
      · refine T_if (fun _ => ?_) (fun _ => T_if (fun _ => ?_) (fun _ => T_ret ⟨by simp only; omega, h2.up (by omega)⟩))
        · refine T_among hb h2 (by omega) (by simp) ?_
          intro x3 c3 _ h3
          exact T_ask (by simp; omega) (T_ret ⟨by simp; omega, h3.up (by omega)⟩)
        · refine T.then (Q := fun e => e.1.length ≤ 30 ∧ Good code 100 e.2) (T_iter (fun s => s.1.length ≤ 21 ∧ Good code (14 + s.1.length * 2) s.2) (fun s => 21 - s.1.length) _ ⟨by simp, h2.up (by omega)⟩ (by simp only; omega) ?_) ?_
          · rintro ⟨l, c0⟩ ⟨a1, a2⟩
            simp only at a1 a2
            unfold M.spec_DrawSeriesGaps_l1
            dsimp only
            refine T_pick hb a2 (by omega) ?_
            intro y c3 _ hy h3
            have hy := hy (by omega)
            dsimp only
            rw [wrap64_id (n := 20 + y) (by omega) (by omega)]
            refine T_if (fun hq => ?_) (fun hq => T_ret ⟨by simp only; omega, h3.up (by omega)⟩)
            simp only [decide_eq_true_eq] at hq
            refine T_ask (by simp; omega) (T_ret ?_)
            simp only [List.length_append, List.length_singleton]
            exact ⟨⟨by omega, h3.up (by omega)⟩, by omega⟩
          · rintro ⟨l, c3⟩ h3
            exact T_ret h3
      · rintro ⟨l, c3⟩ h3
        exact T_ret h3
    · rintro ⟨ser2, c3⟩ ⟨a1, a2⟩
      simp only at a1 a2
      dsimp only
      refine (drawSchedule hb a2 (by omega)).then ?_
      rintro ⟨s, c4⟩ ⟨b1, _⟩
      exact T_ret ⟨b1, a1⟩

theorem drawCons {code : List Int} (hb : Bytes code) : T (M.spec_DrawContradictions code) (fun r => r.length ≤ 20) := by
  unfold M.spec_DrawContradictions
  refine (drawSchedule hb good0y (by omega)).then ?_
  rintro ⟨l, c1⟩ ⟨g1, g2⟩
  simp only at g1 g2
  dsimp only
  refine T.then (Q := fun e => e.1.length ≤ 20) (T_iter (fun s => ∃ m : Nat, s.2.1 = (m : Int) ∧ 1 ≤ m ∧ m ≤ 21 ∧ s.1.length ≤ 20 ∧ Good code (1000 + m * 2) s.2.2) (fun s => 21 - s.2.1.toNat) _ ⟨1, rfl, by omega, by omega, g1, g2.up (by omega)⟩ (by simp only; omega) ?_) ?_
  · rintro ⟨l, _, c0⟩ ⟨m, rfl, a0, a1, a2, a3⟩
    simp only at a2 a3
    unfold M.spec_DrawContradictions_l0
    dsimp only
    refine T_if (fun hq => ?_) (fun hq => T_ret a2)
    simp only [decide_eq_true_eq] at hq
    refine T.then (Q := fun e => e.1.length ≤ 20 ∧ Good code (1000 + (m + 1) * 2) e.2) ?_ ?_
    · refine T_one hb a3 (by omega) ?_
      intro b c2 h2
      refine T_if (fun _ => ?_) (fun _ => T_ret ⟨a2, h2.up (by omega)⟩)
      rw [wrap64_id (n := (m : Int) - 1) (by omega) (by omega)]
      exact T_ask ⟨by omega, by omega⟩ (T_ask ⟨by omega, by omega⟩ (T_ret ⟨by rw [List.length_set]; exact a2, h2.up (by omega)⟩))
    · rintro ⟨l2, c9⟩ ⟨b1, b2⟩
      simp only at b1 b2
      refine T_ret ?_
      simp only
      rw [wrap64_id (by omega) (by omega)]
      exact ⟨⟨m + 1, by omega, by omega, by omega, b1, b2⟩, by omega⟩
  · rintro ⟨l2, c2⟩ h2
    exact T_ret h2

/-! ### The law -/
theorem vIntsY (a : List Int) (hl : a.length < 1000000) : M.laws_vInts a a = some true := by
  unfold M.laws_vInts
  rw [bne_self_eq_false, cond_false]
  rw [iter_up (s := 0) (step := M.laws_vInts_l0 a a) (e := .inl ()) (fun k => (k : Int)) a.length rfl (by omega) (fun k hk => by
    unfold M.laws_vInts_l0
    simp (disch := first | omega | (intros; simp only [decide_eq_true_eq, decide_eq_false_iff_not, Bool.not_eq_true, Bool.not_eq_false, Bool.not_true, Bool.not_false] at *; omega)) only [cast_succ, asrt_pos, wrap64_id, Option.bind_some, cond_true, cond_false, decide_eq_true, decide_eq_false, Int.toNat_natCast, Bool.not_true, Bool.not_false, Bool.and_true, Bool.true_and, Bool.and_false, Bool.false_and, Bool.or_true, Bool.true_or, Bool.or_false, Bool.false_or, bne_self_eq_false]) (by
    unfold M.laws_vInts_l0
    simp (disch := first | omega | (intros; simp only [decide_eq_true_eq, decide_eq_false_iff_not, Bool.not_eq_true, Bool.not_eq_false, Bool.not_true, Bool.not_false] at *; omega)) only [cast_succ, asrt_pos, wrap64_id, Option.bind_some, cond_true, cond_false, decide_eq_true, decide_eq_false, Int.toNat_natCast, Bool.not_true, Bool.not_false, Bool.and_true, Bool.true_and, Bool.and_false, Bool.false_and, Bool.or_true, Bool.true_or, Bool.or_false, Bool.false_or])]
  rfl
theorem vTrigY (a : List Trigger) (hl : a.length < 1000000) : M.laws_vTriggers a a = some true := by
  unfold M.laws_vTriggers
  rw [bne_self_eq_false, cond_false]
  rw [iter_up (s := 0) (step := M.laws_vTriggers_l0 a a) (e := .inl ()) (fun k => (k : Int)) a.length rfl (by omega) (fun k hk => by
    unfold M.laws_vTriggers_l0
    simp (disch := first | omega | (intros; simp only [decide_eq_true_eq, decide_eq_false_iff_not, Bool.not_eq_true, Bool.not_eq_false, Bool.not_true, Bool.not_false] at *; omega)) only [cast_succ, asrt_pos, wrap64_id, Option.bind_some, cond_true, cond_false, decide_eq_true, decide_eq_false, Int.toNat_natCast, Bool.not_true, Bool.not_false, Bool.and_true, Bool.true_and, Bool.and_false, Bool.false_and, Bool.or_true, Bool.true_or, Bool.or_false, Bool.false_or, beq_self_eq_true]) (by
    unfold M.laws_vTriggers_l0
    simp (disch := first | omega | (intros; simp only [decide_eq_true_eq, decide_eq_false_iff_not, Bool.not_eq_true, Bool.not_eq_false, Bool.not_true, Bool.not_false] at *; omega)) only [cast_succ, asrt_pos, wrap64_id, Option.bind_some, cond_true, cond_false, decide_eq_true, decide_eq_false, Int.toNat_natCast, Bool.not_true, Bool.not_false, Bool.and_true, Bool.true_and, Bool.and_false, Bool.false_and, Bool.or_true, Bool.true_or, Bool.or_false, Bool.false_or])]
  rfl

def FcD (l : List Trigger) : List Int × Bool := bif tgsOk l then (firstK l, !(firstK l).isEmpty) else ([], false)
def HcD (l : List Trigger) : Bool × Bool := bif tgsOk l then (!(firstK l).isEmpty, true) else (false, false)
theorem fcDI (l : List Trigger) (hl : l.length < 1000000) : M.impl_FirstCycle l = some (FcD l) := by
  unfold M.impl_FirstCycle FcD
  rw [tgsI l hl, Option.bind_some]
  cases tgsOk l
  · rfl
  · rw [Bool.not_true, cond_false, fcI l hl, Option.bind_some, cond_true]
theorem fcDS (l : List Trigger) (hl : l.length < 1000000) : M.spec_FirstCycle l = some (FcD l) := by
  unfold M.spec_FirstCycle FcD
  rw [tgsS l hl, Option.bind_some]
  cases tgsOk l
  · rfl
  · rw [Bool.not_true, cond_false, fcS l hl, Option.bind_some, cond_true]
theorem hcDI (l : List Trigger) (hl : l.length < 1000000) : M.impl_HasCycle l = some (HcD l) := by
  unfold M.impl_HasCycle HcD
  rw [tgsI l hl, Option.bind_some]
  cases tgsOk l
  · rfl
  · rw [Bool.not_true, cond_false, fcI l hl, Option.bind_some, cond_true]
theorem hcDS (l : List Trigger) (hl : l.length < 1000000) : M.spec_HasCycle l = some (HcD l) := by
  unfold M.spec_HasCycle HcD
  rw [tgsS l hl, Option.bind_some]
  cases tgsOk l
  · rfl
  · rw [Bool.not_true, cond_false, fcS l hl, Option.bind_some, cond_true]

theorem FcD_ok (l : List Trigger) : (FcD l).1 = [] ∨ Cyc l (FcD l).1 := by
  unfold FcD
  cases tgsOk l
  · exact .inl rfl
  · exact firstK_ok l

theorem folLaw (l : List Trigger) (r : List Int × Bool) (i : Nat) (hl : l.length < 1000000) (hi : i < r.1.length) (hr : r.1.length ≤ 9) : iterO (M.laws_FnCycles_l1 l r (i : Int)) (false, (0 : Int)) = some (fol l (r.1.getD i default) (r.1.getD ((i + 1) % r.1.length) default)) := by
  have hm : Int.tmod ((i : Int) + 1) (r.1.length : Int) = (((i + 1) % r.1.length : Nat) : Int) := by
    rw [Int.tmod_eq_emod_of_nonneg (by omega), ← cast_succ]
    first | exact (Int.natCast_emod _ _).symm | exact (Int.natCast_mod _ _).symm | exact (Int.ofNat_emod _ _).symm
  have hlt : (i + 1) % r.1.length < r.1.length := Nat.mod_lt _ (by omega)
  rw [iter_fold (s := (false, (0 : Int))) (step := M.laws_FnCycles_l1 l r (i : Int)) (fun (b : Bool) (k : Nat) => (b, (k : Int))) (fun b t => b || ((t.Event == r.1.getD i default) && (t.After == r.1.getD ((i + 1) % r.1.length) default))) (fun b => b) l false (fun _ _ => True) rfl (by omega) trivial (fun b k hk _ => ⟨?_, trivial⟩) (fun b _ => ?_), foldl_or]
  · rfl
  · unfold M.laws_FnCycles_l1
    dsimp only
    rw [wrap64_id (n := (i : Int) + 1) (by omega) (by omega), hm, decide_eq_true (show (k : Int) < (l.length : Int) by omega), cond_true, asrt_pos (fun _ => ⟨by omega, by omega⟩), asrt_pos (fun _ => ⟨by omega, by omega⟩), asrt_pos (fun _ _ => ⟨by omega, by omega⟩), asrt_pos (fun _ _ => by omega), asrt_pos (fun _ _ => ⟨by omega, by omega⟩), Int.toNat_natCast, Int.toNat_natCast, Int.toNat_natCast, wrap64_id (n := (k : Int) + 1) (by omega) (by omega)]
    rfl
  · unfold M.laws_FnCycles_l1
    dsimp only
    rw [decide_eq_false (by omega)]
    rfl

theorem cycLaw (l : List Trigger) (hl : l.length < 1000000) : iterO (M.laws_FnCycles_l0 l (FcD l)) (0 : Int) = some (.inl ()) := by
  rcases FcD_ok l with h | h
  · refine iter_up (s := 0) (fun k => (k : Int)) 0 rfl (by omega) (fun k hk => absurd hk (Nat.not_lt_zero _)) ?_
    unfold M.laws_FnCycles_l0
    dsimp only
    rw [h]
    rfl
  · have h9 := h.len
    refine iter_up (s := 0) (fun k => (k : Int)) (FcD l).1.length rfl (by omega) (fun k hk => ?_) ?_
    · have hf : fol l ((FcD l).1.getD k default) ((FcD l).1.getD ((k + 1) % (FcD l).1.length) default) = true := by
        by_cases q : k + 1 < (FcD l).1.length
        · rw [Nat.mod_eq_of_lt q]; exact h.nxt k q
        · have e1 : k + 1 = (FcD l).1.length := by omega
          rw [e1, Nat.mod_self]
          have := h.end_
          unfold lastK headK at this
          rwa [← e1, Nat.add_sub_cancel] at this
      have hlow := h.low _ (getD_mem hk)
      unfold M.laws_FnCycles_l0
      dsimp only
      rw [decide_eq_true (show (k : Int) < ((FcD l).1.length : Int) by omega), cond_true, folLaw l (FcD l) k hl hk h9, hf, Option.bind_some]
      try dsimp only
      rw [asrt_pos (fun _ => ⟨by omega, by omega⟩), asrt_pos (fun _ => ⟨by omega, by omega⟩), Int.toNat_natCast, show (FcD l).1.getD (Int.toNat (0 : Int)) default = headK (FcD l).1 from rfl, decide_eq_false (by omega), Bool.not_true, Bool.or_self, cond_false, wrap64_id (by omega) (by omega)]
      rfl
    · unfold M.laws_FnCycles_l0
      dsimp only
      rw [decide_eq_false (by omega)]
      rfl

theorem gapLaw (s : List Rule) (ser : List Int) (hl : s.length < 1000000) (hs : ser.length < 1000000) : iterO (M.laws_FnCycles_l2 (s, ser) (GapD s ser)) (0 : Int) = some (.inl ()) := by
  cases h : schedOk s && (serOk ser && decide ((ser.length : Int) ≤ 20))
  · have e : GapD s ser = ([], false) := by unfold GapD; rw [h]; rfl
    rw [e]
    refine iter_up (s := 0) (fun k => (k : Int)) 0 rfl (by omega) (fun k hk => absurd hk (Nat.not_lt_zero _)) ?_
    unfold M.laws_FnCycles_l2
    rfl
  · have e : GapD s ser = (ser.filter fun q => ((rulesFor s q).length : Int) == 0, true) := by unfold GapD; rw [h]; rfl
    rw [e]
    simp only [Bool.and_eq_true] at h
    have hlen := List.length_filter_le (fun q : Int => ((rulesFor s q).length : Int) == 0) ser
    refine iter_up (s := 0) (fun k => (k : Int)) (ser.filter fun q => ((rulesFor s q).length : Int) == 0).length rfl (by omega) (fun k hk => ?_) ?_
    · obtain ⟨m1, m2⟩ := List.mem_filter.1 (getD_mem hk)
      generalize hz : (ser.filter fun q => ((rulesFor s q).length : Int) == 0).getD k default = z at m1 m2
      have hid : inR z 1 99 = true := by
        have := rise_all h.2.1 z m1
        simpa using this
      have hR : M.impl_RulesFor s z = some (rulesFor s z, true) := by
        unfold M.impl_RulesFor
        rw [schedI s hl, h.1, Option.bind_some, Bool.not_true, cond_false, isIdI, hid, Option.bind_some, Bool.not_true, Bool.or_self, cond_false, forI s z hl, Option.bind_some]
      unfold M.laws_FnCycles_l2
      dsimp only
      rw [decide_eq_true (show (k : Int) < ((ser.filter fun q => ((rulesFor s q).length : Int) == 0).length : Int) by omega), cond_true, asrt_pos ⟨by omega, by omega⟩, Int.toNat_natCast, hz, hR, Option.bind_some]
      dsimp only
      rw [show (((rulesFor s z).length : Int) != 0) = false by rw [bne, m2]; rfl, Bool.not_true, Bool.or_self, cond_false, wrap64_id (by omega) (by omega)]
      rfl
    · unfold M.laws_FnCycles_l2
      dsimp only
      rw [decide_eq_false (by omega)]
      rfl

theorem law_FnCycles (code : List Int) (h1 : code.length ≤ 9223372036854775807) (h2 : ∀ x, x ∈ code → 0 ≤ x ∧ x ≤ 255) : M.laws_FnCycles code = some true := by
  apply T.eq
  unfold M.laws_FnCycles M.laws_vBig
  rw [Option.bind_some]
  refine T_if (fun _ => T_ret rfl) (fun hq => ?_)
  simp only [decide_eq_false_iff_not] at hq
  have hb : Bytes code := ⟨by omega, h2⟩
  have d1 : T (M.spec_DrawFirstCycle code) (fun r => r.length ≤ 11) := by
    unfold M.spec_DrawFirstCycle M.spec_DrawAreTriggers
    refine T_in ((drawTrig hb good0y (by omega)).then ?_)
    rintro ⟨l, c⟩ ⟨g, _⟩
    exact T_ret (T_ret g)
  refine d1.then ?_
  intro l hl
  have hFl : (FcD l).1.length < 1000000 := by
    rcases FcD_ok l with h | h
    · rw [h]; simp
    · have := h.len; omega
  have hS : M.spec_AreTriggers l = some (tgsOk l) := by unfold M.spec_AreTriggers; rw [tgsS l (by omega)]; rfl
  have hE : (FcD l).2 = ((HcD l).2 && (HcD l).1) := by
    unfold FcD HcD
    cases tgsOk l
    · rfl
    · simp
  rw [fcDI l (by omega), Option.bind_some, fcDS l (by omega), Option.bind_some, beq_self_eq_true, Bool.not_true, cond_false, vIntsY _ hFl, Option.bind_some, Bool.not_true, Bool.or_self, cond_false, tgsI l (by omega), Option.bind_some, cond_false, hS, Option.bind_some, beq_self_eq_true, Bool.not_true, Bool.or_self, cond_false]
  rw [hcDI l (by omega), Option.bind_some, hcDS l (by omega), Option.bind_some, beq_self_eq_true, beq_self_eq_true, ← hE, beq_self_eq_true, Bool.not_true, Bool.or_self, Bool.or_self, cond_false, cycLaw l (by omega), Option.bind_some]
  dsimp only
  have d2 : T (M.spec_DrawDropTriggers code) (fun r => r.1.length ≤ 11) := by
    unfold M.spec_DrawDropTriggers
    refine (drawTrig hb good0y (by omega)).then ?_
    rintro ⟨l, c⟩ ⟨g, g2⟩
    refine T_among hb g2 (by omega) (by simp) ?_
    intro x c2 _ _
    exact T_ret g
  refine d2.then ?_
  rintro ⟨u, e⟩ hu
  simp only at hu
  dsimp only
  rw [dropTI u e (by omega), Option.bind_some, dropTS u e (by omega), Option.bind_some, beq_self_eq_true, Bool.not_true, cond_false, vTrigY _ (DropT_len (by omega)), Option.bind_some, Bool.not_true, Bool.or_self, cond_false]
  refine (drawGaps hb).then ?_
  rintro ⟨s, ser⟩ ⟨hs, hser⟩
  simp only at hs hser
  dsimp only
  rw [gapI s ser (by omega) (by omega), Option.bind_some, gapS s ser (by omega) (by omega), Option.bind_some, beq_self_eq_true, Bool.not_true, cond_false, vIntsY _ (GapD_len (by omega)), Option.bind_some, Bool.not_true, Bool.or_self, cond_false, gapLaw s ser (by omega) (by omega), Option.bind_some]
  dsimp only
  refine (drawCons hb).then ?_
  intro w hw
  rw [conDI w (by omega), Option.bind_some, conDS w (by omega), Option.bind_some, beq_self_eq_true, cond_true, vIntsY _ (ConD_len (by omega)), Option.bind_some]
  exact T_ret rfl
end Go.Proofs.Ythffmnpbonkpaaa
