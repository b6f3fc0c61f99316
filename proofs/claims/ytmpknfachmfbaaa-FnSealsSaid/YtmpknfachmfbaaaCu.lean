/-
  Custody: hands, valid lists, holders. Plain.
-/
import Derived.Test.YtmpknfachmfbaaaSl
set_option linter.unusedSimpArgs false
set_option linter.unusedVariables false
namespace Go.Proofs.Ytmpknfachmfbaaa
open Go.VS

/-! ### Hands -/
def handOk (h : Hand) : Bool := ((((inR h.Record 1 999 && inR h.From 1 20) && inR h.To 1 20) && (h.From != h.To)) && inR h.Day 0 20000) && inR h.Sum 0 999999
theorem recIdI (n : Int) : M.impl_isRecordId n = some (inR n 1 999) := rfl
theorem personI (n : Int) : M.impl_isPerson n = some (inR n 1 20) := rfl
theorem rec17S (n : Int) : M.spec_l17Record n = some (inR n 1 999) := rfl
theorem who17S (n : Int) : M.spec_l17Who n = some (inR n 1 20) := rfl
theorem handI (h : Hand) : M.impl_IsHand h = some (handOk h) := by
  unfold M.impl_IsHand handOk
  simp only [recIdI, personI, isDayI, withinI, Option.bind_some]
  cases inR h.Record 1 999 <;> cases inR h.From 1 20 <;> cases inR h.To 1 20 <;> cases (h.From != h.To) <;> cases inR h.Day 0 20000 <;> rfl
theorem handS (h : Hand) : M.spec_l17One h = some (handOk h) := by
  unfold M.spec_l17One handOk
  simp only [rec17S, who17S, l2DayS, l1InS, Option.bind_some]
  cases inR h.Record 1 999 <;> cases inR h.From 1 20 <;> cases inR h.To 1 20 <;> cases (h.From != h.To) <;> cases inR h.Day 0 20000 <;> rfl
theorem handOk_spec {h : Hand} (g : handOk h = true) : (1 ≤ h.Record ∧ h.Record ≤ 999) ∧ (1 ≤ h.From ∧ h.From ≤ 20) ∧ (1 ≤ h.To ∧ h.To ≤ 20) ∧ h.From ≠ h.To ∧ (0 ≤ h.Day ∧ h.Day ≤ 20000) ∧ (0 ≤ h.Sum ∧ h.Sum ≤ 999999) := by
  unfold handOk at g
  simp only [Bool.and_eq_true, inR_true, bne_iff_ne, ne_eq] at g
  exact ⟨g.1.1.1.1.1, g.1.1.1.1.2, g.1.1.1.2, g.1.1.2, g.1.2, g.2⟩

abbrev rcd (l : List Hand) (k : Nat) : Int := (l.getD k default).Record

/-! ### The next one, and the one before -/
theorem nextT (l : List Hand) (r : Int) (i : Nat) (hl : l.length ≤ 1048576) (hi : i ≤ l.length) : T (M.impl_next l r (i : Int)) (fun a => (a = -1 ∧ ∀ j, i ≤ j → j < l.length → rcd l j ≠ r) ∨ ∃ m : Nat, a = (m : Int) ∧ i ≤ m ∧ m < l.length ∧ rcd l m = r ∧ ∀ j, i ≤ j → j < m → rcd l j ≠ r) := by
  unfold M.impl_next
  refine T.then (Q := fun e => (e = .inl () ∧ ∀ j, i ≤ j → j < l.length → rcd l j ≠ r) ∨ ∃ m : Nat, e = .inr (m : Int) ∧ i ≤ m ∧ m < l.length ∧ rcd l m = r ∧ ∀ j, i ≤ j → j < m → rcd l j ≠ r) (T_iter (fun s => ∃ k : Nat, s = (k : Int) ∧ i ≤ k ∧ k ≤ l.length ∧ ∀ j, i ≤ j → j < k → rcd l j ≠ r) (fun s => l.length - s.toNat) _ ⟨i, rfl, Nat.le_refl _, hi, fun j h1 h2 => absurd h1 (by omega)⟩ (by omega) ?_) ?_
  · rintro _ ⟨k, rfl, h1, h2, h3⟩
    unfold M.impl_next_l0
    try dsimp only
    refine T_if (fun hq => ?_) (fun hq => ?_)
    · simp only [decide_eq_true_eq] at hq
      rw [Int.toNat_natCast]
      refine T_ask ⟨by omega, hq⟩ (T_if (fun hc => ?_) (fun hc => ?_))
      · rw [beq_iff_eq] at hc
        exact T_ret (.inr ⟨k, rfl, h1, by omega, hc, h3⟩)
      · rw [beq_eq_false_iff_ne] at hc
        refine T_ret ?_
        simp only
        rw [wrap64_id (by omega) (by omega)]
        refine ⟨⟨k + 1, by omega, by omega, by omega, fun j g1 g2 => ?_⟩, by omega⟩
        by_cases e : j < k
        · exact h3 j g1 e
        · obtain rfl : j = k := by omega
          exact hc
    · simp only [decide_eq_false_iff_not] at hq
      obtain rfl : k = l.length := by omega
      exact T_ret (.inl ⟨rfl, h3⟩)
  · rintro _ (⟨rfl, h⟩ | ⟨m, rfl, h⟩)
    · exact T_ret (.inl ⟨rfl, h⟩)
    · exact T_ret (.inr ⟨m, rfl, h⟩)

theorem prevT (l : List Hand) (r : Int) (i : Nat) (hl : l.length ≤ 1048576) (hi : i ≤ l.length) : T (M.spec_l17Before l r (i : Int)) (fun a => (a = -1 ∧ ∀ j, j < i → rcd l j ≠ r) ∨ ∃ m : Nat, a = (m : Int) ∧ m < i ∧ rcd l m = r ∧ ∀ j, m < j → j < i → rcd l j ≠ r) := by
  unfold M.spec_l17Before
  rw [wrap64_id (by omega) (by omega)]
  refine T.then (Q := fun e => (e = .inl () ∧ ∀ j, j < i → rcd l j ≠ r) ∨ ∃ m : Nat, e = .inr (m : Int) ∧ m < i ∧ rcd l m = r ∧ ∀ j, m < j → j < i → rcd l j ≠ r) (T_iter (fun s => ∃ k : Nat, s = (k : Int) - 1 ∧ k ≤ i ∧ ∀ j, k ≤ j → j < i → rcd l j ≠ r) (fun s => (s + 1).toNat) _ ⟨i, rfl, Nat.le_refl _, fun j h1 h2 => absurd h1 (by omega)⟩ (by omega) ?_) ?_
  · rintro _ ⟨k, rfl, h1, h3⟩
    unfold M.spec_l17Before_l0
    try dsimp only
    refine T_if (fun hq => ?_) (fun hq => ?_)
    · simp only [decide_eq_true_eq] at hq
      obtain ⟨q, rfl⟩ : ∃ q, k = q + 1 := ⟨k - 1, by omega⟩
      rw [show ((q + 1 : Nat) : Int) - 1 = (q : Int) by omega, Int.toNat_natCast]
      refine T_ask ⟨by omega, by omega⟩ (T_if (fun hc => ?_) (fun hc => ?_))
      · rw [beq_iff_eq] at hc
        exact T_ret (.inr ⟨q, rfl, by omega, hc, fun j g1 g2 => h3 j (by omega) g2⟩)
      · rw [beq_eq_false_iff_ne] at hc
        refine T_ret ?_
        simp only
        rw [wrap64_id (by omega) (by omega)]
        refine ⟨⟨q, rfl, by omega, fun j g1 g2 => ?_⟩, by omega⟩
        by_cases e : q + 1 ≤ j
        · exact h3 j e g2
        · obtain rfl : j = q := by omega
          exact hc
    · simp only [decide_eq_false_iff_not] at hq
      obtain rfl : k = 0 := by omega
      exact T_ret (.inl ⟨rfl, fun j h => h3 j (by omega) h⟩)
  · rintro _ (⟨rfl, h⟩ | ⟨m, rfl, h⟩)
    · exact T_ret (.inl ⟨rfl, h⟩)
    · exact T_ret (.inr ⟨m, rfl, h⟩)

/-! ### Valid lists -/
/-- k and m are hands of one record that follow each other. -/
def Cn (l : List Hand) (k m : Nat) : Prop := k < m ∧ rcd l k = rcd l m ∧ ∀ j, k < j → j < m → rcd l j ≠ rcd l m
def Step (l : List Hand) (v : Nat) : Prop := handOk (l.getD v default) = true ∧ (0 < v → (l.getD (v - 1) default).Day ≤ (l.getD v default).Day)
def Fine (l : List Hand) : Prop := (∀ v, v < l.length → Step l v) ∧ ∀ k m, m < l.length → Cn l k m → (l.getD m default).From = (l.getD k default).To
noncomputable def custOk (l : List Hand) : Bool := open Classical in decide (Fine l ∧ l.length ≤ 12)
theorem custOk_spec {l : List Hand} (h : custOk l = true) : Fine l ∧ l.length ≤ 12 := by
  simpa [custOk] using h
theorem custOk_iff {l : List Hand} : custOk l = true ↔ Fine l ∧ l.length ≤ 12 := by simp [custOk]

theorem stepBad {l : List Hand} {v : Nat} : (!handOk (l.getD v default) || (decide ((v : Int) > 0) && decide ((l.getD (v - 1) default).Day > (l.getD v default).Day))) = false ↔ Step l v := by
  unfold Step
  simp only [Bool.or_eq_false_iff, Bool.not_eq_false', Bool.and_eq_false_iff, decide_eq_false_iff_not]
  constructor
  · rintro ⟨h1, h2⟩
    exact ⟨h1, fun h0 => by omega⟩
  · rintro ⟨h1, h2⟩
    refine ⟨h1, ?_⟩
    by_cases h0 : 0 < v
    · have := h2 h0; right; omega
    · left; omega

theorem last1 {l : List Hand} (h : Fine l) : decide ((l.length : Int) ≤ 12) = custOk l := by
  rw [Bool.eq_iff_iff, custOk_iff, decide_eq_true_eq]
  exact ⟨fun q => ⟨h, by omega⟩, fun q => by omega⟩
theorem last2 {l : List Hand} (h : ¬ Fine l) : false = custOk l := by
  rw [Bool.eq_iff_iff, custOk_iff]
  exact ⟨fun q => (by cases q), fun q => absurd q.1 h⟩

theorem custI (l : List Hand) (hl : l.length ≤ 1048576) : M.impl_IsCustody l = some (custOk l) := by
  unfold M.impl_IsCustody
  obtain ⟨e, h1, h2⟩ : T (iterO (M.impl_IsCustody_l0 l) 0) (fun e => (e = .inl () ∧ Fine l) ∨ (e = .inr false ∧ ¬ Fine l)) := by
    refine T_iter (fun s => ∃ v : Nat, s = (v : Int) ∧ v ≤ l.length ∧ (∀ j, j < v → Step l j) ∧ ∀ k m, k < v → m < l.length → Cn l k m → (l.getD m default).From = (l.getD k default).To) (fun s => l.length - s.toNat) _ ⟨0, rfl, by omega, fun j h => absurd h (Nat.not_lt_zero _), fun k m h => absurd h (Nat.not_lt_zero _)⟩ (by omega) ?_
    rintro _ ⟨v, rfl, h1, h2, h3⟩
    unfold M.impl_IsCustody_l0
    try dsimp only
    refine T_if (fun hq => ?_) (fun hq => ?_)
    · simp only [decide_eq_true_eq] at hq
      rw [Int.toNat_natCast, handI]
      refine T_ask ⟨by omega, hq⟩ ?_
      rw [Option.bind_some]
      refine T_ask (fun _ g => by simp only [decide_eq_true_eq] at g; rw [wrap64_id (by omega) (by omega)]; exact ⟨by omega, by omega⟩) ?_
      have ew : ((v : Int) > 0) → (IntKind.i64.wrap ((v : Int) - 1)).toNat = v - 1 := fun g => by rw [wrap64_id (by omega) (by omega)]; omega
      have eb : (!handOk (l.getD v default) || (decide ((v : Int) > 0) && decide ((l.getD (IntKind.i64.wrap ((v : Int) - 1)).toNat default).Day > (l.getD v default).Day))) = (!handOk (l.getD v default) || (decide ((v : Int) > 0) && decide ((l.getD (v - 1) default).Day > (l.getD v default).Day))) := by
        by_cases g : (v : Int) > 0
        · rw [ew g]
        · rw [decide_eq_false g]; rfl
      rw [eb]
      refine T_if (fun hc => T_ret (.inr ⟨rfl, fun hf => ?_⟩)) (fun hc => ?_)
      · rw [stepBad.2 (hf.1 v (by omega))] at hc
        cases hc
      · have hst := stepBad.1 hc
        rw [wrap64_id (n := (v : Int) + 1) (by omega) (by omega), ← cast_succ]
        refine (nextT l (rcd l v) (v + 1) hl (by omega)).then ?_
        rintro a (⟨rfl, hn⟩ | ⟨m, rfl, g1, g2, g3, g4⟩)
        · refine T_ask (fun g => by simp at g) ?_
          rw [decide_eq_false (show ¬ ((-1 : Int) ≥ 0) by omega), Bool.false_and, cond_false]
          refine T_ret ⟨⟨v + 1, rfl, by omega, fun j hj => ?_, fun k m hk hm hC => ?_⟩, by omega⟩
          · by_cases e : j < v
            · exact h2 j e
            · obtain rfl : j = v := by omega
              exact hst
          · by_cases e : k < v
            · exact h3 k m e hm hC
            · obtain rfl : k = v := by omega
              exact absurd hC.2.1.symm (hn m hC.1 hm)
        · refine T_ask (fun _ => ⟨by omega, by omega⟩) ?_
          rw [decide_eq_true (show ((m : Int) ≥ 0) by omega), Bool.true_and, Int.toNat_natCast]
          have hCn : Cn l v m := ⟨by omega, g3.symm, fun j q1 q2 => by rw [g3]; exact g4 j q1 q2⟩
          refine T_if (fun hd => T_ret (.inr ⟨rfl, fun hf => ?_⟩)) (fun hd => ?_)
          · rw [bne_iff_ne] at hd
            exact hd (hf.2 v m g2 hCn)
          · simp only [bne_eq_false_iff_eq] at hd
            refine T_ret ⟨⟨v + 1, rfl, by omega, fun j hj => ?_, fun k m' hk hm hC => ?_⟩, by omega⟩
            · by_cases e : j < v
              · exact h2 j e
              · obtain rfl : j = v := by omega
                exact hst
            · by_cases e : k < v
              · exact h3 k m' e hm hC
              · obtain rfl : k = v := by omega
                have : m' = m := by
                  rcases Nat.lt_trichotomy m' m with q | q | q
                  · exact absurd hC.2.1.symm (g4 m' hC.1 q)
                  · exact q
                  · exact absurd (g3.trans hC.2.1) (hC.2.2 m g1 q)
                rw [this]; exact hd
    · simp only [decide_eq_false_iff_not] at hq
      obtain rfl : v = l.length := by omega
      exact T_ret (.inl ⟨rfl, h2, fun k m hm hC => h3 k m (by have := hC.1; omega) hm hC⟩)
  rw [h1, Option.bind_some]
  rcases h2 with ⟨rfl, h⟩ | ⟨rfl, h⟩
  · exact congrArg some (last1 h)
  · exact congrArg some (last2 h)

theorem custS (l : List Hand) (hl : l.length ≤ 1048576) : M.spec_l17Good l = some (custOk l) := by
  unfold M.spec_l17Good
  obtain ⟨e, h1, h2⟩ : T (iterO (M.spec_l17Good_l0 l) 0) (fun e => (e = .inl () ∧ Fine l) ∨ (e = .inr false ∧ ¬ Fine l)) := by
    refine T_iter (fun s => ∃ v : Nat, s = (v : Int) ∧ v ≤ l.length ∧ (∀ j, j < v → Step l j) ∧ ∀ k m, m < v → Cn l k m → (l.getD m default).From = (l.getD k default).To) (fun s => l.length - s.toNat) _ ⟨0, rfl, by omega, fun j h => absurd h (Nat.not_lt_zero _), fun k m h => absurd h (Nat.not_lt_zero _)⟩ (by omega) ?_
    rintro _ ⟨v, rfl, h1, h2, h3⟩
    unfold M.spec_l17Good_l0
    try dsimp only
    refine T_if (fun hq => ?_) (fun hq => ?_)
    · simp only [decide_eq_true_eq] at hq
      rw [Int.toNat_natCast, handS]
      refine T_ask ⟨by omega, hq⟩ ?_
      rw [Option.bind_some]
      refine T_ask (fun _ g => by simp only [decide_eq_true_eq] at g; rw [wrap64_id (by omega) (by omega)]; exact ⟨by omega, by omega⟩) ?_
      have ew : ((v : Int) > 0) → (IntKind.i64.wrap ((v : Int) - 1)).toNat = v - 1 := fun g => by rw [wrap64_id (by omega) (by omega)]; omega
      have eb : (!handOk (l.getD v default) || (decide ((v : Int) > 0) && decide ((l.getD (IntKind.i64.wrap ((v : Int) - 1)).toNat default).Day > (l.getD v default).Day))) = (!handOk (l.getD v default) || (decide ((v : Int) > 0) && decide ((l.getD (v - 1) default).Day > (l.getD v default).Day))) := by
        by_cases g : (v : Int) > 0
        · rw [ew g]
        · rw [decide_eq_false g]; rfl
      rw [eb]
      refine T_if (fun hc => T_ret (.inr ⟨rfl, fun hf => ?_⟩)) (fun hc => ?_)
      · rw [stepBad.2 (hf.1 v (by omega))] at hc
        cases hc
      · have hst := stepBad.1 hc
        refine (prevT l (rcd l v) v hl (by omega)).then ?_
        rintro a (⟨rfl, hn⟩ | ⟨m, rfl, g2, g3, g4⟩)
        · refine T_ask (fun g => by simp at g) ?_
          rw [decide_eq_false (show ¬ ((-1 : Int) ≥ 0) by omega), Bool.false_and, cond_false, wrap64_id (n := (v : Int) + 1) (by omega) (by omega)]
          refine T_ret ⟨⟨v + 1, by omega, by omega, fun j hj => ?_, fun k m hm hC => ?_⟩, by omega⟩
          · by_cases e : j < v
            · exact h2 j e
            · obtain rfl : j = v := by omega
              exact hst
          · by_cases e : m < v
            · exact h3 k m e hC
            · obtain rfl : m = v := by omega
              exact absurd hC.2.1 (hn k hC.1)
        · refine T_ask (fun _ => ⟨by omega, by omega⟩) ?_
          rw [decide_eq_true (show ((m : Int) ≥ 0) by omega), Bool.true_and, Int.toNat_natCast]
          have hCn : Cn l m v := ⟨g2, g3, g4⟩
          refine T_if (fun hd => T_ret (.inr ⟨rfl, fun hf => ?_⟩)) (fun hd => ?_)
          · rw [bne_iff_ne] at hd
            exact hd (hf.2 m v (by omega) hCn).symm
          · simp only [bne_eq_false_iff_eq] at hd
            rw [wrap64_id (n := (v : Int) + 1) (by omega) (by omega)]
            refine T_ret ⟨⟨v + 1, by omega, by omega, fun j hj => ?_, fun k m' hm hC => ?_⟩, by omega⟩
            · by_cases e : j < v
              · exact h2 j e
              · obtain rfl : j = v := by omega
                exact hst
            · by_cases e : m' < v
              · exact h3 k m' e hC
              · obtain rfl : m' = v := by omega
                have : k = m := by
                  rcases Nat.lt_trichotomy k m with q | q | q
                  · exact absurd g3 (hC.2.2 m q g2)
                  · exact q
                  · exact absurd hC.2.1 (g4 k q hC.1)
                rw [this]; exact hd.symm
    · simp only [decide_eq_false_iff_not] at hq
      obtain rfl : v = l.length := by omega
      exact T_ret (.inl ⟨rfl, h2, h3⟩)
  rw [h1, Option.bind_some]
  rcases h2 with ⟨rfl, h⟩ | ⟨rfl, h⟩
  · exact congrArg some (last1 h)
  · exact congrArg some (last2 h)

/-! ### Holders -/
def holder (l : List Hand) (r d : Int) : Int := l.foldl (fun a h => bif (h.Record == r) && decide (h.Day ≤ d) then h.To else a) 0
theorem holderI (l : List Hand) (r d : Int) (hl : l.length ≤ 1048576) : M.impl_holderOf l r d = some (holder l r d) := by
  unfold M.impl_holderOf
  rw [iter_fold (s := ((0 : Int), (0 : Int))) (step := M.impl_holderOf_l0 l r d) (fun a k => (a, (k : Int))) (fun a h => bif (h.Record == r) && decide (h.Day ≤ d) then h.To else a) id l 0 (fun _ _ => True) rfl (by omega) trivial (fun a k hk _ => ⟨by
    unfold M.impl_holderOf_l0
    simp (disch := first | omega | (intros; simp only [decide_eq_true_eq, decide_eq_false_iff_not, Bool.not_eq_true, Bool.not_eq_false, Bool.not_true, Bool.not_false] at *; omega)) only [cast_succ, asrt_pos, wrap64_id, Option.bind_some, cond_true, cond_false, decide_eq_true, decide_eq_false, Int.toNat_natCast, Bool.not_true, Bool.not_false, Bool.and_true, Bool.true_and, Bool.and_false, Bool.false_and, Bool.or_true, Bool.true_or, Bool.or_false, Bool.false_or]
    cases ((l.getD k default).Record == r) && decide ((l.getD k default).Day ≤ d) <;> rfl, trivial⟩) (fun a _ => by
    unfold M.impl_holderOf_l0
    simp (disch := first | omega | (intros; simp only [decide_eq_true_eq, decide_eq_false_iff_not, Bool.not_eq_true, Bool.not_eq_false, Bool.not_true, Bool.not_false] at *; omega)) only [cast_succ, asrt_pos, wrap64_id, Option.bind_some, cond_true, cond_false, decide_eq_true, decide_eq_false, Int.toNat_natCast, Bool.not_true, Bool.not_false, Bool.and_true, Bool.true_and, Bool.and_false, Bool.false_and, Bool.or_true, Bool.true_or, Bool.or_false, Bool.false_or, id])]
  rfl
theorem holderS (l : List Hand) (r d : Int) (hl : l.length ≤ 1048576) : M.spec_l17Holder l r d = some (holder l r d) := by
  unfold M.spec_l17Holder
  rw [iter_fold (s := ((0 : Int), (0 : Int))) (step := M.spec_l17Holder_l0 l r d) (fun a k => (a, (k : Int))) (fun a h => bif (h.Record == r) && decide (h.Day ≤ d) then h.To else a) id l 0 (fun _ _ => True) rfl (by omega) trivial (fun a k hk _ => ⟨by
    unfold M.spec_l17Holder_l0
    simp (disch := first | omega | (intros; simp only [decide_eq_true_eq, decide_eq_false_iff_not, Bool.not_eq_true, Bool.not_eq_false, Bool.not_true, Bool.not_false] at *; omega)) only [cast_succ, asrt_pos, wrap64_id, Option.bind_some, cond_true, cond_false, decide_eq_true, decide_eq_false, Int.toNat_natCast, Bool.not_true, Bool.not_false, Bool.and_true, Bool.true_and, Bool.and_false, Bool.false_and, Bool.or_true, Bool.true_or, Bool.or_false, Bool.false_or]
    cases ((l.getD k default).Record == r) && decide ((l.getD k default).Day ≤ d) <;> simp <;> (try (rw [asrt_pos ⟨by omega, by omega⟩]; rfl)), trivial⟩) (fun a _ => by
    unfold M.spec_l17Holder_l0
    simp (disch := first | omega | (intros; simp only [decide_eq_true_eq, decide_eq_false_iff_not, Bool.not_eq_true, Bool.not_eq_false, Bool.not_true, Bool.not_false] at *; omega)) only [cast_succ, asrt_pos, wrap64_id, Option.bind_some, cond_true, cond_false, decide_eq_true, decide_eq_false, Int.toNat_natCast, Bool.not_true, Bool.not_false, Bool.and_true, Bool.true_and, Bool.and_false, Bool.false_and, Bool.or_true, Bool.true_or, Bool.or_false, Bool.false_or, id])]
  rfl

/-! ### Numbers put in their places -/
theorem has1S (l : List Int) (x : Int) (hl : l.length ≤ 1048576) : M.spec_l1Has l x = some (l.any fun y => y == x) := by
  unfold M.spec_l1Has
  rw [iter_any (s := 0) (step := M.spec_l1Has_l0 l x) (fun k => (k : Int)) l.length (fun k => l.getD k default == x) (.inr true) (.inl ()) rfl (by omega) (fun k hk hp => by
    unfold M.spec_l1Has_l0
    simp (disch := first | omega | (intros; simp only [decide_eq_true_eq, decide_eq_false_iff_not, Bool.not_eq_true, Bool.not_eq_false, Bool.not_true, Bool.not_false] at *; omega)) only [cast_succ, asrt_pos, wrap64_id, Option.bind_some, cond_true, cond_false, decide_eq_true, decide_eq_false, Int.toNat_natCast, Bool.not_true, Bool.not_false, Bool.and_true, Bool.true_and, Bool.and_false, Bool.false_and, Bool.or_true, Bool.true_or, Bool.or_false, Bool.false_or, hp]) (fun k hk hp => by
    unfold M.spec_l1Has_l0
    simp (disch := first | omega | (intros; simp only [decide_eq_true_eq, decide_eq_false_iff_not, Bool.not_eq_true, Bool.not_eq_false, Bool.not_true, Bool.not_false] at *; omega)) only [cast_succ, asrt_pos, wrap64_id, Option.bind_some, cond_true, cond_false, decide_eq_true, decide_eq_false, Int.toNat_natCast, Bool.not_true, Bool.not_false, Bool.and_true, Bool.true_and, Bool.and_false, Bool.false_and, Bool.or_true, Bool.true_or, Bool.or_false, Bool.false_or, hp]) (by
    unfold M.spec_l1Has_l0
    simp (disch := first | omega | (intros; simp only [decide_eq_true_eq, decide_eq_false_iff_not, Bool.not_eq_true, Bool.not_eq_false, Bool.not_true, Bool.not_false] at *; omega)) only [cast_succ, asrt_pos, wrap64_id, Option.bind_some, cond_true, cond_false, decide_eq_true, decide_eq_false, Int.toNat_natCast, Bool.not_true, Bool.not_false, Bool.and_true, Bool.true_and, Bool.and_false, Bool.false_and, Bool.or_true, Bool.true_or, Bool.or_false, Bool.false_or]), ← any_getD (l := l) (p := fun y => y == x)]
  cases l.any (fun y => y == x) <;> rfl

/-- Strictly ascending, with the members of xs. -/
def Coll (out xs : List Int) : Prop := out.Pairwise (· < ·) ∧ (∀ y, y ∈ out ↔ y ∈ xs) ∧ out.length ≤ xs.length
theorem Coll.nil : Coll [] [] := ⟨List.Pairwise.nil, fun y => Iff.rfl, Nat.le_refl _⟩
theorem Coll.eq {out xs : List Int} (h : Coll out xs) : out = once xs := strict_ext h.1 (once_spec xs).1 fun y => (h.2.1 y).trans ((once_spec xs).2 y).symm
theorem Coll.has {out xs : List Int} {x : Int} (h : Coll out xs) (hx : x ∈ out) : Coll out (xs ++ [x]) := by
  refine ⟨h.1, fun y => ?_, by simp; have := h.2.2; omega⟩
  rw [List.mem_append, List.mem_singleton, h.2.1 y]
  constructor
  · exact fun q => .inl q
  · rintro (q | rfl)
    · exact q
    · exact (h.2.1 y).1 hx

theorem slc0' {β : Type} (l : List β) (k : Nat) : slc l 0 (k : Int) = l.take k := by simp [slc]
theorem slcN' {β : Type} (l : List β) (k : Nat) : slc l (k : Int) (l.length : Int) = l.drop k := by simp [slc]

theorem put1S {out xs : List Int} {x : Int} (h : Coll out xs) (hl : xs.length ≤ 1048576) : T (M.spec_l1Put out x) (fun r => Coll r (xs ++ [x])) := by
  have hlen := h.2.2
  unfold M.spec_l1Put
  refine T.then (Q := fun k => ∃ n : Nat, k = (n : Int) ∧ n ≤ out.length ∧ (∀ j, j < n → out.getD j default < x) ∧ (n < out.length → x ≤ out.getD n default)) (T_iter (fun s => ∃ n : Nat, s = (n : Int) ∧ n ≤ out.length ∧ ∀ j, j < n → out.getD j default < x) (fun s => out.length - s.toNat) _ ⟨0, rfl, by omega, fun j h => absurd h (Nat.not_lt_zero _)⟩ (by omega) ?_) ?_
  · rintro _ ⟨n, rfl, h1, h2⟩
    unfold M.spec_l1Put_l0
    try dsimp only
    rw [Int.toNat_natCast]
    refine T_ask (fun g => by simp only [decide_eq_true_eq] at g; exact ⟨by omega, g⟩) (T_if (fun hq => ?_) (fun hq => ?_))
    · simp only [Bool.and_eq_true, decide_eq_true_eq] at hq
      refine T_ret ?_
      simp only
      rw [wrap64_id (by omega) (by omega)]
      refine ⟨⟨n + 1, by omega, by omega, fun j hj => ?_⟩, by omega⟩
      by_cases e : j < n
      · exact h2 j e
      · obtain rfl : j = n := by omega
        exact hq.2
    · simp only [Bool.and_eq_false_iff, decide_eq_false_iff_not] at hq
      exact T_ret ⟨n, rfl, h1, h2, fun g => by omega⟩
  · rintro _ ⟨n, rfl, h1, h2, h3⟩
    try dsimp only
    rw [Int.toNat_natCast]
    refine T_ask (fun g => by simp only [decide_eq_true_eq] at g; exact ⟨by omega, g⟩) (T_if (fun hq => ?_) (fun hq => ?_))
    · simp only [Bool.and_eq_true, decide_eq_true_eq, beq_iff_eq] at hq
      refine T_ret (h.has ?_)
      rw [← hq.2]
      exact getD_mem (by omega)
    · have hne : n < out.length → x < out.getD n default := by
        intro g
        simp only [Bool.and_eq_false_iff, decide_eq_false_iff_not, beq_eq_false_iff_ne, ne_eq] at hq
        have := h3 g
        omega
      rw [slc0', slcN']
      refine T_ask ⟨by omega, by omega, by omega⟩ (T_ask (by simp; omega) (T_ask (by simp; omega) (T_ask ⟨by omega, by omega, by omega⟩ (T_ask (by simp; omega) (T_in (T_ret (T_ret ?_)))))))
      simp only [List.nil_append, List.append_assoc, List.singleton_append]
      have hs := h.1
      rw [← List.take_append_drop n out, List.pairwise_append] at hs
      obtain ⟨s1, s2, s3⟩ := hs
      have hd : ∀ b ∈ out.drop n, x < b := by
        intro b hb
        obtain ⟨j, hj, rfl⟩ := List.getElem_of_mem hb
        rw [List.length_drop] at hj
        rw [List.getElem_drop]
        have hx := hne (by omega)
        by_cases e : j = 0
        · subst e
          have e2 : out.getD n default = out[n + 0] := by simp [List.getD, show n < out.length by omega]
          omega
        · have := pairwise_getD h.1 (i := n) (j := n + j) (by omega) (by omega)
          have e2 : out.getD (n + j) default = out[n + j] := by simp [List.getD, show n + j < out.length by omega]
          omega
      have ht : ∀ a ∈ out.take n, a < x := by
        intro a ha
        obtain ⟨j, hj, rfl⟩ := List.getElem_of_mem ha
        rw [List.length_take] at hj
        rw [List.getElem_take]
        have := h2 j (by omega)
        have e2 : out.getD j default = out[j] := by simp [List.getD, show j < out.length by omega]
        omega
      refine ⟨List.pairwise_append.2 ⟨s1, List.pairwise_cons.2 ⟨hd, s2⟩, fun a ha b hb => ?_⟩, fun y => ?_, ?_⟩
      · rcases List.mem_cons.1 hb with rfl | hb
        · exact ht a ha
        · exact s3 a ha b hb
      · have hm := h.2.1 y
        rw [← List.take_append_drop n out, List.mem_append] at hm
        rw [List.mem_append, List.mem_cons, List.mem_append, List.mem_singleton, ← hm]
        constructor
        · rintro (q | q | q)
          · exact .inl (.inl q)
          · exact .inr q
          · exact .inl (.inr q)
        · rintro ((q | q) | q)
          · exact .inl q
          · exact .inr (.inr q)
          · exact .inr (.inl q)
      · simp only [List.length_append, List.length_cons, List.length_take, List.length_drop, List.length_nil]
        omega

theorem onceI (l : List Int) (hl : l.length ≤ 12) : M.impl_eachOnce l = some (once l) := by
  unfold M.impl_eachOnce
  rw [sortI l hl, Option.bind_some, asrt_pos srt_len, compactI _ (by rw [srt_len]; omega)]
  rfl

/-! ### Held by somebody -/
def heldP (l : List Hand) (w d : Int) (h : Hand) : Bool := holder l h.Record d == w
noncomputable def HeldD (l : List Hand) (w d : Int) : List Int × Bool := bif (custOk l && inR w 1 20) && inR d 0 20000 then (once ((l.filter (heldP l w d)).map (·.Record)), true) else ([], false)

theorem heldByI (l : List Hand) (w d : Int) (hl : l.length ≤ 1048576) : M.impl_HeldBy l w d = some (HeldD l w d) := by
  unfold M.impl_HeldBy HeldD
  simp only [custI l hl, personI, isDayI, Option.bind_some, bif_some]
  cases h1 : custOk l
  · rfl
  cases h2 : inR w 1 20
  · rfl
  cases h3 : inR d 0 20000
  · rfl
  have h12 := (custOk_spec h1).2
  simp only [Bool.not_true, cond_false, Bool.or_self, Bool.and_self, cond_true]
  rw [iter_coll (s := (([] : List Int), (0 : Int))) (step := M.impl_HeldBy_l0 l w d) (fun a k => (a, (k : Int))) (fun h : Hand => bif heldP l w d h then [h.Record] else []) id l rfl (by omega) (fun k _ => if_len _ _) (fun a k hk ha => by
    unfold M.impl_HeldBy_l0 heldP
    have h4 := holderI l (l.getD k default).Record d hl
    simp (disch := first | omega | (intros; simp only [decide_eq_true_eq, decide_eq_false_iff_not, Bool.not_eq_true, Bool.not_eq_false, Bool.not_true, Bool.not_false] at *; omega)) only [cast_succ, asrt_pos, wrap64_id, Option.bind_some, cond_true, cond_false, decide_eq_true, decide_eq_false, Int.toNat_natCast, Bool.not_true, Bool.not_false, Bool.and_true, Bool.true_and, Bool.and_false, Bool.false_and, Bool.or_true, Bool.true_or, Bool.or_false, Bool.false_or, app_if, List.length_singleton, h4]
    cases holder l (l.getD k default).Record d == w <;> rfl) (fun a ha => by
    unfold M.impl_HeldBy_l0
    simp (disch := first | omega | (intros; simp only [decide_eq_true_eq, decide_eq_false_iff_not, Bool.not_eq_true, Bool.not_eq_false, Bool.not_true, Bool.not_false] at *; omega)) only [cast_succ, asrt_pos, wrap64_id, Option.bind_some, cond_true, cond_false, decide_eq_true, decide_eq_false, Int.toNat_natCast, Bool.not_true, Bool.not_false, Bool.and_true, Bool.true_and, Bool.and_false, Bool.false_and, Bool.or_true, Bool.true_or, Bool.or_false, Bool.false_or, id])]
  simp only [id, Option.bind_some, flatMap_if]
  rw [onceI _ (by rw [List.length_map]; exact Nat.le_trans (List.length_filter_le _ _) h12)]
  rfl

theorem heldByS (l : List Hand) (w d : Int) (hl : l.length ≤ 1048576) : M.spec_HeldBy l w d = some (HeldD l w d) := by
  unfold M.spec_HeldBy HeldD
  simp only [custS l hl, who17S, l2DayS, Option.bind_some, bif_some]
  cases h1 : custOk l
  · rfl
  cases h2 : inR w 1 20
  · rfl
  cases h3 : inR d 0 20000
  · rfl
  have h12 := (custOk_spec h1).2
  simp only [Bool.not_true, cond_false, Bool.or_self, Bool.and_self, cond_true]
  obtain ⟨e, g1, g2⟩ : T (iterO (M.spec_HeldBy_l0 l w d) ([], 0)) (fun e => Coll e ((l.filter (heldP l w d)).map (·.Record))) := by
    refine T_iter (fun s => ∃ v : Nat, s.2 = (v : Int) ∧ v ≤ l.length ∧ Coll s.1 (((l.take v).filter (heldP l w d)).map (·.Record))) (fun s => l.length - s.2.toNat) _ ⟨0, rfl, by omega, Coll.nil⟩ (by simp only; omega) ?_
    rintro ⟨out, _⟩ ⟨v, rfl, q1, q2⟩
    simp only at q2
    have hln : (((l.take v).filter (heldP l w d)).map (·.Record)).length ≤ 12 := by
      rw [List.length_map]
      refine Nat.le_trans (List.length_filter_le _ _) ?_
      rw [List.length_take]; omega
    have hol := q2.2.2
    unfold M.spec_HeldBy_l0
    try dsimp only
    refine T_if (fun hq => ?_) (fun hq => ?_)
    · simp only [decide_eq_true_eq] at hq
      have hv : v < l.length := by omega
      have htk : ((l.take (v + 1)).filter (heldP l w d)).map (·.Record) = ((l.take v).filter (heldP l w d)).map (·.Record) ++ (bif heldP l w d (l.getD v default) then [(l.getD v default).Record] else []) := by
        rw [take_succ_getD hv, List.filter_append, List.map_append]
        congr 1
        rw [List.filter_cons]
        cases heldP l w d (l.getD v default) <;> rfl
      rw [Int.toNat_natCast, holderS l _ _ hl]
      refine T_in (T_ask ⟨by omega, hq⟩ ?_)
      rw [Option.bind_some, has1S _ _ (by omega), bif_some, Option.bind_some]
      have fin : ∀ r, Coll r (((l.take (v + 1)).filter (heldP l w d)).map (·.Record)) → (∃ u : Nat, IntKind.i64.wrap ((v : Int) + 1) = (u : Int) ∧ u ≤ l.length ∧ Coll r (((l.take u).filter (heldP l w d)).map (·.Record))) ∧ l.length - (IntKind.i64.wrap ((v : Int) + 1)).toNat < l.length - v := by
        intro r hr
        rw [wrap64_id (by omega) (by omega)]
        exact ⟨⟨v + 1, by omega, by omega, hr⟩, by omega⟩
      rw [htk] at fin
      have hp : heldP l w d (l.getD v default) = (holder l (l.getD v default).Record d == w) := rfl
      rw [hp] at fin
      cases hc : (holder l (l.getD v default).Record d == w)
      · rw [hc] at fin
        simp only [cond_false, List.append_nil] at fin
        simp only [Bool.false_and, cond_false]
        exact T_ret (T_ret (fin out q2))
      · rw [hc] at fin
        simp only [cond_true] at fin
        simp only [cond_true, Bool.true_and]
        refine T_if (fun hd => ?_) (fun hd => ?_)
        · exact (put1S q2 (by omega)).then fun r hr => T_ret (T_ret (fin r hr))
        · simp only [Bool.not_eq_false', List.any_eq_true, beq_iff_eq] at hd
          obtain ⟨y, hy, rfl⟩ := hd
          exact T_ret (T_ret (fin out (q2.has hy)))
    · simp only [decide_eq_false_iff_not] at hq
      have : v = l.length := by omega
      rw [this, List.take_length] at q2
      exact T_ret q2
  rw [g1, Option.bind_some, g2.eq]

end Go.Proofs.Ytmpknfachmfbaaa
