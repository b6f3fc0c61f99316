/-
  Custody: hands, valid lists, holders. Plain.
-/
import Derived.Test.YtpmjemddofcmaaaSl
set_option linter.unusedSimpArgs false
set_option linter.unusedVariables false
namespace Go.Proofs.Ytpmjemddofcmaaa
open Go.VS

/-! ### Hands -/
def handOk (h : Hand) : Bool := ((((inR h.Record 1 999 && inR h.From 1 20) && inR h.To 1 20) && (h.From != h.To)) && inR h.Day 0 20000) && inR h.Sum 0 999999
theorem recIdI (n : Int) : M.impl_isRecordId n = some (inR n 1 999) := rfl
theorem personI (n : Int) : M.impl_isPerson n = some (inR n 1 20) := rfl
theorem rec17S (n : Int) : M.spec_l17Record n = some (inR n 1 999) := rfl
theorem who17S (n : Int) : M.spec_l17Who n = some (inR n 1 20) := rfl
theorem handI (h : Hand) : M.impl_IsHand h = some (handOk h) := by
  unfold M.impl_IsHand handOk
  simp only [recIdI, personI, isDayI, withinI, Option.bind_some]
  cases inR h.Record 1 999 <;> cases inR h.From 1 20 <;> cases inR h.To 1 20 <;> cases (h.From != h.To) <;> cases inR h.Day 0 20000 <;> rfl
theorem handS (h : Hand) : M.spec_l17One h = some (handOk h) := by
  unfold M.spec_l17One handOk
  simp only [rec17S, who17S, l2DayS, l1InS, Option.bind_some]
  cases inR h.Record 1 999 <;> cases inR h.From 1 20 <;> cases inR h.To 1 20 <;> cases (h.From != h.To) <;> cases inR h.Day 0 20000 <;> rfl
theorem handOk_spec {h : Hand} (g : handOk h = true) : (1 ≤ h.Record ∧ h.Record ≤ 999) ∧ (1 ≤ h.From ∧ h.From ≤ 20) ∧ (1 ≤ h.To ∧ h.To ≤ 20) ∧ h.From ≠ h.To ∧ (0 ≤ h.Day ∧ h.Day ≤ 20000) ∧ (0 ≤ h.Sum ∧ h.Sum ≤ 999999) := by
  unfold handOk at g
  simp only [Bool.and_eq_true, inR_true, bne_iff_ne, ne_eq] at g
  exact ⟨g.1.1.1.1.1, g.1.1.1.1.2, g.1.1.1.2, g.1.1.2, g.1.2, g.2⟩

abbrev rcd (l : List Hand) (k : Nat) : Int := (l.getD k default).Record

/-! ### The next one, and the one before -/
theorem nextT (l : List Hand) (r : Int) (i : Nat) (hl : l.length ≤ 1048576) (hi : i ≤ l.length) : T (M.impl_next l r (i : Int)) (fun a => (a = -1 ∧ ∀ j, i ≤ j → j < l.length → rcd l j ≠ r) ∨ ∃ m : Nat, a = (m : Int) ∧ i ≤ m ∧ m < l.length ∧ rcd l m = r ∧ ∀ j, i ≤ j → j < m → rcd l j ≠ r) := by
  unfold M.impl_next
  refine T.then (Q := fun e => (e = .inl () ∧ ∀ j, i ≤ j → j < l.length → rcd l j ≠ r) ∨ ∃ m : Nat, e = .inr (m : Int) ∧ i ≤ m ∧ m < l.length ∧ rcd l m = r ∧ ∀ j, i ≤ j → j < m → rcd l j ≠ r) (T_iter (fun s => ∃ k : Nat, s = (k : Int) ∧ i ≤ k ∧ k ≤ l.length ∧ ∀ j, i ≤ j → j < k → rcd l j ≠ r) (fun s => l.length - s.toNat) _ ⟨i, rfl, Nat.le_refl _, hi, fun j h1 h2 => absurd h1 (by omega)⟩ (by omega) ?_) ?_
  · rintro _ ⟨k, rfl, h1, h2, h3⟩
    unfold M.impl_next_l0
    try dsimp only
    refine T_if (fun hq => ?_) (fun hq => ?_)
    · simp only [decide_eq_true_eq] at hq
      rw [Int.toNat_natCast]
      refine T_ask ⟨by omega, hq⟩ (T_if (fun hc => ?_) (fun hc => ?_))
      · rw [beq_iff_eq] at hc
        exact T_ret (.inr ⟨k, rfl, h1, by omega, hc, h3⟩)
      · rw [beq_eq_false_iff_ne] at hc
        refine T_ret ?_
        simp only
        rw [wrap64_id (by omega) (by omega)]
        refine ⟨⟨k + 1, by omega, by omega, by omega, fun j g1 g2 => ?_⟩, by omega⟩
        by_cases e : j < k
        · exact h3 j g1 e
        · obtain rfl : j = k := by omega
          exact hc
    · simp only [decide_eq_false_iff_not] at hq
      obtain rfl : k = l.length := by omega
      exact T_ret (.inl ⟨rfl, h3⟩)
  · rintro _ (⟨rfl, h⟩ | ⟨m, rfl, h⟩)
    · exact T_ret (.inl ⟨rfl, h⟩)
    · exact T_ret (.inr ⟨m, rfl, h⟩)

theorem prevT (l : List Hand) (r : Int) (i : Nat) (hl : l.length ≤ 1048576) (hi : i ≤ l.length) : T (M.spec_l17Before l r (i : Int)) (fun a => (a = -1 ∧ ∀ j, j < i → rcd l j ≠ r) ∨ ∃ m : Nat, a = (m : Int) ∧ m < i ∧ rcd l m = r ∧ ∀ j, m < j → j < i → rcd l j ≠ r) := by
  unfold M.spec_l17Before
  rw [wrap64_id (by omega) (by omega)]
  refine T.then (Q := fun e => (e = .inl () ∧ ∀ j, j < i → rcd l j ≠ r) ∨ ∃ m : Nat, e = .inr (m : Int) ∧ m < i ∧ rcd l m = r ∧ ∀ j, m < j → j < i → rcd l j ≠ r) (T_iter (fun s => ∃ k : Nat, s = (k : Int) - 1 ∧ k ≤ i ∧ ∀ j, k ≤ j → j < i → rcd l j ≠ r) (fun s => (s + 1).toNat) _ ⟨i, rfl, Nat.le_refl _, fun j h1 h2 => absurd h1 (by omega)⟩ (by omega) ?_) ?_
  · rintro _ ⟨k, rfl, h1, h3⟩
    unfold M.spec_l17Before_l0
    try dsimp only
    refine T_if (fun hq => ?_) (fun hq => ?_)
    · simp only [decide_eq_true_eq] at hq
      obtain ⟨q, rfl⟩ : ∃ q, k = q + 1 := ⟨k - 1, by omega⟩
      rw [show ((q + 1 : Nat) : Int) - 1 = (q : Int) by omega, Int.toNat_natCast]
      refine T_ask ⟨by omega, by omega⟩ (T_if (fun hc => ?_) (fun hc => ?_))
      · rw [beq_iff_eq] at hc
        exact T_ret (.inr ⟨q, rfl, by omega, hc, fun j g1 g2 => h3 j (by omega) g2⟩)
      · rw [beq_eq_false_iff_ne] at hc
        refine T_ret ?_
        simp only
        rw [wrap64_id (by omega) (by omega)]
        refine ⟨⟨q, rfl, by omega, fun j g1 g2 => ?_⟩, by omega⟩
        by_cases e : q + 1 ≤ j
        · exact h3 j e g2
        · obtain rfl : j = q := by omega
          exact hc
    · simp only [decide_eq_false_iff_not] at hq
      obtain rfl : k = 0 := by omega
      exact T_ret (.inl ⟨rfl, fun j h => h3 j (by omega) h⟩)
  · rintro _ (⟨rfl, h⟩ | ⟨m, rfl, h⟩)
    · exact T_ret (.inl ⟨rfl, h⟩)
    · exact T_ret (.inr ⟨m, rfl, h⟩)

/-! ### Valid lists -/
/-- k and m are hands of one record that follow each other. -/
def Cn (l : List Hand) (k m : Nat) : Prop := k < m ∧ rcd l k = rcd l m ∧ ∀ j, k < j → j < m → rcd l j ≠ rcd l m
def Step (l : List Hand) (v : Nat) : Prop := handOk (l.getD v default) = true ∧ (0 < v → (l.getD (v - 1) default).Day ≤ (l.getD v default).Day)
def Fine (l : List Hand) : Prop := (∀ v, v < l.length → Step l v) ∧ ∀ k m, m < l.length → Cn l k m → (l.getD m default).From = (l.getD k default).To
noncomputable def custOk (l : List Hand) : Bool := open Classical in decide (Fine l ∧ l.length ≤ 12)
theorem custOk_spec {l : List Hand} (h : custOk l = true) : Fine l ∧ l.length ≤ 12 := by
  simpa [custOk] using h
theorem custOk_iff {l : List Hand} : custOk l = true ↔ Fine l ∧ l.length ≤ 12 := by simp [custOk]

theorem stepBad {l : List Hand} {v : Nat} : (!handOk (l.getD v default) || (decide ((v : Int) > 0) && decide ((l.getD (v - 1) default).Day > (l.getD v default).Day))) = false ↔ Step l v := by
  unfold Step
  simp only [Bool.or_eq_false_iff, Bool.not_eq_false', Bool.and_eq_false_iff, decide_eq_false_iff_not]
  constructor
  · rintro ⟨h1, h2⟩
    exact ⟨h1, fun h0 => by omega⟩
  · rintro ⟨h1, h2⟩
    refine ⟨h1, ?_⟩
    by_cases h0 : 0 < v
    · have := h2 h0; right; omega
    · left; omega

theorem last1 {l : List Hand} (h : Fine l) : decide ((l.length : Int) ≤ 12) = custOk l := by
  rw [Bool.eq_iff_iff, custOk_iff, decide_eq_true_eq]
  exact ⟨fun q => ⟨h, by omega⟩, fun q => by omega⟩
theorem last2 {l : List Hand} (h : ¬ Fine l) : false = custOk l := by
  rw [Bool.eq_iff_iff, custOk_iff]
  exact ⟨fun q => (by cases q), fun q => absurd q.1 h⟩

theorem custI (l : List Hand) (hl : l.length ≤ 1048576) : M.impl_IsCustody l = some (custOk l) := by
  unfold M.impl_IsCustody
  obtain ⟨e, h1, h2⟩ : T (iterO (M.impl_IsCustody_l0 l) 0) (fun e => (e = .inl () ∧ Fine l) ∨ (e = .inr false ∧ ¬ Fine l)) := by
    refine T_iter (fun s => ∃ v : Nat, s = (v : Int) ∧ v ≤ l.length ∧ (∀ j, j < v → Step l j) ∧ ∀ k m, k < v → m < l.length → Cn l k m → (l.getD m default).From = (l.getD k default).To) (fun s => l.length - s.toNat) _ ⟨0, rfl, by omega, fun j h => absurd h (Nat.not_lt_zero _), fun k m h => absurd h (Nat.not_lt_zero _)⟩ (by omega) ?_
    rintro _ ⟨v, rfl, h1, h2, h3⟩
    unfold M.impl_IsCustody_l0
    try dsimp only
    refine T_if (fun hq => ?_) (fun hq => ?_)
    · simp only [decide_eq_true_eq] at hq
      rw [Int.toNat_natCast, handI]
      refine T_ask ⟨by omega, hq⟩ ?_
      rw [Option.bind_some]
      refine T_ask (fun _ g => by simp only [decide_eq_true_eq] at g; rw [wrap64_id (by omega) (by omega)]; exact ⟨by omega, by omega⟩) ?_
      have ew : ((v : Int) > 0) → (IntKind.i64.wrap ((v : Int) - 1)).toNat = v - 1 := fun g => by rw [wrap64_id (by omega) (by omega)]; omega
      have eb : (!handOk (l.getD v default) || (decide ((v : Int) > 0) && decide ((l.getD (IntKind.i64.wrap ((v : Int) - 1)).toNat default).Day > (l.getD v default).Day))) = (!handOk (l.getD v default) || (decide ((v : Int) > 0) && decide ((l.getD (v - 1) default).Day > (l.getD v default).Day))) := by
        by_cases g : (v : Int) > 0
        · rw [ew g]
        · rw [decide_eq_false g]; rfl
      rw [eb]
      refine T_if (fun hc => T_ret (.inr ⟨rfl, fun hf => ?_⟩)) (fun hc => ?_)
      · rw [stepBad.2 (hf.1 v (by omega))] at hc
        cases hc
      · have hst := stepBad.1 hc
        rw [wrap64_id (n := (v : Int) + 1) (by omega) (by omega), ← cast_succ]
        refine (nextT l (rcd l v) (v + 1) hl (by omega)).then ?_
        rintro a (⟨rfl, hn⟩ | ⟨m, rfl, g1, g2, g3, g4⟩)
        · refine T_ask (fun g => by simp at g) ?_
          rw [decide_eq_false (show ¬ ((-1 : Int) ≥ 0) by omega), Bool.false_and, cond_false]
          refine T_ret ⟨⟨v + 1, rfl, by omega, fun j hj => ?_, fun k m hk hm hC => ?_⟩, by omega⟩
          · by_cases e : j < v
            · exact h2 j e
            · obtain rfl : j = v := by omega
              exact hst
          · by_cases e : k < v
            · exact h3 k m e hm hC
            · obtain rfl : k = v := by omega
              exact absurd hC.2.1.symm (hn m hC.1 hm)
        · refine T_ask (fun _ => ⟨by omega, by omega⟩) ?_
          rw [decide_eq_true (show ((m : Int) ≥ 0) by omega), Bool.true_and, Int.toNat_natCast]
          have hCn : Cn l v m := ⟨by omega, g3.symm, fun j q1 q2 => by rw [g3]; exact g4 j q1 q2⟩
          refine T_if (fun hd => T_ret (.inr ⟨rfl, fun hf => ?_⟩)) (fun hd => ?_)
          · rw [bne_iff_ne] at hd
            exact hd (hf.2 v m g2 hCn)
          · simp only [bne_eq_false_iff_eq] at hd
            refine T_ret ⟨⟨v + 1, rfl, by omega, fun j hj => ?_, fun k m' hk hm hC => ?_⟩, by omega⟩
            · by_cases e : j < v
              · exact h2 j e
              · obtain rfl : j = v := by omega
                exact hst
            · by_cases e : k < v
              · exact h3 k m' e hm hC
              · obtain rfl : k = v := by omega
                have : m' = m := by
                  rcases Nat.lt_trichotomy m' m with q | q | q
                  · exact absurd hC.2.1.symm (g4 m' hC.1 q)
                  · exact q
                  · exact absurd (g3.trans hC.2.1) (hC.2.2 m g1 q)
                rw [this]; exact hd
    · simp only [decide_eq_false_iff_not] at hq
      obtain rfl : v = l.length := by omega
      exact T_ret (.inl ⟨rfl, h2, fun k m hm hC => h3 k m (by have := hC.1; omega) hm hC⟩)
  rw [h1, Option.bind_some]
  rcases h2 with ⟨rfl, h⟩ | ⟨rfl, h⟩
  · exact congrArg some (last1 h)
  · exact congrArg some (last2 h)

theorem custS (l : List Hand) (hl : l.length ≤ 1048576) : M.spec_l17Good l = some (custOk l) := by
  unfold M.spec_l17Good
  obtain ⟨e, h1, h2⟩ : T (iterO (M.spec_l17Good_l0 l) 0) (fun e => (e = .inl () ∧ Fine l) ∨ (e = .inr false ∧ ¬ Fine l)) := by
    refine T_iter (fun s => ∃ v : Nat, s = (v : Int) ∧ v ≤ l.length ∧ (∀ j, j < v → Step l j) ∧ ∀ k m, m < v → Cn l k m → (l.getD m default).From = (l.getD k default).To) (fun s => l.length - s.toNat) _ ⟨0, rfl, by omega, fun j h => absurd h (Nat.not_lt_zero _), fun k m h => absurd h (Nat.not_lt_zero _)⟩ (by omega) ?_
    rintro _ ⟨v, rfl, h1, h2, h3⟩
    unfold M.spec_l17Good_l0
    try dsimp only
    refine T_if (fun hq => ?_) (fun hq => ?_)
    · simp only [decide_eq_true_eq] at hq
      rw [Int.toNat_natCast, handS]
      refine T_ask ⟨by omega, hq⟩ ?_
      rw [Option.bind_some]
      refine T_ask (fun _ g => by simp only [decide_eq_true_eq] at g; rw [wrap64_id (by omega) (by omega)]; exact ⟨by omega, by omega⟩) ?_
      have ew : ((v : Int) > 0) → (IntKind.i64.wrap ((v : Int) - 1)).toNat = v - 1 := fun g => by rw [wrap64_id (by omega) (by omega)]; omega
      have eb : (!handOk (l.getD v default) || (decide ((v : Int) > 0) && decide ((l.getD (IntKind.i64.wrap ((v : Int) - 1)).toNat default).Day > (l.getD v default).Day))) = (!handOk (l.getD v default) || (decide ((v : Int) > 0) && decide ((l.getD (v - 1) default).Day > (l.getD v default).Day))) := by
        by_cases g : (v : Int) > 0
        · rw [ew g]
        · rw [decide_eq_false g]; rfl
      rw [eb]
      refine T_if (fun hc => T_ret (.inr ⟨rfl, fun hf => ?_⟩)) (fun hc => ?_)
      · rw [stepBad.2 (hf.1 v (by omega))] at hc
        cases hc
      · have hst := stepBad.1 hc
        refine (prevT l (rcd l v) v hl (by omega)).then ?_
        rintro a (⟨rfl, hn⟩ | ⟨m, rfl, g2, g3, g4⟩)
        · refine T_ask (fun g => by simp at g) ?_
          rw [decide_eq_false (show ¬ ((-1 : Int) ≥ 0) by omega), Bool.false_and, cond_false, wrap64_id (n := (v : Int) + 1) (by omega) (by omega)]
          refine T_ret ⟨⟨v + 1, by omega, by omega, fun j hj => ?_, fun k m hm hC => ?_⟩, by omega⟩
          · by_cases e : j < v
            · exact h2 j e
            · obtain rfl : j = v := by omega
              exact hst
          · by_cases e : m < v
            · exact h3 k m e hC
            · obtain rfl : m = v := by omega
              exact absurd hC.2.1 (hn k hC.1)
        · refine T_ask (fun _ => ⟨by omega, by omega⟩) ?_
          rw [decide_eq_true (show ((m : Int) ≥ 0) by omega), Bool.true_and, Int.toNat_natCast]
          have hCn : Cn l m v := ⟨g2, g3, g4⟩
          refine T_if (fun hd => T_ret (.inr ⟨rfl, fun hf => ?_⟩)) (fun hd => ?_)
          · rw [bne_iff_ne] at hd
            exact hd (hf.2 m v (by omega) hCn).symm
          · simp only [bne_eq_false_iff_eq] at hd
            rw [wrap64_id (n := (v : Int) + 1) (by omega) (by omega)]
            refine T_ret ⟨⟨v + 1, by omega, by omega, fun j hj => ?_, fun k m' hm hC => ?_⟩, by omega⟩
            · by_cases e : j < v
              · exact h2 j e
              · obtain rfl : j = v := by omega
                exact hst
            · by_cases e : m' < v
              · exact h3 k m' e hC
              · obtain rfl : m' = v := by omega
                have : k = m := by
                  rcases Nat.lt_trichotomy k m with q | q | q
                  · exact absurd g3 (hC.2.2 m q g2)
                  · exact q
                  · exact absurd hC.2.1 (g4 k q hC.1)
                rw [this]; exact hd.symm
    · simp only [decide_eq_false_iff_not] at hq
      obtain rfl : v = l.length := by omega
      exact T_ret (.inl ⟨rfl, h2, h3⟩)
  rw [h1, Option.bind_some]
  rcases h2 with ⟨rfl, h⟩ | ⟨rfl, h⟩
  · exact congrArg some (last1 h)
  · exact congrArg some (last2 h)

/-! ### Holders -/
def holder (l : List Hand) (r d : Int) : Int := l.foldl (fun a h => bif (h.Record == r) && decide (h.Day ≤ d) then h.To else a) 0
/-! ### Numbers put in their places -/
/-- Strictly ascending, with the members of xs. -/
def Coll (out xs : List Int) : Prop := out.Pairwise (· < ·) ∧ (∀ y, y ∈ out ↔ y ∈ xs) ∧ out.length ≤ xs.length
theorem Coll.nil : Coll [] [] := ⟨List.Pairwise.nil, fun y => Iff.rfl, Nat.le_refl _⟩
theorem Coll.eq {out xs : List Int} (h : Coll out xs) : out = once xs := strict_ext h.1 (once_spec xs).1 fun y => (h.2.1 y).trans ((once_spec xs).2 y).symm
theorem Coll.has {out xs : List Int} {x : Int} (h : Coll out xs) (hx : x ∈ out) : Coll out (xs ++ [x]) := by
  refine ⟨h.1, fun y => ?_, by simp; have := h.2.2; omega⟩
  rw [List.mem_append, List.mem_singleton, h.2.1 y]
  constructor
  · exact fun q => .inl q
  · rintro (q | rfl)
    · exact q
    · exact (h.2.1 y).1 hx

theorem slc0' {β : Type} (l : List β) (k : Nat) : slc l 0 (k : Int) = l.take k := by simp [slc]
theorem slcN' {β : Type} (l : List β) (k : Nat) : slc l (k : Int) (l.length : Int) = l.drop k := by simp [slc]

/-! ### Held by somebody -/
def heldP (l : List Hand) (w d : Int) (h : Hand) : Bool := holder l h.Record d == w
noncomputable def HeldD (l : List Hand) (w d : Int) : List Int × Bool := bif (custOk l && inR w 1 20) && inR d 0 20000 then (once ((l.filter (heldP l w d)).map (·.Record)), true) else ([], false)

end Go.Proofs.Ytpmjemddofcmaaa
