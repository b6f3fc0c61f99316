/-
  Rules dropped, the strongest act, the longest period, draws; the plain law of rules. Plain.
-/
import Derived.Test.YthcmelnpcaijaaaGreatDoorRa
set_option linter.unusedSimpArgs false
set_option linter.unusedVariables false
namespace Go.Proofs.YthcmelnpcaijaaaGreatDoor
open Go.VS

theorem vRules_self (a : List Rule) (hl : a.length < 1000000) : M.laws_vRules a a = some true := by
  unfold M.laws_vRules
  simp only [bne_self_eq_false, cond_false]
  rw [iter_up (s := 0) (step := M.laws_vRules_l0 a a) (e := .inl ()) (fun k => (k : Int)) a.length rfl (by omega) (fun k hk => by
    unfold M.laws_vRules_l0
    simp (disch := first | omega | (intros; simp only [decide_eq_true_eq, decide_eq_false_iff_not, Bool.not_eq_true, Bool.not_eq_false, Bool.not_true, Bool.not_false] at *; omega)) only [cast_succ, asrt_pos, wrap64_id, Option.bind_some, cond_true, cond_false, decide_eq_true, decide_eq_false, Int.toNat_natCast, Bool.not_true, Bool.not_false, Bool.and_true, Bool.true_and, Bool.and_false, Bool.false_and, Bool.or_true, Bool.true_or, Bool.or_false, Bool.false_or, beq_self_eq_true]) (by
    unfold M.laws_vRules_l0
    simp (disch := first | omega | (intros; simp only [decide_eq_true_eq, decide_eq_false_iff_not, Bool.not_eq_true, Bool.not_eq_false, Bool.not_true, Bool.not_false] at *; omega)) only [cast_succ, asrt_pos, wrap64_id, Option.bind_some, cond_true, cond_false, decide_eq_true, decide_eq_false, Int.toNat_natCast, Bool.not_true, Bool.not_false, Bool.and_true, Bool.true_and, Bool.and_false, Bool.false_and, Bool.or_true, Bool.true_or, Bool.or_false, Bool.false_or])]
  rfl

/-! ### Rules dropped -/
def keyU (s e : Int) : Rule := ⟨s, e, 0, 0⟩
def dropL (l : List Rule) (u : Rule) : List Rule := aheadR l u ++ behindR l u
def DropD (l : List Rule) (s e : Int) : List Rule × Bool := bif schedOk l && !(inR' l (keyU s e)).isEmpty then (dropL l (keyU s e), true) else ([], false)

/-! ### The strongest act, the longest period -/
def lessA (b : Int) (r : Rule) : Int := bif decide (r.Act < b) then r.Act else b
def minA (q : List Rule) : Int := q.foldl lessA (q.getD 0 default).Act
def moreD (b : Int) (r : Rule) : Int := bif decide (b < r.Days) then r.Days else b
def maxD (q : List Rule) : Int := q.foldl moreD 0
def ActD (l : List Rule) (s : Int) : Int × Bool := bif schedOk l && !(rulesFor l s).isEmpty then (minA (rulesFor l s), true) else (0, false)
def DaysD (l : List Rule) (s : Int) : Int × Bool := bif schedOk l && !(rulesFor l s).isEmpty then (maxD (rulesFor l s), true) else (0, false)

theorem isEmpty_len {β : Type} {q : List β} : ((q.length : Int) == 0) = q.isEmpty := by cases q <;> simp; omega

theorem for_id {l : List Rule} {s : Int} (h : schedOk l = true) (hn : (rulesFor l s).isEmpty = false) : inR s 1 99 = true := by
  cases hq : rulesFor l s with
  | nil => rw [hq] at hn; cases hn
  | cons x t =>
    have hm : x ∈ rulesFor l s := by rw [hq]; exact List.mem_cons_self ..
    obtain ⟨h1, h2⟩ := List.mem_filter.1 hm
    have := (schedOk_spec h).2 x h1
    simp only [beq_iff_eq] at h2
    rw [inR_true]; omega

theorem rulesForI (l : List Rule) (s : Int) (hl : l.length < 1000000) : M.impl_RulesFor l s = some (bif schedOk l && inR s 1 99 then (rulesFor l s, true) else ([], false)) := by
  unfold M.impl_RulesFor
  simp only [schedI l hl, isIdI, Option.bind_some, bif_some, forI l s hl]
  cases schedOk l <;> cases inR s 1 99 <;> rfl

theorem minS (b0 : Int) : ∀ (q : List Rule) (b : Int), 1 ≤ b → (∀ r ∈ q, 1 ≤ r.Act) → q.foldl (fun b r => bif (b == 0) || decide (r.Act < b) then r.Act else b) b = q.foldl lessA b
  | [], _, _, _ => rfl
  | x :: t, b, hb, h => by
    have hx := h x (List.mem_cons_self ..)
    have e : (bif (b == 0) || decide (x.Act < b) then x.Act else b) = lessA b x := by
      rw [show (b == 0) = false by rw [beq_eq_false_iff_ne]; omega]; rfl
    simp only [List.foldl_cons, e]
    refine minS b0 t _ ?_ (fun r hr => h r (List.mem_cons_of_mem _ hr))
    unfold lessA
    cases decide (x.Act < b) <;> simp only [cond_true, cond_false] <;> omega

theorem minA_le : ∀ (q : List Rule) (b : Int), q.foldl lessA b ≤ b ∧ ∀ r ∈ q, q.foldl lessA b ≤ r.Act
  | [], b => ⟨Int.le_refl _, fun r hr => by cases hr⟩
  | x :: t, b => by
    obtain ⟨h1, h2⟩ := minA_le t (lessA b x)
    have h3 : lessA b x ≤ b ∧ lessA b x ≤ x.Act := by
      unfold lessA
      by_cases h : x.Act < b
      · rw [decide_eq_true h]; simp only [cond_true]; omega
      · rw [decide_eq_false h]; simp only [cond_false]; omega
    simp only [List.foldl_cons]
    refine ⟨by omega, fun r hr => ?_⟩
    rcases List.mem_cons.1 hr with rfl | hr
    · omega
    · exact h2 r hr
theorem minA_pos : ∀ (q : List Rule) (b : Int), 1 ≤ b → (∀ r ∈ q, 1 ≤ r.Act) → 1 ≤ q.foldl lessA b
  | [], b, h, _ => h
  | x :: t, b, hb, h => by
    have hx := h x (List.mem_cons_self ..)
    refine minA_pos t _ ?_ (fun r hr => h r (List.mem_cons_of_mem _ hr))
    unfold lessA
    cases decide (x.Act < b) <;> simp only [cond_true, cond_false] <;> omega
theorem maxD_ge : ∀ (q : List Rule) (b : Int), b ≤ q.foldl moreD b ∧ ∀ r ∈ q, r.Days ≤ q.foldl moreD b
  | [], b => ⟨Int.le_refl _, fun r hr => by cases hr⟩
  | x :: t, b => by
    obtain ⟨h1, h2⟩ := maxD_ge t (moreD b x)
    have h3 : b ≤ moreD b x ∧ x.Days ≤ moreD b x := by
      unfold moreD
      by_cases h : b < x.Days
      · rw [decide_eq_true h]; simp only [cond_true]; omega
      · rw [decide_eq_false h]; simp only [cond_false]; omega
    simp only [List.foldl_cons]
    refine ⟨by omega, fun r hr => ?_⟩
    rcases List.mem_cons.1 hr with rfl | hr
    · omega
    · exact h2 r hr

/-! ### Draws -/
theorem good0r {code : List Int} : Good code 0 (⟨code, 0, 0⟩ : Cur) := ⟨rfl, Int.le_refl _, Int.le_refl _⟩

theorem PutD_ok {l : List Rule} {u : Rule} (h : (PutD l u).2 = true) : schedOk (putL l u) = true ∧ (PutD l u).1 = putL l u ∧ ruleOk u = true := by
  unfold PutD at h ⊢
  cases h1 : (schedOk l && ruleOk u) && schedOk (putL l u)
  · rw [h1] at h; cases h
  · simp only [Bool.and_eq_true] at h1
    exact ⟨h1.2, rfl, h1.1.2⟩
theorem PutD_len {l : List Rule} {u : Rule} (hl : l.length < 1000) : (PutD l u).1.length < 1000000 := by
  unfold PutD putL
  have g1 := ahead_len (l := l) (u := u)
  have g2 := behind_len (l := l) (u := u)
  cases (schedOk l && ruleOk u) && schedOk (aheadR l u ++ [u] ++ behindR l u)
  · simp
  · simp only [cond_true, List.length_append, List.length_cons, List.length_nil]; omega
theorem DropD_len {l : List Rule} {s e : Int} (hl : l.length < 1000) : (DropD l s e).1.length < 1000000 := by
  unfold DropD dropL
  have g1 := ahead_len (l := l) (u := keyU s e)
  have g2 := behind_len (l := l) (u := keyU s e)
  cases schedOk l && !(inR' l (keyU s e)).isEmpty
  · simp
  · simp only [cond_true, List.length_append]; omega

end Go.Proofs.YthcmelnpcaijaaaGreatDoor
