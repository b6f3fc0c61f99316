/-
  Rules dropped, the strongest act, the longest period, draws; the plain law of rules. Plain.
-/
import Derived.Test.YthffmnpbonkpaaaRa
set_option linter.unusedSimpArgs false
set_option linter.unusedVariables false
namespace Go.Proofs.Ythffmnpbonkpaaa
open Go.VS

theorem vRules_self (a : List Rule) (hl : a.length < 1000000) : M.laws_vRules a a = some true := by
  unfold M.laws_vRules
  simp only [bne_self_eq_false, cond_false]
  rw [iter_up (s := 0) (step := M.laws_vRules_l0 a a) (e := .inl ()) (fun k => (k : Int)) a.length rfl (by omega) (fun k hk => by
    unfold M.laws_vRules_l0
    simp (disch := first | omega | (intros; simp only [decide_eq_true_eq, decide_eq_false_iff_not, Bool.not_eq_true, Bool.not_eq_false, Bool.not_true, Bool.not_false] at *; omega)) only [cast_succ, asrt_pos, wrap64_id, Option.bind_some, cond_true, cond_false, decide_eq_true, decide_eq_false, Int.toNat_natCast, Bool.not_true, Bool.not_false, Bool.and_true, Bool.true_and, Bool.and_false, Bool.false_and, Bool.or_true, Bool.true_or, Bool.or_false, Bool.false_or, beq_self_eq_true]) (by
    unfold M.laws_vRules_l0
    simp (disch := first | omega | (intros; simp only [decide_eq_true_eq, decide_eq_false_iff_not, Bool.not_eq_true, Bool.not_eq_false, Bool.not_true, Bool.not_false] at *; omega)) only [cast_succ, asrt_pos, wrap64_id, Option.bind_some, cond_true, cond_false, decide_eq_true, decide_eq_false, Int.toNat_natCast, Bool.not_true, Bool.not_false, Bool.and_true, Bool.true_and, Bool.and_false, Bool.false_and, Bool.or_true, Bool.true_or, Bool.or_false, Bool.false_or])]
  rfl

/-! ### Rules dropped -/
/-- slices.Delete of one element. -/
theorem delRI (s : List Rule) (k : Nat) (hk : k < s.length) (hl : s.length < 1000000) : M.slices_Delete_impl_Rule_impl_Rule s (k : Int) ((k : Int) + 1) = some (s.take k ++ s.drop (k + 1)) := by
  unfold M.slices_Delete_impl_Rule_impl_Rule
  have e1 : Int.toNat ((k : Int) + 1) = k + 1 := by omega
  have e2 : ((k : Int) == (k : Int) + 1) = false := by rw [beq_eq_false_iff_ne]; omega
  rw [asrt_pos ⟨by omega, by omega, by omega, by omega⟩, e2, cond_false]
  simp only [e1, Int.toNat_natCast, Int.toNat_zero, Nat.sub_zero, Nat.zero_add]
  have hd : (s.drop (k + 1)).length = s.length - (k + 1) := List.length_drop
  rw [List.take_of_length_le (Nat.le_of_eq hd)]
  have ht : (s.take k).length = k := by rw [List.length_take]; omega
  have hX : (s.take k ++ s.drop (k + 1)).length = k + (s.drop (k + 1)).length := by rw [List.length_append, ht]
  have hdd : (s.drop (k + (s.drop (k + 1)).length)).length = s.length - (k + (s.drop (k + 1)).length) := List.length_drop
  rw [asrt_pos (by omega), asrt_pos (by omega), asrt_pos (by omega), asrt_pos (by omega)]
  have hY : (s.take k ++ s.drop (k + 1) ++ s.drop (k + (s.drop (k + 1)).length)).length = s.length := by rw [List.length_append, hX, hdd]; omega
  rw [asrt_pos ⟨by omega, by omega, by simp only [hY]; omega⟩, asrt_pos (by rw [hY]; omega)]
  have t1 : (s.take k ++ s.drop (k + 1) ++ s.drop (k + (s.drop (k + 1)).length)).take (k + (s.drop (k + 1)).length) = s.take k ++ s.drop (k + 1) := by
    rw [← hX, List.take_left]
  rw [t1, asrt_pos (by rw [List.length_append, List.length_append, hX]; omega), List.append_assoc, ← hX, List.take_left]

def keyU (s e : Int) : Rule := ⟨s, e, 0, 0⟩
def dropL (l : List Rule) (u : Rule) : List Rule := aheadR l u ++ behindR l u
def DropD (l : List Rule) (s e : Int) : List Rule × Bool := bif schedOk l && !(inR' l (keyU s e)).isEmpty then (dropL l (keyU s e), true) else ([], false)

theorem dropS (l : List Rule) (s e : Int) (hl : l.length < 1000000) : M.spec_DropRule l s e = some (DropD l s e) := by
  unfold M.spec_DropRule DropD
  simp only [withoutS l s e hl, schedS l hl, Option.bind_some]
  cases h1 : schedOk l
  · rfl
  have hp := (schedOk_iff.1 h1).2.1
  have hs := split3 (keyU s e) l hp
  have hw := withoutR (u := keyU s e) hp
  unfold keyU at hw
  simp only at hw
  rw [hw]
  have hll : l.length = (aheadR l (keyU s e)).length + (inR' l (keyU s e)).length + (behindR l (keyU s e)).length := by
    have := congrArg List.length hs.1
    simp only [List.length_append] at this
    exact this
  have hx : ((((aheadR l ⟨s, e, 0, 0⟩ ++ behindR l ⟨s, e, 0, 0⟩).length : Nat) : Int) == (l.length : Int)) = (inR' l (keyU s e)).isEmpty := by
    rw [Bool.eq_iff_iff, beq_iff_eq, List.isEmpty_iff, ← List.length_eq_zero_iff, List.length_append]
    unfold keyU at hll ⊢
    omega
  rw [hx]
  cases hi : (inR' l (keyU s e)).isEmpty <;> rfl

theorem dropI (l : List Rule) (s e : Int) (hl : l.length < 1000000) : M.impl_DropRule l s e = some (DropD l s e) := by
  unfold M.impl_DropRule DropD M.slices_IndexFunc_impl_Rule_impl_Rule
  have fin : ∀ i : Int, (schedOk l = true → decide (i < 0) = (inR' l (keyU s e)).isEmpty ∧ (0 ≤ i → i = ((aheadR l (keyU s e)).length : Int))) →
      ((M.impl_IsSchedule l).bind fun y1 => bif (!y1) || decide (i < 0) then some (([] : List Rule), false) else (M.slices_Clone_impl_Rule_impl_Rule l).bind fun y2 => (M.slices_Delete_impl_Rule_impl_Rule y2 i (IntKind.i64.wrap (i + 1))).bind fun y3 => some (y3, true)) =
        some (bif schedOk l && !(inR' l (keyU s e)).isEmpty then (dropL l (keyU s e), true) else ([], false)) := by
    intro i h
    rw [schedI l hl, Option.bind_some]
    cases h1 : schedOk l
    · rfl
    obtain ⟨h2, h3⟩ := h h1
    rw [h2]
    cases hi : (inR' l (keyU s e)).isEmpty
    · rw [hi, decide_eq_false_iff_not] at h2
      have hp := (schedOk_iff.1 h1).2.1
      have hs := split3 (keyU s e) l hp
      have hll : l.length = (aheadR l (keyU s e)).length + (inR' l (keyU s e)).length + (behindR l (keyU s e)).length := by
        have := congrArg List.length hs.1
        simp only [List.length_append] at this
        exact this
      have h4 : (inR' l (keyU s e)).length = 1 := by
        have : (inR' l (keyU s e)) ≠ [] := by intro q; rw [q] at hi; cases hi
        have := List.length_pos_iff.2 this
        omega
      rw [h3 (by omega), wrap64_id (by omega) (by omega)]
      unfold M.slices_Clone_impl_Rule_impl_Rule
      simp only [Bool.not_true, Bool.or_self, cond_false]
      rw [asrt_pos (by omega), Option.bind_some, delRI l _ (by omega) hl]
      have t1 : l.take (aheadR l (keyU s e)).length = aheadR l (keyU s e) := by conv => lhs; arg 2; rw [hs.1]
                                                                                rw [List.append_assoc, List.take_left]
      have t2 : l.drop ((aheadR l (keyU s e)).length + 1) = behindR l (keyU s e) := by
        conv => lhs; arg 2; rw [hs.1]
        have e9 : (aheadR l (keyU s e)).length + 1 = (aheadR l (keyU s e) ++ inR' l (keyU s e)).length := by rw [List.length_append, h4]
        rw [e9, List.drop_left]
      rw [t1, t2]
      rfl
    · rfl
  rcases iter_find (step := M.slices_IndexFunc_impl_Rule_impl_Rule_l0 l (fun x0 => M.impl_DropRule_1 x0 s e)) (s := 0) (fun k => (k : Int)) l.length (fun k => sameR (l.getD k default) (keyU s e)) (fun k => .inr (k : Int)) (.inl ()) rfl (by omega)
      (fun k hk hp => by
        unfold M.slices_IndexFunc_impl_Rule_impl_Rule_l0 M.impl_DropRule_1
        unfold sameR keyU at hp
        simp (disch := first | omega | (intros; simp only [decide_eq_true_eq, decide_eq_false_iff_not, Bool.not_eq_true, Bool.not_eq_false, Bool.not_true, Bool.not_false] at *; omega)) only [cast_succ, asrt_pos, wrap64_id, Option.bind_some, cond_true, cond_false, decide_eq_true, decide_eq_false, Int.toNat_natCast, Bool.not_true, Bool.not_false, Bool.and_true, Bool.true_and, Bool.and_false, Bool.false_and, Bool.or_true, Bool.true_or, Bool.or_false, Bool.false_or, hp])
      (fun k hk hp => by
        unfold M.slices_IndexFunc_impl_Rule_impl_Rule_l0 M.impl_DropRule_1
        unfold sameR keyU at hp
        simp (disch := first | omega | (intros; simp only [decide_eq_true_eq, decide_eq_false_iff_not, Bool.not_eq_true, Bool.not_eq_false, Bool.not_true, Bool.not_false] at *; omega)) only [cast_succ, asrt_pos, wrap64_id, Option.bind_some, cond_true, cond_false, decide_eq_true, decide_eq_false, Int.toNat_natCast, Bool.not_true, Bool.not_false, Bool.and_true, Bool.true_and, Bool.and_false, Bool.false_and, Bool.or_true, Bool.true_or, Bool.or_false, Bool.false_or, hp])
      (by
        unfold M.slices_IndexFunc_impl_Rule_impl_Rule_l0
        simp (disch := first | omega | (intros; simp only [decide_eq_true_eq, decide_eq_false_iff_not, Bool.not_eq_true, Bool.not_eq_false, Bool.not_true, Bool.not_false] at *; omega)) only [cast_succ, asrt_pos, wrap64_id, Option.bind_some, cond_true, cond_false, decide_eq_true, decide_eq_false, Int.toNat_natCast, Bool.not_true, Bool.not_false, Bool.and_true, Bool.true_and, Bool.and_false, Bool.false_and, Bool.or_true, Bool.true_or, Bool.or_false, Bool.false_or]) with ⟨k, h1, h2, h3, h4⟩ | ⟨h1, h2⟩
  · rw [h4, Option.bind_some]
    refine fin _ fun hok => ?_
    have hp := (schedOk_iff.1 hok).2.1
    have hs := (split3 (keyU s e) l hp).1
    have hm : l.getD k default ∈ inR' l (keyU s e) := List.mem_filter.2 ⟨getD_mem h1, h2⟩
    have hne : 0 < (inR' l (keyU s e)).length := List.length_pos_of_mem hm
    refine ⟨?_, fun _ => ?_⟩
    · rw [decide_eq_false (by omega)]
      cases hi : inR' l (keyU s e) with
      | nil => rw [hi] at hne; simp at hne
      | cons y q => rfl
    · rw [List.append_assoc] at hs
      have hA : ¬ k < (aheadR l (keyU s e)).length := by
        intro q
        rw [hs, getD_app_l q] at h2
        have := ahead_mem _ (getD_mem q)
        rw [before_iff] at this
        rw [same_iff] at h2
        omega
      have hB : ¬ (aheadR l (keyU s e)).length < k := by
        intro q
        have := h3 _ q
        conv at this => lhs; arg 1; arg 1; rw [hs]
        rw [getD_app_r (Nat.le_refl _), Nat.sub_self, getD_app_l hne, in_mem _ (getD_mem hne)] at this
        cases this
      omega
  · rw [h2, Option.bind_some]
    refine fin _ fun hok => ⟨?_, fun h => absurd h (by decide)⟩
    have : inR' l (keyU s e) = [] := List.filter_eq_nil_iff.2 fun x hx q => by
      obtain ⟨k, hk, rfl⟩ := List.getElem_of_mem hx
      have := h1 k hk
      rw [getD_el hk, q] at this
      cases this
    rw [this]; rfl

/-! ### The strongest act, the longest period -/
def lessA (b : Int) (r : Rule) : Int := bif decide (r.Act < b) then r.Act else b
def minA (q : List Rule) : Int := q.foldl lessA (q.getD 0 default).Act
def moreD (b : Int) (r : Rule) : Int := bif decide (b < r.Days) then r.Days else b
def maxD (q : List Rule) : Int := q.foldl moreD 0
def ActD (l : List Rule) (s : Int) : Int × Bool := bif schedOk l && !(rulesFor l s).isEmpty then (minA (rulesFor l s), true) else (0, false)
def DaysD (l : List Rule) (s : Int) : Int × Bool := bif schedOk l && !(rulesFor l s).isEmpty then (maxD (rulesFor l s), true) else (0, false)

theorem isEmpty_len {β : Type} {q : List β} : ((q.length : Int) == 0) = q.isEmpty := by cases q <;> simp; omega

theorem for_id {l : List Rule} {s : Int} (h : schedOk l = true) (hn : (rulesFor l s).isEmpty = false) : inR s 1 99 = true := by
  cases hq : rulesFor l s with
  | nil => rw [hq] at hn; cases hn
  | cons x t =>
    have hm : x ∈ rulesFor l s := by rw [hq]; exact List.mem_cons_self ..
    obtain ⟨h1, h2⟩ := List.mem_filter.1 hm
    have := (schedOk_spec h).2 x h1
    simp only [beq_iff_eq] at h2
    rw [inR_true]; omega

theorem rulesForI (l : List Rule) (s : Int) (hl : l.length < 1000000) : M.impl_RulesFor l s = some (bif schedOk l && inR s 1 99 then (rulesFor l s, true) else ([], false)) := by
  unfold M.impl_RulesFor
  simp only [schedI l hl, isIdI, Option.bind_some, bif_some, forI l s hl]
  cases schedOk l <;> cases inR s 1 99 <;> rfl

theorem actI (l : List Rule) (s : Int) (hl : l.length < 1000000) : M.impl_StrongestAct l s = some (ActD l s) := by
  unfold M.impl_StrongestAct ActD
  rw [rulesForI l s hl, Option.bind_some]
  cases h1 : schedOk l
  · rfl
  cases h2 : inR s 1 99
  · cases h3 : (rulesFor l s).isEmpty
    · rw [for_id h1 h3] at h2; cases h2
    · rfl
  simp only [Bool.and_self, cond_true, isEmpty_len, Bool.true_and, Bool.not_true, Bool.false_or]
  cases h3 : (rulesFor l s).isEmpty
  · have hlen := rulesFor_len (l := l) (s := s)
    have h0 : 0 < (rulesFor l s).length := by
      cases hq : rulesFor l s with
      | nil => rw [hq] at h3; cases h3
      | cons x t => simp
    simp only [cond_false, Bool.not_false, cond_true]
    rw [asrt_pos ⟨by omega, by omega⟩, iter_fold (s := (((rulesFor l s).getD (Int.toNat 0) default).Act, (0 : Int))) (step := M.impl_StrongestAct_l0 (rulesFor l s, true)) (fun a k => (a, (k : Int))) lessA id (rulesFor l s) (((rulesFor l s).getD 0 default).Act) (fun _ _ => True) rfl (by omega) trivial (fun a k hk _ => ⟨by
      unfold M.impl_StrongestAct_l0
      simp (disch := first | omega | (intros; simp only [decide_eq_true_eq, decide_eq_false_iff_not, Bool.not_eq_true, Bool.not_eq_false, Bool.not_true, Bool.not_false] at *; omega)) only [cast_succ, asrt_pos, wrap64_id, Option.bind_some, cond_true, cond_false, decide_eq_true, decide_eq_false, Int.toNat_natCast, Bool.not_true, Bool.not_false, Bool.and_true, Bool.true_and, Bool.and_false, Bool.false_and, Bool.or_true, Bool.true_or, Bool.or_false, Bool.false_or]
      rfl, trivial⟩) (fun a _ => by
      unfold M.impl_StrongestAct_l0
      simp (disch := first | omega | (intros; simp only [decide_eq_true_eq, decide_eq_false_iff_not, Bool.not_eq_true, Bool.not_eq_false, Bool.not_true, Bool.not_false] at *; omega)) only [cast_succ, asrt_pos, wrap64_id, Option.bind_some, cond_true, cond_false, decide_eq_true, decide_eq_false, Int.toNat_natCast, Bool.not_true, Bool.not_false, Bool.and_true, Bool.true_and, Bool.and_false, Bool.false_and, Bool.or_true, Bool.true_or, Bool.or_false, Bool.false_or, id])]
    rfl
  · rfl

theorem minS (b0 : Int) : ∀ (q : List Rule) (b : Int), 1 ≤ b → (∀ r ∈ q, 1 ≤ r.Act) → q.foldl (fun b r => bif (b == 0) || decide (r.Act < b) then r.Act else b) b = q.foldl lessA b
  | [], _, _, _ => rfl
  | x :: t, b, hb, h => by
    have hx := h x (List.mem_cons_self ..)
    have e : (bif (b == 0) || decide (x.Act < b) then x.Act else b) = lessA b x := by
      rw [show (b == 0) = false by rw [beq_eq_false_iff_ne]; omega]; rfl
    simp only [List.foldl_cons, e]
    refine minS b0 t _ ?_ (fun r hr => h r (List.mem_cons_of_mem _ hr))
    unfold lessA
    cases decide (x.Act < b) <;> simp only [cond_true, cond_false] <;> omega

theorem minA_le : ∀ (q : List Rule) (b : Int), q.foldl lessA b ≤ b ∧ ∀ r ∈ q, q.foldl lessA b ≤ r.Act
  | [], b => ⟨Int.le_refl _, fun r hr => by cases hr⟩
  | x :: t, b => by
    obtain ⟨h1, h2⟩ := minA_le t (lessA b x)
    have h3 : lessA b x ≤ b ∧ lessA b x ≤ x.Act := by
      unfold lessA
      by_cases h : x.Act < b
      · rw [decide_eq_true h]; simp only [cond_true]; omega
      · rw [decide_eq_false h]; simp only [cond_false]; omega
    simp only [List.foldl_cons]
    refine ⟨by omega, fun r hr => ?_⟩
    rcases List.mem_cons.1 hr with rfl | hr
    · omega
    · exact h2 r hr
theorem minA_pos : ∀ (q : List Rule) (b : Int), 1 ≤ b → (∀ r ∈ q, 1 ≤ r.Act) → 1 ≤ q.foldl lessA b
  | [], b, h, _ => h
  | x :: t, b, hb, h => by
    have hx := h x (List.mem_cons_self ..)
    refine minA_pos t _ ?_ (fun r hr => h r (List.mem_cons_of_mem _ hr))
    unfold lessA
    cases decide (x.Act < b) <;> simp only [cond_true, cond_false] <;> omega
theorem maxD_ge : ∀ (q : List Rule) (b : Int), b ≤ q.foldl moreD b ∧ ∀ r ∈ q, r.Days ≤ q.foldl moreD b
  | [], b => ⟨Int.le_refl _, fun r hr => by cases hr⟩
  | x :: t, b => by
    obtain ⟨h1, h2⟩ := maxD_ge t (moreD b x)
    have h3 : b ≤ moreD b x ∧ x.Days ≤ moreD b x := by
      unfold moreD
      by_cases h : b < x.Days
      · rw [decide_eq_true h]; simp only [cond_true]; omega
      · rw [decide_eq_false h]; simp only [cond_false]; omega
    simp only [List.foldl_cons]
    refine ⟨by omega, fun r hr => ?_⟩
    rcases List.mem_cons.1 hr with rfl | hr
    · omega
    · exact h2 r hr

theorem actS (l : List Rule) (s : Int) (hl : l.length < 1000000) : M.spec_StrongestAct l s = some (ActD l s) := by
  unfold M.spec_StrongestAct ActD
  rw [forS l s hl, Option.bind_some, schedS l hl, Option.bind_some]
  cases h1 : schedOk l
  · rfl
  have hlen := rulesFor_len (l := l) (s := s)
  have hact : ∀ r ∈ rulesFor l s, 1 ≤ r.Act := fun r hr => ((schedOk_spec h1).2 r (List.mem_filter.1 hr).1).2.2.2.1
  simp only [Bool.not_true, cond_false, Bool.true_and]
  rw [iter_fold (s := ((0 : Int), (0 : Int))) (step := M.spec_StrongestAct_l0 (rulesFor l s)) (fun a k => (a, (k : Int))) (fun b r => bif (b == 0) || decide (r.Act < b) then r.Act else b) id (rulesFor l s) 0 (fun _ _ => True) rfl (by omega) trivial (fun a k hk _ => ⟨by
      unfold M.spec_StrongestAct_l0
      simp (disch := first | omega | (intros; simp only [decide_eq_true_eq, decide_eq_false_iff_not, Bool.not_eq_true, Bool.not_eq_false, Bool.not_true, Bool.not_false] at *; omega)) only [cast_succ, asrt_pos, wrap64_id, Option.bind_some, cond_true, cond_false, decide_eq_true, decide_eq_false, Int.toNat_natCast, Bool.not_true, Bool.not_false, Bool.and_true, Bool.true_and, Bool.and_false, Bool.false_and, Bool.or_true, Bool.true_or, Bool.or_false, Bool.false_or, bif_some], trivial⟩) (fun a _ => by
      unfold M.spec_StrongestAct_l0
      simp (disch := first | omega | (intros; simp only [decide_eq_true_eq, decide_eq_false_iff_not, Bool.not_eq_true, Bool.not_eq_false, Bool.not_true, Bool.not_false] at *; omega)) only [cast_succ, asrt_pos, wrap64_id, Option.bind_some, cond_true, cond_false, decide_eq_true, decide_eq_false, Int.toNat_natCast, Bool.not_true, Bool.not_false, Bool.and_true, Bool.true_and, Bool.and_false, Bool.false_and, Bool.or_true, Bool.true_or, Bool.or_false, Bool.false_or, id])]
  simp only [id, Option.bind_some]
  cases hq : rulesFor l s with
  | nil => rfl
  | cons x t =>
    rw [hq] at hact
    have hx := hact x (List.mem_cons_self ..)
    have ht : ∀ r ∈ t, 1 ≤ r.Act := fun r hr => hact r (List.mem_cons_of_mem _ hr)
    have e1 : (x :: t).foldl (fun b r => bif (b == 0) || decide (r.Act < b) then r.Act else b) 0 = minA (x :: t) := by
      unfold minA
      have e2 : lessA x.Act x = x.Act := by unfold lessA; simp
      simp only [List.foldl_cons, List.getD_cons_zero, e2]
      exact minS 0 t _ (by simpa using hx) ht
    have e3 : 1 ≤ minA (x :: t) := minA_pos _ _ (by simpa using hx) hact
    rw [e1, decide_eq_true (show minA (x :: t) > 0 by omega)]
    rfl

theorem daysI (l : List Rule) (s : Int) (hl : l.length < 1000000) : M.impl_LongestPeriod l s = some (DaysD l s) := by
  unfold M.impl_LongestPeriod DaysD
  rw [rulesForI l s hl, Option.bind_some]
  cases h1 : schedOk l
  · rfl
  cases h2 : inR s 1 99
  · cases h3 : (rulesFor l s).isEmpty
    · rw [for_id h1 h3] at h2; cases h2
    · rfl
  simp only [Bool.and_self, cond_true, isEmpty_len, Bool.true_and, Bool.not_true, Bool.false_or]
  cases h3 : (rulesFor l s).isEmpty
  · have hlen := rulesFor_len (l := l) (s := s)
    simp only [cond_false, Bool.not_false, cond_true]
    rw [iter_fold (s := ((0 : Int), (0 : Int))) (step := M.impl_LongestPeriod_l0 (rulesFor l s, true)) (fun a k => (a, (k : Int))) moreD id (rulesFor l s) 0 (fun _ _ => True) rfl (by omega) trivial (fun a k hk _ => ⟨by
      unfold M.impl_LongestPeriod_l0
      simp (disch := first | omega | (intros; simp only [decide_eq_true_eq, decide_eq_false_iff_not, Bool.not_eq_true, Bool.not_eq_false, Bool.not_true, Bool.not_false] at *; omega)) only [cast_succ, asrt_pos, wrap64_id, Option.bind_some, cond_true, cond_false, decide_eq_true, decide_eq_false, Int.toNat_natCast, Bool.not_true, Bool.not_false, Bool.and_true, Bool.true_and, Bool.and_false, Bool.false_and, Bool.or_true, Bool.true_or, Bool.or_false, Bool.false_or]
      rfl, trivial⟩) (fun a _ => by
      unfold M.impl_LongestPeriod_l0
      simp (disch := first | omega | (intros; simp only [decide_eq_true_eq, decide_eq_false_iff_not, Bool.not_eq_true, Bool.not_eq_false, Bool.not_true, Bool.not_false] at *; omega)) only [cast_succ, asrt_pos, wrap64_id, Option.bind_some, cond_true, cond_false, decide_eq_true, decide_eq_false, Int.toNat_natCast, Bool.not_true, Bool.not_false, Bool.and_true, Bool.true_and, Bool.and_false, Bool.false_and, Bool.or_true, Bool.true_or, Bool.or_false, Bool.false_or, id])]
    rfl
  · rfl

theorem daysS (l : List Rule) (s : Int) (hl : l.length < 1000000) : M.spec_LongestPeriod l s = some (DaysD l s) := by
  unfold M.spec_LongestPeriod DaysD
  rw [forS l s hl, Option.bind_some, schedS l hl, Option.bind_some, isEmpty_len]
  cases h1 : schedOk l
  · rfl
  have hlen := rulesFor_len (l := l) (s := s)
  simp only [Bool.not_true, cond_false, Bool.true_and, Bool.false_or]
  cases h3 : (rulesFor l s).isEmpty
  · simp only [cond_false, Bool.not_false, cond_true]
    rw [iter_fold (s := ((0 : Int), (0 : Int))) (step := M.spec_LongestPeriod_l0 (rulesFor l s)) (fun a k => (a, (k : Int))) moreD id (rulesFor l s) 0 (fun _ _ => True) rfl (by omega) trivial (fun a k hk _ => ⟨by
      have e : M.spec_l1Most a (((rulesFor l s).getD k default).Days) = some (moreD a ((rulesFor l s).getD k default)) := by
        unfold M.spec_l1Most moreD
        by_cases h : a < ((rulesFor l s).getD k default).Days
        · rw [decide_eq_true h, decide_eq_false (by omega)]; rfl
        · rw [decide_eq_false h]
          by_cases h' : a > ((rulesFor l s).getD k default).Days
          · rw [decide_eq_true h']; rfl
          · rw [decide_eq_false h']; simp only [cond_false]; congr 1; omega
      unfold M.spec_LongestPeriod_l0
      simp (disch := first | omega | (intros; simp only [decide_eq_true_eq, decide_eq_false_iff_not, Bool.not_eq_true, Bool.not_eq_false, Bool.not_true, Bool.not_false] at *; omega)) only [cast_succ, asrt_pos, wrap64_id, Option.bind_some, cond_true, cond_false, decide_eq_true, decide_eq_false, Int.toNat_natCast, Bool.not_true, Bool.not_false, Bool.and_true, Bool.true_and, Bool.and_false, Bool.false_and, Bool.or_true, Bool.true_or, Bool.or_false, Bool.false_or, e], trivial⟩) (fun a _ => by
      unfold M.spec_LongestPeriod_l0
      simp (disch := first | omega | (intros; simp only [decide_eq_true_eq, decide_eq_false_iff_not, Bool.not_eq_true, Bool.not_eq_false, Bool.not_true, Bool.not_false] at *; omega)) only [cast_succ, asrt_pos, wrap64_id, Option.bind_some, cond_true, cond_false, decide_eq_true, decide_eq_false, Int.toNat_natCast, Bool.not_true, Bool.not_false, Bool.and_true, Bool.true_and, Bool.and_false, Bool.false_and, Bool.or_true, Bool.true_or, Bool.or_false, Bool.false_or, id])]
    rfl
  · rfl

/-! ### Draws -/
theorem good0r {code : List Int} : Good code 0 (⟨code, 0, 0⟩ : Cur) := ⟨rfl, Int.le_refl _, Int.le_refl _⟩

theorem dPutRule {code : List Int} (hb : Bytes code) : T (M.spec_DrawPutRule code) (fun r => r.1.length ≤ 20) := by
  unfold M.spec_DrawPutRule
  refine (drawSchedule hb good0r (by omega)).then ?_
  rintro ⟨l, c1⟩ ⟨h1, h2⟩
  refine (drawRule hb h2 (by omega)).then ?_
  rintro ⟨u, c2⟩ _
  exact T_ret h1

theorem dDropRule {code : List Int} (hb : Bytes code) : T (M.spec_DrawDropRule code) (fun r => r.1.length ≤ 20) := by
  unfold M.spec_DrawDropRule
  refine (drawSchedule hb good0r (by omega)).then ?_
  rintro ⟨l, c1⟩ ⟨h1, h2⟩
  simp only at h1 h2
  dsimp only
  by_cases he : decide ((l.length : Int) > 0) = true
  · simp only [he, cond_true, Bool.true_and]
    refine T_one hb h2 (by omega) ?_
    intro b c3 h3
    dsimp only
    refine T_if (fun _ => ?_) (fun _ => ?_)
    · refine T_pick hb h3 (by omega) ?_
      intro x c4 _ h4 _
      simp only [decide_eq_true_eq] at he
      exact T_ask (h4 (by omega)) (T_ret h1)
    · refine T_among hb h3 (by omega) (by simp) ?_
      intro x c4 _ h4
      refine T_among hb h4 (by omega) (by simp) ?_
      intro y c5 _ _
      exact T_ret h1
  · simp only [Bool.not_eq_true] at he
    simp only [he, cond_false, Option.bind_some, Bool.false_and]
    refine T_among hb h2 (by omega) (by simp) ?_
    intro x c4 _ h4
    refine T_among hb h4 (by omega) (by simp) ?_
    intro y c5 _ _
    exact T_ret h1

theorem dStrongest {code : List Int} (hb : Bytes code) : T (M.spec_DrawStrongestAct code) (fun r => r.1.length ≤ 20) := by
  unfold M.spec_DrawStrongestAct M.spec_DrawRulesFor
  rw [T_bind, T_bind]
  refine T.mono (drawSchedule hb good0r (by omega)) ?_
  rintro ⟨l, c1⟩ ⟨h1, h2⟩
  refine T_among hb h2 (by omega) (by simp) ?_
  intro x c4 _ _
  exact T_ret (T_ret h1)

theorem PutD_ok {l : List Rule} {u : Rule} (h : (PutD l u).2 = true) : schedOk (putL l u) = true ∧ (PutD l u).1 = putL l u ∧ ruleOk u = true := by
  unfold PutD at h ⊢
  cases h1 : (schedOk l && ruleOk u) && schedOk (putL l u)
  · rw [h1] at h; cases h
  · simp only [Bool.and_eq_true] at h1
    exact ⟨h1.2, rfl, h1.1.2⟩
theorem PutD_len {l : List Rule} {u : Rule} (hl : l.length < 1000) : (PutD l u).1.length < 1000000 := by
  unfold PutD putL
  have g1 := ahead_len (l := l) (u := u)
  have g2 := behind_len (l := l) (u := u)
  cases (schedOk l && ruleOk u) && schedOk (aheadR l u ++ [u] ++ behindR l u)
  · simp
  · simp only [cond_true, List.length_append, List.length_cons, List.length_nil]; omega
theorem DropD_len {l : List Rule} {s e : Int} (hl : l.length < 1000) : (DropD l s e).1.length < 1000000 := by
  unfold DropD dropL
  have g1 := ahead_len (l := l) (u := keyU s e)
  have g2 := behind_len (l := l) (u := keyU s e)
  cases schedOk l && !(inR' l (keyU s e)).isEmpty
  · simp
  · simp only [cond_true, List.length_append]; omega

theorem law_FnRules (code : List Int) (h1 : code.length ≤ 9223372036854775807) (h2 : ∀ x, x ∈ code → 0 ≤ x ∧ x ≤ 255) : M.laws_FnRules code = some true := by
  apply T.eq
  unfold M.laws_FnRules M.laws_vBig
  rw [Option.bind_some]
  refine T_if (fun _ => T_ret rfl) (fun hq => ?_)
  simp only [decide_eq_false_iff_not] at hq
  have hb : Bytes code := ⟨by omega, h2⟩
  refine (dPutRule hb).then ?_
  rintro ⟨l, u⟩ hl
  simp only at hl
  have hS : M.spec_IsRule u = some (ruleOk u) := by unfold M.spec_IsRule; rw [ruleS]; rfl
  have hPl := PutD_len (l := l) (u := u) (by omega)
  simp only [putRI l u (by omega), putRS l u (by omega), Option.bind_some, beq_self_eq_true, Bool.not_true, cond_false, vRules_self _ hPl, ruleI, hS, Bool.or_self]
  refine T.then (Q := fun e => e = .inl ()) (T_if (fun hm => ?_) (fun _ => T_ret rfl)) ?_
  · obtain ⟨g1, g2, g3⟩ := PutD_ok hm
    rw [g2]
    have hlen : (putL l u).length < 1000000 := by rw [← g2]; exact hPl
    have h8 := (schedOk_spec g1).1
    have hmem : u ∈ putL l u := by unfold putL; simp
    have hin : u ∈ inR' (putL l u) (keyU u.Series u.Event) := List.mem_filter.2 ⟨hmem, by simp [sameR, keyU]⟩
    have hne : (inR' (putL l u) (keyU u.Series u.Event)).isEmpty = false := by
      cases hi : inR' (putL l u) (keyU u.Series u.Event) with
      | nil => rw [hi] at hin; cases hin
      | cons y q => rfl
    have hs := split3 (keyU u.Series u.Event) (putL l u) (schedOk_iff.1 g1).2.1
    have hll := congrArg List.length hs.1
    simp only [List.length_append] at hll
    have hpos := List.length_pos_of_mem hin
    have hfor : u ∈ rulesFor (putL l u) u.Series := List.mem_filter.2 ⟨hmem, by simp⟩
    have hfe : (rulesFor (putL l u) u.Series).isEmpty = false := by
      cases hi : rulesFor (putL l u) u.Series with
      | nil => rw [hi] at hfor; cases hfor
      | cons y q => rfl
    have hD : DropD (putL l u) u.Series u.Event = (dropL (putL l u) (keyU u.Series u.Event), true) := by unfold DropD; rw [g1, hne]; rfl
    have hA : ActD (putL l u) u.Series = (minA (rulesFor (putL l u) u.Series), true) := by unfold ActD; rw [g1, hfe]; rfl
    have hY : DaysD (putL l u) u.Series = (maxD (rulesFor (putL l u) u.Series), true) := by unfold DaysD; rw [g1, hfe]; rfl
    have hdl : ((dropL (putL l u) (keyU u.Series u.Event)).length : Int) = ((putL l u).length : Int) - 1 := by
      unfold dropL
      rw [List.length_append]
      omega
    have hmin : ¬ (minA (rulesFor (putL l u) u.Series) > u.Act) := by
      have := (minA_le (rulesFor (putL l u) u.Series) ((rulesFor (putL l u) u.Series).getD 0 default).Act).2 u hfor
      unfold minA; omega
    have hmax : ¬ (maxD (rulesFor (putL l u) u.Series) < u.Days) := by
      have := (maxD_ge (rulesFor (putL l u) u.Series) 0).2 u hfor
      unfold maxD; omega
    simp only [dropI _ _ _ hlen, actI _ _ hlen, daysI _ _ hlen, schedI _ hlen, Option.bind_some, hD, hA, hY, wrap64_id (n := ((putL l u).length : Int) - 1) (by omega) (by omega), hdl, decide_eq_false hmin, decide_eq_false hmax, g1, bne_self_eq_false, Bool.not_true, Bool.or_self, cond_false]
    exact T_ret rfl
  rintro _ rfl
  dsimp only
  refine (dDropRule hb).then ?_
  rintro ⟨l, s, e⟩ hl
  simp only at hl
  simp only [dropI l s e (by omega), dropS l s e (by omega), Option.bind_some, beq_self_eq_true, Bool.not_true, cond_false, vRules_self _ (DropD_len (l := l) (s := s) (e := e) (by omega)), Bool.or_self]
  refine (dStrongest hb).then ?_
  rintro ⟨l, s⟩ hl
  simp only at hl
  have hf : (DaysD l s).2 = (ActD l s).2 := by unfold DaysD ActD; cases schedOk l && !(rulesFor l s).isEmpty <;> rfl
  simp only [actI l s (by omega), actS l s (by omega), daysI l s (by omega), daysS l s (by omega), Option.bind_some, beq_self_eq_true, bne_self_eq_false, Bool.not_true, Bool.or_self, cond_false, Bool.and_self, hf]
  exact T_ret rfl
end Go.Proofs.Ythffmnpbonkpaaa
