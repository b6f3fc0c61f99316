/-
  Trees of functions: validity, places, paths. Plain.
-/
import Derived.Test.YtjfpdbhjoofllaaDoorWo
set_option linter.unusedSimpArgs false
set_option linter.unusedVariables false
namespace Go.Proofs.YtjfpdbhjoofllaaDoor
open Go.VS

/-! ### A function -/
def fnOk (f : Function) : Bool := (inR f.Id 1 99 && inR f.Parent 0 (f.Id - 1)) && wordOk f.Name
theorem fnI (f : Function) (hx : f.Name.length < 1000000) : M.impl_IsFunction f = some (fnOk f) := by
  unfold M.impl_IsFunction fnOk
  rw [isIdI, Option.bind_some]
  cases h : inR f.Id 1 99
  · rfl
  · rw [inR_true] at h
    simp only [cond_true, withinI, Option.bind_some, Bool.true_and]
    rw [wrap64_id (by omega) (by omega), wordI _ hx]
    cases inR f.Parent 0 (f.Id - 1) <;> rfl
theorem fnS (f : Function) (hx : f.Name.length < 1000000) : M.spec_l3One f = some (fnOk f) := by
  unfold M.spec_l3One fnOk
  rw [l1InS, Option.bind_some]
  cases h : inR f.Id 1 99
  · rfl
  · rw [inR_true] at h
    simp only [cond_true, l1InS, Option.bind_some, Bool.true_and]
    rw [wrap64_id (by omega) (by omega), wordS _ hx]
    cases inR f.Parent 0 (f.Id - 1) <;> rfl
theorem fnOk_spec {f : Function} (h : fnOk f = true) : (1 ≤ f.Id ∧ f.Id ≤ 99) ∧ 0 ≤ f.Parent ∧ f.Parent < f.Id ∧ wordOk f.Name = true := by
  unfold fnOk at h
  simp only [Bool.and_eq_true, inR_true] at h
  exact ⟨h.1.1, h.1.2.1, by omega, h.2⟩

/-! ### Places -/
def hasF (t : List Function) (i : Int) : Bool := t.any fun f => f.Id == i
def atF (t : List Function) (i : Int) : Int := firstAt (fun f : Function => f.Id == i) t
theorem atFI (t : List Function) (i : Int) (hl : t.length < 1000000) : M.impl_functionAt t i = some (atF t i) := by
  unfold M.impl_functionAt M.slices_IndexFunc_impl_Function_impl_Function
  have h := iter_first (step := M.slices_IndexFunc_impl_Function_impl_Function_l0 t (fun x0 => M.impl_functionAt_1 x0 i)) (fun f : Function => f.Id == i) t (by omega) (fun k hk => by
    unfold M.slices_IndexFunc_impl_Function_impl_Function_l0 M.impl_functionAt_1
    simp (disch := first | omega | (intros; simp only [decide_eq_true_eq, decide_eq_false_iff_not, Bool.not_eq_true, Bool.not_eq_false, Bool.not_true, Bool.not_false] at *; omega)) only [cast_succ, asrt_pos, wrap64_id, Option.bind_some, cond_true, cond_false, decide_eq_true, decide_eq_false, Int.toNat_natCast, Bool.not_true, Bool.not_false, Bool.and_true, Bool.true_and, Bool.and_false, Bool.false_and, Bool.or_true, Bool.true_or, Bool.or_false, Bool.false_or, bif_some]) (by
    unfold M.slices_IndexFunc_impl_Function_impl_Function_l0
    simp (disch := first | omega | (intros; simp only [decide_eq_true_eq, decide_eq_false_iff_not, Bool.not_eq_true, Bool.not_eq_false, Bool.not_true, Bool.not_false] at *; omega)) only [cast_succ, asrt_pos, wrap64_id, Option.bind_some, cond_true, cond_false, decide_eq_true, decide_eq_false, Int.toNat_natCast, Bool.not_true, Bool.not_false, Bool.and_true, Bool.true_and, Bool.and_false, Bool.false_and, Bool.or_true, Bool.true_or, Bool.or_false, Bool.false_or])
  exact congrArg (fun q => q.bind fun y0 => some y0) h
theorem atFS (t : List Function) (i : Int) (hl : t.length < 1000000) : M.spec_l3Find t i = some (atF t i) := by
  unfold M.spec_l3Find
  exact iter_first (step := M.spec_l3Find_l0 t i) (fun f : Function => f.Id == i) t (by omega) (fun k hk => by
    unfold M.spec_l3Find_l0
    simp (disch := first | omega | (intros; simp only [decide_eq_true_eq, decide_eq_false_iff_not, Bool.not_eq_true, Bool.not_eq_false, Bool.not_true, Bool.not_false] at *; omega)) only [cast_succ, asrt_pos, wrap64_id, Option.bind_some, cond_true, cond_false, decide_eq_true, decide_eq_false, Int.toNat_natCast, Bool.not_true, Bool.not_false, Bool.and_true, Bool.true_and, Bool.and_false, Bool.false_and, Bool.or_true, Bool.true_or, Bool.or_false, Bool.false_or, bif_some]) (by
    unfold M.spec_l3Find_l0
    simp (disch := first | omega | (intros; simp only [decide_eq_true_eq, decide_eq_false_iff_not, Bool.not_eq_true, Bool.not_eq_false, Bool.not_true, Bool.not_false] at *; omega)) only [cast_succ, asrt_pos, wrap64_id, Option.bind_some, cond_true, cond_false, decide_eq_true, decide_eq_false, Int.toNat_natCast, Bool.not_true, Bool.not_false, Bool.and_true, Bool.true_and, Bool.and_false, Bool.false_and, Bool.or_true, Bool.true_or, Bool.or_false, Bool.false_or])
theorem atF_neg (t : List Function) (i : Int) : decide (atF t i < 0) = !hasF t i := firstAt_neg
theorem atF_spec {t : List Function} {i : Int} (h : hasF t i = true) : 0 ≤ atF t i ∧ (atF t i).toNat < t.length ∧ atF t i < (t.length : Int) ∧ (t.getD (atF t i).toNat default).Id = i := by
  obtain ⟨g0, g1, g2, g3⟩ := firstAt_at h
  exact ⟨g0, g1, g2, eq_of_beq g3⟩
theorem hasF_at {t : List Function} {k : Nat} (h : k < t.length) : hasF t (t.getD k default).Id = true := List.any_eq_true.2 ⟨_, getD_mem h, beq_self_eq_true _⟩
theorem contFI (t : List Function) (p : Function → Bool) (fm : Function → Option Bool) (hfm : ∀ x ∈ t, fm x = some (p x)) (hl : t.length < 1000000) : M.slices_ContainsFunc_impl_Function_impl_Function t fm = some (t.any p) := by
  unfold M.slices_ContainsFunc_impl_Function_impl_Function M.slices_IndexFunc_impl_Function_impl_Function
  have h := iter_first (step := M.slices_IndexFunc_impl_Function_impl_Function_l0 t fm) p t (by omega) (fun k hk => by
    have := hfm _ (getD_mem hk)
    unfold M.slices_IndexFunc_impl_Function_impl_Function_l0
    simp (disch := first | omega | (intros; simp only [decide_eq_true_eq, decide_eq_false_iff_not, Bool.not_eq_true, Bool.not_eq_false, Bool.not_true, Bool.not_false] at *; omega)) only [cast_succ, asrt_pos, wrap64_id, Option.bind_some, cond_true, cond_false, decide_eq_true, decide_eq_false, Int.toNat_natCast, Bool.not_true, Bool.not_false, Bool.and_true, Bool.true_and, Bool.and_false, Bool.false_and, Bool.or_true, Bool.true_or, Bool.or_false, Bool.false_or, bif_some, this]) (by
    unfold M.slices_IndexFunc_impl_Function_impl_Function_l0
    simp (disch := first | omega | (intros; simp only [decide_eq_true_eq, decide_eq_false_iff_not, Bool.not_eq_true, Bool.not_eq_false, Bool.not_true, Bool.not_false] at *; omega)) only [cast_succ, asrt_pos, wrap64_id, Option.bind_some, cond_true, cond_false, decide_eq_true, decide_eq_false, Int.toNat_natCast, Bool.not_true, Bool.not_false, Bool.and_true, Bool.true_and, Bool.and_false, Bool.false_and, Bool.or_true, Bool.true_or, Bool.or_false, Bool.false_or])
  refine (congrArg (fun q => q.bind fun y0 => some (decide (y0 ≥ 0))) h).trans ?_
  rw [Option.bind_some, firstAt_any]

/-! ### Validity of trees -/
def twin (f g : Function) : Bool := (g.Parent == f.Parent) && (g.Name == f.Name)
theorem slcT {β : Type} (l : List β) (k : Nat) : slc l 0 (k : Int) = l.take k := by simp [slc]
def badA (q : Function) (k : Nat) (p : Function) : Bool := !fnOk q || (decide ((k : Int) > 0) && decide (p.Id ≥ q.Id))
def badI (t : List Function) (k : Nat) : Bool := (badA (t.getD k default) k (t.getD (k - 1) default) || (decide ((t.getD k default).Parent > 0) && !hasF t (t.getD k default).Parent)) || (t.take k).any (twin (t.getD k default))
def badS (t : List Function) (k : Nat) : Bool := (badA (t.getD k default) k (t.getD (k - 1) default) || (decide ((t.getD k default).Parent > 0) && !hasF (t.take k) (t.getD k default).Parent)) || (t.take k).any (twin (t.getD k default))
def FnB (l : List Function) : Prop := l.length < 1000000 ∧ ∀ x ∈ l, x.Name.length < 1000000

theorem treeI' (t : List Function) (hl : FnB t) : M.impl_IsTree t = some (!(List.range t.length).any (badI t) && decide ((t.length : Int) ≤ 15)) := by
  have := hl.1
  unfold M.impl_IsTree
  rw [iter_rise (n := t.length) (bad := badI t) (by omega) (fun k hk => by
    have h1 := fnI (t.getD k default) (hl.2 _ (getD_mem hk))
    have h2 := atFI t (t.getD k default).Parent (by omega)
    have h3 := contFI (t.take k) (twin (t.getD k default)) (fun x0 => M.impl_IsTree_1 x0 (t.getD k default)) (fun x _ => rfl) (by rw [List.length_take]; omega)
    unfold M.impl_IsTree_l0 badI badA
    dsimp only
    rw [decide_eq_true (show (k : Int) < (t.length : Int) by omega), cond_true, asrt_pos ⟨by omega, by omega⟩, Int.toNat_natCast, h1, Option.bind_some]
    rw [asrt_pos (fun _ h => by
      simp only [decide_eq_true_eq] at h
      rw [wrap64_id (by omega) (by omega)]
      exact ⟨by omega, by omega⟩)]
    have e1 : (decide ((k : Int) > 0) && decide ((t.getD (IntKind.i64.wrap ((k : Int) - 1)).toNat default).Id ≥ (t.getD k default).Id)) = (decide ((k : Int) > 0) && decide ((t.getD (k - 1) default).Id ≥ (t.getD k default).Id)) := by
      rw [wrap64_id (by omega) (by omega), toNat_pred]
    rw [e1, h2]
    cases hA : (!fnOk (t.getD k default) || (decide ((k : Int) > 0) && decide ((t.getD (k - 1) default).Id ≥ (t.getD k default).Id)))
    · simp only [cond_false, Bool.false_or]
      cases hs : decide ((t.getD k default).Parent > 0)
      · simp only [cond_false, Bool.false_and, Option.bind_some, Bool.false_or]
        rw [asrt_pos ⟨by omega, by omega, by omega⟩, slcT, h3, Option.bind_some, bif_some]
        rw [wrap64_id (by omega) (by omega)]
      · simp only [cond_true, Bool.true_and, Option.bind_some, atF_neg]
        cases hasF t (t.getD k default).Parent
        · rfl
        · simp only [Bool.not_true, cond_false, Bool.false_or]
          rw [asrt_pos ⟨by omega, by omega, by omega⟩, slcT, h3, Option.bind_some, bif_some]
          rw [wrap64_id (by omega) (by omega)]
    · rfl) (by
    unfold M.impl_IsTree_l0
    simp (disch := first | omega | (intros; simp only [decide_eq_true_eq, decide_eq_false_iff_not, Bool.not_eq_true, Bool.not_eq_false, Bool.not_true, Bool.not_false] at *; omega)) only [cast_succ, asrt_pos, wrap64_id, Option.bind_some, cond_true, cond_false, decide_eq_true, decide_eq_false, Int.toNat_natCast, Bool.not_true, Bool.not_false, Bool.and_true, Bool.true_and, Bool.and_false, Bool.false_and, Bool.or_true, Bool.true_or, Bool.or_false, Bool.false_or])]
  cases (List.range t.length).any (badI t) <;> rfl

theorem any_take {t : List Function} {p : Function → Bool} {k : Nat} (h : k ≤ t.length) : (t.take k).any p = (List.range k).any fun j => p (t.getD j default) := by
  rw [any_getD, List.length_take, Nat.min_eq_left h, Bool.eq_iff_iff, List.any_eq_true, List.any_eq_true]
  have e : ∀ j, j < k → (t.take k).getD j default = t.getD j default := fun j hj => by simp [List.getD, List.getElem?_take, hj]
  constructor
  · rintro ⟨j, hj, h⟩
    have := List.mem_range.1 hj
    exact ⟨j, hj, by rwa [e j this] at h⟩
  · rintro ⟨j, hj, h⟩
    have := List.mem_range.1 hj
    exact ⟨j, hj, by rwa [e j this]⟩

theorem goodIn (t : List Function) (k : Nat) (hl : t.length < 1000000) (hk : k < t.length) : iterO (M.spec_l3Good_l1 t (k : Int)) 0 = some (bif (t.take k).any (twin (t.getD k default)) then .inr false else .inl ()) := by
  rw [any_take (Nat.le_of_lt hk)]
  refine iter_rise (n := k) (by omega) (fun j hj => ?_) ?_
  · have hj' : (j : Int) < (k : Int) := by omega
    unfold M.spec_l3Good_l1
    dsimp only
    rw [decide_eq_true hj', cond_true, asrt_pos ⟨by omega, by omega⟩, asrt_pos (fun _ => ⟨by omega, by omega⟩), Int.toNat_natCast, Int.toNat_natCast, wrap64_id (by omega) (by omega), bif_some]
    rfl
  · unfold M.spec_l3Good_l1
    dsimp only
    rw [decide_eq_false (by omega)]
    rfl

theorem treeS' (t : List Function) (hl : FnB t) : M.spec_l3Good t = some (!(List.range (min t.length 16)).any (badS t) && decide ((t.length : Int) ≤ 15)) := by
  have := hl.1
  unfold M.spec_l3Good
  rw [iter_rise (n := min t.length 16) (bad := badS t) (by omega) (fun k hk => by
    have hk1 : k < t.length := by omega
    have h1 := fnS (t.getD k default) (hl.2 _ (getD_mem hk1))
    have h2 := atFS (t.take k) (t.getD k default).Parent (by rw [List.length_take]; omega)
    have h3 := goodIn t k (by omega) hk1
    unfold M.spec_l3Good_l0 badS badA
    dsimp only
    rw [decide_eq_true (show (k : Int) < (t.length : Int) by omega), decide_eq_true (show (k : Int) ≤ 15 by omega)]
    simp only [Bool.and_self, cond_true]
    rw [asrt_pos ⟨by omega, by omega⟩, Int.toNat_natCast, h1, Option.bind_some]
    rw [asrt_pos (fun _ h => by
      simp only [decide_eq_true_eq] at h
      rw [wrap64_id (by omega) (by omega)]
      exact ⟨by omega, by omega⟩)]
    rw [asrt_pos (fun _ _ => ⟨by omega, by omega, by omega⟩)]
    have e1 : (decide ((k : Int) > 0) && decide ((t.getD (IntKind.i64.wrap ((k : Int) - 1)).toNat default).Id ≥ (t.getD k default).Id)) = (decide ((k : Int) > 0) && decide ((t.getD (k - 1) default).Id ≥ (t.getD k default).Id)) := by
      rw [wrap64_id (by omega) (by omega), toNat_pred]
    rw [e1, slcT, h2]
    cases hA : (!fnOk (t.getD k default) || (decide ((k : Int) > 0) && decide ((t.getD (k - 1) default).Id ≥ (t.getD k default).Id)))
    · simp only [cond_false, Bool.false_or]
      cases hs : decide ((t.getD k default).Parent > 0)
      · simp only [cond_false, Bool.false_and, Option.bind_some, Bool.false_or]
        rw [h3]
        cases (t.take k).any (twin (t.getD k default))
        · simp only [cond_false, Option.bind_some]
          rw [wrap64_id (by omega) (by omega)]
        · rfl
      · simp only [cond_true, Bool.true_and, Option.bind_some, atF_neg]
        cases hasF (t.take k) (t.getD k default).Parent
        · rfl
        · simp only [Bool.not_true, cond_false, Bool.false_or]
          rw [h3]
          cases (t.take k).any (twin (t.getD k default))
          · simp only [cond_false, Option.bind_some]
            rw [wrap64_id (by omega) (by omega)]
          · rfl
    · rfl) (by
    unfold M.spec_l3Good_l0
    dsimp only
    rcases Nat.le_total t.length 16 with h | h
    · rw [Nat.min_eq_left h, decide_eq_false (show ¬ (t.length : Int) < (t.length : Int) by omega), Bool.false_and]
      rfl
    · rw [Nat.min_eq_right h, show decide (((16 : Nat) : Int) ≤ 15) = false by decide, Bool.and_false]
      rfl)]
  cases (List.range (min t.length 16)).any (badS t) <;> rfl

/-- What a valid tree is. -/
structure TreeP (t : List Function) : Prop where
  len : t.length ≤ 15
  ok : ∀ k, k < t.length → fnOk (t.getD k default) = true
  up : ∀ j k, j < k → k < t.length → (t.getD j default).Id < (t.getD k default).Id
  par : ∀ k, k < t.length → 0 < (t.getD k default).Parent → hasF t (t.getD k default).Parent = true
  one : ∀ k, k < t.length → (t.take k).any (twin (t.getD k default)) = false

def treeOk (t : List Function) : Bool := !(List.range t.length).any (badI t) && decide ((t.length : Int) ≤ 15)

theorem up_of {t : List Function} (h : ∀ k, 0 < k → k < t.length → (t.getD (k - 1) default).Id < (t.getD k default).Id) : ∀ j k, j < k → k < t.length → (t.getD j default).Id < (t.getD k default).Id := by
  intro j k hj
  induction k with
  | zero => omega
  | succ k ih =>
    intro hk
    have h1 := h (k + 1) (by omega) hk
    rw [Nat.add_sub_cancel] at h1
    by_cases e : j = k
    · subst e; exact h1
    · exact Int.lt_trans (ih (by omega) (by omega)) h1

theorem hasF_take {t : List Function} {k : Nat} {i : Int} (hk : k ≤ t.length) : hasF (t.take k) i = true ↔ ∃ j, j < k ∧ (t.getD j default).Id = i := by
  unfold hasF
  rw [any_take hk, List.any_eq_true]
  constructor
  · rintro ⟨j, h1, h2⟩; exact ⟨j, List.mem_range.1 h1, eq_of_beq h2⟩
  · rintro ⟨j, h1, h2⟩; exact ⟨j, List.mem_range.2 h1, beq_iff_eq.2 h2⟩
theorem hasF_iff {t : List Function} {i : Int} : hasF t i = true ↔ ∃ j, j < t.length ∧ (t.getD j default).Id = i := by
  have := hasF_take (t := t) (k := t.length) (i := i) (Nat.le_refl _)
  rwa [List.take_length] at this

theorem badA_iff {q p : Function} {k : Nat} : badA q k p = false ↔ fnOk q = true ∧ (0 < k → p.Id < q.Id) := by
  unfold badA
  simp only [Bool.or_eq_false_iff, Bool.not_eq_false', Bool.and_eq_false_iff, decide_eq_false_iff_not]
  constructor
  · rintro ⟨h1, h2⟩; exact ⟨h1, fun h => by omega⟩
  · rintro ⟨h1, h2⟩
    refine ⟨h1, ?_⟩
    by_cases h : 0 < k
    · right; have := h2 h; omega
    · left; omega
theorem badI_iff {t : List Function} {k : Nat} : badI t k = false ↔ (fnOk (t.getD k default) = true ∧ (0 < k → (t.getD (k - 1) default).Id < (t.getD k default).Id)) ∧ (0 < (t.getD k default).Parent → hasF t (t.getD k default).Parent = true) ∧ (t.take k).any (twin (t.getD k default)) = false := by
  unfold badI
  rw [Bool.or_eq_false_iff, Bool.or_eq_false_iff, badA_iff, Bool.and_eq_false_iff, decide_eq_false_iff_not, Bool.not_eq_false', and_assoc]
  refine and_congr_right fun _ => and_congr_left fun _ => ⟨fun h h' => h.resolve_left (fun q => q h'), fun h => ?_⟩
  by_cases h' : 0 < (t.getD k default).Parent
  · exact .inr (h h')
  · exact .inl h'
theorem badS_iff {t : List Function} {k : Nat} : badS t k = false ↔ (fnOk (t.getD k default) = true ∧ (0 < k → (t.getD (k - 1) default).Id < (t.getD k default).Id)) ∧ (0 < (t.getD k default).Parent → hasF (t.take k) (t.getD k default).Parent = true) ∧ (t.take k).any (twin (t.getD k default)) = false := by
  unfold badS
  rw [Bool.or_eq_false_iff, Bool.or_eq_false_iff, badA_iff, Bool.and_eq_false_iff, decide_eq_false_iff_not, Bool.not_eq_false', and_assoc]
  refine and_congr_right fun _ => and_congr_left fun _ => ⟨fun h h' => h.resolve_left (fun q => q h'), fun h => ?_⟩
  by_cases h' : 0 < (t.getD k default).Parent
  · exact .inr (h h')
  · exact .inl h'

theorem treeOk_iff {t : List Function} : treeOk t = true ↔ TreeP t := by
  unfold treeOk
  simp only [Bool.and_eq_true, Bool.not_eq_true', List.any_eq_false, List.mem_range, decide_eq_true_eq, Bool.not_eq_true]
  constructor
  · rintro ⟨h1, h2⟩
    have h3 := fun k hk => badI_iff.1 (h1 k hk)
    exact ⟨by omega, fun k hk => (h3 k hk).1.1, up_of fun k h0 hk => (h3 k hk).1.2 h0, fun k hk h => (h3 k hk).2.1 h, fun k hk => (h3 k hk).2.2⟩
  · rintro ⟨h1, h2, h3, h4, h5⟩
    exact ⟨fun k hk => badI_iff.2 ⟨⟨h2 k hk, fun h0 => h3 _ _ (by omega) hk⟩, h4 k hk, h5 k hk⟩, by omega⟩

theorem treeAB (t : List Function) : (!(List.range (min t.length 16)).any (badS t) && decide ((t.length : Int) ≤ 15)) = treeOk t := by
  by_cases hn : t.length ≤ 15
  · rw [Nat.min_eq_left (by omega), Bool.eq_iff_iff, treeOk_iff]
    simp only [Bool.and_eq_true, Bool.not_eq_true', List.any_eq_false, List.mem_range, decide_eq_true_eq, Bool.not_eq_true]
    constructor
    · rintro ⟨h1, _⟩
      have h3 := fun k hk => badS_iff.1 (h1 k hk)
      refine ⟨hn, fun k hk => (h3 k hk).1.1, up_of fun k h0 hk => (h3 k hk).1.2 h0, fun k hk h => ?_, fun k hk => (h3 k hk).2.2⟩
      obtain ⟨j, g1, g2⟩ := (hasF_take (Nat.le_of_lt hk)).1 ((h3 k hk).2.1 h)
      exact hasF_iff.2 ⟨j, by omega, g2⟩
    · rintro ⟨h1, h2, h3, h4, h5⟩
      refine ⟨fun k hk => badS_iff.2 ⟨⟨h2 k hk, fun h0 => h3 _ _ (by omega) hk⟩, fun h => ?_, h5 k hk⟩, by omega⟩
      obtain ⟨j, g1, g2⟩ := hasF_iff.1 (h4 k hk h)
      refine (hasF_take (Nat.le_of_lt hk)).2 ⟨j, ?_, g2⟩
      have g3 := (fnOk_spec (h2 k hk)).2.2.1
      rcases Nat.lt_trichotomy j k with q | q | q
      · exact q
      · subst q; omega
      · have := h3 k j q g1; omega
  · unfold treeOk
    rw [decide_eq_false (show ¬ (t.length : Int) ≤ 15 by omega), Bool.and_false, Bool.and_false]

theorem treeI (t : List Function) (hl : FnB t) : M.impl_IsTree t = some (treeOk t) := treeI' t hl
theorem treeS (t : List Function) (hl : FnB t) : M.spec_l3Good t = some (treeOk t) := by rw [treeS' t hl, treeAB]

/-! ### Paths -/
def parF (t : List Function) (i : Int) : Int := (t.getD (atF t i).toNat default).Parent
def up (t : List Function) : Nat → Int → List Int
  | 0, _ => []
  | n + 1, i => if 0 < i then up t n (parF t i) ++ [i] else []
theorem up_pos {t : List Function} {n : Nat} {i : Int} (h : 0 < i) : up t (n + 1) i = up t n (parF t i) ++ [i] := by simp [up, h]
theorem up_neg {t : List Function} {n : Nat} {i : Int} (h : ¬ 0 < i) : up t n i = [] := by cases n <;> simp [up, h]

theorem par_ok {t : List Function} (h : TreeP t) {i : Int} (hi : hasF t i = true) : 0 ≤ parF t i ∧ parF t i < i ∧ i ≤ 99 ∧ (0 < parF t i → hasF t (parF t i) = true) := by
  obtain ⟨g0, g1, g2, g3⟩ := atF_spec hi
  have h1 := fnOk_spec (h.ok _ g1)
  unfold parF
  exact ⟨h1.2.1, by omega, by omega, fun q => h.par _ g1 q⟩

theorem up_fuel {t : List Function} (h : TreeP t) : ∀ (n m : Nat) (i : Int), i < (n : Int) → i < (m : Int) → (0 < i → hasF t i = true) → up t n i = up t m i := by
  intro n
  induction n with
  | zero => intro m i h1 h2 h3; rw [up_neg (by omega), up_neg (by omega)]
  | succ n ih =>
    intro m i h1 h2 h3
    by_cases hi : 0 < i
    · obtain ⟨m', rfl⟩ : ∃ m', m = m' + 1 := ⟨m - 1, by omega⟩
      obtain ⟨p0, p1, p2, p3⟩ := par_ok h (h3 hi)
      rw [up_pos hi, up_pos hi, ih m' _ (by omega) (by omega) p3]
    · rw [up_neg hi, up_neg hi]

def pathF (t : List Function) (i : Int) : List Int := up t 100 i
theorem up_len {t : List Function} : ∀ (n : Nat) (i : Int), (up t n i).length ≤ n
  | 0, _ => by simp [up]
  | n + 1, i => by
    unfold up
    split
    · have := up_len (t := t) n (parF t i)
      simp; omega
    · simp
theorem path_len {t : List Function} {i : Int} : (pathF t i).length ≤ 100 := up_len 100 i
theorem path_pos {t : List Function} (h : TreeP t) {i : Int} (hi : hasF t i = true) (h0 : 0 < i) : pathF t i = pathF t (parF t i) ++ [i] := by
  obtain ⟨p0, p1, p2, p3⟩ := par_ok h hi
  unfold pathF
  rw [up_pos h0, up_fuel h 99 100 _ (by omega) (by omega) p3]

theorem rev_loop (s : List Int) (hl : s.length < 1000000) : M.slices_Reverse_int_int s = some s.reverse := by
  unfold M.slices_Reverse_int_int
  apply T.eq
  refine T.then (Q := fun e => e = s.reverse) (T_iter (fun q => ∃ a b : Nat, q.2.1 = (a : Int) ∧ q.2.2 = (b : Int) - 1 ∧ a + b = s.length ∧ q.1.length = s.length ∧ (a ≤ b ∨ a = b + 1) ∧ ∀ j, j < s.length → q.1.getD j default = if j < a ∨ b ≤ j then s.getD (s.length - 1 - j) default else s.getD j default) (fun q => (q.2.2 + 1 - q.2.1 + 1).toNat) _ ⟨0, s.length, rfl, by simp only; rw [wrap64_id (by omega) (by omega)], by omega, rfl, by omega, fun j hj => by simp only; rw [if_neg (by omega)]⟩ (by simp only; rw [wrap64_id (by omega) (by omega)]; omega) ?_) ?_
  · rintro ⟨s1, _, _⟩ ⟨a, b, rfl, rfl, h1, h2, h3, h4⟩
    simp only at h2 h4
    unfold M.slices_Reverse_int_int_l0
    dsimp only
    refine T_if (fun hq => ?_) (fun hq => ?_)
    · simp only [decide_eq_true_eq] at hq
      obtain ⟨c, rfl⟩ : ∃ c, b = c + 1 := ⟨b - 1, by omega⟩
      rw [show (((c + 1 : Nat) : Int) - 1) = (c : Int) by omega] at hq ⊢
      refine T_ask ⟨by omega, by omega⟩ (T_ask ⟨by omega, by omega⟩ (T_ask ⟨by omega, by omega⟩ (T_ask ⟨by omega, by rw [List.length_set]; omega⟩ ?_)))
      rw [Int.toNat_natCast, Int.toNat_natCast]
      refine T_ret ?_
      simp only
      rw [wrap64_id (n := (a : Int) + 1) (by omega) (by omega), wrap64_id (n := (c : Int) - 1) (by omega) (by omega)]
      refine ⟨⟨a + 1, c, by omega, rfl, by omega, by rw [List.length_set, List.length_set]; exact h2, by omega, fun j hj => ?_⟩, by omega⟩
      have ha := h4 a (by omega)
      have hc := h4 c (by omega)
      rw [if_neg (by omega)] at ha hc
      simp only [List.getD, List.getElem?_set, List.length_set] at ha hc ⊢
      have hj4 := h4 j hj
      simp only [List.getD] at hj4
      by_cases e1 : c = j
      · subst e1
        rw [if_pos rfl, if_pos (by omega), if_pos (by omega), Option.getD_some, ha, show s.length - 1 - c = a by omega]
      · rw [if_neg e1]
        by_cases e2 : a = j
        · subst e2
          rw [if_pos rfl, if_pos (by omega), if_pos (by omega), Option.getD_some, hc, show s.length - 1 - a = c by omega]
        · rw [if_neg e2, hj4]
          by_cases e3 : j < a ∨ c + 1 ≤ j
          · rw [if_pos e3, if_pos (by omega)]
          · rw [if_neg e3, if_neg (by omega)]
    · simp only [decide_eq_false_iff_not] at hq
      refine T_ret ?_
      refine List.ext_getElem (by rw [List.length_reverse]; exact h2) fun j hj1 hj2 => ?_
      have := h4 j (by omega)
      rw [getD_el hj1] at this
      rw [this, List.getElem_reverse]
      by_cases e : j < a ∨ b ≤ j
      · rw [if_pos e, getD_el (by omega)]
      · rw [if_neg e, getD_el (by omega)]
        congr 1
        omega
  · rintro e rfl
    exact T_ret rfl

theorem pathI (t : List Function) (i : Int) (h : TreeP t) (hi : hasF t i = true) : M.impl_pathTo t i = some (pathF t i) := by
  have hl := h.len
  unfold M.impl_pathTo
  apply T.eq
  refine T.then (Q := fun e => e.reverse = pathF t i ∧ e.length ≤ 100) (T_iter (fun q => ∃ k : Nat, q.1 < (k : Int) ∧ k ≤ 100 ∧ q.2.length + k ≤ 100 ∧ (0 < q.1 → hasF t q.1 = true) ∧ up t k q.1 ++ q.2.reverse = pathF t i) (fun q => q.1.toNat) _ ⟨100, by have := (par_ok h hi).2.2.1; simp only; omega, by omega, by simp, fun _ => hi, by simp [pathF]⟩ (by have := (par_ok h hi).2.2.1; simp only; omega) ?_) ?_
  · rintro ⟨x, p⟩ ⟨k, h1, h2, h3, h4, h5⟩
    simp only at h1 h3 h4 h5
    unfold M.impl_pathTo_l0
    dsimp only
    refine T_if (fun hq => ?_) (fun hq => ?_)
    · simp only [decide_eq_true_eq] at hq
      obtain ⟨k', rfl⟩ : ∃ k', k = k' + 1 := ⟨k - 1, by omega⟩
      obtain ⟨g0, g1, g2, g3⟩ := atF_spec (h4 hq)
      obtain ⟨p0, p1, p2, p3⟩ := par_ok h (h4 hq)
      refine T_ask (by simp; omega) ?_
      rw [atFI t x (by omega), Option.bind_some]
      refine T_ask ⟨g0, g2⟩ (T_ret ?_)
      simp only
      refine ⟨⟨k', by show parF t x < _; omega, by omega, by simp; omega, p3, ?_⟩, by show (parF t x).toNat < x.toNat; omega⟩
      rw [List.reverse_append, List.reverse_singleton, ← List.append_assoc, ← h5, up_pos hq]
      rfl
    · simp only [decide_eq_false_iff_not] at hq
      refine T_ret ⟨?_, by omega⟩
      rw [up_neg hq] at h5
      simpa using h5
  · rintro e ⟨h1, h2⟩
    dsimp only
    rw [rev_loop e (by omega), Option.bind_some]
    exact T_ask (by simp) (T_ret h1)

theorem pathS (t : List Function) (i : Int) (h : TreeP t) (hi : hasF t i = true) : M.spec_l3Path t i = some (pathF t i) := by
  have hl := h.len
  unfold M.spec_l3Path
  apply T.eq
  refine T.then (Q := fun e => e = pathF t i) (T_iter (fun q => ∃ k : Nat, q.1 < (k : Int) ∧ k ≤ 100 ∧ q.2.length + k ≤ 100 ∧ (0 < q.1 → hasF t q.1 = true) ∧ up t k q.1 ++ q.2 = pathF t i) (fun q => q.1.toNat) _ ⟨100, by have := (par_ok h hi).2.2.1; simp only; omega, by omega, by simp, fun _ => hi, by simp [pathF]⟩ (by have := (par_ok h hi).2.2.1; simp only; omega) ?_) ?_
  · rintro ⟨x, p⟩ ⟨k, h1, h2, h3, h4, h5⟩
    simp only at h1 h3 h4 h5
    unfold M.spec_l3Path_l0
    dsimp only
    refine T_if (fun hq => ?_) (fun hq => ?_)
    · simp only [decide_eq_true_eq] at hq
      obtain ⟨k', rfl⟩ : ∃ k', k = k' + 1 := ⟨k - 1, by omega⟩
      obtain ⟨g0, g1, g2, g3⟩ := atF_spec (h4 hq)
      obtain ⟨p0, p1, p2, p3⟩ := par_ok h (h4 hq)
      refine T_ask (by simp; omega) ?_
      rw [atFS t x (by omega), Option.bind_some]
      refine T_ask ⟨g0, g2⟩ (T_ret ?_)
      simp only
      refine ⟨⟨k', by show parF t x < _; omega, by omega, by simp; omega, p3, ?_⟩, by show (parF t x).toNat < x.toNat; omega⟩
      rw [← h5, up_pos hq, List.append_assoc]
      rfl
    · simp only [decide_eq_false_iff_not] at hq
      refine T_ret ?_
      rw [up_neg hq] at h5
      simpa using h5
  · rintro e rfl
    exact T_ret rfl
end Go.Proofs.YtjfpdbhjoofllaaDoor
