/-
  Samples compared, seeds, what is left; draws; the plain law of samples. Plain.
-/
import Derived.Test.YthffmnpbonkpaaaSa
set_option linter.unusedSimpArgs false
set_option linter.unusedVariables false
namespace Go.Proofs.Ythffmnpbonkpaaa
open Go.VS

theorem ext_getD2 {β : Type} [Inhabited β] {a b : List β} (h : a.length = b.length) (h' : ∀ k, k < a.length → a.getD k default = b.getD k default) : a = b := by
  apply List.ext_getElem h
  intro k h1 h2
  have := h' k h1
  rwa [getD_el h1, getD_el h2] at this

theorem eqLoop {step : Int → Option (Int ⊕ (Unit ⊕ Bool))} (a b : List Int) (hl : a.length < 1000000) (hlen : a.length = b.length)
    (hs : ∀ k, k < a.length → step (k : Int) = some (bif a.getD k default != b.getD k default then .inr (.inr false) else .inl ((k : Int) + 1))) (he : step (a.length : Int) = some (.inr (.inl ()))) :
    iterO step 0 = some (bif decide (a = b) then .inl () else .inr false) := by
  rw [iter_rise (n := a.length) (bad := fun k => a.getD k default != b.getD k default) (by omega) hs he]
  congr 1
  by_cases h : a = b
  · rw [decide_eq_true h]
    have : (List.range a.length).any (fun k => a.getD k default != b.getD k default) = false := by
      rw [List.any_eq_false]
      intro k _
      rw [h]; simp
    rw [this]; rfl
  · rw [decide_eq_false h]
    have : (List.range a.length).any (fun k => a.getD k default != b.getD k default) = true := by
      cases hq : (List.range a.length).any (fun k => a.getD k default != b.getD k default)
      · exfalso
        rw [List.any_eq_false] at hq
        exact h (ext_getD2 hlen fun k hk => by simpa using hq k (List.mem_range.2 hk))
      · rfl
    rw [this]; rfl

theorem equalI (a b : List Int) (hl : a.length < 1000000) : M.slices_Equal_int_int a b = some (decide (a = b)) := by
  unfold M.slices_Equal_int_int
  by_cases hlen : a.length = b.length
  · rw [show ((a.length : Int) != (b.length : Int)) = false by rw [hlen]; simp, cond_false, eqLoop a b hl hlen (fun k hk => by
      unfold M.slices_Equal_int_int_l0
      simp (disch := first | omega | (intros; simp only [decide_eq_true_eq, decide_eq_false_iff_not, Bool.not_eq_true, Bool.not_eq_false, Bool.not_true, Bool.not_false] at *; omega)) only [cast_succ, asrt_pos, wrap64_id, Option.bind_some, cond_true, cond_false, decide_eq_true, decide_eq_false, Int.toNat_natCast, Bool.not_true, Bool.not_false, Bool.and_true, Bool.true_and, Bool.and_false, Bool.false_and, Bool.or_true, Bool.true_or, Bool.or_false, Bool.false_or, bif_some]) (by
      unfold M.slices_Equal_int_int_l0
      simp (disch := first | omega | (intros; simp only [decide_eq_true_eq, decide_eq_false_iff_not, Bool.not_eq_true, Bool.not_eq_false, Bool.not_true, Bool.not_false] at *; omega)) only [cast_succ, asrt_pos, wrap64_id, Option.bind_some, cond_true, cond_false, decide_eq_true, decide_eq_false, Int.toNat_natCast, Bool.not_true, Bool.not_false, Bool.and_true, Bool.true_and, Bool.and_false, Bool.false_and, Bool.or_true, Bool.true_or, Bool.or_false, Bool.false_or])]
    cases decide (a = b) <;> rfl
  · rw [show ((a.length : Int) != (b.length : Int)) = true by rw [bne_iff_ne]; omega, decide_eq_false (fun e => hlen (by rw [e]))]
    rfl
theorem sameSL (a b : List Int) (hl : a.length < 1000000) : M.spec_l1Same a b = some (decide (a = b)) := by
  unfold M.spec_l1Same
  by_cases hlen : a.length = b.length
  · rw [show ((a.length : Int) != (b.length : Int)) = false by rw [hlen]; simp, cond_false, eqLoop a b hl hlen (fun k hk => by
      unfold M.spec_l1Same_l0
      simp (disch := first | omega | (intros; simp only [decide_eq_true_eq, decide_eq_false_iff_not, Bool.not_eq_true, Bool.not_eq_false, Bool.not_true, Bool.not_false] at *; omega)) only [cast_succ, asrt_pos, wrap64_id, Option.bind_some, cond_true, cond_false, decide_eq_true, decide_eq_false, Int.toNat_natCast, Bool.not_true, Bool.not_false, Bool.and_true, Bool.true_and, Bool.and_false, Bool.false_and, Bool.or_true, Bool.true_or, Bool.or_false, Bool.false_or, bif_some]) (by
      unfold M.spec_l1Same_l0
      simp (disch := first | omega | (intros; simp only [decide_eq_true_eq, decide_eq_false_iff_not, Bool.not_eq_true, Bool.not_eq_false, Bool.not_true, Bool.not_false] at *; omega)) only [cast_succ, asrt_pos, wrap64_id, Option.bind_some, cond_true, cond_false, decide_eq_true, decide_eq_false, Int.toNat_natCast, Bool.not_true, Bool.not_false, Bool.and_true, Bool.true_and, Bool.and_false, Bool.false_and, Bool.or_true, Bool.true_or, Bool.or_false, Bool.false_or])]
    cases decide (a = b) <;> rfl
  · rw [show ((a.length : Int) != (b.length : Int)) = true by rw [bne_iff_ne]; omega, decide_eq_false (fun e => hlen (by rw [e]))]
    rfl

def IsSD (l p : List Int) (n s : Int) : Bool × Bool := bif askOk l n s then (decide (sortL (tk n.toNat l s) = p), true) else (false, false)
theorem isSI (l p : List Int) (n s : Int) (hl : l.length < 1000000) : M.impl_IsSampleOf l p n s = some (IsSD l p n s) := by
  unfold M.impl_IsSampleOf IsSD
  have := SmpD_len (l := l) (n := n) (s := s)
  rw [smpI l n s hl, Option.bind_some]
  unfold SmpD at this ⊢
  cases h : askOk l n s
  · rfl
  · rw [h] at this
    simp only [cond_true] at this ⊢
    rw [equalI _ _ this]; rfl
theorem isSS (l p : List Int) (n s : Int) (hl : l.length < 1000000) (hp : p.length < 1000000) : M.spec_IsSampleOf l p n s = some (IsSD l p n s) := by
  unfold M.spec_IsSampleOf IsSD
  rw [askS l n s hl, Option.bind_some]
  cases h : askOk l n s
  · rfl
  · obtain ⟨h1, h2, h3⟩ := askOk_spec h
    have h4 := (popOk_spec h1).1
    obtain ⟨z, hz⟩ := takeS' l n s h
    simp only [Bool.not_true, cond_false, cond_true, hz, Option.bind_some]
    rw [sortedS _ (tk_nodup h).1 (by rw [tk_len]; omega), Option.bind_some, sameSL _ _ hp, Option.bind_some]
    rw [show decide (p = sortL (tk n.toNat l s)) = decide (sortL (tk n.toNat l s) = p) by rw [Bool.eq_iff_iff, decide_eq_true_eq, decide_eq_true_eq]; exact eq_comm]

/-! ### Seeds -/
def atI' (l : List Int) (x : Int) : Int := firstAt (fun y => x == y) l
theorem indexP (l : List Int) (x : Int) (hl : l.length < 1000000) : M.slices_Index_int_int l x = some (atI' l x) := by
  unfold M.slices_Index_int_int
  exact iter_first (step := M.slices_Index_int_int_l0 l x) (fun y => x == y) l (by omega) (fun k hk => by
    unfold M.slices_Index_int_int_l0
    simp (disch := first | omega | (intros; simp only [decide_eq_true_eq, decide_eq_false_iff_not, Bool.not_eq_true, Bool.not_eq_false, Bool.not_true, Bool.not_false] at *; omega)) only [cast_succ, asrt_pos, wrap64_id, Option.bind_some, cond_true, cond_false, decide_eq_true, decide_eq_false, Int.toNat_natCast, Bool.not_true, Bool.not_false, Bool.and_true, Bool.true_and, Bool.and_false, Bool.false_and, Bool.or_true, Bool.true_or, Bool.or_false, Bool.false_or, bif_some]) (by
    unfold M.slices_Index_int_int_l0
    simp (disch := first | omega | (intros; simp only [decide_eq_true_eq, decide_eq_false_iff_not, Bool.not_eq_true, Bool.not_eq_false, Bool.not_true, Bool.not_false] at *; omega)) only [cast_succ, asrt_pos, wrap64_id, Option.bind_some, cond_true, cond_false, decide_eq_true, decide_eq_false, Int.toNat_natCast, Bool.not_true, Bool.not_false, Bool.and_true, Bool.true_and, Bool.and_false, Bool.false_and, Bool.or_true, Bool.true_or, Bool.or_false, Bool.false_or])
def SeedD (l : List Int) (x : Int) : Int × Bool := bif popOk l && !decide (atI' l x < 0) then (atI' l x, true) else (0, false)
theorem seedI (l : List Int) (x : Int) (hl : l.length < 1000000) : M.impl_SeedFor l x = some (SeedD l x) := by
  unfold M.impl_SeedFor SeedD
  rw [indexP l x hl, Option.bind_some, popI l hl, Option.bind_some]
  cases popOk l
  · rfl
  · cases decide (atI' l x < 0) <;> rfl
theorem seedS (l : List Int) (x : Int) (hl : l.length < 1000000) : M.spec_SeedFor l x = some (SeedD l x) := by
  unfold M.spec_SeedFor SeedD
  rw [popS l hl, Option.bind_some]
  cases popOk l
  · rfl
  simp only [Bool.not_true, cond_false, Bool.true_and]
  rcases iter_find (step := M.spec_SeedFor_l0 l x) (s := 0) (fun k => (k : Int)) l.length (fun k => x == l.getD k default) (fun k => .inr ((k : Int), true)) (.inl ()) rfl (by omega)
    (fun k hk hp => by
      have hp' : (l.getD k default == x) = false := by rw [← hp]; exact Bool.beq_comm
      unfold M.spec_SeedFor_l0
      simp (disch := first | omega | (intros; simp only [decide_eq_true_eq, decide_eq_false_iff_not, Bool.not_eq_true, Bool.not_eq_false, Bool.not_true, Bool.not_false] at *; omega)) only [cast_succ, asrt_pos, wrap64_id, Option.bind_some, cond_true, cond_false, decide_eq_true, decide_eq_false, Int.toNat_natCast, Bool.not_true, Bool.not_false, Bool.and_true, Bool.true_and, Bool.and_false, Bool.false_and, Bool.or_true, Bool.true_or, Bool.or_false, Bool.false_or, hp'])
    (fun k hk hp => by
      have hp' : (l.getD k default == x) = true := by rw [← hp]; exact Bool.beq_comm
      unfold M.spec_SeedFor_l0
      simp (disch := first | omega | (intros; simp only [decide_eq_true_eq, decide_eq_false_iff_not, Bool.not_eq_true, Bool.not_eq_false, Bool.not_true, Bool.not_false] at *; omega)) only [cast_succ, asrt_pos, wrap64_id, Option.bind_some, cond_true, cond_false, decide_eq_true, decide_eq_false, Int.toNat_natCast, Bool.not_true, Bool.not_false, Bool.and_true, Bool.true_and, Bool.and_false, Bool.false_and, Bool.or_true, Bool.true_or, Bool.or_false, Bool.false_or, hp'])
    (by
      unfold M.spec_SeedFor_l0
      simp (disch := first | omega | (intros; simp only [decide_eq_true_eq, decide_eq_false_iff_not, Bool.not_eq_true, Bool.not_eq_false, Bool.not_true, Bool.not_false] at *; omega)) only [cast_succ, asrt_pos, wrap64_id, Option.bind_some, cond_true, cond_false, decide_eq_true, decide_eq_false, Int.toNat_natCast, Bool.not_true, Bool.not_false, Bool.and_true, Bool.true_and, Bool.and_false, Bool.false_and, Bool.or_true, Bool.true_or, Bool.or_false, Bool.false_or]) with ⟨k, h1, h2, h3, h4⟩ | ⟨h1, h2⟩
  · have e : atI' l x = (k : Int) := firstAt_some h1 h3 h2
    rw [h4, e, decide_eq_false (show ¬ (k : Int) < 0 by omega)]
    rfl
  · have e : atI' l x = -1 := firstAt_none h1
    rw [h2, e]
    rfl

/-! ### What is not sampled -/
def hasB (l : List Int) (x : Int) : Bool := l.any fun y => x == y
theorem hasB_iff {l : List Int} {x : Int} : hasB l x = true ↔ x ∈ l := by
  unfold hasB
  rw [List.any_eq_true]
  exact ⟨fun ⟨y, hy, e⟩ => by rw [eq_of_beq e]; exact hy, fun h => ⟨x, h, by simp⟩⟩
def NotD (l p : List Int) : List Int × Bool := bif (popOk l && popOk p) && p.all (hasB l) then (l.filter fun x => !hasB p x, true) else ([], false)
theorem notI (l p : List Int) (hl : l.length < 1000000) (hp : p.length < 1000000) : M.impl_NotSampled l p = some (NotD l p) := by
  unfold M.impl_NotSampled NotD
  simp only [popI l hl, popI p hp, Option.bind_some, bif_some]
  have hc : M.slices_ContainsFunc_int_int p (fun x0 => M.impl_NotSampled_1 x0 l) = some (!p.all (hasB l)) := by
    unfold M.slices_ContainsFunc_int_int M.slices_IndexFunc_int_int
    have h := iter_first (step := M.slices_IndexFunc_int_int_l0 p (fun x0 => M.impl_NotSampled_1 x0 l)) (fun x => !hasB l x) p (by omega) (fun k hk => by
      have e : M.impl_NotSampled_1 (p.getD k default) l = some (!hasB l (p.getD k default)) := by unfold M.impl_NotSampled_1; rw [contI l _ hl]; rfl
      unfold M.slices_IndexFunc_int_int_l0
      simp (disch := first | omega | (intros; simp only [decide_eq_true_eq, decide_eq_false_iff_not, Bool.not_eq_true, Bool.not_eq_false, Bool.not_true, Bool.not_false] at *; omega)) only [cast_succ, asrt_pos, wrap64_id, Option.bind_some, cond_true, cond_false, decide_eq_true, decide_eq_false, Int.toNat_natCast, Bool.not_true, Bool.not_false, Bool.and_true, Bool.true_and, Bool.and_false, Bool.false_and, Bool.or_true, Bool.true_or, Bool.or_false, Bool.false_or, e, bif_some]) (by
      unfold M.slices_IndexFunc_int_int_l0
      simp (disch := first | omega | (intros; simp only [decide_eq_true_eq, decide_eq_false_iff_not, Bool.not_eq_true, Bool.not_eq_false, Bool.not_true, Bool.not_false] at *; omega)) only [cast_succ, asrt_pos, wrap64_id, Option.bind_some, cond_true, cond_false, decide_eq_true, decide_eq_false, Int.toNat_natCast, Bool.not_true, Bool.not_false, Bool.and_true, Bool.true_and, Bool.and_false, Bool.false_and, Bool.or_true, Bool.true_or, Bool.or_false, Bool.false_or])
    refine (congrArg (fun q => q.bind fun y0 => some (decide (y0 ≥ (0 : Int)))) h).trans ?_
    have h2 := firstAt_neg (p := fun x => !hasB l x) (l := p)
    have h3 : decide (firstAt (fun x => !hasB l x) p ≥ 0) = p.any (fun x => !hasB l x) := by
      rw [show decide (firstAt (fun x => !hasB l x) p ≥ 0) = !decide (firstAt (fun x => !hasB l x) p < 0) by rw [Bool.eq_iff_iff]; simp, h2, Bool.not_not]
    rw [Option.bind_some, h3, List.all_eq_not_any_not, Bool.not_not]
  rw [hc]
  cases h1 : popOk l
  · rfl
  cases h2 : popOk p
  · rfl
  simp only [Bool.not_true, cond_false, Option.bind_some, Bool.or_self, Bool.false_or, Bool.true_and]
  cases h3 : p.all (hasB l)
  · rfl
  · have h4 := (popOk_spec h1).1
    simp only [Bool.not_true, cond_false, cond_true]
    unfold M.slices_Clone_int_int
    rw [asrt_pos (by omega), Option.bind_some, delI l (hasB p) _ (fun x _ => by unfold M.impl_NotSampled_2; rw [contI p _ hp]; rfl) hl]
    rfl
theorem notS (l p : List Int) (hl : l.length < 1000000) (hp : p.length < 1000000) : M.spec_NotSampled l p = some (NotD l p) := by
  unfold M.spec_NotSampled NotD
  simp only [popS l hl, popS p hp, Option.bind_some, bif_some]
  cases h1 : popOk l
  · rfl
  cases h2 : popOk p
  · rfl
  simp only [Bool.not_true, cond_false, Bool.or_self, Bool.true_and]
  rw [iter_any (step := M.spec_NotSampled_l0 l p) (s := 0) (fun k => (k : Int)) p.length (fun k => !hasB l (p.getD k default)) (.inr (([] : List Int), false)) (.inl ()) rfl (by omega)
    (fun k hk hq => by
      have e : M.spec_l1Has l (p.getD k default) = some (hasB l (p.getD k default)) := hasS l _ hl
      unfold M.spec_NotSampled_l0
      simp (disch := first | omega | (intros; simp only [decide_eq_true_eq, decide_eq_false_iff_not, Bool.not_eq_true, Bool.not_eq_false, Bool.not_true, Bool.not_false] at *; omega)) only [cast_succ, asrt_pos, wrap64_id, Option.bind_some, cond_true, cond_false, decide_eq_true, decide_eq_false, Int.toNat_natCast, Bool.not_true, Bool.not_false, Bool.and_true, Bool.true_and, Bool.and_false, Bool.false_and, Bool.or_true, Bool.true_or, Bool.or_false, Bool.false_or, e, hq])
    (fun k hk hq => by
      have e : M.spec_l1Has l (p.getD k default) = some (hasB l (p.getD k default)) := hasS l _ hl
      unfold M.spec_NotSampled_l0
      simp (disch := first | omega | (intros; simp only [decide_eq_true_eq, decide_eq_false_iff_not, Bool.not_eq_true, Bool.not_eq_false, Bool.not_true, Bool.not_false] at *; omega)) only [cast_succ, asrt_pos, wrap64_id, Option.bind_some, cond_true, cond_false, decide_eq_true, decide_eq_false, Int.toNat_natCast, Bool.not_true, Bool.not_false, Bool.and_true, Bool.true_and, Bool.and_false, Bool.false_and, Bool.or_true, Bool.true_or, Bool.or_false, Bool.false_or, e, hq])
    (by
      unfold M.spec_NotSampled_l0
      simp (disch := first | omega | (intros; simp only [decide_eq_true_eq, decide_eq_false_iff_not, Bool.not_eq_true, Bool.not_eq_false, Bool.not_true, Bool.not_false] at *; omega)) only [cast_succ, asrt_pos, wrap64_id, Option.bind_some, cond_true, cond_false, decide_eq_true, decide_eq_false, Int.toNat_natCast, Bool.not_true, Bool.not_false, Bool.and_true, Bool.true_and, Bool.and_false, Bool.false_and, Bool.or_true, Bool.true_or, Bool.or_false, Bool.false_or]), ← any_getD (p := fun x => !hasB l x)]
  have e3 : (p.any fun x => !hasB l x) = !p.all (hasB l) := by rw [List.all_eq_not_any_not, Bool.not_not]
  rw [e3]
  cases h3 : p.all (hasB l)
  · rfl
  · simp only [Bool.not_true, cond_false, cond_true, Option.bind_some]
    rw [iter_coll (s := (([] : List Int), (0 : Int))) (step := M.spec_NotSampled_l1 l p) (fun a k => (a, (k : Int))) (fun x : Int => bif !hasB p x then [x] else []) id l rfl (by omega) (fun k _ => if_len _ _) (fun a k hk ha => by
      have e : M.spec_l1Has p (l.getD k default) = some (hasB p (l.getD k default)) := hasS p _ hp
      unfold M.spec_NotSampled_l1
      simp (disch := first | omega | (intros; simp only [decide_eq_true_eq, decide_eq_false_iff_not, Bool.not_eq_true, Bool.not_eq_false, Bool.not_true, Bool.not_false] at *; omega)) only [cast_succ, asrt_pos, wrap64_id, Option.bind_some, cond_true, cond_false, decide_eq_true, decide_eq_false, Int.toNat_natCast, Bool.not_true, Bool.not_false, Bool.and_true, Bool.true_and, Bool.and_false, Bool.false_and, Bool.or_true, Bool.true_or, Bool.or_false, Bool.false_or, app_if, List.length_singleton, e]
      cases hasB p (l.getD k default) <;> rfl) (fun a ha => by
      unfold M.spec_NotSampled_l1
      simp (disch := first | omega | (intros; simp only [decide_eq_true_eq, decide_eq_false_iff_not, Bool.not_eq_true, Bool.not_eq_false, Bool.not_true, Bool.not_false] at *; omega)) only [cast_succ, asrt_pos, wrap64_id, Option.bind_some, cond_true, cond_false, decide_eq_true, decide_eq_false, Int.toNat_natCast, Bool.not_true, Bool.not_false, Bool.and_true, Bool.true_and, Bool.and_false, Bool.false_and, Bool.or_true, Bool.true_or, Bool.or_false, Bool.false_or, id])]
    simp only [id, Option.bind_some, flatMap_if, List.map_id']
theorem NotD_len {l p : List Int} (hl : l.length < 1000000) : (NotD l p).1.length < 1000000 := by
  unfold NotD
  cases (popOk l && popOk p) && p.all (hasB l)
  · simp
  · exact Nat.lt_of_le_of_lt (List.length_filter_le _ _) hl

/-- What is drawn and what is left are all. -/
theorem left_len {l : List Int} {n s : Int} (h : askOk l n s = true) : (l.filter fun x => !hasB (sortL (tk n.toNat l s)) x).length + n.toNat = l.length := by
  obtain ⟨h1, h2, h3⟩ := askOk_spec h
  obtain ⟨rest, hp⟩ := tk_perm n.toNat l s h2.2.1 h3
  have hn : l.Nodup := (popOk_spec h1).2.1.imp (fun g => by omega)
  have hnd := hp.symm.nodup_iff.1 hn
  obtain ⟨_, _, hdj⟩ := List.nodup_append.1 hnd
  have e1 : (l.filter fun x => !hasB (sortL (tk n.toNat l s)) x).length = ((tk n.toNat l s ++ rest).filter fun x => !hasB (sortL (tk n.toNat l s)) x).length := (hp.symm.filter _).length_eq
  have e2 : (tk n.toNat l s).filter (fun x => !hasB (sortL (tk n.toNat l s)) x) = [] := List.filter_eq_nil_iff.2 fun x hx => by
    rw [hasB_iff.2 (sortL_mem.2 hx)]; simp
  have e3 : rest.filter (fun x => !hasB (sortL (tk n.toNat l s)) x) = rest := List.filter_eq_self.2 fun x hx => by
    have : hasB (sortL (tk n.toNat l s)) x = false := by
      cases hb : hasB (sortL (tk n.toNat l s)) x
      · rfl
      · exact absurd rfl (hdj x (sortL_mem.1 (hasB_iff.1 hb)) x hx)
    rw [this]; rfl
  have e4 := hp.length_eq
  rw [List.length_append, tk_len] at e4
  rw [e1, List.filter_append, e2, e3, List.nil_append]
  omega

/-! ### Draws -/
theorem drawPop {code : List Int} {k : Nat} {c : Cur} (hb : Bytes code) (h : Good code k c) (hk : k < 600000000) : T (M.spec_l1Cur_population c) (fun r => r.1.length ≤ 30 ∧ Good code (k + 100) r.2) := by
  unfold M.spec_l1Cur_population
  refine T_among hb h (by omega) (by simp) ?_
  intro a0 c1 _ h1
  refine T_pick hb h1 (by omega) ?_
  intro n c2 _ hn h2
  have hn := hn (by omega)
  dsimp only
  refine T.then (Q := fun r => r.1.length ≤ 8 ∧ Good code (k + 30) r.2.2) (T_iter (fun s => 0 ≤ s.2.2.1 ∧ s.1.length + s.2.2.1.toNat ≤ 8 ∧ Good code (k + 30 - 2 * s.2.2.1.toNat) s.2.2.2) (fun s => s.2.2.1.toNat) _ ⟨hn.1, by (first | omega | (simp only; omega) | (dsimp only; omega) | (simp; omega)), h2.up (by (first | omega | (simp only; omega) | (dsimp only; omega) | (simp; omega)))⟩ (by (first | omega | (simp only; omega) | (dsimp only; omega) | (simp; omega))) ?_) ?_
  · rintro ⟨out, a, n, c3⟩ ⟨g1, g2, g3⟩
    simp only at g1 g2 g3
    unfold M.spec_l1Cur_population_l0
    dsimp only
    refine T_if (fun hq => ?_) (fun hq => T_ret ⟨by simp only; omega, g3.up (by omega)⟩)
    simp only [decide_eq_true_eq] at hq
    refine T_ask (by rw [List.length_singleton]; omega) ?_
    refine T_among hb g3 (by omega) (by simp) ?_
    intro y c4 _ h4
    rw [wrap64_id (n := n - 1) (by omega) (by omega)]
    refine T_ret ⟨⟨by simp only; omega, by simp only [List.length_append, List.length_singleton]; omega, h4.up (by simp only; omega)⟩, by simp only; omega⟩
  · rintro ⟨out, a, c3⟩ ⟨g1, g2⟩
    simp only at g1 g2
    refine T_pick hb g2 (by omega) ?_
    intro x c4 _ _ h4
    refine T_in ?_
    refine T.mono (Q := fun r => r.1.length ≤ 30 ∧ Good code (k + 100) r.2) ?_ (fun r hr => T_ret hr)
    dsimp only
    refine T_if (fun _ => ?_) (fun _ => T_if (fun _ => ?_) (fun _ => T_ret ⟨by simp only; omega, h4.up (by omega)⟩))
    · refine T_among hb h4 (by omega) (by simp) ?_
      intro y c5 _ h5
      refine T_ask (by rw [List.length_singleton]; omega) (T_ret ⟨by simp only [List.length_append, List.length_singleton]; omega, h5.up (by omega)⟩)
    · refine T.then (Q := fun r => r.1.length ≤ 30 ∧ Good code (k + 100) r.2) (T_iter (fun s => s.1.length ≤ 21 ∧ Good code (k + 40 + 2 * s.1.length) s.2.2) (fun s => 21 - s.1.length) _ ⟨by simp only; omega, h4.up (by simp only; omega)⟩ (by simp only; omega) ?_) (fun r hr => T_ret hr)
      rintro ⟨l, a, c5⟩ ⟨q1, q2⟩
      simp only at q1 q2
      unfold M.spec_l1Cur_population_l1
      dsimp only
      refine T_pick hb q2 (by omega) ?_
      intro p c6 _ hp h6
      have hp := hp (by omega)
      dsimp only
      rw [wrap64_id (n := 20 + p) (by omega) (by omega)]
      refine T_if (fun hq => ?_) (fun hq => T_ret ⟨by simp only; omega, h6.up (by omega)⟩)
      simp only [decide_eq_true_eq] at hq
      refine T_ask (by rw [List.length_singleton]; omega) (T_ret ⟨⟨by simp only [List.length_append, List.length_singleton]; omega, h6.up (by simp only [List.length_append, List.length_singleton]; omega)⟩, by simp only [List.length_append, List.length_singleton]; omega⟩)

theorem drawSeed {code : List Int} {k : Nat} {c : Cur} (hb : Bytes code) (h : Good code k c) (hk : k < 600000000) : T (M.spec_l1Cur_anySeed c) (fun r => Good code (k + 2) r.2) := by
  unfold M.spec_l1Cur_anySeed
  refine T_among hb h (by omega) (by simp) ?_
  intro x c1 _ h1
  exact T_ret h1

theorem good0s {code : List Int} : Good code 0 (⟨code, 0, 0⟩ : Cur) := ⟨rfl, Int.le_refl _, Int.le_refl _⟩

theorem dSampleOf {code : List Int} (hb : Bytes code) : T (M.spec_DrawSampleOf code) (fun r => r.1.length ≤ 30) := by
  unfold M.spec_DrawSampleOf
  refine (drawPop hb good0s (by omega)).then ?_
  rintro ⟨l, c1⟩ ⟨g1, g2⟩
  refine T_pick hb g2 (by omega) ?_
  intro x c2 _ _ h2
  refine T_pick hb h2 (by omega) ?_
  intro y c3 _ _ h3
  refine (drawSeed hb h3 (by omega)).then ?_
  rintro ⟨z, c4⟩ _
  exact T_ret g1
theorem SmpD_short {l : List Int} {n s : Int} : (SmpD l n s).1.length ≤ 30 := by
  unfold SmpD
  cases h : askOk l n s
  · simp
  · obtain ⟨h1, h2, h3⟩ := askOk_spec h
    have h4 := (popOk_spec h1).1
    simp only [cond_true, sortL_len, tk_len]; omega
theorem dIsSample {code : List Int} (hb : Bytes code) : T (M.spec_DrawIsSampleOf code) (fun r => r.1.length ≤ 30 ∧ r.2.1.length ≤ 30) := by
  unfold M.spec_DrawIsSampleOf
  refine (drawPop hb good0s (by omega)).then ?_
  rintro ⟨l, c1⟩ ⟨g1, g2⟩
  simp only at g1 g2
  refine T_pick hb g2 (by omega) ?_
  intro n c2 _ _ h2
  refine (drawSeed hb h2 (by omega)).then ?_
  rintro ⟨s, c3⟩ h3
  simp only at h3
  dsimp only
  rw [smpS l n s (by omega), Option.bind_some]
  refine T_in ?_
  refine T.mono (Q := fun r => r.1.length ≤ 30) ?_ (fun r hr => T_ret ⟨g1, hr⟩)
  have hs := SmpD_short (l := l) (n := n) (s := s)
  cases hc : (SmpD l n s).2
  · simp only [Bool.not_false, cond_true, Option.bind_some, Bool.true_or]
    refine (drawPop hb h3 (by omega)).then ?_
    rintro ⟨p, c4⟩ ⟨q1, _⟩
    exact T_ret q1
  · simp only [Bool.not_true, cond_false, Bool.false_or]
    refine T_one hb h3 (by omega) ?_
    intro b c4 h4
    dsimp only
    refine T_if (fun _ => ?_) (fun _ => T_ret hs)
    refine (drawPop hb h4 (by omega)).then ?_
    rintro ⟨p, c5⟩ ⟨q1, _⟩
    exact T_ret q1
theorem dSeedFor {code : List Int} (hb : Bytes code) : T (M.spec_DrawSeedFor code) (fun r => r.1.length ≤ 30) := by
  unfold M.spec_DrawSeedFor
  refine (drawPop hb good0s (by omega)).then ?_
  rintro ⟨l, c1⟩ ⟨g1, g2⟩
  simp only at g1 g2
  dsimp only
  by_cases he : decide ((l.length : Int) > 0) = true
  · simp only [he, cond_true, Bool.true_and]
    refine T_one hb g2 (by omega) ?_
    intro b c2 h2
    dsimp only
    refine T_if (fun _ => ?_) (fun _ => ?_)
    · refine T_pick hb h2 (by omega) ?_
      intro x c3 _ hx h3
      simp only [decide_eq_true_eq] at he
      exact T_ask (hx (by omega)) (T_ret g1)
    · refine T_among hb h2 (by omega) (by simp) ?_
      intro x c3 _ h3
      exact T_ret g1
  · simp only [Bool.not_eq_true] at he
    simp only [he, cond_false, Option.bind_some, Bool.false_and]
    refine T_among hb g2 (by omega) (by simp) ?_
    intro x c3 _ h3
    exact T_ret g1
theorem dNotSampled {code : List Int} (hb : Bytes code) : T (M.spec_DrawNotSampled code) (fun r => r.1.length ≤ 30 ∧ r.2.length ≤ 30) := by
  unfold M.spec_DrawNotSampled
  refine (drawPop hb good0s (by omega)).then ?_
  rintro ⟨l, c1⟩ ⟨g1, g2⟩
  simp only at g1 g2
  refine T_pick hb g2 (by omega) ?_
  intro n c2 _ _ h2
  dsimp only
  rw [smpS l n 7 (by omega), Option.bind_some]
  have hs := SmpD_short (l := l) (n := n) (s := 7)
  cases hc : (SmpD l n 7).2
  · simp only [cond_false, Option.bind_some, Bool.false_and]
    refine (drawPop hb h2 (by omega)).then ?_
    rintro ⟨p, c4⟩ ⟨q1, _⟩
    exact T_ret ⟨g1, q1⟩
  · simp only [cond_true, Bool.true_and]
    refine T_one hb h2 (by omega) ?_
    intro b c4 h4
    dsimp only
    refine T_if (fun _ => T_ret ⟨g1, hs⟩) (fun _ => ?_)
    refine (drawPop hb h4 (by omega)).then ?_
    rintro ⟨p, c5⟩ ⟨q1, _⟩
    exact T_ret ⟨g1, q1⟩

theorem vIntsA (a : List Int) (hl : a.length < 1000000) : M.laws_vInts a a = some true := by
  unfold M.laws_vInts
  simp only [bne_self_eq_false, cond_false]
  rw [iter_up (s := 0) (step := M.laws_vInts_l0 a a) (e := .inl ()) (fun k => (k : Int)) a.length rfl (by omega) (fun k hk => by
    unfold M.laws_vInts_l0
    simp (disch := first | omega | (intros; simp only [decide_eq_true_eq, decide_eq_false_iff_not, Bool.not_eq_true, Bool.not_eq_false, Bool.not_true, Bool.not_false] at *; omega)) only [cast_succ, asrt_pos, wrap64_id, Option.bind_some, cond_true, cond_false, decide_eq_true, decide_eq_false, Int.toNat_natCast, Bool.not_true, Bool.not_false, Bool.and_true, Bool.true_and, Bool.and_false, Bool.false_and, Bool.or_true, Bool.true_or, Bool.or_false, Bool.false_or, bne_self_eq_false]) (by
    unfold M.laws_vInts_l0
    simp (disch := first | omega | (intros; simp only [decide_eq_true_eq, decide_eq_false_iff_not, Bool.not_eq_true, Bool.not_eq_false, Bool.not_true, Bool.not_false] at *; omega)) only [cast_succ, asrt_pos, wrap64_id, Option.bind_some, cond_true, cond_false, decide_eq_true, decide_eq_false, Int.toNat_natCast, Bool.not_true, Bool.not_false, Bool.and_true, Bool.true_and, Bool.and_false, Bool.false_and, Bool.or_true, Bool.true_or, Bool.or_false, Bool.false_or])]
  rfl
theorem vHasA (m : List Int) (x : Int) (hl : m.length < 1000000) : M.laws_vHas m x = some (m.any fun y => y == x) := by
  unfold M.laws_vHas
  rw [iter_any (step := M.laws_vHas_l0 m x) (s := 0) (fun k => (k : Int)) m.length (fun k => m.getD k default == x) (.inr true) (.inl ()) rfl (by omega)
    (fun k hk hp => by
      unfold M.laws_vHas_l0
      simp (disch := first | omega | (intros; simp only [decide_eq_true_eq, decide_eq_false_iff_not, Bool.not_eq_true, Bool.not_eq_false, Bool.not_true, Bool.not_false] at *; omega)) only [cast_succ, asrt_pos, wrap64_id, Option.bind_some, cond_true, cond_false, decide_eq_true, decide_eq_false, Int.toNat_natCast, Bool.not_true, Bool.not_false, Bool.and_true, Bool.true_and, Bool.and_false, Bool.false_and, Bool.or_true, Bool.true_or, Bool.or_false, Bool.false_or, hp])
    (fun k hk hp => by
      unfold M.laws_vHas_l0
      simp (disch := first | omega | (intros; simp only [decide_eq_true_eq, decide_eq_false_iff_not, Bool.not_eq_true, Bool.not_eq_false, Bool.not_true, Bool.not_false] at *; omega)) only [cast_succ, asrt_pos, wrap64_id, Option.bind_some, cond_true, cond_false, decide_eq_true, decide_eq_false, Int.toNat_natCast, Bool.not_true, Bool.not_false, Bool.and_true, Bool.true_and, Bool.and_false, Bool.false_and, Bool.or_true, Bool.true_or, Bool.or_false, Bool.false_or, hp])
    (by
      unfold M.laws_vHas_l0
      simp (disch := first | omega | (intros; simp only [decide_eq_true_eq, decide_eq_false_iff_not, Bool.not_eq_true, Bool.not_eq_false, Bool.not_true, Bool.not_false] at *; omega)) only [cast_succ, asrt_pos, wrap64_id, Option.bind_some, cond_true, cond_false, decide_eq_true, decide_eq_false, Int.toNat_natCast, Bool.not_true, Bool.not_false, Bool.and_true, Bool.true_and, Bool.and_false, Bool.false_and, Bool.or_true, Bool.true_or, Bool.or_false, Bool.false_or]), ← any_getD (p := fun y => y == x)]
  cases m.any fun y => y == x <;> rfl
theorem vWithinA (a b : List Int) (ha : a.length < 1000000) (hb : b.length < 1000000) (h : ∀ x ∈ a, x ∈ b) : M.laws_vWithin a b = some true := by
  unfold M.laws_vWithin
  rw [iter_up (s := 0) (step := M.laws_vWithin_l0 a b) (e := .inl ()) (fun k => (k : Int)) a.length rfl (by omega) (fun k hk => by
    have e : (b.any fun y => y == a.getD k default) = true := List.any_eq_true.2 ⟨_, h _ (getD_mem hk), by simp⟩
    have e2 := vHasA b (a.getD k default) hb
    rw [e] at e2
    unfold M.laws_vWithin_l0
    simp (disch := first | omega | (intros; simp only [decide_eq_true_eq, decide_eq_false_iff_not, Bool.not_eq_true, Bool.not_eq_false, Bool.not_true, Bool.not_false] at *; omega)) only [cast_succ, asrt_pos, wrap64_id, Option.bind_some, cond_true, cond_false, decide_eq_true, decide_eq_false, Int.toNat_natCast, Bool.not_true, Bool.not_false, Bool.and_true, Bool.true_and, Bool.and_false, Bool.false_and, Bool.or_true, Bool.true_or, Bool.or_false, Bool.false_or, e2]) (by
    unfold M.laws_vWithin_l0
    simp (disch := first | omega | (intros; simp only [decide_eq_true_eq, decide_eq_false_iff_not, Bool.not_eq_true, Bool.not_eq_false, Bool.not_true, Bool.not_false] at *; omega)) only [cast_succ, asrt_pos, wrap64_id, Option.bind_some, cond_true, cond_false, decide_eq_true, decide_eq_false, Int.toNat_natCast, Bool.not_true, Bool.not_false, Bool.and_true, Bool.true_and, Bool.and_false, Bool.false_and, Bool.or_true, Bool.true_or, Bool.or_false, Bool.false_or])]
  rfl

theorem law_FnSamples (code : List Int) (h1 : code.length ≤ 9223372036854775807) (h2 : ∀ x, x ∈ code → 0 ≤ x ∧ x ≤ 255) : M.laws_FnSamples code = some true := by
  apply T.eq
  unfold M.laws_FnSamples M.laws_vBig
  rw [Option.bind_some]
  refine T_if (fun _ => T_ret rfl) (fun hq => ?_)
  simp only [decide_eq_false_iff_not] at hq
  have hb : Bytes code := ⟨by omega, h2⟩
  refine (dSampleOf hb).then ?_
  rintro ⟨l, n, s⟩ hl
  simp only at hl
  have hl' : l.length < 1000000 := by omega
  have hS : M.spec_IsPopulation l = some (popOk l) := by unfold M.spec_IsPopulation; rw [popS l hl']; rfl
  have hf : (OrdD l n s).2 = (SmpD l n s).2 := by unfold OrdD SmpD; cases askOk l n s <;> rfl
  simp only [smpI l n s hl', smpS l n s hl', Option.bind_some, beq_self_eq_true, Bool.not_true, cond_false, vIntsA _ SmpD_len, Bool.or_self, popI l hl', hS, ordI l n s hl', ordS l n s hl', hf, vIntsA _ OrdD_len]
  refine T.then (Q := fun e => e = .inl ()) (T_if (fun hm => ?_) (fun _ => T_ret rfl)) ?_
  · have ha : askOk l n s = true := by
      unfold SmpD at hm
      cases h : askOk l n s
      · rw [h] at hm; cases hm
      · rfl
    obtain ⟨a1, a2, a3⟩ := askOk_spec ha
    have a4 := (popOk_spec a1).1
    have e1 : SmpD l n s = (sortL (tk n.toNat l s), true) := by unfold SmpD; rw [ha]; rfl
    have e2 : OrdD l n s = (tk n.toNat l s, true) := by unfold OrdD; rw [ha]; rfl
    have e3 : IsSD l (sortL (tk n.toNat l s)) n s = (true, true) := by unfold IsSD; rw [ha]; simp
    have hlen : (sortL (tk n.toNat l s)).length = n.toNat := by rw [sortL_len, tk_len]
    have e4 : NotD l (sortL (tk n.toNat l s)) = (l.filter fun x => !hasB (sortL (tk n.toNat l s)) x, true) := by
      unfold NotD
      rw [a1, smp_pop ha, List.all_eq_true.2 (fun x hx => hasB_iff.2 ((tk_nodup ha).2 x (sortL_mem.1 hx)))]
      rfl
    have e5 := left_len ha
    have e6 : (((sortL (tk n.toNat l s)).length : Int) != n) = false := by rw [hlen, bne_eq_false_iff_eq]; omega
    have e7 : (((tk n.toNat l s).length : Int) != n) = false := by rw [tk_len, bne_eq_false_iff_eq]; omega
    have e8 : (IntKind.i64.wrap (((l.filter fun x => !hasB (sortL (tk n.toNat l s)) x).length : Int) + n) != (l.length : Int)) = false := by
      rw [wrap64_id (by omega) (by omega), bne_eq_false_iff_eq]; omega
    have e9 := vWithinA (tk n.toNat l s) (sortL (tk n.toNat l s)) (by rw [tk_len]; omega) (by omega) (fun x hx => sortL_mem.2 hx)
    rw [e1, e2, isSI l _ n s hl', e3, Option.bind_some, notI l _ hl' (by simp only; omega), e4, Option.bind_some]
    simp only [Bool.not_true, Bool.or_self, e6, e7, e8, cond_false, e9, Option.bind_some]
    exact T_ret rfl
  rintro _ rfl
  dsimp only
  refine (dIsSample hb).then ?_
  rintro ⟨l, p, n, s⟩ ⟨g1, g2⟩
  simp only at g1 g2
  simp only [isSI l p n s (by omega), isSS l p n s (by omega) (by omega), Option.bind_some, beq_self_eq_true, Bool.not_true, Bool.or_self, cond_false]
  refine (dSeedFor hb).then ?_
  rintro ⟨l, x⟩ g1
  simp only at g1
  simp only [seedI l x (by omega), seedS l x (by omega), Option.bind_some, beq_self_eq_true, bne_self_eq_false, Bool.not_true, Bool.or_self, cond_false]
  refine T.then (Q := fun e => e = .inl ()) (T_if (fun hm => ?_) (fun _ => T_ret rfl)) ?_
  · unfold SeedD at hm ⊢
    cases hc : popOk l && !decide (atI' l x < 0)
    · rw [hc] at hm; cases hm
    simp only [Bool.and_eq_true, Bool.not_eq_true', decide_eq_false_iff_not] at hc
    obtain ⟨c1, c2⟩ := hc
    have c3 := (popOk_spec c1).1
    have hany : l.any (fun y => x == y) = true := by
      have := firstAt_neg (p := fun y => x == y) (l := l)
      unfold atI' at c2
      rw [decide_eq_false c2] at this
      simpa using this.symm
    obtain ⟨k1, k2, k3, k4⟩ := firstAt_at hany
    have k5 : l.getD (atI' l x).toNat default = x := (eq_of_beq k4).symm
    have k1' : 0 ≤ atI' l x := k1
    have k3' : atI' l x < (l.length : Int) := k3
    have hask : askOk l 1 (atI' l x) = true := by
      unfold askOk
      rw [c1, inR_true.2 (show 0 ≤ (1 : Int) ∧ (1 : Int) ≤ (l.length : Int) by omega), inR_true.2 (show 0 ≤ atI' l x ∧ atI' l x ≤ 99999 by omega)]
      rfl
    have hmod : Int.tmod (atI' l x) (l.length : Int) = atI' l x := by
      rw [Int.tmod_eq_emod_of_nonneg k1']
      exact Int.emod_eq_of_lt k1' k3'
    have hO : OrdD l 1 (atI' l x) = ([x], true) := by
      unfold OrdD
      rw [hask]
      show (tk 1 l (atI' l x), true) = ([x], true)
      unfold tk tk
      rw [hmod, k5]
    simp only [cond_true]
    rw [ordI l 1 _ (by omega), hO, Option.bind_some]
    refine T_ask (fun _ => by simp) ?_
    simp only [Bool.not_true, List.length_singleton, Bool.false_or]
    refine T_if (fun hx => ?_) (fun _ => T_ret rfl)
    exfalso
    simp at hx
  rintro _ rfl
  dsimp only
  refine (dNotSampled hb).then ?_
  rintro ⟨l, p⟩ ⟨g1, g2⟩
  simp only at g1 g2
  simp only [notI l p (by omega) (by omega), notS l p (by omega) (by omega), Option.bind_some, beq_self_eq_true, cond_true, vIntsA _ (NotD_len (l := l) (p := p) (by omega)), Bool.and_self]
  exact T_ret rfl
end Go.Proofs.Ythffmnpbonkpaaa
