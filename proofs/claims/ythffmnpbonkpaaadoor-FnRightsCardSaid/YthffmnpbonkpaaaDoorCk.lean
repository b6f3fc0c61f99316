/-
  Clerks: validity, rights on a day, who may; draws. Plain.
-/
import Derived.Test.YthffmnpbonkpaaaDoorWo
set_option linter.unusedSimpArgs false
set_option linter.unusedVariables false
namespace Go.Proofs.YthffmnpbonkpaaaDoor
open Go.VS

/-! ### Rights as bits -/
def andB (a b : Int) : Int := IntKind.i64.wrap (BitVec.ofInt IntKind.i64.bits a &&& BitVec.ofInt IntKind.i64.bits b).toNat
def orB (a b : Int) : Int := IntKind.i64.wrap (BitVec.ofInt IntKind.i64.bits a ||| BitVec.ofInt IntKind.i64.bits b).toNat
theorem orB_all : ∀ a b : Fin 16, 0 ≤ orB (a.val : Int) (b.val : Int) ∧ orB (a.val : Int) (b.val : Int) ≤ 15 := by decide +kernel
theorem orB_bd {a b : Int} (ha : 0 ≤ a ∧ a ≤ 15) (hb : 0 ≤ b ∧ b ≤ 15) : 0 ≤ orB a b ∧ orB a b ≤ 15 := by
  have := orB_all ⟨a.toNat, by omega⟩ ⟨b.toNat, by omega⟩
  simpa [Int.toNat_of_nonneg ha.1, Int.toNat_of_nonneg hb.1] using this
theorem and28_all : ∀ a : Fin 16, andB (a.val : Int) 2 = 2 → andB (a.val : Int) 8 = 8 → andB (a.val : Int) 10 = 10 := by decide +kernel
theorem and28 {a : Int} (ha : 0 ≤ a ∧ a ≤ 15) (h1 : andB a 2 = 2) (h2 : andB a 8 = 8) : andB a 10 = 10 := by
  have := and28_all ⟨a.toNat, by omega⟩
  simpa [Int.toNat_of_nonneg ha.1, h1, h2] using this

def rightsOk (r : Int) : Bool := inR r 0 15 && (andB r 10 != 10)
def daysOk (a b : Int) : Bool := (inR a 0 20000 && inR b 0 20000) && decide (a ≤ b)
def clerkOk (x : Clerk) : Bool := ((((inR x.Id 1 99 && wordOk x.Name) && rightsOk x.Rights) && daysOk x.From x.Until) && inR x.Stands 0 99) && (x.Stands != x.Id)

theorem rightsI (r : Int) : M.impl_areRights r = some (rightsOk r) := rfl
theorem daysI' (a b : Int) : M.impl_areDays a b = some (daysOk a b) := by
  unfold M.impl_areDays daysOk
  simp only [isDayI, Option.bind_some, bif_some]
  cases inR a 0 20000 <;> rfl
theorem bothR (r : Int) : M.spec_l11Both r = some (andB r 10 == 10) := rfl

theorem clerkI (x : Clerk) (hx : x.Name.length < 1000000) : M.impl_IsClerk x = some (clerkOk x) := by
  unfold M.impl_IsClerk clerkOk
  simp only [isIdI, wordI _ hx, rightsI, daysI', withinI, Option.bind_some, bif_some]
  cases inR x.Id 1 99 <;> cases wordOk x.Name <;> cases rightsOk x.Rights <;> cases daysOk x.From x.Until <;> cases inR x.Stands 0 99 <;> rfl

theorem clerkS (x : Clerk) (hx : x.Name.length < 1000000) : M.spec_l11One x = some (clerkOk x) := by
  unfold M.spec_l11One clerkOk rightsOk daysOk
  simp only [l1InS, wordS _ hx, bothR, l2DayS, Option.bind_some, bif_some]
  have e : (inR x.Until 0 20000 && inR x.From 0 x.Until) = ((inR x.From 0 20000 && inR x.Until 0 20000) && decide (x.From ≤ x.Until)) := by
    rw [Bool.eq_iff_iff]
    simp only [Bool.and_eq_true, inR_true, decide_eq_true_eq]
    omega
  rw [← e, show (andB x.Rights 10 != 10) = !(andB x.Rights 10 == 10) from rfl]
  cases inR x.Id 1 99 <;> cases wordOk x.Name <;> cases inR x.Rights 0 15 <;> cases (andB x.Rights 10 == 10) <;> cases inR x.Until 0 20000 <;> cases inR x.From 0 x.Until <;> cases inR x.Stands 0 99 <;> rfl

/-! ### Places of clerks -/
def atC (l : List Clerk) (id_ : Int) : Int := firstAt (fun x : Clerk => x.Id == id_) l

theorem atI (l : List Clerk) (id_ : Int) (hl : l.length < 1000000) : M.impl_clerkAt l id_ = some (atC l id_) := by
  unfold M.impl_clerkAt M.slices_IndexFunc_impl_Clerk_impl_Clerk
  have h := iter_first (step := M.slices_IndexFunc_impl_Clerk_impl_Clerk_l0 l (fun x0 => M.impl_clerkAt_1 x0 id_)) (fun x : Clerk => x.Id == id_) l (by omega) (fun k hk => by
    unfold M.slices_IndexFunc_impl_Clerk_impl_Clerk_l0 M.impl_clerkAt_1
    simp (disch := first | omega | (intros; simp only [decide_eq_true_eq, decide_eq_false_iff_not, Bool.not_eq_true, Bool.not_eq_false, Bool.not_true, Bool.not_false] at *; omega)) only [cast_succ, asrt_pos, wrap64_id, Option.bind_some, cond_true, cond_false, decide_eq_true, decide_eq_false, Int.toNat_natCast, Bool.not_true, Bool.not_false, Bool.and_true, Bool.true_and, Bool.and_false, Bool.false_and, Bool.or_true, Bool.true_or, Bool.or_false, Bool.false_or, bif_some]) (by
    unfold M.slices_IndexFunc_impl_Clerk_impl_Clerk_l0
    simp (disch := first | omega | (intros; simp only [decide_eq_true_eq, decide_eq_false_iff_not, Bool.not_eq_true, Bool.not_eq_false, Bool.not_true, Bool.not_false] at *; omega)) only [cast_succ, asrt_pos, wrap64_id, Option.bind_some, cond_true, cond_false, decide_eq_true, decide_eq_false, Int.toNat_natCast, Bool.not_true, Bool.not_false, Bool.and_true, Bool.true_and, Bool.and_false, Bool.false_and, Bool.or_true, Bool.true_or, Bool.or_false, Bool.false_or])
  exact congrArg (fun q => q.bind fun y0 => some y0) h
theorem atS (l : List Clerk) (id_ : Int) (hl : l.length < 1000000) : M.spec_l11Find l id_ = some (atC l id_) := by
  unfold M.spec_l11Find
  exact iter_first (step := M.spec_l11Find_l0 l id_) (fun x : Clerk => x.Id == id_) l (by omega) (fun k hk => by
    unfold M.spec_l11Find_l0
    simp (disch := first | omega | (intros; simp only [decide_eq_true_eq, decide_eq_false_iff_not, Bool.not_eq_true, Bool.not_eq_false, Bool.not_true, Bool.not_false] at *; omega)) only [cast_succ, asrt_pos, wrap64_id, Option.bind_some, cond_true, cond_false, decide_eq_true, decide_eq_false, Int.toNat_natCast, Bool.not_true, Bool.not_false, Bool.and_true, Bool.true_and, Bool.and_false, Bool.false_and, Bool.or_true, Bool.true_or, Bool.or_false, Bool.false_or, bif_some]) (by
    unfold M.spec_l11Find_l0
    simp (disch := first | omega | (intros; simp only [decide_eq_true_eq, decide_eq_false_iff_not, Bool.not_eq_true, Bool.not_eq_false, Bool.not_true, Bool.not_false] at *; omega)) only [cast_succ, asrt_pos, wrap64_id, Option.bind_some, cond_true, cond_false, decide_eq_true, decide_eq_false, Int.toNat_natCast, Bool.not_true, Bool.not_false, Bool.and_true, Bool.true_and, Bool.and_false, Bool.false_and, Bool.or_true, Bool.true_or, Bool.or_false, Bool.false_or])

theorem atC_spec {l : List Clerk} {id_ : Int} (h : ¬ atC l id_ < 0) : (atC l id_).toNat < l.length ∧ atC l id_ < (l.length : Int) ∧ (l.getD (atC l id_).toNat default).Id = id_ := by
  have h1 : l.any (fun x : Clerk => x.Id == id_) = true := by
    have := firstAt_neg (p := fun x : Clerk => x.Id == id_) (l := l)
    unfold atC at h
    rw [decide_eq_false h] at this
    simpa using this.symm
  obtain ⟨_, g1, g2, g3⟩ := firstAt_at h1
  exact ⟨g1, g2, eq_of_beq g3⟩

/-! ### Validity of clerks -/
def badC (l : List Clerk) (k : Nat) : Bool := ((!clerkOk (l.getD k default)) || (decide ((k : Int) > 0) && decide ((l.getD (k - 1) default).Id ≥ (l.getD k default).Id))) ||
  (decide ((l.getD k default).Stands > 0) && (decide (atC l (l.getD k default).Stands < 0) || ((l.getD (atC l (l.getD k default).Stands).toNat default).Stands != 0)))
def clerksOk (l : List Clerk) : Bool := !(List.range l.length).any (badC l) && decide ((l.length : Int) ≤ 8)
def ClB (l : List Clerk) : Prop := l.length < 1000000 ∧ ∀ x ∈ l, x.Name.length < 1000000

theorem clerksI (l : List Clerk) (hl : ClB l) : M.impl_AreClerks l = some (clerksOk l) := by
  have := hl.1
  unfold M.impl_AreClerks
  rw [iter_rise (n := l.length) (bad := badC l) (by omega) (fun k hk => by
    have h1 := clerkI (l.getD k default) (hl.2 _ (getD_mem hk))
    have h2 := atI l (l.getD k default).Stands (by omega)
    have h3 : ∀ q : Prop, [Decidable q] → (¬ atC l (l.getD k default).Stands < 0 → (0 ≤ atC l (l.getD k default).Stands ∧ atC l (l.getD k default).Stands < (l.length : Int))) := fun _ _ h => ⟨by omega, (atC_spec h).2.1⟩
    unfold M.impl_AreClerks_l0 badC
    dsimp only
    rw [decide_eq_true (show (k : Int) < (l.length : Int) by omega), cond_true, asrt_pos ⟨by omega, by omega⟩, Int.toNat_natCast, h1, Option.bind_some]
    cases hc : clerkOk (l.getD k default)
    · rw [asrt_pos (fun h => by cases h)]; rfl
    · rw [asrt_pos (fun _ h => by
        simp only [decide_eq_true_eq] at h
        rw [wrap64_id (by omega) (by omega)]
        exact ⟨by omega, by omega⟩)]
      have e1 : (decide ((k : Int) > 0) && decide ((l.getD (IntKind.i64.wrap ((k : Int) - 1)).toNat default).Id ≥ (l.getD k default).Id)) = (decide ((k : Int) > 0) && decide ((l.getD (k - 1) default).Id ≥ (l.getD k default).Id)) := by
        rw [wrap64_id (by omega) (by omega), toNat_pred]
      rw [e1]
      simp only [Bool.not_true, Bool.false_or]
      cases (decide ((k : Int) > 0) && decide ((l.getD (k - 1) default).Id ≥ (l.getD k default).Id))
      · simp only [cond_false, Bool.false_or]
        cases hs : decide ((l.getD k default).Stands > 0)
        · simp only [cond_false, Bool.false_and, Option.bind_some]
          rw [wrap64_id (by omega) (by omega)]
        · simp only [cond_true, Bool.true_and, h2, Option.bind_some]
          rw [asrt_pos (fun h => by
            simp only [decide_eq_false_iff_not] at h
            exact ⟨by omega, (atC_spec h).2.1⟩)]
          cases (decide (atC l (l.getD k default).Stands < 0) || ((l.getD (atC l (l.getD k default).Stands).toNat default).Stands != 0))
          · simp only [cond_false, Option.bind_some]
            rw [wrap64_id (by omega) (by omega)]
          · rfl
      · rfl) (by
    unfold M.impl_AreClerks_l0
    simp (disch := first | omega | (intros; simp only [decide_eq_true_eq, decide_eq_false_iff_not, Bool.not_eq_true, Bool.not_eq_false, Bool.not_true, Bool.not_false] at *; omega)) only [cast_succ, asrt_pos, wrap64_id, Option.bind_some, cond_true, cond_false, decide_eq_true, decide_eq_false, Int.toNat_natCast, Bool.not_true, Bool.not_false, Bool.and_true, Bool.true_and, Bool.and_false, Bool.false_and, Bool.or_true, Bool.true_or, Bool.or_false, Bool.false_or])]
  unfold clerksOk
  cases (List.range l.length).any (badC l) <;> rfl

theorem clerksS (l : List Clerk) (hl : ClB l) : M.spec_l11Good l = some (clerksOk l) := by
  have := hl.1
  have step : ∀ k, k < l.length → k ≤ 8 → M.spec_l11Good_l0 l (k : Int) = some (bif badC l k then .inr (.inr false) else .inl ((k : Int) + 1)) := fun k hk hk8 => by
    have h1 := clerkS (l.getD k default) (hl.2 _ (getD_mem hk))
    have h2 := atS l (l.getD k default).Stands (by omega)
    unfold M.spec_l11Good_l0 badC
    dsimp only
    rw [decide_eq_true (show (k : Int) < (l.length : Int) by omega), decide_eq_true (show (k : Int) ≤ 8 by omega)]
    simp only [Bool.and_self, cond_true]
    rw [asrt_pos ⟨by omega, by omega⟩, Int.toNat_natCast, h1, Option.bind_some]
    cases hc : clerkOk (l.getD k default)
    · rw [asrt_pos (fun h => by cases h)]; rfl
    · rw [asrt_pos (fun _ h => by
        simp only [decide_eq_true_eq] at h
        rw [wrap64_id (by omega) (by omega)]
        exact ⟨by omega, by omega⟩)]
      have e1 : (decide ((k : Int) > 0) && decide ((l.getD (IntKind.i64.wrap ((k : Int) - 1)).toNat default).Id ≥ (l.getD k default).Id)) = (decide ((k : Int) > 0) && decide ((l.getD (k - 1) default).Id ≥ (l.getD k default).Id)) := by
        rw [wrap64_id (by omega) (by omega), toNat_pred]
      rw [e1]
      simp only [Bool.not_true, Bool.false_or]
      cases (decide ((k : Int) > 0) && decide ((l.getD (k - 1) default).Id ≥ (l.getD k default).Id))
      · simp only [cond_false, Bool.false_or, h2, Option.bind_some]
        rw [asrt_pos (fun _ h => by
          simp only [Bool.or_eq_false_iff, decide_eq_false_iff_not] at h
          exact ⟨by omega, (atC_spec h.1).2.1⟩)]
        have e2 : ((decide (atC l (l.getD k default).Stands < 0) || (atC l (l.getD k default).Stands == (k : Int))) || ((l.getD (atC l (l.getD k default).Stands).toNat default).Stands != 0)) = (decide (atC l (l.getD k default).Stands < 0) || ((l.getD (atC l (l.getD k default).Stands).toNat default).Stands != 0)) := by
          by_cases hq : atC l (l.getD k default).Stands = (k : Int)
          · exfalso
            have h3 := (atC_spec (l := l) (id_ := (l.getD k default).Stands) (by omega)).2.2
            rw [hq, Int.toNat_natCast] at h3
            unfold clerkOk at hc
            simp only [Bool.and_eq_true, bne_iff_ne, ne_eq] at hc
            exact hc.2 h3.symm
          · rw [show (atC l (l.getD k default).Stands == (k : Int)) = false by rw [beq_eq_false_iff_ne]; exact hq, Bool.or_false]
        rw [e2]
        cases (decide ((l.getD k default).Stands > 0) && (decide (atC l (l.getD k default).Stands < 0) || ((l.getD (atC l (l.getD k default).Stands).toNat default).Stands != 0)))
        · simp only [cond_false]
          rw [wrap64_id (by omega) (by omega)]
        · rfl
      · rfl
  unfold M.spec_l11Good clerksOk
  by_cases h8 : l.length ≤ 8
  · rw [iter_rise (n := l.length) (bad := badC l) (by omega) (fun k hk => step k hk (by omega)) (by
      unfold M.spec_l11Good_l0
      simp (disch := first | omega | (intros; simp only [decide_eq_true_eq, decide_eq_false_iff_not, Bool.not_eq_true, Bool.not_eq_false, Bool.not_true, Bool.not_false] at *; omega)) only [cast_succ, asrt_pos, wrap64_id, Option.bind_some, cond_true, cond_false, decide_eq_true, decide_eq_false, Int.toNat_natCast, Bool.not_true, Bool.not_false, Bool.and_true, Bool.true_and, Bool.and_false, Bool.false_and, Bool.or_true, Bool.true_or, Bool.or_false, Bool.false_or])]
    cases (List.range l.length).any (badC l) <;> rfl
  · rw [iter_any (step := M.spec_l11Good_l0 l) (s := 0) (fun k => (k : Int)) 9 (badC l) (.inr false) (.inl ()) rfl (by omega) (fun k hk hp => by rw [step k (by omega) (by omega), hp]; simp) (fun k hk hp => by rw [step k (by omega) (by omega), hp]; rfl) (by
      unfold M.spec_l11Good_l0
      dsimp only
      rw [show decide (((9 : Nat) : Int) ≤ 8) = false by decide, Bool.and_false]
      rfl)]
    rw [decide_eq_false (show ¬ (l.length : Int) ≤ 8 by omega)]
    cases (List.range 9).any (badC l) <;> simp

theorem clerksOk_spec {l : List Clerk} (h : clerksOk l = true) : l.length ≤ 8 ∧ (∀ k, k < l.length → clerkOk (l.getD k default) = true) ∧ (∀ k, 0 < k → k < l.length → (l.getD (k - 1) default).Id < (l.getD k default).Id) ∧
    (∀ k, k < l.length → (l.getD k default).Stands > 0 → ¬ atC l (l.getD k default).Stands < 0) := by
  unfold clerksOk at h
  simp only [Bool.and_eq_true, Bool.not_eq_true', List.any_eq_false, List.mem_range, decide_eq_true_eq, Bool.not_eq_true] at h
  obtain ⟨h1, h2⟩ := h
  refine ⟨by omega, fun k hk => ?_, fun k h0 hk => ?_, fun k hk hs hn => ?_⟩
  · have := h1 k hk
    unfold badC at this
    simp only [Bool.or_eq_false_iff, Bool.not_eq_false'] at this
    exact this.1.1
  · have := h1 k hk
    unfold badC at this
    simp only [Bool.or_eq_false_iff, Bool.and_eq_false_iff, decide_eq_false_iff_not] at this
    omega
  · have := h1 k hk
    unfold badC at this
    rw [decide_eq_true hs, decide_eq_true hn] at this
    simp at this

theorem clerkOk_spec {x : Clerk} (h : clerkOk x = true) : (1 ≤ x.Id ∧ x.Id ≤ 99) ∧ (0 ≤ x.Rights ∧ x.Rights ≤ 15) ∧ andB x.Rights 10 ≠ 10 ∧ (0 ≤ x.From ∧ x.From ≤ x.Until ∧ x.Until ≤ 20000) ∧ (0 ≤ x.Stands ∧ x.Stands ≤ 99) ∧ x.Stands ≠ x.Id := by
  unfold clerkOk rightsOk daysOk at h
  simp only [Bool.and_eq_true, inR_true, bne_iff_ne, ne_eq, decide_eq_true_eq] at h
  obtain ⟨⟨⟨⟨⟨h1, h2⟩, h3⟩, h4⟩, h5⟩, h6⟩ := h
  exact ⟨h1, h3.1, h3.2, ⟨h4.1.1.1, h4.2, h4.1.2.2⟩, h5, h6⟩

/-- In a valid list an id stands once. -/
theorem ids_up {l : List Clerk} (h : clerksOk l = true) : ∀ j k, j < k → k < l.length → (l.getD j default).Id < (l.getD k default).Id := by
  have h1 := (clerksOk_spec h).2.2.1
  intro j k hj
  induction k with
  | zero => omega
  | succ k ih =>
    intro hk
    have h2 := h1 (k + 1) (by omega) hk
    rw [Nat.add_sub_cancel] at h2
    by_cases e : j = k
    · subst e; exact h2
    · exact Int.lt_trans (ih (by omega) (by omega)) h2
theorem at_own {l : List Clerk} (h : clerksOk l = true) {k : Nat} (hk : k < l.length) : atC l (l.getD k default).Id = (k : Int) := by
  unfold atC
  refine firstAt_some hk (fun j hj => ?_) (by simp)
  have := ids_up h j k hj hk
  rw [beq_eq_false_iff_ne]
  omega

/-! ### Rights on a day -/
def other (l : List Clerk) (x : Clerk) : Clerk := l.getD (atC l x.Stands).toNat default
def sumOn (l : List Clerk) (x : Clerk) (d : Int) : Int :=
  bif !inR d x.From x.Until then 0 else bif decide (x.Stands > 0) then (bif (!inR d (other l x).From (other l x).Until) && rightsOk (orB x.Rights (other l x).Rights) then orB x.Rights (other l x).Rights else x.Rights) else x.Rights

theorem sumI (l : List Clerk) (k : Nat) (d : Int) (h : clerksOk l = true) (hk : k < l.length) : M.impl_rightsOn l (l.getD k default) d = some (sumOn l (l.getD k default) d) := by
  obtain ⟨g1, g2, g3, g4⟩ := clerksOk_spec h
  unfold M.impl_rightsOn sumOn
  rw [withinI, Option.bind_some]
  cases inR d (l.getD k default).From (l.getD k default).Until
  · rfl
  cases hs : decide ((l.getD k default).Stands > 0)
  · rfl
  · have h1 := g4 k hk (of_decide_eq_true hs)
    obtain ⟨q1, q2, q3⟩ := atC_spec h1
    simp only [Bool.not_true, cond_false, cond_true, atI l _ (show l.length < 1000000 by omega), Option.bind_some]
    rw [asrt_pos ⟨by omega, q2⟩]
    unfold other
    rw [withinI, Option.bind_some, rightsI]
    unfold orB
    cases inR d (l.getD (atC l (l.getD k default).Stands).toNat default).From (l.getD (atC l (l.getD k default).Stands).toNat default).Until
    · simp only [Bool.not_false, cond_true, Option.bind_some, Bool.true_and]
      exact bif_some _ _ _
    · rfl

theorem sumS (l : List Clerk) (k : Nat) (d : Int) (h : clerksOk l = true) (hk : k < l.length) : M.spec_l11Rights l (k : Int) d = some (sumOn l (l.getD k default) d) := by
  obtain ⟨g1, g2, g3, g4⟩ := clerksOk_spec h
  unfold M.spec_l11Rights sumOn M.spec_l11On
  rw [asrt_pos ⟨by omega, by omega⟩, Int.toNat_natCast, l1InS, Option.bind_some, Option.bind_some]
  cases inR d (l.getD k default).From (l.getD k default).Until
  · rfl
  cases hs : decide ((l.getD k default).Stands > 0)
  · rfl
  · have h1 := g4 k hk (of_decide_eq_true hs)
    obtain ⟨q1, q2, q3⟩ := atC_spec h1
    have c1 := clerkOk_spec (g2 k hk)
    have c2 := clerkOk_spec (g2 _ q1)
    have c3 := orB_bd c1.2.1 c2.2.1
    simp only [Bool.not_true, cond_false, cond_true, atS l _ (show l.length < 1000000 by omega), Option.bind_some]
    rw [asrt_pos ⟨by omega, q2⟩]
    unfold other rightsOk
    rw [l1InS, Option.bind_some, Option.bind_some, bothR, inR_true.2 c3, Bool.true_and]
    unfold orB andB
    cases inR d (l.getD (atC l (l.getD k default).Stands).toNat default).From (l.getD (atC l (l.getD k default).Stands).toNat default).Until
    · simp only [Bool.not_false, cond_true, Option.bind_some, Bool.true_and]
      exact bif_some _ _ _
    · rfl

theorem sum_bd {l : List Clerk} {k : Nat} {d : Int} (h : clerksOk l = true) (hk : k < l.length) : (0 ≤ sumOn l (l.getD k default) d ∧ sumOn l (l.getD k default) d ≤ 15) ∧ andB (sumOn l (l.getD k default) d) 10 ≠ 10 := by
  have c1 := clerkOk_spec ((clerksOk_spec h).2.1 k hk)
  unfold sumOn
  cases inR d (l.getD k default).From (l.getD k default).Until
  · exact ⟨⟨Int.le_refl _, (by decide : (0 : Int) ≤ 15)⟩, (by decide +kernel : andB 0 10 ≠ 10)⟩
  cases decide ((l.getD k default).Stands > 0)
  · exact ⟨c1.2.1, c1.2.2.1⟩
  · cases hc : (!inR d (other l (l.getD k default)).From (other l (l.getD k default)).Until) && rightsOk (orB (l.getD k default).Rights (other l (l.getD k default)).Rights)
    · exact ⟨c1.2.1, c1.2.2.1⟩
    · simp only [Bool.and_eq_true] at hc
      have := hc.2
      unfold rightsOk at this
      simp only [Bool.and_eq_true, inR_true, bne_iff_ne, ne_eq] at this
      exact this

def mayP (l : List Clerk) (r d : Int) (x : Clerk) : Bool := andB (sumOn l x d) r == r
def whoL (l : List Clerk) (r d : Int) : List Int := (l.filter (mayP l r d)).map (·.Id)

theorem whoI (l : List Clerk) (r d : Int) (h : clerksOk l = true) : M.impl_whoMay l r d = some (whoL l r d) := by
  have hl := (clerksOk_spec h).1
  unfold M.impl_whoMay
  rw [iter_coll (s := (([] : List Int), (0 : Int))) (step := M.impl_whoMay_l0 l r d) (fun a k => (a, (k : Int))) (fun x : Clerk => bif mayP l r d x then [x.Id] else []) id l rfl (by omega) (fun k _ => if_len _ _) (fun a k hk ha => by
    have h2 := sumI l k d h hk
    have h3 : (IntKind.i64.wrap (BitVec.ofInt IntKind.i64.bits (sumOn l (l.getD k default) d) &&& BitVec.ofInt IntKind.i64.bits r).toNat == r) = mayP l r d (l.getD k default) := rfl
    unfold M.impl_whoMay_l0
    simp (disch := first | omega | (intros; simp only [decide_eq_true_eq, decide_eq_false_iff_not, Bool.not_eq_true, Bool.not_eq_false, Bool.not_true, Bool.not_false] at *; omega)) only [cast_succ, asrt_pos, wrap64_id, Option.bind_some, cond_true, cond_false, decide_eq_true, decide_eq_false, Int.toNat_natCast, Bool.not_true, Bool.not_false, Bool.and_true, Bool.true_and, Bool.and_false, Bool.false_and, Bool.or_true, Bool.true_or, Bool.or_false, Bool.false_or, app_if, List.length_singleton, h2, h3]
    cases mayP l r d (l.getD k default) <;> rfl) (fun a ha => by
    unfold M.impl_whoMay_l0
    simp (disch := first | omega | (intros; simp only [decide_eq_true_eq, decide_eq_false_iff_not, Bool.not_eq_true, Bool.not_eq_false, Bool.not_true, Bool.not_false] at *; omega)) only [cast_succ, asrt_pos, wrap64_id, Option.bind_some, cond_true, cond_false, decide_eq_true, decide_eq_false, Int.toNat_natCast, Bool.not_true, Bool.not_false, Bool.and_true, Bool.true_and, Bool.and_false, Bool.false_and, Bool.or_true, Bool.true_or, Bool.or_false, Bool.false_or, id])]
  simp only [id, flatMap_if, Option.bind_some]
  rfl
theorem whoS (l : List Clerk) (r d : Int) (h : clerksOk l = true) : M.spec_l11Who l r d = some (whoL l r d) := by
  have hl := (clerksOk_spec h).1
  unfold M.spec_l11Who
  rw [iter_coll (s := (([] : List Int), (0 : Int))) (step := M.spec_l11Who_l0 l r d) (fun a k => (a, (k : Int))) (fun x : Clerk => bif mayP l r d x then [x.Id] else []) id l rfl (by omega) (fun k _ => if_len _ _) (fun a k hk ha => by
    have h2 := sumS l k d h hk
    have h3 : (IntKind.i64.wrap (BitVec.ofInt IntKind.i64.bits (sumOn l (l.getD k default) d) &&& BitVec.ofInt IntKind.i64.bits r).toNat == r) = mayP l r d (l.getD k default) := rfl
    unfold M.spec_l11Who_l0
    simp (disch := first | omega | (intros; simp only [decide_eq_true_eq, decide_eq_false_iff_not, Bool.not_eq_true, Bool.not_eq_false, Bool.not_true, Bool.not_false] at *; omega)) only [cast_succ, asrt_pos, wrap64_id, Option.bind_some, cond_true, cond_false, decide_eq_true, decide_eq_false, Int.toNat_natCast, Bool.not_true, Bool.not_false, Bool.and_true, Bool.true_and, Bool.and_false, Bool.false_and, Bool.or_true, Bool.true_or, Bool.or_false, Bool.false_or, app_if, List.length_singleton, h2, h3]
    cases mayP l r d (l.getD k default) <;> rfl) (fun a ha => by
    unfold M.spec_l11Who_l0
    simp (disch := first | omega | (intros; simp only [decide_eq_true_eq, decide_eq_false_iff_not, Bool.not_eq_true, Bool.not_eq_false, Bool.not_true, Bool.not_false] at *; omega)) only [cast_succ, asrt_pos, wrap64_id, Option.bind_some, cond_true, cond_false, decide_eq_true, decide_eq_false, Int.toNat_natCast, Bool.not_true, Bool.not_false, Bool.and_true, Bool.true_and, Bool.and_false, Bool.false_and, Bool.or_true, Bool.true_or, Bool.or_false, Bool.false_or, id])]
  simp only [id, flatMap_if, Option.bind_some]
  rfl

def WhoD (l : List Clerk) (r d : Int) : List Int × Bool := bif (clerksOk l && inR r 1 15) && inR d 0 20000 then (whoL l r d, true) else ([], false)
theorem whoDI (l : List Clerk) (r d : Int) (hl : ClB l) : M.impl_WhoMay l r d = some (WhoD l r d) := by
  unfold M.impl_WhoMay WhoD M.impl_isNeed
  simp only [clerksI l hl, withinI, isDayI, Option.bind_some, bif_some]
  cases h : clerksOk l
  · rfl
  simp only [whoI l r d h, Option.bind_some]
  cases inR r 1 15 <;> cases inR d 0 20000 <;> rfl
def OnD (l : List Clerk) (i d : Int) : Int × Bool := bif (clerksOk l && !decide (atC l i < 0)) && inR d 0 20000 then (sumOn l (l.getD (atC l i).toNat default) d, true) else (0, false)
theorem onDI (l : List Clerk) (i d : Int) (hl : ClB l) : M.impl_RightsOn l i d = some (OnD l i d) := by
  unfold M.impl_RightsOn OnD
  simp only [atI l i hl.1, clerksI l hl, isDayI, Option.bind_some, bif_some]
  cases h : clerksOk l
  · rfl
  cases h1 : decide (atC l i < 0)
  · simp only [decide_eq_false_iff_not] at h1
    obtain ⟨q1, q2, q3⟩ := atC_spec h1
    rw [asrt_pos ⟨by omega, q2⟩, sumI l _ d h q1, Option.bind_some]
    cases inR d 0 20000 <;> rfl
  · rfl
/-! ### Draws -/
theorem drawClerk {code : List Int} {k : Nat} {c : Cur} (hb : Bytes code) (h : Good code k c) (hk : k < 700000000) (i : Int) : T (M.spec_l1Cur_clerk c i) (fun r => r.1.Name.length ≤ 11 ∧ Good code (k + 12) r.2) := by
  unfold M.spec_l1Cur_clerk
  refine (drawWord hb h hk).then ?_
  rintro ⟨s, c1⟩ ⟨hs, h1⟩
  simp only at hs h1
  refine T_among hb h1 (by omega) (by simp) ?_
  intro x2 c2 _ h2
  refine T_among hb h2 (by omega) (by simp) ?_
  intro x3 c3 _ h3
  refine T_among hb h3 (by omega) (by simp) ?_
  intro x4 c4 _ h4
  have e : ∀ a b : Int, ∃ z, M.spec_l1Most a b = some z := fun a b => ⟨_, by unfold M.spec_l1Most; exact bif_some _ _ _⟩
  obtain ⟨z, hz⟩ := e x4 x3
  dsimp only
  rw [hz, Option.bind_some]
  refine T_pick hb h4 (by omega) ?_
  intro x5 c5 _ _ h5
  refine T_in ?_
  refine T.mono (Q := fun r => r.2.Name.length ≤ 11 ∧ Good code (k + 12) r.1) ?_ (fun r hr => T_ret hr)
  dsimp only
  refine T_if (fun _ => ?_) (fun _ => T_if (fun _ => ?_) (fun _ => T_if (fun _ => ?_) (fun _ => T_if (fun _ => ?_) (fun _ => T_if (fun _ => ?_) (fun _ => T_if (fun _ => ?_) (fun _ => ?_))))))
  · refine T_among hb h5 (by omega) (by simp) ?_
    intro y c6 _ h6
    exact T_ret ⟨by simp only; omega, h6.up (by omega)⟩
  · refine T_of hb h5 (by omega) (by simp) ?_
    intro y c6 hy h6
    refine T_ret ⟨?_, h6.up (by omega)⟩
    simp only [List.mem_cons, List.not_mem_nil, or_false] at hy
    rcases hy with rfl | rfl | rfl <;> simp
  · refine T_among hb h5 (by omega) (by simp) ?_
    intro y c6 _ h6
    exact T_ret ⟨by simp only; omega, h6.up (by omega)⟩
  · refine T_among hb h5 (by omega) (by simp) ?_
    intro y c6 _ h6
    exact T_ret ⟨by simp only; omega, h6.up (by omega)⟩
  · exact T_ret ⟨by simp only; omega, h5.up (by omega)⟩
  · refine T_among hb h5 (by omega) (by simp) ?_
    intro y c6 _ h6
    exact T_ret ⟨by simp only; omega, h6.up (by omega)⟩
  · exact T_ret ⟨by simp only; omega, h5.up (by omega)⟩

/-- What is drawn: short lists of short names. -/
def ClD (l : List Clerk) : Prop := l.length ≤ 20 ∧ ∀ x ∈ l, x.Name.length ≤ 11
theorem ClD.b {l : List Clerk} (h : ClD l) : ClB l := ⟨by have := h.1; omega, fun x hx => by have := h.2 x hx; omega⟩
theorem names_snoc {l : List Clerk} {x : Clerk} (h : ∀ x ∈ l, x.Name.length ≤ 11) (hx : x.Name.length ≤ 11) : ∀ y ∈ l ++ [x], y.Name.length ≤ 11 := by
  intro y hy
  rcases List.mem_append.1 hy with hy | hy
  · exact h y hy
  · rw [List.mem_singleton] at hy; subst hy; exact hx

theorem drawClerks {code : List Int} {k : Nat} {c : Cur} (hb : Bytes code) (h : Good code k c) (hk : k < 600000000) : T (M.spec_l1Cur_clerks c) (fun r => ClD r.1 ∧ Good code (k + 400) r.2) := by
  unfold M.spec_l1Cur_clerks
  refine T_pick hb h (by omega) ?_
  intro n c1 _ hn h1
  have hn := hn (by omega)
  dsimp only
  refine T.then (Q := fun r => ClD r.1 ∧ Good code (k + 300) r.2) (T_iter (fun s => 0 ≤ s.2.2.1 ∧ s.1.length + s.2.2.1.toNat ≤ 7 ∧ (∀ x ∈ s.1, x.Name.length ≤ 11) ∧ Good code (k + 300 - 30 * s.2.2.1.toNat) s.2.2.2) (fun s => s.2.2.1.toNat) _ ⟨hn.1, by (first | omega | (simp only; omega) | (dsimp only; omega) | (simp; omega)), by simp, h1.up (by (first | omega | (simp only; omega) | (dsimp only; omega) | (simp; omega)))⟩ (by (first | omega | (simp only; omega) | (dsimp only; omega) | (simp; omega))) ?_) ?_
  · rintro ⟨out, i, n, c2⟩ ⟨g1, g2, g3, g4⟩
    simp only at g1 g2 g3 g4
    unfold M.spec_l1Cur_clerks_l0
    dsimp only
    refine T_if (fun hq => ?_) (fun hq => T_ret ⟨⟨by simp only; omega, g3⟩, g4.up (by omega)⟩)
    simp only [decide_eq_true_eq] at hq
    refine T_in ?_
    refine T.mono (Q := fun r => r.1.length + n.toNat ≤ 8 ∧ (∀ x ∈ r.1, x.Name.length ≤ 11) ∧ Good code (k + 300 - 30 * n.toNat + 30) r.2.2) ?_ ?_
    · refine T_pick hb g4 (by omega) ?_
      intro p c3 _ _ h3
      refine (drawClerk hb h3 (by omega) _).then ?_
      rintro ⟨x, c4⟩ ⟨hx, h4⟩
      simp only at hx h4
      refine T_in ?_
      refine T.mono (Q := fun r => r.2.Name.length ≤ 11 ∧ Good code (k + 300 - 30 * n.toNat + 20) r.1) ?_ ?_
      · by_cases he : decide ((out.length : Int) > 0) = true
        · simp only [he, cond_true, Bool.true_and]
          refine T_one hb h4 (by omega) ?_
          intro b c5 h5
          dsimp only
          refine T_if (fun _ => ?_) (fun _ => T_ret ⟨hx, h5.up (by omega)⟩)
          refine T_pick hb h5 (by omega) ?_
          intro y c6 _ hy h6
          simp only [decide_eq_true_eq] at he
          exact T_ask (hy (by omega)) (T_ret ⟨hx, h6.up (by omega)⟩)
        · simp only [Bool.not_eq_true] at he
          simp only [he, cond_false, Option.bind_some, Bool.false_and]
          exact T_ret ⟨hx, h4.up (by omega)⟩
      · rintro ⟨c5, x'⟩ ⟨hx', h5⟩
        simp only at hx' h5
        refine T_ask (by (first | omega | (simp only; omega) | (dsimp only; omega) | (simp; omega))) (T_ask (by (first | omega | (simp only; omega) | (dsimp only; omega) | (simp; omega))) (T_in (T_ret ?_)))
        simp only [List.nil_append]
        have hB : ClB (out ++ [x']) := ⟨by rw [List.length_append]; simp; omega, fun y hy => by have := names_snoc g3 hx' y hy; omega⟩
        rw [clerksS _ hB, Option.bind_some]
        cases clerksOk (out ++ [x'])
        · simp only [cond_false, Bool.false_or]
          refine T_one hb h5 (by omega) ?_
          intro b c6 h6
          dsimp only
          refine T_if (fun _ => T_ret ⟨by rw [List.length_append]; simp; omega, names_snoc g3 hx', h6.up (by omega)⟩) (fun _ => T_ret ⟨by simp only; omega, g3, h6.up (by omega)⟩)
        · simp only [cond_true, Option.bind_some, Bool.true_or]
          exact T_ret ⟨by rw [List.length_append]; simp; omega, names_snoc g3 hx', h5.up (by omega)⟩
    · rintro ⟨out', i', c3⟩ ⟨q1, q2, q3⟩
      refine T_ret ?_
      simp only at q1 q2 q3 ⊢
      rw [wrap64_id (by omega) (by omega)]
      exact ⟨⟨by omega, by omega, q2, q3.up (by omega)⟩, by omega⟩
  · rintro ⟨out, c2⟩ ⟨g1, g2⟩
    simp only at g1 g2
    refine T_one hb g2 (by omega) ?_
    intro b c3 h3
    dsimp only
    refine T_if (fun _ => ?_) (fun _ => T_ret ⟨g1, h3.up (by omega)⟩)
    refine T.then (Q := fun r => ClD r.1 ∧ Good code (k + 400) r.2) (T_iter (fun s => ∃ n : Nat, s.2.1 = (n : Int) ∧ n ≤ 9 ∧ s.1.length = n ∧ (∀ x ∈ s.1, x.Name.length ≤ 11) ∧ Good code (k + 310 + 2 * n) s.2.2) (fun s => (9 - s.2.1).toNat) _ ⟨0, rfl, by omega, rfl, by simp, h3.up (by omega)⟩ (by (first | omega | (simp only; omega) | (dsimp only; omega) | (simp; omega))) ?_) (fun r hr => T_ret hr)
    rintro ⟨l, _, c4⟩ ⟨n, rfl, q1, q2, q3, q4⟩
    simp only at q2 q3 q4
    unfold M.spec_l1Cur_clerks_l1
    dsimp only
    refine T_pick hb q4 (by omega) ?_
    intro p c5 _ hp h5
    have hp := hp (by omega)
    dsimp only
    rw [wrap64_id (n := 8 + p) (by omega) (by omega), wrap64_id (n := (n : Int) + 1) (by omega) (by omega)]
    refine T_if (fun hq => ?_) (fun hq => T_ret ⟨⟨by simp only; omega, q3⟩, h5.up (by omega)⟩)
    simp only [decide_eq_true_eq] at hq
    refine T_ask (by (first | omega | (simp only; omega) | (dsimp only; omega) | (simp; omega))) (T_ret ⟨⟨n + 1, (cast_succ n).symm, by omega, by rw [List.length_append, q2]; rfl, names_snoc q3 (by simp), h5.up (by omega)⟩, by simp only; omega⟩)

theorem drawAmong9 {code : List Int} {k : Nat} {c : Cur} (hb : Bytes code) (h : Good code k c) (hk : k < 600000000) (l : List Int) (hl : l.length = 9) :
    T ((M.spec_l1Cur_pick c 24).bind fun y0 => asrt ((0 : Int) ≤ (0 : Int) ∧ (0 : Int) ≤ (IntKind.i64.wrap ((7 : Int) + (IntKind.i64.wrap (Int.tdiv y0.1 (11 : Int))))) ∧ (IntKind.i64.wrap ((7 : Int) + (IntKind.i64.wrap (Int.tdiv y0.1 (11 : Int))))) ≤ (l.length : Int)) <|
      (M.spec_l1Cur_among y0.2 (slc l (0 : Int) (IntKind.i64.wrap ((7 : Int) + (IntKind.i64.wrap (Int.tdiv y0.1 (11 : Int))))))).bind fun y1 => some (y1.1, y1.2)) (fun r => Good code (k + 4) r.2) := by
  refine T_pick hb h (by omega) ?_
  intro x c1 _ hx h1
  have hx := hx (by omega)
  dsimp only
  have e1 : 0 ≤ Int.tdiv x 11 ∧ Int.tdiv x 11 ≤ 2 := by
    rw [Int.tdiv_eq_ediv_of_nonneg (by omega)]
    omega
  rw [wrap64_id (n := Int.tdiv x 11) (by omega) (by omega), wrap64_id (n := 7 + Int.tdiv x 11) (by omega) (by omega)]
  refine T_ask ⟨Int.le_refl _, by omega, by omega⟩ ?_
  refine T_among hb h1 (by omega) (slc_ne (by omega) (by omega)) ?_
  intro y c2 _ h2
  exact T_ret h2

theorem drawRights {code : List Int} {k : Nat} {c : Cur} (hb : Bytes code) (h : Good code k c) (hk : k < 600000000) : T (M.spec_l1Cur_rights11 c) (fun r => Good code (k + 4) r.2) := by
  unfold M.spec_l1Cur_rights11
  exact drawAmong9 hb h hk _ rfl
theorem drawDay11 {code : List Int} {k : Nat} {c : Cur} (hb : Bytes code) (h : Good code k c) (hk : k < 600000000) : T (M.spec_l1Cur_day11 c) (fun r => Good code (k + 4) r.2) := by
  unfold M.spec_l1Cur_day11
  exact drawAmong9 hb h hk _ rfl

theorem drawClerkId {code : List Int} {k : Nat} {c : Cur} (hb : Bytes code) (h : Good code k c) (hk : k < 600000000) (l : List Clerk) : T (M.spec_l1Cur_clerkId c l) (fun r => Good code (k + 4) r.2) := by
  unfold M.spec_l1Cur_clerkId
  by_cases he : ((l.length : Int) == 0) = true
  · simp only [he, cond_true, Option.bind_some, Bool.true_or]
    refine T_among hb h (by omega) (by simp) ?_
    intro x c1 _ h1
    exact T_ret (h1.up (by omega))
  · simp only [Bool.not_eq_true] at he
    simp only [he, cond_false, Bool.false_or]
    refine T_one hb h (by omega) ?_
    intro b c1 h1
    dsimp only
    refine T_if (fun _ => ?_) (fun _ => ?_)
    · refine T_among hb h1 (by omega) (by simp) ?_
      intro x c2 _ h2
      exact T_ret (h2.up (by omega))
    · refine T_pick hb h1 (by omega) ?_
      intro x c2 _ hx h2
      rw [beq_eq_false_iff_ne] at he
      exact T_ask (hx (by omega)) (T_ret (h2.up (by omega)))

theorem good0c {code : List Int} : Good code 0 (⟨code, 0, 0⟩ : Cur) := ⟨rfl, Int.le_refl _, Int.le_refl _⟩

theorem rInts_self (a : List Int) (hl : a.length < 1000000) : M.laws_rInts a a = some true := by
  unfold M.laws_rInts
  simp only [bne_self_eq_false, cond_false]
  rw [iter_up (s := 0) (step := M.laws_rInts_l0 a a) (e := .inl ()) (fun k => (k : Int)) a.length rfl (by omega) (fun k hk => by
    unfold M.laws_rInts_l0
    simp (disch := first | omega | (intros; simp only [decide_eq_true_eq, decide_eq_false_iff_not, Bool.not_eq_true, Bool.not_eq_false, Bool.not_true, Bool.not_false] at *; omega)) only [cast_succ, asrt_pos, wrap64_id, Option.bind_some, cond_true, cond_false, decide_eq_true, decide_eq_false, Int.toNat_natCast, Bool.not_true, Bool.not_false, Bool.and_true, Bool.true_and, Bool.and_false, Bool.false_and, Bool.or_true, Bool.true_or, Bool.or_false, Bool.false_or, bne_self_eq_false]) (by
    unfold M.laws_rInts_l0
    simp (disch := first | omega | (intros; simp only [decide_eq_true_eq, decide_eq_false_iff_not, Bool.not_eq_true, Bool.not_eq_false, Bool.not_true, Bool.not_false] at *; omega)) only [cast_succ, asrt_pos, wrap64_id, Option.bind_some, cond_true, cond_false, decide_eq_true, decide_eq_false, Int.toNat_natCast, Bool.not_true, Bool.not_false, Bool.and_true, Bool.true_and, Bool.and_false, Bool.false_and, Bool.or_true, Bool.true_or, Bool.or_false, Bool.false_or])]
  rfl
theorem rHasP (m : List Int) (x : Int) (hl : m.length < 1000000) : M.laws_rHas m x = some (m.any fun y => y == x) := by
  unfold M.laws_rHas
  rw [iter_any (step := M.laws_rHas_l0 m x) (s := 0) (fun k => (k : Int)) m.length (fun k => m.getD k default == x) (.inr true) (.inl ()) rfl (by omega)
    (fun k hk hp => by
      unfold M.laws_rHas_l0
      simp (disch := first | omega | (intros; simp only [decide_eq_true_eq, decide_eq_false_iff_not, Bool.not_eq_true, Bool.not_eq_false, Bool.not_true, Bool.not_false] at *; omega)) only [cast_succ, asrt_pos, wrap64_id, Option.bind_some, cond_true, cond_false, decide_eq_true, decide_eq_false, Int.toNat_natCast, Bool.not_true, Bool.not_false, Bool.and_true, Bool.true_and, Bool.and_false, Bool.false_and, Bool.or_true, Bool.true_or, Bool.or_false, Bool.false_or, hp])
    (fun k hk hp => by
      unfold M.laws_rHas_l0
      simp (disch := first | omega | (intros; simp only [decide_eq_true_eq, decide_eq_false_iff_not, Bool.not_eq_true, Bool.not_eq_false, Bool.not_true, Bool.not_false] at *; omega)) only [cast_succ, asrt_pos, wrap64_id, Option.bind_some, cond_true, cond_false, decide_eq_true, decide_eq_false, Int.toNat_natCast, Bool.not_true, Bool.not_false, Bool.and_true, Bool.true_and, Bool.and_false, Bool.false_and, Bool.or_true, Bool.true_or, Bool.or_false, Bool.false_or, hp])
    (by
      unfold M.laws_rHas_l0
      simp (disch := first | omega | (intros; simp only [decide_eq_true_eq, decide_eq_false_iff_not, Bool.not_eq_true, Bool.not_eq_false, Bool.not_true, Bool.not_false] at *; omega)) only [cast_succ, asrt_pos, wrap64_id, Option.bind_some, cond_true, cond_false, decide_eq_true, decide_eq_false, Int.toNat_natCast, Bool.not_true, Bool.not_false, Bool.and_true, Bool.true_and, Bool.and_false, Bool.false_and, Bool.or_true, Bool.true_or, Bool.or_false, Bool.false_or]), ← any_getD (p := fun y => y == x)]
  cases m.any fun y => y == x <;> rfl
end Go.Proofs.YthffmnpbonkpaaaDoor
