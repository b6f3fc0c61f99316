/-
  Copies of records: the last readable days, lost records, sizes by format, what was not seen. Plain.
-/
import Derived.Test.YtjfpdbhjoofllaaDoorFo
set_option linter.unusedSimpArgs false
set_option linter.unusedVariables false
namespace Go.Proofs.YtjfpdbhjoofllaaDoor
open Go.VS

/-! ### The last readable day -/
def maxQ (a u : Int) : Int := bif decide (a < u) then u else a
def lastF (l : List Format) (i : Int) : Int := l.foldl (fun a f => bif f.Reads.any (fun y => y == i) then maxQ a f.Until else a) (l.getD (atFm l i).toNat default).Until
theorem lastI (l : List Format) (i : Int) (hl : FmB l) (hi : hasFm l i = true) : M.impl_lastReadable l i = some (lastF l i) := by
  have hb := hl.1
  obtain ⟨g0, g1, g2, g3⟩ := atFm_spec hi
  unfold M.impl_lastReadable
  rw [atFmI l i hb, Option.bind_some, asrt_pos ⟨g0, g2⟩]
  rw [iter_fold (s := ((l.getD (atFm l i).toNat default).Until, (0 : Int))) (step := M.impl_lastReadable_l0 l i) (fun (a : Int) (k : Nat) => (a, (k : Int))) (fun a f => bif f.Reads.any (fun y => y == i) then maxQ a f.Until else a) (fun a => a) l (l.getD (atFm l i).toNat default).Until (fun _ _ => True) rfl (by omega) trivial (fun a k hk _ => ⟨?_, trivial⟩) (fun a _ => ?_)]
  · rfl
  · unfold M.impl_lastReadable_l0 maxQ
    dsimp only
    rw [decide_eq_true (show (k : Int) < (l.length : Int) by omega), cond_true, asrt_pos ⟨by omega, by omega⟩, Int.toNat_natCast, contQ _ _ (hl.2 _ (getD_mem hk)).2, Option.bind_some, wrap64_id (n := (k : Int) + 1) (by omega) (by omega)]
    cases (l.getD k default).Reads.any fun y => y == i <;> rfl
  · unfold M.impl_lastReadable_l0
    dsimp only
    rw [decide_eq_false (by omega)]
    rfl
theorem mostQ (a u : Int) : M.spec_l1Most a u = some (maxQ a u) := by
  unfold M.spec_l1Most maxQ
  rw [bif_some]
  congr 1
  by_cases h : a > u
  · rw [decide_eq_true h, decide_eq_false (by omega)]; rfl
  · rw [decide_eq_false h]
    by_cases h2 : a < u
    · rw [decide_eq_true h2]; rfl
    · rw [decide_eq_false h2]
      have : a = u := by omega
      simp [this]
theorem lastS (l : List Format) (i : Int) (hl : FmB l) (hi : hasFm l i = true) : M.spec_l7Last l i = some (lastF l i) := by
  have hb := hl.1
  obtain ⟨g0, g1, g2, g3⟩ := atFm_spec hi
  unfold M.spec_l7Last
  rw [atFmS l i hb, Option.bind_some, asrt_pos ⟨g0, g2⟩]
  rw [iter_fold (s := ((l.getD (atFm l i).toNat default).Until, (0 : Int))) (step := M.spec_l7Last_l0 l i) (fun (a : Int) (k : Nat) => (a, (k : Int))) (fun a f => bif f.Reads.any (fun y => y == i) then maxQ a f.Until else a) (fun a => a) l (l.getD (atFm l i).toNat default).Until (fun _ _ => True) rfl (by omega) trivial (fun a k hk _ => ⟨?_, trivial⟩) (fun a _ => ?_)]
  · rfl
  · unfold M.spec_l7Last_l0
    dsimp only
    rw [decide_eq_true (show (k : Int) < (l.length : Int) by omega), cond_true, asrt_pos ⟨by omega, by omega⟩, Int.toNat_natCast, hasQ _ _ (hl.2 _ (getD_mem hk)).2, Option.bind_some, wrap64_id (n := (k : Int) + 1) (by omega) (by omega)]
    cases (l.getD k default).Reads.any fun y => y == i
    · rfl
    · rw [cond_true, asrt_pos ⟨by omega, by omega⟩, mostQ]
      rfl
  · unfold M.spec_l7Last_l0
    dsimp only
    rw [decide_eq_false (by omega)]
    rfl
theorem last_bdQ {i : Int} : ∀ (l : List Format) (a : Int), (∀ f ∈ l, 0 ≤ f.Until ∧ f.Until ≤ 20000) → 0 ≤ a → a ≤ 20000 → 0 ≤ l.foldl (fun a f => bif f.Reads.any (fun y => y == i) then maxQ a f.Until else a) a ∧ l.foldl (fun a f => bif f.Reads.any (fun y => y == i) then maxQ a f.Until else a) a ≤ 20000
  | [], a, _, h1, h2 => ⟨h1, h2⟩
  | f :: l, a, h, h1, h2 => by
    have hf := h f (by simp)
    rw [List.foldl_cons]
    have : 0 ≤ (bif f.Reads.any (fun y => y == i) then maxQ a f.Until else a) ∧ (bif f.Reads.any (fun y => y == i) then maxQ a f.Until else a) ≤ 20000 := by
      unfold maxQ
      cases f.Reads.any (fun y => y == i)
      · exact ⟨h1, h2⟩
      · cases decide (a < f.Until)
        · exact ⟨h1, h2⟩
        · exact hf
    exact last_bdQ l _ (fun g hg => h g (by simp [hg])) this.1 this.2
theorem last_bd2 {l : List Format} {i : Int} (h : fmsOk l = true) (hi : hasFm l i = true) : 0 ≤ lastF l i ∧ lastF l i ≤ 20000 := by
  have ho := (fms_ok h).2.1
  have hU : ∀ f ∈ l, 0 ≤ f.Until ∧ f.Until ≤ 20000 := by
    intro f hf
    have := ho f hf
    unfold fmOk at this
    rw [Bool.and_eq_true] at this
    exact inR_true.1 this.2
  have g := hU _ (getD_mem (atFm_spec hi).2.1)
  exact last_bdQ l _ hU g.1 g.2
def LastD (l : List Format) (i : Int) : Int × Bool := bif fmsOk l && hasFm l i then (lastF l i, true) else (0, false)
theorem lastDI (l : List Format) (i : Int) (hl : FmB l) : M.impl_LastReadable l i = some (LastD l i) := by
  unfold M.impl_LastReadable LastD
  rw [fmsI l hl, Option.bind_some]
  cases fmsOk l
  · rfl
  rw [Bool.not_true, cond_false, atFmI l i hl.1, Option.bind_some, atFm_neg, Bool.false_or, Bool.true_and]
  cases h : hasFm l i
  · rfl
  rw [Bool.not_true, cond_false, lastI l i hl h, Option.bind_some, cond_true]
theorem lastDS (l : List Format) (i : Int) (hl : FmB l) : M.spec_LastReadable l i = some (LastD l i) := by
  unfold M.spec_LastReadable LastD
  rw [fmsS l hl, Option.bind_some]
  cases fmsOk l
  · rfl
  rw [Bool.not_true, cond_false, atFmS l i hl.1, Option.bind_some, atFm_neg, Bool.false_or, Bool.true_and]
  cases h : hasFm l i
  · rfl
  rw [Bool.not_true, cond_false, lastS l i hl h, Option.bind_some, cond_true]
theorem readD (l : List Format) (i d : Int) (hl : FmB l) : M.impl_IsReadable l i d = some (bif (fmsOk l && hasFm l i) && inR d 0 20000 then (decide (lastF l i ≥ d), true) else (false, false)) := by
  unfold M.impl_IsReadable M.impl_isOnDay
  rw [fmsI l hl, Option.bind_some]
  cases fmsOk l
  · rfl
  rw [cond_true, atFmI l i hl.1, Option.bind_some, show decide (atFm l i ≥ 0) = hasFm l i from firstAt_any, Bool.true_and]
  cases h : hasFm l i
  · rfl
  rw [cond_true, isDayI, Option.bind_some, Bool.true_and]
  cases inR d 0 20000
  · rfl
  rw [Option.bind_some, Bool.not_true, cond_false, lastI l i hl h, Option.bind_some, cond_true]

/-! ### Copies -/
def copOk (l : List Format) (c : Copy) : Bool := ((inR c.Record 1 999 && hasFm l c.Format) && inR c.Size 1 1000000) && inR c.Seen 0 20000
def ordC (a b : Copy) : Bool := decide (a.Record > b.Record) || ((a.Record == b.Record) && decide (a.Format ≥ b.Format))
def copsOk (l : List Format) (cs : List Copy) : Bool := fmsOk l && (rise (fun c => !copOk l c) ordC cs && decide ((cs.length : Int) ≤ 15))
theorem cmpC_ge (a b : Copy) : decide ((if cmpI a.Record b.Record ≠ 0 then cmpI a.Record b.Record else cmpI a.Format b.Format) ≥ 0) = ordC a b := by
  unfold ordC cmpI
  rw [Bool.eq_iff_iff]
  simp only [decide_eq_true_eq, Bool.or_eq_true, Bool.and_eq_true, beq_iff_eq]
  by_cases h1 : a.Record < b.Record
  · rw [if_pos h1]; simp; omega
  · by_cases h2 : a.Record > b.Record
    · rw [if_neg h1, if_pos h2]; simp; omega
    · rw [if_neg h1, if_neg h2]
      by_cases h3 : a.Format < b.Format
      · rw [if_pos h3]; simp; omega
      · by_cases h4 : a.Format > b.Format
        · rw [if_neg h3, if_pos h4]; simp; omega
        · rw [if_neg h3, if_neg h4]; simp; omega
theorem copLoopI (l : List Format) (cs : List Copy) (hl : FmB l) (hc : cs.length < 1000000) : iterO (M.impl_AreCopies_l0 l cs) 0 = some (bif rise (fun c => !copOk l c) ordC cs then .inl () else .inr false) := by
  rw [iter_rise (n := cs.length) (bad := riseB (fun c => !copOk l c) ordC cs) (by omega) (fun k hk => by
    unfold M.impl_AreCopies_l0 riseB copOk
    dsimp only
    rw [decide_eq_true (show (k : Int) < (cs.length : Int) by omega), cond_true, asrt_pos ⟨by omega, by omega⟩, Int.toNat_natCast, withinI, Option.bind_some]
    cases inR (cs.getD k default).Record 1 999
    · rw [Bool.not_false, cond_true, Option.bind_some, Bool.true_or, cond_true, Option.bind_some, Bool.true_or, cond_true, Option.bind_some, Bool.true_or, cond_true]
      simp
    rw [Bool.not_true, cond_false, atFmI l _ hl.1, Option.bind_some, atFm_neg, Bool.false_or, Bool.true_and]
    cases hasFm l (cs.getD k default).Format
    · rw [Bool.not_false, cond_true, Option.bind_some, Bool.true_or, cond_true, Option.bind_some, Bool.true_or, cond_true]
      simp
    rw [Bool.not_true, cond_false, withinI, Option.bind_some, Bool.false_or, Bool.true_and]
    cases inR (cs.getD k default).Size 1 1000000
    · rw [Bool.not_false, cond_true, Option.bind_some, Bool.true_or, cond_true]
      simp
    rw [Bool.not_true, cond_false, isDayI, Option.bind_some, Bool.false_or, Bool.true_and]
    cases inR (cs.getD k default).Seen 0 20000
    · simp
    rw [Bool.not_true, cond_false, Bool.false_or, wrap64_id (n := (k : Int) + 1) (by omega) (by omega)]
    by_cases h0 : (k : Int) > 0
    · rw [decide_eq_true h0, wrap64_id (n := (k : Int) - 1) (by omega) (by omega), asrt_pos (fun _ => ⟨by omega, by omega⟩), cond_true, cmpIntI, Option.bind_some, asrt_pos (fun _ => ⟨by omega, by omega⟩), cond_true, cmpIntI, Option.bind_some, cond_true, or2I, Option.bind_some, toNat_pred, cmpC_ge, Bool.true_and, bif_some]
    · rw [decide_eq_false h0, asrt_pos (fun h => by cases h), cond_false, Option.bind_some, asrt_pos (fun h => by cases h), cond_false, Option.bind_some, cond_false, Option.bind_some, Bool.false_and, Bool.false_and, bif_some]) (by
    unfold M.impl_AreCopies_l0
    dsimp only
    rw [decide_eq_false (by omega)]
    rfl)]
  unfold rise
  cases (List.range cs.length).any _ <;> rfl
theorem copsI (l : List Format) (cs : List Copy) (hl : FmB l) (hc : cs.length < 1000000) : M.impl_AreCopies l cs = some (copsOk l cs) := by
  unfold M.impl_AreCopies copsOk
  rw [fmsI l hl, Option.bind_some]
  cases fmsOk l
  · rfl
  rw [Bool.not_true, Bool.false_or, Bool.true_and, show decide ((cs.length : Int) > 15) = !decide ((cs.length : Int) ≤ 15) by rw [Bool.eq_iff_iff]; simp]
  cases decide ((cs.length : Int) ≤ 15)
  · rw [Bool.and_false]; rfl
  rw [Bool.not_true, cond_false, copLoopI l cs hl hc, Bool.and_true, Option.bind_some]
  cases rise (fun c => !copOk l c) ordC cs <;> rfl
theorem copsS (l : List Format) (cs : List Copy) (hl : FmB l) (hc : cs.length < 1000000) : M.spec_l7Copies l cs = some (copsOk l cs) := by
  unfold M.spec_l7Copies copsOk
  rw [iter_rise (n := cs.length) (bad := riseB (fun c => !copOk l c) ordC cs) (by omega) (fun k hk => by
    unfold M.spec_l7Copies_l0 riseB copOk
    dsimp only
    rw [decide_eq_true (show (k : Int) < (cs.length : Int) by omega), cond_true, asrt_pos ⟨by omega, by omega⟩, Int.toNat_natCast, l1InS, Option.bind_some]
    cases inR (cs.getD k default).Record 1 999
    · rw [Bool.not_false, cond_true, Option.bind_some, Bool.true_or, cond_true, Option.bind_some, Bool.true_or, cond_true, Option.bind_some, Bool.true_or, cond_true]
      simp
    rw [Bool.not_true, cond_false, atFmS l _ hl.1, Option.bind_some, atFm_neg, Bool.false_or, Bool.true_and]
    cases hasFm l (cs.getD k default).Format
    · rw [Bool.not_false, cond_true, Option.bind_some, Bool.true_or, cond_true, Option.bind_some, Bool.true_or, cond_true]
      simp
    rw [Bool.not_true, cond_false, l1InS, Option.bind_some, Bool.false_or, Bool.true_and]
    cases inR (cs.getD k default).Size 1 1000000
    · rw [Bool.not_false, cond_true, Option.bind_some, Bool.true_or, cond_true]
      simp
    rw [Bool.not_true, cond_false, l2DayS, Option.bind_some, Bool.false_or, Bool.true_and]
    cases inR (cs.getD k default).Seen 0 20000
    · simp
    rw [Bool.not_true, cond_false, Bool.false_or, wrap64_id (n := (k : Int) + 1) (by omega) (by omega)]
    by_cases h0 : (k : Int) > 0
    · rw [decide_eq_true h0, wrap64_id (n := (k : Int) - 1) (by omega) (by omega), asrt_pos (fun _ => ⟨by omega, by omega⟩), asrt_pos (fun _ _ => ⟨by omega, by omega⟩), asrt_pos (fun _ _ _ => ⟨by omega, by omega⟩), toNat_pred, bif_some]
      rfl
    · rw [decide_eq_false h0, asrt_pos (fun h => by cases h), asrt_pos (fun h => by cases h), asrt_pos (fun h => by cases h), Bool.false_and, Bool.false_and, bif_some]) (by
    unfold M.spec_l7Copies_l0
    dsimp only
    rw [decide_eq_false (by omega)]
    rfl)]
  rw [fmsS l hl]
  unfold rise
  cases (List.range cs.length).any (riseB (fun c => !copOk l c) ordC cs) <;> cases fmsOk l <;> cases decide ((cs.length : Int) ≤ 15) <;> rfl
theorem cops_ok {l : List Format} {cs : List Copy} (h : copsOk l cs = true) : fmsOk l = true ∧ cs.length ≤ 15 ∧ (∀ c ∈ cs, (1 ≤ c.Record ∧ c.Record ≤ 999) ∧ hasFm l c.Format = true ∧ (1 ≤ c.Size ∧ c.Size ≤ 1000000) ∧ (0 ≤ c.Seen ∧ c.Seen ≤ 20000)) ∧ ∀ k, k + 1 < cs.length → (cs.getD k default).Record ≤ (cs.getD (k + 1) default).Record := by
  unfold copsOk at h
  simp only [Bool.and_eq_true, decide_eq_true_eq] at h
  obtain ⟨h1, h2, h3⟩ := h
  refine ⟨h1, by omega, fun c hc => ?_, fun k hk => ?_⟩
  · have := rise_all h2 c hc
    unfold copOk at this
    simp only [Bool.not_eq_false', Bool.and_eq_true, inR_true] at this
    exact ⟨this.1.1.1, this.1.1.2, this.1.2, this.2⟩
  · have := (rise_iff.1 h2).2 (k + 1) (by omega) hk
    unfold ordC at this
    simp only [Bool.or_eq_false_iff, decide_eq_false_iff_not, Nat.add_sub_cancel] at this
    omega
theorem cops_le {cs : List Copy} (h : ∀ k, k + 1 < cs.length → (cs.getD k default).Record ≤ (cs.getD (k + 1) default).Record) : ∀ j k, j ≤ k → k < cs.length → (cs.getD j default).Record ≤ (cs.getD k default).Record := by
  intro j k hjk hk
  induction k with
  | zero => obtain rfl : j = 0 := by omega
            exact Int.le_refl _
  | succ k ih =>
    by_cases e : j = k + 1
    · subst e; exact Int.le_refl _
    · have := ih (by omega) (by omega)
      have := h k hk
      omega

/-! ### Lost records -/
def lostP (l : List Format) (cs : List Copy) (d r : Int) : Bool := !(cs.any fun c => (c.Record == r) && decide (lastF l c.Format ≥ d))
/-- The records of the first k copies that are lost, rising. -/
def LostIs (l : List Format) (cs : List Copy) (d : Int) (k : Nat) (a : List Int) : Prop :=
  a.Pairwise (· < ·) ∧ (∀ y ∈ a, ∃ j, j < k ∧ (cs.getD j default).Record = y ∧ lostP l cs d y = true) ∧ (∀ j, j < k → lostP l cs d (cs.getD j default).Record = true → (cs.getD j default).Record ∈ a) ∧ a.length ≤ k
theorem LostIs.nil {l : List Format} {cs : List Copy} {d : Int} : LostIs l cs d 0 [] := ⟨List.Pairwise.nil, fun _ h => absurd h (by simp), fun j h => absurd h (Nat.not_lt_zero _), Nat.le_refl _⟩
theorem LostIs.stay {l : List Format} {cs : List Copy} {d : Int} {k : Nat} {a : List Int} (h : LostIs l cs d k a) (hk : lostP l cs d (cs.getD k default).Record = false ∨ (cs.getD k default).Record ∈ a) : LostIs l cs d (k + 1) a := by
  obtain ⟨h1, h2, h3, h4⟩ := h
  refine ⟨h1, fun y hy => ?_, fun j hj hl => ?_, by omega⟩
  · obtain ⟨j, g1, g2⟩ := h2 y hy
    exact ⟨j, by omega, g2⟩
  · by_cases e : j = k
    · subst e
      rcases hk with hk | hk
      · rw [hk] at hl; cases hl
      · exact hk
    · exact h3 j (by omega) hl
theorem LostIs.add {l : List Format} {cs : List Copy} {d : Int} {k : Nat} {a : List Int} (h : LostIs l cs d k a) (hs : ∀ j k, j ≤ k → k < cs.length → (cs.getD j default).Record ≤ (cs.getD k default).Record) (hk : k < cs.length) (hl : lostP l cs d (cs.getD k default).Record = true) (hn : (cs.getD k default).Record ∉ a) : LostIs l cs d (k + 1) (a ++ [(cs.getD k default).Record]) := by
  obtain ⟨h1, h2, h3, h4⟩ := h
  refine ⟨?_, fun y hy => ?_, fun j hj hq => ?_, by simp; omega⟩
  · rw [List.pairwise_append]
    refine ⟨h1, by simp, fun y hy z hz => ?_⟩
    rw [List.mem_singleton.1 hz]
    obtain ⟨j, g1, g2, _⟩ := h2 y hy
    have := hs j k (by omega) hk
    have : y ≠ (cs.getD k default).Record := fun e => hn (e ▸ hy)
    omega
  · rcases List.mem_append.1 hy with hy | hy
    · obtain ⟨j, g1, g2⟩ := h2 y hy
      exact ⟨j, by omega, g2⟩
    · rw [List.mem_singleton.1 hy]
      exact ⟨k, by omega, rfl, hl⟩
  · by_cases e : j = k
    · subst e; simp
    · exact List.mem_append_left _ (h3 j (by omega) hq)
theorem strictQ : ∀ {a b : List Int}, a.Pairwise (· < ·) → b.Pairwise (· < ·) → (∀ y, y ∈ a ↔ y ∈ b) → a = b
  | [], [], _, _, _ => rfl
  | [], y :: b, _, _, h => absurd ((h y).2 (by simp)) (by simp)
  | x :: a, [], _, _, h => absurd ((h x).1 (by simp)) (by simp)
  | x :: a, y :: b, ha, hb, h => by
    obtain ⟨a1, a2⟩ := List.pairwise_cons.1 ha
    obtain ⟨b1, b2⟩ := List.pairwise_cons.1 hb
    have hxy : x = y := by
      have h1 := (h x).1 (by simp)
      have h2 := (h y).2 (by simp)
      rcases List.mem_cons.1 h1 with e | e
      · exact e
      · rcases List.mem_cons.1 h2 with e2 | e2
        · exact e2.symm
        · have := b1 x e
          have := a1 y e2
          omega
    subst hxy
    congr 1
    refine strictQ a2 b2 fun z => ?_
    constructor
    · intro hz
      have := a1 z hz
      rcases List.mem_cons.1 ((h z).1 (by simp [hz])) with e | e
      · omega
      · exact e
    · intro hz
      have := b1 z hz
      rcases List.mem_cons.1 ((h z).2 (by simp [hz])) with e | e
      · omega
      · exact e
theorem LostIs.same {l : List Format} {cs : List Copy} {d : Int} {k : Nat} {a b : List Int} (h : LostIs l cs d k a) (h' : LostIs l cs d k b) : a = b := by
  refine strictQ h.1 h'.1 fun y => ⟨fun hy => ?_, fun hy => ?_⟩
  · obtain ⟨j, g1, g2, g3⟩ := h.2.1 y hy
    rw [← g2] at g3 ⊢
    exact h'.2.2.1 j g1 g3
  · obtain ⟨j, g1, g2, g3⟩ := h'.2.1 y hy
    rw [← g2] at g3 ⊢
    exact h.2.2.1 j g1 g3
theorem contC (t : List Copy) (p : Copy → Bool) (fm : Copy → Option Bool) (hfm : ∀ x ∈ t, fm x = some (p x)) (hl : t.length < 1000000) : M.slices_ContainsFunc_impl_Copy_impl_Copy t fm = some (t.any p) := by
  unfold M.slices_ContainsFunc_impl_Copy_impl_Copy M.slices_IndexFunc_impl_Copy_impl_Copy
  have h := iter_first (step := M.slices_IndexFunc_impl_Copy_impl_Copy_l0 t fm) p t (by omega) (fun k hk => by
    have := hfm _ (getD_mem hk)
    unfold M.slices_IndexFunc_impl_Copy_impl_Copy_l0
    simp (disch := first | omega | (intros; simp only [decide_eq_true_eq, decide_eq_false_iff_not, Bool.not_eq_true, Bool.not_eq_false, Bool.not_true, Bool.not_false] at *; omega)) only [cast_succ, asrt_pos, wrap64_id, Option.bind_some, cond_true, cond_false, decide_eq_true, decide_eq_false, Int.toNat_natCast, Bool.not_true, Bool.not_false, Bool.and_true, Bool.true_and, Bool.and_false, Bool.false_and, Bool.or_true, Bool.true_or, Bool.or_false, Bool.false_or, bif_some, this]) (by
    unfold M.slices_IndexFunc_impl_Copy_impl_Copy_l0
    simp (disch := first | omega | (intros; simp only [decide_eq_true_eq, decide_eq_false_iff_not, Bool.not_eq_true, Bool.not_eq_false, Bool.not_true, Bool.not_false] at *; omega)) only [cast_succ, asrt_pos, wrap64_id, Option.bind_some, cond_true, cond_false, decide_eq_true, decide_eq_false, Int.toNat_natCast, Bool.not_true, Bool.not_false, Bool.and_true, Bool.true_and, Bool.and_false, Bool.false_and, Bool.or_true, Bool.true_or, Bool.or_false, Bool.false_or])
  refine (congrArg (fun q => q.bind fun y0 => some (decide (y0 ≥ 0))) h).trans ?_
  rw [Option.bind_some, firstAt_any]
theorem lostLoopI (l : List Format) (cs : List Copy) (d : Int) (hl : FmB l) (h : copsOk l cs = true) : T (iterO (M.impl_LostRecords_l0 l cs d) (([] : List Int), (0 : Int))) (LostIs l cs d cs.length) := by
  obtain ⟨h1, h2, h3, h4⟩ := cops_ok h
  have hs := cops_le h4
  refine T_iter (fun s => ∃ k : Nat, s.2 = (k : Int) ∧ k ≤ cs.length ∧ LostIs l cs d k s.1) (fun s => cs.length - s.2.toNat) _ ⟨0, rfl, by omega, LostIs.nil⟩ (by simp only; omega) ?_
  rintro ⟨a, _⟩ ⟨k, rfl, g1, g2⟩
  simp only at g2
  unfold M.impl_LostRecords_l0
  dsimp only
  refine T_if (fun hq => ?_) (fun hq => ?_)
  · simp only [decide_eq_true_eq] at hq
    have hk : k < cs.length := by omega
    refine T.then (Q := LostIs l cs d (k + 1)) ?_ (fun a' ha' => T_ret ⟨⟨k + 1, by simp only; rw [wrap64_id (by omega) (by omega)]; omega, by omega, ha'⟩, by simp only; rw [wrap64_id (by omega) (by omega)]; omega⟩)
    refine T_ask ⟨by omega, by omega⟩ (T_ask (fun h => by simp only [decide_eq_true_eq] at h; rw [wrap64_id (by omega) (by omega)]; exact ⟨by omega, by omega⟩) ?_)
    rw [Int.toNat_natCast]
    refine T_if (fun hp => ?_) (fun hp => ?_)
    · rw [Bool.and_eq_true, decide_eq_true_eq] at hp
      obtain ⟨p1, p2⟩ := hp
      rw [wrap64_id (by omega) (by omega), toNat_pred] at p2
      have p2 := eq_of_beq p2
      refine T_ret (g2.stay ?_)
      cases hq2 : lostP l cs d (cs.getD k default).Record
      · exact .inl rfl
      · right
        rw [← p2]
        exact g2.2.2.1 (k - 1) (by omega) (by rw [p2]; exact hq2)
    · rw [contC cs (fun c => (c.Record == (cs.getD k default).Record) && decide (lastF l c.Format ≥ d)) (fun x0 => M.impl_LostRecords_1 x0 (cs.getD k default) l d) (fun x hx => by
        unfold M.impl_LostRecords_1
        rw [lastI l _ hl (h3 x hx).2.1]
        cases x.Record == (cs.getD k default).Record <;> rfl) (by omega), Option.bind_some]
      change T (bif lostP l cs d (cs.getD k default).Record then _ else _) _
      refine T_if (fun hp2 => ?_) (fun hp2 => T_ret (g2.stay (.inl hp2)))
      refine T_ask (by have := g2.2.2.2; simp; omega) (T_ret (g2.add hs hk hp2 fun hm => ?_))
      obtain ⟨j, q1, q2, _⟩ := g2.2.1 _ hm
      have e1 := hs j (k - 1) (by omega) (by omega)
      have e2 := hs (k - 1) k (by omega) hk
      rw [decide_eq_true (show (k : Int) > 0 by omega), Bool.true_and, wrap64_id (by omega) (by omega), toNat_pred, beq_eq_false_iff_ne] at hp
      omega
  · simp only [decide_eq_false_iff_not] at hq
    obtain rfl : k = cs.length := by omega
    exact T_ret g2
theorem lostInS (l : List Format) (cs : List Copy) (d : Int) (i : Nat) (hi : i < cs.length) (hl : FmB l) (h3 : ∀ c ∈ cs, hasFm l c.Format = true) (hc : cs.length < 1000000) : iterO (M.spec_LostRecords_l1 l cs d (i : Int)) (true, (0 : Int)) = some (lostP l cs d (cs.getD i default).Record) := by
  rw [iter_fold (s := (true, (0 : Int))) (step := M.spec_LostRecords_l1 l cs d (i : Int)) (fun (b : Bool) (k : Nat) => (b, (k : Int))) (fun b c => bif (c.Record == (cs.getD i default).Record) && decide (lastF l c.Format ≥ d) then false else b) (fun b => b) cs true (fun _ _ => True) rfl (by omega) trivial (fun b k hk _ => ⟨?_, trivial⟩) (fun b _ => ?_)]
  · congr 1
    have key : ∀ (t : List Copy) (b : Bool), t.foldl (fun b c => bif (c.Record == (cs.getD i default).Record) && decide (lastF l c.Format ≥ d) then false else b) b = (b && !(t.any fun c => (c.Record == (cs.getD i default).Record) && decide (lastF l c.Format ≥ d))) := by
      intro t
      induction t with
      | nil => intro b; simp
      | cons c t ih =>
        intro b
        rw [List.foldl_cons, ih, List.any_cons]
        cases (c.Record == (cs.getD i default).Record) && decide (lastF l c.Format ≥ d) <;> simp
    rw [key]
    rfl
  · unfold M.spec_LostRecords_l1
    dsimp only
    rw [decide_eq_true (show (k : Int) < (cs.length : Int) by omega), cond_true, asrt_pos ⟨by omega, by omega⟩, asrt_pos ⟨by omega, by omega⟩, asrt_pos (fun _ => ⟨by omega, by omega⟩), Int.toNat_natCast, Int.toNat_natCast, lastS l _ hl (h3 _ (getD_mem hk)), wrap64_id (n := (k : Int) + 1) (by omega) (by omega)]
    cases (cs.getD k default).Record == (cs.getD i default).Record
    · rfl
    · rw [cond_true, Option.bind_some, Bool.true_and]
      cases decide (lastF l (cs.getD k default).Format ≥ d) <;> rfl
  · unfold M.spec_LostRecords_l1
    dsimp only
    rw [decide_eq_false (by omega)]
    rfl
theorem lostLoopS (l : List Format) (cs : List Copy) (d : Int) (hl : FmB l) (h : copsOk l cs = true) : T (iterO (M.spec_LostRecords_l0 l cs d) (([] : List Int), (0 : Int))) (LostIs l cs d cs.length) := by
  obtain ⟨h1, h2, h3, h4⟩ := cops_ok h
  have hs := cops_le h4
  refine T_iter (fun s => ∃ k : Nat, s.2 = (k : Int) ∧ k ≤ cs.length ∧ LostIs l cs d k s.1) (fun s => cs.length - s.2.toNat) _ ⟨0, rfl, by omega, LostIs.nil⟩ (by simp only; omega) ?_
  rintro ⟨a, _⟩ ⟨k, rfl, g1, g2⟩
  simp only at g2
  unfold M.spec_LostRecords_l0
  dsimp only
  refine T_if (fun hq => ?_) (fun hq => ?_)
  · simp only [decide_eq_true_eq] at hq
    have hk : k < cs.length := by omega
    have hla := g2.2.2.2
    refine T.then (Q := LostIs l cs d (k + 1)) ?_ (fun a' ha' => T_ret ⟨⟨k + 1, by simp only; rw [wrap64_id (by omega) (by omega)]; omega, by omega, ha'⟩, by simp only; rw [wrap64_id (by omega) (by omega)]; omega⟩)
    rw [lostInS l cs d k hk hl (fun c hc => (h3 c hc).2.1) (by omega), Option.bind_some]
    refine T_ask (fun _ => ⟨by omega, by omega⟩) ?_
    rw [Int.toNat_natCast]
    cases hp : lostP l cs d (cs.getD k default).Record
    · rw [cond_false, Option.bind_some, Bool.false_and, cond_false]
      exact T_ret (g2.stay (.inl hp))
    · rw [cond_true, hasQ _ _ (by omega), Option.bind_some, Bool.true_and]
      refine T_if (fun hn => ?_) (fun hn => ?_)
      · refine T_ask ⟨by omega, by omega⟩ (T_ask (by simp; omega) (T_ret (g2.add hs hk hp fun hm => ?_)))
        rw [Bool.not_eq_true', List.any_eq_false] at hn
        exact hn _ hm (beq_self_eq_true _)
      · rw [Bool.not_eq_false'] at hn
        obtain ⟨y, hy, e⟩ := List.any_eq_true.1 hn
        exact T_ret (g2.stay (.inr (eq_of_beq e ▸ hy)))
  · simp only [decide_eq_false_iff_not] at hq
    obtain rfl : k = cs.length := by omega
    exact T_ret g2
/-- What is lost on a day, told by both. -/
def LostOk (l : List Format) (cs : List Copy) (d : Int) (x : List Int × Bool) : Prop :=
  x = ([], false) ∨ (copsOk l cs = true ∧ LostIs l cs d cs.length x.1 ∧ x.2 = true)
theorem lostI (l : List Format) (cs : List Copy) (d : Int) (hl : FmB l) (hc : cs.length < 1000000) : T (M.impl_LostRecords l cs d) (fun x => M.spec_LostRecords l cs d = some x ∧ LostOk l cs d x) := by
  unfold M.impl_LostRecords M.spec_LostRecords
  rw [copsI l cs hl hc, Option.bind_some, copsS l cs hl hc, Option.bind_some]
  cases h : copsOk l cs
  · exact T_ret ⟨rfl, .inl rfl⟩
  rw [Bool.not_true, cond_false, cond_false, isDayI, Option.bind_some, l2DayS, Option.bind_some]
  cases inR d 0 20000
  · exact T_ret ⟨rfl, .inl rfl⟩
  rw [Bool.not_true, Bool.or_self, cond_false, cond_false]
  obtain ⟨b, hb1, hb2⟩ := lostLoopS l cs d hl h
  refine (lostLoopI l cs d hl h).then ?_
  intro a ha
  have e : a = b := ha.same hb2
  subst e
  exact T_ret ⟨by rw [hb1]; rfl, .inr ⟨h, ha, rfl⟩⟩
theorem LostOk.len {l : List Format} {cs : List Copy} {d : Int} {x : List Int × Bool} (h : LostOk l cs d x) (hc : cs.length < 1000000) : x.1.length < 1000000 := by
  rcases h with h | h
  · rw [h]; simp
  · have := h.2.1.2.2.2; omega
theorem laterLoop (l : List Format) (cs : List Copy) (d : Int) (x y : List Int × Bool) (hc : cs.length < 1000000) (hx : LostOk l cs d x) (hy : LostOk l cs (d + 1) y) (h1 : x.2 = true) (h2 : y.2 = true) : iterO (M.laws_FnFormats_l0 x y) (0 : Int) = some (.inl ()) := by
  have lx := hx.len hc
  have ly := hy.len hc
  rcases hx with hx | ⟨c1, hx, _⟩
  · rw [hx] at h1; cases h1
  rcases hy with hy | ⟨_, hy, _⟩
  · rw [hy] at h2; cases h2
  refine iter_up (s := 0) (fun k => (k : Int)) x.1.length rfl (by omega) (fun k hk => ?_) ?_
  · obtain ⟨j, g1, g2, g3⟩ := hx.2.1 _ (getD_mem hk)
    have hm : (y.1.any fun z => z == x.1.getD k default) = true := by
      refine List.any_eq_true.2 ⟨x.1.getD k default, ?_, beq_self_eq_true _⟩
      rw [← g2] at g3 ⊢
      refine hy.2.2.1 j g1 ?_
      unfold lostP at g3 ⊢
      rw [Bool.not_eq_true', List.any_eq_false] at g3 ⊢
      intro c hc' hq
      refine g3 c hc' ?_
      rw [Bool.and_eq_true, decide_eq_true_eq] at hq ⊢
      exact ⟨hq.1, by omega⟩
    unfold M.laws_FnFormats_l0
    dsimp only
    rw [decide_eq_true (show (k : Int) < (x.1.length : Int) by omega), cond_true, asrt_pos ⟨by omega, by omega⟩, Int.toNat_natCast, rHasQ _ _ ly, Option.bind_some, hm, Bool.not_true, cond_false, wrap64_id (by omega) (by omega)]
    rfl
  · unfold M.laws_FnFormats_l0
    dsimp only
    rw [decide_eq_false (by omega)]
    rfl

/-! ### Sizes -/
def sumC (p : Copy → Bool) (cs : List Copy) : Int := (cs.filter p).foldl (fun a c => a + c.Size) 0
theorem foldSz : ∀ (cs : List Copy) (a : Int), cs.foldl (fun a c => a + c.Size) a = a + cs.foldl (fun a c => a + c.Size) 0
  | [], a => by simp
  | c :: cs, a => by
    rw [List.foldl_cons, List.foldl_cons, foldSz cs (a + c.Size), foldSz cs (0 + c.Size)]
    omega
theorem sumC_cons {p : Copy → Bool} {c : Copy} {cs : List Copy} : sumC p (c :: cs) = (bif p c then c.Size else 0) + sumC p cs := by
  unfold sumC
  cases h : p c
  · rw [List.filter_cons_of_neg (by simp [h])]; simp
  · rw [List.filter_cons_of_pos h, List.foldl_cons, foldSz]; simp
theorem sumC_snoc {p : Copy → Bool} {c : Copy} : ∀ {cs : List Copy}, sumC p (cs ++ [c]) = sumC p cs + (bif p c then c.Size else 0)
  | [] => by rw [List.nil_append, sumC_cons]; unfold sumC; simp
  | x :: cs => by rw [List.cons_append, sumC_cons, sumC_snoc, sumC_cons]; omega
theorem sumC_bd {p : Copy → Bool} : ∀ {cs : List Copy}, (∀ c ∈ cs, 0 ≤ c.Size ∧ c.Size ≤ 1000000) → 0 ≤ sumC p cs ∧ sumC p cs ≤ 1000000 * (cs.length : Int)
  | [], _ => by unfold sumC; simp
  | c :: cs, h => by
    obtain ⟨i1, i2⟩ := sumC_bd (p := p) (cs := cs) (fun x hx => h x (by simp [hx]))
    have := h c (by simp)
    rw [sumC_cons, List.length_cons]
    cases p c
    · simp only [cond_false]; omega
    · simp only [cond_true]; omega
def szL (l : List Format) (cs : List Copy) : List Int := l.map fun f => sumC (fun c => c.Format == f.Id) cs
theorem takeQ {cs : List Copy} {k : Nat} (h : k < cs.length) : cs.take (k + 1) = cs.take k ++ [cs.getD k default] := by
  rw [List.take_add_one]
  simp [List.getD, h, List.getElem?_eq_getElem]
theorem idQ {l : List Format} (hu : ∀ j k, j < k → k < l.length → (l.getD j default).Id < (l.getD k default).Id) {j k : Nat} (hj : j < l.length) (hk : k < l.length) (e : (l.getD j default).Id = (l.getD k default).Id) : j = k := by
  rcases Nat.lt_trichotomy j k with q | q | q
  · have := hu j k q hk; omega
  · exact q
  · have := hu k j q hj; omega
theorem szSet {l : List Format} {cs : List Copy} {k : Nat} (hu : ∀ j k, j < k → k < l.length → (l.getD j default).Id < (l.getD k default).Id) (hk : k < cs.length) (hi : hasFm l (cs.getD k default).Format = true) :
    (szL l (cs.take k)).set (atFm l (cs.getD k default).Format).toNat ((szL l (cs.take k)).getD (atFm l (cs.getD k default).Format).toNat default + (cs.getD k default).Size) = szL l (cs.take (k + 1)) := by
  obtain ⟨g0, g1, g2, g3⟩ := atFm_spec hi
  rw [takeQ hk]
  apply List.ext_getElem
  · simp [szL]
  · intro j hj hj'
    have hjl : j < l.length := by simpa [szL] using hj'
    rw [List.getElem_set]
    have e1 : (szL l (cs.take k ++ [cs.getD k default]))[j]'(by simpa [szL] using hjl) = sumC (fun c => c.Format == l[j].Id) (cs.take k) + (bif (cs.getD k default).Format == l[j].Id then (cs.getD k default).Size else 0) := by
      simp only [szL, List.getElem_map]
      rw [sumC_snoc]
    rw [e1]
    split
    · rename_i he
      have hG : (szL l (cs.take k)).getD (atFm l (cs.getD k default).Format).toNat default = sumC (fun c => c.Format == l[j].Id) (cs.take k) := by
        rw [getD_el (by simpa [szL] using g1)]
        simp only [szL, List.getElem_map, he]
      have e2 : (cs.getD k default).Format = l[j].Id := by
        rw [← g3, he, getD_el hjl]
      rw [hG, e2, beq_self_eq_true, cond_true]
    · rename_i he
      have e2 : ((cs.getD k default).Format == l[j].Id) = false := by
        rw [beq_eq_false_iff_ne]
        intro e
        refine he (idQ hu g1 hjl ?_)
        rw [g3, getD_el hjl, e]
      rw [e2, cond_false]
      simp only [szL, List.getElem_map]
      omega
theorem szZero {l : List Format} : List.replicate l.length (0 : Int) = szL l [] := by
  unfold szL
  symm
  rw [List.eq_replicate_iff]
  exact ⟨by simp, fun b hb => by
    obtain ⟨f, _, rfl⟩ := List.mem_map.1 hb
    rfl⟩
theorem szLoopI (l : List Format) (cs : List Copy) (h : copsOk l cs = true) : iterO (M.impl_SizeByFormat_l0 l cs) (szL l [], (0 : Int)) = some (szL l cs) := by
  obtain ⟨h1, h2, h3, h4⟩ := cops_ok h
  obtain ⟨f1, f2, f3⟩ := fms_ok h1
  refine iter_up (s := (szL l [], (0 : Int))) (fun k => (szL l (cs.take k), (k : Int))) cs.length (by simp) (by omega) (fun k hk => ?_) ?_
  · have hc := h3 _ (getD_mem hk)
    obtain ⟨g0, g1, g2, g3⟩ := atFm_spec hc.2.1
    have hlen : (szL l (cs.take k)).length = l.length := by simp [szL]
    have hbd := sumC_bd (p := fun c => c.Format == (l.getD (atFm l (cs.getD k default).Format).toNat default).Id) (cs := cs.take k) (fun c hc' => by have := (h3 c (List.mem_of_mem_take hc')).2.2.1; omega)
    have ht : (cs.take k).length ≤ 15 := by rw [List.length_take]; omega
    have hG : (szL l (cs.take k)).getD (atFm l (cs.getD k default).Format).toNat default = sumC (fun c => c.Format == (l.getD (atFm l (cs.getD k default).Format).toNat default).Id) (cs.take k) := by
      rw [getD_el (by omega), getD_el g1]
      simp only [szL, List.getElem_map]
    unfold M.impl_SizeByFormat_l0
    dsimp only
    rw [decide_eq_true (show (k : Int) < (cs.length : Int) by omega), cond_true, asrt_pos ⟨by omega, by omega⟩, Int.toNat_natCast, atFmI l _ (by omega), Option.bind_some, asrt_pos ⟨by omega, by omega⟩, asrt_pos ⟨by omega, by omega⟩, wrap64_id (n := (szL l (cs.take k)).getD (atFm l (cs.getD k default).Format).toNat default + (cs.getD k default).Size) (by omega) (by omega), szSet f3 hk hc.2.1, wrap64_id (by omega) (by omega)]
    rfl
  · unfold M.impl_SizeByFormat_l0
    dsimp only
    rw [decide_eq_false (by omega), List.take_length]
    rfl
theorem szInS (l : List Format) (cs : List Copy) (i : Nat) (hi : i < l.length) (hl : l.length < 1000000) (h3 : ∀ c ∈ cs, 0 ≤ c.Size ∧ c.Size ≤ 1000000) (hc : cs.length ≤ 15) : iterO (M.spec_SizeByFormat_l1 l cs (i : Int)) ((0 : Int), (0 : Int)) = some (sumC (fun c => c.Format == (l.getD i default).Id) cs) := by
  refine iter_up (s := ((0 : Int), (0 : Int))) (fun k => (sumC (fun c => c.Format == (l.getD i default).Id) (cs.take k), (k : Int))) cs.length (by simp [sumC]) (by omega) (fun k hk => ?_) ?_
  · have hbd := sumC_bd (p := fun c => c.Format == (l.getD i default).Id) (cs := cs.take k) (fun c hc' => h3 c (List.mem_of_mem_take hc'))
    have ht : (cs.take k).length ≤ 15 := by rw [List.length_take]; omega
    have hsz := h3 _ (getD_mem hk)
    unfold M.spec_SizeByFormat_l1
    dsimp only
    rw [decide_eq_true (show (k : Int) < (cs.length : Int) by omega), cond_true, asrt_pos ⟨by omega, by omega⟩, asrt_pos ⟨by omega, by omega⟩, Int.toNat_natCast, Int.toNat_natCast, takeQ hk, sumC_snoc, wrap64_id (n := (k : Int) + 1) (by omega) (by omega)]
    cases (cs.getD k default).Format == (l.getD i default).Id
    · simp
    · rw [cond_true, cond_true, asrt_pos ⟨by omega, by omega⟩, wrap64_id (by omega) (by omega)]
      rfl
  · unfold M.spec_SizeByFormat_l1
    dsimp only
    rw [decide_eq_false (by omega), List.take_length]
    rfl
def SizeD (l : List Format) (cs : List Copy) : List Int × Bool := bif copsOk l cs then (szL l cs, true) else ([], false)
theorem sizeI (l : List Format) (cs : List Copy) (hl : FmB l) (hc : cs.length < 1000000) : M.impl_SizeByFormat l cs = some (SizeD l cs) := by
  have hb := hl.1
  unfold M.impl_SizeByFormat SizeD
  rw [copsI l cs hl hc, Option.bind_some]
  cases h : copsOk l cs
  · rfl
  rw [Bool.not_true, cond_false, asrt_pos ⟨by omega, by omega, by omega⟩, Int.toNat_natCast, szZero, szLoopI l cs h, Option.bind_some, cond_true]
theorem sizeS (l : List Format) (cs : List Copy) (hl : FmB l) (hc : cs.length < 1000000) : M.spec_SizeByFormat l cs = some (SizeD l cs) := by
  have hb := hl.1
  unfold M.spec_SizeByFormat SizeD
  rw [copsS l cs hl hc, Option.bind_some]
  cases h : copsOk l cs
  · rfl
  obtain ⟨h1, h2, h3, h4⟩ := cops_ok h
  rw [Bool.not_true, cond_false, cond_true]
  rw [iter_coll (s := (([] : List Int), (0 : Int))) (step := M.spec_SizeByFormat_l0 l cs) (fun a k => (a, (k : Int))) (fun f : Format => [sumC (fun c => c.Format == f.Id) cs]) id l rfl (by omega) (fun k _ => by simp) (fun a k hk ha => by
    unfold M.spec_SizeByFormat_l0
    dsimp only
    rw [decide_eq_true (show (k : Int) < (l.length : Int) by omega), cond_true, szInS l cs k hk hb (fun c hc' => by have := (h3 c hc').2.2.1; omega) h2, Option.bind_some, wrap64_id (by omega) (by omega), asrt_pos (by simp; omega)]
    rfl) (fun a ha => by
    unfold M.spec_SizeByFormat_l0
    dsimp only
    rw [decide_eq_false (by omega)]
    rfl)]
  simp only [id, Option.bind_some]
  congr 2
  unfold szL
  rw [List.map_eq_flatMap]
theorem SizeD_len {l : List Format} {cs : List Copy} (hl : FmB l) : (SizeD l cs).1.length < 1000000 := by
  unfold SizeD
  cases copsOk l cs
  · simp
  · have := hl.1
    show (szL l cs).length < 1000000
    simpa [szL] using this
def sumI (a : List Int) : Int := a.foldl (fun x y => x + y) 0
theorem foldI : ∀ (a : List Int) (x : Int), a.foldl (fun x y => x + y) x = x + a.foldl (fun x y => x + y) 0
  | [], x => by simp
  | y :: a, x => by
    rw [List.foldl_cons, List.foldl_cons, foldI a (x + y), foldI a (0 + y)]
    omega
theorem sumI_set : ∀ (a : List Int) (k : Nat) (v : Int), k < a.length → sumI (a.set k (a.getD k default + v)) = sumI a + v
  | [], k, v, h => absurd h (Nat.not_lt_zero _)
  | x :: a, 0, v, _ => by
    unfold sumI
    simp only [List.set_cons_zero, List.getD_cons_zero, List.foldl_cons]
    rw [foldI a (0 + (x + v)), foldI a (0 + x)]
    omega
  | x :: a, k + 1, v, h => by
    have := sumI_set a k v (by simpa using h)
    unfold sumI at this ⊢
    simp only [List.set_cons_succ, List.getD_cons_succ, List.foldl_cons]
    rw [foldI _ (0 + x), this, foldI a (0 + x)]
    omega
theorem sum_sz {l : List Format} {cs : List Copy} (h : copsOk l cs = true) : sumI (szL l cs) = sumC (fun _ => true) cs := by
  obtain ⟨h1, h2, h3, h4⟩ := cops_ok h
  obtain ⟨f1, f2, f3⟩ := fms_ok h1
  have key : ∀ k, k ≤ cs.length → sumI (szL l (cs.take k)) = sumC (fun _ => true) (cs.take k) := by
    intro k
    induction k with
    | zero =>
      intro _
      rw [List.take_zero, ← szZero]
      unfold sumC sumI
      generalize l.length = n
      induction n with
      | zero => rfl
      | succ n ih => rw [List.replicate_succ, List.foldl_cons]; exact ih
    | succ k ih =>
      intro hk
      have hc := h3 _ (getD_mem (show k < cs.length by omega))
      rw [← szSet f3 (by omega) hc.2.1, sumI_set _ _ _ (by simpa [szL] using (atFm_spec hc.2.1).2.1), ih (by omega), takeQ (by omega), sumC_snoc]
      rfl
  have := key cs.length (Nat.le_refl _)
  rwa [List.take_length] at this
theorem rSumQ (a : List Int) (hl : a.length ≤ 1000) (hb : ∀ x ∈ a, 0 ≤ x ∧ x ≤ 1000000000) : M.laws_rSum a = some (sumI a) := by
  have bd : ∀ (m : List Int), (∀ x ∈ m, 0 ≤ x ∧ x ≤ 1000000000) → 0 ≤ sumI m ∧ sumI m ≤ 1000000000 * (m.length : Int) := by
    intro m
    induction m with
    | nil => intro _; unfold sumI; simp
    | cons x m ih =>
      intro hm
      have h1 := ih (fun y hy => hm y (by simp [hy]))
      have h2 := hm x (by simp)
      unfold sumI at h1 ⊢
      rw [List.foldl_cons, foldI, List.length_cons]
      omega
  unfold M.laws_rSum
  rw [iter_up (s := ((0 : Int), (0 : Int))) (step := M.laws_rSum_l0 a) (e := sumI a) (fun k => (sumI (a.take k), (k : Int))) a.length (by simp [sumI]) (by omega) (fun k hk => by
    have h1 := bd (a.take k) (fun x hx => hb x (List.mem_of_mem_take hx))
    have h2 := hb _ (getD_mem hk)
    have ht : (a.take k).length ≤ 1000 := by rw [List.length_take]; omega
    have e : sumI (a.take (k + 1)) = sumI (a.take k) + a.getD k default := by
      unfold sumI
      rw [foldl_take hk]
    unfold M.laws_rSum_l0
    dsimp only
    rw [decide_eq_true (show (k : Int) < (a.length : Int) by omega), cond_true, asrt_pos ⟨by omega, by omega⟩, Int.toNat_natCast, wrap64_id (n := sumI (a.take k) + a.getD k default) (by omega) (by omega), wrap64_id (by omega) (by omega), e]
    rfl) (by
    unfold M.laws_rSum_l0
    dsimp only
    rw [decide_eq_false (by omega), List.take_length]
    rfl)]
  rfl
theorem sumLoop (l : List Format) (cs : List Copy) : iterO (M.laws_FnFormats_l1 (l, cs) (SizeD l cs)) ((0 : Int), (0 : Int)) = some (bif copsOk l cs then sumC (fun _ => true) cs else 0) := by
  cases h : copsOk l cs
  · have e : SizeD l cs = ([], false) := by unfold SizeD; rw [h]; rfl
    rw [e]
    refine iter_up (s := ((0 : Int), (0 : Int))) (fun k => ((0 : Int), (k : Int))) 0 rfl (by omega) (fun k hk => absurd hk (Nat.not_lt_zero _)) ?_
    unfold M.laws_FnFormats_l1
    dsimp only
    rw [Bool.and_false]
    rfl
  · obtain ⟨h1, h2, h3, h4⟩ := cops_ok h
    have e : (SizeD l cs).2 = true := by unfold SizeD; rw [h]; rfl
    refine iter_up (s := ((0 : Int), (0 : Int))) (fun k => (sumC (fun _ => true) (cs.take k), (k : Int))) cs.length (by simp [sumC]) (by omega) (fun k hk => ?_) ?_
    · have hbd := sumC_bd (p := fun _ => true) (cs := cs.take k) (fun c hc' => by have := (h3 c (List.mem_of_mem_take hc')).2.2.1; omega)
      have ht : (cs.take k).length ≤ 15 := by rw [List.length_take]; omega
      have hsz := (h3 _ (getD_mem hk)).2.2.1
      unfold M.laws_FnFormats_l1
      dsimp only
      rw [decide_eq_true (show (k : Int) < (cs.length : Int) by omega), e, Bool.and_self, cond_true, asrt_pos ⟨by omega, by omega⟩, Int.toNat_natCast, takeQ hk, sumC_snoc, wrap64_id (n := sumC (fun _ => true) (cs.take k) + (cs.getD k default).Size) (by omega) (by omega), wrap64_id (by omega) (by omega)]
      rfl
    · unfold M.laws_FnFormats_l1
      dsimp only
      rw [decide_eq_false (by omega), Bool.false_and, List.take_length]
      rfl
theorem sz_bd {l : List Format} {cs : List Copy} : (∀ x ∈ (SizeD l cs).1, 0 ≤ x ∧ x ≤ 1000000000) ∧ (SizeD l cs).1.length ≤ 1000 ∧ sumI (SizeD l cs).1 = (bif copsOk l cs then sumC (fun _ => true) cs else 0) := by
  unfold SizeD
  cases h : copsOk l cs
  · exact ⟨fun x hx => absurd hx (by simp), by simp, rfl⟩
  · obtain ⟨h1, h2, h3, h4⟩ := cops_ok h
    refine ⟨fun x hx => ?_, ?_, sum_sz h⟩
    · obtain ⟨f, _, rfl⟩ := List.mem_map.1 (show x ∈ szL l cs from hx)
      have := sumC_bd (p := fun c => c.Format == f.Id) (cs := cs) (fun c hc' => by have := (h3 c hc').2.2.1; omega)
      omega
    · show (szL l cs).length ≤ 1000
      have := (fms_ok h1).1
      simp only [szL, List.length_map]
      omega

/-! ### What was not seen -/
theorem unseenStep (cs : List Copy) (d n : Int) : M.spec_Unseen_l0 cs d n = M.impl_Unseen_l0 cs d n := by
  funext ⟨a, v⟩
  unfold M.spec_Unseen_l0 M.impl_Unseen_l0
  dsimp only
  cases hd : decide (v < (cs.length : Int))
  · rfl
  rw [cond_true, cond_true]
  by_cases hv : (0 : Int) ≤ v ∧ v < (cs.length : Int)
  · rw [asrt_pos hv, asrt_pos hv, asrt_pos hv]
  · unfold asrt
    rw [if_neg hv, if_neg hv]
theorem unseenI (l : List Format) (cs : List Copy) (d n : Int) (hl : FmB l) (hc : cs.length < 1000000) : T (M.impl_Unseen l cs d n) (fun x => M.spec_Unseen l cs d n = some x ∧ x.1.length < 1000000) := by
  unfold M.impl_Unseen M.spec_Unseen
  rw [copsI l cs hl hc, Option.bind_some, copsS l cs hl hc, Option.bind_some]
  cases h : copsOk l cs
  · exact T_ret ⟨rfl, by simp⟩
  rw [Bool.not_true, cond_false, cond_false, isDayI, Option.bind_some, l2DayS, Option.bind_some]
  cases h1 : inR d 0 20000
  · exact T_ret ⟨rfl, by simp⟩
  rw [Bool.not_true, Bool.or_self, cond_false, cond_false, isDayI, Option.bind_some, l2DayS, Option.bind_some]
  cases h2 : inR n 0 20000
  · exact T_ret ⟨rfl, by simp⟩
  rw [Bool.not_true, Bool.or_self, cond_false, cond_false, unseenStep]
  have hT : T (iterO (M.impl_Unseen_l0 cs d n) (([] : List Int), (0 : Int))) (fun e => match e with | .inl a => a.length < 1000000 | .inr r => r.1.length < 1000000) := by
    refine T_iter (fun s => ∃ k : Nat, s.2 = (k : Int) ∧ k ≤ cs.length ∧ s.1.length ≤ k) (fun s => cs.length - s.2.toNat) _ ⟨0, rfl, by omega, by simp⟩ (by simp only; omega) ?_
    rintro ⟨a, _⟩ ⟨k, rfl, g1, g2⟩
    simp only at g2
    unfold M.impl_Unseen_l0
    dsimp only
    refine T_if (fun hq => ?_) (fun hq => T_ret (by simp only; omega))
    simp only [decide_eq_true_eq] at hq
    refine T.then (Q := fun e => match e with | .inl a => a.length ≤ k + 1 | .inr r => r.1.length < 1000000) ?_ ?_
    · refine T_ask ⟨by omega, by omega⟩ (T_if (fun _ => T_ret (by simp)) (fun _ => T_if (fun _ => T_ask (by simp; omega) (T_ret (by simp; omega))) (fun _ => T_ret (by simp only; omega))))
    · rintro (a' | r) ha
      · exact T_ret ⟨⟨k + 1, by simp only; rw [wrap64_id (by omega) (by omega)]; omega, by omega, ha⟩, by simp only; rw [wrap64_id (by omega) (by omega)]; omega⟩
      · exact T_ret ha
  obtain ⟨e, he, hp⟩ := hT
  rw [he, Option.bind_some]
  rcases e with a | r
  · exact T_ret ⟨rfl, hp⟩
  · exact T_ret ⟨rfl, hp⟩
end Go.Proofs.YtjfpdbhjoofllaaDoor
