/-
  Files: validity, places, files changed, files closed on days. Plain.
-/
import Derived.Test.YthfndefhmmfjaaaDoorWo
set_option linter.unusedSimpArgs false
set_option linter.unusedVariables false
namespace Go.Proofs.YthfndefhmmfjaaaDoor
open Go.VS

/-! ### A file -/
def daysF (a b : Int) : Bool := (inR a 0 20000 && inR b 0 20000) && decide (a ≤ b)
theorem areDaysF (a b : Int) : M.impl_areDays a b = some (daysF a b) := by
  unfold M.impl_areDays daysF
  simp only [isDayI, Option.bind_some, bif_some]
  cases inR a 0 20000 <;> rfl
def restF (f : File) : Bool := bif f.State == 0 then f.Closed == 0 else inR f.State 1 2 && daysF f.Opened f.Closed
def fileOk (f : File) : Bool := ((((inR f.Id 1 999 && inR f.Series 1 99) && wordOk f.Title) && inR f.Opened 0 20000) && inR f.Pages 0 5000) && restF f
theorem fileI (f : File) (hx : f.Title.length < 1000000) : M.impl_IsFile f = some (fileOk f) := by
  unfold M.impl_IsFile fileOk restF
  simp only [withinI, isIdI, wordI _ hx, isDayI, areDaysF, Option.bind_some, bif_some]
  cases inR f.Id 1 999 <;> cases inR f.Series 1 99 <;> cases wordOk f.Title <;> cases inR f.Opened 0 20000 <;> cases inR f.Pages 0 5000 <;> cases (f.State == 0) <;> cases inR f.State 1 2 <;> rfl
theorem fileS (f : File) (hx : f.Title.length < 1000000) : M.spec_l5One f = some (fileOk f) := by
  have e : (inR f.State 0 2 && restF f) = (bif f.State == 0 then f.Closed == 0 else inR f.State 0 2 && daysF f.Opened f.Closed) := by
    unfold restF
    cases h : f.State == 0
    · have : inR f.State 1 2 = inR f.State 0 2 := by
        rw [beq_eq_false_iff_ne] at h
        rw [Bool.eq_iff_iff, inR_true, inR_true]; omega
      rw [this]
      cases inR f.State 0 2 <;> rfl
    · have : inR f.State 0 2 = true := by rw [beq_iff_eq] at h; rw [inR_true]; omega
      rw [this]; rfl
  have e2 : fileOk f = (((((inR f.Id 1 999 && inR f.Series 1 99) && wordOk f.Title) && inR f.Opened 0 20000) && inR f.Pages 0 5000) && (inR f.State 0 2 && restF f)) := by
    unfold fileOk restF
    cases h : f.State == 0
    · cases h2 : inR f.State 1 2
      · simp
      · have : inR f.State 0 2 = true := by rw [inR_true] at h2; rw [inR_true]; omega
        rw [this]; rfl
    · have : inR f.State 0 2 = true := by rw [beq_iff_eq] at h; rw [inR_true]; omega
      rw [this]; rfl
  rw [e2, e]
  unfold M.spec_l5One daysF
  simp only [l1InS, wordS _ hx, l2DayS, Option.bind_some, bif_some]
  rw [show decide (f.Closed ≥ f.Opened) = decide (f.Opened ≤ f.Closed) from rfl]
  have hz : (f.State == 0) = true → inR f.State 0 2 = true := fun h => by rw [beq_iff_eq] at h; rw [inR_true]; omega
  cases inR f.Id 1 999 <;> cases inR f.Series 1 99 <;> cases wordOk f.Title <;> cases inR f.Opened 0 20000 <;> cases h1 : inR f.State 0 2 <;> cases inR f.Pages 0 5000 <;> cases h2 : (f.State == 0) <;> cases inR f.Closed 0 20000 <;> first | rfl | (rw [hz h2] at h1; cases h1)

theorem fileOk_spec {f : File} (h : fileOk f = true) : (1 ≤ f.Id ∧ f.Id ≤ 999) ∧ (1 ≤ f.Series ∧ f.Series ≤ 99) ∧ wordOk f.Title = true ∧ (0 ≤ f.Opened ∧ f.Opened ≤ 20000) ∧ (0 ≤ f.Pages ∧ f.Pages ≤ 5000) ∧ ((f.State = 0 ∧ f.Closed = 0) ∨ ((1 ≤ f.State ∧ f.State ≤ 2) ∧ f.Opened ≤ f.Closed ∧ f.Closed ≤ 20000)) := by
  unfold fileOk restF daysF at h
  simp only [Bool.and_eq_true, inR_true] at h
  obtain ⟨⟨⟨⟨⟨h1, h2⟩, h3⟩, h4⟩, h5⟩, h6⟩ := h
  refine ⟨h1, h2, h3, h4, h5, ?_⟩
  cases hs : f.State == 0
  · rw [hs] at h6
    simp only [cond_false, Bool.and_eq_true, inR_true, decide_eq_true_eq] at h6
    exact .inr ⟨h6.1, h6.2.2, h6.2.1.2.2⟩
  · rw [hs] at h6
    simp only [cond_true, beq_iff_eq] at h6 hs
    exact .inl ⟨hs, h6⟩

/-! ### Validity of files -/
def twinL (f g : File) : Bool := (g.Series == f.Series) && (g.Title == f.Title)
theorem slcF {β : Type} (l : List β) (k : Nat) : slc l 0 (k : Int) = l.take k := by simp [slc]
def badF (l : List File) (k : Nat) : Bool := (!fileOk (l.getD k default) || (decide ((k : Int) > 0) && decide ((l.getD (k - 1) default).Id ≥ (l.getD k default).Id))) || (l.take k).any (twinL (l.getD k default))
def FiB (l : List File) : Prop := l.length < 1000000 ∧ ∀ x ∈ l, x.Title.length < 1000000
def filesOk (l : List File) : Bool := !(List.range l.length).any (badF l) && decide ((l.length : Int) ≤ 10)

theorem contFi (t : List File) (p : File → Bool) (fm : File → Option Bool) (hfm : ∀ x ∈ t, fm x = some (p x)) (hl : t.length < 1000000) : M.slices_ContainsFunc_impl_File_impl_File t fm = some (t.any p) := by
  unfold M.slices_ContainsFunc_impl_File_impl_File M.slices_IndexFunc_impl_File_impl_File
  have h := iter_first (step := M.slices_IndexFunc_impl_File_impl_File_l0 t fm) p t (by omega) (fun k hk => by
    have := hfm _ (getD_mem hk)
    unfold M.slices_IndexFunc_impl_File_impl_File_l0
    simp (disch := first | omega | (intros; simp only [decide_eq_true_eq, decide_eq_false_iff_not, Bool.not_eq_true, Bool.not_eq_false, Bool.not_true, Bool.not_false] at *; omega)) only [cast_succ, asrt_pos, wrap64_id, Option.bind_some, cond_true, cond_false, decide_eq_true, decide_eq_false, Int.toNat_natCast, Bool.not_true, Bool.not_false, Bool.and_true, Bool.true_and, Bool.and_false, Bool.false_and, Bool.or_true, Bool.true_or, Bool.or_false, Bool.false_or, bif_some, this]) (by
    unfold M.slices_IndexFunc_impl_File_impl_File_l0
    simp (disch := first | omega | (intros; simp only [decide_eq_true_eq, decide_eq_false_iff_not, Bool.not_eq_true, Bool.not_eq_false, Bool.not_true, Bool.not_false] at *; omega)) only [cast_succ, asrt_pos, wrap64_id, Option.bind_some, cond_true, cond_false, decide_eq_true, decide_eq_false, Int.toNat_natCast, Bool.not_true, Bool.not_false, Bool.and_true, Bool.true_and, Bool.and_false, Bool.false_and, Bool.or_true, Bool.true_or, Bool.or_false, Bool.false_or])
  refine (congrArg (fun q => q.bind fun y0 => some (decide (y0 ≥ 0))) h).trans ?_
  rw [Option.bind_some, firstAt_any]

theorem filesI (l : List File) (hl : FiB l) : M.impl_AreFiles l = some (filesOk l) := by
  have := hl.1
  unfold M.impl_AreFiles
  rw [iter_rise (n := l.length) (bad := badF l) (by omega) (fun k hk => by
    have h1 := fileI (l.getD k default) (hl.2 _ (getD_mem hk))
    have h3 := contFi (l.take k) (twinL (l.getD k default)) (fun x0 => M.impl_AreFiles_1 x0 (l.getD k default)) (fun x _ => rfl) (by rw [List.length_take]; omega)
    unfold M.impl_AreFiles_l0 badF
    dsimp only
    rw [decide_eq_true (show (k : Int) < (l.length : Int) by omega), cond_true, asrt_pos ⟨by omega, by omega⟩, Int.toNat_natCast, h1, Option.bind_some]
    rw [asrt_pos (fun _ h => by
      simp only [decide_eq_true_eq] at h
      rw [wrap64_id (by omega) (by omega)]
      exact ⟨by omega, by omega⟩)]
    have e1 : (decide ((k : Int) > 0) && decide ((l.getD (IntKind.i64.wrap ((k : Int) - 1)).toNat default).Id ≥ (l.getD k default).Id)) = (decide ((k : Int) > 0) && decide ((l.getD (k - 1) default).Id ≥ (l.getD k default).Id)) := by
      rw [wrap64_id (by omega) (by omega), toNat_pred]
    rw [e1]
    cases hA : (!fileOk (l.getD k default) || (decide ((k : Int) > 0) && decide ((l.getD (k - 1) default).Id ≥ (l.getD k default).Id)))
    · rw [cond_false, asrt_pos ⟨by omega, by omega, by omega⟩, slcF, h3, Option.bind_some, bif_some, Bool.false_or]
      rw [wrap64_id (by omega) (by omega)]
    · rfl) (by
    unfold M.impl_AreFiles_l0
    simp (disch := first | omega | (intros; simp only [decide_eq_true_eq, decide_eq_false_iff_not, Bool.not_eq_true, Bool.not_eq_false, Bool.not_true, Bool.not_false] at *; omega)) only [cast_succ, asrt_pos, wrap64_id, Option.bind_some, cond_true, cond_false, decide_eq_true, decide_eq_false, Int.toNat_natCast, Bool.not_true, Bool.not_false, Bool.and_true, Bool.true_and, Bool.and_false, Bool.false_and, Bool.or_true, Bool.true_or, Bool.or_false, Bool.false_or])]
  unfold filesOk
  cases (List.range l.length).any (badF l) <;> rfl

theorem any_takeF {t : List File} {p : File → Bool} {k : Nat} (h : k ≤ t.length) : (t.take k).any p = (List.range k).any fun j => p (t.getD j default) := by
  rw [any_getD, List.length_take, Nat.min_eq_left h, Bool.eq_iff_iff, List.any_eq_true, List.any_eq_true]
  have e : ∀ j, j < k → (t.take k).getD j default = t.getD j default := fun j hj => by simp [List.getD, List.getElem?_take, hj]
  constructor
  · rintro ⟨j, hj, h⟩
    have := List.mem_range.1 hj
    exact ⟨j, hj, by rwa [e j this] at h⟩
  · rintro ⟨j, hj, h⟩
    have := List.mem_range.1 hj
    exact ⟨j, hj, by rwa [e j this]⟩

theorem goodInF (t : List File) (k : Nat) (hl : t.length < 1000000) (hk : k < t.length) : iterO (M.spec_l5Good_l1 t (k : Int)) 0 = some (bif (t.take k).any (twinL (t.getD k default)) then .inr false else .inl ()) := by
  rw [any_takeF (Nat.le_of_lt hk)]
  refine iter_rise (n := k) (by omega) (fun j hj => ?_) ?_
  · have hj' : (j : Int) < (k : Int) := by omega
    unfold M.spec_l5Good_l1
    dsimp only
    rw [decide_eq_true hj', cond_true, asrt_pos ⟨by omega, by omega⟩, asrt_pos ⟨by omega, by omega⟩, asrt_pos (fun _ => ⟨by omega, by omega⟩), asrt_pos (fun _ => ⟨by omega, by omega⟩), Int.toNat_natCast, Int.toNat_natCast, wrap64_id (by omega) (by omega), bif_some]
    rfl
  · unfold M.spec_l5Good_l1
    dsimp only
    rw [decide_eq_false (by omega)]
    rfl

theorem filesS (l : List File) (hl : FiB l) : M.spec_l5Good l = some (filesOk l) := by
  have := hl.1
  have key : M.spec_l5Good l = some (!(List.range (min l.length 11)).any (badF l) && decide ((l.length : Int) ≤ 10)) := by
    unfold M.spec_l5Good
    rw [iter_rise (n := min l.length 11) (bad := badF l) (by omega) (fun k hk => by
      have hk1 : k < l.length := by omega
      have h1 := fileS (l.getD k default) (hl.2 _ (getD_mem hk1))
      have h3 := goodInF l k (by omega) hk1
      unfold M.spec_l5Good_l0 badF
      dsimp only
      rw [decide_eq_true (show (k : Int) < (l.length : Int) by omega), decide_eq_true (show (k : Int) ≤ 10 by omega), Bool.and_self, cond_true, asrt_pos ⟨by omega, by omega⟩, Int.toNat_natCast, h1, Option.bind_some]
      rw [asrt_pos (fun _ h => by
        simp only [decide_eq_true_eq] at h
        rw [wrap64_id (by omega) (by omega)]
        exact ⟨by omega, by omega⟩), asrt_pos (fun _ h => ⟨by omega, by omega⟩)]
      have e1 : (decide ((k : Int) > 0) && decide ((l.getD (IntKind.i64.wrap ((k : Int) - 1)).toNat default).Id ≥ (l.getD k default).Id)) = (decide ((k : Int) > 0) && decide ((l.getD (k - 1) default).Id ≥ (l.getD k default).Id)) := by
        rw [wrap64_id (by omega) (by omega), toNat_pred]
      rw [e1]
      cases hA : (!fileOk (l.getD k default) || (decide ((k : Int) > 0) && decide ((l.getD (k - 1) default).Id ≥ (l.getD k default).Id)))
      · rw [cond_false, h3, Bool.false_or]
        cases (l.take k).any (twinL (l.getD k default))
        · rw [cond_false, cond_false, Option.bind_some]
          dsimp only
          rw [wrap64_id (by omega) (by omega)]
        · rfl
      · rfl) (by
      unfold M.spec_l5Good_l0
      dsimp only
      rcases Nat.le_total l.length 11 with h | h
      · rw [Nat.min_eq_left h, decide_eq_false (show ¬ (l.length : Int) < (l.length : Int) by omega), Bool.false_and]
        rfl
      · rw [Nat.min_eq_right h, show decide (((11 : Nat) : Int) ≤ 10) = false by decide, Bool.and_false]
        rfl)]
    cases (List.range (min l.length 11)).any (badF l) <;> rfl
  rw [key]
  unfold filesOk
  by_cases hn : l.length ≤ 10
  · rw [Nat.min_eq_left (by omega)]
  · rw [decide_eq_false (show ¬ (l.length : Int) ≤ 10 by omega), Bool.and_false, Bool.and_false]

structure FilesP (l : List File) : Prop where
  len : l.length ≤ 10
  ok : ∀ k, k < l.length → fileOk (l.getD k default) = true
  up : ∀ j k, j < k → k < l.length → (l.getD j default).Id < (l.getD k default).Id
  one : ∀ j k, j < k → k < l.length → twinL (l.getD k default) (l.getD j default) = false

theorem badF_iff {l : List File} {k : Nat} (hk : k < l.length) : badF l k = false ↔ fileOk (l.getD k default) = true ∧ (0 < k → (l.getD (k - 1) default).Id < (l.getD k default).Id) ∧ ∀ j, j < k → twinL (l.getD k default) (l.getD j default) = false := by
  unfold badF
  rw [Bool.or_eq_false_iff, Bool.or_eq_false_iff, Bool.not_eq_false', Bool.and_eq_false_iff, decide_eq_false_iff_not, decide_eq_false_iff_not, any_takeF (Nat.le_of_lt hk), List.any_eq_false, and_assoc]
  refine and_congr_right fun _ => ⟨fun ⟨h1, h2⟩ => ⟨fun h => by omega, fun j hj => by have := h2 j (List.mem_range.2 hj); simpa using this⟩, fun ⟨h1, h2⟩ => ⟨?_, fun j hj => by rw [h2 j (List.mem_range.1 hj)]; simp⟩⟩
  by_cases h : 0 < k
  · right; have := h1 h; omega
  · left; omega
theorem upF_of {t : List File} (h : ∀ k, 0 < k → k < t.length → (t.getD (k - 1) default).Id < (t.getD k default).Id) : ∀ j k, j < k → k < t.length → (t.getD j default).Id < (t.getD k default).Id := by
  intro j k hj
  induction k with
  | zero => omega
  | succ k ih =>
    intro hk
    have h1 := h (k + 1) (by omega) hk
    rw [Nat.add_sub_cancel] at h1
    by_cases e : j = k
    · subst e; exact h1
    · exact Int.lt_trans (ih (by omega) (by omega)) h1
theorem filesOk_iff {l : List File} : filesOk l = true ↔ FilesP l := by
  unfold filesOk
  simp only [Bool.and_eq_true, Bool.not_eq_true', List.any_eq_false, List.mem_range, decide_eq_true_eq, Bool.not_eq_true]
  constructor
  · rintro ⟨h1, h2⟩
    have h3 := fun k hk => (badF_iff hk).1 (h1 k hk)
    exact ⟨by omega, fun k hk => (h3 k hk).1, upF_of fun k h0 hk => (h3 k hk).2.1 h0, fun j k hj hk => (h3 k hk).2.2 j hj⟩
  · rintro ⟨h1, h2, h3, h4⟩
    exact ⟨fun k hk => (badF_iff hk).2 ⟨h2 k hk, fun h0 => h3 _ _ (by omega) hk, fun j hj => h4 j k hj hk⟩, by omega⟩

/-! ### Places -/
def hasFi (t : List File) (i : Int) : Bool := t.any fun f => f.Id == i
def atFi (t : List File) (i : Int) : Int := firstAt (fun f : File => f.Id == i) t
theorem atFiI (t : List File) (i : Int) (hl : t.length < 1000000) : M.impl_fileAt t i = some (atFi t i) := by
  unfold M.impl_fileAt M.slices_IndexFunc_impl_File_impl_File
  have h := iter_first (step := M.slices_IndexFunc_impl_File_impl_File_l0 t (fun x0 => M.impl_fileAt_1 x0 i)) (fun f : File => f.Id == i) t (by omega) (fun k hk => by
    unfold M.slices_IndexFunc_impl_File_impl_File_l0 M.impl_fileAt_1
    simp (disch := first | omega | (intros; simp only [decide_eq_true_eq, decide_eq_false_iff_not, Bool.not_eq_true, Bool.not_eq_false, Bool.not_true, Bool.not_false] at *; omega)) only [cast_succ, asrt_pos, wrap64_id, Option.bind_some, cond_true, cond_false, decide_eq_true, decide_eq_false, Int.toNat_natCast, Bool.not_true, Bool.not_false, Bool.and_true, Bool.true_and, Bool.and_false, Bool.false_and, Bool.or_true, Bool.true_or, Bool.or_false, Bool.false_or, bif_some]) (by
    unfold M.slices_IndexFunc_impl_File_impl_File_l0
    simp (disch := first | omega | (intros; simp only [decide_eq_true_eq, decide_eq_false_iff_not, Bool.not_eq_true, Bool.not_eq_false, Bool.not_true, Bool.not_false] at *; omega)) only [cast_succ, asrt_pos, wrap64_id, Option.bind_some, cond_true, cond_false, decide_eq_true, decide_eq_false, Int.toNat_natCast, Bool.not_true, Bool.not_false, Bool.and_true, Bool.true_and, Bool.and_false, Bool.false_and, Bool.or_true, Bool.true_or, Bool.or_false, Bool.false_or])
  exact congrArg (fun q => q.bind fun y0 => some y0) h
theorem atFi_neg (t : List File) (i : Int) : decide (atFi t i < 0) = !hasFi t i := firstAt_neg
theorem atFi_ge (t : List File) (i : Int) : decide (atFi t i ≥ 0) = hasFi t i := firstAt_any
theorem atFi_spec {t : List File} {i : Int} (h : hasFi t i = true) : 0 ≤ atFi t i ∧ (atFi t i).toNat < t.length ∧ atFi t i < (t.length : Int) ∧ (t.getD (atFi t i).toNat default).Id = i := by
  obtain ⟨g0, g1, g2, g3⟩ := firstAt_at h
  exact ⟨g0, g1, g2, eq_of_beq g3⟩
theorem hasFi_at {t : List File} {k : Nat} (h : k < t.length) : hasFi t (t.getD k default).Id = true := List.any_eq_true.2 ⟨_, getD_mem h, beq_self_eq_true _⟩
theorem atFi_own {t : List File} (h : FilesP t) {k : Nat} (hk : k < t.length) : atFi t (t.getD k default).Id = (k : Int) := by
  obtain ⟨g0, g1, g2, g3⟩ := atFi_spec (hasFi_at hk)
  have : (atFi t (t.getD k default).Id).toNat = k := by
    rcases Nat.lt_trichotomy (atFi t (t.getD k default).Id).toNat k with q | q | q
    · have := h.up _ _ q hk; omega
    · exact q
    · have := h.up _ _ q g1; omega
  omega

def fileAtF (t : List File) (i : Int) : File := t.getD (atFi t i).toNat default
def inSt (t : List File) (i s : Int) : Bool := (filesOk t && hasFi t i) && ((fileAtF t i).State == s)
theorem inStI (t : List File) (i s : Int) (hl : FiB t) : M.impl_inState t i s = some (atFi t i, inSt t i s) := by
  unfold M.impl_inState inSt fileAtF
  rw [atFiI t i hl.1, Option.bind_some, filesI t hl, Option.bind_some, atFi_ge]
  rw [asrt_pos (fun h => by
    simp only [Bool.and_eq_true] at h
    obtain ⟨g0, g1, g2, g3⟩ := atFi_spec h.2
    exact ⟨g0, g2⟩)]

def findOk (t : List File) (i s : Int) : Bool := (filesOk t && hasFi t i) && (decide (s < 0) || ((fileAtF t i).State == s))
theorem findS (t : List File) (i s : Int) (hl : FiB t) : M.spec_l5Find t i s = some (bif findOk t i s then atFi t i else -1) := by
  have hlen := hl.1
  unfold M.spec_l5Find findOk
  cases hf : filesOk t
  · rw [iter_up (s := 0) (step := M.spec_l5Find_l0 t i s) (e := .inl ()) (fun k => (k : Int)) 0 rfl (by omega) (fun k hk => absurd hk (Nat.not_lt_zero _)) (by
      unfold M.spec_l5Find_l0
      dsimp only
      rw [filesS t hl, hf]
      cases decide (((0 : Nat) : Int) < (t.length : Int)) <;> rfl)]
    rfl
  · have hP := filesOk_iff.1 hf
    have hstep : ∀ k, k < t.length → M.spec_l5Find_l0 t i s (k : Int) = some (bif ((t.getD k default).Id == i) && (decide (s < 0) || ((t.getD k default).State == s)) then .inr (.inr (k : Int)) else .inl ((k : Int) + 1)) := fun k hk => by
      unfold M.spec_l5Find_l0
      dsimp only
      rw [decide_eq_true (show (k : Int) < (t.length : Int) by omega), cond_true, filesS t hl, hf, Option.bind_some, Bool.and_self, cond_true, asrt_pos ⟨by omega, by omega⟩, asrt_pos (fun _ _ => ⟨by omega, by omega⟩), Int.toNat_natCast, wrap64_id (by omega) (by omega), bif_some]
    have h := iter_first (step := M.spec_l5Find_l0 t i s) (fun f : File => (f.Id == i) && (decide (s < 0) || (f.State == s))) t (by omega) hstep (by
      unfold M.spec_l5Find_l0
      dsimp only
      rw [decide_eq_false (show ¬ (t.length : Int) < (t.length : Int) by omega)]
      rfl)
    refine h.trans ?_
    rw [Bool.true_and]
    congr 1
    cases hh : hasFi t i
    · rw [Bool.false_and, cond_false]
      refine firstAt_take_none.2 ?_
      rw [List.any_eq_false]
      intro x hx
      unfold hasFi at hh
      have := List.any_eq_false.1 hh x hx
      intro hc
      simp only [Bool.and_eq_true] at hc
      exact this hc.1
    · obtain ⟨g0, g1, g2, g3⟩ := atFi_spec hh
      rw [Bool.true_and]
      cases hs : (decide (s < 0) || ((fileAtF t i).State == s))
      · rw [cond_false]
        refine firstAt_take_none.2 ?_
        rw [any_getD, List.any_eq_false]
        intro k hk
        have hk := List.mem_range.1 hk
        intro hc
        simp only [Bool.and_eq_true] at hc
        have e1 := eq_of_beq hc.1
        have e2 := atFi_own hP hk
        rw [e1] at e2
        unfold fileAtF at hs
        rw [e2, Int.toNat_natCast, hc.2] at hs
        cases hs
      · rw [cond_true]
        obtain ⟨k, hk⟩ := Int.eq_ofNat_of_zero_le g0
        unfold fileAtF at hs
        rw [hk, Int.toNat_natCast] at g1 g3 hs
        rw [hk]
        refine firstAt_some g1 (fun j hj => ?_) ?_
        · have := hP.up j k hj g1
          rw [show ((t.getD j default).Id == i) = false by rw [beq_eq_false_iff_ne]; omega]; rfl
        · show (((t.getD k default).Id == i) && (decide (s < 0) || ((t.getD k default).State == s))) = true
          rw [show ((t.getD k default).Id == i) = true by rw [beq_iff_eq]; exact g3, hs]; rfl
theorem findOk_st {t : List File} {i s : Int} (h : 0 ≤ s) : findOk t i s = inSt t i s := by
  unfold findOk inSt
  rw [decide_eq_false (by omega), Bool.false_or]

/-! ### A file is put in place of another -/
theorem getD_setF {l : List File} {k j : Nat} {v : File} (hk : k < l.length) : (l.set k v).getD j default = if k = j then v else l.getD j default := by
  simp only [List.getD, List.getElem?_set]
  by_cases e : k = j
  · subst e; simp [hk]
  · simp [e]
theorem set_ok {l : List File} (h : FilesP l) {k : Nat} (hk : k < l.length) {f : File} (h1 : f.Id = (l.getD k default).Id) (h2 : f.Series = (l.getD k default).Series) (h3 : f.Title = (l.getD k default).Title) (h4 : fileOk f = true) : FilesP (l.set k f) := by
  refine ⟨by rw [List.length_set]; exact h.len, fun j hj => ?_, fun i j hij hj => ?_, fun i j hij hj => ?_⟩ <;> rw [List.length_set] at hj
  · rw [getD_setF hk]
    by_cases e : k = j
    · rw [if_pos e]; exact h4
    · rw [if_neg e]; exact h.ok j hj
  · have := h.up i j hij hj
    rw [getD_setF hk, getD_setF hk]
    by_cases e1 : k = i
    · subst e1; rw [if_pos rfl, if_neg (by omega), h1]; exact this
    · rw [if_neg e1]
      by_cases e2 : k = j
      · subst e2; rw [if_pos rfl, h1]; exact this
      · rw [if_neg e2]; exact this
  · have := h.one i j hij hj
    unfold twinL at this ⊢
    rw [getD_setF hk, getD_setF hk]
    by_cases e1 : k = i
    · subst e1; rw [if_pos rfl, if_neg (by omega), h2, h3]; exact this
    · rw [if_neg e1]
      by_cases e2 : k = j
      · subst e2; rw [if_pos rfl, h2, h3]; exact this
      · rw [if_neg e2]; exact this
def putFi (l : List File) (i : Int) (f : File) : List File := l.set (atFi l i).toNat f
theorem putFi_ok {l : List File} {i : Int} {f : File} (h : filesOk l = true) (hi : hasFi l i = true) (h1 : f.Id = (fileAtF l i).Id) (h2 : f.Series = (fileAtF l i).Series) (h3 : f.Title = (fileAtF l i).Title) (h4 : fileOk f = true) : filesOk (putFi l i f) = true ∧ hasFi (putFi l i f) i = true ∧ fileAtF (putFi l i f) i = f ∧ atFi (putFi l i f) i = atFi l i := by
  obtain ⟨g0, g1, g2, g3⟩ := atFi_spec hi
  have hP := set_ok (filesOk_iff.1 h) g1 h1 h2 h3 h4
  have hk : (atFi l i).toNat < (putFi l i f).length := by unfold putFi; rw [List.length_set]; exact g1
  have e : (putFi l i f).getD (atFi l i).toNat default = f := by unfold putFi; rw [getD_setF g1, if_pos rfl]
  have e0 : f.Id = i := by rw [h1]; exact g3
  have a1 := atFi_own hP hk
  have a2 := hasFi_at hk
  rw [show (l.set (atFi l i).toNat f) = putFi l i f from rfl] at a1
  rw [e, e0] at a1 a2
  refine ⟨filesOk_iff.2 hP, a2, ?_, by rw [a1]; omega⟩
  unfold fileAtF
  rw [a1, Int.toNat_natCast, e]
theorem putFi_b {l : List File} {i : Int} {f : File} (hl : FiB l) (hf : f.Title.length < 1000000) : FiB (putFi l i f) := by
  unfold putFi
  refine ⟨by rw [List.length_set]; exact hl.1, fun x hx => ?_⟩
  rcases List.mem_or_eq_of_mem_set hx with h | h
  · exact hl.2 x h
  · rw [h]; exact hf
theorem putFi_put {l : List File} {i : Int} {f g : File} (e : atFi (putFi l i f) i = atFi l i) : putFi (putFi l i f) i g = putFi l i g := by
  show (putFi l i f).set (atFi (putFi l i f) i).toNat g = _
  rw [e]
  unfold putFi
  rw [List.set_set]
theorem putFi_same {l : List File} {i : Int} (hi : hasFi l i = true) : putFi l i (fileAtF l i) = l := by
  obtain ⟨g0, g1, g2, g3⟩ := atFi_spec hi
  unfold putFi fileAtF
  rw [getD_el g1, List.set_getElem_self]
theorem withS (l : List File) (i : Int) (f : File) (hl : FiB l) (hi : hasFi l i = true) (hf : f.Title.length < 1000000) : M.spec_l5With l (atFi l i) f = some (bif filesOk (putFi l i f) then (putFi l i f, true) else ([], false)) := by
  obtain ⟨g0, g1, g2, g3⟩ := atFi_spec hi
  have hlen := hl.1
  have h := filesS _ (putFi_b (i := i) hl hf)
  unfold M.spec_l5With
  unfold putFi at h ⊢
  rw [List.nil_append, asrt_pos (by simp; omega), asrt_pos ⟨g0, g2⟩, h, Option.bind_some]
  cases filesOk (l.set (atFi l i).toNat f) <;> rfl

/-! ### Closing, opening, lending -/
def closeF (f : File) (d : Int) : File := ⟨f.Id, f.Series, f.Title, f.Opened, d, 1, f.Pages⟩
def openF (f : File) : File := ⟨f.Id, f.Series, f.Title, f.Opened, 0, 0, f.Pages⟩
def stateF (f : File) (s : Int) : File := ⟨f.Id, f.Series, f.Title, f.Opened, f.Closed, s, f.Pages⟩
theorem inSt_spec {l : List File} {i s : Int} (h : inSt l i s = true) : filesOk l = true ∧ hasFi l i = true ∧ (fileAtF l i).State = s ∧ fileOk (fileAtF l i) = true := by
  unfold inSt at h
  simp only [Bool.and_eq_true] at h
  exact ⟨h.1.1, h.1.2, eq_of_beq h.2, (filesOk_iff.1 h.1.1).ok _ (atFi_spec h.1.2).2.1⟩
theorem close_ok {f : File} {d : Int} (h : fileOk f = true) (hd : daysF f.Opened d = true) : fileOk (closeF f d) = true := by
  unfold fileOk at h ⊢
  rw [Bool.and_eq_true] at h ⊢
  refine ⟨h.1, ?_⟩
  show restF (closeF f d) = true
  unfold restF closeF
  simp only
  rw [hd]; rfl
theorem open_ok {f : File} (h : fileOk f = true) : fileOk (openF f) = true := by
  unfold fileOk at h ⊢
  rw [Bool.and_eq_true] at h ⊢
  exact ⟨h.1, rfl⟩
theorem state_ok {f : File} {s : Int} (h : fileOk f = true) (h0 : f.State ≠ 0) (hs : 1 ≤ s ∧ s ≤ 2) : fileOk (stateF f s) = true := by
  unfold fileOk at h ⊢
  rw [Bool.and_eq_true] at h ⊢
  refine ⟨h.1, ?_⟩
  have h2 := h.2
  unfold restF stateF at *
  simp only at h2 ⊢
  rw [show (f.State == 0) = false by rw [beq_eq_false_iff_ne]; exact h0, cond_false, Bool.and_eq_true] at h2
  rw [show (s == 0) = false by rw [beq_eq_false_iff_ne]; omega, cond_false, Bool.and_eq_true, inR_true]
  exact ⟨hs, h2.2⟩

def CloseD (l : List File) (i d : Int) : List File × Bool := bif inSt l i 0 && (decide (1 ≤ d) && daysF (fileAtF l i).Opened d) then (putFi l i (closeF (fileAtF l i) d), true) else ([], false)
theorem closeI (l : List File) (i d : Int) (hl : FiB l) : M.impl_CloseFile l i d = some (CloseD l i d) := by
  have hlen := hl.1
  unfold M.impl_CloseFile CloseD M.slices_Clone_impl_File_impl_File
  rw [inStI l i 0 hl, Option.bind_some, show decide (d < 1) = !decide (1 ≤ d) by rw [Bool.eq_iff_iff]; simp]
  dsimp only
  cases h : inSt l i 0
  · rw [asrt_pos (fun h => by simp at h)]; rfl
  obtain ⟨s1, s2, s3, s4⟩ := inSt_spec h
  obtain ⟨g0, g1, g2, g3⟩ := atFi_spec s2
  rw [asrt_pos (fun _ => ⟨g0, g2⟩)]
  cases hd : decide (1 ≤ d)
  · rfl
  rw [Bool.not_true, Bool.or_self, cond_false, areDaysF, Option.bind_some, show l.getD (atFi l i).toNat default = fileAtF l i from rfl]
  cases daysF (fileAtF l i).Opened d
  · rfl
  rw [Bool.not_true, Bool.or_self, cond_false, asrt_pos (by omega), Option.bind_some, asrt_pos ⟨g0, g2⟩, asrt_pos ⟨g0, by rw [List.length_set]; exact g2⟩]
  rfl
theorem closeS (l : List File) (i d : Int) (hl : FiB l) : M.spec_CloseFile l i d = some (CloseD l i d) := by
  have hlen := hl.1
  unfold M.spec_CloseFile CloseD
  rw [findS l i 0 hl, Option.bind_some, findOk_st (Int.le_refl _), show decide (d < 1) = !decide (1 ≤ d) by rw [Bool.eq_iff_iff]; simp]
  cases h : inSt l i 0
  · rfl
  obtain ⟨s1, s2, s3, s4⟩ := inSt_spec h
  obtain ⟨g0, g1, g2, g3⟩ := atFi_spec s2
  rw [cond_true, decide_eq_false (by omega)]
  cases hd : decide (1 ≤ d)
  · rfl
  rw [Bool.not_true, Bool.or_self, cond_false, asrt_pos ⟨g0, g2⟩, show l.getD (atFi l i).toNat default = fileAtF l i from rfl]
  have hb : (closeF (fileAtF l i) d).Title.length < 1000000 := (hl.2 _ (getD_mem g1) : (l.getD (atFi l i).toNat default).Title.length < 1000000)
  have hw := withS l i (closeF (fileAtF l i) d) hl s2 hb
  rw [show (⟨(fileAtF l i).Id, (fileAtF l i).Series, (fileAtF l i).Title, (fileAtF l i).Opened, d, 1, (fileAtF l i).Pages⟩ : File) = closeF (fileAtF l i) d from rfl, hw, Option.bind_some]
  cases hq : daysF (fileAtF l i).Opened d
  · have : filesOk (putFi l i (closeF (fileAtF l i) d)) = false := by
      rw [← Bool.not_eq_true]
      intro hh
      have h2 := (filesOk_iff.1 hh).ok (atFi l i).toNat (by unfold putFi; rw [List.length_set]; exact g1)
      unfold putFi at h2
      rw [getD_setF g1, if_pos rfl] at h2
      obtain ⟨a1, a2, a3, a4, a5, a6⟩ := fileOk_spec h2
      unfold closeF at a4 a6
      simp only at a4 a6
      have : daysF (fileAtF l i).Opened d = true := by
        unfold daysF
        simp only [Bool.and_eq_true, inR_true, decide_eq_true_eq]
        omega
      rw [this] at hq
      cases hq
    rw [this]; rfl
  · rw [(putFi_ok s1 s2 (f := closeF (fileAtF l i) d) rfl rfl rfl (close_ok s4 hq)).1]; rfl

def OpenD (l : List File) (i : Int) : List File × Bool := bif inSt l i 1 then (putFi l i (openF (fileAtF l i)), true) else ([], false)
theorem reopenI (l : List File) (i : Int) (hl : FiB l) : M.impl_ReopenFile l i = some (OpenD l i) := by
  have hlen := hl.1
  unfold M.impl_ReopenFile OpenD M.slices_Clone_impl_File_impl_File
  rw [inStI l i 1 hl, Option.bind_some]
  dsimp only
  cases h : inSt l i 1
  · rfl
  obtain ⟨s1, s2, s3, s4⟩ := inSt_spec h
  obtain ⟨g0, g1, g2, g3⟩ := atFi_spec s2
  rw [Bool.not_true, cond_false, asrt_pos (by omega), Option.bind_some, asrt_pos ⟨g0, g2⟩, asrt_pos ⟨g0, by rw [List.length_set]; exact g2⟩]
  rfl
theorem reopenS (l : List File) (i : Int) (hl : FiB l) : M.spec_ReopenFile l i = some (OpenD l i) := by
  have hlen := hl.1
  unfold M.spec_ReopenFile OpenD
  rw [findS l i 1 hl, Option.bind_some, findOk_st (by omega)]
  cases h : inSt l i 1
  · rfl
  obtain ⟨s1, s2, s3, s4⟩ := inSt_spec h
  obtain ⟨g0, g1, g2, g3⟩ := atFi_spec s2
  rw [cond_true, decide_eq_false (by omega), cond_false, asrt_pos ⟨g0, g2⟩, show l.getD (atFi l i).toNat default = fileAtF l i from rfl]
  have hb : (openF (fileAtF l i)).Title.length < 1000000 := (hl.2 _ (getD_mem g1) : (l.getD (atFi l i).toNat default).Title.length < 1000000)
  have hw := withS l i (openF (fileAtF l i)) hl s2 hb
  rw [show (⟨(fileAtF l i).Id, (fileAtF l i).Series, (fileAtF l i).Title, (fileAtF l i).Opened, 0, 0, (fileAtF l i).Pages⟩ : File) = openF (fileAtF l i) from rfl, hw, Option.bind_some]
  rw [(putFi_ok s1 s2 (f := openF (fileAtF l i)) rfl rfl rfl (open_ok s4)).1]
  try rfl

def fromL (b : Bool) : Int := bif b then 2 else 1
def toL (b : Bool) : Int := bif b then 1 else 2
def LendD (l : List File) (i : Int) (b : Bool) : List File × Bool := bif inSt l i (fromL b) then (putFi l i (stateF (fileAtF l i) (toL b)), true) else ([], false)
theorem lendSt {l : List File} {i : Int} {b : Bool} (h : inSt l i (fromL b) = true) : fileOk (stateF (fileAtF l i) (toL b)) = true := by
  obtain ⟨s1, s2, s3, s4⟩ := inSt_spec h
  refine state_ok s4 ?_ ?_ <;> cases b <;> simp only [fromL, toL, cond_true, cond_false] at * <;> omega
theorem lendI (l : List File) (i : Int) (b : Bool) (hl : FiB l) : M.impl_LendFile l i b = some (LendD l i b) := by
  have hlen := hl.1
  have e : (bif b then some ((2 : Int), (1 : Int)) else some ((1 : Int), (2 : Int))) = some (fromL b, toL b) := by cases b <;> rfl
  unfold M.impl_LendFile LendD M.slices_Clone_impl_File_impl_File
  rw [e, Option.bind_some]
  dsimp only
  rw [inStI l i _ hl, Option.bind_some]
  dsimp only
  cases h : inSt l i (fromL b)
  · rfl
  obtain ⟨s1, s2, s3, s4⟩ := inSt_spec h
  obtain ⟨g0, g1, g2, g3⟩ := atFi_spec s2
  rw [Bool.not_true, cond_false, asrt_pos (by omega), Option.bind_some, asrt_pos ⟨g0, g2⟩]
  rfl
theorem lendS (l : List File) (i : Int) (b : Bool) (hl : FiB l) : M.spec_LendFile l i b = some (LendD l i b) := by
  have hlen := hl.1
  have e : (bif b then some ((2 : Int), (1 : Int)) else some ((1 : Int), (2 : Int))) = some (fromL b, toL b) := by cases b <;> rfl
  unfold M.spec_LendFile LendD
  rw [e, Option.bind_some]
  dsimp only
  rw [findS l i _ hl, Option.bind_some, findOk_st (by cases b <;> decide)]
  cases h : inSt l i (fromL b)
  · rfl
  obtain ⟨s1, s2, s3, s4⟩ := inSt_spec h
  obtain ⟨g0, g1, g2, g3⟩ := atFi_spec s2
  rw [cond_true, decide_eq_false (by omega), cond_false, asrt_pos ⟨g0, g2⟩, show l.getD (atFi l i).toNat default = fileAtF l i from rfl]
  have hb : (stateF (fileAtF l i) (toL b)).Title.length < 1000000 := (hl.2 _ (getD_mem g1) : (l.getD (atFi l i).toNat default).Title.length < 1000000)
  have hw := withS l i (stateF (fileAtF l i) (toL b)) hl s2 hb
  rw [show (⟨(fileAtF l i).Id, (fileAtF l i).Series, (fileAtF l i).Title, (fileAtF l i).Opened, (fileAtF l i).Closed, toL b, (fileAtF l i).Pages⟩ : File) = stateF (fileAtF l i) (toL b) from rfl, hw, Option.bind_some]
  rw [(putFi_ok s1 s2 (f := stateF (fileAtF l i) (toL b)) rfl rfl rfl (lendSt h)).1]
  try rfl

/-! ### Days open -/
def lastDay (f : File) (d : Int) : Int := bif f.State != 0 then (bif decide (f.Closed < d) then f.Closed else d) else d
def DaysD (l : List File) (i d : Int) : Int × Bool := bif (filesOk l && hasFi l i) && daysF (fileAtF l i).Opened d then (lastDay (fileAtF l i) d - (fileAtF l i).Opened + 1, true) else (0, false)
theorem last_bd {f : File} {d : Int} (h : fileOk f = true) (hd : daysF f.Opened d = true) : f.Opened ≤ lastDay f d ∧ lastDay f d ≤ 20000 ∧ 0 ≤ f.Opened := by
  obtain ⟨a1, a2, a3, a4, a5, a6⟩ := fileOk_spec h
  unfold daysF at hd
  simp only [Bool.and_eq_true, inR_true, decide_eq_true_eq] at hd
  unfold lastDay
  cases hs : f.State != 0
  · simp only [cond_false]; omega
  · rw [bne_iff_ne] at hs
    simp only [cond_true]
    cases hc : decide (f.Closed < d)
    · simp only [cond_false]; omega
    · simp only [decide_eq_true_eq] at hc
      simp only [cond_true]; omega
theorem daysOI (l : List File) (i d : Int) (hl : FiB l) : M.impl_DaysOpen l i d = some (DaysD l i d) := by
  unfold M.impl_DaysOpen DaysD
  rw [atFiI l i hl.1, Option.bind_some, filesI l hl, Option.bind_some, atFi_neg]
  cases h : filesOk l
  · rw [asrt_pos (fun h => by simp at h)]; rfl
  cases h2 : hasFi l i
  · rw [asrt_pos (fun h => by simp at h)]; rfl
  obtain ⟨g0, g1, g2, g3⟩ := atFi_spec h2
  have s4 := (filesOk_iff.1 h).ok _ g1
  rw [asrt_pos (fun _ => ⟨g0, g2⟩), Bool.not_true, Bool.or_self, cond_false, areDaysF, Option.bind_some, show l.getD (atFi l i).toNat default = fileAtF l i from rfl, Bool.and_self, Bool.true_and]
  rw [show l.getD (atFi l i).toNat default = fileAtF l i from rfl] at s4
  cases hd : daysF (fileAtF l i).Opened d
  · rfl
  have hb := last_bd s4 hd
  rw [Bool.not_true, Bool.or_self, cond_false, asrt_pos ⟨g0, g2⟩, asrt_pos ⟨g0, g2⟩, bif_some, Option.bind_some]
  dsimp only
  rw [asrt_pos ⟨g0, g2⟩, show (bif (fileAtF l i).State != 0 then (bif decide ((fileAtF l i).Closed < d) then (fileAtF l i).Closed else d) else d) = lastDay (fileAtF l i) d from rfl]
  rw [wrap64_id (n := lastDay (fileAtF l i) d - (fileAtF l i).Opened) (by omega) (by omega), wrap64_id (by omega) (by omega)]
  rfl
theorem daysOS (l : List File) (i d : Int) (hl : FiB l) : M.spec_DaysOpen l i d = some (DaysD l i d) := by
  unfold M.spec_DaysOpen DaysD
  rw [findS l i (-1) hl, Option.bind_some]
  unfold findOk
  rw [show decide ((-1 : Int) < 0) = true by decide, Bool.true_or, Bool.and_true]
  cases h : filesOk l
  · rfl
  cases h2 : hasFi l i
  · rfl
  obtain ⟨g0, g1, g2, g3⟩ := atFi_spec h2
  have s4 := (filesOk_iff.1 h).ok _ g1
  rw [show l.getD (atFi l i).toNat default = fileAtF l i from rfl] at s4
  have a4 := (fileOk_spec s4).2.2.2.1
  rw [Bool.and_self, cond_true, decide_eq_false (by omega), cond_false, l2DayS, Option.bind_some, asrt_pos (fun _ => ⟨g0, g2⟩), show l.getD (atFi l i).toNat default = fileAtF l i from rfl, Bool.true_and]
  have e : ((false || !inR d 0 20000) || decide (d < (fileAtF l i).Opened)) = !daysF (fileAtF l i).Opened d := by
    unfold daysF
    have : inR (fileAtF l i).Opened 0 20000 = true := by rw [inR_true]; exact a4
    rw [this, Bool.eq_iff_iff]
    simp
  rw [e]
  cases hd : daysF (fileAtF l i).Opened d
  · rfl
  have hb := last_bd s4 hd
  have hm : M.spec_l1Least d (fileAtF l i).Closed = some (bif decide ((fileAtF l i).Closed < d) then (fileAtF l i).Closed else d) := by
    unfold M.spec_l1Least
    cases hc : decide ((fileAtF l i).Closed < d)
    · simp only [decide_eq_false_iff_not] at hc
      by_cases hq : d < (fileAtF l i).Closed
      · simp [hq]
      · have : d = (fileAtF l i).Closed := by omega
        simp [this]
    · simp only [decide_eq_true_eq] at hc
      simp [show ¬ d < (fileAtF l i).Closed by omega]
  rw [Bool.not_true, cond_false, asrt_pos ⟨g0, g2⟩, asrt_pos ⟨g0, g2⟩, hm, Option.bind_some, bif_some, Option.bind_some]
  dsimp only
  rw [asrt_pos ⟨g0, g2⟩, show (bif (fileAtF l i).State != 0 then (bif decide ((fileAtF l i).Closed < d) then (fileAtF l i).Closed else d) else d) = lastDay (fileAtF l i) d from rfl]
  rw [wrap64_id (n := lastDay (fileAtF l i) d - (fileAtF l i).Opened) (by omega) (by omega), wrap64_id (by omega) (by omega)]
  rfl
theorem days_pos {l : List File} {i d : Int} (h : (DaysD l i d).2 = true) : ¬ (DaysD l i d).1 < 1 := by
  unfold DaysD at *
  cases h1 : (filesOk l && hasFi l i) && daysF (fileAtF l i).Opened d
  · rw [h1] at h; cases h
  · simp only [Bool.and_eq_true] at h1
    have := last_bd ((filesOk_iff.1 h1.1.1).ok _ (atFi_spec h1.1.2).2.1) h1.2
    rw [cond_true]
    simp only
    show ¬ lastDay (fileAtF l i) d - (fileAtF l i).Opened + 1 < 1
    unfold fileAtF at *
    omega
end Go.Proofs.YthfndefhmmfjaaaDoor
