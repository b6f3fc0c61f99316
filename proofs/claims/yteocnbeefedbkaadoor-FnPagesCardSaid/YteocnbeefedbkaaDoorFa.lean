/-
  Files: validity, places, files changed, files closed on days. Plain.
-/
import Derived.Test.YteocnbeefedbkaaDoorWo
set_option linter.unusedSimpArgs false
set_option linter.unusedVariables false
namespace Go.Proofs.YteocnbeefedbkaaDoor
open Go.VS

def daysF (a b : Int) : Bool := (inR a 0 20000 && inR b 0 20000) && decide (a ≤ b)
theorem areDaysF (a b : Int) : M.impl_areDays a b = some (daysF a b) := by
  unfold M.impl_areDays daysF
  simp only [isDayI, Option.bind_some, bif_some]
  cases inR a 0 20000 <;> rfl
def restF (f : File) : Bool := bif f.State == 0 then f.Closed == 0 else inR f.State 1 2 && daysF f.Opened f.Closed
def fileOk (f : File) : Bool := ((((inR f.Id 1 999 && inR f.Series 1 99) && wordOk f.Title) && inR f.Opened 0 20000) && inR f.Pages 0 5000) && restF f
theorem fileI (f : File) (hx : f.Title.length < 1000000) : M.impl_IsFile f = some (fileOk f) := by
  unfold M.impl_IsFile fileOk restF
  simp only [withinI, isIdI, wordI _ hx, isDayI, areDaysF, Option.bind_some, bif_some]
  cases inR f.Id 1 999 <;> cases inR f.Series 1 99 <;> cases wordOk f.Title <;> cases inR f.Opened 0 20000 <;> cases inR f.Pages 0 5000 <;> cases (f.State == 0) <;> cases inR f.State 1 2 <;> rfl
theorem fileS (f : File) (hx : f.Title.length < 1000000) : M.spec_l5One f = some (fileOk f) := by
  have e : (inR f.State 0 2 && restF f) = (bif f.State == 0 then f.Closed == 0 else inR f.State 0 2 && daysF f.Opened f.Closed) := by
    unfold restF
    cases h : f.State == 0
    · have : inR f.State 1 2 = inR f.State 0 2 := by
        rw [beq_eq_false_iff_ne] at h
        rw [Bool.eq_iff_iff, inR_true, inR_true]; omega
      rw [this]
      cases inR f.State 0 2 <;> rfl
    · have : inR f.State 0 2 = true := by rw [beq_iff_eq] at h; rw [inR_true]; omega
      rw [this]; rfl
  have e2 : fileOk f = (((((inR f.Id 1 999 && inR f.Series 1 99) && wordOk f.Title) && inR f.Opened 0 20000) && inR f.Pages 0 5000) && (inR f.State 0 2 && restF f)) := by
    unfold fileOk restF
    cases h : f.State == 0
    · cases h2 : inR f.State 1 2
      · simp
      · have : inR f.State 0 2 = true := by rw [inR_true] at h2; rw [inR_true]; omega
        rw [this]; rfl
    · have : inR f.State 0 2 = true := by rw [beq_iff_eq] at h; rw [inR_true]; omega
      rw [this]; rfl
  rw [e2, e]
  unfold M.spec_l5One daysF
  simp only [l1InS, wordS _ hx, l2DayS, Option.bind_some, bif_some]
  rw [show decide (f.Closed ≥ f.Opened) = decide (f.Opened ≤ f.Closed) from rfl]
  have hz : (f.State == 0) = true → inR f.State 0 2 = true := fun h => by rw [beq_iff_eq] at h; rw [inR_true]; omega
  cases inR f.Id 1 999 <;> cases inR f.Series 1 99 <;> cases wordOk f.Title <;> cases inR f.Opened 0 20000 <;> cases h1 : inR f.State 0 2 <;> cases inR f.Pages 0 5000 <;> cases h2 : (f.State == 0) <;> cases inR f.Closed 0 20000 <;> first | rfl | (rw [hz h2] at h1; cases h1)

theorem fileOk_spec {f : File} (h : fileOk f = true) : (1 ≤ f.Id ∧ f.Id ≤ 999) ∧ (1 ≤ f.Series ∧ f.Series ≤ 99) ∧ wordOk f.Title = true ∧ (0 ≤ f.Opened ∧ f.Opened ≤ 20000) ∧ (0 ≤ f.Pages ∧ f.Pages ≤ 5000) ∧ ((f.State = 0 ∧ f.Closed = 0) ∨ ((1 ≤ f.State ∧ f.State ≤ 2) ∧ f.Opened ≤ f.Closed ∧ f.Closed ≤ 20000)) := by
  unfold fileOk restF daysF at h
  simp only [Bool.and_eq_true, inR_true] at h
  obtain ⟨⟨⟨⟨⟨h1, h2⟩, h3⟩, h4⟩, h5⟩, h6⟩ := h
  refine ⟨h1, h2, h3, h4, h5, ?_⟩
  cases hs : f.State == 0
  · rw [hs] at h6
    simp only [cond_false, Bool.and_eq_true, inR_true, decide_eq_true_eq] at h6
    exact .inr ⟨h6.1, h6.2.2, h6.2.1.2.2⟩
  · rw [hs] at h6
    simp only [cond_true, beq_iff_eq] at h6 hs
    exact .inl ⟨hs, h6⟩

def twinL (f g : File) : Bool := (g.Series == f.Series) && (g.Title == f.Title)
theorem slcF {β : Type} (l : List β) (k : Nat) : slc l 0 (k : Int) = l.take k := by simp [slc]
def badF (l : List File) (k : Nat) : Bool := (!fileOk (l.getD k default) || (decide ((k : Int) > 0) && decide ((l.getD (k - 1) default).Id ≥ (l.getD k default).Id))) || (l.take k).any (twinL (l.getD k default))
def FiB (l : List File) : Prop := l.length < 1000000 ∧ ∀ x ∈ l, x.Title.length < 1000000
def filesOk (l : List File) : Bool := !(List.range l.length).any (badF l) && decide ((l.length : Int) ≤ 10)

theorem contFi (t : List File) (p : File → Bool) (fm : File → Option Bool) (hfm : ∀ x ∈ t, fm x = some (p x)) (hl : t.length < 1000000) : M.slices_ContainsFunc_impl_File_impl_File t fm = some (t.any p) := by
  unfold M.slices_ContainsFunc_impl_File_impl_File M.slices_IndexFunc_impl_File_impl_File
  have h := iter_first (step := M.slices_IndexFunc_impl_File_impl_File_l0 t fm) p t (by omega) (fun k hk => by
    have := hfm _ (getD_mem hk)
    unfold M.slices_IndexFunc_impl_File_impl_File_l0
    simp (disch := first | omega | (intros; simp only [decide_eq_true_eq, decide_eq_false_iff_not, Bool.not_eq_true, Bool.not_eq_false, Bool.not_true, Bool.not_false] at *; omega)) only [cast_succ, asrt_pos, wrap64_id, Option.bind_some, cond_true, cond_false, decide_eq_true, decide_eq_false, Int.toNat_natCast, Bool.not_true, Bool.not_false, Bool.and_true, Bool.true_and, Bool.and_false, Bool.false_and, Bool.or_true, Bool.true_or, Bool.or_false, Bool.false_or, bif_some, this]) (by
    unfold M.slices_IndexFunc_impl_File_impl_File_l0
    simp (disch := first | omega | (intros; simp only [decide_eq_true_eq, decide_eq_false_iff_not, Bool.not_eq_true, Bool.not_eq_false, Bool.not_true, Bool.not_false] at *; omega)) only [cast_succ, asrt_pos, wrap64_id, Option.bind_some, cond_true, cond_false, decide_eq_true, decide_eq_false, Int.toNat_natCast, Bool.not_true, Bool.not_false, Bool.and_true, Bool.true_and, Bool.and_false, Bool.false_and, Bool.or_true, Bool.true_or, Bool.or_false, Bool.false_or])
  refine (congrArg (fun q => q.bind fun y0 => some (decide (y0 ≥ 0))) h).trans ?_
  rw [Option.bind_some, firstAt_any]

theorem filesI (l : List File) (hl : FiB l) : M.impl_AreFiles l = some (filesOk l) := by
  have := hl.1
  unfold M.impl_AreFiles
  rw [iter_rise (n := l.length) (bad := badF l) (by omega) (fun k hk => by
    have h1 := fileI (l.getD k default) (hl.2 _ (getD_mem hk))
    have h3 := contFi (l.take k) (twinL (l.getD k default)) (fun x0 => M.impl_AreFiles_1 x0 (l.getD k default)) (fun x _ => rfl) (by rw [List.length_take]; omega)
    unfold M.impl_AreFiles_l0 badF
    dsimp only
    rw [decide_eq_true (show (k : Int) < (l.length : Int) by omega), cond_true, asrt_pos ⟨by omega, by omega⟩, Int.toNat_natCast, h1, Option.bind_some]
    rw [asrt_pos (fun _ h => by
      simp only [decide_eq_true_eq] at h
      rw [wrap64_id (by omega) (by omega)]
      exact ⟨by omega, by omega⟩)]
    have e1 : (decide ((k : Int) > 0) && decide ((l.getD (IntKind.i64.wrap ((k : Int) - 1)).toNat default).Id ≥ (l.getD k default).Id)) = (decide ((k : Int) > 0) && decide ((l.getD (k - 1) default).Id ≥ (l.getD k default).Id)) := by
      rw [wrap64_id (by omega) (by omega), toNat_pred]
    rw [e1]
    cases hA : (!fileOk (l.getD k default) || (decide ((k : Int) > 0) && decide ((l.getD (k - 1) default).Id ≥ (l.getD k default).Id)))
    · rw [cond_false, asrt_pos ⟨by omega, by omega, by omega⟩, slcF, h3, Option.bind_some, bif_some, Bool.false_or]
      rw [wrap64_id (by omega) (by omega)]
    · rfl) (by
    unfold M.impl_AreFiles_l0
    simp (disch := first | omega | (intros; simp only [decide_eq_true_eq, decide_eq_false_iff_not, Bool.not_eq_true, Bool.not_eq_false, Bool.not_true, Bool.not_false] at *; omega)) only [cast_succ, asrt_pos, wrap64_id, Option.bind_some, cond_true, cond_false, decide_eq_true, decide_eq_false, Int.toNat_natCast, Bool.not_true, Bool.not_false, Bool.and_true, Bool.true_and, Bool.and_false, Bool.false_and, Bool.or_true, Bool.true_or, Bool.or_false, Bool.false_or])]
  unfold filesOk
  cases (List.range l.length).any (badF l) <;> rfl

theorem any_takeF {t : List File} {p : File → Bool} {k : Nat} (h : k ≤ t.length) : (t.take k).any p = (List.range k).any fun j => p (t.getD j default) := by
  rw [any_getD, List.length_take, Nat.min_eq_left h, Bool.eq_iff_iff, List.any_eq_true, List.any_eq_true]
  have e : ∀ j, j < k → (t.take k).getD j default = t.getD j default := fun j hj => by simp [List.getD, List.getElem?_take, hj]
  constructor
  · rintro ⟨j, hj, h⟩
    have := List.mem_range.1 hj
    exact ⟨j, hj, by rwa [e j this] at h⟩
  · rintro ⟨j, hj, h⟩
    have := List.mem_range.1 hj
    exact ⟨j, hj, by rwa [e j this]⟩

theorem goodInF (t : List File) (k : Nat) (hl : t.length < 1000000) (hk : k < t.length) : iterO (M.spec_l5Good_l1 t (k : Int)) 0 = some (bif (t.take k).any (twinL (t.getD k default)) then .inr false else .inl ()) := by
  rw [any_takeF (Nat.le_of_lt hk)]
  refine iter_rise (n := k) (by omega) (fun j hj => ?_) ?_
  · have hj' : (j : Int) < (k : Int) := by omega
    unfold M.spec_l5Good_l1
    dsimp only
    rw [decide_eq_true hj', cond_true, asrt_pos ⟨by omega, by omega⟩, asrt_pos ⟨by omega, by omega⟩, asrt_pos (fun _ => ⟨by omega, by omega⟩), asrt_pos (fun _ => ⟨by omega, by omega⟩), Int.toNat_natCast, Int.toNat_natCast, wrap64_id (by omega) (by omega), bif_some]
    rfl
  · unfold M.spec_l5Good_l1
    dsimp only
    rw [decide_eq_false (by omega)]
    rfl

theorem filesS (l : List File) (hl : FiB l) : M.spec_l5Good l = some (filesOk l) := by
  have := hl.1
  have key : M.spec_l5Good l = some (!(List.range (min l.length 11)).any (badF l) && decide ((l.length : Int) ≤ 10)) := by
    unfold M.spec_l5Good
    rw [iter_rise (n := min l.length 11) (bad := badF l) (by omega) (fun k hk => by
      have hk1 : k < l.length := by omega
      have h1 := fileS (l.getD k default) (hl.2 _ (getD_mem hk1))
      have h3 := goodInF l k (by omega) hk1
      unfold M.spec_l5Good_l0 badF
      dsimp only
      rw [decide_eq_true (show (k : Int) < (l.length : Int) by omega), decide_eq_true (show (k : Int) ≤ 10 by omega), Bool.and_self, cond_true, asrt_pos ⟨by omega, by omega⟩, Int.toNat_natCast, h1, Option.bind_some]
      rw [asrt_pos (fun _ h => by
        simp only [decide_eq_true_eq] at h
        rw [wrap64_id (by omega) (by omega)]
        exact ⟨by omega, by omega⟩), asrt_pos (fun _ h => ⟨by omega, by omega⟩)]
      have e1 : (decide ((k : Int) > 0) && decide ((l.getD (IntKind.i64.wrap ((k : Int) - 1)).toNat default).Id ≥ (l.getD k default).Id)) = (decide ((k : Int) > 0) && decide ((l.getD (k - 1) default).Id ≥ (l.getD k default).Id)) := by
        rw [wrap64_id (by omega) (by omega), toNat_pred]
      rw [e1]
      cases hA : (!fileOk (l.getD k default) || (decide ((k : Int) > 0) && decide ((l.getD (k - 1) default).Id ≥ (l.getD k default).Id)))
      · rw [cond_false, h3, Bool.false_or]
        cases (l.take k).any (twinL (l.getD k default))
        · rw [cond_false, cond_false, Option.bind_some]
          dsimp only
          rw [wrap64_id (by omega) (by omega)]
        · rfl
      · rfl) (by
      unfold M.spec_l5Good_l0
      dsimp only
      rcases Nat.le_total l.length 11 with h | h
      · rw [Nat.min_eq_left h, decide_eq_false (show ¬ (l.length : Int) < (l.length : Int) by omega), Bool.false_and]
        rfl
      · rw [Nat.min_eq_right h, show decide (((11 : Nat) : Int) ≤ 10) = false by decide, Bool.and_false]
        rfl)]
    cases (List.range (min l.length 11)).any (badF l) <;> rfl
  rw [key]
  unfold filesOk
  by_cases hn : l.length ≤ 10
  · rw [Nat.min_eq_left (by omega)]
  · rw [decide_eq_false (show ¬ (l.length : Int) ≤ 10 by omega), Bool.and_false, Bool.and_false]

structure FilesP (l : List File) : Prop where
  len : l.length ≤ 10
  ok : ∀ k, k < l.length → fileOk (l.getD k default) = true
  up : ∀ j k, j < k → k < l.length → (l.getD j default).Id < (l.getD k default).Id
  one : ∀ j k, j < k → k < l.length → twinL (l.getD k default) (l.getD j default) = false

theorem badF_iff {l : List File} {k : Nat} (hk : k < l.length) : badF l k = false ↔ fileOk (l.getD k default) = true ∧ (0 < k → (l.getD (k - 1) default).Id < (l.getD k default).Id) ∧ ∀ j, j < k → twinL (l.getD k default) (l.getD j default) = false := by
  unfold badF
  rw [Bool.or_eq_false_iff, Bool.or_eq_false_iff, Bool.not_eq_false', Bool.and_eq_false_iff, decide_eq_false_iff_not, decide_eq_false_iff_not, any_takeF (Nat.le_of_lt hk), List.any_eq_false, and_assoc]
  refine and_congr_right fun _ => ⟨fun ⟨h1, h2⟩ => ⟨fun h => by omega, fun j hj => by have := h2 j (List.mem_range.2 hj); simpa using this⟩, fun ⟨h1, h2⟩ => ⟨?_, fun j hj => by rw [h2 j (List.mem_range.1 hj)]; simp⟩⟩
  by_cases h : 0 < k
  · right; have := h1 h; omega
  · left; omega
theorem upF_of {t : List File} (h : ∀ k, 0 < k → k < t.length → (t.getD (k - 1) default).Id < (t.getD k default).Id) : ∀ j k, j < k → k < t.length → (t.getD j default).Id < (t.getD k default).Id := by
  intro j k hj
  induction k with
  | zero => omega
  | succ k ih =>
    intro hk
    have h1 := h (k + 1) (by omega) hk
    rw [Nat.add_sub_cancel] at h1
    by_cases e : j = k
    · subst e; exact h1
    · exact Int.lt_trans (ih (by omega) (by omega)) h1
theorem filesOk_iff {l : List File} : filesOk l = true ↔ FilesP l := by
  unfold filesOk
  simp only [Bool.and_eq_true, Bool.not_eq_true', List.any_eq_false, List.mem_range, decide_eq_true_eq, Bool.not_eq_true]
  constructor
  · rintro ⟨h1, h2⟩
    have h3 := fun k hk => (badF_iff hk).1 (h1 k hk)
    exact ⟨by omega, fun k hk => (h3 k hk).1, upF_of fun k h0 hk => (h3 k hk).2.1 h0, fun j k hj hk => (h3 k hk).2.2 j hj⟩
  · rintro ⟨h1, h2, h3, h4⟩
    exact ⟨fun k hk => (badF_iff hk).2 ⟨h2 k hk, fun h0 => h3 _ _ (by omega) hk, fun j hj => h4 j k hj hk⟩, by omega⟩

def hasFi (t : List File) (i : Int) : Bool := t.any fun f => f.Id == i
def atFi (t : List File) (i : Int) : Int := firstAt (fun f : File => f.Id == i) t
theorem atFiI (t : List File) (i : Int) (hl : t.length < 1000000) : M.impl_fileAt t i = some (atFi t i) := by
  unfold M.impl_fileAt M.slices_IndexFunc_impl_File_impl_File
  have h := iter_first (step := M.slices_IndexFunc_impl_File_impl_File_l0 t (fun x0 => M.impl_fileAt_1 x0 i)) (fun f : File => f.Id == i) t (by omega) (fun k hk => by
    unfold M.slices_IndexFunc_impl_File_impl_File_l0 M.impl_fileAt_1
    simp (disch := first | omega | (intros; simp only [decide_eq_true_eq, decide_eq_false_iff_not, Bool.not_eq_true, Bool.not_eq_false, Bool.not_true, Bool.not_false] at *; omega)) only [cast_succ, asrt_pos, wrap64_id, Option.bind_some, cond_true, cond_false, decide_eq_true, decide_eq_false, Int.toNat_natCast, Bool.not_true, Bool.not_false, Bool.and_true, Bool.true_and, Bool.and_false, Bool.false_and, Bool.or_true, Bool.true_or, Bool.or_false, Bool.false_or, bif_some]) (by
    unfold M.slices_IndexFunc_impl_File_impl_File_l0
    simp (disch := first | omega | (intros; simp only [decide_eq_true_eq, decide_eq_false_iff_not, Bool.not_eq_true, Bool.not_eq_false, Bool.not_true, Bool.not_false] at *; omega)) only [cast_succ, asrt_pos, wrap64_id, Option.bind_some, cond_true, cond_false, decide_eq_true, decide_eq_false, Int.toNat_natCast, Bool.not_true, Bool.not_false, Bool.and_true, Bool.true_and, Bool.and_false, Bool.false_and, Bool.or_true, Bool.true_or, Bool.or_false, Bool.false_or])
  exact congrArg (fun q => q.bind fun y0 => some y0) h
theorem atFi_ge (t : List File) (i : Int) : decide (atFi t i ≥ 0) = hasFi t i := firstAt_any
theorem atFi_spec {t : List File} {i : Int} (h : hasFi t i = true) : 0 ≤ atFi t i ∧ (atFi t i).toNat < t.length ∧ atFi t i < (t.length : Int) ∧ (t.getD (atFi t i).toNat default).Id = i := by
  obtain ⟨g0, g1, g2, g3⟩ := firstAt_at h
  exact ⟨g0, g1, g2, eq_of_beq g3⟩
theorem hasFi_at {t : List File} {k : Nat} (h : k < t.length) : hasFi t (t.getD k default).Id = true := List.any_eq_true.2 ⟨_, getD_mem h, beq_self_eq_true _⟩
theorem atFi_own {t : List File} (h : FilesP t) {k : Nat} (hk : k < t.length) : atFi t (t.getD k default).Id = (k : Int) := by
  obtain ⟨g0, g1, g2, g3⟩ := atFi_spec (hasFi_at hk)
  have : (atFi t (t.getD k default).Id).toNat = k := by
    rcases Nat.lt_trichotomy (atFi t (t.getD k default).Id).toNat k with q | q | q
    · have := h.up _ _ q hk; omega
    · exact q
    · have := h.up _ _ q g1; omega
  omega

def fileAtF (t : List File) (i : Int) : File := t.getD (atFi t i).toNat default
def inSt (t : List File) (i s : Int) : Bool := (filesOk t && hasFi t i) && ((fileAtF t i).State == s)
theorem inStI (t : List File) (i s : Int) (hl : FiB t) : M.impl_inState t i s = some (atFi t i, inSt t i s) := by
  unfold M.impl_inState inSt fileAtF
  rw [atFiI t i hl.1, Option.bind_some, filesI t hl, Option.bind_some, atFi_ge]
  rw [asrt_pos (fun h => by
    simp only [Bool.and_eq_true] at h
    obtain ⟨g0, g1, g2, g3⟩ := atFi_spec h.2
    exact ⟨g0, g2⟩)]

def findOk (t : List File) (i s : Int) : Bool := (filesOk t && hasFi t i) && (decide (s < 0) || ((fileAtF t i).State == s))
theorem findS (t : List File) (i s : Int) (hl : FiB t) : M.spec_l5Find t i s = some (bif findOk t i s then atFi t i else -1) := by
  have hlen := hl.1
  unfold M.spec_l5Find findOk
  cases hf : filesOk t
  · rw [iter_up (s := 0) (step := M.spec_l5Find_l0 t i s) (e := .inl ()) (fun k => (k : Int)) 0 rfl (by omega) (fun k hk => absurd hk (Nat.not_lt_zero _)) (by
      unfold M.spec_l5Find_l0
      dsimp only
      rw [filesS t hl, hf]
      cases decide (((0 : Nat) : Int) < (t.length : Int)) <;> rfl)]
    rfl
  · have hP := filesOk_iff.1 hf
    have hstep : ∀ k, k < t.length → M.spec_l5Find_l0 t i s (k : Int) = some (bif ((t.getD k default).Id == i) && (decide (s < 0) || ((t.getD k default).State == s)) then .inr (.inr (k : Int)) else .inl ((k : Int) + 1)) := fun k hk => by
      unfold M.spec_l5Find_l0
      dsimp only
      rw [decide_eq_true (show (k : Int) < (t.length : Int) by omega), cond_true, filesS t hl, hf, Option.bind_some, Bool.and_self, cond_true, asrt_pos ⟨by omega, by omega⟩, asrt_pos (fun _ _ => ⟨by omega, by omega⟩), Int.toNat_natCast, wrap64_id (by omega) (by omega), bif_some]
    have h := iter_first (step := M.spec_l5Find_l0 t i s) (fun f : File => (f.Id == i) && (decide (s < 0) || (f.State == s))) t (by omega) hstep (by
      unfold M.spec_l5Find_l0
      dsimp only
      rw [decide_eq_false (show ¬ (t.length : Int) < (t.length : Int) by omega)]
      rfl)
    refine h.trans ?_
    rw [Bool.true_and]
    congr 1
    cases hh : hasFi t i
    · rw [Bool.false_and, cond_false]
      refine firstAt_take_none.2 ?_
      rw [List.any_eq_false]
      intro x hx
      unfold hasFi at hh
      have := List.any_eq_false.1 hh x hx
      intro hc
      simp only [Bool.and_eq_true] at hc
      exact this hc.1
    · obtain ⟨g0, g1, g2, g3⟩ := atFi_spec hh
      rw [Bool.true_and]
      cases hs : (decide (s < 0) || ((fileAtF t i).State == s))
      · rw [cond_false]
        refine firstAt_take_none.2 ?_
        rw [any_getD, List.any_eq_false]
        intro k hk
        have hk := List.mem_range.1 hk
        intro hc
        simp only [Bool.and_eq_true] at hc
        have e1 := eq_of_beq hc.1
        have e2 := atFi_own hP hk
        rw [e1] at e2
        unfold fileAtF at hs
        rw [e2, Int.toNat_natCast, hc.2] at hs
        cases hs
      · rw [cond_true]
        obtain ⟨k, hk⟩ := Int.eq_ofNat_of_zero_le g0
        unfold fileAtF at hs
        rw [hk, Int.toNat_natCast] at g1 g3 hs
        rw [hk]
        refine firstAt_some g1 (fun j hj => ?_) ?_
        · have := hP.up j k hj g1
          rw [show ((t.getD j default).Id == i) = false by rw [beq_eq_false_iff_ne]; omega]; rfl
        · show (((t.getD k default).Id == i) && (decide (s < 0) || ((t.getD k default).State == s))) = true
          rw [show ((t.getD k default).Id == i) = true by rw [beq_iff_eq]; exact g3, hs]; rfl
theorem findOk_st {t : List File} {i s : Int} (h : 0 ≤ s) : findOk t i s = inSt t i s := by
  unfold findOk inSt
  rw [decide_eq_false (by omega), Bool.false_or]

theorem getD_setF {l : List File} {k j : Nat} {v : File} (hk : k < l.length) : (l.set k v).getD j default = if k = j then v else l.getD j default := by
  simp only [List.getD, List.getElem?_set]
  by_cases e : k = j
  · subst e; simp [hk]
  · simp [e]
def putFi (l : List File) (i : Int) (f : File) : List File := l.set (atFi l i).toNat f
theorem putFi_b {l : List File} {i : Int} {f : File} (hl : FiB l) (hf : f.Title.length < 1000000) : FiB (putFi l i f) := by
  unfold putFi
  refine ⟨by rw [List.length_set]; exact hl.1, fun x hx => ?_⟩
  rcases List.mem_or_eq_of_mem_set hx with h | h
  · exact hl.2 x h
  · rw [h]; exact hf
theorem withS (l : List File) (i : Int) (f : File) (hl : FiB l) (hi : hasFi l i = true) (hf : f.Title.length < 1000000) : M.spec_l5With l (atFi l i) f = some (bif filesOk (putFi l i f) then (putFi l i f, true) else ([], false)) := by
  obtain ⟨g0, g1, g2, g3⟩ := atFi_spec hi
  have hlen := hl.1
  have h := filesS _ (putFi_b (i := i) hl hf)
  unfold M.spec_l5With
  unfold putFi at h ⊢
  rw [List.nil_append, asrt_pos (by simp; omega), asrt_pos ⟨g0, g2⟩, h, Option.bind_some]
  cases filesOk (l.set (atFi l i).toNat f) <;> rfl

theorem inSt_spec {l : List File} {i s : Int} (h : inSt l i s = true) : filesOk l = true ∧ hasFi l i = true ∧ (fileAtF l i).State = s ∧ fileOk (fileAtF l i) = true := by
  unfold inSt at h
  simp only [Bool.and_eq_true] at h
  exact ⟨h.1.1, h.1.2, eq_of_beq h.2, (filesOk_iff.1 h.1.1).ok _ (atFi_spec h.1.2).2.1⟩
end Go.Proofs.YteocnbeefedbkaaDoor
