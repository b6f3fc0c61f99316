/-
  Formats: readable days, lost records, sizes, what was not seen; the plain law of formats. Plain.
-/
import Derived.Test.YteocnbeefedbkaaDoorWo
set_option linter.unusedSimpArgs false
set_option linter.unusedVariables false
namespace Go.Proofs.YteocnbeefedbkaaDoor
open Go.VS

theorem contQ (m : List Int) (x : Int) (hl : m.length < 1000000) : M.slices_Contains_int_int m x = some (m.any fun y => y == x) := by
  unfold M.slices_Contains_int_int M.slices_Index_int_int
  have h := iter_first (step := M.slices_Index_int_int_l0 m x) (fun y => y == x) m (by omega) (fun k hk => by
    have e : (x == m.getD k default) = (m.getD k default == x) := by rw [Bool.eq_iff_iff, beq_iff_eq, beq_iff_eq]; exact eq_comm
    unfold M.slices_Index_int_int_l0
    simp (disch := first | omega | (intros; simp only [decide_eq_true_eq, decide_eq_false_iff_not, Bool.not_eq_true, Bool.not_eq_false, Bool.not_true, Bool.not_false] at *; omega)) only [cast_succ, asrt_pos, wrap64_id, Option.bind_some, cond_true, cond_false, decide_eq_true, decide_eq_false, Int.toNat_natCast, Bool.not_true, Bool.not_false, Bool.and_true, Bool.true_and, Bool.and_false, Bool.false_and, Bool.or_true, Bool.true_or, Bool.or_false, Bool.false_or, bif_some, e]) (by
    unfold M.slices_Index_int_int_l0
    simp (disch := first | omega | (intros; simp only [decide_eq_true_eq, decide_eq_false_iff_not, Bool.not_eq_true, Bool.not_eq_false, Bool.not_true, Bool.not_false] at *; omega)) only [cast_succ, asrt_pos, wrap64_id, Option.bind_some, cond_true, cond_false, decide_eq_true, decide_eq_false, Int.toNat_natCast, Bool.not_true, Bool.not_false, Bool.and_true, Bool.true_and, Bool.and_false, Bool.false_and, Bool.or_true, Bool.true_or, Bool.or_false, Bool.false_or])
  refine (congrArg (fun q => q.bind fun y0 => some (decide (y0 ≥ 0))) h).trans ?_
  rw [Option.bind_some, firstAt_any]
theorem hasQ (m : List Int) (x : Int) (hl : m.length < 1000000) : M.spec_l1Has m x = some (m.any fun y => y == x) := by
  unfold M.spec_l1Has
  rw [iter_any (step := M.spec_l1Has_l0 m x) (s := 0) (fun k => (k : Int)) m.length (fun k => m.getD k default == x) (.inr true) (.inl ()) rfl (by omega)
    (fun k hk hp => by
      unfold M.spec_l1Has_l0
      simp (disch := first | omega | (intros; simp only [decide_eq_true_eq, decide_eq_false_iff_not, Bool.not_eq_true, Bool.not_eq_false, Bool.not_true, Bool.not_false] at *; omega)) only [cast_succ, asrt_pos, wrap64_id, Option.bind_some, cond_true, cond_false, decide_eq_true, decide_eq_false, Int.toNat_natCast, Bool.not_true, Bool.not_false, Bool.and_true, Bool.true_and, Bool.and_false, Bool.false_and, Bool.or_true, Bool.true_or, Bool.or_false, Bool.false_or, hp])
    (fun k hk hp => by
      unfold M.spec_l1Has_l0
      simp (disch := first | omega | (intros; simp only [decide_eq_true_eq, decide_eq_false_iff_not, Bool.not_eq_true, Bool.not_eq_false, Bool.not_true, Bool.not_false] at *; omega)) only [cast_succ, asrt_pos, wrap64_id, Option.bind_some, cond_true, cond_false, decide_eq_true, decide_eq_false, Int.toNat_natCast, Bool.not_true, Bool.not_false, Bool.and_true, Bool.true_and, Bool.and_false, Bool.false_and, Bool.or_true, Bool.true_or, Bool.or_false, Bool.false_or, hp])
    (by
      unfold M.spec_l1Has_l0
      simp (disch := first | omega | (intros; simp only [decide_eq_true_eq, decide_eq_false_iff_not, Bool.not_eq_true, Bool.not_eq_false, Bool.not_true, Bool.not_false] at *; omega)) only [cast_succ, asrt_pos, wrap64_id, Option.bind_some, cond_true, cond_false, decide_eq_true, decide_eq_false, Int.toNat_natCast, Bool.not_true, Bool.not_false, Bool.and_true, Bool.true_and, Bool.and_false, Bool.false_and, Bool.or_true, Bool.true_or, Bool.or_false, Bool.false_or]), ← any_getD (p := fun y => y == x)]
  cases m.any fun y => y == x <;> rfl
theorem rHasQ (m : List Int) (x : Int) (hl : m.length < 1000000) : M.laws_rHas m x = some (m.any fun y => y == x) := by
  unfold M.laws_rHas
  rw [iter_any (step := M.laws_rHas_l0 m x) (s := 0) (fun k => (k : Int)) m.length (fun k => m.getD k default == x) (.inr true) (.inl ()) rfl (by omega)
    (fun k hk hp => by
      unfold M.laws_rHas_l0
      simp (disch := first | omega | (intros; simp only [decide_eq_true_eq, decide_eq_false_iff_not, Bool.not_eq_true, Bool.not_eq_false, Bool.not_true, Bool.not_false] at *; omega)) only [cast_succ, asrt_pos, wrap64_id, Option.bind_some, cond_true, cond_false, decide_eq_true, decide_eq_false, Int.toNat_natCast, Bool.not_true, Bool.not_false, Bool.and_true, Bool.true_and, Bool.and_false, Bool.false_and, Bool.or_true, Bool.true_or, Bool.or_false, Bool.false_or, hp])
    (fun k hk hp => by
      unfold M.laws_rHas_l0
      simp (disch := first | omega | (intros; simp only [decide_eq_true_eq, decide_eq_false_iff_not, Bool.not_eq_true, Bool.not_eq_false, Bool.not_true, Bool.not_false] at *; omega)) only [cast_succ, asrt_pos, wrap64_id, Option.bind_some, cond_true, cond_false, decide_eq_true, decide_eq_false, Int.toNat_natCast, Bool.not_true, Bool.not_false, Bool.and_true, Bool.true_and, Bool.and_false, Bool.false_and, Bool.or_true, Bool.true_or, Bool.or_false, Bool.false_or, hp])
    (by
      unfold M.laws_rHas_l0
      simp (disch := first | omega | (intros; simp only [decide_eq_true_eq, decide_eq_false_iff_not, Bool.not_eq_true, Bool.not_eq_false, Bool.not_true, Bool.not_false] at *; omega)) only [cast_succ, asrt_pos, wrap64_id, Option.bind_some, cond_true, cond_false, decide_eq_true, decide_eq_false, Int.toNat_natCast, Bool.not_true, Bool.not_false, Bool.and_true, Bool.true_and, Bool.and_false, Bool.false_and, Bool.or_true, Bool.true_or, Bool.or_false, Bool.false_or]), ← any_getD (p := fun y => y == x)]
  cases m.any fun y => y == x <;> rfl
theorem rIntsQ (a : List Int) (hl : a.length < 1000000) : M.laws_rInts a a = some true := by
  unfold M.laws_rInts
  rw [bne_self_eq_false, cond_false]
  rw [iter_up (s := 0) (step := M.laws_rInts_l0 a a) (e := .inl ()) (fun k => (k : Int)) a.length rfl (by omega) (fun k hk => by
    unfold M.laws_rInts_l0
    simp (disch := first | omega | (intros; simp only [decide_eq_true_eq, decide_eq_false_iff_not, Bool.not_eq_true, Bool.not_eq_false, Bool.not_true, Bool.not_false] at *; omega)) only [cast_succ, asrt_pos, wrap64_id, Option.bind_some, cond_true, cond_false, decide_eq_true, decide_eq_false, Int.toNat_natCast, Bool.not_true, Bool.not_false, Bool.and_true, Bool.true_and, Bool.and_false, Bool.false_and, Bool.or_true, Bool.true_or, Bool.or_false, Bool.false_or, bne_self_eq_false]) (by
    unfold M.laws_rInts_l0
    simp (disch := first | omega | (intros; simp only [decide_eq_true_eq, decide_eq_false_iff_not, Bool.not_eq_true, Bool.not_eq_false, Bool.not_true, Bool.not_false] at *; omega)) only [cast_succ, asrt_pos, wrap64_id, Option.bind_some, cond_true, cond_false, decide_eq_true, decide_eq_false, Int.toNat_natCast, Bool.not_true, Bool.not_false, Bool.and_true, Bool.true_and, Bool.and_false, Bool.false_and, Bool.or_true, Bool.true_or, Bool.or_false, Bool.false_or])]
  rfl
def hasFm (l : List Format) (i : Int) : Bool := l.any fun f => f.Id == i
def atFm (l : List Format) (i : Int) : Int := firstAt (fun f : Format => f.Id == i) l
theorem atFmI (l : List Format) (i : Int) (hl : l.length < 1000000) : M.impl_formatAt l i = some (atFm l i) := by
  unfold M.impl_formatAt M.slices_IndexFunc_impl_Format_impl_Format
  have h := iter_first (step := M.slices_IndexFunc_impl_Format_impl_Format_l0 l (fun x0 => M.impl_formatAt_1 x0 i)) (fun f : Format => f.Id == i) l (by omega) (fun k hk => by
    unfold M.slices_IndexFunc_impl_Format_impl_Format_l0 M.impl_formatAt_1
    simp (disch := first | omega | (intros; simp only [decide_eq_true_eq, decide_eq_false_iff_not, Bool.not_eq_true, Bool.not_eq_false, Bool.not_true, Bool.not_false] at *; omega)) only [cast_succ, asrt_pos, wrap64_id, Option.bind_some, cond_true, cond_false, decide_eq_true, decide_eq_false, Int.toNat_natCast, Bool.not_true, Bool.not_false, Bool.and_true, Bool.true_and, Bool.and_false, Bool.false_and, Bool.or_true, Bool.true_or, Bool.or_false, Bool.false_or, bif_some]) (by
    unfold M.slices_IndexFunc_impl_Format_impl_Format_l0
    simp (disch := first | omega | (intros; simp only [decide_eq_true_eq, decide_eq_false_iff_not, Bool.not_eq_true, Bool.not_eq_false, Bool.not_true, Bool.not_false] at *; omega)) only [cast_succ, asrt_pos, wrap64_id, Option.bind_some, cond_true, cond_false, decide_eq_true, decide_eq_false, Int.toNat_natCast, Bool.not_true, Bool.not_false, Bool.and_true, Bool.true_and, Bool.and_false, Bool.false_and, Bool.or_true, Bool.true_or, Bool.or_false, Bool.false_or])
  exact (congrArg (fun o => Option.bind o fun y0 => some y0) h).trans rfl
theorem atFmS (l : List Format) (i : Int) (hl : l.length < 1000000) : M.spec_l7Find l i = some (atFm l i) := by
  unfold M.spec_l7Find
  have h := iter_first (step := M.spec_l7Find_l0 l i) (fun f : Format => f.Id == i) l (by omega) (fun k hk => by
    unfold M.spec_l7Find_l0
    simp (disch := first | omega | (intros; simp only [decide_eq_true_eq, decide_eq_false_iff_not, Bool.not_eq_true, Bool.not_eq_false, Bool.not_true, Bool.not_false] at *; omega)) only [cast_succ, asrt_pos, wrap64_id, Option.bind_some, cond_true, cond_false, decide_eq_true, decide_eq_false, Int.toNat_natCast, Bool.not_true, Bool.not_false, Bool.and_true, Bool.true_and, Bool.and_false, Bool.false_and, Bool.or_true, Bool.true_or, Bool.or_false, Bool.false_or, bif_some]) (by
    unfold M.spec_l7Find_l0
    simp (disch := first | omega | (intros; simp only [decide_eq_true_eq, decide_eq_false_iff_not, Bool.not_eq_true, Bool.not_eq_false, Bool.not_true, Bool.not_false] at *; omega)) only [cast_succ, asrt_pos, wrap64_id, Option.bind_some, cond_true, cond_false, decide_eq_true, decide_eq_false, Int.toNat_natCast, Bool.not_true, Bool.not_false, Bool.and_true, Bool.true_and, Bool.and_false, Bool.false_and, Bool.or_true, Bool.true_or, Bool.or_false, Bool.false_or])
  exact h
theorem atFm_neg (l : List Format) (i : Int) : decide (atFm l i < 0) = !hasFm l i := firstAt_neg
theorem atFm_spec {l : List Format} {i : Int} (h : hasFm l i = true) : 0 ≤ atFm l i ∧ (atFm l i).toNat < l.length ∧ atFm l i < (l.length : Int) ∧ (l.getD (atFm l i).toNat default).Id = i := by
  obtain ⟨h1, h2, h3, h4⟩ := firstAt_at h
  exact ⟨h1, h2, h3, eq_of_beq h4⟩
def fmOk (f : Format) : Bool := (inR f.Id 1 50 && wordOk f.Name) && inR f.Until 0 20000
def FmB (l : List Format) : Prop := l.length < 1000000 ∧ ∀ f ∈ l, f.Name.length < 1000000 ∧ f.Reads.length < 1000000
def twinN (f g : Format) : Bool := g.Name == f.Name
def readsOk (l : List Format) (f : Format) : Bool := rise (fun r => (r == f.Id) || !hasFm l r) (fun a b => decide (a ≥ b)) f.Reads && decide ((f.Reads.length : Int) ≤ 10)
def badB (l : List Format) (k : Nat) : Bool := (!fmOk (l.getD k default) || (decide ((k : Int) > 0) && decide ((l.getD (k - 1) default).Id ≥ (l.getD k default).Id)))
def badM (l : List Format) (k : Nat) : Bool := (badB l k || !readsOk l (l.getD k default)) || (l.take k).any (twinN (l.getD k default))
def fmsOk (l : List Format) : Bool := !(List.range l.length).any (badM l) && decide ((l.length : Int) ≤ 10)
theorem contFm (t : List Format) (p : Format → Bool) (fm : Format → Option Bool) (hfm : ∀ x ∈ t, fm x = some (p x)) (hl : t.length < 1000000) : M.slices_ContainsFunc_impl_Format_impl_Format t fm = some (t.any p) := by
  unfold M.slices_ContainsFunc_impl_Format_impl_Format M.slices_IndexFunc_impl_Format_impl_Format
  have h := iter_first (step := M.slices_IndexFunc_impl_Format_impl_Format_l0 t fm) p t (by omega) (fun k hk => by
    have := hfm _ (getD_mem hk)
    unfold M.slices_IndexFunc_impl_Format_impl_Format_l0
    simp (disch := first | omega | (intros; simp only [decide_eq_true_eq, decide_eq_false_iff_not, Bool.not_eq_true, Bool.not_eq_false, Bool.not_true, Bool.not_false] at *; omega)) only [cast_succ, asrt_pos, wrap64_id, Option.bind_some, cond_true, cond_false, decide_eq_true, decide_eq_false, Int.toNat_natCast, Bool.not_true, Bool.not_false, Bool.and_true, Bool.true_and, Bool.and_false, Bool.false_and, Bool.or_true, Bool.true_or, Bool.or_false, Bool.false_or, bif_some, this]) (by
    unfold M.slices_IndexFunc_impl_Format_impl_Format_l0
    simp (disch := first | omega | (intros; simp only [decide_eq_true_eq, decide_eq_false_iff_not, Bool.not_eq_true, Bool.not_eq_false, Bool.not_true, Bool.not_false] at *; omega)) only [cast_succ, asrt_pos, wrap64_id, Option.bind_some, cond_true, cond_false, decide_eq_true, decide_eq_false, Int.toNat_natCast, Bool.not_true, Bool.not_false, Bool.and_true, Bool.true_and, Bool.and_false, Bool.false_and, Bool.or_true, Bool.true_or, Bool.or_false, Bool.false_or])
  refine (congrArg (fun q => q.bind fun y0 => some (decide (y0 ≥ 0))) h).trans ?_
  rw [Option.bind_some, firstAt_any]
theorem readsI (l : List Format) (f : Format) (hl : l.length < 1000000) (hf : f.Reads.length < 1000000) : M.impl_areReads l f = some (readsOk l f) := by
  unfold M.impl_areReads
  rw [iter_rise (n := f.Reads.length) (bad := riseB (fun r => (r == f.Id) || !hasFm l r) (fun a b => decide (a ≥ b)) f.Reads) (by omega) (fun k hk => by
    unfold M.impl_areReads_l0 riseB
    dsimp only
    rw [decide_eq_true (show (k : Int) < (f.Reads.length : Int) by omega), cond_true, asrt_pos ⟨by omega, by omega⟩, Int.toNat_natCast, atFmI l _ hl]
    cases h1 : (f.Reads.getD k default == f.Id)
    · rw [cond_false, Option.bind_some, atFm_neg]
      rw [asrt_pos (fun _ h => by
        simp only [decide_eq_true_eq] at h
        rw [wrap64_id (by omega) (by omega)]
        exact ⟨by omega, by omega⟩), wrap64_id (n := (k : Int) + 1) (by omega) (by omega)]
      by_cases h0 : (k : Int) > 0
      · rw [wrap64_id (n := (k : Int) - 1) (by omega) (by omega), toNat_pred, bif_some]
      · rw [decide_eq_false h0, Bool.false_and, Bool.false_and, bif_some]
    · rw [cond_true, Option.bind_some, asrt_pos (fun h => by cases h), Bool.true_or, Bool.true_or, Bool.true_or, cond_true]
      rfl) (by
    unfold M.impl_areReads_l0
    dsimp only
    rw [decide_eq_false (by omega)]
    rfl)]
  unfold readsOk rise
  cases (List.range f.Reads.length).any _ <;> rfl
theorem slcQ {β : Type} (l : List β) (k : Nat) : slc l 0 (k : Int) = l.take k := by simp [slc]
theorem fmsI (l : List Format) (hl : FmB l) : M.impl_AreFormats l = some (fmsOk l) := by
  have hb := hl.1
  unfold M.impl_AreFormats fmsOk
  rw [show decide ((l.length : Int) > 10) = !decide ((l.length : Int) ≤ 10) by rw [Bool.eq_iff_iff]; simp]
  cases hd : decide ((l.length : Int) ≤ 10)
  · rw [Bool.and_false]; rfl
  rw [Bool.not_true, cond_false, Bool.and_true]
  rw [iter_rise (n := l.length) (bad := badM l) (by omega) (fun k hk => by
    have hm := hl.2 _ (getD_mem hk)
    have h3 := contFm (l.take k) (twinN (l.getD k default)) (fun x0 => M.impl_AreFormats_1 x0 (l.getD k default)) (fun x _ => rfl) (by rw [List.length_take]; omega)
    have e1 : (decide ((k : Int) > 0) && decide ((l.getD (IntKind.i64.wrap ((k : Int) - 1)).toNat default).Id ≥ (l.getD k default).Id)) = (decide ((k : Int) > 0) && decide ((l.getD (k - 1) default).Id ≥ (l.getD k default).Id)) := by
      by_cases h0 : (k : Int) > 0
      · rw [wrap64_id (by omega) (by omega), toNat_pred]
      · rw [decide_eq_false h0, Bool.false_and, Bool.false_and]
    unfold M.impl_AreFormats_l0 badM badB fmOk
    dsimp only
    rw [decide_eq_true (show (k : Int) < (l.length : Int) by omega), cond_true, asrt_pos ⟨by omega, by omega⟩, Int.toNat_natCast, withinI, Option.bind_some, e1]
    cases inR (l.getD k default).Id 1 50
    · rw [Bool.not_false, cond_true, Option.bind_some, Bool.true_or, cond_true, Option.bind_some, Bool.true_or, asrt_pos (fun h => by cases h), Bool.true_or, cond_true, Option.bind_some, Bool.true_or, cond_true, Bool.false_and, Bool.false_and, Bool.not_false, Bool.true_or, Bool.true_or, Bool.true_or]
      rfl
    rw [Bool.not_true, cond_false, wordI _ hm.1, Option.bind_some, Bool.true_and]
    cases wordOk (l.getD k default).Name
    · rw [Bool.not_false, Bool.or_true, cond_true, Option.bind_some, Bool.true_or, asrt_pos (fun h => by cases h), Bool.true_or, cond_true, Option.bind_some, Bool.true_or, cond_true, Bool.false_and, Bool.not_false, Bool.true_or, Bool.true_or, Bool.true_or]
      rfl
    rw [Bool.not_true, Bool.or_self, cond_false, isDayI, Option.bind_some, Bool.true_and]
    cases inR (l.getD k default).Until 0 20000
    · rw [Bool.not_false, Bool.or_true, asrt_pos (fun h => by cases h), Bool.true_or, cond_true, Option.bind_some, Bool.true_or, cond_true]
      simp
    rw [Bool.not_true, Bool.or_self, Bool.false_or]
    rw [asrt_pos (fun _ h => by
      simp only [decide_eq_true_eq] at h
      rw [wrap64_id (by omega) (by omega)]
      exact ⟨by omega, by omega⟩)]
    cases hA : (decide ((k : Int) > 0) && decide ((l.getD (k - 1) default).Id ≥ (l.getD k default).Id))
    · rw [cond_false, readsI l _ hb hm.2, Option.bind_some, Bool.false_or]
      cases readsOk l (l.getD k default)
      · rfl
      · rw [Bool.not_true, cond_false, asrt_pos ⟨by omega, by omega, by omega⟩, slcQ, h3, Option.bind_some, Bool.false_or, wrap64_id (by omega) (by omega), bif_some]
    · rfl) (by
    unfold M.impl_AreFormats_l0
    dsimp only
    rw [decide_eq_false (by omega)]
    rfl)]
  cases (List.range l.length).any (badM l) <;> rfl

def rdS (f : Format) : Bool := decide ((f.Reads.length : Int) ≤ 10) && rise (fun n => !inR n 1 50) (fun a b => decide (a ≥ b)) f.Reads
def badT (l : List Format) (k : Nat) : Bool := (((!fmOk (l.getD k default) || !rdS (l.getD k default)) || ((decide ((k : Int) > 0) && decide ((l.getD (k - 1) default).Id ≥ (l.getD k default).Id)) || (l.getD k default).Reads.any fun y => y == (l.getD k default).Id)) || (l.take k).any (twinN (l.getD k default))) || (List.range (l.getD k default).Reads.length).any fun j => !hasFm l ((l.getD k default).Reads.getD j default)
theorem risingS (m : List Int) (hl : m.length < 1000000) : M.spec_l1Rising m 1 50 = some (rise (fun n => !inR n 1 50) (fun a b => decide (a ≥ b)) m) := by
  unfold M.spec_l1Rising
  rw [iter_rise (n := m.length) (bad := riseB (fun n => !inR n 1 50) (fun a b => decide (a ≥ b)) m) (by omega) (fun k hk => by
    unfold M.spec_l1Rising_l0 riseB
    simp (disch := first | omega | (intros; simp only [decide_eq_true_eq, decide_eq_false_iff_not, Bool.not_eq_true, Bool.not_eq_false, Bool.not_true, Bool.not_false] at *; omega)) only [cast_succ, asrt_pos, wrap64_id, Option.bind_some, cond_true, cond_false, decide_eq_true, decide_eq_false, Int.toNat_natCast, Bool.not_true, Bool.not_false, Bool.and_true, Bool.true_and, Bool.and_false, Bool.false_and, Bool.or_true, Bool.true_or, Bool.or_false, Bool.false_or, l1InS, toNat_pred, bif_some]) (by
    unfold M.spec_l1Rising_l0
    simp (disch := first | omega | (intros; simp only [decide_eq_true_eq, decide_eq_false_iff_not, Bool.not_eq_true, Bool.not_eq_false, Bool.not_true, Bool.not_false] at *; omega)) only [cast_succ, asrt_pos, wrap64_id, Option.bind_some, cond_true, cond_false, decide_eq_true, decide_eq_false, Int.toNat_natCast, Bool.not_true, Bool.not_false, Bool.and_true, Bool.true_and, Bool.and_false, Bool.false_and, Bool.or_true, Bool.true_or, Bool.or_false, Bool.false_or])]
  unfold rise
  cases (List.range m.length).any _ <;> rfl
theorem any_takeQ {t : List Format} {p : Format → Bool} {k : Nat} (h : k ≤ t.length) : (t.take k).any p = (List.range k).any fun j => p (t.getD j default) := by
  rw [any_getD, List.length_take, Nat.min_eq_left h, Bool.eq_iff_iff, List.any_eq_true, List.any_eq_true]
  have e : ∀ j, j < k → (t.take k).getD j default = t.getD j default := fun j hj => by simp [List.getD, List.getElem?_take, hj]
  constructor
  · rintro ⟨j, hj, h⟩
    have := List.mem_range.1 hj
    exact ⟨j, hj, by rwa [e j this] at h⟩
  · rintro ⟨j, hj, h⟩
    have := List.mem_range.1 hj
    exact ⟨j, hj, by rwa [e j this]⟩
theorem goodQ1 (l : List Format) (k : Nat) (hl : l.length < 1000000) (hk : k < l.length) : iterO (M.spec_l7Good_l1 l (k : Int)) 0 = some (bif (l.take k).any (twinN (l.getD k default)) then .inr false else .inl ()) := by
  rw [any_takeQ (Nat.le_of_lt hk)]
  refine iter_rise (n := k) (by omega) (fun j hj => ?_) ?_
  · unfold M.spec_l7Good_l1 twinN
    dsimp only
    rw [decide_eq_true (show (j : Int) < (k : Int) by omega), cond_true, asrt_pos ⟨by omega, by omega⟩, Int.toNat_natCast, Int.toNat_natCast, wrap64_id (by omega) (by omega), bif_some]
  · unfold M.spec_l7Good_l1
    dsimp only
    rw [decide_eq_false (by omega)]
    rfl
theorem goodQ2 (l : List Format) (k : Nat) (hl : FmB l) (hk : k < l.length) : iterO (M.spec_l7Good_l2 l (k : Int)) 0 = some (bif (List.range (l.getD k default).Reads.length).any (fun j => !hasFm l ((l.getD k default).Reads.getD j default)) then .inr false else .inl ()) := by
  have hm := (hl.2 _ (getD_mem hk)).2
  refine iter_rise (n := (l.getD k default).Reads.length) (by omega) (fun j hj => ?_) ?_
  · unfold M.spec_l7Good_l2
    dsimp only
    rw [Int.toNat_natCast, decide_eq_true (show (j : Int) < ((l.getD k default).Reads.length : Int) by omega), cond_true, asrt_pos ⟨by omega, by omega⟩, Int.toNat_natCast, atFmS l _ hl.1, Option.bind_some, atFm_neg, wrap64_id (by omega) (by omega), bif_some]
  · unfold M.spec_l7Good_l2
    dsimp only
    rw [Int.toNat_natCast, decide_eq_false (by omega)]
    rfl
theorem goodQ (l : List Format) (hl : FmB l) : M.spec_l7Good l = some (!(List.range (min l.length 11)).any (badT l) && decide ((l.length : Int) ≤ 10)) := by
  have hb := hl.1
  unfold M.spec_l7Good
  rw [iter_rise (n := min l.length 11) (bad := badT l) (by omega) (fun k hk => by
    have hk1 : k < l.length := by omega
    have hm := hl.2 _ (getD_mem hk1)
    have e1 : (decide ((k : Int) > 0) && decide ((l.getD (IntKind.i64.wrap ((k : Int) - 1)).toNat default).Id ≥ (l.getD k default).Id)) = (decide ((k : Int) > 0) && decide ((l.getD (k - 1) default).Id ≥ (l.getD k default).Id)) := by
      by_cases h0 : (k : Int) > 0
      · rw [wrap64_id (by omega) (by omega), toNat_pred]
      · rw [decide_eq_false h0, Bool.false_and, Bool.false_and]
    unfold M.spec_l7Good_l0 badT fmOk rdS
    dsimp only
    rw [decide_eq_true (show (k : Int) < (l.length : Int) by omega), decide_eq_true (show (k : Int) ≤ 10 by omega), Bool.and_self, cond_true, asrt_pos ⟨by omega, by omega⟩, Int.toNat_natCast, l1InS, Option.bind_some, e1]
    cases inR (l.getD k default).Id 1 50
    · rw [Bool.not_false, cond_true, Option.bind_some, Bool.true_or, cond_true, Option.bind_some, Bool.true_or, Bool.true_or, cond_true, Option.bind_some, Bool.true_or, cond_true, Bool.false_and, Bool.false_and, Bool.not_false, Bool.true_or, Bool.true_or, Bool.true_or, Bool.true_or]
      rfl
    rw [Bool.not_true, cond_false, wordS _ hm.1, Option.bind_some, Bool.true_and]
    cases wordOk (l.getD k default).Name
    · rw [Bool.not_false, Bool.or_true, cond_true, Option.bind_some, Bool.true_or, Bool.true_or, cond_true, Option.bind_some, Bool.true_or, cond_true, Bool.false_and, Bool.not_false, Bool.true_or, Bool.true_or, Bool.true_or, Bool.true_or]
      rfl
    rw [Bool.not_true, Bool.or_self, cond_false, l2DayS, Option.bind_some, Bool.true_and]
    cases inR (l.getD k default).Until 0 20000
    · rw [Bool.not_false, Bool.or_true, Bool.true_or, cond_true, Option.bind_some, Bool.true_or, cond_true, Bool.true_or, Bool.true_or, Bool.true_or, Bool.true_or]
      rfl
    rw [Bool.not_true, Bool.or_self, Bool.false_or, Bool.false_or, show decide (((l.getD k default).Reads.length : Int) > 10) = !decide (((l.getD k default).Reads.length : Int) ≤ 10) by rw [Bool.eq_iff_iff]; simp]
    cases decide (((l.getD k default).Reads.length : Int) ≤ 10)
    · rw [Bool.not_false, cond_true, Option.bind_some, Bool.true_or, cond_true, Bool.false_and, Bool.not_false, Bool.true_or, Bool.true_or, Bool.true_or]
      rfl
    rw [Bool.not_true, cond_false, risingS _ hm.2, Option.bind_some, Bool.false_or, Bool.true_and]
    cases rise (fun n => !inR n 1 50) (fun a b => decide (a ≥ b)) (l.getD k default).Reads
    · rw [Bool.not_false, cond_true, Bool.true_or, Bool.true_or, Bool.true_or]
      rfl
    rw [Bool.not_true, cond_false, Bool.false_or, asrt_pos (fun h => by
      simp only [decide_eq_true_eq] at h
      rw [wrap64_id (by omega) (by omega)]
      exact ⟨by omega, by omega⟩)]
    cases decide ((k : Int) > 0) && decide ((l.getD (k - 1) default).Id ≥ (l.getD k default).Id)
    · rw [cond_false, hasQ _ _ hm.2, Option.bind_some, Bool.false_or]
      cases (l.getD k default).Reads.any fun y => y == (l.getD k default).Id
      · rw [cond_false, goodQ1 l k hb hk1, Bool.false_or]
        cases (l.take k).any (twinN (l.getD k default))
        · rw [cond_false, Option.bind_some]
          dsimp only
          rw [goodQ2 l k hl hk1, Bool.false_or]
          cases (List.range (l.getD k default).Reads.length).any fun j => !hasFm l ((l.getD k default).Reads.getD j default)
          · rw [cond_false, Option.bind_some]
            dsimp only
            rw [wrap64_id (by omega) (by omega)]
            rfl
          · rfl
        · rw [Bool.true_or]; rfl
      · rw [Bool.true_or, Bool.true_or]; rfl
    · rw [cond_true, Option.bind_some, Bool.true_or, Bool.true_or, Bool.true_or, Bool.true_or]; rfl) (by
    unfold M.spec_l7Good_l0
    dsimp only
    rcases Nat.le_total l.length 11 with h | h
    · rw [Nat.min_eq_left h, decide_eq_false (show ¬ (l.length : Int) < (l.length : Int) by omega), Bool.false_and]
      rfl
    · rw [Nat.min_eq_right h, show decide (((11 : Nat) : Int) ≤ 10) = false by decide, Bool.and_false]
      rfl)]
  cases (List.range (min l.length 11)).any (badT l) <;> rfl
theorem hasFm_mem {l : List Format} {i : Int} (h : hasFm l i = true) : ∃ f ∈ l, f.Id = i := by
  obtain ⟨f, hf, e⟩ := List.any_eq_true.1 h
  exact ⟨f, hf, eq_of_beq e⟩
theorem reads_same {l : List Format} (hA : ∀ f ∈ l, inR f.Id 1 50 = true) (f : Format) : (!readsOk l f) = ((!rdS f || f.Reads.any fun y => y == f.Id) || (List.range f.Reads.length).any fun j => !hasFm l (f.Reads.getD j default)) := by
  have key : readsOk l f = ((rdS f && !(f.Reads.any fun y => y == f.Id)) && !((List.range f.Reads.length).any fun j => !hasFm l (f.Reads.getD j default))) := by
    unfold readsOk rdS
    rw [Bool.eq_iff_iff]
    simp only [Bool.and_eq_true, rise_iff, decide_eq_true_eq, Bool.not_eq_true', List.any_eq_false, List.mem_range, Bool.not_eq_true, Bool.or_eq_false_iff, beq_eq_false_iff_ne, Bool.not_eq_false']
    constructor
    · rintro ⟨⟨h1, h2⟩, h3⟩
      refine ⟨⟨⟨h3, fun k hk => ?_, h2⟩, fun y hy => ?_⟩, fun k hk => by rw [(h1 k hk).2]; simp⟩
      · obtain ⟨g, hg, e⟩ := hasFm_mem (h1 k hk).2
        rw [← e]; exact hA g hg
      · obtain ⟨k, hk, rfl⟩ := List.getElem_of_mem hy
        have := (h1 k hk).1
        rwa [getD_el hk] at this
    · rintro ⟨⟨⟨h3, h1, h2⟩, h4⟩, h5⟩
      exact ⟨⟨fun k hk => ⟨h4 _ (getD_mem hk), by simpa using h5 k hk⟩, h2⟩, h3⟩
  rw [key, Bool.not_and, Bool.not_and, Bool.not_not, Bool.not_not]
theorem fmsS (l : List Format) (hl : FmB l) : M.spec_l7Good l = some (fmsOk l) := by
  rw [goodQ l hl]
  unfold fmsOk
  congr 1
  by_cases hn : l.length ≤ 10
  · rw [Nat.min_eq_left (by omega)]
    congr 2
    cases hB : (List.range l.length).any (badB l)
    · have hA : ∀ f ∈ l, inR f.Id 1 50 = true := by
        intro f hf
        obtain ⟨k, hk, rfl⟩ := List.getElem_of_mem hf
        have hb2 : badB l k = false := by simpa using List.any_eq_false.1 hB k (List.mem_range.2 hk)
        unfold badB at hb2
        rw [Bool.or_eq_false_iff, Bool.not_eq_false'] at hb2
        have h3 := hb2.1
        unfold fmOk at h3
        rw [Bool.and_eq_true, Bool.and_eq_true, getD_el hk] at h3
        exact h3.1.1
      have e : ∀ k, badT l k = badM l k := by
        intro k
        unfold badT badM badB
        rw [reads_same hA]
        cases !fmOk (l.getD k default) <;> cases !rdS (l.getD k default) <;> cases decide ((k : Int) > 0) && decide ((l.getD (k - 1) default).Id ≥ (l.getD k default).Id) <;> cases (l.getD k default).Reads.any (fun y => y == (l.getD k default).Id) <;> cases (l.take k).any (twinN (l.getD k default)) <;> simp
      rw [show badT l = badM l from funext e]
    · obtain ⟨k, hk, hk2⟩ := List.any_eq_true.1 hB
      rw [List.any_eq_true.2 ⟨k, hk, show badT l k = true from ?_⟩, List.any_eq_true.2 ⟨k, hk, show badM l k = true from ?_⟩]
      · unfold badM; rw [hk2]; rfl
      · unfold badB at hk2
        unfold badT
        cases h1 : !fmOk (l.getD k default)
        · rw [h1, Bool.false_or] at hk2
          rw [hk2]; simp
        · simp
  · rw [decide_eq_false (show ¬ ((l.length : Int) ≤ 10) by omega), Bool.and_false, Bool.and_false]
theorem fms_ok {l : List Format} (h : fmsOk l = true) : l.length ≤ 10 ∧ (∀ f ∈ l, fmOk f = true) ∧ ∀ j k, j < k → k < l.length → (l.getD j default).Id < (l.getD k default).Id := by
  unfold fmsOk at h
  simp only [Bool.and_eq_true, Bool.not_eq_true', List.any_eq_false, List.mem_range, decide_eq_true_eq, Bool.not_eq_true] at h
  obtain ⟨h1, h2⟩ := h
  have hb : ∀ k, k < l.length → fmOk (l.getD k default) = true ∧ (0 < k → (l.getD (k - 1) default).Id < (l.getD k default).Id) := by
    intro k hk
    have := h1 k hk
    unfold badM badB at this
    simp only [Bool.or_eq_false_iff, Bool.not_eq_false', Bool.and_eq_false_imp, decide_eq_true_eq, decide_eq_false_iff_not] at this
    refine ⟨this.1.1.1, fun h0 => ?_⟩
    have := this.1.1.2 (by omega)
    omega
  refine ⟨by omega, fun f hf => ?_, ?_⟩
  · obtain ⟨k, hk, rfl⟩ := List.getElem_of_mem hf
    have := (hb k hk).1
    rwa [getD_el hk] at this
  · intro j k hjk hk
    induction k with
    | zero => omega
    | succ k ih =>
      have h3 := (hb (k + 1) hk).2 (by omega)
      rw [Nat.add_sub_cancel] at h3
      by_cases e : j = k
      · subst e; exact h3
      · have := ih (by omega) (by omega); omega
end Go.Proofs.YteocnbeefedbkaaDoor
