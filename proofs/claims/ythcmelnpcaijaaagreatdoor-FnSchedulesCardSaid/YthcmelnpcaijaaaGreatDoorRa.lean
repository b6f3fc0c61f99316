/-
  Rules put and dropped: both sides say the same. Plain.
-/
import Derived.Test.YthcmelnpcaijaaaGreatDoorHc
set_option linter.unusedSimpArgs false
set_option linter.unusedVariables false
namespace Go.Proofs.YthcmelnpcaijaaaGreatDoor
open Go.VS

/-! ### Lists in order -/
theorem before_iff {a b : Rule} : before a b = true ↔ a.Series < b.Series ∨ (a.Series = b.Series ∧ a.Event < b.Event) := by simp [before]
theorem before_no {a b : Rule} : before a b = false ↔ ¬ (a.Series < b.Series ∨ (a.Series = b.Series ∧ a.Event < b.Event)) := by rw [← before_iff]; simp
def sameR (a b : Rule) : Bool := (a.Series == b.Series) && (a.Event == b.Event)
theorem same_iff {a b : Rule} : sameR a b = true ↔ a.Series = b.Series ∧ a.Event = b.Event := by simp [sameR]
theorem same_no {a b : Rule} : sameR a b = false ↔ ¬ (a.Series = b.Series ∧ a.Event = b.Event) := by rw [← same_iff]; simp

theorem schedOk_iff {l : List Rule} : schedOk l = true ↔ (∀ r ∈ l, ruleOk r = true) ∧ l.Pairwise (fun a b => before a b = true) ∧ l.length ≤ 8 := by
  unfold schedOk
  rw [Bool.and_eq_true, rise_pw (fun a b c h1 h2 => by
    simp only [Bool.not_eq_false', before_iff] at h1 h2 ⊢
    omega)]
  simp only [Bool.not_eq_false', decide_eq_true_eq, and_assoc]

/-- What stands ahead of a rule's place, in it, and behind it. -/
def aheadR (l : List Rule) (u : Rule) : List Rule := l.filter fun x => before x u
def inR' (l : List Rule) (u : Rule) : List Rule := l.filter fun x => sameR x u
def behindR (l : List Rule) (u : Rule) : List Rule := l.filter fun x => before u x

theorem split3 (u : Rule) : ∀ (l : List Rule), l.Pairwise (fun a b => before a b = true) → l = aheadR l u ++ inR' l u ++ behindR l u ∧ (inR' l u).length ≤ 1
  | [], _ => ⟨rfl, Nat.zero_le _⟩
  | x :: t, h => by
    obtain ⟨hx, ht⟩ := List.pairwise_cons.1 h
    obtain ⟨h1, h2⟩ := split3 u t ht
    have hc : before x u = true ∨ sameR x u = true ∨ before u x = true := by simp only [before_iff, same_iff]; omega
    rcases hc with hc | hc | hc
    · have c2 : sameR x u = false := by rw [before_iff] at hc; rw [same_no]; omega
      have c3 : before u x = false := by rw [before_iff] at hc; rw [before_no]; omega
      unfold aheadR inR' behindR at *
      simp only [List.filter_cons, hc, c2, c3, if_true, Bool.false_eq_true, if_false, List.cons_append]
      exact ⟨congrArg (x :: ·) h1, h2⟩
    · have c2 : before x u = false := by rw [same_iff] at hc; rw [before_no]; omega
      have c3 : before u x = false := by rw [same_iff] at hc; rw [before_no]; omega
      have e1 : aheadR t u = [] := List.filter_eq_nil_iff.2 fun y hy q => by have := hx y hy; rw [before_iff] at this q; rw [same_iff] at hc; omega
      have e2 : inR' t u = [] := List.filter_eq_nil_iff.2 fun y hy q => by have := hx y hy; rw [before_iff] at this; rw [same_iff] at hc q; omega
      rw [e1, e2] at h1
      unfold aheadR inR' behindR at *
      simp only [List.filter_cons, hc, c2, c3, if_true, Bool.false_eq_true, if_false, e1, e2, List.nil_append, List.cons_append, List.length_cons, List.length_nil]
      exact ⟨congrArg (x :: ·) h1, Nat.le_refl _⟩
    · have c2 : sameR x u = false := by rw [before_iff] at hc; rw [same_no]; omega
      have c3 : before x u = false := by rw [before_iff] at hc; rw [before_no]; omega
      have e1 : aheadR t u = [] := List.filter_eq_nil_iff.2 fun y hy q => by have := hx y hy; rw [before_iff] at this q hc; omega
      have e2 : inR' t u = [] := List.filter_eq_nil_iff.2 fun y hy q => by have := hx y hy; rw [before_iff] at this hc; rw [same_iff] at q; omega
      rw [e1, e2] at h1
      unfold aheadR inR' behindR at *
      simp only [List.filter_cons, hc, c2, c3, if_true, Bool.false_eq_true, if_false, e1, e2, List.nil_append, List.length_nil]
      exact ⟨congrArg (x :: ·) h1, Nat.zero_le _⟩

theorem ahead_mem {l : List Rule} {u : Rule} : ∀ x ∈ aheadR l u, before x u = true := fun x hx => (List.mem_filter.1 hx).2
theorem in_mem {l : List Rule} {u : Rule} : ∀ x ∈ inR' l u, sameR x u = true := fun x hx => (List.mem_filter.1 hx).2
theorem behind_mem {l : List Rule} {u : Rule} : ∀ x ∈ behindR l u, before u x = true := fun x hx => (List.mem_filter.1 hx).2

theorem withoutR {l : List Rule} {u : Rule} (h : l.Pairwise (fun a b => before a b = true)) : (l.filter fun r => (r.Series != u.Series) || (r.Event != u.Event)) = aheadR l u ++ behindR l u := by
  have e : (fun r : Rule => (r.Series != u.Series) || (r.Event != u.Event)) = fun r => !sameR r u := by
    funext r
    unfold sameR
    rw [Bool.not_and]; rfl
  rw [e]
  conv => lhs; rw [(split3 u l h).1]
  rw [List.filter_append, List.filter_append, List.filter_eq_self.2 (fun x hx => by
    have := ahead_mem x hx
    rw [before_iff] at this
    have : sameR x u = false := by rw [same_no]; omega
    rw [this]; rfl), List.filter_eq_nil_iff.2 (fun x hx => by rw [in_mem x hx]; simp), List.filter_eq_self.2 (fun x hx => by
    have := behind_mem x hx
    rw [before_iff] at this
    have : sameR x u = false := by rw [same_no]; omega
    rw [this]; rfl), List.append_nil]

/-! ### Places -/
theorem getD_app_l {β : Type} [Inhabited β] {a b : List β} {k : Nat} (h : k < a.length) : (a ++ b).getD k default = a.getD k default := by simp [List.getD, List.getElem?_append_left h]
theorem getD_app_r {β : Type} [Inhabited β] {a b : List β} {k : Nat} (h : a.length ≤ k) : (a ++ b).getD k default = b.getD (k - a.length) default := by simp [List.getD, List.getElem?_append_right h]

theorem putPlaceS (u : Rule) (a b : List Rule) (ha : ∀ x ∈ a, before x u = true) (hb : ∀ x ∈ b, before x u = false) (hl : (a ++ b).length < 1000000) : iterO (M.spec_PutRule_l0 u (a ++ b)) 0 = some (a.length : Int) := by
  have hla : (a ++ b).length = a.length + b.length := List.length_append
  refine iter_up (s := 0) (step := M.spec_PutRule_l0 u (a ++ b)) (e := (a.length : Int)) (fun k => (k : Int)) a.length rfl (by omega) (fun k hk => ?_) ?_
  · unfold M.spec_PutRule_l0
    have h1 : before ((a ++ b).getD k default) u = true := by rw [getD_app_l hk]; exact ha _ (getD_mem hk)
    simp (disch := first | omega | (intros; simp only [decide_eq_true_eq, decide_eq_false_iff_not, Bool.not_eq_true, Bool.not_eq_false, Bool.not_true, Bool.not_false] at *; omega)) only [cast_succ, asrt_pos, wrap64_id, Option.bind_some, cond_true, cond_false, decide_eq_true, decide_eq_false, Int.toNat_natCast, Bool.not_true, Bool.not_false, Bool.and_true, Bool.true_and, Bool.and_false, Bool.false_and, Bool.or_true, Bool.true_or, Bool.or_false, Bool.false_or, beforeS, h1]
  · unfold M.spec_PutRule_l0
    by_cases hn : b = []
    · subst hn
      rw [List.append_nil] at hla ⊢
      simp (disch := first | omega | (intros; simp only [decide_eq_true_eq, decide_eq_false_iff_not, Bool.not_eq_true, Bool.not_eq_false, Bool.not_true, Bool.not_false] at *; omega)) only [cast_succ, asrt_pos, wrap64_id, Option.bind_some, cond_true, cond_false, decide_eq_true, decide_eq_false, Int.toNat_natCast, Bool.not_true, Bool.not_false, Bool.and_true, Bool.true_and, Bool.and_false, Bool.false_and, Bool.or_true, Bool.true_or, Bool.or_false, Bool.false_or]
      rfl
    · have h0 : 0 < b.length := List.length_pos_iff.2 hn
      have h1 : before ((a ++ b).getD a.length default) u = false := by rw [getD_app_r (Nat.le_refl _), Nat.sub_self]; exact hb _ (getD_mem h0)
      simp (disch := first | omega | (intros; simp only [decide_eq_true_eq, decide_eq_false_iff_not, Bool.not_eq_true, Bool.not_eq_false, Bool.not_true, Bool.not_false] at *; omega)) only [cast_succ, asrt_pos, wrap64_id, Option.bind_some, cond_true, cond_false, decide_eq_true, decide_eq_false, Int.toNat_natCast, Bool.not_true, Bool.not_false, Bool.and_true, Bool.true_and, Bool.and_false, Bool.false_and, Bool.or_true, Bool.true_or, Bool.or_false, Bool.false_or, beforeS, h1]

theorem half_id {i j : Int} (h0 : 0 ≤ i) (h1 : i ≤ j) (h2 : j < 1000000) : IntKind.i64.wrap (Int.fdiv (IntKind.u64.wrap (IntKind.i64.wrap (i + j))) (2 ^ (min (Int.toNat (1 : Int)) IntKind.u64.bits))) = (i + j) / 2 := by
  have e1 : IntKind.i64.wrap (i + j) = i + j := wrap64_id (by omega) (by omega)
  have e2 : IntKind.u64.wrap (i + j) = i + j := by
    unfold IntKind.wrap
    simp [IntKind.signed, IntKind.bits]
    omega
  have e3 : (2 ^ (min (Int.toNat (1 : Int)) IntKind.u64.bits) : Int) = 2 := by decide
  rw [e1, e2, e3, Int.fdiv_eq_ediv_of_nonneg _ (by omega), wrap64_id (by omega) (by omega)]

theorem cmpR_lt (a b : Rule) : decide (cmpR a b < 0) = before a b := by
  have := cmpR_ge a b
  rw [show decide (cmpR a b < 0) = !decide (cmpR a b ≥ 0) by rw [Bool.eq_iff_iff]; simp, this, Bool.not_not]
theorem cmpR_eq (a b : Rule) : (cmpR a b == 0) = sameR a b := by
  rw [Bool.eq_iff_iff, beq_iff_eq, same_iff]
  unfold cmpR cmpI
  by_cases h1 : a.Series < b.Series
  · simp [h1]; omega
  · by_cases h2 : a.Series > b.Series
    · simp [h1, h2]; omega
    · have h3 : a.Series = b.Series := by omega
      by_cases h4 : a.Event < b.Event
      · simp [h3, h4]; omega
      · by_cases h5 : a.Event > b.Event
        · simp [h3, h4, h5]; omega
        · simp [h3, h4, h5]; omega

/-! ### Rules put -/
def putL (l : List Rule) (u : Rule) : List Rule := aheadR l u ++ [u] ++ behindR l u
def PutD (l : List Rule) (u : Rule) : List Rule × Bool := bif (schedOk l && ruleOk u) && schedOk (putL l u) then (putL l u, true) else ([], false)

theorem ahead_len {l : List Rule} {u : Rule} : (aheadR l u).length ≤ l.length := List.length_filter_le _ _
theorem behind_len {l : List Rule} {u : Rule} : (behindR l u).length ≤ l.length := List.length_filter_le _ _

theorem slc_l' {β : Type} {a b : List β} : slc (a ++ b) 0 (a.length : Int) = a := by simp [slc]
theorem slc_r' {β : Type} {a b : List β} : slc (a ++ b) (a.length : Int) ((a ++ b).length : Int) = b := by unfold slc; rw [Int.toNat_natCast, Int.toNat_natCast, List.take_length, List.drop_left]

theorem putRS (l : List Rule) (u : Rule) (hl : l.length < 100000) : M.spec_PutRule l u = some (PutD l u) := by
  unfold M.spec_PutRule PutD
  simp only [schedS l (by omega), ruleS, Option.bind_some, bif_some]
  cases h1 : schedOk l
  · rfl
  cases h2 : ruleOk u
  · rfl
  have hp := (schedOk_iff.1 h1).2.1
  have g1 := ahead_len (l := l) (u := u)
  have g2 := behind_len (l := l) (u := u)
  have hla : (aheadR l u ++ behindR l u).length = (aheadR l u).length + (behindR l u).length := List.length_append
  simp only [Bool.not_true, cond_false, Bool.or_self, withoutS l _ _ (show l.length < 1000000 by omega), Option.bind_some, withoutR hp]
  rw [putPlaceS u _ _ ahead_mem (fun x hx => by have := behind_mem x hx; rw [before_iff] at this; rw [before_no]; omega) (by omega), Option.bind_some]
  simp only [slc_l', slc_r', List.nil_append]
  rw [asrt_pos ⟨by omega, by omega, by omega⟩, asrt_pos (by simp; omega), asrt_pos (by simp; omega), asrt_pos ⟨by omega, by omega, by omega⟩, asrt_pos (by simp; omega)]
  have h3 := schedS (putL l u) (by unfold putL; simp; omega)
  unfold putL at h3 ⊢
  simp only [Option.bind_some, h3]
  cases schedOk _ <;> rfl

end Go.Proofs.YthcmelnpcaijaaaGreatDoor
