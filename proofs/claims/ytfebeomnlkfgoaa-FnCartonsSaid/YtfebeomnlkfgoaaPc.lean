/-
  Plain laws of the cartons' models. Conditions: lists that are not too long.
-/
import Derived.Test.YtfebeomnlkfgoaaPb
import Derived.Test.YtfebeomnlkfgoaaMgM
set_option linter.unusedSimpArgs false
set_option linter.unusedVariables false
namespace Go.Proofs.Ytfebeomnlkfgoaa
open Go.VS
def inB (x a b : Int) : Bool := decide (x ≥ a) && decide (x ≤ b)
theorem e_l1In {x a b : Int} : M.spec_l1In x a b = some (inB x a b) := rfl
theorem e_within {x a b : Int} : M.impl_within x a b = some (inB x a b) := rfl
theorem e_place {r s : Int} : M.spec_l18Place r s = some (inB r 1 9 && inB s 1 30) := by
  unfold M.spec_l18Place
  rw [e_l1In]
  cases h : inB r 1 9 <;> simp only [Option.bind_some, cond_true, cond_false, e_l1In, Bool.true_and, Bool.false_and]
def falls (l : List Int) (k : Nat) : Bool := decide (l.getD k default ≥ l.getD (k + 1) default)
def risB (l : List Int) : Bool := !((List.range (l.length - 1)).any (falls l))
theorem e_areRising {l : List Int} (hl : l.length ≤ 1048576) : M.impl_areRising l = some (risB l) := by
  unfold M.impl_areRising
  rw [iter_any (fun k => ((k + 1 : Nat) : Int)) (l.length - 1) (falls l) (.inr false) (.inl ()) (by simp) (by omega)]
  · cases h : (List.range (l.length - 1)).any (falls l) <;> simp [risB, h]
  · intro k hk hp
    have e : IntKind.i64.wrap ((k : Int) + 1 - 1) = (k : Int) := by rw [wrap64_id (by omega) (by omega)]; omega
    have e2 : ((k : Int) + 1).toNat = k + 1 := by omega
    have hp : decide (l.getD k default ≥ l.getD (k + 1) default) = false := hp
    unfold M.impl_areRising_l0
    simp (disch := first | omega | (intros; simp only [decide_eq_true_eq, decide_eq_false_iff_not, Bool.not_eq_true, Bool.not_eq_false, Bool.not_true, Bool.not_false] at *; omega)) only [cast_succ, asrt_pos, wrap64_id, Option.bind_some, cond_true, cond_false, decide_eq_true, decide_eq_false, Int.toNat_natCast, Bool.not_true, Bool.not_false, Bool.and_true, Bool.true_and, Bool.and_false, Bool.false_and, Bool.or_true, Bool.true_or, Bool.or_false, Bool.false_or, e, e2, hp]
  · intro k hk hp
    have e : IntKind.i64.wrap ((k : Int) + 1 - 1) = (k : Int) := by rw [wrap64_id (by omega) (by omega)]; omega
    have e2 : ((k : Int) + 1).toNat = k + 1 := by omega
    have hp : decide (l.getD k default ≥ l.getD (k + 1) default) = true := hp
    unfold M.impl_areRising_l0
    simp (disch := first | omega | (intros; simp only [decide_eq_true_eq, decide_eq_false_iff_not, Bool.not_eq_true, Bool.not_eq_false, Bool.not_true, Bool.not_false] at *; omega)) only [cast_succ, asrt_pos, wrap64_id, Option.bind_some, cond_true, cond_false, decide_eq_true, decide_eq_false, Int.toNat_natCast, Bool.not_true, Bool.not_false, Bool.and_true, Bool.true_and, Bool.and_false, Bool.false_and, Bool.or_true, Bool.true_or, Bool.or_false, Bool.false_or, e, e2, hp]
  · unfold M.impl_areRising_l0
    simp (disch := first | omega | (intros; simp only [decide_eq_true_eq, decide_eq_false_iff_not, Bool.not_eq_true, Bool.not_eq_false, Bool.not_true, Bool.not_false] at *; omega)) only [cast_succ, asrt_pos, wrap64_id, Option.bind_some, cond_true, cond_false, decide_eq_true, decide_eq_false, Int.toNat_natCast, Bool.not_true, Bool.not_false, Bool.and_true, Bool.true_and, Bool.and_false, Bool.false_and, Bool.or_true, Bool.true_or, Bool.or_false, Bool.false_or]
def bad (l : List Int) (a b : Int) (k : Nat) : Bool := !(inB (l.getD k default) a b) || (decide ((k : Int) > 0) && decide (l.getD (k - 1) default ≥ l.getD k default))
def ris2 (l : List Int) (a b : Int) : Bool := !((List.range l.length).any (bad l a b))
theorem e_l1Rising {l : List Int} {a b : Int} (hl : l.length ≤ 1048576) : M.spec_l1Rising l a b = some (ris2 l a b) := by
  unfold M.spec_l1Rising
  rw [iter_any (s := 0) (fun k => (k : Int)) l.length (bad l a b) (.inr false) (.inl ()) rfl (by omega)]
  · cases h : (List.range l.length).any (bad l a b) <;> simp [ris2, h]
  all_goals try intro k hk hp
  all_goals unfold M.spec_l1Rising_l0
  · have e : ((k : Int) - 1).toNat = k - 1 := by omega
    have e1 : IntKind.i64.wrap ((k : Int) - 1) = (k : Int) - 1 := wrap64_id (by omega) (by omega)
    have hp : (!(inB (l.getD k default) a b) || (decide ((k : Int) > 0) && decide (l.getD (k - 1) default ≥ l.getD k default))) = false := hp
    simp (disch := first | omega | (intros; simp only [decide_eq_true_eq, decide_eq_false_iff_not, Bool.not_eq_true, Bool.not_eq_false, Bool.not_true, Bool.not_false] at *; omega)) only [cast_succ, asrt_pos, wrap64_id, Option.bind_some, cond_true, cond_false, decide_eq_true, decide_eq_false, Int.toNat_natCast, Bool.not_true, Bool.not_false, Bool.and_true, Bool.true_and, Bool.and_false, Bool.false_and, Bool.or_true, Bool.true_or, Bool.or_false, Bool.false_or, e_l1In, e, hp, e1]
  · have e : ((k : Int) - 1).toNat = k - 1 := by omega
    have e1 : IntKind.i64.wrap ((k : Int) - 1) = (k : Int) - 1 := wrap64_id (by omega) (by omega)
    have hp : (!(inB (l.getD k default) a b) || (decide ((k : Int) > 0) && decide (l.getD (k - 1) default ≥ l.getD k default))) = true := hp
    simp (disch := first | omega | (intros; simp only [decide_eq_true_eq, decide_eq_false_iff_not, Bool.not_eq_true, Bool.not_eq_false, Bool.not_true, Bool.not_false] at *; omega)) only [cast_succ, asrt_pos, wrap64_id, Option.bind_some, cond_true, cond_false, decide_eq_true, decide_eq_false, Int.toNat_natCast, Bool.not_true, Bool.not_false, Bool.and_true, Bool.true_and, Bool.and_false, Bool.false_and, Bool.or_true, Bool.true_or, Bool.or_false, Bool.false_or, e_l1In, e, hp, e1]
  · simp (disch := first | omega | (intros; simp only [decide_eq_true_eq, decide_eq_false_iff_not, Bool.not_eq_true, Bool.not_eq_false, Bool.not_true, Bool.not_false] at *; omega)) only [cast_succ, asrt_pos, wrap64_id, Option.bind_some, cond_true, cond_false, decide_eq_true, decide_eq_false, Int.toNat_natCast, Bool.not_true, Bool.not_false, Bool.and_true, Bool.true_and, Bool.and_false, Bool.false_and, Bool.or_true, Bool.true_or, Bool.or_false, Bool.false_or]
theorem ris_eq (l : List Int) (a b : Int) : (risB l && !(l.any fun n => !(inB n a b))) = ris2 l a b := by
  rw [any_getD, risB, ris2, Bool.eq_iff_iff]
  simp only [Bool.and_eq_true, Bool.not_eq_true', List.any_eq_false, List.mem_range, falls, bad, Bool.or_eq_true, Bool.and_eq_true, decide_eq_true_eq, Bool.not_eq_true', not_or, not_and]
  constructor
  · rintro ⟨h1, h2⟩ k hk
    refine ⟨by simpa using h2 k hk, fun h0 => ?_⟩
    have := h1 (k - 1) (by omega)
    rw [show k - 1 + 1 = k by omega] at this
    exact this
  · intro h
    refine ⟨fun k hk => ?_, fun k hk => by simpa using (h k hk).1⟩
    have := (h (k + 1) (by omega)).2 (by omega)
    exact this
def goodOne (c : Carton) : Bool := inB c.Id 1 99 && (inB c.Room 1 9 && inB c.Shelf 1 30) && decide ((c.Files.length : Int) ≤ 12) && ris2 c.Files 1 999 && inB c.Thick 1 40
theorem e_l18One {c : Carton} (hl : c.Files.length ≤ 1048576) : M.spec_l18One c = some (goodOne c) := by
  unfold M.spec_l18One goodOne
  simp (disch := first | omega | (intros; simp only [decide_eq_true_eq, decide_eq_false_iff_not, Bool.not_eq_true, Bool.not_eq_false, Bool.not_true, Bool.not_false] at *; omega)) only [cast_succ, asrt_pos, wrap64_id, Option.bind_some, cond_true, cond_false, decide_eq_true, decide_eq_false, Int.toNat_natCast, Bool.not_true, Bool.not_false, Bool.and_true, Bool.true_and, Bool.and_false, Bool.false_and, Bool.or_true, Bool.true_or, Bool.or_false, Bool.false_or, e_l1In, e_place, e_l1Rising hl]
  cases inB c.Id 1 99 <;> cases (inB c.Room 1 9 && inB c.Shelf 1 30) <;> cases decide ((c.Files.length : Int) ≤ 12) <;> cases ris2 c.Files 1 999 <;> rfl
theorem e_IndexFunc {l : List Int} {fm : Int → Option Bool} (p : Int → Bool) (hl : l.length ≤ 1048576) (h : ∀ x, x ∈ l → fm x = some (p x)) : M.slices_IndexFunc_int_int l fm = some (firstAt p l) := by
  unfold M.slices_IndexFunc_int_int
  rcases iter_find (step := M.slices_IndexFunc_int_int_l0 l fm) (s := 0) (fun k => (k : Int)) l.length (fun k => p (l.getD k default)) (fun k => .inr (k : Int)) (.inl ()) rfl (by omega)
    (fun k hk hp => by unfold M.slices_IndexFunc_int_int_l0; simp (disch := first | omega | (intros; simp only [decide_eq_true_eq, decide_eq_false_iff_not, Bool.not_eq_true, Bool.not_eq_false, Bool.not_true, Bool.not_false] at *; omega)) only [cast_succ, asrt_pos, wrap64_id, Option.bind_some, cond_true, cond_false, decide_eq_true, decide_eq_false, Int.toNat_natCast, Bool.not_true, Bool.not_false, Bool.and_true, Bool.true_and, Bool.and_false, Bool.false_and, Bool.or_true, Bool.true_or, Bool.or_false, Bool.false_or, h _ (getD_mem hk), hp])
    (fun k hk hp => by unfold M.slices_IndexFunc_int_int_l0; simp (disch := first | omega | (intros; simp only [decide_eq_true_eq, decide_eq_false_iff_not, Bool.not_eq_true, Bool.not_eq_false, Bool.not_true, Bool.not_false] at *; omega)) only [cast_succ, asrt_pos, wrap64_id, Option.bind_some, cond_true, cond_false, decide_eq_true, decide_eq_false, Int.toNat_natCast, Bool.not_true, Bool.not_false, Bool.and_true, Bool.true_and, Bool.and_false, Bool.false_and, Bool.or_true, Bool.true_or, Bool.or_false, Bool.false_or, h _ (getD_mem hk), hp])
    (by unfold M.slices_IndexFunc_int_int_l0; simp (disch := first | omega | (intros; simp only [decide_eq_true_eq, decide_eq_false_iff_not, Bool.not_eq_true, Bool.not_eq_false, Bool.not_true, Bool.not_false] at *; omega)) only [cast_succ, asrt_pos, wrap64_id, Option.bind_some, cond_true, cond_false, decide_eq_true, decide_eq_false, Int.toNat_natCast, Bool.not_true, Bool.not_false, Bool.and_true, Bool.true_and, Bool.and_false, Bool.false_and, Bool.or_true, Bool.true_or, Bool.or_false, Bool.false_or]) with ⟨k, h1, h2, h3, h4⟩ | ⟨h1, h2⟩
  · rw [h4, firstAt_some h1 h3 h2]; rfl
  · rw [h2, firstAt_none h1]; rfl
theorem e_ContainsFunc {l : List Int} {fm : Int → Option Bool} (p : Int → Bool) (hl : l.length ≤ 1048576) (h : ∀ x, x ∈ l → fm x = some (p x)) : M.slices_ContainsFunc_int_int l fm = some (l.any p) := by
  unfold M.slices_ContainsFunc_int_int
  simp (disch := first | omega | (intros; simp only [decide_eq_true_eq, decide_eq_false_iff_not, Bool.not_eq_true, Bool.not_eq_false, Bool.not_true, Bool.not_false] at *; omega)) only [cast_succ, asrt_pos, wrap64_id, Option.bind_some, cond_true, cond_false, decide_eq_true, decide_eq_false, Int.toNat_natCast, Bool.not_true, Bool.not_false, Bool.and_true, Bool.true_and, Bool.and_false, Bool.false_and, Bool.or_true, Bool.true_or, Bool.or_false, Bool.false_or, e_IndexFunc p hl h]
  rw [← firstAt_any]
theorem e_iIsCarton {c : Carton} (hl : c.Files.length ≤ 1048576) : M.impl_IsCarton c = some (goodOne c) := by
  unfold M.impl_IsCarton M.impl_isId M.impl_isShelf M.impl_isRoom goodOne
  have h1 : M.slices_ContainsFunc_int_int c.Files (fun x0 => M.impl_IsCarton_1 x0) = some (c.Files.any fun n => !(inB n 1 999)) :=
    e_ContainsFunc (fun n => !(inB n 1 999)) hl (fun x _ => by unfold M.impl_IsCarton_1; rw [e_within]; rfl)
  simp (disch := first | omega | (intros; simp only [decide_eq_true_eq, decide_eq_false_iff_not, Bool.not_eq_true, Bool.not_eq_false, Bool.not_true, Bool.not_false] at *; omega)) only [cast_succ, asrt_pos, wrap64_id, Option.bind_some, cond_true, cond_false, decide_eq_true, decide_eq_false, Int.toNat_natCast, Bool.not_true, Bool.not_false, Bool.and_true, Bool.true_and, Bool.and_false, Bool.false_and, Bool.or_true, Bool.true_or, Bool.or_false, Bool.false_or, e_within, e_areRising hl, h1]
  rw [← ris_eq]
  cases inB c.Id 1 99 <;> cases inB c.Room 1 9 <;> cases inB c.Shelf 1 30 <;> cases decide ((c.Files.length : Int) ≤ 12) <;> cases risB c.Files <;> cases (c.Files.any fun n => !(inB n 1 999)) <;> rfl
end Go.Proofs.Ytfebeomnlkfgoaa
