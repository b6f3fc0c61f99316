/-
  Words, draws of words: what the program (strings.Trim) and the reference say of them. Plain.
-/
import Derived.Test.YteocnbeefedbkaaDoorTc
import Derived.Test.YteocnbeefedbkaaDoorHa
set_option linter.unusedSimpArgs false
set_option linter.unusedVariables false
namespace Go.Proofs.YteocnbeefedbkaaDoor
open Go.VS

def lower (b : UInt8) : Bool := decide (97 ≤ b.toNat) && decide (b.toNat ≤ 122)
def wordOk (s : List UInt8) : Bool := inR (s.length : Int) 1 10 && s.all lower

theorem dropW_nil {β : Type} {p : β → Bool} : ∀ {l : List β}, l.dropWhile p = [] ↔ l.all p = true
  | [] => by simp
  | x :: t => by
    simp only [List.dropWhile_cons, List.all_cons, Bool.and_eq_true]
    cases h : p x
    · simp
    · simpa [h] using dropW_nil (l := t)
theorem trimS_nil {l cs : List UInt8} : Go.Lib.trimS l cs = [] ↔ l.all (cs.contains ·) = true := by
  unfold Go.Lib.trimS Go.Lib.trimLeftS Go.Lib.trimRightS
  rw [dropW_nil, List.all_reverse]
  constructor
  · intro h
    by_cases hq : l.reverse.dropWhile (cs.contains ·) = []
    · rw [dropW_nil, List.all_reverse] at hq; exact hq
    · exfalso
      have h1 := List.head_dropWhile_not (cs.contains ·) hq
      have h2 := List.all_eq_true.1 h _ (List.head_mem hq)
      rw [h2] at h1
      cases h1
  · intro h
    have : l.reverse.dropWhile (cs.contains ·) = [] := by rw [dropW_nil, List.all_reverse]; exact h
    rw [this]; rfl

def letters : List UInt8 := [97, 98, 99, 100, 101, 102, 103, 104, 105, 106, 107, 108, 109, 110, 111, 112, 113, 114, 115, 116, 117, 118, 119, 120, 121, 122]
theorem letters_all : ∀ n : Fin 256, letters.contains (UInt8.ofNat n.val) = lower (UInt8.ofNat n.val) := by decide +kernel
theorem letters_lower (b : UInt8) : letters.contains b = lower b := by
  have := letters_all ⟨b.toNat, b.toNat_lt⟩
  simpa using this

theorem wordI (s : List UInt8) (hl : s.length < 1000000) : M.impl_isWord s = some (wordOk s) := by
  unfold M.impl_isWord M.strings_Trim wordOk
  rw [withinI, Option.bind_some]
  cases h : inR (s.length : Int) 1 10
  · rfl
  · simp only [cond_true, Bool.true_and]
    rw [asrt_pos ⟨by omega, by decide, by decide⟩, Option.bind_some]
    congr 1
    rw [Bool.eq_iff_iff, beq_iff_eq]
    refine trimS_nil.trans ?_
    rw [show (fun x => List.contains [97, 98, 99, 100, 101, 102, 103, 104, 105, 106, 107, 108, 109, 110, 111, 112, 113, 114, 115, 116, 117, 118, 119, 120, 121, 122] x) = lower from funext letters_lower]

theorem wordS (s : List UInt8) (hl : s.length < 1000000) : M.spec_l2Word s = some (wordOk s) := by
  unfold M.spec_l2Word wordOk
  rw [iter_any (step := M.spec_l2Word_l0 s) (s := 0) (fun k => (k : Int)) s.length (fun k => !lower (s.getD k default)) (.inr false) (.inl ()) rfl (by omega)
    (fun k hk hp => by
      have e : ((decide (((s.getD k 0).toNat : Int) < 97)) || (decide (((s.getD k 0).toNat : Int) > 122))) = !lower (s.getD k default) := by
        unfold lower
        rw [Bool.eq_iff_iff]
        simp only [Bool.or_eq_true, decide_eq_true_eq, Bool.not_eq_true', Bool.and_eq_false_iff, decide_eq_false_iff_not]
        show _ ↔ ¬ 97 ≤ (s.getD k 0).toNat ∨ ¬ (s.getD k 0).toNat ≤ 122
        omega
      unfold M.spec_l2Word_l0
      simp (disch := first | omega | (intros; simp only [decide_eq_true_eq, decide_eq_false_iff_not, Bool.not_eq_true, Bool.not_eq_false, Bool.not_true, Bool.not_false] at *; omega)) only [cast_succ, asrt_pos, wrap64_id, Option.bind_some, cond_true, cond_false, decide_eq_true, decide_eq_false, Int.toNat_natCast, Bool.not_true, Bool.not_false, Bool.and_true, Bool.true_and, Bool.and_false, Bool.false_and, Bool.or_true, Bool.true_or, Bool.or_false, Bool.false_or, e, hp])
    (fun k hk hp => by
      have e : ((decide (((s.getD k 0).toNat : Int) < 97)) || (decide (((s.getD k 0).toNat : Int) > 122))) = !lower (s.getD k default) := by
        unfold lower
        rw [Bool.eq_iff_iff]
        simp only [Bool.or_eq_true, decide_eq_true_eq, Bool.not_eq_true', Bool.and_eq_false_iff, decide_eq_false_iff_not]
        show _ ↔ ¬ 97 ≤ (s.getD k 0).toNat ∨ ¬ (s.getD k 0).toNat ≤ 122
        omega
      unfold M.spec_l2Word_l0
      simp (disch := first | omega | (intros; simp only [decide_eq_true_eq, decide_eq_false_iff_not, Bool.not_eq_true, Bool.not_eq_false, Bool.not_true, Bool.not_false] at *; omega)) only [cast_succ, asrt_pos, wrap64_id, Option.bind_some, cond_true, cond_false, decide_eq_true, decide_eq_false, Int.toNat_natCast, Bool.not_true, Bool.not_false, Bool.and_true, Bool.true_and, Bool.and_false, Bool.false_and, Bool.or_true, Bool.true_or, Bool.or_false, Bool.false_or, e, hp])
    (by
      unfold M.spec_l2Word_l0
      simp (disch := first | omega | (intros; simp only [decide_eq_true_eq, decide_eq_false_iff_not, Bool.not_eq_true, Bool.not_eq_false, Bool.not_true, Bool.not_false] at *; omega)) only [cast_succ, asrt_pos, wrap64_id, Option.bind_some, cond_true, cond_false, decide_eq_true, decide_eq_false, Int.toNat_natCast, Bool.not_true, Bool.not_false, Bool.and_true, Bool.true_and, Bool.and_false, Bool.false_and, Bool.or_true, Bool.true_or, Bool.or_false, Bool.false_or])]
  rw [← any_getD (p := fun b => !lower b)]
  have : (s.any fun b => !lower b) = !s.all lower := by
    rw [List.all_eq_not_any_not, Bool.not_not]
  rw [this]
  cases s.all lower
  · simp
  · simp only [Bool.not_true, cond_false, Option.bind_some, l1InS, Bool.and_true]

theorem of_ok {code : List Int} {k : Nat} {c : Cur} {l : List (List UInt8)} (hb : Bytes code) (h : Good code k c) (hk : k < 900000000) (hl : l ≠ []) : T (M.spec_l1Cur_of c l) (fun r => r.1 ∈ l ∧ Good code (k + 2) r.2) := by
  unfold M.spec_l1Cur_of
  have hl' : 0 < l.length := List.length_pos_iff.2 hl
  refine (pick_ok hb h hk).then ?_
  rintro ⟨x, c'⟩ ⟨_, h2, h3⟩
  have h4 := h2 (by omega)
  rw [T_asrt, T_some]
  exact ⟨h4, getD_mem (by omega), h3⟩
theorem T_of {β : Type} {code : List Int} {k : Nat} {c : Cur} {Q : β → Prop} {l : List (List UInt8)} {f : List UInt8 × Cur → Option β} (hb : Bytes code) (h : Good code k c) (hk : k < 800000000) (hl : l ≠ []) (hf : ∀ x c', x ∈ l → Good code (k + 2) c' → T (f (x, c')) Q) : T ((M.spec_l1Cur_of c l).bind f) Q :=
  (of_ok hb h (by omega) hl).then fun r hr => hf r.1 r.2 hr.1 hr.2
theorem slc_len0 {β : Type} {l : List β} {j : Int} (h0 : 0 ≤ j) (h1 : j ≤ (l.length : Int)) : (slc l 0 j).length = j.toNat := by
  unfold slc
  simp only [Int.toNat_zero, List.drop_zero, List.length_take]
  omega
theorem slc_ne {β : Type} {l : List β} {j : Int} (h0 : 0 < j) (h1 : j ≤ (l.length : Int)) : slc l 0 j ≠ [] := by
  intro e
  have := slc_len0 (l := l) (j := j) (by omega) h1
  rw [e] at this
  simp at this
  omega
end Go.Proofs.YteocnbeefedbkaaDoor
