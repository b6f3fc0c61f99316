/-
  Plain laws of the cartons' models: the exact laws' own helpers, the best shelf, where a file is. Conditions: lists that are not too long.
-/
import Derived.Test.YthfndefhmmfjaaaPd
set_option linter.unusedSimpArgs false
set_option linter.unusedVariables false
namespace Go.Proofs.Ythfndefhmmfjaaa
open Go.VS

def bulk (l : List Carton) : Nat := (l.map fun c => c.Files.length).sum
theorem bulk_succ {l : List Carton} {k : Nat} (h : k < l.length) : bulk (l.take (k + 1)) = bulk (l.take k) + (l.getD k default).Files.length := by
  unfold bulk
  rw [take_succ_getD h]
  simp
theorem bulk_mem {l : List Carton} {c : Carton} (h : c ∈ l) : c.Files.length ≤ bulk l := by
  unfold bulk
  induction l with
  | nil => cases h
  | cons d l ih =>
    simp only [List.map_cons, List.sum_cons]
    rcases List.mem_cons.1 h with rfl | h
    · omega
    · have := ih h; omega

theorem bne_self {x : Int} : (x != x) = false := by simp

/-- The best shelf of the first k. -/
def bs (l : List Carton) (r t : Int) : Nat → Int
  | 0 => 0
  | k + 1 => if taken l r (k + 1 : Nat) + t ≤ 100 ∧ (bs l r t k = 0 ∨ taken l r (k + 1 : Nat) > taken l r (bs l r t k)) then (k + 1 : Nat) else bs l r t k

theorem bs_bd (l : List Carton) (r t : Int) : ∀ k, 0 ≤ bs l r t k ∧ bs l r t k ≤ k
  | 0 => by simp [bs]
  | k + 1 => by have := bs_bd l r t k; rw [bs]; split <;> omega

theorem taken_all {l : List Carton} {r s : Int} (hl : Thin l) : 0 ≤ taken l r s ∧ taken l r s ≤ 41943040 := by
  have := taken_bd (r := r) (s := s) hl l.length (Nat.le_refl _)
  rw [List.take_length] at this
  have := hl.1
  omega

def bestRes (l : List Carton) (r t : Int) : Int × Bool := bif good l && inB r 1 9 && inB t 1 40 then (bs l r t 30, decide (bs l r t 30 > 0)) else (0, false)

theorem e_sBest {l : List Carton} {r t : Int} (hl : Small l) : M.spec_BestShelf l r t = some (bestRes l r t) := by
  unfold M.spec_BestShelf bestRes
  have hp : M.spec_l18Place r 1 = some (inB r 1 9) := by rw [e_place, show inB 1 1 30 = true from rfl, Bool.and_true]
  cases hg : good l with
  | false => simp (disch := first | omega | (intros; simp only [decide_eq_true_eq, decide_eq_false_iff_not, Bool.not_eq_true, Bool.not_eq_false, Bool.not_true, Bool.not_false] at *; omega)) only [cast_succ, asrt_pos, wrap64_id, Option.bind_some, cond_true, cond_false, decide_eq_true, decide_eq_false, Int.toNat_natCast, Bool.not_true, Bool.not_false, Bool.and_true, Bool.true_and, Bool.and_false, Bool.false_and, Bool.or_true, Bool.true_or, Bool.or_false, Bool.false_or, e_l18Good hl, hg]
  | true =>
  cases hr : inB r 1 9 with
  | false => simp (disch := first | omega | (intros; simp only [decide_eq_true_eq, decide_eq_false_iff_not, Bool.not_eq_true, Bool.not_eq_false, Bool.not_true, Bool.not_false] at *; omega)) only [cast_succ, asrt_pos, wrap64_id, Option.bind_some, cond_true, cond_false, decide_eq_true, decide_eq_false, Int.toNat_natCast, Bool.not_true, Bool.not_false, Bool.and_true, Bool.true_and, Bool.and_false, Bool.false_and, Bool.or_true, Bool.true_or, Bool.or_false, Bool.false_or, e_l18Good hl, hg, hp, hr]
  | true =>
  cases ht : inB t 1 40 with
  | false => simp (disch := first | omega | (intros; simp only [decide_eq_true_eq, decide_eq_false_iff_not, Bool.not_eq_true, Bool.not_eq_false, Bool.not_true, Bool.not_false] at *; omega)) only [cast_succ, asrt_pos, wrap64_id, Option.bind_some, cond_true, cond_false, decide_eq_true, decide_eq_false, Int.toNat_natCast, Bool.not_true, Bool.not_false, Bool.and_true, Bool.true_and, Bool.and_false, Bool.false_and, Bool.or_true, Bool.true_or, Bool.or_false, Bool.false_or, e_l18Good hl, hg, hp, hr, e_l1In, ht]
  | true =>
  have hT := good_thin hg
  have ht' : 1 ≤ t ∧ t ≤ 40 := by simpa [inB] using ht
  have hi : iterO (M.spec_BestShelf_l0 l r t) (0, 1) = some (bs l r t 30) := by
    refine iter_up (fun k => (bs l r t k, ((k + 1 : Nat) : Int))) 30 rfl (by omega) (fun k hk => ?_) ?_
    · have h1 := taken_all (r := r) (s := ((k + 1 : Nat) : Int)) hT
      have h2 := taken_all (r := r) (s := bs l r t k) hT
      have e1 := e_l18Taken (r := r) (s := ((k + 1 : Nat) : Int)) hT
      have e2 := e_l18Taken (r := r) (s := bs l r t k) hT
      rw [cast_succ] at h1 e1
      unfold M.spec_BestShelf_l0
      rw [bs]
      by_cases c1 : taken l r (k + 1 : Nat) + t ≤ 100
      · rw [cast_succ] at c1 ⊢
        by_cases c2 : bs l r t k = 0
        · rw [if_pos ⟨c1, .inl c2⟩]
          simp (disch := first | omega | (intros; simp only [decide_eq_true_eq, decide_eq_false_iff_not, Bool.not_eq_true, Bool.not_eq_false, Bool.not_true, Bool.not_false] at *; omega)) only [cast_succ, asrt_pos, wrap64_id, Option.bind_some, cond_true, cond_false, decide_eq_true, decide_eq_false, Int.toNat_natCast, Bool.not_true, Bool.not_false, Bool.and_true, Bool.true_and, Bool.and_false, Bool.false_and, Bool.or_true, Bool.true_or, Bool.or_false, Bool.false_or, e1, e2, show (bs l r t k == 0) = true by simpa using c2]
        · by_cases c3 : taken l r ((k : Int) + 1) > taken l r (bs l r t k)
          · rw [if_pos ⟨c1, .inr c3⟩]
            simp (disch := first | omega | (intros; simp only [decide_eq_true_eq, decide_eq_false_iff_not, Bool.not_eq_true, Bool.not_eq_false, Bool.not_true, Bool.not_false] at *; omega)) only [cast_succ, asrt_pos, wrap64_id, Option.bind_some, cond_true, cond_false, decide_eq_true, decide_eq_false, Int.toNat_natCast, Bool.not_true, Bool.not_false, Bool.and_true, Bool.true_and, Bool.and_false, Bool.false_and, Bool.or_true, Bool.true_or, Bool.or_false, Bool.false_or, e1, e2, show (bs l r t k == 0) = false by simpa using c2]
          · rw [if_neg (by rintro ⟨_, h | h⟩; exact c2 h; exact c3 h)]
            simp (disch := first | omega | (intros; simp only [decide_eq_true_eq, decide_eq_false_iff_not, Bool.not_eq_true, Bool.not_eq_false, Bool.not_true, Bool.not_false] at *; omega)) only [cast_succ, asrt_pos, wrap64_id, Option.bind_some, cond_true, cond_false, decide_eq_true, decide_eq_false, Int.toNat_natCast, Bool.not_true, Bool.not_false, Bool.and_true, Bool.true_and, Bool.and_false, Bool.false_and, Bool.or_true, Bool.true_or, Bool.or_false, Bool.false_or, e1, e2, show (bs l r t k == 0) = false by simpa using c2]
      · rw [if_neg (fun h => c1 h.1)]
        rw [cast_succ] at c1
        simp (disch := first | omega | (intros; simp only [decide_eq_true_eq, decide_eq_false_iff_not, Bool.not_eq_true, Bool.not_eq_false, Bool.not_true, Bool.not_false] at *; omega)) only [cast_succ, asrt_pos, wrap64_id, Option.bind_some, cond_true, cond_false, decide_eq_true, decide_eq_false, Int.toNat_natCast, Bool.not_true, Bool.not_false, Bool.and_true, Bool.true_and, Bool.and_false, Bool.false_and, Bool.or_true, Bool.true_or, Bool.or_false, Bool.false_or, e1, e2]
    · unfold M.spec_BestShelf_l0
      simp (disch := first | omega | (intros; simp only [decide_eq_true_eq, decide_eq_false_iff_not, Bool.not_eq_true, Bool.not_eq_false, Bool.not_true, Bool.not_false] at *; omega)) only [cast_succ, asrt_pos, wrap64_id, Option.bind_some, cond_true, cond_false, decide_eq_true, decide_eq_false, Int.toNat_natCast, Bool.not_true, Bool.not_false, Bool.and_true, Bool.true_and, Bool.and_false, Bool.false_and, Bool.or_true, Bool.true_or, Bool.or_false, Bool.false_or]
  simp (disch := first | omega | (intros; simp only [decide_eq_true_eq, decide_eq_false_iff_not, Bool.not_eq_true, Bool.not_eq_false, Bool.not_true, Bool.not_false] at *; omega)) only [cast_succ, asrt_pos, wrap64_id, Option.bind_some, cond_true, cond_false, decide_eq_true, decide_eq_false, Int.toNat_natCast, Bool.not_true, Bool.not_false, Bool.and_true, Bool.true_and, Bool.and_false, Bool.false_and, Bool.or_true, Bool.true_or, Bool.or_false, Bool.false_or, e_l18Good hl, hg, hp, hr, e_l1In, ht, hi]

theorem e_iBest {l : List Carton} {r t : Int} (hl : Small l) : M.impl_BestShelf l r t = some (bestRes l r t) := by
  unfold M.impl_BestShelf bestRes M.impl_isRoom
  cases hg : good l with
  | false => simp (disch := first | omega | (intros; simp only [decide_eq_true_eq, decide_eq_false_iff_not, Bool.not_eq_true, Bool.not_eq_false, Bool.not_true, Bool.not_false] at *; omega)) only [cast_succ, asrt_pos, wrap64_id, Option.bind_some, cond_true, cond_false, decide_eq_true, decide_eq_false, Int.toNat_natCast, Bool.not_true, Bool.not_false, Bool.and_true, Bool.true_and, Bool.and_false, Bool.false_and, Bool.or_true, Bool.true_or, Bool.or_false, Bool.false_or, e_iAreCartons hl, hg]
  | true =>
  cases hr : inB r 1 9 with
  | false => simp (disch := first | omega | (intros; simp only [decide_eq_true_eq, decide_eq_false_iff_not, Bool.not_eq_true, Bool.not_eq_false, Bool.not_true, Bool.not_false] at *; omega)) only [cast_succ, asrt_pos, wrap64_id, Option.bind_some, cond_true, cond_false, decide_eq_true, decide_eq_false, Int.toNat_natCast, Bool.not_true, Bool.not_false, Bool.and_true, Bool.true_and, Bool.and_false, Bool.false_and, Bool.or_true, Bool.true_or, Bool.or_false, Bool.false_or, e_iAreCartons hl, hg, e_within, hr]
  | true =>
  cases ht : inB t 1 40 with
  | false => simp (disch := first | omega | (intros; simp only [decide_eq_true_eq, decide_eq_false_iff_not, Bool.not_eq_true, Bool.not_eq_false, Bool.not_true, Bool.not_false] at *; omega)) only [cast_succ, asrt_pos, wrap64_id, Option.bind_some, cond_true, cond_false, decide_eq_true, decide_eq_false, Int.toNat_natCast, Bool.not_true, Bool.not_false, Bool.and_true, Bool.true_and, Bool.and_false, Bool.false_and, Bool.or_true, Bool.true_or, Bool.or_false, Bool.false_or, e_iAreCartons hl, hg, hr, e_within, ht]
  | true =>
  have hT := good_thin hg
  have ht' : 1 ≤ t ∧ t ≤ 40 := by simpa [inB] using ht
  have hi : iterO (M.impl_BestShelf_l0 l r t) (0, 101, 1) = some (bs l r t 30) := by
    refine iter_up (fun k => (bs l r t k, if bs l r t k = 0 then 101 else 100 - taken l r (bs l r t k) - t, ((k + 1 : Nat) : Int))) 30 rfl (by omega) (fun k hk => ?_) ?_
    · have h1 := taken_all (r := r) (s := ((k + 1 : Nat) : Int)) hT
      have h2 := taken_all (r := r) (s := bs l r t k) hT
      have e1 := e_freeOn (r := r) (s := ((k + 1 : Nat) : Int)) hT
      rw [cast_succ] at h1 e1
      by_cases c1 : taken l r (k + 1 : Nat) + t ≤ 100
      · by_cases c2 : bs l r t k = 0
        · have hb : bs l r t (k + 1) = (k + 1 : Nat) := by rw [bs, if_pos ⟨c1, .inl c2⟩]
          rw [cast_succ] at c1 hb
          simp only [hb, if_pos c2, if_neg (show ¬ ((k : Int) + 1 = 0) by omega)]
          unfold M.impl_BestShelf_l0
          simp (disch := first | omega | (intros; simp only [decide_eq_true_eq, decide_eq_false_iff_not, Bool.not_eq_true, Bool.not_eq_false, Bool.not_true, Bool.not_false] at *; omega)) only [cast_succ, asrt_pos, wrap64_id, Option.bind_some, cond_true, cond_false, decide_eq_true, decide_eq_false, Int.toNat_natCast, Bool.not_true, Bool.not_false, Bool.and_true, Bool.true_and, Bool.and_false, Bool.false_and, Bool.or_true, Bool.true_or, Bool.or_false, Bool.false_or, e1]
        · by_cases c3 : taken l r (k + 1 : Nat) > taken l r (bs l r t k)
          · have hb : bs l r t (k + 1) = (k + 1 : Nat) := by rw [bs, if_pos ⟨c1, .inr c3⟩]
            rw [cast_succ] at c1 c3 hb
            simp only [hb, if_neg c2, if_neg (show ¬ ((k : Int) + 1 = 0) by omega)]
            unfold M.impl_BestShelf_l0
            simp (disch := first | omega | (intros; simp only [decide_eq_true_eq, decide_eq_false_iff_not, Bool.not_eq_true, Bool.not_eq_false, Bool.not_true, Bool.not_false] at *; omega)) only [cast_succ, asrt_pos, wrap64_id, Option.bind_some, cond_true, cond_false, decide_eq_true, decide_eq_false, Int.toNat_natCast, Bool.not_true, Bool.not_false, Bool.and_true, Bool.true_and, Bool.and_false, Bool.false_and, Bool.or_true, Bool.true_or, Bool.or_false, Bool.false_or, e1]
          · have hb : bs l r t (k + 1) = bs l r t k := by rw [bs, if_neg (by rintro ⟨_, h | h⟩; exact c2 h; exact c3 h)]
            rw [cast_succ] at c1 c3
            simp only [hb, if_neg c2]
            unfold M.impl_BestShelf_l0
            simp (disch := first | omega | (intros; simp only [decide_eq_true_eq, decide_eq_false_iff_not, Bool.not_eq_true, Bool.not_eq_false, Bool.not_true, Bool.not_false] at *; omega)) only [cast_succ, asrt_pos, wrap64_id, Option.bind_some, cond_true, cond_false, decide_eq_true, decide_eq_false, Int.toNat_natCast, Bool.not_true, Bool.not_false, Bool.and_true, Bool.true_and, Bool.and_false, Bool.false_and, Bool.or_true, Bool.true_or, Bool.or_false, Bool.false_or, e1]
      · have hb : bs l r t (k + 1) = bs l r t k := by rw [bs, if_neg (fun h => c1 h.1)]
        rw [cast_succ] at c1
        simp only [hb]
        unfold M.impl_BestShelf_l0
        simp (disch := first | omega | (intros; simp only [decide_eq_true_eq, decide_eq_false_iff_not, Bool.not_eq_true, Bool.not_eq_false, Bool.not_true, Bool.not_false] at *; omega)) only [cast_succ, asrt_pos, wrap64_id, Option.bind_some, cond_true, cond_false, decide_eq_true, decide_eq_false, Int.toNat_natCast, Bool.not_true, Bool.not_false, Bool.and_true, Bool.true_and, Bool.and_false, Bool.false_and, Bool.or_true, Bool.true_or, Bool.or_false, Bool.false_or, e1]
    · unfold M.impl_BestShelf_l0
      simp (disch := first | omega | (intros; simp only [decide_eq_true_eq, decide_eq_false_iff_not, Bool.not_eq_true, Bool.not_eq_false, Bool.not_true, Bool.not_false] at *; omega)) only [cast_succ, asrt_pos, wrap64_id, Option.bind_some, cond_true, cond_false, decide_eq_true, decide_eq_false, Int.toNat_natCast, Bool.not_true, Bool.not_false, Bool.and_true, Bool.true_and, Bool.and_false, Bool.false_and, Bool.or_true, Bool.true_or, Bool.or_false, Bool.false_or]
  simp (disch := first | omega | (intros; simp only [decide_eq_true_eq, decide_eq_false_iff_not, Bool.not_eq_true, Bool.not_eq_false, Bool.not_true, Bool.not_false] at *; omega)) only [cast_succ, asrt_pos, wrap64_id, Option.bind_some, cond_true, cond_false, decide_eq_true, decide_eq_false, Int.toNat_natCast, Bool.not_true, Bool.not_false, Bool.and_true, Bool.true_and, Bool.and_false, Bool.false_and, Bool.or_true, Bool.true_or, Bool.or_false, Bool.false_or, e_iAreCartons hl, hg, hr, e_within, ht, hi]

end Go.Proofs.Ythfndefhmmfjaaa
