/-
  Plain laws of the cartons' models: the exact laws' own helpers, the best shelf, where a file is. Conditions: lists that are not too long.
-/
import Derived.Test.YtfebeomnlkfgoaaPd
set_option linter.unusedSimpArgs false
set_option linter.unusedVariables false
namespace Go.Proofs.Ytfebeomnlkfgoaa
open Go.VS

theorem e_szIntS {l : List Int} {n : Int} (hl : l.length < 9223372036854775808) (h0 : -1 ≤ n) (h1 : n ≤ 1048576) : M.laws_szIntS l n = some (if n - l.length < 0 then -1 else n - l.length) := by
  unfold M.laws_szIntS
  have hw : IntKind.i64.wrap (n - (l.length : Int)) = n - l.length := wrap64_id (by omega) (by omega)
  rw [hw]
  by_cases h : n - (l.length : Int) < 0
  · rw [decide_eq_true h, if_pos h]; rfl
  · rw [decide_eq_false h, if_neg h]; rfl

theorem e_szCarton {c : Carton} {n : Int} (hl : c.Files.length < 9223372036854775808) (h0 : -1 ≤ n) (h1 : n ≤ 1048576) : M.laws_szCarton c n = some (if n - c.Files.length < 0 then -1 else n - c.Files.length) := by
  unfold M.laws_szCarton
  rw [e_szIntS hl h0 h1, Option.bind_some]
  by_cases h : n - (c.Files.length : Int) < 0
  · rw [if_pos h]; rfl
  · rw [if_neg h, decide_eq_false h]; rfl

def bulk (l : List Carton) : Nat := (l.map fun c => c.Files.length).sum
theorem bulk_succ {l : List Carton} {k : Nat} (h : k < l.length) : bulk (l.take (k + 1)) = bulk (l.take k) + (l.getD k default).Files.length := by
  unfold bulk
  rw [take_succ_getD h]
  simp
theorem bulk_mem {l : List Carton} {c : Carton} (h : c ∈ l) : c.Files.length ≤ bulk l := by
  unfold bulk
  induction l with
  | nil => cases h
  | cons d l ih =>
    simp only [List.map_cons, List.sum_cons]
    rcases List.mem_cons.1 h with rfl | h
    · omega
    · have := ih h; omega

/-- The laws' own measure of a list: if it leaves room, the list is not long. -/
theorem e_szCartonS {l : List Carton} (hl : l.length < 9223372036854775808) (hf : ∀ c, c ∈ l → c.Files.length < 9223372036854775808) : ∃ y, M.laws_szCartonS l 1048576 = some y ∧ (decide (y < 0) = false → Small l) := by
  unfold M.laws_szCartonS
  have hw : IntKind.i64.wrap (1048576 - (l.length : Int)) = 1048576 - l.length := wrap64_id (by omega) (by omega)
  rw [hw]
  by_cases h : 1048576 - (l.length : Int) < 0
  · rw [decide_eq_true h]; exact ⟨-1, rfl, fun h => by simp at h⟩
  rw [decide_eq_false h, cond_false]
  rcases iter_find' (step := M.laws_szCartonS_l0 l) (s := (1048576 - (l.length : Int), 0)) (fun k => (1048576 - (l.length : Int) - bulk (l.take k), (k : Int))) l.length
    (fun k => decide (1048576 - (l.length : Int) - bulk (l.take (k + 1)) < 0)) (fun _ => .inr (-1)) (.inl (1048576 - (l.length : Int) - bulk l)) (by simp [bulk]) (by omega)
    (fun k hk hprev hp => by
      have h0 : 0 ≤ 1048576 - (l.length : Int) - bulk (l.take k) := by
        rcases Nat.eq_zero_or_pos k with rfl | h0
        · simp [bulk]; omega
        · have := of_decide_eq_false (hprev (k - 1) (by omega)); rw [show k - 1 + 1 = k by omega] at this; omega
      have hp := of_decide_eq_false hp
      rw [bulk_succ hk] at hp ⊢
      unfold M.laws_szCartonS_l0
      have h2 := e_szCarton (n := 1048576 - (l.length : Int) - bulk (l.take k)) (hf _ (getD_mem hk)) (by omega) (by omega)
      simp (disch := first | omega | (intros; simp only [decide_eq_true_eq, decide_eq_false_iff_not, Bool.not_eq_true, Bool.not_eq_false, Bool.not_true, Bool.not_false] at *; omega)) only [cast_succ, asrt_pos, wrap64_id, Option.bind_some, cond_true, cond_false, decide_eq_true, decide_eq_false, Int.toNat_natCast, Bool.not_true, Bool.not_false, Bool.and_true, Bool.true_and, Bool.and_false, Bool.false_and, Bool.or_true, Bool.true_or, Bool.or_false, Bool.false_or, h2, if_neg (show ¬ (1048576 - (l.length : Int) - bulk (l.take k) - ((l.getD k default).Files.length : Int) < 0) by omega)]
      congr 3
      omega)
    (fun k hk hprev hp => by
      have h0 : 0 ≤ 1048576 - (l.length : Int) - bulk (l.take k) := by
        rcases Nat.eq_zero_or_pos k with rfl | h0
        · simp [bulk]; omega
        · have := of_decide_eq_false (hprev (k - 1) (by omega)); rw [show k - 1 + 1 = k by omega] at this; omega
      have hp := of_decide_eq_true hp
      rw [bulk_succ hk] at hp
      unfold M.laws_szCartonS_l0
      have h2 := e_szCarton (n := 1048576 - (l.length : Int) - bulk (l.take k)) (hf _ (getD_mem hk)) (by omega) (by omega)
      simp (disch := first | omega | (intros; simp only [decide_eq_true_eq, decide_eq_false_iff_not, Bool.not_eq_true, Bool.not_eq_false, Bool.not_true, Bool.not_false] at *; omega)) only [cast_succ, asrt_pos, wrap64_id, Option.bind_some, cond_true, cond_false, decide_eq_true, decide_eq_false, Int.toNat_natCast, Bool.not_true, Bool.not_false, Bool.and_true, Bool.true_and, Bool.and_false, Bool.false_and, Bool.or_true, Bool.true_or, Bool.or_false, Bool.false_or, h2, if_pos (show (1048576 - (l.length : Int) - bulk (l.take k) - ((l.getD k default).Files.length : Int) < 0) by omega)])
    (by unfold M.laws_szCartonS_l0; simp (disch := first | omega | (intros; simp only [decide_eq_true_eq, decide_eq_false_iff_not, Bool.not_eq_true, Bool.not_eq_false, Bool.not_true, Bool.not_false] at *; omega)) only [cast_succ, asrt_pos, wrap64_id, Option.bind_some, cond_true, cond_false, decide_eq_true, decide_eq_false, Int.toNat_natCast, Bool.not_true, Bool.not_false, Bool.and_true, Bool.true_and, Bool.and_false, Bool.false_and, Bool.or_true, Bool.true_or, Bool.or_false, Bool.false_or, List.take_length]) with ⟨k, h1, h2, h3, h4⟩ | ⟨h1, h2⟩
  · rw [h4]; exact ⟨-1, rfl, fun h => by simp at h⟩
  · rw [h2]
    refine ⟨_, rfl, fun h3 => ?_⟩
    have h3 := of_decide_eq_false h3
    exact ⟨by omega, fun c hc => by have := bulk_mem hc; omega⟩

theorem e_toIntS {l : List Int} (hl : l.length ≤ 1048576) : M.laws_toIntS l = some l := by
  unfold M.laws_toIntS
  simp (disch := first | omega | (intros; simp only [decide_eq_true_eq, decide_eq_false_iff_not, Bool.not_eq_true, Bool.not_eq_false, Bool.not_true, Bool.not_false] at *; omega)) only [cast_succ, asrt_pos, wrap64_id, Option.bind_some, cond_true, cond_false, decide_eq_true, decide_eq_false, Int.toNat_natCast, Bool.not_true, Bool.not_false, Bool.and_true, Bool.true_and, Bool.and_false, Bool.false_and, Bool.or_true, Bool.true_or, Bool.or_false, Bool.false_or]
  rw [iter_up (e := l) (fun k => (l.take k ++ (List.replicate l.length (0 : Int)).drop k, (k : Int))) l.length (by simp) (by omega)]
  · rfl
  · intro k hk
    unfold M.laws_toIntS_l0
    rw [← set_take hk (by simpa using hk)]
    have : (l.take k ++ (List.replicate l.length (0 : Int)).drop k).length = l.length := by simp; omega
    simp (disch := first | omega | (intros; simp only [decide_eq_true_eq, decide_eq_false_iff_not, Bool.not_eq_true, Bool.not_eq_false, Bool.not_true, Bool.not_false] at *; omega)) only [cast_succ, asrt_pos, wrap64_id, Option.bind_some, cond_true, cond_false, decide_eq_true, decide_eq_false, Int.toNat_natCast, Bool.not_true, Bool.not_false, Bool.and_true, Bool.true_and, Bool.and_false, Bool.false_and, Bool.or_true, Bool.true_or, Bool.or_false, Bool.false_or, this]
  · unfold M.laws_toIntS_l0
    have : l.take l.length ++ (List.replicate l.length (0 : Int)).drop l.length = l := by simp
    rw [this]
    simp (disch := first | omega | (intros; simp only [decide_eq_true_eq, decide_eq_false_iff_not, Bool.not_eq_true, Bool.not_eq_false, Bool.not_true, Bool.not_false] at *; omega)) only [cast_succ, asrt_pos, wrap64_id, Option.bind_some, cond_true, cond_false, decide_eq_true, decide_eq_false, Int.toNat_natCast, Bool.not_true, Bool.not_false, Bool.and_true, Bool.true_and, Bool.and_false, Bool.false_and, Bool.or_true, Bool.true_or, Bool.or_false, Bool.false_or]

theorem e_toCarton {c : Carton} (hl : c.Files.length ≤ 1048576) : M.laws_toCarton c = some c := by
  unfold M.laws_toCarton
  rw [e_toIntS hl]; rfl

theorem e_toCartonS {l : List Carton} (hl : Small l) : M.laws_toCartonS l = some l := by
  have hl1 := hl.1
  unfold M.laws_toCartonS
  simp (disch := first | omega | (intros; simp only [decide_eq_true_eq, decide_eq_false_iff_not, Bool.not_eq_true, Bool.not_eq_false, Bool.not_true, Bool.not_false] at *; omega)) only [cast_succ, asrt_pos, wrap64_id, Option.bind_some, cond_true, cond_false, decide_eq_true, decide_eq_false, Int.toNat_natCast, Bool.not_true, Bool.not_false, Bool.and_true, Bool.true_and, Bool.and_false, Bool.false_and, Bool.or_true, Bool.true_or, Bool.or_false, Bool.false_or]
  generalize hz : (⟨0, 0, 0, [], 0⟩ : Carton) = z
  rw [iter_up (e := l) (fun k => (l.take k ++ (List.replicate l.length z).drop k, (k : Int))) l.length (by simp) (by omega)]
  · rfl
  · intro k hk
    unfold M.laws_toCartonS_l0
    rw [← set_take hk (by simpa using hk)]
    have : (l.take k ++ (List.replicate l.length z).drop k).length = l.length := by simp; omega
    simp (disch := first | omega | (intros; simp only [decide_eq_true_eq, decide_eq_false_iff_not, Bool.not_eq_true, Bool.not_eq_false, Bool.not_true, Bool.not_false] at *; omega)) only [cast_succ, asrt_pos, wrap64_id, Option.bind_some, cond_true, cond_false, decide_eq_true, decide_eq_false, Int.toNat_natCast, Bool.not_true, Bool.not_false, Bool.and_true, Bool.true_and, Bool.and_false, Bool.false_and, Bool.or_true, Bool.true_or, Bool.or_false, Bool.false_or, this, e_toCarton (hl.2 _ (getD_mem hk))]
  · unfold M.laws_toCartonS_l0
    have : l.take l.length ++ (List.replicate l.length z).drop l.length = l := by simp
    rw [this]
    simp (disch := first | omega | (intros; simp only [decide_eq_true_eq, decide_eq_false_iff_not, Bool.not_eq_true, Bool.not_eq_false, Bool.not_true, Bool.not_false] at *; omega)) only [cast_succ, asrt_pos, wrap64_id, Option.bind_some, cond_true, cond_false, decide_eq_true, decide_eq_false, Int.toNat_natCast, Bool.not_true, Bool.not_false, Bool.and_true, Bool.true_and, Bool.and_false, Bool.false_and, Bool.or_true, Bool.true_or, Bool.or_false, Bool.false_or]

theorem e_eqIntS {l : List Int} (hl : l.length ≤ 1048576) : M.laws_eqIntS l l = some true := by
  unfold M.laws_eqIntS
  rw [show ((l.length : Int) != (l.length : Int)) = false by simp, cond_false, iter_up (s := 0) (e := .inl ()) (fun k => (k : Int)) l.length rfl (by omega)]
  · rfl
  · intro k hk
    unfold M.laws_eqIntS_l0
    simp (disch := first | omega | (intros; simp only [decide_eq_true_eq, decide_eq_false_iff_not, Bool.not_eq_true, Bool.not_eq_false, Bool.not_true, Bool.not_false] at *; omega)) only [cast_succ, asrt_pos, wrap64_id, Option.bind_some, cond_true, cond_false, decide_eq_true, decide_eq_false, Int.toNat_natCast, Bool.not_true, Bool.not_false, Bool.and_true, Bool.true_and, Bool.and_false, Bool.false_and, Bool.or_true, Bool.true_or, Bool.or_false, Bool.false_or, show (l.getD k default != l.getD k default) = false by simp]
  · unfold M.laws_eqIntS_l0
    simp (disch := first | omega | (intros; simp only [decide_eq_true_eq, decide_eq_false_iff_not, Bool.not_eq_true, Bool.not_eq_false, Bool.not_true, Bool.not_false] at *; omega)) only [cast_succ, asrt_pos, wrap64_id, Option.bind_some, cond_true, cond_false, decide_eq_true, decide_eq_false, Int.toNat_natCast, Bool.not_true, Bool.not_false, Bool.and_true, Bool.true_and, Bool.and_false, Bool.false_and, Bool.or_true, Bool.true_or, Bool.or_false, Bool.false_or]

theorem bne_self {x : Int} : (x != x) = false := by simp

theorem e_eqCarton {c : Carton} (hl : c.Files.length ≤ 1048576) : M.laws_eqCarton c c = some true := by
  unfold M.laws_eqCarton
  simp (disch := first | omega | (intros; simp only [decide_eq_true_eq, decide_eq_false_iff_not, Bool.not_eq_true, Bool.not_eq_false, Bool.not_true, Bool.not_false] at *; omega)) only [cast_succ, asrt_pos, wrap64_id, Option.bind_some, cond_true, cond_false, decide_eq_true, decide_eq_false, Int.toNat_natCast, Bool.not_true, Bool.not_false, Bool.and_true, Bool.true_and, Bool.and_false, Bool.false_and, Bool.or_true, Bool.true_or, Bool.or_false, Bool.false_or, bne_self, e_eqIntS hl]

theorem e_eqCartonS {l : List Carton} (hl : Small l) : M.laws_eqCartonS l l = some true := by
  have hl1 := hl.1
  unfold M.laws_eqCartonS
  rw [bne_self, cond_false, iter_up (s := 0) (e := .inl ()) (fun k => (k : Int)) l.length rfl (by omega)]
  · rfl
  · intro k hk
    unfold M.laws_eqCartonS_l0
    simp (disch := first | omega | (intros; simp only [decide_eq_true_eq, decide_eq_false_iff_not, Bool.not_eq_true, Bool.not_eq_false, Bool.not_true, Bool.not_false] at *; omega)) only [cast_succ, asrt_pos, wrap64_id, Option.bind_some, cond_true, cond_false, decide_eq_true, decide_eq_false, Int.toNat_natCast, Bool.not_true, Bool.not_false, Bool.and_true, Bool.true_and, Bool.and_false, Bool.false_and, Bool.or_true, Bool.true_or, Bool.or_false, Bool.false_or, e_eqCarton (hl.2 _ (getD_mem hk))]
  · unfold M.laws_eqCartonS_l0
    simp (disch := first | omega | (intros; simp only [decide_eq_true_eq, decide_eq_false_iff_not, Bool.not_eq_true, Bool.not_eq_false, Bool.not_true, Bool.not_false] at *; omega)) only [cast_succ, asrt_pos, wrap64_id, Option.bind_some, cond_true, cond_false, decide_eq_true, decide_eq_false, Int.toNat_natCast, Bool.not_true, Bool.not_false, Bool.and_true, Bool.true_and, Bool.and_false, Bool.false_and, Bool.or_true, Bool.true_or, Bool.or_false, Bool.false_or]

/-- The best shelf of the first k. -/
def bs (l : List Carton) (r t : Int) : Nat → Int
  | 0 => 0
  | k + 1 => if taken l r (k + 1 : Nat) + t ≤ 100 ∧ (bs l r t k = 0 ∨ taken l r (k + 1 : Nat) > taken l r (bs l r t k)) then (k + 1 : Nat) else bs l r t k

theorem bs_bd (l : List Carton) (r t : Int) : ∀ k, 0 ≤ bs l r t k ∧ bs l r t k ≤ k
  | 0 => by simp [bs]
  | k + 1 => by have := bs_bd l r t k; rw [bs]; split <;> omega

theorem taken_all {l : List Carton} {r s : Int} (hl : Thin l) : 0 ≤ taken l r s ∧ taken l r s ≤ 41943040 := by
  have := taken_bd (r := r) (s := s) hl l.length (Nat.le_refl _)
  rw [List.take_length] at this
  have := hl.1
  omega

def bestRes (l : List Carton) (r t : Int) : Int × Bool := bif good l && inB r 1 9 && inB t 1 40 then (bs l r t 30, decide (bs l r t 30 > 0)) else (0, false)

end Go.Proofs.Ytfebeomnlkfgoaa
