/-
  Plain laws of the cartons' models: lists of cartons. Conditions: lists that are not too long.
-/
import Derived.Test.YtfebeomnlkfgoaaPc
set_option linter.unusedSimpArgs false
set_option linter.unusedVariables false
namespace Go.Proofs.Ytfebeomnlkfgoaa
open Go.VS
theorem slc_tkC {β : Type} (l : List β) (k : Nat) : slc l 0 (k : Int) = l.take k := by simp [slc]
theorem e_l1Has {l : List Int} {n : Int} (hl : l.length ≤ 1048576) : M.spec_l1Has l n = some (l.any fun x => x == n) := by
  unfold M.spec_l1Has
  rw [iter_any (s := 0) (fun k => (k : Int)) l.length (fun k => l.getD k default == n) (.inr true) (.inl ()) rfl (by omega), ← any_getD (p := fun x => x == n)]
  · cases h : l.any fun x => x == n <;> rfl
  all_goals try intro k hk hp
  all_goals unfold M.spec_l1Has_l0
  · simp (disch := first | omega | (intros; simp only [decide_eq_true_eq, decide_eq_false_iff_not, Bool.not_eq_true, Bool.not_eq_false, Bool.not_true, Bool.not_false] at *; omega)) only [cast_succ, asrt_pos, wrap64_id, Option.bind_some, cond_true, cond_false, decide_eq_true, decide_eq_false, Int.toNat_natCast, Bool.not_true, Bool.not_false, Bool.and_true, Bool.true_and, Bool.and_false, Bool.false_and, Bool.or_true, Bool.true_or, Bool.or_false, Bool.false_or, hp]
  · simp (disch := first | omega | (intros; simp only [decide_eq_true_eq, decide_eq_false_iff_not, Bool.not_eq_true, Bool.not_eq_false, Bool.not_true, Bool.not_false] at *; omega)) only [cast_succ, asrt_pos, wrap64_id, Option.bind_some, cond_true, cond_false, decide_eq_true, decide_eq_false, Int.toNat_natCast, Bool.not_true, Bool.not_false, Bool.and_true, Bool.true_and, Bool.and_false, Bool.false_and, Bool.or_true, Bool.true_or, Bool.or_false, Bool.false_or, hp]
  · simp (disch := first | omega | (intros; simp only [decide_eq_true_eq, decide_eq_false_iff_not, Bool.not_eq_true, Bool.not_eq_false, Bool.not_true, Bool.not_false] at *; omega)) only [cast_succ, asrt_pos, wrap64_id, Option.bind_some, cond_true, cond_false, decide_eq_true, decide_eq_false, Int.toNat_natCast, Bool.not_true, Bool.not_false, Bool.and_true, Bool.true_and, Bool.and_false, Bool.false_and, Bool.or_true, Bool.true_or, Bool.or_false, Bool.false_or]
def Small (l : List Carton) : Prop := l.length ≤ 1048576 ∧ ∀ c, c ∈ l → c.Files.length ≤ 1048576
theorem Small.take {l : List Carton} (h : Small l) (k : Nat) : Small (l.take k) := ⟨by rw [List.length_take]; have := h.1; omega, fun c hc => h.2 c (List.mem_of_mem_take hc)⟩
def hasF (n : Int) (c : Carton) : Bool := c.Files.any fun x => x == n
theorem e_l18Holds {l : List Carton} {n : Int} (hl : Small l) : M.spec_l18Holds l n = some (firstAt (hasF n) l) := by
  have hl1 := hl.1
  unfold M.spec_l18Holds
  rcases iter_find (step := M.spec_l18Holds_l0 l n) (s := 0) (fun k => (k : Int)) l.length (fun k => hasF n (l.getD k default)) (fun k => .inr (k : Int)) (.inl ()) rfl (by omega)
    (fun k hk hp => by
      have h1 := e_l1Has (n := n) (hl.2 _ (getD_mem hk))
      have hp : ((l.getD k default).Files.any fun x => x == n) = false := hp
      unfold M.spec_l18Holds_l0; simp (disch := first | omega | (intros; simp only [decide_eq_true_eq, decide_eq_false_iff_not, Bool.not_eq_true, Bool.not_eq_false, Bool.not_true, Bool.not_false] at *; omega)) only [cast_succ, asrt_pos, wrap64_id, Option.bind_some, cond_true, cond_false, decide_eq_true, decide_eq_false, Int.toNat_natCast, Bool.not_true, Bool.not_false, Bool.and_true, Bool.true_and, Bool.and_false, Bool.false_and, Bool.or_true, Bool.true_or, Bool.or_false, Bool.false_or, h1, hp])
    (fun k hk hp => by
      have h1 := e_l1Has (n := n) (hl.2 _ (getD_mem hk))
      have hp : ((l.getD k default).Files.any fun x => x == n) = true := hp
      unfold M.spec_l18Holds_l0; simp (disch := first | omega | (intros; simp only [decide_eq_true_eq, decide_eq_false_iff_not, Bool.not_eq_true, Bool.not_eq_false, Bool.not_true, Bool.not_false] at *; omega)) only [cast_succ, asrt_pos, wrap64_id, Option.bind_some, cond_true, cond_false, decide_eq_true, decide_eq_false, Int.toNat_natCast, Bool.not_true, Bool.not_false, Bool.and_true, Bool.true_and, Bool.and_false, Bool.false_and, Bool.or_true, Bool.true_or, Bool.or_false, Bool.false_or, h1, hp])
    (by unfold M.spec_l18Holds_l0; simp (disch := first | omega | (intros; simp only [decide_eq_true_eq, decide_eq_false_iff_not, Bool.not_eq_true, Bool.not_eq_false, Bool.not_true, Bool.not_false] at *; omega)) only [cast_succ, asrt_pos, wrap64_id, Option.bind_some, cond_true, cond_false, decide_eq_true, decide_eq_false, Int.toNat_natCast, Bool.not_true, Bool.not_false, Bool.and_true, Bool.true_and, Bool.and_false, Bool.false_and, Bool.or_true, Bool.true_or, Bool.or_false, Bool.false_or]) with ⟨k, h1, h2, h3, h4⟩ | ⟨h1, h2⟩
  · rw [h4, firstAt_some h1 h3 h2]; rfl
  · rw [h2, firstAt_none h1]; rfl
def on (r s : Int) (c : Carton) : Int := if (c.Room == r && c.Shelf == s) = true then c.Thick else 0
def taken (l : List Carton) (r s : Int) : Int := (l.map (on r s)).sum
theorem taken_succ {l : List Carton} {r s : Int} {k : Nat} (h : k < l.length) : taken (l.take (k + 1)) r s = taken (l.take k) r s + on r s (l.getD k default) := by
  unfold taken
  rw [take_succ_getD h]
  simp
def Thin (l : List Carton) : Prop := l.length ≤ 1048576 ∧ ∀ c, c ∈ l → 0 ≤ c.Thick ∧ c.Thick ≤ 40
theorem taken_bd {l : List Carton} {r s : Int} (hl : Thin l) : ∀ k, k ≤ l.length → 0 ≤ taken (l.take k) r s ∧ taken (l.take k) r s ≤ 40 * k
  | 0, _ => by simp [taken]
  | k + 1, h => by
    have ih := taken_bd (r := r) (s := s) hl k (by omega)
    have := hl.2 _ (getD_mem (l := l) (k := k) (by omega))
    rw [taken_succ (by omega), on]
    split <;> omega
theorem e_l18Taken {l : List Carton} {r s : Int} (hl : Thin l) : M.spec_l18Taken l r s = some (taken l r s) := by
  have hl1 := hl.1
  unfold M.spec_l18Taken
  rw [iter_up (e := taken l r s) (fun k => (taken (l.take k) r s, (k : Int))) l.length (by simp [taken]) (by omega)]
  · rfl
  · intro k hk
    have hb := taken_bd (r := r) (s := s) hl k (by omega)
    have ht := hl.2 _ (getD_mem hk)
    unfold M.spec_l18Taken_l0
    rw [taken_succ hk, on]
    cases hc : ((l.getD k default).Room == r && (l.getD k default).Shelf == s)
    · simp (disch := first | omega | (intros; simp only [decide_eq_true_eq, decide_eq_false_iff_not, Bool.not_eq_true, Bool.not_eq_false, Bool.not_true, Bool.not_false] at *; omega)) only [cast_succ, asrt_pos, wrap64_id, Option.bind_some, cond_true, cond_false, decide_eq_true, decide_eq_false, Int.toNat_natCast, Bool.not_true, Bool.not_false, Bool.and_true, Bool.true_and, Bool.and_false, Bool.false_and, Bool.or_true, Bool.true_or, Bool.or_false, Bool.false_or, hc]
      simp
    · simp (disch := first | omega | (intros; simp only [decide_eq_true_eq, decide_eq_false_iff_not, Bool.not_eq_true, Bool.not_eq_false, Bool.not_true, Bool.not_false] at *; omega)) only [cast_succ, asrt_pos, wrap64_id, Option.bind_some, cond_true, cond_false, decide_eq_true, decide_eq_false, Int.toNat_natCast, Bool.not_true, Bool.not_false, Bool.and_true, Bool.true_and, Bool.and_false, Bool.false_and, Bool.or_true, Bool.true_or, Bool.or_false, Bool.false_or, hc, if_true]
  · unfold M.spec_l18Taken_l0
    simp (disch := first | omega | (intros; simp only [decide_eq_true_eq, decide_eq_false_iff_not, Bool.not_eq_true, Bool.not_eq_false, Bool.not_true, Bool.not_false] at *; omega)) only [cast_succ, asrt_pos, wrap64_id, Option.bind_some, cond_true, cond_false, decide_eq_true, decide_eq_false, Int.toNat_natCast, Bool.not_true, Bool.not_false, Bool.and_true, Bool.true_and, Bool.and_false, Bool.false_and, Bool.or_true, Bool.true_or, Bool.or_false, Bool.false_or, List.take_length]
theorem e_freeOn {l : List Carton} {r s : Int} (hl : Thin l) : M.impl_freeOn l r s = some (100 - taken l r s) := by
  have hl1 := hl.1
  unfold M.impl_freeOn
  rw [iter_up (e := 100 - taken l r s) (fun k => (100 - taken (l.take k) r s, (k : Int))) l.length (by simp [taken]) (by omega)]
  · rfl
  · intro k hk
    have hb := taken_bd (r := r) (s := s) hl k (by omega)
    have ht := hl.2 _ (getD_mem hk)
    unfold M.impl_freeOn_l0
    rw [taken_succ hk, on]
    cases hc : ((l.getD k default).Room == r && (l.getD k default).Shelf == s)
    · simp (disch := first | omega | (intros; simp only [decide_eq_true_eq, decide_eq_false_iff_not, Bool.not_eq_true, Bool.not_eq_false, Bool.not_true, Bool.not_false] at *; omega)) only [cast_succ, asrt_pos, wrap64_id, Option.bind_some, cond_true, cond_false, decide_eq_true, decide_eq_false, Int.toNat_natCast, Bool.not_true, Bool.not_false, Bool.and_true, Bool.true_and, Bool.and_false, Bool.false_and, Bool.or_true, Bool.true_or, Bool.or_false, Bool.false_or, hc]
      simp
    · simp (disch := first | omega | (intros; simp only [decide_eq_true_eq, decide_eq_false_iff_not, Bool.not_eq_true, Bool.not_eq_false, Bool.not_true, Bool.not_false] at *; omega)) only [cast_succ, asrt_pos, wrap64_id, Option.bind_some, cond_true, cond_false, decide_eq_true, decide_eq_false, Int.toNat_natCast, Bool.not_true, Bool.not_false, Bool.and_true, Bool.true_and, Bool.and_false, Bool.false_and, Bool.or_true, Bool.true_or, Bool.or_false, Bool.false_or, hc, if_true]
      rw [Int.sub_sub]
  · unfold M.impl_freeOn_l0
    simp (disch := first | omega | (intros; simp only [decide_eq_true_eq, decide_eq_false_iff_not, Bool.not_eq_true, Bool.not_eq_false, Bool.not_true, Bool.not_false] at *; omega)) only [cast_succ, asrt_pos, wrap64_id, Option.bind_some, cond_true, cond_false, decide_eq_true, decide_eq_false, Int.toNat_natCast, Bool.not_true, Bool.not_false, Bool.and_true, Bool.true_and, Bool.and_false, Bool.false_and, Bool.or_true, Bool.true_or, Bool.or_false, Bool.false_or, List.take_length]
def clash (l : List Carton) (c : Carton) : Bool := l.any fun y => c.Files.any fun x => y.Files.any fun z => x == z
def okA (l : List Carton) (k : Nat) : Bool := !(goodOne (l.getD k default)) || (decide ((k : Int) > 0) && decide ((l.getD (k - 1) default).Id ≥ (l.getD k default).Id))
def okAt (l : List Carton) (k : Nat) : Bool := !(okA l k) && decide (taken (l.take (k + 1)) (l.getD k default).Room (l.getD k default).Shelf ≤ 100) && !(clash (l.take k) (l.getD k default))
def good (l : List Carton) : Bool := decide ((l.length : Int) ≤ 10) && !((List.range l.length).any fun k => !(okAt l k))
theorem okA_good {l : List Carton} {k : Nat} (h : okA l k = false) : goodOne (l.getD k default) = true := by
  simp only [okA, Bool.or_eq_false_iff, Bool.not_eq_false'] at h
  exact h.1
theorem goodOne_thick {c : Carton} (h : goodOne c = true) : 0 ≤ c.Thick ∧ c.Thick ≤ 40 := by
  simp only [goodOne, inB, Bool.and_eq_true, decide_eq_true_eq] at h
  omega
theorem okAt_okA {l : List Carton} {k : Nat} (h : okAt l k = true) : okA l k = false := by
  simp only [okAt, Bool.and_eq_true, Bool.not_eq_true'] at h
  exact h.1.1
theorem thin_take {l : List Carton} {k : Nat} (hl : l.length ≤ 1048576) (hk : k < l.length) (h : ∀ j, j < k → okAt l j = true) (hg : okA l k = false) : Thin (l.take (k + 1)) := by
  refine ⟨by rw [List.length_take]; omega, fun c hc => ?_⟩
  obtain ⟨i, hi, rfl⟩ := List.getElem_of_mem hc
  rw [List.length_take] at hi
  rw [List.getElem_take]
  have e : l[i]'(by omega) = l.getD i default := by rw [List.getD_eq_getElem?_getD, List.getElem?_eq_getElem (by omega)]; rfl
  rw [e]
  rcases Nat.lt_or_ge i k with h1 | h1
  · exact goodOne_thick (okA_good (okAt_okA (h i h1)))
  · obtain rfl : i = k := by omega
    exact goodOne_thick (okA_good hg)
theorem clash_swap {l : List Carton} {c : Carton} : clash l c = c.Files.any fun f => l.any (hasF f) := by
  rw [clash, Bool.eq_iff_iff]
  simp only [List.any_eq_true, beq_iff_eq, hasF]
  constructor
  · rintro ⟨y, hy, x, hx, z, hz, e⟩; exact ⟨x, hx, y, hy, z, hz, e.symm⟩
  · rintro ⟨x, hx, y, hy, z, hz, e⟩; exact ⟨y, hy, x, hx, z, hz, e.symm⟩
theorem e_Index {l : List Int} {n : Int} (hl : l.length ≤ 1048576) : M.slices_Index_int_int l n = some (firstAt (fun x => n == x) l) := by
  unfold M.slices_Index_int_int
  rcases iter_find (step := M.slices_Index_int_int_l0 l n) (s := 0) (fun k => (k : Int)) l.length (fun k => n == l.getD k default) (fun k => .inr (k : Int)) (.inl ()) rfl (by omega)
    (fun k hk hp => by unfold M.slices_Index_int_int_l0; simp (disch := first | omega | (intros; simp only [decide_eq_true_eq, decide_eq_false_iff_not, Bool.not_eq_true, Bool.not_eq_false, Bool.not_true, Bool.not_false] at *; omega)) only [cast_succ, asrt_pos, wrap64_id, Option.bind_some, cond_true, cond_false, decide_eq_true, decide_eq_false, Int.toNat_natCast, Bool.not_true, Bool.not_false, Bool.and_true, Bool.true_and, Bool.and_false, Bool.false_and, Bool.or_true, Bool.true_or, Bool.or_false, Bool.false_or, hp])
    (fun k hk hp => by unfold M.slices_Index_int_int_l0; simp (disch := first | omega | (intros; simp only [decide_eq_true_eq, decide_eq_false_iff_not, Bool.not_eq_true, Bool.not_eq_false, Bool.not_true, Bool.not_false] at *; omega)) only [cast_succ, asrt_pos, wrap64_id, Option.bind_some, cond_true, cond_false, decide_eq_true, decide_eq_false, Int.toNat_natCast, Bool.not_true, Bool.not_false, Bool.and_true, Bool.true_and, Bool.and_false, Bool.false_and, Bool.or_true, Bool.true_or, Bool.or_false, Bool.false_or, hp])
    (by unfold M.slices_Index_int_int_l0; simp (disch := first | omega | (intros; simp only [decide_eq_true_eq, decide_eq_false_iff_not, Bool.not_eq_true, Bool.not_eq_false, Bool.not_true, Bool.not_false] at *; omega)) only [cast_succ, asrt_pos, wrap64_id, Option.bind_some, cond_true, cond_false, decide_eq_true, decide_eq_false, Int.toNat_natCast, Bool.not_true, Bool.not_false, Bool.and_true, Bool.true_and, Bool.and_false, Bool.false_and, Bool.or_true, Bool.true_or, Bool.or_false, Bool.false_or]) with ⟨k, h1, h2, h3, h4⟩ | ⟨h1, h2⟩
  · rw [h4, firstAt_some (p := fun x => n == x) h1 h3 h2]; rfl
  · rw [h2, firstAt_none (p := fun x => n == x) h1]; rfl
theorem e_Contains {l : List Int} {n : Int} (hl : l.length ≤ 1048576) : M.slices_Contains_int_int l n = some (l.any fun x => n == x) := by
  unfold M.slices_Contains_int_int
  simp (disch := first | omega | (intros; simp only [decide_eq_true_eq, decide_eq_false_iff_not, Bool.not_eq_true, Bool.not_eq_false, Bool.not_true, Bool.not_false] at *; omega)) only [cast_succ, asrt_pos, wrap64_id, Option.bind_some, cond_true, cond_false, decide_eq_true, decide_eq_false, Int.toNat_natCast, Bool.not_true, Bool.not_false, Bool.and_true, Bool.true_and, Bool.and_false, Bool.false_and, Bool.or_true, Bool.true_or, Bool.or_false, Bool.false_or, e_Index hl]
  rw [← firstAt_any (p := fun x => n == x)]
theorem e_iAre_in {l : List Carton} {k : Nat} (hl : Small l) (hk : k < l.length) : iterO (M.impl_AreCartons_l1 l (k : Int)) 0 = some (bif clash (l.take k) (l.getD k default) then .inr false else .inl ()) := by
  have hl1 := hl.1
  have hs : slc l 0 (k : Int) = l.take k := slc_tkC l k
  have hlen : (l.take k).length = k := by rw [List.length_take]; omega
  rw [clash, any_getD (l := l.take k), hlen]
  have hf : ∀ j, j < k → M.slices_ContainsFunc_int_int (l.getD k default).Files (fun x0 => M.impl_AreCartons_1 x0 ((l.take k).getD j default)) = some ((l.getD k default).Files.any fun x => ((l.take k).getD j default).Files.any fun z => x == z) := by
    intro j hj
    refine e_ContainsFunc (fun x => ((l.take k).getD j default).Files.any fun z => x == z) (hl.2 _ (getD_mem hk)) fun x _ => ?_
    unfold M.impl_AreCartons_1
    rw [e_Contains ((hl.take k).2 _ (getD_mem (by omega)))]; rfl
  refine iter_any (fun j => (j : Int)) k _ _ _ rfl (by omega) ?_ ?_ ?_
  · intro j hj hp
    unfold M.impl_AreCartons_l1
    simp (disch := first | omega | (intros; simp only [decide_eq_true_eq, decide_eq_false_iff_not, Bool.not_eq_true, Bool.not_eq_false, Bool.not_true, Bool.not_false] at *; omega)) only [cast_succ, asrt_pos, wrap64_id, Option.bind_some, cond_true, cond_false, decide_eq_true, decide_eq_false, Int.toNat_natCast, Bool.not_true, Bool.not_false, Bool.and_true, Bool.true_and, Bool.and_false, Bool.false_and, Bool.or_true, Bool.true_or, Bool.or_false, Bool.false_or, hs, hlen, hf j hj, hp]
  · intro j hj hp
    unfold M.impl_AreCartons_l1
    simp (disch := first | omega | (intros; simp only [decide_eq_true_eq, decide_eq_false_iff_not, Bool.not_eq_true, Bool.not_eq_false, Bool.not_true, Bool.not_false] at *; omega)) only [cast_succ, asrt_pos, wrap64_id, Option.bind_some, cond_true, cond_false, decide_eq_true, decide_eq_false, Int.toNat_natCast, Bool.not_true, Bool.not_false, Bool.and_true, Bool.true_and, Bool.and_false, Bool.false_and, Bool.or_true, Bool.true_or, Bool.or_false, Bool.false_or, hs, hlen, hf j hj, hp]
  · unfold M.impl_AreCartons_l1
    simp (disch := first | omega | (intros; simp only [decide_eq_true_eq, decide_eq_false_iff_not, Bool.not_eq_true, Bool.not_eq_false, Bool.not_true, Bool.not_false] at *; omega)) only [cast_succ, asrt_pos, wrap64_id, Option.bind_some, cond_true, cond_false, decide_eq_true, decide_eq_false, Int.toNat_natCast, Bool.not_true, Bool.not_false, Bool.and_true, Bool.true_and, Bool.and_false, Bool.false_and, Bool.or_true, Bool.true_or, Bool.or_false, Bool.false_or, hs, hlen]
theorem e_iAreCartons {l : List Carton} (hl : Small l) : M.impl_AreCartons l = some (good l) := by
  have hl1 := hl.1
  unfold M.impl_AreCartons good
  by_cases h10 : (l.length : Int) > 10
  · simp (disch := first | omega | (intros; simp only [decide_eq_true_eq, decide_eq_false_iff_not, Bool.not_eq_true, Bool.not_eq_false, Bool.not_true, Bool.not_false] at *; omega)) only [cast_succ, asrt_pos, wrap64_id, Option.bind_some, cond_true, cond_false, decide_eq_true, decide_eq_false, Int.toNat_natCast, Bool.not_true, Bool.not_false, Bool.and_true, Bool.true_and, Bool.and_false, Bool.false_and, Bool.or_true, Bool.true_or, Bool.or_false, Bool.false_or, decide_eq_true h10]
  rw [decide_eq_false h10, cond_false, iter_any' (s := 0) (fun k => (k : Int)) l.length (fun k => !(okAt l k)) (.inr false) (.inl ()) rfl (by omega)]
  · rw [decide_eq_true (p := (l.length : Int) ≤ 10) (by omega)]
    cases h : (List.range l.length).any (fun k => !(okAt l k)) <;> rfl
  · intro k hk hprev hp
    have hp : okAt l k = true := by simpa using hp
    have hA := okAt_okA hp
    have hA' : (!(goodOne (l.getD k default)) || (decide ((k : Int) > 0) && decide ((l.getD (k - 1) default).Id ≥ (l.getD k default).Id))) = false := hA
    have hT := thin_take hl1 hk (fun j hj => by simpa using hprev j hj) hA
    simp only [okAt, Bool.and_eq_true, decide_eq_true_eq, Bool.not_eq_true'] at hp
    have e0 : ((k : Int) - 1).toNat = k - 1 := by omega
    have e1 : IntKind.i64.wrap ((k : Int) - 1) = (k : Int) - 1 := wrap64_id (by omega) (by omega)
    have e2 : slc l 0 ((k : Int) + 1) = l.take (k + 1) := slc_tkC l (k + 1)
    have hin := e_iAre_in hl hk
    unfold M.impl_AreCartons_l0
    simp (disch := first | omega | (intros; simp only [decide_eq_true_eq, decide_eq_false_iff_not, Bool.not_eq_true, Bool.not_eq_false, Bool.not_true, Bool.not_false] at *; omega)) only [cast_succ, asrt_pos, wrap64_id, Option.bind_some, cond_true, cond_false, decide_eq_true, decide_eq_false, Int.toNat_natCast, Bool.not_true, Bool.not_false, Bool.and_true, Bool.true_and, Bool.and_false, Bool.false_and, Bool.or_true, Bool.true_or, Bool.or_false, Bool.false_or, e_iIsCarton (hl.2 _ (getD_mem hk)), e0, e1, hA', hin, hp.2, e2, e_freeOn hT]
  · intro k hk hprev hp
    have hp : okAt l k = false := by simpa using hp
    have e0 : ((k : Int) - 1).toNat = k - 1 := by omega
    have e1 : IntKind.i64.wrap ((k : Int) - 1) = (k : Int) - 1 := wrap64_id (by omega) (by omega)
    have e2 : slc l 0 ((k : Int) + 1) = l.take (k + 1) := slc_tkC l (k + 1)
    have hin := e_iAre_in hl hk
    unfold M.impl_AreCartons_l0
    cases hA : okA l k with
    | true =>
      have hA' : (!(goodOne (l.getD k default)) || (decide ((k : Int) > 0) && decide ((l.getD (k - 1) default).Id ≥ (l.getD k default).Id))) = true := hA
      simp (disch := first | omega | (intros; simp only [decide_eq_true_eq, decide_eq_false_iff_not, Bool.not_eq_true, Bool.not_eq_false, Bool.not_true, Bool.not_false] at *; omega)) only [cast_succ, asrt_pos, wrap64_id, Option.bind_some, cond_true, cond_false, decide_eq_true, decide_eq_false, Int.toNat_natCast, Bool.not_true, Bool.not_false, Bool.and_true, Bool.true_and, Bool.and_false, Bool.false_and, Bool.or_true, Bool.true_or, Bool.or_false, Bool.false_or, e_iIsCarton (hl.2 _ (getD_mem hk)), e0, e1, hA']
    | false =>
      have hA' : (!(goodOne (l.getD k default)) || (decide ((k : Int) > 0) && decide ((l.getD (k - 1) default).Id ≥ (l.getD k default).Id))) = false := hA
      have hT := thin_take hl1 hk (fun j hj => by simpa using hprev j hj) hA
      cases hC : clash (l.take k) (l.getD k default) with
      | true => simp (disch := first | omega | (intros; simp only [decide_eq_true_eq, decide_eq_false_iff_not, Bool.not_eq_true, Bool.not_eq_false, Bool.not_true, Bool.not_false] at *; omega)) only [cast_succ, asrt_pos, wrap64_id, Option.bind_some, cond_true, cond_false, decide_eq_true, decide_eq_false, Int.toNat_natCast, Bool.not_true, Bool.not_false, Bool.and_true, Bool.true_and, Bool.and_false, Bool.false_and, Bool.or_true, Bool.true_or, Bool.or_false, Bool.false_or, e_iIsCarton (hl.2 _ (getD_mem hk)), e0, e1, hA', hin, hC]
      | false =>
        have hX : ¬ taken (l.take (k + 1)) (l.getD k default).Room (l.getD k default).Shelf ≤ 100 := by
          intro h
          rw [okAt, hA, hC, decide_eq_true h] at hp
          cases hp
        simp (disch := first | omega | (intros; simp only [decide_eq_true_eq, decide_eq_false_iff_not, Bool.not_eq_true, Bool.not_eq_false, Bool.not_true, Bool.not_false] at *; omega)) only [cast_succ, asrt_pos, wrap64_id, Option.bind_some, cond_true, cond_false, decide_eq_true, decide_eq_false, Int.toNat_natCast, Bool.not_true, Bool.not_false, Bool.and_true, Bool.true_and, Bool.and_false, Bool.false_and, Bool.or_true, Bool.true_or, Bool.or_false, Bool.false_or, e_iIsCarton (hl.2 _ (getD_mem hk)), e0, e1, hA', hin, hC, e2, e_freeOn hT]
  · unfold M.impl_AreCartons_l0
    simp (disch := first | omega | (intros; simp only [decide_eq_true_eq, decide_eq_false_iff_not, Bool.not_eq_true, Bool.not_eq_false, Bool.not_true, Bool.not_false] at *; omega)) only [cast_succ, asrt_pos, wrap64_id, Option.bind_some, cond_true, cond_false, decide_eq_true, decide_eq_false, Int.toNat_natCast, Bool.not_true, Bool.not_false, Bool.and_true, Bool.true_and, Bool.and_false, Bool.false_and, Bool.or_true, Bool.true_or, Bool.or_false, Bool.false_or]
theorem e_sGood_in {l : List Carton} {k : Nat} (hl : Small l) (hk : k < l.length) : iterO (M.spec_l18Good_l1 l (k : Int)) 0 = some (bif clash (l.take k) (l.getD k default) then .inr false else .inl ()) := by
  have hl1 := hl.1
  have hs : slc l 0 (k : Int) = l.take k := slc_tkC l k
  have hf := hl.2 _ (getD_mem hk)
  rw [clash_swap, any_getD (l := (l.getD k default).Files)]
  refine iter_any (fun j => (j : Int)) (l.getD k default).Files.length _ _ _ rfl (by omega) ?_ ?_ ?_
  · intro j hj hp
    have hp : (l.take k).any (hasF ((l.getD k default).Files.getD j default)) = false := hp
    have hq := firstAt_take_none.2 hp
    unfold M.spec_l18Good_l1
    simp (disch := first | omega | (intros; simp only [decide_eq_true_eq, decide_eq_false_iff_not, Bool.not_eq_true, Bool.not_eq_false, Bool.not_true, Bool.not_false] at *; omega)) only [cast_succ, asrt_pos, wrap64_id, Option.bind_some, cond_true, cond_false, decide_eq_true, decide_eq_false, Int.toNat_natCast, Bool.not_true, Bool.not_false, Bool.and_true, Bool.true_and, Bool.and_false, Bool.false_and, Bool.or_true, Bool.true_or, Bool.or_false, Bool.false_or, hs, e_l18Holds (hl.take k), hq]
  · intro j hj hp
    have hp : (l.take k).any (hasF ((l.getD k default).Files.getD j default)) = true := hp
    rw [← firstAt_any] at hp
    unfold M.spec_l18Good_l1
    simp (disch := first | omega | (intros; simp only [decide_eq_true_eq, decide_eq_false_iff_not, Bool.not_eq_true, Bool.not_eq_false, Bool.not_true, Bool.not_false] at *; omega)) only [cast_succ, asrt_pos, wrap64_id, Option.bind_some, cond_true, cond_false, decide_eq_true, decide_eq_false, Int.toNat_natCast, Bool.not_true, Bool.not_false, Bool.and_true, Bool.true_and, Bool.and_false, Bool.false_and, Bool.or_true, Bool.true_or, Bool.or_false, Bool.false_or, hs, e_l18Holds (hl.take k), hp]
  · unfold M.spec_l18Good_l1
    simp (disch := first | omega | (intros; simp only [decide_eq_true_eq, decide_eq_false_iff_not, Bool.not_eq_true, Bool.not_eq_false, Bool.not_true, Bool.not_false] at *; omega)) only [cast_succ, asrt_pos, wrap64_id, Option.bind_some, cond_true, cond_false, decide_eq_true, decide_eq_false, Int.toNat_natCast, Bool.not_true, Bool.not_false, Bool.and_true, Bool.true_and, Bool.and_false, Bool.false_and, Bool.or_true, Bool.true_or, Bool.or_false, Bool.false_or, hs]
theorem e_l18Good {l : List Carton} (hl : Small l) : M.spec_l18Good l = some (good l) := by
  have hl1 := hl.1
  unfold M.spec_l18Good good
  rw [iter_any' (s := 0) (fun k => (k : Int)) (min l.length 11) (fun k => !(okAt l k)) (.inr false) (.inl ()) rfl (by omega)]
  · rcases Nat.lt_or_ge 10 l.length with h10 | h10
    · rw [decide_eq_false (p := (l.length : Int) ≤ 10) (by omega)]
      cases h : (List.range (min l.length 11)).any (fun k => !(okAt l k)) <;> rfl
    · rw [Nat.min_eq_left (by omega), decide_eq_true (p := (l.length : Int) ≤ 10) (by omega)]
      cases h : (List.range l.length).any (fun k => !(okAt l k)) <;> rfl
  · intro k hk hprev hp
    have hk : k < l.length ∧ k ≤ 10 := by omega
    have hp : okAt l k = true := by simpa using hp
    have hA := okAt_okA hp
    have hA' : (!(goodOne (l.getD k default)) || (decide ((k : Int) > 0) && decide ((l.getD (k - 1) default).Id ≥ (l.getD k default).Id))) = false := hA
    have hT := thin_take hl1 hk.1 (fun j hj => by simpa using hprev j hj) hA
    simp only [okAt, Bool.and_eq_true, decide_eq_true_eq, Bool.not_eq_true'] at hp
    have e0 : ((k : Int) - 1).toNat = k - 1 := by omega
    have e1 : IntKind.i64.wrap ((k : Int) - 1) = (k : Int) - 1 := wrap64_id (by omega) (by omega)
    have e2 : slc l 0 ((k : Int) + 1) = l.take (k + 1) := slc_tkC l (k + 1)
    have hin := e_sGood_in hl hk.1
    unfold M.spec_l18Good_l0
    simp (disch := first | omega | (intros; simp only [decide_eq_true_eq, decide_eq_false_iff_not, Bool.not_eq_true, Bool.not_eq_false, Bool.not_true, Bool.not_false] at *; omega)) only [cast_succ, asrt_pos, wrap64_id, Option.bind_some, cond_true, cond_false, decide_eq_true, decide_eq_false, Int.toNat_natCast, Bool.not_true, Bool.not_false, Bool.and_true, Bool.true_and, Bool.and_false, Bool.false_and, Bool.or_true, Bool.true_or, Bool.or_false, Bool.false_or, e_l18One (hl.2 _ (getD_mem hk.1)), e0, e1, hA', hin, hp.2, e2, e_l18Taken hT]
  · intro k hk hprev hp
    have hk : k < l.length ∧ k ≤ 10 := by omega
    have hp : okAt l k = false := by simpa using hp
    have e0 : ((k : Int) - 1).toNat = k - 1 := by omega
    have e1 : IntKind.i64.wrap ((k : Int) - 1) = (k : Int) - 1 := wrap64_id (by omega) (by omega)
    have e2 : slc l 0 ((k : Int) + 1) = l.take (k + 1) := slc_tkC l (k + 1)
    have hin := e_sGood_in hl hk.1
    unfold M.spec_l18Good_l0
    cases hA : okA l k with
    | true =>
      have hA' : (!(goodOne (l.getD k default)) || (decide ((k : Int) > 0) && decide ((l.getD (k - 1) default).Id ≥ (l.getD k default).Id))) = true := hA
      simp (disch := first | omega | (intros; simp only [decide_eq_true_eq, decide_eq_false_iff_not, Bool.not_eq_true, Bool.not_eq_false, Bool.not_true, Bool.not_false] at *; omega)) only [cast_succ, asrt_pos, wrap64_id, Option.bind_some, cond_true, cond_false, decide_eq_true, decide_eq_false, Int.toNat_natCast, Bool.not_true, Bool.not_false, Bool.and_true, Bool.true_and, Bool.and_false, Bool.false_and, Bool.or_true, Bool.true_or, Bool.or_false, Bool.false_or, e_l18One (hl.2 _ (getD_mem hk.1)), e0, e1, hA']
    | false =>
      have hA' : (!(goodOne (l.getD k default)) || (decide ((k : Int) > 0) && decide ((l.getD (k - 1) default).Id ≥ (l.getD k default).Id))) = false := hA
      have hT := thin_take hl1 hk.1 (fun j hj => by simpa using hprev j hj) hA
      by_cases hX : taken (l.take (k + 1)) (l.getD k default).Room (l.getD k default).Shelf ≤ 100
      · have hC : clash (l.take k) (l.getD k default) = true := by
          cases hC : clash (l.take k) (l.getD k default) with
          | true => rfl
          | false => rw [okAt, hA, hC, decide_eq_true hX] at hp; cases hp
        simp (disch := first | omega | (intros; simp only [decide_eq_true_eq, decide_eq_false_iff_not, Bool.not_eq_true, Bool.not_eq_false, Bool.not_true, Bool.not_false] at *; omega)) only [cast_succ, asrt_pos, wrap64_id, Option.bind_some, cond_true, cond_false, decide_eq_true, decide_eq_false, Int.toNat_natCast, Bool.not_true, Bool.not_false, Bool.and_true, Bool.true_and, Bool.and_false, Bool.false_and, Bool.or_true, Bool.true_or, Bool.or_false, Bool.false_or, e_l18One (hl.2 _ (getD_mem hk.1)), e0, e1, hA', hin, hC, e2, e_l18Taken hT]
      · simp (disch := first | omega | (intros; simp only [decide_eq_true_eq, decide_eq_false_iff_not, Bool.not_eq_true, Bool.not_eq_false, Bool.not_true, Bool.not_false] at *; omega)) only [cast_succ, asrt_pos, wrap64_id, Option.bind_some, cond_true, cond_false, decide_eq_true, decide_eq_false, Int.toNat_natCast, Bool.not_true, Bool.not_false, Bool.and_true, Bool.true_and, Bool.and_false, Bool.false_and, Bool.or_true, Bool.true_or, Bool.or_false, Bool.false_or, e_l18One (hl.2 _ (getD_mem hk.1)), e0, e1, hA', e2, e_l18Taken hT]
  · unfold M.spec_l18Good_l0
    rcases Nat.lt_or_ge 10 l.length with h10 | h10
    · simp (disch := first | omega | (intros; simp only [decide_eq_true_eq, decide_eq_false_iff_not, Bool.not_eq_true, Bool.not_eq_false, Bool.not_true, Bool.not_false] at *; omega)) only [cast_succ, asrt_pos, wrap64_id, Option.bind_some, cond_true, cond_false, decide_eq_true, decide_eq_false, Int.toNat_natCast, Bool.not_true, Bool.not_false, Bool.and_true, Bool.true_and, Bool.and_false, Bool.false_and, Bool.or_true, Bool.true_or, Bool.or_false, Bool.false_or]
    · simp (disch := first | omega | (intros; simp only [decide_eq_true_eq, decide_eq_false_iff_not, Bool.not_eq_true, Bool.not_eq_false, Bool.not_true, Bool.not_false] at *; omega)) only [cast_succ, asrt_pos, wrap64_id, Option.bind_some, cond_true, cond_false, decide_eq_true, decide_eq_false, Int.toNat_natCast, Bool.not_true, Bool.not_false, Bool.and_true, Bool.true_and, Bool.and_false, Bool.false_and, Bool.or_true, Bool.true_or, Bool.or_false, Bool.false_or]
theorem good_thin {l : List Carton} (h : good l = true) : Thin l := by
  simp only [good, Bool.and_eq_true, decide_eq_true_eq, Bool.not_eq_true', List.any_eq_false, List.mem_range] at h
  refine ⟨by omega, fun c hc => ?_⟩
  obtain ⟨i, hi, rfl⟩ := List.getElem_of_mem hc
  have := h.2 i hi
  have := goodOne_thick (okA_good (okAt_okA (by simpa using this)))
  rwa [List.getD_eq_getElem?_getD, List.getElem?_eq_getElem hi] at this
end Go.Proofs.Ytfebeomnlkfgoaa
