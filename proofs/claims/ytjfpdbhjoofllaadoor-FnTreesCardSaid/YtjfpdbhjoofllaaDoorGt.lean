/-
  Named paths, who is under a function, shared paths; the plain law of trees. Plain.
-/
import Derived.Test.YtjfpdbhjoofllaaDoorGc
import Derived.Lib.Join
set_option linter.unusedSimpArgs false
set_option linter.unusedVariables false
namespace Go.Proofs.YtjfpdbhjoofllaaDoor
open Go.VS

/-! ### Lists -/
theorem contG (m : List Int) (x : Int) (hl : m.length < 1000000) : M.slices_Contains_int_int m x = some (m.any fun y => y == x) := by
  unfold M.slices_Contains_int_int M.slices_Index_int_int
  rcases iter_find (step := M.slices_Index_int_int_l0 m x) (s := 0) (fun k => (k : Int)) m.length (fun k => m.getD k default == x) (fun k => .inr (k : Int)) (.inl ()) rfl (by omega)
    (fun k hk hp => by
      have hp : (x == m.getD k default) = false := by rw [Bool.eq_false_iff] at hp ⊢; intro h; exact hp (by rw [eq_of_beq h]; exact beq_self_eq_true _)
      unfold M.slices_Index_int_int_l0
      simp (disch := first | omega | (intros; simp only [decide_eq_true_eq, decide_eq_false_iff_not, Bool.not_eq_true, Bool.not_eq_false, Bool.not_true, Bool.not_false] at *; omega)) only [cast_succ, asrt_pos, wrap64_id, Option.bind_some, cond_true, cond_false, decide_eq_true, decide_eq_false, Int.toNat_natCast, Bool.not_true, Bool.not_false, Bool.and_true, Bool.true_and, Bool.and_false, Bool.false_and, Bool.or_true, Bool.true_or, Bool.or_false, Bool.false_or, hp])
    (fun k hk hp => by
      have hp : (x == m.getD k default) = true := by rw [eq_of_beq hp]; exact beq_self_eq_true _
      unfold M.slices_Index_int_int_l0
      simp (disch := first | omega | (intros; simp only [decide_eq_true_eq, decide_eq_false_iff_not, Bool.not_eq_true, Bool.not_eq_false, Bool.not_true, Bool.not_false] at *; omega)) only [cast_succ, asrt_pos, wrap64_id, Option.bind_some, cond_true, cond_false, decide_eq_true, decide_eq_false, Int.toNat_natCast, Bool.not_true, Bool.not_false, Bool.and_true, Bool.true_and, Bool.and_false, Bool.false_and, Bool.or_true, Bool.true_or, Bool.or_false, Bool.false_or, hp])
    (by
      unfold M.slices_Index_int_int_l0
      simp (disch := first | omega | (intros; simp only [decide_eq_true_eq, decide_eq_false_iff_not, Bool.not_eq_true, Bool.not_eq_false, Bool.not_true, Bool.not_false] at *; omega)) only [cast_succ, asrt_pos, wrap64_id, Option.bind_some, cond_true, cond_false, decide_eq_true, decide_eq_false, Int.toNat_natCast, Bool.not_true, Bool.not_false, Bool.and_true, Bool.true_and, Bool.and_false, Bool.false_and, Bool.or_true, Bool.true_or, Bool.or_false, Bool.false_or]) with ⟨k, h1, h2, h3, h4⟩ | ⟨h1, h2⟩
  · rw [h4, List.any_eq_true.2 ⟨_, getD_mem h1, h2⟩]
    simp only [Option.bind_some]
    rw [decide_eq_true (by omega)]
  · rw [h2, any_getD (p := fun y => y == x), show ((List.range m.length).any fun k => m.getD k default == x) = false from by
      rw [List.any_eq_false]; intro k hk; rw [h1 k (List.mem_range.1 hk)]; simp]
    rfl
theorem hasG (m : List Int) (x : Int) (hl : m.length < 1000000) : M.spec_l1Has m x = some (m.any fun y => y == x) := by
  unfold M.spec_l1Has
  rw [iter_any (step := M.spec_l1Has_l0 m x) (s := 0) (fun k => (k : Int)) m.length (fun k => m.getD k default == x) (.inr true) (.inl ()) rfl (by omega)
    (fun k hk hp => by
      unfold M.spec_l1Has_l0
      simp (disch := first | omega | (intros; simp only [decide_eq_true_eq, decide_eq_false_iff_not, Bool.not_eq_true, Bool.not_eq_false, Bool.not_true, Bool.not_false] at *; omega)) only [cast_succ, asrt_pos, wrap64_id, Option.bind_some, cond_true, cond_false, decide_eq_true, decide_eq_false, Int.toNat_natCast, Bool.not_true, Bool.not_false, Bool.and_true, Bool.true_and, Bool.and_false, Bool.false_and, Bool.or_true, Bool.true_or, Bool.or_false, Bool.false_or, hp])
    (fun k hk hp => by
      unfold M.spec_l1Has_l0
      simp (disch := first | omega | (intros; simp only [decide_eq_true_eq, decide_eq_false_iff_not, Bool.not_eq_true, Bool.not_eq_false, Bool.not_true, Bool.not_false] at *; omega)) only [cast_succ, asrt_pos, wrap64_id, Option.bind_some, cond_true, cond_false, decide_eq_true, decide_eq_false, Int.toNat_natCast, Bool.not_true, Bool.not_false, Bool.and_true, Bool.true_and, Bool.and_false, Bool.false_and, Bool.or_true, Bool.true_or, Bool.or_false, Bool.false_or, hp])
    (by
      unfold M.spec_l1Has_l0
      simp (disch := first | omega | (intros; simp only [decide_eq_true_eq, decide_eq_false_iff_not, Bool.not_eq_true, Bool.not_eq_false, Bool.not_true, Bool.not_false] at *; omega)) only [cast_succ, asrt_pos, wrap64_id, Option.bind_some, cond_true, cond_false, decide_eq_true, decide_eq_false, Int.toNat_natCast, Bool.not_true, Bool.not_false, Bool.and_true, Bool.true_and, Bool.and_false, Bool.false_and, Bool.or_true, Bool.true_or, Bool.or_false, Bool.false_or]), ← any_getD (p := fun y => y == x)]
  cases m.any fun y => y == x <;> rfl
theorem rIntsT (a : List Int) (hl : a.length < 1000000) : M.laws_rInts a a = some true := by
  unfold M.laws_rInts
  rw [bne_self_eq_false, cond_false]
  rw [iter_up (s := 0) (step := M.laws_rInts_l0 a a) (e := .inl ()) (fun k => (k : Int)) a.length rfl (by omega) (fun k hk => by
    unfold M.laws_rInts_l0
    simp (disch := first | omega | (intros; simp only [decide_eq_true_eq, decide_eq_false_iff_not, Bool.not_eq_true, Bool.not_eq_false, Bool.not_true, Bool.not_false] at *; omega)) only [cast_succ, asrt_pos, wrap64_id, Option.bind_some, cond_true, cond_false, decide_eq_true, decide_eq_false, Int.toNat_natCast, Bool.not_true, Bool.not_false, Bool.and_true, Bool.true_and, Bool.and_false, Bool.false_and, Bool.or_true, Bool.true_or, Bool.or_false, Bool.false_or, bne_self_eq_false]) (by
    unfold M.laws_rInts_l0
    simp (disch := first | omega | (intros; simp only [decide_eq_true_eq, decide_eq_false_iff_not, Bool.not_eq_true, Bool.not_eq_false, Bool.not_true, Bool.not_false] at *; omega)) only [cast_succ, asrt_pos, wrap64_id, Option.bind_some, cond_true, cond_false, decide_eq_true, decide_eq_false, Int.toNat_natCast, Bool.not_true, Bool.not_false, Bool.and_true, Bool.true_and, Bool.and_false, Bool.false_and, Bool.or_true, Bool.true_or, Bool.or_false, Bool.false_or])]
  rfl
theorem rHasT (m : List Int) (x : Int) (hl : m.length < 1000000) : M.laws_rHas m x = some (m.any fun y => y == x) := by
  unfold M.laws_rHas
  rw [iter_any (step := M.laws_rHas_l0 m x) (s := 0) (fun k => (k : Int)) m.length (fun k => m.getD k default == x) (.inr true) (.inl ()) rfl (by omega)
    (fun k hk hp => by
      unfold M.laws_rHas_l0
      simp (disch := first | omega | (intros; simp only [decide_eq_true_eq, decide_eq_false_iff_not, Bool.not_eq_true, Bool.not_eq_false, Bool.not_true, Bool.not_false] at *; omega)) only [cast_succ, asrt_pos, wrap64_id, Option.bind_some, cond_true, cond_false, decide_eq_true, decide_eq_false, Int.toNat_natCast, Bool.not_true, Bool.not_false, Bool.and_true, Bool.true_and, Bool.and_false, Bool.false_and, Bool.or_true, Bool.true_or, Bool.or_false, Bool.false_or, hp])
    (fun k hk hp => by
      unfold M.laws_rHas_l0
      simp (disch := first | omega | (intros; simp only [decide_eq_true_eq, decide_eq_false_iff_not, Bool.not_eq_true, Bool.not_eq_false, Bool.not_true, Bool.not_false] at *; omega)) only [cast_succ, asrt_pos, wrap64_id, Option.bind_some, cond_true, cond_false, decide_eq_true, decide_eq_false, Int.toNat_natCast, Bool.not_true, Bool.not_false, Bool.and_true, Bool.true_and, Bool.and_false, Bool.false_and, Bool.or_true, Bool.true_or, Bool.or_false, Bool.false_or, hp])
    (by
      unfold M.laws_rHas_l0
      simp (disch := first | omega | (intros; simp only [decide_eq_true_eq, decide_eq_false_iff_not, Bool.not_eq_true, Bool.not_eq_false, Bool.not_true, Bool.not_false] at *; omega)) only [cast_succ, asrt_pos, wrap64_id, Option.bind_some, cond_true, cond_false, decide_eq_true, decide_eq_false, Int.toNat_natCast, Bool.not_true, Bool.not_false, Bool.and_true, Bool.true_and, Bool.and_false, Bool.false_and, Bool.or_true, Bool.true_or, Bool.or_false, Bool.false_or]), ← any_getD (p := fun y => y == x)]
  cases m.any fun y => y == x <;> rfl

/-! ### Names on a path -/
theorem up_mem {t : List Function} (h : TreeP t) : ∀ (n : Nat) (i : Int), (0 < i → hasF t i = true) → ∀ k ∈ up t n i, hasF t k = true ∧ 0 < k
  | 0, _, _, k, hk => by simp [up] at hk
  | n + 1, i, hi, k, hk => by
    by_cases h0 : 0 < i
    · rw [up_pos h0, List.mem_append, List.mem_singleton] at hk
      rcases hk with hk | hk
      · exact up_mem h n _ (par_ok h (hi h0)).2.2.2 k hk
      · subst hk; exact ⟨hi h0, h0⟩
    · rw [up_neg h0] at hk; simp at hk
theorem path_mem {t : List Function} (h : TreeP t) {i : Int} (hi : hasF t i = true) : ∀ k ∈ pathF t i, hasF t k = true ∧ 0 < k := up_mem h 100 i (fun _ => hi)
def nameF (t : List Function) (i : Int) : List UInt8 := (t.getD (atF t i).toNat default).Name
theorem name_ok {t : List Function} (h : TreeP t) {i : Int} (hi : hasF t i = true) : wordOk (nameF t i) = true := (fnOk_spec (h.ok _ (atF_spec hi).2.1)).2.2.2
theorem word_len {s : List UInt8} (h : wordOk s = true) : 1 ≤ s.length ∧ s.length ≤ 10 ∧ ∀ b ∈ s, b ≠ 47 := by
  unfold wordOk at h
  rw [Bool.and_eq_true, List.all_eq_true] at h
  have h1 := inR_true.1 h.1
  refine ⟨by omega, by omega, fun b hb e => ?_⟩
  have := h.2 b hb
  rw [e] at this
  exact absurd this (by decide)
theorem join_snoc (xs : List (List UInt8)) (x sep : List UInt8) : Go.Lib.join (xs ++ [x]) sep = if xs = [] then x else Go.Lib.join xs sep ++ (sep ++ x) := by
  cases xs with
  | nil => simp [Go.Lib.join_one]
  | cons y r =>
    rw [List.cons_append, Go.Lib.join_cons, Go.Lib.join_cons, if_neg (by simp)]
    unfold Go.Lib.joinTail
    simp
theorem join_len {sep : List UInt8} (hs : sep.length = 1) : ∀ (n : Nat) (xs : List (List UInt8)), xs.length = n → (∀ x ∈ xs, x.length ≤ 10) → (Go.Lib.join xs sep).length ≤ 11 * n := by
  intro n
  induction n with
  | zero => intro xs h _; rw [List.length_eq_zero_iff.1 h]; simp [Go.Lib.join_nil]
  | succ n ih =>
    intro xs h hx
    rcases List.eq_nil_or_concat xs with e | ⟨ys, y, e⟩
    · rw [e] at h; simp at h
    · rw [List.concat_eq_append] at e
      subst e
      have hy := hx y (by simp)
      have := ih ys (by simpa using h) (fun x hx' => hx x (by simp [hx']))
      rw [join_snoc]
      split
      · omega
      · simp only [List.length_append]; omega
def namesF (t : List Function) (i : Int) : List (List UInt8) := (pathF t i).map (nameF t)
def namedF (t : List Function) (i : Int) : List UInt8 := Go.Lib.join (namesF t i) [47]
theorem named_len {t : List Function} (h : TreeP t) {i : Int} (hi : hasF t i = true) : (namedF t i).length ≤ 1100 := by
  have h1 := path_len (t := t) (i := i)
  have := join_len (sep := [47]) rfl (namesF t i).length (namesF t i) rfl (fun x hx => by
    obtain ⟨k, hk, rfl⟩ := List.mem_map.1 hx
    exact (word_len (name_ok h (path_mem h hi k hk).1)).2.1)
  have e : (namesF t i).length = (pathF t i).length := List.length_map ..
  unfold namedF
  omega
theorem namedI (t : List Function) (i : Int) (h : TreeP t) (hi : hasF t i = true) : M.impl_namedPath t i = some (namedF t i) := by
  have hp := path_len (t := t) (i := i)
  have hlen := h.len
  unfold M.impl_namedPath
  rw [pathI t i h hi, Option.bind_some]
  rw [iter_coll (s := (([] : List (List UInt8)), (0 : Int))) (step := M.impl_namedPath_l0 t (pathF t i)) (fun a k => (a, (k : Int))) (fun k : Int => [nameF t k]) id (pathF t i) rfl (by omega) (fun k _ => by simp) (fun a k hk ha => by
    have hm := (path_mem h hi _ (getD_mem hk)).1
    obtain ⟨g0, g1, g2, g3⟩ := atF_spec hm
    unfold M.impl_namedPath_l0
    dsimp only
    rw [decide_eq_true (show (k : Int) < ((pathF t i).length : Int) by omega), cond_true, asrt_pos ⟨by omega, by omega⟩, Int.toNat_natCast, atFI t _ (by omega), Option.bind_some, asrt_pos ⟨g0, g2⟩, asrt_pos (by simp; omega), wrap64_id (by omega) (by omega)]
    rfl) (fun a ha => by
    unfold M.impl_namedPath_l0
    dsimp only
    rw [decide_eq_false (by omega)]
    rfl)]
  have e : (pathF t i).flatMap (fun k => [nameF t k]) = namesF t i := by unfold namesF; rw [List.map_eq_flatMap]
  have hL := named_len h hi
  have e2 : (namesF t i).length = (pathF t i).length := List.length_map ..
  simp only [id, Option.bind_some, e]
  unfold M.strings_Join
  rw [asrt_pos ⟨by omega, by unfold namedF at hL; omega⟩]
  rfl
theorem take_map_snoc {β γ : Type} [Inhabited β] {l : List β} {g : β → γ} {k : Nat} (h : k < l.length) : (l.take (k + 1)).map g = (l.take k).map g ++ [g (l.getD k default)] := by
  rw [List.take_add_one, List.map_append]
  simp [List.getD, h, List.getElem?_eq_getElem]
theorem namedS (t : List Function) (i : Int) (h : TreeP t) (hi : hasF t i = true) : M.spec_l3Named t i = some (namedF t i) := by
  have hp := path_len (t := t) (i := i)
  have hlen := h.len
  have hw : ∀ k, (∀ x ∈ ((pathF t i).take k).map (nameF t), x.length ≤ 10) := by
    intro k x hx
    obtain ⟨j, hj, rfl⟩ := List.mem_map.1 hx
    exact (word_len (name_ok h (path_mem h hi j (List.mem_of_mem_take hj)).1)).2.1
  unfold M.spec_l3Named
  rw [pathS t i h hi, Option.bind_some]
  rw [iter_up (s := (([] : List UInt8), (0 : Int))) (step := M.spec_l3Named_l0 t (pathF t i)) (e := namedF t i) (fun k => (Go.Lib.join (((pathF t i).take k).map (nameF t)) [47], (k : Int))) (pathF t i).length (by simp [Go.Lib.join_nil]) (by omega) (fun k hk => by
    have hm := (path_mem h hi _ (getD_mem hk)).1
    obtain ⟨g0, g1, g2, g3⟩ := atF_spec hm
    have hJ := join_len (sep := [47]) rfl _ _ rfl (hw k)
    have hN := (word_len (name_ok h hm)).2.1
    have e2 : (((pathF t i).take k).map (nameF t)).length = k := by rw [List.length_map, List.length_take]; omega
    rw [e2] at hJ
    unfold M.spec_l3Named_l0
    dsimp only
    rw [decide_eq_true (show (k : Int) < ((pathF t i).length : Int) by omega), cond_true, wrap64_id (by omega) (by omega), take_map_snoc hk, join_snoc]
    by_cases h0 : k = 0
    · subst h0
      rw [decide_eq_false (by omega), cond_false, Option.bind_some, asrt_pos ⟨by omega, by omega⟩, Int.toNat_natCast, atFS t _ (by omega), Option.bind_some, asrt_pos ⟨g0, g2⟩, asrt_pos (by unfold nameF at hN; simp only [List.take_zero, List.map_nil, Go.Lib.join_nil, List.length_nil]; omega)]
      simp [Go.Lib.join_nil, nameF]
    · have hne : ((pathF t i).take k).map (nameF t) ≠ [] := fun e => by rw [e] at e2; simp at e2; omega
      rw [decide_eq_true (by omega), cond_true, asrt_pos (by simp only [List.length_cons, List.length_nil]; omega), Option.bind_some, asrt_pos ⟨by omega, by omega⟩, Int.toNat_natCast, atFS t _ (by omega), Option.bind_some, asrt_pos ⟨g0, g2⟩, asrt_pos (by unfold nameF at hN; simp only [List.length_append, List.length_cons, List.length_nil]; omega), if_neg hne]
      simp [nameF]) (by
    unfold M.spec_l3Named_l0
    dsimp only
    rw [decide_eq_false (by omega), List.take_length]
    rfl)]
  rfl

def NamedD (t : List Function) (i : Int) : List UInt8 × Bool := bif treeOk t && hasF t i then (namedF t i, true) else ([], false)
theorem namedDI (t : List Function) (i : Int) (hl : FnB t) : M.impl_NamedPath t i = some (NamedD t i) := by
  unfold M.impl_NamedPath NamedD
  rw [treeI t hl, Option.bind_some]
  cases h : treeOk t
  · rfl
  rw [Bool.not_true, cond_false, atFI t i hl.1, Option.bind_some, atF_neg, Bool.false_or, Bool.true_and]
  cases h2 : hasF t i
  · rfl
  rw [Bool.not_true, cond_false, namedI t i (treeOk_iff.1 h) h2, Option.bind_some, cond_true]
theorem namedDS (t : List Function) (i : Int) (hl : FnB t) : M.spec_NamedPath t i = some (NamedD t i) := by
  unfold M.spec_NamedPath NamedD
  rw [treeS t hl, Option.bind_some]
  cases h : treeOk t
  · rfl
  rw [Bool.not_true, cond_false, atFS t i hl.1, Option.bind_some, atF_neg, Bool.false_or, Bool.true_and]
  cases h2 : hasF t i
  · rfl
  rw [Bool.not_true, cond_false, namedS t i (treeOk_iff.1 h) h2, Option.bind_some, cond_true]

/-! ### A function is found by its named path -/
def FindD (t : List Function) (p : List UInt8) : Int × Bool := bif treeOk t then (match t.find? (fun f => namedF t f.Id == p) with | some f => (f.Id, true) | none => (0, false)) else (0, false)
theorem findI (t : List Function) (p : List UInt8) (hl : FnB t) : M.impl_FindPath t p = some (FindD t p) := by
  have hb := hl.1
  unfold M.impl_FindPath FindD
  rw [treeI t hl, Option.bind_some]
  cases h : treeOk t
  · rfl
  have hT := treeOk_iff.1 h
  rw [Bool.not_true, cond_false, cond_true]
  rcases iter_find (step := M.impl_FindPath_l0 t p) (s := 0) (fun k => (k : Int)) t.length (fun k => namedF t (t.getD k default).Id == p) (fun k => .inr ((t.getD k default).Id, true)) (.inl ()) rfl (by omega)
    (fun k hk hp => by
      unfold M.impl_FindPath_l0
      dsimp only
      rw [decide_eq_true (show (k : Int) < (t.length : Int) by omega), cond_true, asrt_pos ⟨by omega, by omega⟩, Int.toNat_natCast, namedI t _ hT (hasF_at hk), Option.bind_some, hp, cond_false, wrap64_id (by omega) (by omega)]
      rfl)
    (fun k hk hp => by
      unfold M.impl_FindPath_l0
      dsimp only
      rw [decide_eq_true (show (k : Int) < (t.length : Int) by omega), cond_true, asrt_pos ⟨by omega, by omega⟩, Int.toNat_natCast, namedI t _ hT (hasF_at hk), Option.bind_some, hp, cond_true])
    (by
      unfold M.impl_FindPath_l0
      dsimp only
      rw [decide_eq_false (by omega)]
      rfl) with ⟨k, h1, h2, h3, h4⟩ | ⟨h1, h2⟩
  · rw [h4, find_at (p := fun f : Function => namedF t f.Id == p) h1 h2 h3]
    rfl
  · rw [h2, find_none' (p := fun f : Function => namedF t f.Id == p) h1]
    rfl
theorem findSp (t : List Function) (p : List UInt8) (hl : FnB t) : M.spec_FindPath t p = some (FindD t p) := by
  have hb := hl.1
  unfold M.spec_FindPath FindD
  cases h : treeOk t
  · rw [iter_up (s := 0) (step := M.spec_FindPath_l0 t p) (e := .inl ()) (fun k => (k : Int)) 0 rfl (by omega) (fun k hk => absurd hk (Nat.not_lt_zero _)) (by
      unfold M.spec_FindPath_l0
      dsimp only
      cases hd : decide (((0 : Nat) : Int) < (t.length : Int))
      · rfl
      · rw [cond_true, treeS t hl, Option.bind_some, h, Bool.and_false]
        rfl)]
    rfl
  have hT := treeOk_iff.1 h
  rw [cond_true]
  rcases iter_find (step := M.spec_FindPath_l0 t p) (s := 0) (fun k => (k : Int)) t.length (fun k => namedF t (t.getD k default).Id == p) (fun k => .inr ((t.getD k default).Id, true)) (.inl ()) rfl (by omega)
    (fun k hk hp => by
      unfold M.spec_FindPath_l0
      dsimp only
      rw [decide_eq_true (show (k : Int) < (t.length : Int) by omega), cond_true, treeS t hl, Option.bind_some, h, Bool.and_self, cond_true, asrt_pos ⟨by omega, by omega⟩, Int.toNat_natCast, namedS t _ hT (hasF_at hk), Option.bind_some, hp, cond_false, wrap64_id (by omega) (by omega)]
      rfl)
    (fun k hk hp => by
      unfold M.spec_FindPath_l0
      dsimp only
      rw [decide_eq_true (show (k : Int) < (t.length : Int) by omega), cond_true, treeS t hl, Option.bind_some, h, Bool.and_self, cond_true, asrt_pos ⟨by omega, by omega⟩, Int.toNat_natCast, namedS t _ hT (hasF_at hk), Option.bind_some, hp, cond_true, asrt_pos ⟨by omega, by omega⟩])
    (by
      unfold M.spec_FindPath_l0
      dsimp only
      rw [decide_eq_false (by omega)]
      rfl) with ⟨k, h1, h2, h3, h4⟩ | ⟨h1, h2⟩
  · rw [h4, find_at (p := fun f : Function => namedF t f.Id == p) h1 h2 h3]
    rfl
  · rw [h2, find_none' (p := fun f : Function => namedF t f.Id == p) h1]
    rfl
theorem seg_one {x b y : List UInt8} (hx : ∀ c ∈ x, c ≠ 47) (h : x = b ++ ([47] ++ y)) : False := by
  exact hx 47 (by rw [h]; simp) rfl
theorem seg_two : ∀ {a b x y : List UInt8}, (∀ c ∈ x, c ≠ (47 : UInt8)) → (∀ c ∈ y, c ≠ (47 : UInt8)) → a ++ ([47] ++ x) = b ++ ([47] ++ y) → a = b ∧ x = y := by
  intro a b x y hx hy h
  rcases List.append_eq_append_iff.1 h with ⟨c, h1, h2⟩ | ⟨c, h1, h2⟩
  · cases c with
    | nil => simp at h1 h2; exact ⟨h1.symm, h2⟩
    | cons z c =>
      simp only [List.singleton_append, List.cons_append, List.cons.injEq] at h2
      exact absurd h2.2 (fun e => hx 47 (by have e' : x = c ++ 47 :: y := e; rw [e']; simp) rfl)
  · cases c with
    | nil => simp at h1 h2; exact ⟨h1, h2.symm⟩
    | cons z c =>
      simp only [List.singleton_append, List.cons_append, List.cons.injEq] at h2
      exact absurd h2.2 (fun e => hy 47 (by have e' : y = c ++ 47 :: x := e; rw [e']; simp) rfl)
theorem named_up {t : List Function} (h : TreeP t) {i : Int} (hi : hasF t i = true) (h0 : 0 < i) : namedF t i = if 0 < parF t i then namedF t (parF t i) ++ ([47] ++ nameF t i) else nameF t i := by
  unfold namedF namesF
  rw [path_pos h hi h0, List.map_append, List.map_singleton, join_snoc]
  by_cases hp : 0 < parF t i
  · have hh := (par_ok h hi).2.2.2 hp
    have hne : (pathF t (parF t i)).map (nameF t) ≠ [] := by rw [path_pos h hh hp]; simp
    rw [if_neg hne, if_pos hp]
  · have e : pathF t (parF t i) = [] := up_neg hp
    rw [e, if_neg hp]
    rfl
theorem same_fn {t : List Function} (h : TreeP t) {i j : Int} (hi : hasF t i = true) (hj : hasF t j = true) (hp : parF t i = parF t j) (hn : nameF t i = nameF t j) : i = j := by
  obtain ⟨a0, a1, a2, a3⟩ := atF_spec hi
  obtain ⟨b0, b1, b2, b3⟩ := atF_spec hj
  have key : ∀ a b, a < b → b < t.length → (t.getD a default).Parent = (t.getD b default).Parent → (t.getD a default).Name = (t.getD b default).Name → False := by
    intro a b hab hb e1 e2
    have := h.one b hb
    rw [List.any_eq_false] at this
    refine this (t.getD a default) ?_ (by unfold twin; rw [e1, e2]; simp)
    rw [getD_el (show a < t.length by omega)]
    exact List.mem_iff_getElem.2 ⟨a, by rw [List.length_take]; omega, by rw [List.getElem_take]⟩
  rcases Nat.lt_trichotomy (atF t i).toNat (atF t j).toNat with q | q | q
  · exact (key _ _ q b1 hp hn).elim
  · rw [← a3, ← b3, q]
  · exact (key _ _ q a1 hp.symm hn.symm).elim
theorem named_one {t : List Function} (h : TreeP t) : ∀ (n : Nat) (i j : Int), i < (n : Int) → hasF t i = true → hasF t j = true → 0 < i → 0 < j → namedF t i = namedF t j → i = j
  | 0, i, j, hn, _, _, h0, _, _ => by omega
  | n + 1, i, j, hn, hi, hj, h0, h0', e => by
    have wi := (word_len (name_ok h hi)).2.2
    have wj := (word_len (name_ok h hj)).2.2
    obtain ⟨p0, p1, _, p3⟩ := par_ok h hi
    obtain ⟨q0, q1, _, q3⟩ := par_ok h hj
    rw [named_up h hi h0, named_up h hj h0'] at e
    by_cases hp : 0 < parF t i
    · by_cases hq : 0 < parF t j
      · rw [if_pos hp, if_pos hq] at e
        obtain ⟨e1, e2⟩ := seg_two wi wj e
        exact same_fn h hi hj (named_one h n _ _ (by omega) (p3 hp) (q3 hq) hp hq e1) e2
      · rw [if_pos hp, if_neg hq] at e
        exact (seg_one wj e.symm).elim
    · by_cases hq : 0 < parF t j
      · rw [if_neg hp, if_pos hq] at e
        exact (seg_one wi e).elim
      · rw [if_neg hp, if_neg hq] at e
        exact same_fn h hi hj (by omega) e
theorem hasF_pos {t : List Function} (h : TreeP t) {i : Int} (hi : hasF t i = true) : 0 < i := by
  obtain ⟨a0, a1, a2, a3⟩ := atF_spec hi
  have := (fnOk_spec (h.ok _ a1)).1
  omega
theorem found {t : List Function} {i : Int} (h : treeOk t = true) (hi : hasF t i = true) : FindD t (namedF t i) = (i, true) := by
  have hT := treeOk_iff.1 h
  obtain ⟨a0, a1, a2, a3⟩ := atF_spec hi
  unfold FindD
  rw [h, cond_true]
  cases hf : t.find? (fun f => namedF t f.Id == namedF t i) with
  | none =>
    have := List.find?_eq_none.1 hf _ (getD_mem a1)
    rw [a3] at this
    simp at this
  | some f =>
    have h1 := List.mem_of_find?_eq_some hf
    have h2 := eq_of_beq (List.find?_some (p := fun f : Function => namedF t f.Id == namedF t i) hf)
    have h3 : hasF t f.Id = true := List.any_eq_true.2 ⟨f, h1, beq_self_eq_true _⟩
    have := named_one hT (f.Id.toNat + 1) f.Id i (by omega) h3 hi (hasF_pos hT h3) (hasF_pos hT hi) h2
    simp only [this]

/-! ### Who is under a function -/
def UnderD (t : List Function) (i : Int) : List Int × Bool := bif treeOk t && hasF t i then ((t.filter fun f => (pathF t f.Id).any fun y => y == i).map fun f => f.Id, true) else ([], false)
theorem under_len {t : List Function} {i : Int} (hl : t.length < 1000000) : (UnderD t i).1.length < 1000000 := by
  unfold UnderD
  cases treeOk t && hasF t i
  · simp
  · have := List.length_filter_le (fun f : Function => (pathF t f.Id).any fun y => y == i) t
    simp only [cond_true, List.length_map]
    omega
theorem underI (t : List Function) (i : Int) (hl : FnB t) : M.impl_UnderOf t i = some (UnderD t i) := by
  have hb := hl.1
  unfold M.impl_UnderOf UnderD
  rw [treeI t hl, Option.bind_some]
  cases h : treeOk t
  · rfl
  rw [Bool.not_true, cond_false, atFI t i hl.1, Option.bind_some, atF_neg, Bool.false_or, Bool.true_and]
  cases h2 : hasF t i
  · rfl
  have hT := treeOk_iff.1 h
  rw [Bool.not_true, cond_false, cond_true]
  rw [iter_coll (s := (([] : List Int), (0 : Int))) (step := M.impl_UnderOf_l0 t i) (fun a k => (a, (k : Int))) (fun f : Function => bif (pathF t f.Id).any fun y => y == i then [f.Id] else []) id t rfl (by omega) (fun k _ => if_len _ _) (fun a k hk ha => by
    unfold M.impl_UnderOf_l0
    dsimp only
    rw [decide_eq_true (show (k : Int) < (t.length : Int) by omega), cond_true, asrt_pos ⟨by omega, by omega⟩, Int.toNat_natCast, pathI t _ hT (hasF_at hk), Option.bind_some, contG _ _ (by have := path_len (t := t) (i := (t.getD k default).Id); omega), Option.bind_some, wrap64_id (by omega) (by omega), app_if]
    cases (pathF t (t.getD k default).Id).any fun y => y == i
    · rfl
    · rw [cond_true, cond_true, asrt_pos (by simp; omega)]
      rfl) (fun a ha => by
    unfold M.impl_UnderOf_l0
    dsimp only
    rw [decide_eq_false (by omega)]
    rfl)]
  simp only [id, Option.bind_some, flatMap_if]
theorem underS (t : List Function) (i : Int) (hl : FnB t) : M.spec_UnderOf t i = some (UnderD t i) := by
  have hb := hl.1
  unfold M.spec_UnderOf UnderD
  rw [treeS t hl, Option.bind_some]
  cases h : treeOk t
  · rfl
  rw [Bool.not_true, cond_false, atFS t i hl.1, Option.bind_some, atF_neg, Bool.false_or, Bool.true_and]
  cases h2 : hasF t i
  · rfl
  have hT := treeOk_iff.1 h
  rw [Bool.not_true, cond_false, cond_true]
  rw [iter_coll (s := (([] : List Int), (0 : Int))) (step := M.spec_UnderOf_l0 t i) (fun a k => (a, (k : Int))) (fun f : Function => bif (pathF t f.Id).any fun y => y == i then [f.Id] else []) id t rfl (by omega) (fun k _ => if_len _ _) (fun a k hk ha => by
    unfold M.spec_UnderOf_l0
    dsimp only
    rw [decide_eq_true (show (k : Int) < (t.length : Int) by omega), cond_true, asrt_pos ⟨by omega, by omega⟩, Int.toNat_natCast, pathS t _ hT (hasF_at hk), Option.bind_some, hasG _ _ (by have := path_len (t := t) (i := (t.getD k default).Id); omega), Option.bind_some, wrap64_id (by omega) (by omega), app_if]
    cases (pathF t (t.getD k default).Id).any fun y => y == i
    · rfl
    · rw [cond_true, cond_true, asrt_pos ⟨by omega, by omega⟩, asrt_pos (by simp; omega)]
      rfl) (fun a ha => by
    unfold M.spec_UnderOf_l0
    dsimp only
    rw [decide_eq_false (by omega)]
    rfl)]
  simp only [id, Option.bind_some, flatMap_if]
theorem underLoop (t : List Function) (i : Int) (hl : FnB t) : iterO (M.laws_FnTrees_l0 (t, i) (UnderD t i)) (0 : Int) = some (.inl ()) := by
  have hb := hl.1
  have hu := under_len (t := t) (i := i) hb
  cases h : treeOk t && hasF t i
  · have e : UnderD t i = ([], false) := by unfold UnderD; rw [h]; rfl
    rw [e]
    refine iter_up (s := 0) (fun k => (k : Int)) 0 rfl (by omega) (fun k hk => absurd hk (Nat.not_lt_zero _)) ?_
    unfold M.laws_FnTrees_l0
    dsimp only
    rw [Bool.and_false]
    rfl
  · have e : UnderD t i = ((t.filter fun f => (pathF t f.Id).any fun y => y == i).map fun f => f.Id, true) := by unfold UnderD; rw [h]; rfl
    rw [Bool.and_eq_true] at h
    have hT := treeOk_iff.1 h.1
    refine iter_up (s := 0) (fun k => (k : Int)) t.length rfl (by omega) (fun k hk => ?_) ?_
    · have hP : PathD t (t.getD k default).Id = (pathF t (t.getD k default).Id, true) := by unfold PathD; rw [h.1, hasF_at hk]; rfl
      have hS : ((UnderD t i).1.any fun y => y == (t.getD k default).Id) = (pathF t (t.getD k default).Id).any fun y => y == i := by
        rw [e, Bool.eq_iff_iff, List.any_eq_true]
        constructor
        · rintro ⟨y, hy, e2⟩
          obtain ⟨x, hx, rfl⟩ := List.mem_map.1 hy
          obtain ⟨_, hm⟩ := List.mem_filter.1 hx
          rw [eq_of_beq e2] at hm
          exact hm
        · intro hm
          exact ⟨_, List.mem_map.2 ⟨_, List.mem_filter.2 ⟨getD_mem hk, hm⟩, rfl⟩, beq_self_eq_true _⟩
      have e2 : (UnderD t i).2 = true := by rw [e]
      unfold M.laws_FnTrees_l0
      dsimp only
      rw [decide_eq_true (show (k : Int) < (t.length : Int) by omega), e2, Bool.and_self, cond_true, asrt_pos ⟨by omega, by omega⟩, Int.toNat_natCast, pathDI t _ hl, Option.bind_some, hP]
      dsimp only
      rw [asrt_pos (fun _ => ⟨by omega, by omega⟩), Bool.not_true, cond_false, cond_false, rHasT _ _ hu, Option.bind_some, rHasT _ _ (by have := path_len (t := t) (i := (t.getD k default).Id); omega), Option.bind_some, hS, beq_self_eq_true, Bool.not_true, Bool.or_self, cond_false, wrap64_id (by omega) (by omega)]
      rfl
    · unfold M.laws_FnTrees_l0
      dsimp only
      rw [decide_eq_false (by omega), Bool.false_and]
      rfl

/-! ### Shared paths -/
def cpl : List Int → List Int → Nat
  | x :: a, y :: b => bif x == y then cpl a b + 1 else 0
  | _, _ => 0
theorem cpl_le : ∀ (a b : List Int), cpl a b ≤ a.length ∧ cpl a b ≤ b.length
  | [], _ => by simp [cpl]
  | _ :: _, [] => by simp [cpl]
  | x :: a, y :: b => by
    have := cpl_le a b
    unfold cpl
    cases x == y
    · simp
    · simp only [cond_true, List.length_cons]; omega
theorem cpl_eq : ∀ (a b : List Int) (j : Nat), j < cpl a b → a.getD j default = b.getD j default
  | [], _, j, h => by simp [cpl] at h
  | _ :: _, [], j, h => by simp [cpl] at h
  | x :: a, y :: b, j, h => by
    unfold cpl at h
    cases hx : x == y
    · rw [hx] at h; simp at h
    · rw [hx, cond_true] at h
      cases j with
      | zero => simpa using eq_of_beq hx
      | succ j => simpa using cpl_eq a b j (by omega)
theorem cpl_ne : ∀ (a b : List Int), cpl a b < a.length → cpl a b < b.length → (a.getD (cpl a b) default == b.getD (cpl a b) default) = false
  | [], _, h, _ => by simp at h
  | _ :: _, [], _, h => by simp at h
  | x :: a, y :: b, h1, h2 => by
    unfold cpl at h1 h2 ⊢
    cases hx : x == y
    · simpa using hx
    · rw [hx, cond_true] at h1 h2
      rw [cond_true]
      simp only [List.length_cons] at h1 h2
      simpa using cpl_ne a b (by omega) (by omega)
theorem cpl_take (a b : List Int) : a.take (cpl a b) = b.take (cpl a b) := by
  obtain ⟨h1, h2⟩ := cpl_le a b
  apply List.ext_getElem
  · rw [List.length_take, List.length_take]; omega
  · intro j hj hj'
    rw [List.length_take] at hj
    have := cpl_eq a b j (by omega)
    rw [List.getElem_take, List.getElem_take]
    rwa [getD_el (show j < a.length by omega), getD_el (show j < b.length by omega)] at this
def SharedD (t : List Function) (a b : Int) : List Int × Bool := bif (treeOk t && hasF t a) && hasF t b then ((pathF t a).take (cpl (pathF t a) (pathF t b)), true) else ([], false)
theorem shared_len {t : List Function} {a b : Int} : (SharedD t a b).1.length < 1000000 := by
  unfold SharedD
  cases (treeOk t && hasF t a) && hasF t b
  · simp
  · have := path_len (t := t) (i := a)
    simp only [cond_true, List.length_take]
    omega
theorem cplI (a b : List Int) (ha : a.length < 1000000) (hb : b.length < 1000000) : iterO (M.impl_SharedPath_l0 a b) 0 = some ((cpl a b : Nat) : Int) := by
  obtain ⟨h1, h2⟩ := cpl_le a b
  refine iter_up (s := 0) (fun k => (k : Int)) (cpl a b) rfl (by omega) (fun k hk => ?_) ?_
  · unfold M.impl_SharedPath_l0
    dsimp only
    rw [asrt_pos (fun _ => ⟨by omega, by omega⟩), asrt_pos (fun _ => ⟨by omega, by omega⟩), decide_eq_true (show (k : Int) < (a.length : Int) by omega), decide_eq_true (show (k : Int) < (b.length : Int) by omega), Int.toNat_natCast, cpl_eq a b k hk, beq_self_eq_true, Bool.and_self, Bool.and_self, cond_true, wrap64_id (by omega) (by omega)]
    rfl
  · unfold M.impl_SharedPath_l0
    dsimp only
    by_cases q1 : cpl a b < a.length
    · by_cases q2 : cpl a b < b.length
      · rw [asrt_pos (fun _ => ⟨by omega, by omega⟩), asrt_pos (fun _ => ⟨by omega, by omega⟩), Int.toNat_natCast, cpl_ne a b q1 q2, Bool.and_false]
        rfl
      · rw [decide_eq_false (show ¬ (((cpl a b : Nat) : Int) < (b.length : Int)) by omega), Bool.and_false, asrt_pos (fun h => by cases h), asrt_pos (fun h => by cases h), Bool.false_and]
        rfl
    · rw [decide_eq_false (show ¬ (((cpl a b : Nat) : Int) < (a.length : Int)) by omega), Bool.false_and, asrt_pos (fun h => by cases h), asrt_pos (fun h => by cases h), Bool.false_and]
      rfl
theorem cplS (a b : List Int) (ha : a.length < 1000000) (hb : b.length < 1000000) : iterO (M.spec_SharedPath_l0 a b) (([] : List Int), 0) = some (a.take (cpl a b)) := by
  obtain ⟨h1, h2⟩ := cpl_le a b
  refine iter_up (s := (([] : List Int), (0 : Int))) (fun k => (a.take k, (k : Int))) (cpl a b) rfl (by omega) (fun k hk => ?_) ?_
  · unfold M.spec_SharedPath_l0
    dsimp only
    have ht : a.take (k + 1) = a.take k ++ [a.getD k default] := by
      have := take_map_snoc (l := a) (g := id) (k := k) (by omega)
      simpa using this
    rw [asrt_pos (fun _ => ⟨by omega, by omega⟩), asrt_pos (fun _ => ⟨by omega, by omega⟩), decide_eq_true (show (k : Int) < (a.length : Int) by omega), decide_eq_true (show (k : Int) < (b.length : Int) by omega), Int.toNat_natCast, ← cpl_eq a b k hk, beq_self_eq_true, Bool.and_self, Bool.and_self, cond_true, asrt_pos ⟨by omega, by omega⟩, asrt_pos (by simp; omega), wrap64_id (by omega) (by omega), ht]
    rfl
  · unfold M.spec_SharedPath_l0
    dsimp only
    by_cases q1 : cpl a b < a.length
    · by_cases q2 : cpl a b < b.length
      · rw [asrt_pos (fun _ => ⟨by omega, by omega⟩), asrt_pos (fun _ => ⟨by omega, by omega⟩), Int.toNat_natCast, cpl_ne a b q1 q2, Bool.and_false]
        rfl
      · rw [decide_eq_false (show ¬ (((cpl a b : Nat) : Int) < (b.length : Int)) by omega), Bool.and_false, asrt_pos (fun h => by cases h), asrt_pos (fun h => by cases h), Bool.false_and]
        rfl
    · rw [decide_eq_false (show ¬ (((cpl a b : Nat) : Int) < (a.length : Int)) by omega), Bool.false_and, asrt_pos (fun h => by cases h), asrt_pos (fun h => by cases h), Bool.false_and]
      rfl
theorem sharedI (t : List Function) (a b : Int) (hl : FnB t) : M.impl_SharedPath t a b = some (SharedD t a b) := by
  unfold M.impl_SharedPath SharedD
  rw [treeI t hl, Option.bind_some]
  cases h : treeOk t
  · rfl
  rw [Bool.not_true, cond_false, atFI t a hl.1, Option.bind_some, atF_neg, Bool.false_or, Bool.true_and]
  cases h2 : hasF t a
  · rfl
  rw [Bool.not_true, cond_false, atFI t b hl.1, Option.bind_some, atF_neg, Bool.false_or, Bool.true_and]
  cases h3 : hasF t b
  · rfl
  have hT := treeOk_iff.1 h
  have p1 := path_len (t := t) (i := a)
  have p2 := path_len (t := t) (i := b)
  have p3 := cpl_le (pathF t a) (pathF t b)
  rw [Bool.not_true, cond_false, cond_true, pathI t a hT h2, Option.bind_some, pathI t b hT h3, Option.bind_some, cplI _ _ (by omega) (by omega), Option.bind_some]
  dsimp only
  rw [asrt_pos ⟨by omega, by omega, by omega⟩, slcT]
theorem sharedS (t : List Function) (a b : Int) (hl : FnB t) : M.spec_SharedPath t a b = some (SharedD t a b) := by
  unfold M.spec_SharedPath SharedD
  rw [treeS t hl, Option.bind_some]
  cases h : treeOk t
  · rfl
  rw [Bool.not_true, cond_false, atFS t a hl.1, Option.bind_some, atF_neg, Bool.false_or, Bool.true_and]
  cases h2 : hasF t a
  · rfl
  rw [Bool.not_true, cond_false, atFS t b hl.1, Option.bind_some, atF_neg, Bool.false_or, Bool.true_and]
  cases h3 : hasF t b
  · rfl
  have hT := treeOk_iff.1 h
  have p1 := path_len (t := t) (i := a)
  have p2 := path_len (t := t) (i := b)
  rw [Bool.not_true, cond_false, cond_true, pathS t a hT h2, Option.bind_some, pathS t b hT h3, Option.bind_some, cplS _ _ (by omega) (by omega), Option.bind_some]

/-! ### Draws -/
theorem slc_lenT {β : Type} {l : List β} {i j : Int} (h0 : 0 ≤ i) (h1 : i ≤ j) (h2 : j ≤ (l.length : Int)) : (slc l i j).length = (j - i).toNat := by
  unfold slc
  simp only [List.length_drop, List.length_take]
  omega
theorem drawSpoilt {code : List Int} {k : Nat} {c : Cur} (hb : Bytes code) (h : Good code k c) (hk : k < 700000000) (t w : List UInt8) (ht : t.length < 1000000) (hw : 1 ≤ w.length ∧ w.length < 1000000) : T (M.spec_l1Cur_spoilt c t w) (fun _ => True) := by
  unfold M.spec_l1Cur_spoilt
  refine T_if (fun _ => T_ask ⟨by omega, by omega, by omega⟩ (T_ret trivial)) (fun hn => ?_)
  have h0 : 0 < t.length := by
    cases t with
    | nil => exact absurd hn (by decide)
    | cons x t => simp
  refine T_pick hb h (by omega) ?_
  intro x c1 _ hx h1
  have hx := hx (by omega)
  refine T_pick hb h1 (by omega) ?_
  intro y c2 _ hy h2
  have hy := hy (by omega)
  dsimp only
  have e1 := slc_lenT (l := w) (i := y) (j := (w.length : Int)) (by omega) (by omega) (by omega)
  have e2 := slc_lenT (l := slc w y (w.length : Int)) (i := 0) (j := 1) (by omega) (by omega) (by omega)
  have e3 := slc_lenT (l := t) (i := 0) (j := x) (by omega) (by omega) (by omega)
  have e4 := slc_lenT (l := t) (i := x) (j := (t.length : Int)) (by omega) (by omega) (by omega)
  have e5 := slc_lenT (l := t) (i := x + 1) (j := (t.length : Int)) (by omega) (by omega) (by omega)
  refine T_ask ⟨by omega, by omega, by omega⟩ (T_ask ⟨by omega, by omega, by omega⟩ ?_)
  refine T_pick hb h2 (by omega) ?_
  intro z c3 _ _ h3
  dsimp only
  rw [wrap64_id (n := x + 1) (by omega) (by omega)]
  refine T_if (fun _ => ?_) (fun _ => T_if (fun _ => ?_) (fun _ => ?_))
  · exact T_ask ⟨by omega, by omega, by omega⟩ (T_ask (by omega) (T_ask ⟨by omega, by omega, by omega⟩ (T_ask (by rw [List.length_append]; omega) (T_ret trivial))))
  · exact T_ask ⟨by omega, by omega, by omega⟩ (T_ask (by omega) (T_ask ⟨by omega, by omega, by omega⟩ (T_ask (by rw [List.length_append]; omega) (T_ret trivial))))
  · exact T_ask ⟨by omega, by omega, by omega⟩ (T_ask ⟨by omega, by omega, by omega⟩ (T_ask (by omega) (T_ret trivial)))
theorem drawNamed {code : List Int} (hb : Bytes code) : T (M.spec_DrawNamedPath code) (fun r => TrD r.1) := by
  unfold M.spec_DrawNamedPath M.spec_DrawPathTo
  refine T_in ((drawTree hb).then ?_)
  rintro ⟨t, c⟩ ⟨g1, g2⟩
  simp only at g1 g2
  refine (drawFid hb t g2 (by omega)).then ?_
  rintro ⟨i, c2⟩ _
  exact T_ret (T_ret g1)
theorem drawShared {code : List Int} (hb : Bytes code) : T (M.spec_DrawSharedPath code) (fun r => TrD r.1) := by
  unfold M.spec_DrawSharedPath
  refine (drawTree hb).then ?_
  rintro ⟨t, c⟩ ⟨g1, g2⟩
  simp only at g1 g2
  refine (drawFid hb t g2 (by omega)).then ?_
  rintro ⟨i, c2⟩ g3
  simp only at g3
  refine (drawFid hb t g3 (by omega)).then ?_
  rintro ⟨j, c3⟩ _
  exact T_ret g1
theorem NamedD_len {t : List Function} {i : Int} : (NamedD t i).1.length < 1000000 := by
  unfold NamedD
  cases h : treeOk t && hasF t i
  · simp
  · rw [Bool.and_eq_true] at h
    have := named_len (treeOk_iff.1 h.1) h.2
    rw [cond_true]
    show (namedF t i).length < 1000000
    omega
theorem drawFindP {code : List Int} (hb : Bytes code) : T (M.spec_DrawFindPath code) (fun r => TrD r.1) := by
  unfold M.spec_DrawFindPath
  refine (drawTree hb).then ?_
  rintro ⟨t, c⟩ ⟨g1, g2⟩
  simp only at g1 g2
  refine (drawFid hb t g2 (by omega)).then ?_
  rintro ⟨i, c2⟩ g3
  simp only at g3
  dsimp only
  rw [namedDS t i g1.b, Option.bind_some]
  refine T.then (Q := fun _ => True) ?_ (fun s _ => T_ret g1)
  refine T_one hb g3 (by omega) ?_
  intro b c3 h3
  refine T_if (fun _ => ?_) (fun _ => T_ret trivial)
  refine (drawSpoilt hb h3 (by omega) _ _ NamedD_len (by decide)).then ?_
  intro s _
  exact T_ret trivial

theorem law_FnTrees (code : List Int) (h1 : code.length ≤ 9223372036854775807) (h2 : ∀ x, x ∈ code → 0 ≤ x ∧ x ≤ 255) : M.laws_FnTrees code = some true := by
  apply T.eq
  unfold M.laws_FnTrees M.laws_rBig
  rw [Option.bind_some]
  refine T_if (fun _ => T_ret rfl) (fun hq => ?_)
  simp only [decide_eq_false_iff_not] at hq
  have hb : Bytes code := ⟨by omega, h2⟩
  refine (drawNamed hb).then ?_
  rintro ⟨t, i⟩ ht
  simp only at ht
  dsimp only
  rw [namedDI t i ht.b, Option.bind_some, namedDS t i ht.b, Option.bind_some, beq_self_eq_true, beq_self_eq_true, Bool.not_true, Bool.or_self, cond_false, findI t _ ht.b, Option.bind_some]
  have hF : ((NamedD t i).2 && ((!(FindD t (NamedD t i).1).2) || ((FindD t (NamedD t i).1).1 != i))) = false := by
    cases h : treeOk t && hasF t i
    · have e : NamedD t i = ([], false) := by unfold NamedD; rw [h]; rfl
      rw [e]; rfl
    · have e : NamedD t i = (namedF t i, true) := by unfold NamedD; rw [h]; rfl
      rw [Bool.and_eq_true] at h
      rw [e]
      dsimp only
      rw [found h.1 h.2]
      dsimp only
      rw [bne_self_eq_false]
      rfl
  have hU : (UnderD t i).2 = (NamedD t i).2 := by
    unfold UnderD NamedD
    cases treeOk t && hasF t i <;> rfl
  have hub := under_len (t := t) (i := i) ht.b.1
  rw [hF, cond_false, underI t i ht.b, Option.bind_some, underS t i ht.b, Option.bind_some, hU, beq_self_eq_true, Bool.not_true, Bool.or_self, cond_false, rIntsT _ hub, Option.bind_some, Bool.not_true, Bool.or_self, cond_false, underLoop t i ht.b, Option.bind_some]
  dsimp only
  refine (drawShared hb).then ?_
  rintro ⟨u, a, b⟩ hu
  simp only at hu
  dsimp only
  rw [sharedI u a b hu.b, Option.bind_some, sharedS u a b hu.b, Option.bind_some, beq_self_eq_true, Bool.not_true, cond_false, rIntsT _ shared_len, Option.bind_some, Bool.not_true, Bool.or_self, cond_false]
  refine T.then (Q := fun e => e = .inl ()) ?_ ?_
  · refine T_if (fun hd => ?_) (fun _ => T_ret rfl)
    cases h : (treeOk u && hasF u a) && hasF u b
    · unfold SharedD at hd; rw [h] at hd; cases hd
    have e : SharedD u a b = ((pathF u a).take (cpl (pathF u a) (pathF u b)), true) := by unfold SharedD; rw [h]; rfl
    rw [Bool.and_eq_true, Bool.and_eq_true] at h
    have eA : PathD u a = (pathF u a, true) := by unfold PathD; rw [h.1.1, h.1.2]; rfl
    have eB : PathD u b = (pathF u b, true) := by unfold PathD; rw [h.1.1, h.2]; rfl
    have pa := path_len (t := u) (i := a)
    have pb := path_len (t := u) (i := b)
    obtain ⟨q1, q2⟩ := cpl_le (pathF u a) (pathF u b)
    have hk : ((pathF u a).take (cpl (pathF u a) (pathF u b))).length = cpl (pathF u a) (pathF u b) := by rw [List.length_take]; omega
    rw [pathDI u a hu.b, Option.bind_some, pathDI u b hu.b, Option.bind_some, eA, eB, e]
    dsimp only
    rw [hk, decide_eq_false (show ¬ ((pathF u a).length : Int) < ((cpl (pathF u a) (pathF u b) : Nat) : Int) by omega), decide_eq_false (show ¬ ((pathF u b).length : Int) < ((cpl (pathF u a) (pathF u b) : Nat) : Int) by omega), Bool.not_true, Bool.or_self, Bool.or_self, Bool.or_self, asrt_pos (fun _ => ⟨by omega, by omega, by omega⟩), cond_false, slcT, rIntsT _ (by rw [hk]; omega), Option.bind_some, Bool.not_true, Bool.or_self, asrt_pos (fun _ => ⟨by omega, by omega, by omega⟩), cond_false, slcT, ← cpl_take, rIntsT _ (by rw [hk]; omega), Option.bind_some, Bool.not_true, Bool.or_self, Bool.false_or, Int.toNat_natCast]
    by_cases c1 : cpl (pathF u a) (pathF u b) < (pathF u a).length
    · by_cases c2 : cpl (pathF u a) (pathF u b) < (pathF u b).length
      · rw [asrt_pos (fun _ _ => ⟨by omega, by omega⟩), asrt_pos (fun _ _ => ⟨by omega, by omega⟩), cpl_ne _ _ c1 c2, Bool.and_false]
        exact T_ret rfl
      · rw [decide_eq_false (show ¬ ((pathF u b).length : Int) > ((cpl (pathF u a) (pathF u b) : Nat) : Int) by omega), Bool.and_false, asrt_pos (fun _ h => by cases h), asrt_pos (fun _ h => by cases h), Bool.false_and]
        exact T_ret rfl
    · rw [decide_eq_false (show ¬ ((pathF u a).length : Int) > ((cpl (pathF u a) (pathF u b) : Nat) : Int) by omega), Bool.false_and, asrt_pos (fun _ h => by cases h), asrt_pos (fun _ h => by cases h), Bool.false_and]
      exact T_ret rfl
  rintro _ rfl
  dsimp only
  refine (drawFindP hb).then ?_
  rintro ⟨v, p⟩ hv
  simp only at hv
  dsimp only
  have hS : M.spec_IsTree v = some (treeOk v) := by unfold M.spec_IsTree; rw [treeS v hv.b]; rfl
  rw [findI v p hv.b, Option.bind_some, findSp v p hv.b, Option.bind_some, beq_self_eq_true, beq_self_eq_true, Bool.and_self, cond_true, cond_true, treeI v hv.b, Option.bind_some, hS, Option.bind_some, beq_self_eq_true]
  exact T_ret rfl
end Go.Proofs.YtjfpdbhjoofllaaDoor
