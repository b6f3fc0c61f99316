/-
  Lists of numbers: elements deleted, put to their places, lists in order. Plain.
-/
import Derived.Test.YtfebeomnlkfgoaaTc
import Derived.Test.YtfebeomnlkfgoaaHb
set_option linter.unusedSimpArgs false
set_option linter.unusedVariables false
namespace Go.Proofs.Ytfebeomnlkfgoaa
open Go.VS
theorem strict_ext : ∀ {a b : List Int}, a.Pairwise (· < ·) → b.Pairwise (· < ·) → (∀ y, y ∈ a ↔ y ∈ b) → a = b
  | [], [], _, _, _ => rfl
  | [], y :: t, _, _, h => absurd ((h y).2 (by simp)) (by simp)
  | x :: s, [], _, _, h => absurd ((h x).1 (by simp)) (by simp)
  | x :: s, y :: t, ha, hb, h => by
    obtain ⟨a1, a2⟩ := List.pairwise_cons.1 ha
    obtain ⟨b1, b2⟩ := List.pairwise_cons.1 hb
    have hxy : x = y := by
      have h1 := (h x).1 (by simp)
      have h2 := (h y).2 (by simp)
      rcases List.mem_cons.1 h1 with e | e
      · exact e
      · rcases List.mem_cons.1 h2 with f | f
        · exact f.symm
        · have := b1 x e; have := a1 y f; omega
    subst hxy
    congr 1
    refine strict_ext a2 b2 fun z => ?_
    have hz := h z
    rw [List.mem_cons, List.mem_cons] at hz
    constructor
    · intro g
      rcases hz.1 (.inr g) with e | e
      · have := a1 z g; omega
      · exact e
    · intro g
      rcases hz.2 (.inr g) with e | e
      · have := b1 z g; omega
      · exact e
theorem take_setB {β : Type} [Inhabited β] {l : List β} {k : Nat} {v : β} (h : k < l.length) : (l.set k v).take (k + 1) = l.take k ++ [v] := by
  rw [take_succ_getD (by simpa using h), List.take_set_of_le (Nat.le_refl k)]
  congr 1
  simp [List.getD, h]
theorem getD_setB {β : Type} [Inhabited β] {l : List β} {k j : Nat} {v : β} (hk : k < l.length) : (l.set k v).getD j default = if k = j then v else l.getD j default := by
  simp only [List.getD, List.getElem?_set]
  by_cases e : k = j
  · subst e; simp [hk]
  · simp [e]
theorem delI (s : List Int) (p : Int → Bool) (fm : Int → Option Bool) (hfm : ∀ x ∈ s, fm x = some (p x)) (hl : s.length < 1000000) : M.slices_DeleteFunc_int_int s fm = some (s.filter fun x => !p x) := by
  unfold M.slices_DeleteFunc_int_int M.slices_IndexFunc_int_int
  rcases iter_find (step := M.slices_IndexFunc_int_int_l0 s fm) (s := 0) (fun k => (k : Int)) s.length (fun k => p (s.getD k default)) (fun k => .inr (k : Int)) (.inl ()) rfl (by omega)
    (fun k hk hp => by
      have := hfm _ (getD_mem hk)
      unfold M.slices_IndexFunc_int_int_l0
      simp (disch := first | omega | (intros; simp only [decide_eq_true_eq, decide_eq_false_iff_not, Bool.not_eq_true, Bool.not_eq_false, Bool.not_true, Bool.not_false] at *; omega)) only [cast_succ, asrt_pos, wrap64_id, Option.bind_some, cond_true, cond_false, decide_eq_true, decide_eq_false, Int.toNat_natCast, Bool.not_true, Bool.not_false, Bool.and_true, Bool.true_and, Bool.and_false, Bool.false_and, Bool.or_true, Bool.true_or, Bool.or_false, Bool.false_or, this, hp])
    (fun k hk hp => by
      have := hfm _ (getD_mem hk)
      unfold M.slices_IndexFunc_int_int_l0
      simp (disch := first | omega | (intros; simp only [decide_eq_true_eq, decide_eq_false_iff_not, Bool.not_eq_true, Bool.not_eq_false, Bool.not_true, Bool.not_false] at *; omega)) only [cast_succ, asrt_pos, wrap64_id, Option.bind_some, cond_true, cond_false, decide_eq_true, decide_eq_false, Int.toNat_natCast, Bool.not_true, Bool.not_false, Bool.and_true, Bool.true_and, Bool.and_false, Bool.false_and, Bool.or_true, Bool.true_or, Bool.or_false, Bool.false_or, this, hp])
    (by
      unfold M.slices_IndexFunc_int_int_l0
      simp (disch := first | omega | (intros; simp only [decide_eq_true_eq, decide_eq_false_iff_not, Bool.not_eq_true, Bool.not_eq_false, Bool.not_true, Bool.not_false] at *; omega)) only [cast_succ, asrt_pos, wrap64_id, Option.bind_some, cond_true, cond_false, decide_eq_true, decide_eq_false, Int.toNat_natCast, Bool.not_true, Bool.not_false, Bool.and_true, Bool.true_and, Bool.and_false, Bool.false_and, Bool.or_true, Bool.true_or, Bool.or_false, Bool.false_or]) with ⟨k, h1, h2, h3, h4⟩ | ⟨h1, h2⟩
  · rw [h4, Option.bind_some]
    try dsimp only
    rw [Option.bind_some, show (((k : Nat) : Int) == -1) = false by rw [beq_eq_false_iff_ne]; omega, cond_false, wrap64_id (by omega) (by omega)]
    apply T.eq
    have hpre : (s.take (k + 1)).filter (fun x => !p x) = s.take k := by
      rw [take_succ_getD h1, List.filter_append]
      have e1 : (s.take k).filter (fun x => !p x) = s.take k := by
        rw [List.filter_eq_self]
        intro x hx
        obtain ⟨j, hj, rfl⟩ := List.getElem_of_mem hx
        rw [List.length_take] at hj
        rw [List.getElem_take]
        have := h3 j (by omega)
        simp only [List.getD, List.getElem?_eq_getElem (show j < s.length by omega), Option.getD_some] at this
        rw [this]; rfl
      rw [e1, List.filter_cons, h2]
      simp
    refine T.then (Q := fun e => ∃ m : Nat, e.2 = (m : Int) ∧ m ≤ s.length ∧ e.1.length = s.length ∧ e.1.take m = s.filter (fun x => !p x)) (T_iter (fun q => ∃ (m j : Nat), q.2.1 = (m : Int) ∧ q.2.2 = (j : Int) ∧ m < j ∧ j ≤ s.length ∧ q.1.length = s.length ∧ q.1.take m = (s.take j).filter (fun x => !p x) ∧ ∀ i, j ≤ i → q.1.getD i default = s.getD i default) (fun q => s.length - q.2.2.toNat) _
      ⟨k, k + 1, rfl, by show ((k : Int) + 1) = ((k + 1 : Nat) : Int); omega, by omega, by omega, rfl, hpre.symm, fun i _ => rfl⟩ (by simp only; omega) ?_) ?_
    · rintro ⟨s1, _, _⟩ ⟨m, j, rfl, rfl, g1, g2, g4, g5, g6⟩
      simp only at g4 g5 g6
      unfold M.slices_DeleteFunc_int_int_l0
      try dsimp only
      refine T_if (fun hq => ?_) (fun hq => ?_)
      · simp only [decide_eq_true_eq] at hq
        have hj : j < s.length := by omega
        have hdd : (s.take (j + 1)).filter (fun x => !p x) = (s.take j).filter (fun x => !p x) ++ (if p (s.getD j default) = true then [] else [s.getD j default]) := by
          rw [take_succ_getD hj, List.filter_append]
          congr 1
          rw [List.filter_cons]
          cases p (s.getD j default) <;> rfl
        rw [Int.toNat_natCast, Int.toNat_natCast, g6 j (Nat.le_refl _), hfm _ (getD_mem hj)]
        refine T_in (T_ask ⟨by omega, by omega⟩ ?_)
        rw [Option.bind_some]
        cases hp : p (s.getD j default)
        · rw [hp, if_neg (by simp)] at hdd
          simp only [Bool.not_false, cond_true]
          refine T_ask ⟨by omega, by omega⟩ (T_ret (T_ret ?_))
          simp only
          rw [wrap64_id (n := (m : Int) + 1) (by omega) (by omega), wrap64_id (n := (j : Int) + 1) (by omega) (by omega)]
          refine ⟨⟨m + 1, j + 1, by omega, by omega, by omega, by omega, by simpa using g4, ?_, fun i hi => ?_⟩, by omega⟩
          · rw [take_setB (by omega), g5, hdd]
          · rw [getD_setB (by omega), if_neg (by omega)]
            exact g6 i (by omega)
        · rw [hp, if_pos rfl, List.append_nil] at hdd
          simp only [Bool.not_true, cond_false]
          refine T_ret (T_ret ?_)
          simp only
          rw [wrap64_id (n := (j : Int) + 1) (by omega) (by omega)]
          exact ⟨⟨m, j + 1, rfl, by omega, by omega, by omega, g4, by rw [g5, hdd], fun i hi => g6 i (by omega)⟩, by omega⟩
      · simp only [decide_eq_false_iff_not] at hq
        have : j = s.length := by omega
        rw [this, List.take_length] at g5
        exact T_ret ⟨m, rfl, by omega, g4, g5⟩
    · rintro ⟨s0, _⟩ ⟨m, rfl, g1, g2, g3⟩
      simp only at g1 g2 g3
      try dsimp only
      simp only [Int.toNat_natCast, Nat.zero_add]
      refine T_ask ⟨by omega, by omega, by omega⟩ (T_ask (by omega) (T_ask ⟨by omega, by omega, by simp; omega⟩ (T_ask (by simp; omega) (T_ret ?_))))
      rw [show m - Int.toNat 0 = m from rfl, List.append_assoc, List.take_append_of_le_length (by rw [List.length_take]; omega), List.take_take, Nat.min_self, g3]
  · rw [h2]
    have : s.filter (fun x => !p x) = s := by
      rw [List.filter_eq_self]
      intro x hx
      obtain ⟨j, hj, rfl⟩ := List.getElem_of_mem hx
      have := h1 j hj
      simp only [List.getD, List.getElem?_eq_getElem hj, Option.getD_some] at this
      rw [this]; rfl
    rw [this]
    rfl
theorem slc_take {β : Type} {l : List β} {k : Nat} (h : k ≤ l.length) : slc l 0 (k : Int) = l.take k ∧ slc l (k : Int) (l.length : Int) = l.drop k := by
  unfold slc
  simp
theorem putInt (m : List Int) (n : Int) (hm : m.Pairwise (· < ·)) (hn : n ∉ m) (hl : m.length < 1000000) : ∃ m', M.spec_l1Put m n = some m' ∧ m'.Pairwise (· < ·) ∧ (∀ x, x ∈ m' ↔ x = n ∨ x ∈ m) ∧ m'.length = m.length + 1 := by
  have h1 : T (iterO (M.spec_l1Put_l0 m n) 0) (fun k => ∃ j : Nat, k = (j : Int) ∧ j ≤ m.length ∧ (∀ i, i < j → m.getD i default < n) ∧ (j < m.length → ¬ m.getD j default < n)) := by
    refine T_iter (fun s => ∃ j : Nat, s = (j : Int) ∧ j ≤ m.length ∧ ∀ i, i < j → m.getD i default < n) (fun s => m.length - s.toNat) _ ⟨0, rfl, by omega, fun i h => absurd h (Nat.not_lt_zero _)⟩ (by omega) ?_
    rintro _ ⟨j, rfl, h2, h3⟩
    unfold M.spec_l1Put_l0
    simp only [Int.toNat_natCast]
    refine T_ask (fun h => by simp only [decide_eq_true_eq] at h; omega) (T_if (fun hq => T_ret ?_) (fun hq => T_ret ⟨j, rfl, h2, h3, ?_⟩))
    · simp only [Bool.and_eq_true, decide_eq_true_eq] at hq
      simp only
      rw [wrap64_id (by omega) (by omega)]
      refine ⟨⟨j + 1, by omega, by omega, fun i hi => ?_⟩, by omega⟩
      by_cases hij : i < j
      · exact h3 i hij
      · obtain rfl : i = j := by omega
        exact hq.2
    · intro h4 h5
      rw [decide_eq_true (by omega), decide_eq_true h5] at hq
      cases hq
  unfold M.spec_l1Put
  obtain ⟨_, h2, j, rfl, h3, h4, h5⟩ := h1
  rw [h2]
  simp only [Option.bind_some, Int.toNat_natCast]
  rw [asrt_pos (fun h => by simp only [decide_eq_true_eq] at h; omega)]
  have h6 : (decide ((j : Int) < (m.length : Int)) && (m.getD j default == n)) = false := by
    by_cases hj : j < m.length
    · have : (m.getD j default == n) = false := beq_eq_false_iff_ne.2 fun e => hn (e ▸ getD_mem hj)
      rw [this, Bool.and_false]
    · rw [decide_eq_false (by omega), Bool.false_and]
  rw [h6, cond_false, (slc_take h3).1, (slc_take h3).2]
  have l1 : (m.take j).length = j := by rw [List.length_take]; omega
  have l2 : (m.drop j).length = m.length - j := List.length_drop
  rw [asrt_pos (by omega), asrt_pos (by simp; omega), asrt_pos (by simp; omega), asrt_pos (by omega), asrt_pos (by simp; omega)]
  have hlt : ∀ x ∈ m.take j, x < n := by
    intro x hx
    obtain ⟨i, hi, rfl⟩ := List.getElem_of_mem hx
    have := h4 i (by omega)
    rw [l1] at hi
    rw [List.getElem_take]
    simpa [List.getD, show i < m.length by omega] using this
  have hgt : ∀ x ∈ m.drop j, n < x := by
    intro x hx
    obtain ⟨i, hi, rfl⟩ := List.getElem_of_mem hx
    rw [l2] at hi
    rw [List.getElem_drop]
    have hj : j < m.length := by omega
    have h7 := h5 hj
    have h8 : m.getD j default ≠ n := fun e => hn (e ▸ getD_mem hj)
    rw [show m.getD j default = m[j] by simp [List.getD, hj]] at h7 h8
    by_cases hi0 : i = 0
    · subst hi0; simp only [Nat.add_zero]; omega
    · have := List.pairwise_iff_getElem.1 hm j (j + i) hj (by omega) (by omega)
      omega
  refine ⟨m.take j ++ [n] ++ m.drop j, by simp, ?_, ?_, by simp; omega⟩
  · rw [List.pairwise_append, List.pairwise_append]
    refine ⟨⟨hm.sublist (List.take_sublist _ _), by simp, fun a ha b hb => ?_⟩, hm.sublist (List.drop_sublist _ _), fun a ha b hb => ?_⟩
    · rw [List.mem_singleton] at hb; subst hb; exact hlt a ha
    · have := hgt b hb
      rcases List.mem_append.1 ha with ha | ha
      · have := hlt a ha; omega
      · rw [List.mem_singleton] at ha; subst ha; exact this
  · intro x
    have : x ∈ m ↔ x ∈ m.take j ∨ x ∈ m.drop j := by rw [← List.mem_append, List.take_append_drop]
    rw [this]
    simp only [List.mem_append, List.mem_singleton]
    constructor
    · rintro ((h | h) | h)
      · exact .inr (.inl h)
      · exact .inl h
      · exact .inr (.inr h)
    · rintro (h | h | h)
      · exact .inl (.inr h)
      · exact .inl (.inl h)
      · exact .inr h
end Go.Proofs.Ytfebeomnlkfgoaa
