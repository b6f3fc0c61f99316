/-
  The law of releases. Plain.
-/
import Derived.Test.YtjbgllhimnopaaaHe
set_option linter.unusedSimpArgs false
set_option linter.unusedVariables false
namespace Go.Proofs.Ytjbgllhimnopaaa
open Go.VS

/-! ### Records held -/
def heldL (l : List Hold) (rs : List Record) (d : Int) : List Int := (rs.filter fun r => decide (((onD l r d).length : Int) > 0)).map (·.Id)

theorem heldLoopI (l : List Hold) (rs : List Record) (d : Int) (hl : holdsOk l = true) (hr : rs.length < 1000000) : iterO (M.impl_HeldOn_l0 l rs d) ([], 0) = some (heldL l rs d) := by
  rw [iter_coll (s := (([] : List Int), (0 : Int))) (step := M.impl_HeldOn_l0 l rs d) (fun a k => (a, (k : Int))) (fun r : Record => bif decide (((onD l r d).length : Int) > 0) then [r.Id] else []) id rs rfl (by omega) (fun k _ => if_len _ _) (fun a k hk ha => by
    unfold M.impl_HeldOn_l0
    have h2 := onI l (rs.getD k default) d hl
    simp (disch := first | omega | (intros; simp only [decide_eq_true_eq, decide_eq_false_iff_not, Bool.not_eq_true, Bool.not_eq_false, Bool.not_true, Bool.not_false] at *; omega)) only [cast_succ, asrt_pos, wrap64_id, Option.bind_some, cond_true, cond_false, decide_eq_true, decide_eq_false, Int.toNat_natCast, Bool.not_true, Bool.not_false, Bool.and_true, Bool.true_and, Bool.and_false, Bool.false_and, Bool.or_true, Bool.true_or, Bool.or_false, Bool.false_or, app_if, List.length_singleton, h2]
    cases decide (((onD l (rs.getD k default) d).length : Int) > 0) <;> rfl) (fun a ha => by
    unfold M.impl_HeldOn_l0
    simp (disch := first | omega | (intros; simp only [decide_eq_true_eq, decide_eq_false_iff_not, Bool.not_eq_true, Bool.not_eq_false, Bool.not_true, Bool.not_false] at *; omega)) only [cast_succ, asrt_pos, wrap64_id, Option.bind_some, cond_true, cond_false, decide_eq_true, decide_eq_false, Int.toNat_natCast, Bool.not_true, Bool.not_false, Bool.and_true, Bool.true_and, Bool.and_false, Bool.false_and, Bool.or_true, Bool.true_or, Bool.or_false, Bool.false_or, id])]
  simp only [id, flatMap_if]
  rfl

theorem heldLoopS (l : List Hold) (rs : List Record) (d : Int) (hl : holdsOk l = true) (hr : rs.length < 1000000) : iterO (M.spec_HeldOn_l0 l rs d) ([], 0) = some (heldL l rs d) := by
  rw [iter_coll (s := (([] : List Int), (0 : Int))) (step := M.spec_HeldOn_l0 l rs d) (fun a k => (a, (k : Int))) (fun r : Record => bif decide (((onD l r d).length : Int) > 0) then [r.Id] else []) id rs rfl (by omega) (fun k _ => if_len _ _) (fun a k hk ha => by
    unfold M.spec_HeldOn_l0
    have h2 := onS l (rs.getD k default) d hl
    simp (disch := first | omega | (intros; simp only [decide_eq_true_eq, decide_eq_false_iff_not, Bool.not_eq_true, Bool.not_eq_false, Bool.not_true, Bool.not_false] at *; omega)) only [cast_succ, asrt_pos, wrap64_id, Option.bind_some, cond_true, cond_false, decide_eq_true, decide_eq_false, Int.toNat_natCast, Bool.not_true, Bool.not_false, Bool.and_true, Bool.true_and, Bool.and_false, Bool.false_and, Bool.or_true, Bool.true_or, Bool.or_false, Bool.false_or, app_if, List.length_singleton, h2]
    cases decide (((onD l (rs.getD k default) d).length : Int) > 0) <;> rfl) (fun a ha => by
    unfold M.spec_HeldOn_l0
    simp (disch := first | omega | (intros; simp only [decide_eq_true_eq, decide_eq_false_iff_not, Bool.not_eq_true, Bool.not_eq_false, Bool.not_true, Bool.not_false] at *; omega)) only [cast_succ, asrt_pos, wrap64_id, Option.bind_some, cond_true, cond_false, decide_eq_true, decide_eq_false, Int.toNat_natCast, Bool.not_true, Bool.not_false, Bool.and_true, Bool.true_and, Bool.and_false, Bool.false_and, Bool.or_true, Bool.true_or, Bool.or_false, Bool.false_or, id])]
  simp only [id, flatMap_if]
  rfl

def asked (l : List Hold) (rs : List Record) (d : Int) : Bool := (holdsOk l && recsOk rs) && inR d 0 20000

theorem heldOnI (l : List Hold) (rs : List Record) (d : Int) (hl : HoldsB l) (hr : RecsB rs) : M.impl_HeldOn l rs d = some (bif asked l rs d then (heldL l rs d, true) else ([], false)) := by
  unfold M.impl_HeldOn asked
  simp only [holdsI l hl, recsI rs hr, isDayI, Option.bind_some, bif_some]
  cases h1 : holdsOk l
  · rfl
  cases h2 : recsOk rs
  · rfl
  cases h3 : inR d 0 20000
  · rfl
  simp only [Bool.not_true, Bool.or_false, cond_false, Bool.and_self, cond_true, heldLoopI l rs d h1 hr.1, Option.bind_some]

theorem heldOnS (l : List Hold) (rs : List Record) (d : Int) (hl : HoldsB l) (hr : RecsB rs) : M.spec_HeldOn l rs d = some (bif asked l rs d then (heldL l rs d, true) else ([], false)) := by
  unfold M.spec_HeldOn asked
  simp only [holdsS l hl, recsS rs hr, l2DayS, Option.bind_some, bif_some]
  cases h1 : holdsOk l
  · rfl
  cases h2 : recsOk rs
  · rfl
  cases h3 : inR d 0 20000
  · rfl
  simp only [Bool.not_true, Bool.or_false, cond_false, Bool.and_self, cond_true, heldLoopS l rs d h1 hr.1, Option.bind_some]

/-! ### Needed holds -/
theorem ext_getD {β : Type} [Inhabited β] {a b : List β} (h : a.length = b.length) (h' : ∀ k, k < a.length → a.getD k default = b.getD k default) : a = b := by
  apply List.ext_getElem h
  intro k h1 h2
  have := h' k h1
  simpa [List.getD, h1, h2] using this

theorem equalI (a b : List Int) (ha : a.length < 1000000) : M.slices_Equal_int_int a b = some (a == b) := by
  unfold M.slices_Equal_int_int
  by_cases hl : a.length = b.length
  · rw [show ((a.length : Int) != (b.length : Int)) = false by rw [hl]; simp, cond_false]
    rw [iter_any (step := M.slices_Equal_int_int_l0 a b) (s := 0) (fun k => (k : Int)) a.length (fun k => a.getD k default != b.getD k default) (.inr false) (.inl ()) rfl (by omega)
      (fun k hk hp => by
        unfold M.slices_Equal_int_int_l0
        simp (disch := first | omega | (intros; simp only [decide_eq_true_eq, decide_eq_false_iff_not, Bool.not_eq_true, Bool.not_eq_false, Bool.not_true, Bool.not_false] at *; omega)) only [cast_succ, asrt_pos, wrap64_id, Option.bind_some, cond_true, cond_false, decide_eq_true, decide_eq_false, Int.toNat_natCast, Bool.not_true, Bool.not_false, Bool.and_true, Bool.true_and, Bool.and_false, Bool.false_and, Bool.or_true, Bool.true_or, Bool.or_false, Bool.false_or, hp])
      (fun k hk hp => by
        unfold M.slices_Equal_int_int_l0
        simp (disch := first | omega | (intros; simp only [decide_eq_true_eq, decide_eq_false_iff_not, Bool.not_eq_true, Bool.not_eq_false, Bool.not_true, Bool.not_false] at *; omega)) only [cast_succ, asrt_pos, wrap64_id, Option.bind_some, cond_true, cond_false, decide_eq_true, decide_eq_false, Int.toNat_natCast, Bool.not_true, Bool.not_false, Bool.and_true, Bool.true_and, Bool.and_false, Bool.false_and, Bool.or_true, Bool.true_or, Bool.or_false, Bool.false_or, hp])
      (by
        unfold M.slices_Equal_int_int_l0
        simp (disch := first | omega | (intros; simp only [decide_eq_true_eq, decide_eq_false_iff_not, Bool.not_eq_true, Bool.not_eq_false, Bool.not_true, Bool.not_false] at *; omega)) only [cast_succ, asrt_pos, wrap64_id, Option.bind_some, cond_true, cond_false, decide_eq_true, decide_eq_false, Int.toNat_natCast, Bool.not_true, Bool.not_false, Bool.and_true, Bool.true_and, Bool.and_false, Bool.false_and, Bool.or_true, Bool.true_or, Bool.or_false, Bool.false_or])]
    cases h : (List.range a.length).any fun k => a.getD k default != b.getD k default
    · have : a = b := ext_getD hl fun k hk => by
        rw [List.any_eq_false] at h
        simpa using h k (List.mem_range.2 hk)
      subst this
      simp
    · obtain ⟨k, hk, hne⟩ := List.any_eq_true.1 h
      have : (a == b) = false := by
        rw [beq_eq_false_iff_ne]
        intro e; rw [e] at hne; simp at hne
      rw [this]; rfl
  · rw [show ((a.length : Int) != (b.length : Int)) = true by simp; omega, cond_true]
    rw [show (a == b) = false by rw [beq_eq_false_iff_ne]; intro e; rw [e] at hl; exact hl rfl]

theorem contF (rs : List Record) (p : Record → Bool) (fm : Record → Option Bool) (hf : ∀ r, fm r = some (p r)) (hr : rs.length < 1000000) : M.slices_ContainsFunc_impl_Record_impl_Record rs fm = some (rs.any p) := by
  unfold M.slices_ContainsFunc_impl_Record_impl_Record M.slices_IndexFunc_impl_Record_impl_Record
  rcases iter_find (step := M.slices_IndexFunc_impl_Record_impl_Record_l0 rs fm) (s := 0) (fun k => (k : Int)) rs.length (fun k => p (rs.getD k default)) (fun k => .inr (k : Int)) (.inl ()) rfl (by omega)
    (fun k hk hp => by
      unfold M.slices_IndexFunc_impl_Record_impl_Record_l0
      simp (disch := first | omega | (intros; simp only [decide_eq_true_eq, decide_eq_false_iff_not, Bool.not_eq_true, Bool.not_eq_false, Bool.not_true, Bool.not_false] at *; omega)) only [cast_succ, asrt_pos, wrap64_id, Option.bind_some, cond_true, cond_false, decide_eq_true, decide_eq_false, Int.toNat_natCast, Bool.not_true, Bool.not_false, Bool.and_true, Bool.true_and, Bool.and_false, Bool.false_and, Bool.or_true, Bool.true_or, Bool.or_false, Bool.false_or, hf, hp])
    (fun k hk hp => by
      unfold M.slices_IndexFunc_impl_Record_impl_Record_l0
      simp (disch := first | omega | (intros; simp only [decide_eq_true_eq, decide_eq_false_iff_not, Bool.not_eq_true, Bool.not_eq_false, Bool.not_true, Bool.not_false] at *; omega)) only [cast_succ, asrt_pos, wrap64_id, Option.bind_some, cond_true, cond_false, decide_eq_true, decide_eq_false, Int.toNat_natCast, Bool.not_true, Bool.not_false, Bool.and_true, Bool.true_and, Bool.and_false, Bool.false_and, Bool.or_true, Bool.true_or, Bool.or_false, Bool.false_or, hf, hp])
    (by
      unfold M.slices_IndexFunc_impl_Record_impl_Record_l0
      simp (disch := first | omega | (intros; simp only [decide_eq_true_eq, decide_eq_false_iff_not, Bool.not_eq_true, Bool.not_eq_false, Bool.not_true, Bool.not_false] at *; omega)) only [cast_succ, asrt_pos, wrap64_id, Option.bind_some, cond_true, cond_false, decide_eq_true, decide_eq_false, Int.toNat_natCast, Bool.not_true, Bool.not_false, Bool.and_true, Bool.true_and, Bool.and_false, Bool.false_and, Bool.or_true, Bool.true_or, Bool.or_false, Bool.false_or]) with ⟨k, h1, h2, h3, h4⟩ | ⟨h1, h2⟩
  · rw [h4]
    simp only [Option.bind_some]
    rw [show rs.any p = true from List.any_eq_true.2 ⟨_, getD_mem h1, h2⟩]
    simp
  · rw [h2]
    simp only [Option.bind_some]
    rw [show rs.any p = false by rw [any_getD, List.any_eq_false]; intro k hk; simpa using h1 k (List.mem_range.1 hk)]
    rfl

def needP (l : List Hold) (rs : List Record) (d : Int) (h : Hold) : Bool := rs.any fun r => onD l r d == [h.Id]
def needL (l : List Hold) (rs : List Record) (d : Int) : List Int := (l.filter fun h => needP l rs d h).map (·.Id)

theorem needLoopI (l : List Hold) (rs : List Record) (d : Int) (hl : holdsOk l = true) (hr : rs.length < 1000000) : iterO (M.impl_NeededHolds_l0 l rs d) ([], 0) = some (needL l rs d) := by
  have hn := (holdsOk_spec hl).1
  rw [iter_coll (s := (([] : List Int), (0 : Int))) (step := M.impl_NeededHolds_l0 l rs d) (fun a k => (a, (k : Int))) (fun h : Hold => bif needP l rs d h then [h.Id] else []) id l rfl (by omega) (fun k _ => if_len _ _) (fun a k hk ha => by
    unfold M.impl_NeededHolds_l0
    have h2 := contF rs (fun r => onD l r d == [(l.getD k default).Id]) (fun x0 => M.impl_NeededHolds_1 x0 l d (l.getD k default)) (fun r => by
      unfold M.impl_NeededHolds_1
      have := onD_len (l := l) (r := r) (d := d)
      rw [onI l r d hl, Option.bind_some, equalI _ _ (by omega)]; rfl) hr
    have h3 : needP l rs d (l.getD k default) = rs.any (fun r => onD l r d == [(l.getD k default).Id]) := rfl
    simp (disch := first | omega | (intros; simp only [decide_eq_true_eq, decide_eq_false_iff_not, Bool.not_eq_true, Bool.not_eq_false, Bool.not_true, Bool.not_false] at *; omega)) only [cast_succ, asrt_pos, wrap64_id, Option.bind_some, cond_true, cond_false, decide_eq_true, decide_eq_false, Int.toNat_natCast, Bool.not_true, Bool.not_false, Bool.and_true, Bool.true_and, Bool.and_false, Bool.false_and, Bool.or_true, Bool.true_or, Bool.or_false, Bool.false_or, app_if, List.length_singleton, h2, h3]
    cases rs.any (fun r => onD l r d == [(l.getD k default).Id]) <;> rfl) (fun a ha => by
    unfold M.impl_NeededHolds_l0
    simp (disch := first | omega | (intros; simp only [decide_eq_true_eq, decide_eq_false_iff_not, Bool.not_eq_true, Bool.not_eq_false, Bool.not_true, Bool.not_false] at *; omega)) only [cast_succ, asrt_pos, wrap64_id, Option.bind_some, cond_true, cond_false, decide_eq_true, decide_eq_false, Int.toNat_natCast, Bool.not_true, Bool.not_false, Bool.and_true, Bool.true_and, Bool.and_false, Bool.false_and, Bool.or_true, Bool.true_or, Bool.or_false, Bool.false_or, id])]
  simp only [id, flatMap_if]
  rfl

theorem asc_eq : ∀ {a b : List Int}, a.Pairwise (· < ·) → b.Pairwise (· < ·) → (∀ x, x ∈ a ↔ x ∈ b) → a = b
  | [], [], _, _, _ => rfl
  | [], y :: t, _, _, h => by have := (h y).2 (by simp); cases this
  | x :: s, [], _, _, h => by have := (h x).1 (by simp); cases this
  | x :: s, y :: t, ha, hb, h => by
    rw [List.pairwise_cons] at ha hb
    have e : x = y := by
      have h1 := (h x).1 (by simp)
      have h2 := (h y).2 (by simp)
      rcases List.mem_cons.1 h1 with h1 | h1
      · exact h1
      · rcases List.mem_cons.1 h2 with h2 | h2
        · exact h2.symm
        · have := hb.1 x h1; have := ha.1 y h2; omega
    subst e
    congr 1
    refine asc_eq ha.2 hb.2 fun z => ⟨fun hz => ?_, fun hz => ?_⟩
    · rcases List.mem_cons.1 ((h z).1 (by simp [hz])) with e | e
      · have := ha.1 z hz; omega
      · exact e
    · rcases List.mem_cons.1 ((h z).2 (by simp [hz])) with e | e
      · have := hb.1 z hz; omega
      · exact e

theorem slc_take {β : Type} {l : List β} {k : Nat} (h : k ≤ l.length) : slc l 0 (k : Int) = l.take k ∧ slc l (k : Int) (l.length : Int) = l.drop k := by
  unfold slc
  simp

/-- A number is put to its place. -/
theorem putInt (m : List Int) (n : Int) (hm : m.Pairwise (· < ·)) (hn : n ∉ m) (hl : m.length < 1000000) : ∃ m', M.spec_l1Put m n = some m' ∧ m'.Pairwise (· < ·) ∧ (∀ x, x ∈ m' ↔ x = n ∨ x ∈ m) ∧ m'.length = m.length + 1 := by
  have h1 : T (iterO (M.spec_l1Put_l0 m n) 0) (fun k => ∃ j : Nat, k = (j : Int) ∧ j ≤ m.length ∧ (∀ i, i < j → m.getD i default < n) ∧ (j < m.length → ¬ m.getD j default < n)) := by
    refine T_iter (fun s => ∃ j : Nat, s = (j : Int) ∧ j ≤ m.length ∧ ∀ i, i < j → m.getD i default < n) (fun s => m.length - s.toNat) _ ⟨0, rfl, by omega, fun i h => absurd h (Nat.not_lt_zero _)⟩ (by omega) ?_
    rintro _ ⟨j, rfl, h2, h3⟩
    unfold M.spec_l1Put_l0
    simp only [Int.toNat_natCast]
    refine T_ask (fun h => by simp only [decide_eq_true_eq] at h; omega) (T_if (fun hq => T_ret ?_) (fun hq => T_ret ⟨j, rfl, h2, h3, ?_⟩))
    · simp only [Bool.and_eq_true, decide_eq_true_eq] at hq
      simp only
      rw [wrap64_id (by omega) (by omega)]
      refine ⟨⟨j + 1, by omega, by omega, fun i hi => ?_⟩, by omega⟩
      by_cases hij : i < j
      · exact h3 i hij
      · obtain rfl : i = j := by omega
        exact hq.2
    · intro h4 h5
      rw [decide_eq_true (by omega), decide_eq_true h5] at hq
      cases hq
  unfold M.spec_l1Put
  obtain ⟨_, h2, j, rfl, h3, h4, h5⟩ := h1
  rw [h2]
  simp only [Option.bind_some, Int.toNat_natCast]
  rw [asrt_pos (fun h => by simp only [decide_eq_true_eq] at h; omega)]
  have h6 : (decide ((j : Int) < (m.length : Int)) && (m.getD j default == n)) = false := by
    by_cases hj : j < m.length
    · have : (m.getD j default == n) = false := beq_eq_false_iff_ne.2 fun e => hn (e ▸ getD_mem hj)
      rw [this, Bool.and_false]
    · rw [decide_eq_false (by omega), Bool.false_and]
  rw [h6, cond_false, (slc_take h3).1, (slc_take h3).2]
  have l1 : (m.take j).length = j := by rw [List.length_take]; omega
  have l2 : (m.drop j).length = m.length - j := List.length_drop
  rw [asrt_pos (by omega), asrt_pos (by simp; omega), asrt_pos (by simp; omega), asrt_pos (by omega), asrt_pos (by simp; omega)]
  have hlt : ∀ x ∈ m.take j, x < n := by
    intro x hx
    obtain ⟨i, hi, rfl⟩ := List.getElem_of_mem hx
    have := h4 i (by omega)
    rw [l1] at hi
    rw [List.getElem_take]
    simpa [List.getD, show i < m.length by omega] using this
  have hgt : ∀ x ∈ m.drop j, n < x := by
    intro x hx
    obtain ⟨i, hi, rfl⟩ := List.getElem_of_mem hx
    rw [l2] at hi
    rw [List.getElem_drop]
    have hj : j < m.length := by omega
    have h7 := h5 hj
    have h8 : m.getD j default ≠ n := fun e => hn (e ▸ getD_mem hj)
    rw [show m.getD j default = m[j] by simp [List.getD, hj]] at h7 h8
    by_cases hi0 : i = 0
    · subst hi0; simp only [Nat.add_zero]; omega
    · have := List.pairwise_iff_getElem.1 hm j (j + i) hj (by omega) (by omega)
      omega
  refine ⟨m.take j ++ [n] ++ m.drop j, by simp, ?_, ?_, by simp; omega⟩
  · rw [List.pairwise_append, List.pairwise_append]
    refine ⟨⟨hm.sublist (List.take_sublist _ _), by simp, fun a ha b hb => ?_⟩, hm.sublist (List.drop_sublist _ _), fun a ha b hb => ?_⟩
    · rw [List.mem_singleton] at hb; subst hb; exact hlt a ha
    · have := hgt b hb
      rcases List.mem_append.1 ha with ha | ha
      · have := hlt a ha; omega
      · rw [List.mem_singleton] at ha; subst ha; exact this
  · intro x
    have : x ∈ m ↔ x ∈ m.take j ∨ x ∈ m.drop j := by rw [← List.mem_append, List.take_append_drop]
    rw [this]
    simp only [List.mem_append, List.mem_singleton]
    constructor
    · rintro ((h | h) | h)
      · exact .inr (.inl h)
      · exact .inl h
      · exact .inr (.inr h)
    · rintro (h | h | h)
      · exact .inl (.inr h)
      · exact .inl (.inl h)
      · exact .inr h

theorem needLoopS (l : List Hold) (rs : List Record) (d : Int) (hl : holdsOk l = true) (hr : rs.length < 1000000) : T (iterO (M.spec_NeededHolds_l0 l rs d) ([], 0)) (fun e => e.Pairwise (· < ·) ∧ (∀ x, x ∈ e ↔ ∃ j, j < rs.length ∧ onD l (rs.getD j default) d = [x]) ∧ e.length ≤ (heldL l rs d).length) := by
  have hn := (holdsOk_spec hl).1
  refine T_iter (fun s => ∃ v : Nat, s.2 = (v : Int) ∧ v ≤ rs.length ∧ s.1.Pairwise (· < ·) ∧ (∀ x, x ∈ s.1 ↔ ∃ j, j < v ∧ onD l (rs.getD j default) d = [x]) ∧ s.1.length ≤ (heldL l (rs.take v) d).length ∧ s.1.length ≤ v) (fun s => rs.length - s.2.toNat) _
    ⟨0, rfl, by omega, .nil, fun x => by simp, by simp, by simp⟩ (by simp only; omega) ?_
  rintro ⟨out, _⟩ ⟨v, rfl, h1, h2, h3, h4, h5⟩
  simp only at h2 h3 h4 h5
  unfold M.spec_NeededHolds_l0
  dsimp only
  refine T_if (fun hv => ?_) (fun hv => ?_)
  · simp only [decide_eq_true_eq] at hv
    have hv' : v < rs.length := by omega
    simp only [Int.toNat_natCast]
    refine T_in (T_ask ⟨by omega, hv⟩ ?_)
    rw [onS l _ d hl, Option.bind_some]
    generalize ho : onD l (rs.getD v default) d = o
    have hol : o.length ≤ 8 := by have := onD_len (l := l) (r := rs.getD v default) (d := d); rw [ho] at this; omega
    have hstep : (heldL l (rs.take (v + 1)) d).length = (heldL l (rs.take v) d).length + if 0 < o.length then 1 else 0 := by
      unfold heldL
      rw [take_succ_getD hv', List.filter_append, List.map_append, List.length_append]
      congr 1
      simp only [List.filter_cons, ho]
      by_cases h0 : 0 < o.length
      · rw [if_pos h0, if_pos (by rw [decide_eq_true_eq]; omega)]; simp
      · rw [if_neg h0, if_neg (by rw [decide_eq_true_eq]; omega)]; simp
    refine T_ask (fun h => by simp only [beq_iff_eq] at h; exact ⟨Int.le_refl _, by omega⟩) ?_
    refine T.mono (Q := fun m => m.Pairwise (· < ·) ∧ (∀ x, x ∈ m ↔ ∃ j, j < v + 1 ∧ onD l (rs.getD j default) d = [x]) ∧ m.length ≤ (heldL l (rs.take (v + 1)) d).length ∧ m.length ≤ v + 1) ?_ ?_
    · have hmem : ∀ x, (∃ j, j < v + 1 ∧ onD l (rs.getD j default) d = [x]) ↔ (o = [x] ∨ ∃ j, j < v ∧ onD l (rs.getD j default) d = [x]) := by
        intro x
        constructor
        · rintro ⟨j, hj, hx⟩
          by_cases hjv : j < v
          · exact .inr ⟨j, hjv, hx⟩
          · obtain rfl : j = v := by omega
            exact .inl (ho.symm.trans hx)
        · rintro (h | ⟨j, hj, hx⟩)
          · exact ⟨v, by omega, ho.trans h⟩
          · exact ⟨j, by omega, hx⟩
      by_cases h6 : o.length = 1
      · obtain ⟨n, rfl⟩ := List.length_eq_one_iff.1 h6
        rw [show ((([n] : List Int).length : Int) == 1) = true from rfl]
        simp only [cond_true, Bool.true_and, hasS _ _ (show out.length < 1000000 by omega), Option.bind_some]
        have e1 : ([n] : List Int).getD (Int.toNat 0) default = n := rfl
        rw [e1]
        have hany : (out.any fun y => n == y) = decide (n ∈ out) := by
          rw [Bool.eq_iff_iff]; simp
        rw [hany]
        refine T_if (fun hq => ?_) (fun hq => T_ret ⟨h2, fun x => ?_, by omega, by omega⟩)
        · simp only [Bool.not_eq_true', decide_eq_false_iff_not] at hq
          refine T_ask (by simp) ?_
          obtain ⟨m', g1, g2, g3, g4⟩ := putInt out n h2 hq (by omega)
          rw [g1]
          refine T_ret ⟨g2, fun x => ?_, by rw [hstep, if_pos (by simp)]; omega, by omega⟩
          rw [g3, hmem, h3]
          constructor
          · rintro (rfl | h)
            · exact .inl rfl
            · exact .inr h
          · rintro (h | h)
            · cases h; exact .inl rfl
            · exact .inr h
        · simp only [Bool.not_eq_false', decide_eq_true_eq] at hq
          rw [hmem, h3]
          constructor
          · exact .inr
          · rintro (h | h)
            · cases h; exact (h3 _).1 hq
            · exact h
      · rw [show ((o.length : Int) == 1) = false by simp; omega]
        simp only [cond_false, Bool.false_and, Option.bind_some]
        refine T_ret ⟨h2, fun x => ?_, by omega, by omega⟩
        rw [hmem, h3]
        constructor
        · exact .inr
        · rintro (h | h)
          · rw [h] at h6; exact absurd rfl h6
          · exact h
    · rintro m ⟨g1, g2, g3, g4⟩
      refine T_ret ?_
      simp only
      rw [wrap64_id (by omega) (by omega)]
      exact ⟨⟨v + 1, by omega, by omega, g1, g2, g3, g4⟩, by omega⟩
  · simp only [decide_eq_false_iff_not] at hv
    obtain rfl : v = rs.length := by omega
    rw [List.take_length] at h4
    exact T_ret ⟨h2, h3, h4⟩

theorem needL_asc {l : List Hold} {rs : List Record} {d : Int} (hl : holdsOk l = true) : (needL l rs d).Pairwise (· < ·) := by
  unfold needL
  rw [List.pairwise_map]
  refine List.Pairwise.filter _ ?_
  rw [List.pairwise_iff_getElem]
  intro i j hi hj hij
  unfold holdsOk at hl
  simp only [Bool.and_eq_true] at hl
  have := rise_key hl.1 (·.Id) (fun a b hab => by simp only [decide_eq_false_iff_not] at hab; omega) i j hij hj
  simpa [List.getD, hi, hj] using this

theorem needL_mem {l : List Hold} {rs : List Record} {d x : Int} : x ∈ needL l rs d ↔ ∃ j, j < rs.length ∧ onD l (rs.getD j default) d = [x] := by
  unfold needL needP
  simp only [List.mem_map, List.mem_filter, List.any_eq_true, beq_iff_eq]
  constructor
  · rintro ⟨h, ⟨_, r, hr, h1⟩, rfl⟩
    obtain ⟨j, hj, rfl⟩ := List.getElem_of_mem hr
    exact ⟨j, hj, by rw [show rs.getD j default = rs[j] by simp [List.getD, hj]]; exact h1⟩
  · rintro ⟨j, hj, h1⟩
    have h2 : x ∈ onD l (rs.getD j default) d := by rw [h1]; simp
    obtain ⟨k, hk, _, h4⟩ := onD_mem.1 h2
    exact ⟨_, ⟨getD_mem hk, _, getD_mem hj, by rw [h1, h4]⟩, h4⟩

theorem need (l : List Hold) (rs : List Record) (d : Int) (hl : HoldsB l) (hr : RecsB rs) : M.impl_NeededHolds l rs d = some (bif asked l rs d then (needL l rs d, true) else ([], false)) ∧ M.spec_NeededHolds l rs d = some (bif asked l rs d then (needL l rs d, true) else ([], false)) ∧ (asked l rs d = true → (needL l rs d).length ≤ (heldL l rs d).length) := by
  unfold M.impl_NeededHolds M.spec_NeededHolds asked
  simp only [holdsI l hl, recsI rs hr, isDayI, holdsS l hl, recsS rs hr, l2DayS, Option.bind_some, bif_some]
  cases h1 : holdsOk l
  · exact ⟨rfl, rfl, by simp⟩
  cases h2 : recsOk rs
  · exact ⟨rfl, rfl, by simp⟩
  cases h3 : inR d 0 20000
  · exact ⟨rfl, rfl, by simp⟩
  simp only [Bool.not_true, Bool.or_false, cond_false, Bool.and_self, cond_true, needLoopI l rs d h1 hr.1, Option.bind_some, true_and]
  obtain ⟨e, g1, g2, g3, g4⟩ := needLoopS l rs d h1 hr.1
  have : e = needL l rs d := asc_eq g2 (needL_asc h1) fun x => by rw [g3, needL_mem]
  subst this
  rw [g1]
  exact ⟨rfl, fun _ => g4⟩

theorem heldL_len {l : List Hold} {rs : List Record} {d : Int} : (heldL l rs d).length ≤ rs.length := by
  unfold heldL; rw [List.length_map]; exact List.length_filter_le _ _
theorem needL_len {l : List Hold} {rs : List Record} {d : Int} : (needL l rs d).length ≤ l.length := by
  unfold needL; rw [List.length_map]; exact List.length_filter_le _ _

/-! ### Draws -/
theorem dRelease {code : List Int} (hb : Bytes code) : T (M.spec_DrawReleaseHold code) (fun r => HoldsB r.1) := by
  unfold M.spec_DrawReleaseHold
  refine (drawHolds hb (k := 0) ⟨rfl, Int.le_refl _, Int.le_refl _⟩ (by omega)).then ?_
  rintro ⟨l, c1⟩ ⟨h1, h2⟩
  simp only at h1 h2
  have hB := h1.b
  refine T_among hb h2 (by omega) (by simp) ?_
  intro x c2 _ h3
  dsimp only
  refine T.then (Q := fun r => Good code 1000 r.2) ?_ ?_
  · refine T_in ?_
    cases hc : decide ((l.length : Int) > 0)
    · simp only [cond_false, Bool.false_and]
      exact T_ret (T_ret (h3.up (by omega)))
    · simp only [cond_true, Bool.true_and]
      simp only [decide_eq_true_eq] at hc
      refine (one_ok hb h3 (by omega)).mono ?_
      rintro ⟨b, c3⟩ h4
      refine T_if (fun _ => ?_) (fun _ => T_ret (h4.up (by omega)))
      refine T_pick hb h4 (by omega) ?_
      intro y c4 _ h5 h6
      exact T_ask (h5 (by omega)) (T_ret (h6.up (by omega)))
  · rintro ⟨id_, c5⟩ h7
    refine T_among hb h7 (by omega) (by simp) ?_
    intro z c6 _ _
    exact T_ret hB

theorem dIsRecord {code : List Int} (hb : Bytes code) : T (M.spec_DrawIsRecord code) RecB := by
  unfold M.spec_DrawIsRecord
  refine T_among hb (k := 0) ⟨rfl, Int.le_refl _, Int.le_refl _⟩ (by omega) (by simp) ?_
  intro x c2 _ h3
  refine (drawRecord hb h3 (by omega) x).then ?_
  rintro ⟨r, c3⟩ ⟨h4, _⟩
  exact T_ret (by simp only at h4; unfold RecB; dsimp only; omega)

theorem dMost {code : List Int} (hb : Bytes code) : T (M.spec_DrawMostHolds code) (fun r => Drawn r.1 r.2) := by
  unfold M.spec_DrawMostHolds
  refine (drawHolds hb (k := 0) ⟨rfl, Int.le_refl _, Int.le_refl _⟩ (by omega)).then ?_
  rintro ⟨l, c1⟩ ⟨h1, h2⟩
  refine (drawRecord hb h2 (by omega) 12).then ?_
  rintro ⟨r, c2⟩ ⟨h3, h4⟩
  exact T_ret ⟨h1.b, by simp only at h3 ⊢; unfold RecB; omega⟩

theorem dHeldOn {code : List Int} (hb : Bytes code) : T (M.spec_DrawHeldOn code) (fun r => HoldsB r.1 ∧ RecsB r.2.1) := by
  unfold M.spec_DrawHeldOn
  refine (drawHolds hb (k := 0) ⟨rfl, Int.le_refl _, Int.le_refl _⟩ (by omega)).then ?_
  rintro ⟨l, c1⟩ ⟨h1, h2⟩
  refine (drawHeld hb h2 (by omega)).then ?_
  rintro ⟨rs, c2⟩ ⟨h3, h4⟩
  refine (drawHoldDay hb h4 (by omega) l (by have := h1.1; simp only at this; omega)).then ?_
  rintro ⟨d, c3⟩ h5
  exact T_ret ⟨h1.b, h3⟩

theorem law_FnReleases (code : List Int) (h1 : code.length ≤ 9223372036854775807) (h2 : ∀ x, x ∈ code → 0 ≤ x ∧ x ≤ 255) : M.laws_FnReleases code = some true := by
  apply T.eq
  unfold M.laws_FnReleases M.laws_vBig
  rw [Option.bind_some]
  refine T_if (fun _ => T_ret rfl) (fun hq => ?_)
  simp only [decide_eq_false_iff_not] at hq
  have hb : Bytes code := ⟨by omega, h2⟩
  refine (dRelease hb).then ?_
  rintro ⟨l, id, day⟩ hl
  simp only at hl
  obtain ⟨res, e1, e2, hrel⟩ := releases l id day hl
  have hres : HoldsB res.1 := by
    rcases hrel with rfl | ⟨k, hk, _, _, _, _, _, rfl⟩
    · exact ⟨by simp, fun x hx => by cases hx⟩
    · exact ⟨by rw [List.length_set]; exact hl.1, fun x hx => by
        rcases List.mem_or_eq_of_mem_set hx with hx | rfl
        · exact hl.2 x hx
        · exact hl.at hk⟩
  simp only [e1, e2, Option.bind_some, beq_self_eq_true, Bool.not_true, Bool.false_or, cond_false, vHolds_self _ hres]
  refine (dIsRecord hb).then ?_
  intro r hr
  refine T.then (Q := fun e => e = .inl ()) ?_ ?_
  · simp only [recI r hr, bif_some, Option.bind_some]
    refine T_if (fun hc => ?_) (fun _ => T_ret rfl)
    rcases hrel with rfl | ⟨k, hk, g1, g2, g3, g4, g5, rfl⟩
    · cases hc
    have hrec : recOk r = true := by simpa using hc
    have f1 := (holdOk_spec ((holdsOk_spec g1).2 _ (getD_mem hk))).2.1
    have hday : inR day 0 20000 = true := inR_true.2 ⟨by omega, g5⟩
    have o1 : held l r day = true := by unfold held; rw [g1, hrec, hday]; rfl
    have o2 : held (l.set k (rel (l.getD k default) day)) r day = true := by
      unfold held
      rw [holdsOk_rel g1 hk (by omega), hrec, hday, inR_true.2 ⟨g4, g5⟩]; rfl
    have o3 : HoldsOn l r day = (onD l r day, true) := by unfold HoldsOn; rw [o1]; rfl
    have o4 : HoldsOn (l.set k (rel (l.getD k default) day)) r day = (onD (l.set k (rel (l.getD k default) day)) r day, true) := by unfold HoldsOn; rw [o2]; rfl
    obtain ⟨w1, w2⟩ := on_rel (r := r) g1 hk (show 0 ≤ day by omega)
    have n1 := onD_len (l := l.set k (rel (l.getD k default) day)) (r := r) (d := day)
    have n2 := onD_len (l := l) (r := r) (d := day)
    have n3 := hl.1
    rw [List.length_set] at n1
    simp only [holdsOnI l r day hl hr, holdsOnI _ r day hres hr, o3, o4, Option.bind_some, Bool.not_true, Bool.or_self, Bool.false_or, cond_false]
    rw [vHasL _ _ (by omega), Option.bind_some]
    have hn : ((onD (l.set k (rel (l.getD k default) day)) r day).any fun y => y == id) = false := by
      rw [List.any_eq_false]
      intro y hy e
      rw [beq_iff_eq] at e
      rw [e, ← g2] at hy
      exact w2 hy
    rw [hn, cond_false, vWithinL _ _ (by omega) (by omega) w1]
    exact T_ret rfl
  rintro _ rfl
  dsimp only
  refine (dMost hb).then ?_
  rintro ⟨l, r⟩ ⟨hl, hr⟩
  simp only at hl hr
  obtain ⟨m, f, m1, m2, m3⟩ := most l r hl hr
  obtain ⟨x, x1, x2, x3⟩ := days l r hl hr
  simp only [m1, m2, x1, x2, Option.bind_some, bne_self_eq_false, beq_self_eq_true, Bool.not_true, Bool.or_self, Bool.false_or, cond_false]
  have hx : (x.2 && !(decide (x.1 > 0) == decide (m > 0))) = false := by
    cases h : x.2
    · rfl
    · obtain ⟨y1, y2⟩ := x3 h
      rcases m3 with ⟨m4, _⟩ | ⟨_, m4⟩
      · rw [m4] at y1; cases y1
      · rw [y2, cnt_best m4]; simp
  rw [hx, cond_false]
  refine T.then (Q := fun e => e = .inl ()) ?_ ?_
  · refine T_if (fun hc => ?_) (fun _ => T_ret rfl)
    simp only [decide_eq_true_eq] at hc
    rcases m3 with ⟨_, m4⟩ | ⟨m5, m4⟩
    · omega
    obtain ⟨_, ⟨h, _⟩ | ⟨p1, p2, p3, p4, p5⟩⟩ := m4
    · omega
    obtain ⟨q1, q2, _, _⟩ := held_spec m5
    have o3 : HoldsOn l r f = (onD l r f, true) := by
      unfold HoldsOn held
      rw [q1, q2, inR_true.2 ⟨p2, p3⟩]; rfl
    rw [holdsOnI l r f hl hr, o3, Option.bind_some]
    have : ((onD l r f).length : Int) = m := p4
    rw [this]
    simp only [Bool.not_true, bne_self_eq_false, Bool.or_self, cond_false]
    exact T_ret rfl
  rintro _ rfl
  dsimp only
  refine (dHeldOn hb).then ?_
  rintro ⟨l, rs, d⟩ ⟨hl, hr⟩
  simp only at hl hr
  obtain ⟨k1, k2, k3⟩ := need l rs d hl hr
  have n1 := heldL_len (l := l) (rs := rs) (d := d)
  have n2 := needL_len (l := l) (rs := rs) (d := d)
  have n3 := hl.1
  have n4 := hr.1
  simp only [heldOnI l rs d hl hr, heldOnS l rs d hl hr, k1, k2, Option.bind_some, beq_self_eq_true, Bool.not_true, Bool.false_or, cond_false]
  cases ha : asked l rs d
  · simp only [cond_false, vInts_self _ (show ([] : List Int).length < 1000000 by simp), Option.bind_some, beq_self_eq_true, Bool.not_true, Bool.false_or, cond_false]
    exact T_ret rfl
  · have k4 := k3 ha
    simp only [cond_true, vInts_self _ (show (heldL l rs d).length < 1000000 by omega), vInts_self _ (show (needL l rs d).length < 1000000 by omega), Option.bind_some, beq_self_eq_true, Bool.not_true, Bool.false_or, cond_false]
    rw [decide_eq_false (by omega)]
    exact T_ret rfl

end Go.Proofs.Ytjbgllhimnopaaa
