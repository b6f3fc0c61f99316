/-
  Triggers dropped, series without a rule, contradictions; the plain law of cycles. Plain.
-/
import Derived.Test.YthffmnpbonkpaaaYa
import Derived.Test.YthffmnpbonkpaaaHc
import Derived.Test.YthffmnpbonkpaaaLi
import Derived.Test.YthffmnpbonkpaaaRa
set_option linter.unusedSimpArgs false
set_option linter.unusedVariables false
namespace Go.Proofs.Ythffmnpbonkpaaa
open Go.VS

/-! ### Triggers dropped -/
theorem delT (s : List Trigger) (p : Trigger → Bool) (fm : Trigger → Option Bool) (hfm : ∀ x ∈ s, fm x = some (p x)) (hl : s.length < 1000000) : M.slices_DeleteFunc_impl_Trigger_impl_Trigger s fm = some (s.filter fun x => !p x) := by
  unfold M.slices_DeleteFunc_impl_Trigger_impl_Trigger M.slices_IndexFunc_impl_Trigger_impl_Trigger
  rcases iter_find (step := M.slices_IndexFunc_impl_Trigger_impl_Trigger_l0 s fm) (s := 0) (fun k => (k : Int)) s.length (fun k => p (s.getD k default)) (fun k => .inr (k : Int)) (.inl ()) rfl (by omega)
    (fun k hk hp => by
      have := hfm _ (getD_mem hk)
      unfold M.slices_IndexFunc_impl_Trigger_impl_Trigger_l0
      simp (disch := first | omega | (intros; simp only [decide_eq_true_eq, decide_eq_false_iff_not, Bool.not_eq_true, Bool.not_eq_false, Bool.not_true, Bool.not_false] at *; omega)) only [cast_succ, asrt_pos, wrap64_id, Option.bind_some, cond_true, cond_false, decide_eq_true, decide_eq_false, Int.toNat_natCast, Bool.not_true, Bool.not_false, Bool.and_true, Bool.true_and, Bool.and_false, Bool.false_and, Bool.or_true, Bool.true_or, Bool.or_false, Bool.false_or, this, hp])
    (fun k hk hp => by
      have := hfm _ (getD_mem hk)
      unfold M.slices_IndexFunc_impl_Trigger_impl_Trigger_l0
      simp (disch := first | omega | (intros; simp only [decide_eq_true_eq, decide_eq_false_iff_not, Bool.not_eq_true, Bool.not_eq_false, Bool.not_true, Bool.not_false] at *; omega)) only [cast_succ, asrt_pos, wrap64_id, Option.bind_some, cond_true, cond_false, decide_eq_true, decide_eq_false, Int.toNat_natCast, Bool.not_true, Bool.not_false, Bool.and_true, Bool.true_and, Bool.and_false, Bool.false_and, Bool.or_true, Bool.true_or, Bool.or_false, Bool.false_or, this, hp])
    (by
      unfold M.slices_IndexFunc_impl_Trigger_impl_Trigger_l0
      simp (disch := first | omega | (intros; simp only [decide_eq_true_eq, decide_eq_false_iff_not, Bool.not_eq_true, Bool.not_eq_false, Bool.not_true, Bool.not_false] at *; omega)) only [cast_succ, asrt_pos, wrap64_id, Option.bind_some, cond_true, cond_false, decide_eq_true, decide_eq_false, Int.toNat_natCast, Bool.not_true, Bool.not_false, Bool.and_true, Bool.true_and, Bool.and_false, Bool.false_and, Bool.or_true, Bool.true_or, Bool.or_false, Bool.false_or]) with ⟨k, h1, h2, h3, h4⟩ | ⟨h1, h2⟩
  · rw [h4, Option.bind_some]
    try dsimp only
    rw [Option.bind_some, show (((k : Nat) : Int) == -1) = false by rw [beq_eq_false_iff_ne]; omega, cond_false, wrap64_id (by omega) (by omega)]
    apply T.eq
    have hpre : (s.take (k + 1)).filter (fun x => !p x) = s.take k := by
      rw [take_succ_getD h1, List.filter_append]
      have e1 : (s.take k).filter (fun x => !p x) = s.take k := by
        rw [List.filter_eq_self]
        intro x hx
        obtain ⟨j, hj, rfl⟩ := List.getElem_of_mem hx
        rw [List.length_take] at hj
        rw [List.getElem_take]
        have := h3 j (by omega)
        simp only [List.getD, List.getElem?_eq_getElem (show j < s.length by omega), Option.getD_some] at this
        rw [this]; rfl
      rw [e1, List.filter_cons, h2]
      simp
    refine T.then (Q := fun e => ∃ m : Nat, e.2 = (m : Int) ∧ m ≤ s.length ∧ e.1.length = s.length ∧ e.1.take m = s.filter (fun x => !p x)) (T_iter (fun q => ∃ (m j : Nat), q.2.1 = (m : Int) ∧ q.2.2 = (j : Int) ∧ m < j ∧ j ≤ s.length ∧ q.1.length = s.length ∧ q.1.take m = (s.take j).filter (fun x => !p x) ∧ ∀ i, j ≤ i → q.1.getD i default = s.getD i default) (fun q => s.length - q.2.2.toNat) _
      ⟨k, k + 1, rfl, by show ((k : Int) + 1) = ((k + 1 : Nat) : Int); omega, by omega, by omega, rfl, hpre.symm, fun i _ => rfl⟩ (by simp only; omega) ?_) ?_
    · rintro ⟨s1, _, _⟩ ⟨m, j, rfl, rfl, g1, g2, g4, g5, g6⟩
      simp only at g4 g5 g6
      unfold M.slices_DeleteFunc_impl_Trigger_impl_Trigger_l0
      try dsimp only
      refine T_if (fun hq => ?_) (fun hq => ?_)
      · simp only [decide_eq_true_eq] at hq
        have hj : j < s.length := by omega
        have hdd : (s.take (j + 1)).filter (fun x => !p x) = (s.take j).filter (fun x => !p x) ++ (if p (s.getD j default) = true then [] else [s.getD j default]) := by
          rw [take_succ_getD hj, List.filter_append]
          congr 1
          rw [List.filter_cons]
          cases p (s.getD j default) <;> rfl
        rw [Int.toNat_natCast, Int.toNat_natCast, g6 j (Nat.le_refl _), hfm _ (getD_mem hj)]
        refine T_in (T_ask ⟨by omega, by omega⟩ ?_)
        rw [Option.bind_some]
        cases hp : p (s.getD j default)
        · rw [hp, if_neg (by simp)] at hdd
          simp only [Bool.not_false, cond_true]
          refine T_ask ⟨by omega, by omega⟩ (T_ret (T_ret ?_))
          simp only
          rw [wrap64_id (n := (m : Int) + 1) (by omega) (by omega), wrap64_id (n := (j : Int) + 1) (by omega) (by omega)]
          refine ⟨⟨m + 1, j + 1, by omega, by omega, by omega, by omega, by simpa using g4, ?_, fun i hi => ?_⟩, by omega⟩
          · rw [take_setB (by omega), g5, hdd]
          · rw [getD_setB (by omega), if_neg (by omega)]
            exact g6 i (by omega)
        · rw [hp, if_pos rfl, List.append_nil] at hdd
          simp only [Bool.not_true, cond_false]
          refine T_ret (T_ret ?_)
          simp only
          rw [wrap64_id (n := (j : Int) + 1) (by omega) (by omega)]
          exact ⟨⟨m, j + 1, rfl, by omega, by omega, by omega, g4, by rw [g5, hdd], fun i hi => g6 i (by omega)⟩, by omega⟩
      · simp only [decide_eq_false_iff_not] at hq
        have : j = s.length := by omega
        rw [this, List.take_length] at g5
        exact T_ret ⟨m, rfl, by omega, g4, g5⟩
    · rintro ⟨s0, _⟩ ⟨m, rfl, g1, g2, g3⟩
      simp only at g1 g2 g3
      try dsimp only
      simp only [Int.toNat_natCast, Nat.zero_add]
      refine T_ask ⟨by omega, by omega, by omega⟩ (T_ask (by omega) (T_ask ⟨by omega, by omega, by simp; omega⟩ (T_ask (by simp; omega) (T_ret ?_))))
      rw [show m - Int.toNat 0 = m from rfl, List.append_assoc, List.take_append_of_le_length (by rw [List.length_take]; omega), List.take_take, Nat.min_self, g3]
  · rw [h2]
    have : s.filter (fun x => !p x) = s := by
      rw [List.filter_eq_self]
      intro x hx
      obtain ⟨j, hj, rfl⟩ := List.getElem_of_mem hx
      have := h1 j hj
      simp only [List.getD, List.getElem?_eq_getElem hj, Option.getD_some] at this
      rw [this]; rfl
    rw [this]
    rfl

def DropT (l : List Trigger) (e : Int) : List Trigger × Bool := bif tgsOk l && inR e 0 9 then (l.filter fun t => !((t.Event == e) || (t.After == e)), true) else ([], false)
theorem DropT_len {l : List Trigger} {e : Int} (hl : l.length < 1000000) : (DropT l e).1.length < 1000000 := by
  unfold DropT
  have := List.length_filter_le (fun t : Trigger => !((t.Event == e) || (t.After == e))) l
  cases tgsOk l && inR e 0 9
  · simp
  · rw [cond_true]; simp only; omega
theorem dropTI (l : List Trigger) (e : Int) (hl : l.length < 1000000) : M.impl_DropTriggers l e = some (DropT l e) := by
  unfold M.impl_DropTriggers DropT M.impl_isKind M.slices_Clone_impl_Trigger_impl_Trigger
  rw [tgsI l hl, Option.bind_some]
  cases tgsOk l
  · rfl
  rw [Bool.not_true, cond_false, withinI, Option.bind_some, Option.bind_some]
  cases inR e 0 9
  · rfl
  rw [Bool.not_true, Bool.or_self, cond_false, asrt_pos (by omega), Option.bind_some, delT l (fun t => (t.Event == e) || (t.After == e)) (fun x0 => M.impl_DropTriggers_1 x0 e) (fun x _ => rfl) hl, Option.bind_some]
  rfl
theorem dropTS (l : List Trigger) (e : Int) (hl : l.length < 1000000) : M.spec_DropTriggers l e = some (DropT l e) := by
  unfold M.spec_DropTriggers DropT
  rw [tgsS l hl, Option.bind_some]
  cases tgsOk l
  · rfl
  rw [Bool.not_true, cond_false, l1InS, Option.bind_some]
  cases inR e 0 9
  · rfl
  rw [Bool.not_true, Bool.or_self, cond_false, Bool.and_self, cond_true]
  rw [iter_coll (s := (([] : List Trigger), (0 : Int))) (step := M.spec_DropTriggers_l0 l e) (fun a k => (a, (k : Int))) (fun t : Trigger => bif !((t.Event == e) || (t.After == e)) then [t] else []) id l rfl (by omega) (fun k _ => if_len _ _) (fun a k hk ha => by
    unfold M.spec_DropTriggers_l0
    dsimp only
    rw [decide_eq_true (show (k : Int) < (l.length : Int) by omega), cond_true, asrt_pos ⟨by omega, by omega⟩, asrt_pos (fun _ => ⟨by omega, by omega⟩), Int.toNat_natCast, wrap64_id (by omega) (by omega), app_if]
    rw [show ((l.getD k default).Event != e && (l.getD k default).After != e) = !(((l.getD k default).Event == e) || ((l.getD k default).After == e)) by rw [Bool.not_or]; rfl]
    cases !(((l.getD k default).Event == e) || ((l.getD k default).After == e))
    · rfl
    · rw [cond_true, cond_true, asrt_pos ⟨by omega, by omega⟩, asrt_pos (by simp; omega)]
      rfl) (fun a ha => by
    unfold M.spec_DropTriggers_l0
    dsimp only
    rw [decide_eq_false (by omega)]
    rfl)]
  simp only [id, Option.bind_some, flatMap_if, List.map_id']

/-! ### Series without a rule -/
def GapD (l : List Rule) (ser : List Int) : List Int × Bool := bif schedOk l && (serOk ser && decide ((ser.length : Int) ≤ 20)) then (ser.filter fun s => ((rulesFor l s).length : Int) == 0, true) else ([], false)
theorem gapI (l : List Rule) (ser : List Int) (hl : l.length < 1000000) (hs : ser.length < 1000000) : M.impl_SeriesGaps l ser = some (GapD l ser) := by
  unfold M.impl_SeriesGaps GapD
  rw [schedI l hl, Option.bind_some]
  cases schedOk l
  · rfl
  rw [Bool.not_true, cond_false, serI ser 20 hs, Option.bind_some]
  cases serOk ser && decide ((ser.length : Int) ≤ 20)
  · rfl
  rw [Bool.not_true, Bool.or_self, cond_false, Bool.and_self, cond_true]
  rw [iter_coll (s := (([] : List Int), (0 : Int))) (step := M.impl_SeriesGaps_l0 l ser) (fun a k => (a, (k : Int))) (fun s : Int => bif ((rulesFor l s).length : Int) == 0 then [s] else []) id ser rfl (by omega) (fun k _ => if_len _ _) (fun a k hk ha => by
    unfold M.impl_SeriesGaps_l0
    dsimp only
    rw [decide_eq_true (show (k : Int) < (ser.length : Int) by omega), cond_true, asrt_pos ⟨by omega, by omega⟩, Int.toNat_natCast, forI l _ hl, Option.bind_some, wrap64_id (by omega) (by omega), app_if]
    cases ((rulesFor l (ser.getD k default)).length : Int) == 0
    · rfl
    · rw [cond_true, cond_true, asrt_pos (by simp; omega)]
      rfl) (fun a ha => by
    unfold M.impl_SeriesGaps_l0
    dsimp only
    rw [decide_eq_false (by omega)]
    rfl)]
  simp only [id, Option.bind_some, flatMap_if, List.map_id']
theorem gapS (l : List Rule) (ser : List Int) (hl : l.length < 1000000) (hs : ser.length < 1000000) : M.spec_SeriesGaps l ser = some (GapD l ser) := by
  unfold M.spec_SeriesGaps GapD
  rw [schedS l hl, Option.bind_some]
  cases schedOk l
  · rfl
  rw [show decide ((ser.length : Int) > 20) = !decide ((ser.length : Int) ≤ 20) by rw [Bool.eq_iff_iff]; simp]
  cases decide ((ser.length : Int) ≤ 20)
  · rw [Bool.and_false]; rfl
  rw [Bool.not_true, Bool.or_self, cond_false, serS ser hs, Option.bind_some]
  cases serOk ser
  · rfl
  rw [Bool.not_true, Bool.or_self, cond_false, Bool.and_self, Bool.and_self, cond_true]
  rw [iter_coll (s := (([] : List Int), (0 : Int))) (step := M.spec_SeriesGaps_l0 l ser) (fun a k => (a, (k : Int))) (fun s : Int => bif ((rulesFor l s).length : Int) == 0 then [s] else []) id ser rfl (by omega) (fun k _ => if_len _ _) (fun a k hk ha => by
    unfold M.spec_SeriesGaps_l0
    dsimp only
    rw [decide_eq_true (show (k : Int) < (ser.length : Int) by omega), cond_true, asrt_pos ⟨by omega, by omega⟩, Int.toNat_natCast, forS l _ hl, Option.bind_some, wrap64_id (by omega) (by omega), app_if]
    cases ((rulesFor l (ser.getD k default)).length : Int) == 0
    · rfl
    · rw [cond_true, cond_true, asrt_pos ⟨by omega, by omega⟩, asrt_pos (by simp; omega)]
      rfl) (fun a ha => by
    unfold M.spec_SeriesGaps_l0
    dsimp only
    rw [decide_eq_false (by omega)]
    rfl)]
  simp only [id, Option.bind_some, flatMap_if, List.map_id']
theorem GapD_len {l : List Rule} {ser : List Int} (hs : ser.length < 1000000) : (GapD l ser).1.length < 1000000 := by
  unfold GapD
  have := List.length_filter_le (fun s : Int => ((rulesFor l s).length : Int) == 0) ser
  cases schedOk l && (serOk ser && decide ((ser.length : Int) ≤ 20))
  · simp
  · rw [cond_true]; simp only; omega

/-! ### Contradictions -/
/-- Series in the order of a schedule, each once. -/
def serStep (a : List Int) (r : Rule) : List Int := bif !(a.any fun y => y == r.Series) then a ++ [r.Series] else a
def serIn (l : List Rule) : List Int := l.foldl serStep []
theorem serStep_len {a : List Int} {r : Rule} {k : Nat} (h : a.length ≤ k) : (serStep a r).length ≤ k + 1 := by
  unfold serStep
  cases !(a.any fun y => y == r.Series)
  · rw [cond_false]; omega
  · rw [cond_true, List.length_append, List.length_singleton]; omega
theorem serInI (l : List Rule) (hl : l.length < 1000000) : M.impl_seriesIn l = some (serIn l) := by
  unfold M.impl_seriesIn
  rw [iter_fold (s := (([] : List Int), (0 : Int))) (step := M.impl_seriesIn_l0 l) (fun (a : List Int) (k : Nat) => (a, (k : Int))) serStep (fun a => a) l [] (fun a k => a.length ≤ k) rfl (by omega) (by simp) (fun a k hk hI => ⟨?_, serStep_len hI⟩) (fun a hI => ?_), Option.bind_some]
  · rfl
  · unfold M.impl_seriesIn_l0 serStep
    dsimp only
    rw [decide_eq_true (show (k : Int) < (l.length : Int) by omega), cond_true, asrt_pos ⟨by omega, by omega⟩, Int.toNat_natCast, contK a _ (by omega), Option.bind_some, wrap64_id (by omega) (by omega)]
    cases !(a.any fun y => y == (l.getD k default).Series)
    · rfl
    · rw [cond_true, cond_true, asrt_pos (by simp; omega)]
      rfl
  · unfold M.impl_seriesIn_l0
    dsimp only
    rw [decide_eq_false (by omega)]
    rfl

/-- A list that only takes what is not in it, in rising order, rises. -/
theorem rise_in {P : Rule → Bool} : ∀ (l : List Rule) (a : List Int), l.Pairwise (fun x y => x.Series ≤ y.Series) → a.Pairwise (· < ·) → (∀ y ∈ a, ∀ r ∈ l, y ≤ r.Series) →
    (l.foldl (fun a r => bif P r && !(a.any fun y => y == r.Series) then a ++ [r.Series] else a) a).Pairwise (· < ·) ∧ ∀ y, y ∈ l.foldl (fun a r => bif P r && !(a.any fun y => y == r.Series) then a ++ [r.Series] else a) a ↔ y ∈ a ∨ ∃ r ∈ l, P r = true ∧ r.Series = y
  | [], a, _, ha, _ => ⟨ha, fun y => by simp⟩
  | r :: l, a, hl, ha, hal => by
    obtain ⟨h1, h2⟩ := List.pairwise_cons.1 hl
    rw [List.foldl_cons]
    cases hp : P r && !(a.any fun y => y == r.Series)
    · rw [cond_false]
      obtain ⟨g1, g2⟩ := rise_in (P := P) l a h2 ha (fun y hy q hq => hal y hy q (by simp [hq]))
      refine ⟨g1, fun y => (g2 y).trans ?_⟩
      constructor
      · rintro (h | ⟨q, hq, h3, h4⟩)
        · exact .inl h
        · exact .inr ⟨q, by simp [hq], h3, h4⟩
      · rintro (h | ⟨q, hq, h3, h4⟩)
        · exact .inl h
        · rcases List.mem_cons.1 hq with e | e
          · subst e
            rw [h3, Bool.true_and, Bool.not_eq_false'] at hp
            obtain ⟨z, hz, ez⟩ := List.any_eq_true.1 hp
            rw [beq_iff_eq] at ez
            exact .inl (by rw [← h4, ← ez]; exact hz)
          · exact .inr ⟨q, e, h3, h4⟩
    · rw [cond_true]
      simp only [Bool.and_eq_true, Bool.not_eq_true'] at hp
      have hno : r.Series ∉ a := fun hm => by
        have := List.any_eq_false.1 hp.2 _ hm
        simp at this
      obtain ⟨g1, g2⟩ := rise_in (P := P) l (a ++ [r.Series]) h2 (by
        rw [List.pairwise_append]
        refine ⟨ha, by simp, fun y hy z hz => ?_⟩
        rw [List.mem_singleton.1 hz]
        have := hal y hy r (by simp)
        have : y ≠ r.Series := fun e => hno (e ▸ hy)
        omega) (fun y hy q hq => by
        rcases List.mem_append.1 hy with e | e
        · exact hal y e q (by simp [hq])
        · rw [List.mem_singleton.1 e]; exact h1 q hq)
      refine ⟨g1, fun y => (g2 y).trans ?_⟩
      rw [List.mem_append, List.mem_singleton]
      constructor
      · rintro ((h | h) | ⟨q, hq, h3, h4⟩)
        · exact .inl h
        · exact .inr ⟨r, by simp, hp.1, h.symm⟩
        · exact .inr ⟨q, by simp [hq], h3, h4⟩
      · rintro (h | ⟨q, hq, h3, h4⟩)
        · exact .inl (.inl h)
        · rcases List.mem_cons.1 hq with e | e
          · subst e; exact .inl (.inr h4.symm)
          · exact .inr ⟨q, e, h3, h4⟩

def hasCon (l : List Rule) (s : Int) : Bool := (rulesFor l s).any fun a => (a.Act == 1) && ((rulesFor l s).any fun b => (b.Act == 3) && (b.Days == a.Days))
theorem contR (t : List Rule) (p : Rule → Bool) (fm : Rule → Option Bool) (hfm : ∀ x ∈ t, fm x = some (p x)) (hl : t.length < 1000000) : M.slices_ContainsFunc_impl_Rule_impl_Rule t fm = some (t.any p) := by
  unfold M.slices_ContainsFunc_impl_Rule_impl_Rule M.slices_IndexFunc_impl_Rule_impl_Rule
  have h := iter_first (step := M.slices_IndexFunc_impl_Rule_impl_Rule_l0 t fm) p t (by omega) (fun k hk => by
    have := hfm _ (getD_mem hk)
    unfold M.slices_IndexFunc_impl_Rule_impl_Rule_l0
    simp (disch := first | omega | (intros; simp only [decide_eq_true_eq, decide_eq_false_iff_not, Bool.not_eq_true, Bool.not_eq_false, Bool.not_true, Bool.not_false] at *; omega)) only [cast_succ, asrt_pos, wrap64_id, Option.bind_some, cond_true, cond_false, decide_eq_true, decide_eq_false, Int.toNat_natCast, Bool.not_true, Bool.not_false, Bool.and_true, Bool.true_and, Bool.and_false, Bool.false_and, Bool.or_true, Bool.true_or, Bool.or_false, Bool.false_or, bif_some, this]) (by
    unfold M.slices_IndexFunc_impl_Rule_impl_Rule_l0
    simp (disch := first | omega | (intros; simp only [decide_eq_true_eq, decide_eq_false_iff_not, Bool.not_eq_true, Bool.not_eq_false, Bool.not_true, Bool.not_false] at *; omega)) only [cast_succ, asrt_pos, wrap64_id, Option.bind_some, cond_true, cond_false, decide_eq_true, decide_eq_false, Int.toNat_natCast, Bool.not_true, Bool.not_false, Bool.and_true, Bool.true_and, Bool.and_false, Bool.false_and, Bool.or_true, Bool.true_or, Bool.or_false, Bool.false_or])
  refine (congrArg (fun q => q.bind fun y0 => some (decide (y0 ≥ 0))) h).trans ?_
  rw [Option.bind_some, firstAt_any]
theorem conI (l : List Rule) (s : Int) (hl : l.length < 1000000) : M.impl_Contradictions_1 s l = some (!hasCon l s) := by
  have hr : (rulesFor l s).length < 1000000 := by have := rulesFor_len (l := l) (s := s); omega
  unfold M.impl_Contradictions_1 hasCon
  rw [forI l s hl, Option.bind_some, contR (rulesFor l s) (fun a => (a.Act == 1) && ((rulesFor l s).any fun b => (b.Act == 3) && (b.Days == a.Days))) (fun x0 => M.impl_Contradictions_1_1 x0 (rulesFor l s)) (fun a _ => ?_) hr, Option.bind_some]
  unfold M.impl_Contradictions_1_1
  rw [contR (rulesFor l s) (fun b => (b.Act == 3) && (b.Days == a.Days)) (fun x0 => M.impl_Contradictions_1_1_1 x0 a) (fun x _ => rfl) hr]
  cases a.Act == 1 <;> rfl
def ConD (l : List Rule) : List Int × Bool := bif schedOk l then ((serIn l).filter (hasCon l), true) else ([], false)
theorem serIn_len {l : List Rule} : (serIn l).length ≤ l.length := by
  have key : ∀ (l : List Rule) (a : List Int), (l.foldl serStep a).length ≤ a.length + l.length := by
    intro l
    induction l with
    | nil => intro a; simp
    | cons r l ih =>
      intro a
      have h1 := ih (serStep a r)
      have h2 := serStep_len (a := a) (r := r) (Nat.le_refl _)
      rw [List.foldl_cons, List.length_cons]
      omega
  have := key l []
  simpa [serIn] using this
theorem conDI (l : List Rule) (hl : l.length < 1000000) : M.impl_Contradictions l = some (ConD l) := by
  unfold M.impl_Contradictions ConD
  rw [schedI l hl, Option.bind_some]
  cases schedOk l
  · rfl
  have h1 := serIn_len (l := l)
  rw [Bool.not_true, cond_false, serInI l hl, Option.bind_some, delI (serIn l) (fun s => !hasCon l s) (fun x0 => M.impl_Contradictions_1 x0 l) (fun x _ => conI l x hl) (by omega), Option.bind_some, cond_true]
  simp only [Bool.not_not]

/-- The pairs of the reference. -/
def conQ (l : List Rule) (a b : Rule) : Bool := (((a.Series == b.Series) && (a.Act == 1)) && (b.Act == 3)) && (a.Days == b.Days)
def conIn (l : List Rule) (a : Rule) (out : List Int) (b : Rule) : List Int := bif conQ l a b && !(out.any fun y => y == a.Series) then out ++ [a.Series] else out
theorem conIn_all (l : List Rule) (a : Rule) : ∀ (m : List Rule) (out : List Int), m.foldl (conIn l a) out = bif (m.any (conQ l a)) && !(out.any fun y => y == a.Series) then out ++ [a.Series] else out
  | [], out => by simp
  | b :: m, out => by
    rw [List.foldl_cons, conIn_all l a m, List.any_cons]
    unfold conIn
    cases h1 : conQ l a b
    · rw [Bool.false_and, cond_false, Bool.false_or]
    · rw [Bool.true_and, Bool.true_or, Bool.true_and]
      cases h2 : out.any fun y => y == a.Series
      · rw [Bool.not_false, cond_true]
        have : ((out ++ [a.Series]).any fun y => y == a.Series) = true := by simp
        rw [this, Bool.not_true, Bool.and_false, cond_false]
      · rw [Bool.not_true, cond_false, h2, Bool.not_true, Bool.and_false, cond_false]
theorem conIn_len {l : List Rule} {a b : Rule} {out : List Int} {k : Nat} (h : out.length ≤ k) : (conIn l a out b).length ≤ k + 1 := by
  unfold conIn
  cases conQ l a b && !(out.any fun y => y == a.Series)
  · rw [cond_false]; omega
  · rw [cond_true, List.length_append, List.length_singleton]; omega
theorem conS1 (l : List Rule) (i : Nat) (hi : i < l.length) (hl : l.length < 100000) (out : List Int) (ho : out.length < 100000) : iterO (M.spec_Contradictions_l1 l (i : Int)) (out, (0 : Int)) = some (l.foldl (conIn l (l.getD i default)) out) := by
  rw [iter_fold (s := (out, (0 : Int))) (step := M.spec_Contradictions_l1 l (i : Int)) (fun (a : List Int) (k : Nat) => (a, (k : Int))) (conIn l (l.getD i default)) (fun a => a) l out (fun a k => a.length ≤ out.length + k) rfl (by omega) (by simp) (fun a k hk hI => ⟨?_, conIn_len hI⟩) (fun a hI => ?_)]
  · unfold M.spec_Contradictions_l1 conIn conQ
    dsimp only
    rw [decide_eq_true (show (k : Int) < (l.length : Int) by omega), cond_true, asrt_pos ⟨by omega, by omega⟩, asrt_pos ⟨by omega, by omega⟩, Option.bind_some]
    try dsimp only
    rw [Int.toNat_natCast, Int.toNat_natCast, hasK a _ (by omega), wrap64_id (by omega) (by omega)]
    cases (((((l.getD i default).Series == (l.getD k default).Series) && ((l.getD i default).Act == 1)) && ((l.getD k default).Act == 3)) && ((l.getD i default).Days == (l.getD k default).Days))
    · rfl
    · rw [cond_true, Option.bind_some, Bool.true_and]
      cases !(a.any fun y => y == (l.getD i default).Series)
      · rfl
      · rw [cond_true, cond_true, asrt_pos (by simp; omega)]
        rfl
  · unfold M.spec_Contradictions_l1
    dsimp only
    rw [decide_eq_false (by omega)]
    rfl
def conStep (l : List Rule) (out : List Int) (a : Rule) : List Int := bif l.any (conQ l a) && !(out.any fun y => y == a.Series) then out ++ [a.Series] else out
theorem conS (l : List Rule) (hl : l.length < 100000) : M.spec_Contradictions l = some (bif schedOk l then (l.foldl (conStep l) [], true) else ([], false)) := by
  unfold M.spec_Contradictions
  rw [schedS l (by omega), Option.bind_some]
  cases schedOk l
  · rfl
  rw [Bool.not_true, cond_false, cond_true]
  rw [iter_fold (s := (([] : List Int), (0 : Int))) (step := M.spec_Contradictions_l0 l) (fun (a : List Int) (k : Nat) => (a, (k : Int))) (conStep l) (fun a => a) l [] (fun a k => a.length ≤ k) rfl (by omega) (by simp) (fun a k hk hI => ⟨?_, ?_⟩) (fun a hI => ?_), Option.bind_some]
  · unfold M.spec_Contradictions_l0
    dsimp only
    rw [decide_eq_true (show (k : Int) < (l.length : Int) by omega), cond_true, conS1 l k hk hl a (by omega), Option.bind_some, conIn_all, wrap64_id (by omega) (by omega)]
    rfl
  · unfold conStep
    cases l.any (conQ l (l.getD k default)) && !(a.any fun y => y == (l.getD k default).Series)
    · rw [cond_false]; omega
    · rw [cond_true, List.length_append, List.length_singleton]; omega
  · unfold M.spec_Contradictions_l0
    dsimp only
    rw [decide_eq_false (by omega)]
    rfl
theorem con_same {l : List Rule} (h : schedOk l = true) : l.foldl (conStep l) [] = (serIn l).filter (hasCon l) := by
  have hp : l.Pairwise (fun x y => x.Series ≤ y.Series) := (schedOk_iff.1 h).2.1.imp (fun hb => by rw [before_iff] at hb; omega)
  obtain ⟨a1, a2⟩ := rise_in (P := fun r => l.any (conQ l r)) l [] hp List.Pairwise.nil (fun y hy => absurd hy (by simp))
  obtain ⟨b1, b2⟩ := rise_in (P := fun _ => true) l [] hp List.Pairwise.nil (fun y hy => absurd hy (by simp))
  have e1 : l.foldl (conStep l) [] = l.foldl (fun a r => bif l.any (conQ l r) && !(a.any fun y => y == r.Series) then a ++ [r.Series] else a) [] := rfl
  have e2 : serIn l = l.foldl (fun a r => bif true && !(a.any fun y => y == r.Series) then a ++ [r.Series] else a) [] := rfl
  rw [e1, e2]
  refine strict_ext a1 (b1.sublist List.filter_sublist) fun y => ?_
  rw [a2, List.mem_filter, b2]
  simp only [List.not_mem_nil, false_or, true_and]
  constructor
  · rintro ⟨r, hr, hc, rfl⟩
    refine ⟨⟨r, hr, rfl⟩, ?_⟩
    obtain ⟨b, hb, hq⟩ := List.any_eq_true.1 hc
    unfold conQ at hq
    simp only [Bool.and_eq_true, beq_iff_eq] at hq
    obtain ⟨⟨⟨q1, q2⟩, q3⟩, q4⟩ := hq
    unfold hasCon
    rw [List.any_eq_true]
    refine ⟨r, List.mem_filter.2 ⟨hr, beq_self_eq_true _⟩, ?_⟩
    rw [Bool.and_eq_true, List.any_eq_true]
    refine ⟨by rw [q2]; rfl, b, List.mem_filter.2 ⟨hb, by rw [beq_iff_eq]; exact q1.symm⟩, ?_⟩
    rw [q3, q4]; simp
  · rintro ⟨_, hc⟩
    unfold hasCon at hc
    obtain ⟨r, hr, hq⟩ := List.any_eq_true.1 hc
    rw [Bool.and_eq_true, List.any_eq_true] at hq
    obtain ⟨q1, b, hb, q2⟩ := hq
    obtain ⟨hr, es⟩ := List.mem_filter.1 hr
    obtain ⟨hb, eb⟩ := List.mem_filter.1 hb
    simp only [Bool.and_eq_true, beq_iff_eq] at q1 q2 es eb
    refine ⟨r, hr, List.any_eq_true.2 ⟨b, hb, ?_⟩, es⟩
    unfold conQ
    simp only [Bool.and_eq_true, beq_iff_eq]
    exact ⟨⟨⟨by omega, q1⟩, q2.1⟩, q2.2.symm⟩
theorem conDS (l : List Rule) (hl : l.length < 100000) : M.spec_Contradictions l = some (ConD l) := by
  rw [conS l hl]
  unfold ConD
  cases h : schedOk l
  · rfl
  · rw [cond_true, cond_true, con_same h]
theorem ConD_len {l : List Rule} (hl : l.length < 1000000) : (ConD l).1.length < 1000000 := by
  unfold ConD
  have h1 := serIn_len (l := l)
  have h2 := List.length_filter_le (hasCon l) (serIn l)
  cases schedOk l
  · simp
  · rw [cond_true]; simp only; omega
end Go.Proofs.Ythffmnpbonkpaaa
