/-
  Events that are not expected, rules that never decide, the deciding rule; the plain law of what is expected. Plain.
-/
import Derived.Test.YtjfpdbhjoofllaaGreatYe
set_option linter.unusedSimpArgs false
set_option linter.unusedVariables false
namespace Go.Proofs.YtjfpdbhjoofllaaGreat
open Go.VS

/-! ### Events that are not expected -/
def missI (l : List Trigger) (s : List Rule) : List Int := (s.filter fun u => !(exD l u.Event).2).map fun u => u.Event
def MissD (l : List Trigger) (s : List Rule) : List Int × Bool := bif acy l && schedOk s then (dd (sortL (missI l s)), true) else ([], false)
theorem missI_len {l : List Trigger} {s : List Rule} : (missI l s).length ≤ s.length := by
  unfold missI
  rw [List.length_map]
  exact List.length_filter_le _ _
theorem missLen {l : List Trigger} {s : List Rule} (hs : s.length < 1000000) : (MissD l s).1.length < 1000000 := by
  unfold MissD
  cases acy l && schedOk s
  · simp
  · have h1 := dd_len (l := sortL (missI l s))
    have h2 := sortL_len (missI l s)
    have h3 := missI_len (l := l) (s := s)
    simp only [cond_true]
    omega
theorem missImpl (l : List Trigger) (s : List Rule) (hl : l.length < 1000000) (hs : s.length < 1000000) : M.impl_UnexpectedEvents l s = some (MissD l s) := by
  unfold M.impl_UnexpectedEvents MissD
  rw [acyI l hl, Option.bind_some]
  cases h1 : acy l
  · rfl
  rw [Bool.not_true, cond_false, schedI s hs, Option.bind_some]
  cases h2 : schedOk s
  · rfl
  obtain ⟨a1, a2⟩ := acy_spec h1
  rw [Bool.not_true, Bool.or_self, cond_false, Bool.and_self, cond_true]
  rw [iter_coll (s := (([] : List Int), (0 : Int))) (step := M.impl_UnexpectedEvents_l0 l s) (fun a k => (a, (k : Int))) (fun u : Rule => bif !(exD l u.Event).2 then [u.Event] else []) id s rfl (by omega) (fun k _ => if_len _ _) (fun a k hk ha => by
    have hu := sched_ev h2 _ (getD_mem hk)
    unfold M.impl_UnexpectedEvents_l0
    dsimp only
    rw [decide_eq_true (show (k : Int) < (s.length : Int) by omega), cond_true, asrt_pos ⟨by omega, by omega⟩, Int.toNat_natCast, (exD_I l a1 a2 _ hu.1).1, Option.bind_some, wrap64_id (by omega) (by omega), app_if]
    cases (exD l (s.getD k default).Event).2
    · rw [Bool.not_false, cond_true, cond_true, asrt_pos (by simp; omega)]
      rfl
    · rfl) (fun a ha => by
    unfold M.impl_UnexpectedEvents_l0
    dsimp only
    rw [decide_eq_false (by omega)]
    rfl)]
  have hm := missI_len (l := l) (s := s)
  simp only [id, Option.bind_some, flatMap_if]
  show ((M.slices_Sort_int_int (missI l s)).bind fun y4 => asrt (y4.length = (missI l s).length) <| (M.slices_Compact_int_int y4).bind fun y5 => some (y5, true)) = _
  unfold M.slices_Sort_int_int
  rw [asrt_pos (by omega), Option.bind_some, asrt_pos (sortL_len _), compactI _ (by rw [sortL_len]; omega), Option.bind_some]
theorem sortL_le (l : List Int) : (sortL l).Pairwise (· ≤ ·) := by
  have h := List.pairwise_mergeSort (le := fun x y : Int => decide (x ≤ y)) (fun a b c h1 h2 => by simp only [decide_eq_true_eq] at *; omega) (fun a b => by simp only [Bool.or_eq_true, decide_eq_true_eq]; omega) l
  exact h.imp fun h => by simpa using h
theorem miss_mem {l : List Trigger} {s : List Rule} {y : Int} : y ∈ dd (sortL (missI l s)) ↔ ∃ u ∈ s, (exD l u.Event).2 = false ∧ u.Event = y := by
  rw [(dd_spec (sortL_le _)).2 y]
  unfold sortL
  rw [List.mem_mergeSort]
  unfold missI
  rw [List.mem_map]
  constructor
  · rintro ⟨u, hu, e⟩
    obtain ⟨m1, m2⟩ := List.mem_filter.1 hu
    exact ⟨u, m1, by simpa using m2, e⟩
  · rintro ⟨u, m1, m2, e⟩
    exact ⟨u, List.mem_filter.2 ⟨m1, by rw [m2]; rfl⟩, e⟩
def specM (l : List Trigger) (s : List Rule) (k : Nat) : Bool := (s.any fun u => u.Event == (k : Int) + 1) && !(exD l ((k : Int) + 1)).2
theorem missUsed (s : List Rule) (e : Int) (hs : s.length < 1000000) : iterO (M.spec_UnexpectedEvents_l1 s e) (false, (0 : Int)) = some (s.any fun u => u.Event == e) := by
  rw [iter_fold (s := (false, (0 : Int))) (step := M.spec_UnexpectedEvents_l1 s e) (fun (b : Bool) (k : Nat) => (b, (k : Int))) (fun b t => b || (t.Event == e)) (fun b => b) s false (fun _ _ => True) rfl (by omega) trivial (fun b k hk _ => ⟨?_, trivial⟩) (fun b _ => ?_), foldl_or]
  · rfl
  · unfold M.spec_UnexpectedEvents_l1
    dsimp only
    rw [decide_eq_true (show (k : Int) < (s.length : Int) by omega), cond_true, asrt_pos (fun _ => ⟨by omega, by omega⟩), Int.toNat_natCast, wrap64_id (n := (k : Int) + 1) (by omega) (by omega)]
    rfl
  · unfold M.spec_UnexpectedEvents_l1
    dsimp only
    rw [decide_eq_false (by omega)]
    rfl
theorem range_getD {k n : Nat} (h : k < n) : (List.range n).getD k default = k := by
  rw [List.getD, List.getElem?_range h]; rfl
theorem missSpec (l : List Trigger) (s : List Rule) (hl : l.length < 1000000) (hs : s.length < 1000000) : M.spec_UnexpectedEvents l s = some (MissD l s) := by
  unfold M.spec_UnexpectedEvents MissD
  rw [acyS l hl, Option.bind_some]
  cases h1 : acy l
  · rfl
  rw [Bool.not_true, cond_false, schedS s hs, Option.bind_some]
  cases h2 : schedOk s
  · rfl
  obtain ⟨a1, a2⟩ := acy_spec h1
  rw [Bool.not_true, Bool.or_self, cond_false, Bool.and_self, cond_true]
  rw [iter_coll (s := (([] : List Int), (1 : Int))) (step := M.spec_UnexpectedEvents_l0 l s) (fun a k => (a, (k : Int) + 1)) (fun k : Nat => bif specM l s k then [(k : Int) + 1] else []) id (List.range 9) (by rfl) (by simp) (fun k _ => if_len _ _) (fun a k hk ha => by
    rw [List.length_range] at hk
    rw [range_getD hk]
    have hd := (exD_I l a1 a2 ((k : Int) + 1) (by omega)).2.1
    unfold M.spec_UnexpectedEvents_l0 specM
    dsimp only
    rw [decide_eq_true (show (k : Int) + 1 ≤ 9 by omega), cond_true, missUsed s _ hs, Option.bind_some, wrap64_id (by omega) (by omega), app_if]
    cases s.any fun u => u.Event == (k : Int) + 1
    · rw [cond_false, Option.bind_some, Bool.false_and, Bool.false_and, cond_false, cond_false]; rfl
    · rw [cond_true, hd, Option.bind_some, asDay_neg h1 (by omega), Bool.true_and]
      cases (exD l ((k : Int) + 1)).2
      · rw [Bool.not_false, cond_true, cond_true, asrt_pos (by simp; omega)]
        rfl
      · rfl) (fun a ha => by
    unfold M.spec_UnexpectedEvents_l0
    dsimp only
    rw [decide_eq_false (by simp)]
    rfl)]
  simp only [id, Option.bind_some, flatMap_if, cond_true]
  congr 1
  refine Prod.ext ?_ rfl
  simp only
  refine strict_ext ?_ (dd_spec (sortL_le _)).1 fun y => ?_
  · rw [List.pairwise_map]
    exact (List.Pairwise.filter _ (List.pairwise_lt_range)).imp fun h => by omega
  · rw [miss_mem, List.mem_map]
    constructor
    · rintro ⟨k, hk, e⟩
      obtain ⟨m1, m2⟩ := List.mem_filter.1 hk
      unfold specM at m2
      rw [Bool.and_eq_true, List.any_eq_true] at m2
      obtain ⟨⟨u, hu, e2⟩, e3⟩ := m2
      have e2 := eq_of_beq e2
      refine ⟨u, hu, ?_, by omega⟩
      rw [e2]; simpa using e3
    · rintro ⟨u, hu, e1, e2⟩
      have hb := (sched_ev h2 u hu).1
      by_cases h0 : u.Event = 0
      · rw [h0, exD_zero] at e1; cases e1
      · refine ⟨(u.Event - 1).toNat, List.mem_filter.2 ⟨List.mem_range.2 (by omega), ?_⟩, by omega⟩
        unfold specM
        rw [show (((u.Event - 1).toNat : Nat) : Int) + 1 = u.Event by omega, e1, show (s.any fun v => v.Event == u.Event) = true from List.any_eq_true.2 ⟨u, hu, beq_self_eq_true _⟩]
        rfl

/-! ### Rules that never decide -/
def nevP (s : List Rule) (u : Rule) : Bool := (u.Event == 0) && s.any fun x => (x.Series == u.Series) && decide (x.Days > u.Days)
def NevD (s : List Rule) : List (Int × Int) × Bool := bif schedOk s then ((s.filter (nevP s)).map fun u => (u.Series, u.Event), true) else ([], false)
theorem nevLen {s : List Rule} (hs : s.length < 1000000) : (NevD s).1.length < 1000000 := by
  unfold NevD
  cases schedOk s
  · simp
  · have := List.length_filter_le (nevP s) s
    simp only [cond_true, List.length_map]
    omega
theorem nevImpl (s : List Rule) (hs : s.length < 1000000) : M.impl_NeverDecides s = some (NevD s) := by
  unfold M.impl_NeverDecides NevD
  rw [schedI s hs, Option.bind_some]
  cases h2 : schedOk s
  · rfl
  rw [Bool.not_true, cond_false, cond_true]
  rw [iter_coll (s := (([] : List (Int × Int)), (0 : Int))) (step := M.impl_NeverDecides_l0 s) (fun a k => (a, (k : Int))) (fun u : Rule => bif nevP s u then [(u.Series, u.Event)] else []) id s rfl (by omega) (fun k _ => if_len _ _) (fun a k hk ha => by
    unfold M.impl_NeverDecides_l0 nevP
    dsimp only
    rw [decide_eq_true (show (k : Int) < (s.length : Int) by omega), cond_true, asrt_pos ⟨by omega, by omega⟩, Int.toNat_natCast, wrap64_id (by omega) (by omega), app_if]
    rw [contR s (fun x => (x.Series == (s.getD k default).Series) && decide (x.Days > (s.getD k default).Days)) (fun x0 => M.impl_NeverDecides_1 x0 (s.getD k default)) (fun x _ => rfl) hs]
    cases (s.getD k default).Event == 0
    · rfl
    · rw [cond_true, Option.bind_some, Bool.true_and]
      cases s.any fun x => (x.Series == (s.getD k default).Series) && decide (x.Days > (s.getD k default).Days)
      · rfl
      · rw [cond_true, cond_true, asrt_pos (by simp; omega)]
        rfl) (fun a ha => by
    unfold M.impl_NeverDecides_l0
    dsimp only
    rw [decide_eq_false (by omega)]
    rfl)]
  simp only [id, Option.bind_some, flatMap_if]
def mostD (a : Int) (u : Rule) : Int := bif decide (a > u.Days) then a else u.Days
theorem most_lt (d : Int) : ∀ (l : List Rule) (a : Int), decide (d < l.foldl mostD a) = (decide (d < a) || l.any fun x => decide (x.Days > d))
  | [], a => by rw [List.any_nil, Bool.or_false]; rfl
  | u :: l, a => by
    rw [List.foldl_cons, most_lt d l, List.any_cons, ← Bool.or_assoc]
    congr 1
    unfold mostD
    rw [Bool.eq_iff_iff]
    simp only [Bool.or_eq_true, decide_eq_true_eq]
    by_cases h : a > u.Days
    · rw [decide_eq_true h, cond_true]; omega
    · rw [decide_eq_false h, cond_false]; omega
theorem longS (s : List Rule) (ser : Int) (hs : s.length < 1000000) (h2 : schedOk s = true) (hne : rulesFor s ser ≠ []) : M.spec_LongestPeriod s ser = some ((rulesFor s ser).foldl mostD 0, true) := by
  have hlen := rulesFor_len (l := s) (s := ser)
  have h0 : (rulesFor s ser).length ≠ 0 := fun h => hne (List.length_eq_zero_iff.1 h)
  unfold M.spec_LongestPeriod
  rw [forS s ser hs, Option.bind_some, schedS s hs, Option.bind_some, h2, Bool.not_true, Bool.false_or, show (((rulesFor s ser).length : Int) == 0) = false from beq_eq_false_iff_ne.2 (by omega), cond_false]
  rw [iter_fold (s := ((0 : Int), (0 : Int))) (step := M.spec_LongestPeriod_l0 (rulesFor s ser)) (fun (a : Int) (k : Nat) => (a, (k : Int))) mostD (fun a => a) (rulesFor s ser) 0 (fun _ _ => True) rfl (by omega) trivial (fun a k hk _ => ⟨?_, trivial⟩) (fun a _ => ?_)]
  · rfl
  · unfold M.spec_LongestPeriod_l0 M.spec_l1Most mostD
    dsimp only
    rw [decide_eq_true (show (k : Int) < ((rulesFor s ser).length : Int) by omega), cond_true, asrt_pos ⟨by omega, by omega⟩, Int.toNat_natCast, wrap64_id (n := (k : Int) + 1) (by omega) (by omega), bif_some]
    rfl
  · unfold M.spec_LongestPeriod_l0
    dsimp only
    rw [decide_eq_false (by omega)]
    rfl
theorem nevSpec (s : List Rule) (hs : s.length < 1000000) : M.spec_NeverDecides s = some (NevD s) := by
  unfold M.spec_NeverDecides NevD
  rw [schedS s hs, Option.bind_some]
  cases h2 : schedOk s
  · rfl
  rw [Bool.not_true, cond_false, cond_true]
  rw [iter_coll (s := (([] : List (Int × Int)), (0 : Int))) (step := M.spec_NeverDecides_l0 s) (fun a k => (a, (k : Int))) (fun u : Rule => bif nevP s u then [(u.Series, u.Event)] else []) id s rfl (by omega) (fun k _ => if_len _ _) (fun a k hk ha => by
    have hu := sched_ev h2 _ (getD_mem hk)
    have hne : rulesFor s (s.getD k default).Series ≠ [] := List.ne_nil_of_mem (List.mem_filter.2 ⟨getD_mem hk, beq_self_eq_true _⟩)
    have hq : decide ((s.getD k default).Days < (rulesFor s (s.getD k default).Series).foldl mostD 0) = s.any fun x => (x.Series == (s.getD k default).Series) && decide (x.Days > (s.getD k default).Days) := by
      rw [most_lt, decide_eq_false (show ¬ (s.getD k default).Days < 0 by omega), Bool.false_or]
      unfold rulesFor
      rw [List.any_filter]
    unfold M.spec_NeverDecides_l0 nevP
    dsimp only
    rw [decide_eq_true (show (k : Int) < (s.length : Int) by omega), cond_true, asrt_pos ⟨by omega, by omega⟩, Int.toNat_natCast, wrap64_id (by omega) (by omega), app_if, longS s _ hs h2 hne, Option.bind_some]
    dsimp only
    rw [hq]
    cases ((s.getD k default).Event == 0) && s.any fun x => (x.Series == (s.getD k default).Series) && decide (x.Days > (s.getD k default).Days)
    · rfl
    · rw [cond_true, cond_true, asrt_pos (by simp; omega)]
      rfl) (fun a ha => by
    unfold M.spec_NeverDecides_l0
    dsimp only
    rw [decide_eq_false (by omega)]
    rfl)]
  simp only [id, Option.bind_some, flatMap_if]

/-! ### The deciding rule -/
def DecR (r : Record) (s : List Rule) : Rule × Bool := bif recOk r && schedOk s then ((deciding r s).2, decide ((deciding r s).1 ≥ 0)) else (noRule, false)
theorem decRI (r : Record) (s : List Rule) (hr : r.Events.length < 1000000) (hs : s.length < 1000000) : M.impl_DecidingRule r s = some (DecR r s) := by
  unfold M.impl_DecidingRule M.impl_areBoth DecR
  rw [recI r hr, Option.bind_some]
  cases h1 : recOk r
  · rfl
  rw [cond_true, schedI s hs, Option.bind_some]
  cases h2 : schedOk s
  · rfl
  rw [Bool.and_self, cond_true, Option.bind_some, Bool.not_true, cond_false, decidingI r s h1 h2, Option.bind_some]
theorem decMost {r : Record} : ∀ (l : List Rule) (a : Int × Rule), 0 ≤ (forE (decB r) id l a).1 →
    a.1 ≤ (forE (decB r) id l a).1 ∧ (∀ u ∈ l, 0 ≤ endOf r u ∧ endOf r u ≤ (forE (decB r) id l a).1) ∧ (forE (decB r) id l a = a ∨ ((forE (decB r) id l a).2 ∈ l ∧ (forE (decB r) id l a).1 = endOf r (forE (decB r) id l a).2))
  | [], a, _ => ⟨Int.le_refl _, fun u hu => absurd hu (by simp), .inl rfl⟩
  | u :: l, a, h => by
    simp only [forE] at h ⊢
    cases hn : decide (endOf r u < 0)
    · have hx : decB r a u = .inl (bif decide (endOf r u > a.1) || ((endOf r u == a.1) && decide (u.Act < a.2.Act)) then (endOf r u, u) else a) := by unfold decB; rw [hn]; rfl
      simp only [decide_eq_false_iff_not] at hn
      rw [hx] at h ⊢
      simp only at h ⊢
      cases hc : decide (endOf r u > a.1) || ((endOf r u == a.1) && decide (u.Act < a.2.Act))
      · rw [hc, cond_false] at h
        rw [cond_false]
        simp only [Bool.or_eq_false_iff, decide_eq_false_iff_not] at hc
        obtain ⟨i1, i2, i3⟩ := decMost l a h
        refine ⟨i1, fun v hv => ?_, ?_⟩
        · rcases List.mem_cons.1 hv with z | z
          · subst z; omega
          · exact i2 v z
        · rcases i3 with i3 | ⟨i3, i4⟩
          · exact .inl i3
          · exact .inr ⟨List.mem_cons_of_mem _ i3, i4⟩
      · rw [hc, cond_true] at h
        rw [cond_true]
        simp only [Bool.or_eq_true, Bool.and_eq_true, decide_eq_true_eq, beq_iff_eq] at hc
        obtain ⟨i1, i2, i3⟩ := decMost l (endOf r u, u) h
        simp only at i1
        refine ⟨by omega, fun v hv => ?_, ?_⟩
        · rcases List.mem_cons.1 hv with z | z
          · subst z; omega
          · exact i2 v z
        · rcases i3 with i3 | ⟨i3, i4⟩
          · refine .inr ?_
            rw [i3]
            exact ⟨List.mem_cons_self .., rfl⟩
          · exact .inr ⟨List.mem_cons_of_mem _ i3, i4⟩
    · have hx : decB r a u = .inr (-1, noRule) := by unfold decB; rw [hn]; rfl
      rw [hx] at h
      simp only at h
      omega
theorem sameOne {u v : Rule} : ∀ {l : List Rule}, l.Pairwise (fun a b => before a b = true) → u ∈ l → v ∈ l → u.Series = v.Series → u.Event = v.Event → u = v
  | [], _, h, _, _, _ => absurd h (by simp)
  | x :: l, hp, hu, hv, e1, e2 => by
    obtain ⟨p1, p2⟩ := List.pairwise_cons.1 hp
    rcases List.mem_cons.1 hu with zu | zu
    · rcases List.mem_cons.1 hv with zv | zv
      · rw [zu, zv]
      · have := before_iff.1 (p1 v zv)
        subst zu
        omega
    · rcases List.mem_cons.1 hv with zv | zv
      · have := before_iff.1 (p1 u zu)
        subst zv
        omega
      · exact sameOne p2 zu zv e1 e2
theorem nevNot {r : Record} {s : List Rule} (h : (DecR r s).2 = true) : ∀ p ∈ (NevD s).1, ¬ (p.1 = (DecR r s).1.Series ∧ p.2 = (DecR r s).1.Event) := by
  intro p hp
  unfold DecR at h ⊢
  cases h1 : recOk r
  · rw [h1] at h; cases h
  cases h2 : schedOk s
  · rw [h1, h2] at h; cases h
  rw [h1, h2, Bool.and_self, cond_true] at h
  rw [Bool.and_self, cond_true]
  simp only [decide_eq_true_eq] at h ⊢
  unfold NevD at hp
  rw [h2, cond_true] at hp
  simp only [List.mem_map] at hp
  obtain ⟨u, hu, rfl⟩ := hp
  obtain ⟨m1, m2⟩ := List.mem_filter.1 hu
  unfold nevP at m2
  rw [Bool.and_eq_true, List.any_eq_true] at m2
  obtain ⟨q1, x, hx, q2⟩ := m2
  rw [Bool.and_eq_true, decide_eq_true_eq] at q2
  have q1 := eq_of_beq q1
  have q3 := eq_of_beq q2.1
  have hM := decMost (r := r) (rulesFor s r.Series) (-1, noRule) (by unfold deciding at h; exact h)
  change _ ∧ (∀ u ∈ rulesFor s r.Series, 0 ≤ endOf r u ∧ endOf r u ≤ (deciding r s).1) ∧ (deciding r s = _ ∨ ((deciding r s).2 ∈ _ ∧ (deciding r s).1 = endOf r (deciding r s).2)) at hM
  obtain ⟨_, i2, i3⟩ := hM
  rintro ⟨e1, e2⟩
  simp only at e1 e2
  rcases i3 with i3 | ⟨i3, i4⟩
  · rw [i3] at h; simp at h
  · obtain ⟨g1, g2⟩ := List.mem_filter.1 i3
    have g2 := eq_of_beq g2
    have hE : u = (deciding r s).2 := sameOne (schedOk_iff.1 h2).2.1 m1 g1 e1 e2
    have hxm : x ∈ rulesFor s r.Series := List.mem_filter.2 ⟨hx, by rw [q3, e1, g2]; exact beq_self_eq_true _⟩
    have hb := i2 x hxm
    rw [i4, ← hE] at hb
    have hmd := (recOk_spec h1).2.2.1
    have hxd := dayOf_bd h1 x.Event
    have h0 : dayOf r u.Event = r.Made := by rw [q1]; rfl
    have hu2 : endOf r u = r.Made + u.Days := by
      unfold endOf
      rw [h0, decide_eq_false (by omega), cond_false]
    have hxe : r.Made + x.Days ≤ endOf r x := by
      unfold endOf at hb ⊢
      cases hc : decide (dayOf r x.Event < 0)
      · rw [cond_false]
        simp only [decide_eq_false_iff_not] at hc
        omega
      · rw [hc, cond_true] at hb; omega
    omega
theorem nevLoop (r : Record) (s : List Rule) (hs : s.length < 1000000) (h : (DecR r s).2 = true) : iterO (M.laws_FnExpected_l2 (NevD s) (DecR r s)) (0 : Int) = some (.inl ()) := by
  have hlen := nevLen hs
  refine iter_up (s := 0) (fun k => (k : Int)) (NevD s).1.length rfl (by omega) (fun k hk => ?_) ?_
  · have hn := nevNot h _ (getD_mem hk)
    unfold M.laws_FnExpected_l2
    dsimp only
    rw [decide_eq_true (show (k : Int) < ((NevD s).1.length : Int) by omega), cond_true, asrt_pos ⟨by omega, by omega⟩, Int.toNat_natCast, wrap64_id (n := (k : Int) + 1) (by omega) (by omega)]
    have hf : ((((NevD s).1.getD k default).1 == (DecR r s).1.Series) && (((NevD s).1.getD k default).2 == (DecR r s).1.Event)) = false := by
      rw [Bool.eq_false_iff]
      intro hc
      rw [Bool.and_eq_true] at hc
      exact hn ⟨eq_of_beq hc.1, eq_of_beq hc.2⟩
    rw [hf, cond_false]
    rfl
  · unfold M.laws_FnExpected_l2
    dsimp only
    rw [decide_eq_false (by omega)]
    rfl
theorem vPairsY (a : List (Int × Int)) (hl : a.length < 1000000) : M.laws_vPairs a a = some true := by
  unfold M.laws_vPairs
  rw [bne_self_eq_false, cond_false]
  rw [iter_up (s := 0) (step := M.laws_vPairs_l0 a a) (e := .inl ()) (fun k => (k : Int)) a.length rfl (by omega) (fun k hk => by
    unfold M.laws_vPairs_l0
    simp (disch := first | omega | (intros; simp only [decide_eq_true_eq, decide_eq_false_iff_not, Bool.not_eq_true, Bool.not_eq_false, Bool.not_true, Bool.not_false] at *; omega)) only [cast_succ, asrt_pos, wrap64_id, Option.bind_some, cond_true, cond_false, decide_eq_true, decide_eq_false, Int.toNat_natCast, Bool.not_true, Bool.not_false, Bool.and_true, Bool.true_and, Bool.and_false, Bool.false_and, Bool.or_true, Bool.true_or, Bool.or_false, Bool.false_or, beq_self_eq_true]) (by
    unfold M.laws_vPairs_l0
    simp (disch := first | omega | (intros; simp only [decide_eq_true_eq, decide_eq_false_iff_not, Bool.not_eq_true, Bool.not_eq_false, Bool.not_true, Bool.not_false] at *; omega)) only [cast_succ, asrt_pos, wrap64_id, Option.bind_some, cond_true, cond_false, decide_eq_true, decide_eq_false, Int.toNat_natCast, Bool.not_true, Bool.not_false, Bool.and_true, Bool.true_and, Bool.and_false, Bool.false_and, Bool.or_true, Bool.true_or, Bool.or_false, Bool.false_or])]
  rfl

/-! ### The rules of an expected due day -/
theorem vHasY (m : List Int) (x : Int) (hl : m.length < 1000000) : M.laws_vHas m x = some (m.any fun y => y == x) := by
  unfold M.laws_vHas
  rw [iter_any (step := M.laws_vHas_l0 m x) (s := 0) (fun k => (k : Int)) m.length (fun k => m.getD k default == x) (.inr true) (.inl ()) rfl (by omega)
    (fun k hk hp => by
      unfold M.laws_vHas_l0
      simp (disch := first | omega | (intros; simp only [decide_eq_true_eq, decide_eq_false_iff_not, Bool.not_eq_true, Bool.not_eq_false, Bool.not_true, Bool.not_false] at *; omega)) only [cast_succ, asrt_pos, wrap64_id, Option.bind_some, cond_true, cond_false, decide_eq_true, decide_eq_false, Int.toNat_natCast, Bool.not_true, Bool.not_false, Bool.and_true, Bool.true_and, Bool.and_false, Bool.false_and, Bool.or_true, Bool.true_or, Bool.or_false, Bool.false_or, hp])
    (fun k hk hp => by
      unfold M.laws_vHas_l0
      simp (disch := first | omega | (intros; simp only [decide_eq_true_eq, decide_eq_false_iff_not, Bool.not_eq_true, Bool.not_eq_false, Bool.not_true, Bool.not_false] at *; omega)) only [cast_succ, asrt_pos, wrap64_id, Option.bind_some, cond_true, cond_false, decide_eq_true, decide_eq_false, Int.toNat_natCast, Bool.not_true, Bool.not_false, Bool.and_true, Bool.true_and, Bool.and_false, Bool.false_and, Bool.or_true, Bool.true_or, Bool.or_false, Bool.false_or, hp])
    (by
      unfold M.laws_vHas_l0
      simp (disch := first | omega | (intros; simp only [decide_eq_true_eq, decide_eq_false_iff_not, Bool.not_eq_true, Bool.not_eq_false, Bool.not_true, Bool.not_false] at *; omega)) only [cast_succ, asrt_pos, wrap64_id, Option.bind_some, cond_true, cond_false, decide_eq_true, decide_eq_false, Int.toNat_natCast, Bool.not_true, Bool.not_false, Bool.and_true, Bool.true_and, Bool.and_false, Bool.false_and, Bool.or_true, Bool.true_or, Bool.or_false, Bool.false_or]), ← any_getD (p := fun y => y == x)]
  cases m.any fun y => y == x <;> rfl
theorem toldD {l : List Trigger} {s : List Rule} {ser : Int} (h : (DueE l s ser).2 = true) : acy l = true ∧ schedOk s = true ∧ inR ser 1 99 = true ∧ rulesFor s ser ≠ [] ∧ ∀ u ∈ rulesFor s ser, (exD l u.Event).2 = true ∧ u.Days ≤ (DueE l s ser).1 := by
  cases h1 : acy l
  · unfold DueE at h; rw [h1] at h; cases h
  cases h2 : schedOk s
  · unfold DueE at h; rw [h1, h2] at h; cases h
  cases h3 : inR ser 1 99
  · unfold DueE at h; rw [h1, h2, h3] at h; cases h
  obtain ⟨a1, a2⟩ := acy_spec h1
  have hev := sched_ev h2
  have e : DueE l s ser = both (forE (duB (exD l)) Sum.inl (rulesFor s ser) (0, false)) := by unfold DueE; rw [h1, h2, h3]; rfl
  have hd := (dues (rc := exD l) (rulesFor s ser) (0, false) (fun u hu => by
    have hu := hev u (List.mem_filter.1 hu).1
    have := (exD_I l a1 a2 u.Event hu.1).2.2
    omega) (Int.le_refl _) (fun _ => rfl)).2 (by rw [← e]; exact h)
  obtain ⟨_, d2, d3⟩ := hd
  refine ⟨rfl, rfl, rfl, ?_, fun u hu => ?_⟩
  · rcases d2 with d2 | d2
    · cases d2
    · exact d2
  · have hb := hev u (List.mem_filter.1 hu).1
    have := (exD_I l a1 a2 u.Event hb.1).2.2
    have := d3 u hu
    rw [e]
    exact ⟨this.1, by omega⟩
theorem toldLoop (l : List Trigger) (s : List Rule) (ser : Int) (hs : s.length < 1000000) (h : (DueE l s ser).2 = true) : iterO (M.laws_FnExpected_l1 (DueE l s ser) (MissD l s) (rulesFor s ser, true)) (0 : Int) = some (.inl ()) := by
  obtain ⟨h1, h2, h3, h4, h5⟩ := toldD h
  have hlen := rulesFor_len (l := s) (s := ser)
  have hm := missLen (l := l) hs
  have e : MissD l s = (dd (sortL (missI l s)), true) := by unfold MissD; rw [h1, h2]; rfl
  refine iter_up (s := 0) (fun k => (k : Int)) (rulesFor s ser).length rfl (by omega) (fun k hk => ?_) ?_
  · have hu := h5 _ (getD_mem hk)
    have hv : ((MissD l s).1.any fun y => y == ((rulesFor s ser).getD k default).Event) = false := by
      rw [Bool.eq_false_iff]
      intro hc
      rw [List.any_eq_true] at hc
      obtain ⟨y, hy, hy2⟩ := hc
      rw [e] at hy
      obtain ⟨w, _, w1, w2⟩ := miss_mem.1 hy
      rw [w2, eq_of_beq hy2, hu.1] at w1
      cases w1
    unfold M.laws_FnExpected_l1
    dsimp only
    rw [decide_eq_true (show (k : Int) < ((rulesFor s ser).length : Int) by omega), cond_true, asrt_pos ⟨by omega, by omega⟩, Int.toNat_natCast, vHasY _ _ hm, Option.bind_some, hv, asrt_pos (fun _ => ⟨by omega, by omega⟩), decide_eq_false (by omega), Bool.or_self, cond_false, wrap64_id (n := (k : Int) + 1) (by omega) (by omega)]
    rfl
  · unfold M.laws_FnExpected_l1
    dsimp only
    rw [decide_eq_false (by omega)]
    rfl

/-! ### Draws -/
theorem drawEDay {code : List Int} (hb : Bytes code) : T (M.spec_DrawExpectedDay code) (fun r => r.1.length ≤ 11) := by
  unfold M.spec_DrawExpectedDay
  refine (drawTrig hb good0y (by omega)).then ?_
  rintro ⟨l, c⟩ ⟨g1, g2⟩
  simp only at g1 g2
  dsimp only
  cases hd : decide ((l.length : Int) > 0)
  · rw [cond_false, Option.bind_some, Bool.false_and, cond_false, cond_false]
    refine T_among hb g2 (by omega) (by simp) ?_
    intro x c2 _ _
    exact T_ret g1
  · rw [cond_true]
    refine T_one hb g2 (by omega) ?_
    intro b c2 h2
    dsimp only
    rw [cond_true, Bool.true_and]
    simp only [decide_eq_true_eq] at hd
    refine T_if (fun _ => ?_) (fun _ => ?_)
    · refine T_pick hb h2 (by omega) ?_
      intro x c3 _ hx _
      have hx := hx (by omega)
      exact T_ask ⟨by simp only; omega, by simp only; omega⟩ (T_ret g1)
    · refine T_among hb h2 (by omega) (by simp) ?_
      intro x c3 _ _
      exact T_ret g1
theorem drawEDue {code : List Int} (hb : Bytes code) : T (M.spec_DrawExpectedDue code) (fun r => r.1.length ≤ 11 ∧ r.2.1.length ≤ 20) := by
  unfold M.spec_DrawExpectedDue
  refine (drawTrig hb good0y (by omega)).then ?_
  rintro ⟨l, c⟩ ⟨g1, g2⟩
  simp only at g1 g2
  dsimp only
  refine (drawSchedule hb g2 (by omega)).then ?_
  rintro ⟨s, c1⟩ ⟨g3, g4⟩
  simp only at g3 g4
  dsimp only
  cases hd : decide ((s.length : Int) > 0)
  · rw [cond_false, Option.bind_some, Bool.false_and, cond_false, cond_false]
    refine T_among hb g4 (by omega) (by simp) ?_
    intro x c2 _ _
    exact T_ret ⟨g1, g3⟩
  · rw [cond_true]
    refine T_one hb g4 (by omega) ?_
    intro b c2 h2
    dsimp only
    rw [cond_true, Bool.true_and]
    simp only [decide_eq_true_eq] at hd
    refine T_if (fun _ => ?_) (fun _ => ?_)
    · refine T_pick hb h2 (by omega) ?_
      intro x c3 _ hx _
      have hx := hx (by omega)
      exact T_ask ⟨by simp only; omega, by simp only; omega⟩ (T_ret ⟨g1, g3⟩)
    · refine T_among hb h2 (by omega) (by simp) ?_
      intro x c3 _ _
      exact T_ret ⟨g1, g3⟩
theorem drawRecY {code : List Int} (hb : Bytes code) : T (M.spec_DrawIsRecord code) RecB := by
  unfold M.spec_DrawIsRecord
  refine T_among hb good0y (by omega) (by simp) ?_
  intro x c2 _ h3
  refine (drawRecord hb h3 (by omega) x).then ?_
  rintro ⟨r, c3⟩ ⟨h4, _⟩
  exact T_ret (by simp only at h4; unfold RecB; dsimp only; omega)

theorem law_FnExpected (code : List Int) (h1 : code.length ≤ 9223372036854775807) (h2 : ∀ x, x ∈ code → 0 ≤ x ∧ x ≤ 255) : M.laws_FnExpected code = some true := by
  apply T.eq
  unfold M.laws_FnExpected M.laws_vBig
  rw [Option.bind_some]
  refine T_if (fun _ => T_ret rfl) (fun hq => ?_)
  simp only [decide_eq_false_iff_not] at hq
  have hb : Bytes code := ⟨by omega, h2⟩
  refine (drawEDay hb).then ?_
  rintro ⟨l, e⟩ hl
  simp only at hl
  dsimp only
  rw [expI l e (by omega), Option.bind_some, expS l e (by omega), Option.bind_some, bne_self_eq_false, beq_self_eq_true, Bool.not_true, Bool.or_self, cond_false, expLoop l e (by omega), Option.bind_some]
  dsimp only
  refine (drawEDue hb).then ?_
  rintro ⟨x, s, ser⟩ ⟨hx, hs⟩
  simp only at hx hs
  dsimp only
  rw [dueEI x s ser (by omega) (by omega), Option.bind_some, dueES x s ser (by omega) (by omega), Option.bind_some, bne_self_eq_false, beq_self_eq_true, Bool.not_true, Bool.or_self, cond_false]
  rw [missImpl x s (by omega) (by omega), Option.bind_some, missSpec x s (by omega) (by omega), Option.bind_some, beq_self_eq_true, Bool.not_true, cond_false, vIntsY _ (missLen (by omega)), Option.bind_some, Bool.not_true, Bool.or_self, cond_false]
  refine T.then (Q := fun e => e = .inl ()) ?_ ?_
  · refine T_if (fun ht => ?_) (fun _ => T_ret rfl)
    obtain ⟨t1, t2, t3, t4, _⟩ := toldD ht
    have hR : M.impl_RulesFor s ser = some (rulesFor s ser, true) := by
      unfold M.impl_RulesFor
      rw [schedI s (by omega), t2, Option.bind_some, Bool.not_true, cond_false, isIdI, t3, Option.bind_some, Bool.not_true, Bool.or_self, cond_false, forI s ser (by omega), Option.bind_some]
    have h0 : (rulesFor s ser).length ≠ 0 := fun h => t4 (List.length_eq_zero_iff.1 h)
    rw [hR, Option.bind_some]
    dsimp only
    rw [Bool.not_true, Bool.false_or, show (((rulesFor s ser).length : Int) == 0) = false from beq_eq_false_iff_ne.2 (by omega), cond_false, toldLoop x s ser (by omega) ht, Option.bind_some]
    exact T_ret rfl
  · rintro _ rfl
    dsimp only
    have dN : T (M.spec_DrawNeverDecides code) (fun r => r.length ≤ 20) := by
      unfold M.spec_DrawNeverDecides
      refine (drawCons hb).then ?_
      intro w hw
      exact T_ret hw
    refine dN.then ?_
    intro w hw
    rw [nevImpl w (by omega), Option.bind_some, nevSpec w (by omega), Option.bind_some, beq_self_eq_true, Bool.not_true, cond_false, vPairsY _ (nevLen (by omega)), Option.bind_some, Bool.not_true, Bool.or_self, cond_false]
    refine (drawRecY hb).then ?_
    intro r hr
    rw [decRI r w hr (by omega), Option.bind_some]
    refine T_if (fun hd => ?_) (fun _ => T_ret rfl)
    rw [nevLoop r w (by omega) hd, Option.bind_some]
    exact T_ret rfl
end Go.Proofs.YtjfpdbhjoofllaaGreat
