/-
  FnRecords: last days, records in a series, draws, and the law. Plain.
-/
import Derived.Test.YthcmelnpcaijaaaDoorRc
set_option linter.unusedSimpArgs false
set_option linter.unusedVariables false
namespace Go.Proofs.YthcmelnpcaijaaaDoor
open Go.VS

theorem vInts_rf (a : List Int) (hl : a.length < 1000000) : M.laws_vInts a a = some true := by
  unfold M.laws_vInts
  simp only [bne_self_eq_false, cond_false]
  rw [iter_up (s := 0) (step := M.laws_vInts_l0 a a) (e := .inl ()) (fun k => (k : Int)) a.length rfl (by omega) (fun k hk => by
    unfold M.laws_vInts_l0
    simp (disch := first | omega | (intros; simp only [decide_eq_true_eq, decide_eq_false_iff_not, Bool.not_eq_true, Bool.not_eq_false, Bool.not_true, Bool.not_false] at *; omega)) only [cast_succ, asrt_pos, wrap64_id, Option.bind_some, cond_true, cond_false, decide_eq_true, decide_eq_false, Int.toNat_natCast, Bool.not_true, Bool.not_false, Bool.and_true, Bool.true_and, Bool.and_false, Bool.false_and, Bool.or_true, Bool.true_or, Bool.or_false, Bool.false_or, bne_self_eq_false]) (by
    unfold M.laws_vInts_l0
    simp (disch := first | omega | (intros; simp only [decide_eq_true_eq, decide_eq_false_iff_not, Bool.not_eq_true, Bool.not_eq_false, Bool.not_true, Bool.not_false] at *; omega)) only [cast_succ, asrt_pos, wrap64_id, Option.bind_some, cond_true, cond_false, decide_eq_true, decide_eq_false, Int.toNat_natCast, Bool.not_true, Bool.not_false, Bool.and_true, Bool.true_and, Bool.and_false, Bool.false_and, Bool.or_true, Bool.true_or, Bool.or_false, Bool.false_or])]
  rfl
theorem vEvents_self (a : List Event) (hl : a.length < 1000000) : M.laws_vEvents a a = some true := by
  unfold M.laws_vEvents
  simp only [bne_self_eq_false, cond_false]
  rw [iter_up (s := 0) (step := M.laws_vEvents_l0 a a) (e := .inl ()) (fun k => (k : Int)) a.length rfl (by omega) (fun k hk => by
    unfold M.laws_vEvents_l0
    simp (disch := first | omega | (intros; simp only [decide_eq_true_eq, decide_eq_false_iff_not, Bool.not_eq_true, Bool.not_eq_false, Bool.not_true, Bool.not_false] at *; omega)) only [cast_succ, asrt_pos, wrap64_id, Option.bind_some, cond_true, cond_false, decide_eq_true, decide_eq_false, Int.toNat_natCast, Bool.not_true, Bool.not_false, Bool.and_true, Bool.true_and, Bool.and_false, Bool.false_and, Bool.or_true, Bool.true_or, Bool.or_false, Bool.false_or, beq_self_eq_true]) (by
    unfold M.laws_vEvents_l0
    simp (disch := first | omega | (intros; simp only [decide_eq_true_eq, decide_eq_false_iff_not, Bool.not_eq_true, Bool.not_eq_false, Bool.not_true, Bool.not_false] at *; omega)) only [cast_succ, asrt_pos, wrap64_id, Option.bind_some, cond_true, cond_false, decide_eq_true, decide_eq_false, Int.toNat_natCast, Bool.not_true, Bool.not_false, Bool.and_true, Bool.true_and, Bool.and_false, Bool.false_and, Bool.or_true, Bool.true_or, Bool.or_false, Bool.false_or])]
  rfl
theorem vRecord_self (r : Record) (hr : RecB r) : M.laws_vRecord r r = some true := by
  unfold M.laws_vRecord
  simp only [beq_self_eq_true, Bool.and_self, cond_true]
  rw [vEvents_self _ hr]; rfl

/-! ### Last days -/
def lastF (a : Int) (e : Event) : Int := bif decide (a < e.Day) then e.Day else a
def lastOf (r : Record) : Int := r.Events.foldl lastF r.Made
theorem last_le : ∀ (l : List Event) (a : Int), a ≤ l.foldl lastF a ∧ ∀ e ∈ l, e.Day ≤ l.foldl lastF a
  | [], a => ⟨Int.le_refl _, by simp⟩
  | e :: l, a => by
    obtain ⟨h1, h2⟩ := last_le l (lastF a e)
    have h3 : a ≤ lastF a e ∧ e.Day ≤ lastF a e := by
      unfold lastF
      by_cases h : a < e.Day
      · rw [decide_eq_true h, cond_true]; omega
      · rw [decide_eq_false h, cond_false]; omega
    rw [List.foldl_cons]
    refine ⟨by omega, fun x hx => ?_⟩
    rcases List.mem_cons.1 hx with rfl | hx
    · omega
    · exact h2 x hx
def LastD (r : Record) : Int × Bool := bif recOk r then (lastOf r, true) else (0, false)
theorem lastI (r : Record) (hr : RecB r) : M.impl_LastDay r = some (LastD r) := by
  have hl : r.Events.length < 1000000 := hr
  unfold M.impl_LastDay LastD
  rw [recI r hr, Option.bind_some]
  cases h : recOk r
  · rfl
  · rw [Bool.not_true, cond_false, iter_fold (step := M.impl_LastDay_l0 r) (s := (r.Made, (0 : Int))) (fun a k => (a, (k : Int))) lastF id r.Events r.Made (fun _ _ => True) rfl (by omega) trivial (fun a k hk _ => by
      refine ⟨?_, trivial⟩
      unfold M.impl_LastDay_l0
      try dsimp only
      rw [decide_eq_true (by omega), cond_true, asrt_pos ⟨by omega, by omega⟩, Int.toNat_natCast, wrap64_id (n := (k : Int) + 1) (by omega) (by omega)]
      rfl) (fun a _ => by
      unfold M.impl_LastDay_l0
      try dsimp only
      rw [decide_eq_false (by omega), cond_false]
      rfl)]
    rfl
theorem mostL (a b : Int) : M.spec_l1Most a b = some (bif decide (a < b) then b else a) := by
  unfold M.spec_l1Most
  by_cases h : a > b
  · rw [decide_eq_true h, cond_true, decide_eq_false (by omega), cond_false]
  · rw [decide_eq_false h, cond_false]
    by_cases h2 : a < b
    · rw [decide_eq_true h2, cond_true]
    · rw [decide_eq_false h2, cond_false, show a = b by omega]
theorem lastS (r : Record) (hr : RecB r) : M.spec_LastDay r = some (LastD r) := by
  have hl : r.Events.length < 1000000 := hr
  unfold M.spec_LastDay LastD
  rw [recS r hr, Option.bind_some]
  cases h : recOk r
  · rfl
  · rw [Bool.not_true, cond_false, iter_fold (step := M.spec_LastDay_l0 r) (s := (r.Made, (0 : Int))) (fun a k => (a, (k : Int))) lastF id r.Events r.Made (fun _ _ => True) rfl (by omega) trivial (fun a k hk _ => by
      refine ⟨?_, trivial⟩
      unfold M.spec_LastDay_l0
      try dsimp only
      rw [decide_eq_true (by omega), cond_true, asrt_pos ⟨by omega, by omega⟩, Int.toNat_natCast, mostL, Option.bind_some, wrap64_id (n := (k : Int) + 1) (by omega) (by omega)]
      rfl) (fun a _ => by
      unfold M.spec_LastDay_l0
      try dsimp only
      rw [decide_eq_false (by omega), cond_false]
      rfl)]
    rfl
theorem day_in {r : Record} (h : recOk r = true) {e : Event} (he : e ∈ r.Events) : r.Made ≤ dayOf r e.Kind ∧ dayOf r e.Kind ≤ lastOf r := by
  obtain ⟨_, _, _, _, b5⟩ := recOk_spec h
  have b := b5 e he
  unfold dayOf
  rw [if_neg (by omega)]
  cases hf : r.Events.find? (fun x => x.Kind == e.Kind) with
  | none =>
    rw [List.find?_eq_none] at hf
    have := hf e he
    simp at this
  | some x =>
    have hx := List.mem_of_find?_eq_some hf
    have bx := b5 x hx
    have := (last_le r.Events r.Made).2 x hx
    show r.Made ≤ x.Day ∧ x.Day ≤ lastOf r
    exact ⟨by omega, this⟩
theorem dayLoop (r : Record) (hr : RecB r) : iterO (M.laws_FnRecords_l0 r (LastD r)) (0 : Int) = some (.inl ()) := by
  have hl : r.Events.length < 1000000 := hr
  cases h : recOk r
  · have e : LastD r = (0, false) := by unfold LastD; rw [h]; rfl
    rw [e]
    refine iter_up (s := (0 : Int)) (fun k => (k : Int)) 0 rfl (by omega) (fun k hk => absurd hk (by omega)) ?_
    unfold M.laws_FnRecords_l0
    simp only [Bool.and_false, cond_false]
  · have e : LastD r = (lastOf r, true) := by unfold LastD; rw [h]; rfl
    rw [e]
    obtain ⟨_, _, b3, _, b5⟩ := recOk_spec h
    refine iter_up (s := (0 : Int)) (fun k => (k : Int)) r.Events.length rfl (by omega) (fun k hk => ?_) ?_
    · have hm := getD_mem (l := r.Events) hk
      obtain ⟨d1, d2⟩ := day_in h hm
      unfold M.laws_FnRecords_l0
      try dsimp only
      rw [decide_eq_true (by omega)]
      simp only [Bool.and_self, cond_true]
      rw [asrt_pos ⟨by omega, by omega⟩, Int.toNat_natCast]
      unfold M.impl_DayOf
      rw [recI r hr, h, Option.bind_some, Bool.not_true, cond_false, dayI r _ hl (fun x hx => by have := b5 x hx; omega) b3.1, Option.bind_some, decide_eq_false (show ¬ dayOf r (r.Events.getD k default).Kind < 0 by omega), cond_false, Option.bind_some]
      simp only [Bool.not_true, Bool.false_or]
      rw [decide_eq_false (by omega), decide_eq_false (by omega)]
      simp only [Bool.or_self, cond_false]
      rw [wrap64_id (by omega) (by omega)]
      rfl
    · unfold M.laws_FnRecords_l0
      try dsimp only
      rw [decide_eq_false (by omega)]
      rfl

/-! ### Records in a series -/
def idsIn (l : List Record) (s : Int) : List Int := (l.filter fun r => r.Series == s).map (·.Id)
def InD (l : List Record) (s : Int) : List Int × Bool := bif recsOk l && inR s 1 99 then (idsIn l s, true) else ([], false)
theorem InI (l : List Record) (s : Int) (hl : RecsB l) : M.impl_InSeries l s = some (InD l s) := by
  have h1 := hl.1
  unfold M.impl_InSeries InD
  rw [recsI l hl, Option.bind_some, isIdI]
  cases recsOk l
  · rfl
  cases inR s 1 99
  · rfl
  simp only [Bool.not_true, cond_false, Option.bind_some, Bool.or_self, Bool.and_self, cond_true]
  rw [iter_coll (s := (([] : List Int), (0 : Int))) (step := M.impl_InSeries_l0 l s) (fun a k => (a, (k : Int))) (fun r : Record => bif r.Series == s then [r.Id] else []) id l rfl (by omega) (fun k _ => if_len _ _) (fun a k hk ha => by
    unfold M.impl_InSeries_l0
    simp (disch := first | omega | (intros; simp only [decide_eq_true_eq, decide_eq_false_iff_not, Bool.not_eq_true, Bool.not_eq_false, Bool.not_true, Bool.not_false] at *; omega)) only [cast_succ, asrt_pos, wrap64_id, Option.bind_some, cond_true, cond_false, decide_eq_true, decide_eq_false, Int.toNat_natCast, Bool.not_true, Bool.not_false, Bool.and_true, Bool.true_and, Bool.and_false, Bool.false_and, Bool.or_true, Bool.true_or, Bool.or_false, Bool.false_or, app_if, List.length_singleton]
    cases (l.getD k default).Series == s <;> simp <;> (try (rw [asrt_pos (by simp; omega)]; rfl))) (fun a ha => by
    unfold M.impl_InSeries_l0
    simp (disch := first | omega | (intros; simp only [decide_eq_true_eq, decide_eq_false_iff_not, Bool.not_eq_true, Bool.not_eq_false, Bool.not_true, Bool.not_false] at *; omega)) only [cast_succ, asrt_pos, wrap64_id, Option.bind_some, cond_true, cond_false, decide_eq_true, decide_eq_false, Int.toNat_natCast, Bool.not_true, Bool.not_false, Bool.and_true, Bool.true_and, Bool.and_false, Bool.false_and, Bool.or_true, Bool.true_or, Bool.or_false, Bool.false_or, id])]
  simp only [id, Option.bind_some, flatMap_if]
  rfl
theorem InS (l : List Record) (s : Int) (hl : RecsB l) : M.spec_InSeries l s = some (InD l s) := by
  have h1 := hl.1
  unfold M.spec_InSeries InD
  rw [recsS l hl, Option.bind_some, l1InS]
  cases recsOk l
  · rfl
  cases inR s 1 99
  · rfl
  simp only [Bool.not_true, cond_false, Option.bind_some, Bool.or_self, Bool.and_self, cond_true]
  rw [iter_coll (s := (([] : List Int), (0 : Int))) (step := M.spec_InSeries_l0 l s) (fun a k => (a, (k : Int))) (fun r : Record => bif r.Series == s then [r.Id] else []) id l rfl (by omega) (fun k _ => if_len _ _) (fun a k hk ha => by
    unfold M.spec_InSeries_l0
    simp (disch := first | omega | (intros; simp only [decide_eq_true_eq, decide_eq_false_iff_not, Bool.not_eq_true, Bool.not_eq_false, Bool.not_true, Bool.not_false] at *; omega)) only [cast_succ, asrt_pos, wrap64_id, Option.bind_some, cond_true, cond_false, decide_eq_true, decide_eq_false, Int.toNat_natCast, Bool.not_true, Bool.not_false, Bool.and_true, Bool.true_and, Bool.and_false, Bool.false_and, Bool.or_true, Bool.true_or, Bool.or_false, Bool.false_or, app_if, List.length_singleton]
    cases (l.getD k default).Series == s <;> simp <;> (try (rw [asrt_pos (by simp; omega)]; rfl))) (fun a ha => by
    unfold M.spec_InSeries_l0
    simp (disch := first | omega | (intros; simp only [decide_eq_true_eq, decide_eq_false_iff_not, Bool.not_eq_true, Bool.not_eq_false, Bool.not_true, Bool.not_false] at *; omega)) only [cast_succ, asrt_pos, wrap64_id, Option.bind_some, cond_true, cond_false, decide_eq_true, decide_eq_false, Int.toNat_natCast, Bool.not_true, Bool.not_false, Bool.and_true, Bool.true_and, Bool.and_false, Bool.false_and, Bool.or_true, Bool.true_or, Bool.or_false, Bool.false_or, id])]
  simp only [id, Option.bind_some, flatMap_if]
  rfl
theorem InD_len {l : List Record} {s : Int} : (InD l s).1.length ≤ l.length := by
  unfold InD
  cases recsOk l && inR s 1 99
  · simp
  · simp only [cond_true]
    unfold idsIn
    rw [List.length_map]
    exact List.length_filter_le _ _

theorem ParR_RecB {s : List UInt8} {r : Record × Bool} (h : ParR s r) : RecB r.1 := by
  rcases h.1 with e | ⟨_, e2, _⟩
  · rw [e]; unfold zR RecB; simp
  · have := (recOk_spec e2).2.2.2.1; unfold RecB; omega

theorem law_FnRecords (code : List Int) (h1 : code.length ≤ 9223372036854775807) (h2 : ∀ x, x ∈ code → 0 ≤ x ∧ x ≤ 255) : M.laws_FnRecords code = some true := by
  apply T.eq
  unfold M.laws_FnRecords M.laws_vBig
  rw [Option.bind_some]
  refine T_if (fun _ => T_ret rfl) (fun hq => ?_)
  simp only [decide_eq_false_iff_not] at hq
  have hb : Bytes code := ⟨by omega, h2⟩
  have g0 : Good code 0 (⟨code, 0, 0⟩ : Cur) := ⟨rfl, Int.le_refl _, Int.le_refl _⟩
  have d0 : T (M.spec_DrawIsRecord code) RecB := by
    unfold M.spec_DrawIsRecord
    refine T_among hb g0 (by omega) (by simp) ?_
    intro x c1 _ g1
    refine (drawRecord hb g1 (by omega) x).then ?_
    rintro ⟨r, c2⟩ ⟨g2, _⟩
    exact T_ret (by simp only at g2 ⊢; unfold RecB; omega)
  have d1 : T (M.spec_DrawRecordText code) RecB := by
    unfold M.spec_DrawRecordText
    exact d0.then fun r hr => T_ret hr
  refine d1.then ?_
  intro r hr
  have hrl : (RtD r).1.length ≤ 60 := by
    unfold RtD
    cases h : recOk r
    · simp
    · exact textRec_len h
  have hr2 : (RtD r).2 = recOk r := by unfold RtD; cases recOk r <;> rfl
  rw [RtI r hr, Option.bind_some]
  refine (parRI _ (by omega)).then ?_
  intro p hp
  rw [RtS r hr, Option.bind_some]
  simp only [beq_self_eq_true, Bool.not_true, Bool.or_self, cond_false]
  rw [recI r hr, Option.bind_some, hr2]
  simp only [beq_self_eq_true, Bool.not_true, Bool.or_self, cond_false]
  have hpart : (bif recOk r then (bif (!p.2) then some default else M.laws_vRecord p.1 r) else some default : Option Bool) = some (recOk r) ∧ (recOk r && ((!p.2) || (!recOk r))) = false := by
    cases h : recOk r
    · exact ⟨rfl, rfl⟩
    · have e : (RtD r).1 = textRec r := by unfold RtD; rw [h]; rfl
      rw [hp.2 r h e]
      refine ⟨?_, rfl⟩
      rw [cond_true]
      simp only [Bool.not_true, cond_false]
      exact vRecord_self r hr
  rw [hpart.1, Option.bind_some, hpart.2]
  simp only [Bool.or_self, cond_false]
  have d2 : T (M.spec_DrawParseRecord code) (fun t => t.length ≤ 1000) := by
    unfold M.spec_DrawParseRecord
    refine T.then (Q := fun r => r.1.length ≤ 200 ∧ Good code 1000 r.2) ?_ ?_
    · refine T_among hb g0 (by omega) (by simp) ?_
      intro x c1 _ g1
      refine (drawRecord hb g1 (by omega) x).then ?_
      rintro ⟨q, c2⟩ ⟨g2, g3⟩
      simp only at g2 g3
      have hq : RecB q := by unfold RecB; omega
      try dsimp only
      rw [recS q hq, Option.bind_some]
      refine T_if (fun hs => ?_) (fun hs => ?_)
      · rw [recTextS q hs, Option.bind_some]
        exact T_ret ⟨by have := textRec_len hs; simp only; omega, g3.up (by omega)⟩
      · exact T_ret ⟨by simp, g3.up (by omega)⟩
    · rintro ⟨s, c1⟩ ⟨g1, g2⟩
      simp only at g1 g2
      try dsimp only
      refine T_one hb g2 (by omega) ?_
      intro b c2 g3
      refine T_if (fun _ => ?_) (fun _ => T_ret (by omega))
      refine (spoilt_ok hb g3 (by omega) s _ (by omega) (by simp) (by simp)).then ?_
      rintro ⟨t, c3⟩ ⟨g4, _⟩
      exact T_ret (by simp only at g4 ⊢; omega)
  refine d2.then ?_
  intro s hs
  refine (parRI s (by omega)).then ?_
  intro p1 hp1
  have hb1 := ParR_RecB hp1
  rw [RtI _ hb1, Option.bind_some]
  refine (parRS s (by omega)).then ?_
  intro p2 hp2
  obtain rfl := ParR.one hp1 hp2
  simp only [beq_self_eq_true, Bool.not_true, cond_false]
  rw [vRecord_self _ hb1, Option.bind_some]
  have hno : (p1.2 && ((!(RtD p1.1).2) || (!((RtD p1.1).1 == s)))) = false := by
    rcases hp1.1 with e | ⟨e1, e2, e3⟩
    · rw [e]; rfl
    · unfold RtD
      rw [e2, cond_true, e3]; simp
  rw [hno]
  simp only [Bool.not_true, Bool.or_self, cond_false]
  have d3 : T (M.spec_DrawLastDay code) RecB := by
    unfold M.spec_DrawLastDay
    exact d0.then fun r hr => T_ret hr
  refine d3.then ?_
  intro q hq
  rw [lastI q hq, Option.bind_some, lastS q hq, Option.bind_some]
  simp only [bne_self_eq_false, beq_self_eq_true, Bool.not_true, Bool.or_self, cond_false]
  rw [dayLoop q hq, Option.bind_some]
  try dsimp only
  have d4 : T (M.spec_DrawInSeries code) (fun r => RecsB r.1) := by
    unfold M.spec_DrawInSeries
    refine T.then (drawHeld hb g0 (by omega)) ?_
    rintro ⟨l, c1⟩ ⟨g1, g2⟩
    refine T_among hb g2 (by omega) (by simp) ?_
    intro x c2 _ _
    exact T_ret g1
  refine d4.then ?_
  rintro ⟨l, x⟩ hl
  simp only at hl
  try dsimp only
  rw [InI l x hl, Option.bind_some, InS l x hl, Option.bind_some, beq_self_eq_true, cond_true, vInts_rf _ (by have := InD_len (l := l) (s := x); have := hl.1; omega), Option.bind_some]
  unfold M.spec_AreRecords
  simp only [Bool.and_self, cond_true]
  rw [recsI l hl, Option.bind_some, recsS l hl, Option.bind_some, Option.bind_some]
  exact T_ret (by simp)
end Go.Proofs.YthcmelnpcaijaaaDoor
