/-
  The law of holds. Plain.
-/
import Derived.Test.YtjbgllhimnopaaaHc
set_option linter.unusedSimpArgs false
set_option linter.unusedVariables false
namespace Go.Proofs.Ytjbgllhimnopaaa
open Go.VS

theorem vInts_self (a : List Int) (hl : a.length < 1000000) : M.laws_vInts a a = some true := by
  unfold M.laws_vInts
  simp only [bne_self_eq_false, cond_false]
  rw [iter_up (s := 0) (step := M.laws_vInts_l0 a a) (e := .inl ()) (fun k => (k : Int)) a.length rfl (by omega) (fun k hk => by
    unfold M.laws_vInts_l0
    simp (disch := first | omega | (intros; simp only [decide_eq_true_eq, decide_eq_false_iff_not, Bool.not_eq_true, Bool.not_eq_false, Bool.not_true, Bool.not_false] at *; omega)) only [cast_succ, asrt_pos, wrap64_id, Option.bind_some, cond_true, cond_false, decide_eq_true, decide_eq_false, Int.toNat_natCast, Bool.not_true, Bool.not_false, Bool.and_true, Bool.true_and, Bool.and_false, Bool.false_and, Bool.or_true, Bool.true_or, Bool.or_false, Bool.false_or, bne_self_eq_false]) (by
    unfold M.laws_vInts_l0
    simp (disch := first | omega | (intros; simp only [decide_eq_true_eq, decide_eq_false_iff_not, Bool.not_eq_true, Bool.not_eq_false, Bool.not_true, Bool.not_false] at *; omega)) only [cast_succ, asrt_pos, wrap64_id, Option.bind_some, cond_true, cond_false, decide_eq_true, decide_eq_false, Int.toNat_natCast, Bool.not_true, Bool.not_false, Bool.and_true, Bool.true_and, Bool.and_false, Bool.false_and, Bool.or_true, Bool.true_or, Bool.or_false, Bool.false_or])]
  rfl

def held (l : List Hold) (r : Record) (d : Int) : Bool := (holdsOk l && recOk r) && inR d 0 20000

theorem heldI (l : List Hold) (r : Record) (d : Int) (hl : HoldsB l) (hr : RecB r) : M.impl_areHeld l r d = some (held l r d) := by
  unfold M.impl_areHeld held
  simp only [holdsI l hl, recI r hr, isDayI, Option.bind_some, bif_some]
  cases holdsOk l <;> cases recOk r <;> rfl
theorem heldS (l : List Hold) (r : Record) (d : Int) (hl : HoldsB l) (hr : RecB r) : M.spec_l9Asked l r d = some (held l r d) := by
  unfold M.spec_l9Asked held
  simp only [holdsS l hl, recS r hr, l2DayS, Option.bind_some, bif_some]
  cases holdsOk l <;> cases recOk r <;> rfl
theorem held_spec {l : List Hold} {r : Record} {d : Int} (h : held l r d = true) : holdsOk l = true ∧ recOk r = true ∧ 0 ≤ d ∧ d ≤ 20000 := by
  unfold held at h
  simp only [Bool.and_eq_true, inR_true] at h
  exact ⟨h.1.1, h.1.2, h.2⟩

theorem areHoldsS (l : List Hold) (hl : HoldsB l) : M.spec_AreHolds l = some (holdsOk l) := by
  unfold M.spec_AreHolds; rw [holdsS l hl]; rfl

def HoldsOn (l : List Hold) (r : Record) (d : Int) : List Int × Bool := bif held l r d then (onD l r d, true) else ([], false)
theorem holdsOnI (l : List Hold) (r : Record) (d : Int) (hl : HoldsB l) (hr : RecB r) : M.impl_HoldsOn l r d = some (HoldsOn l r d) := by
  unfold M.impl_HoldsOn HoldsOn
  rw [heldI l r d hl hr, Option.bind_some]
  cases h : held l r d
  · rfl
  · rw [onI l r d (held_spec h).1]; rfl
theorem holdsOnS (l : List Hold) (r : Record) (d : Int) (hl : HoldsB l) (hr : RecB r) : M.spec_HoldsOn l r d = some (HoldsOn l r d) := by
  unfold M.spec_HoldsOn HoldsOn
  rw [heldS l r d hl hr, Option.bind_some]
  cases h : held l r d
  · rfl
  · rw [onS l r d (held_spec h).1]; rfl
theorem HoldsOn_len (l : List Hold) (r : Record) (d : Int) (hl : HoldsB l) : (HoldsOn l r d).1.length < 1000000 := by
  unfold HoldsOn
  cases held l r d
  · simp
  · have := onD_len (l := l) (r := r) (d := d); have := hl.1; simp only [cond_true]; omega

noncomputable def FreeD (l : List Hold) (r : Record) (d : Int) : Int × Bool := bif held l r d then fday l r d else (0, false)
theorem freeDI (l : List Hold) (r : Record) (d : Int) (hl : HoldsB l) (hr : RecB r) : M.impl_FreeDay l r d = some (FreeD l r d) := by
  unfold M.impl_FreeDay FreeD
  rw [heldI l r d hl hr, Option.bind_some]
  cases h : held l r d
  · rfl
  · obtain ⟨h1, h2, h3, h4⟩ := held_spec h
    rw [fdayI l r d h1 h3 (by omega)]; rfl
theorem freeDS (l : List Hold) (r : Record) (d : Int) (hl : HoldsB l) (hr : RecB r) : M.spec_FreeDay l r d = some (FreeD l r d) := by
  unfold M.spec_FreeDay FreeD
  rw [heldS l r d hl hr, Option.bind_some]
  cases h : held l r d
  · rfl
  · obtain ⟨h1, h2, h3, h4⟩ := held_spec h
    obtain ⟨f, g1, g2⟩ := fdayS l r d h1 h3 h4
    simp only [g1, g2, Bool.not_true, cond_false, cond_true, Option.bind_some, Bool.false_or]
    cases decide (f > 20000) <;> rfl

def both (r : Record) (s : List Rule) : Bool := recOk r && schedOk s
theorem bothI (r : Record) (s : List Rule) (hr : RecB r) (hs : s.length < 1000000) : M.impl_areBoth r s = some (both r s) := by
  unfold M.impl_areBoth both
  simp only [recI r hr, schedI s hs, Option.bind_some, bif_some]
  cases recOk r <;> rfl

def mayOn (l : List Hold) (r : Record) (s : List Rule) (d : Int) : Bool := ((decide ((deciding r s).1 ≥ 0) && decide ((deciding r s).1 ≤ d)) && ((deciding r s).2.Act == 3)) && (((onD l r d).length : Int) == 0)
def MayD (l : List Hold) (r : Record) (s : List Rule) (d : Int) : Bool × Bool := bif held l r d && schedOk s then (mayOn l r s d, true) else (false, false)

theorem due_max {a : Int} (h : 0 ≤ a) : (bif decide (a < 0) then 0 else a) = a := by rw [show decide (a < 0) = false from decide_eq_false (by omega)]; rfl

theorem mayI (l : List Hold) (r : Record) (s : List Rule) (d : Int) (hl : HoldsB l) (hr : RecB r) (hs : s.length < 1000000) : M.impl_MayDestroy l r s d = some (MayD l r s d) := by
  unfold M.impl_MayDestroy MayD
  simp only [heldI l r d hl hr, schedI s hs, Option.bind_some, bif_some]
  cases h : held l r d
  · rfl
  obtain ⟨h1, h2, h3, h4⟩ := held_spec h
  cases h5 : schedOk s
  · rfl
  simp only [Bool.not_true, cond_false, Bool.or_false, Bool.and_true, cond_true, decidingI r s h2 h5, Option.bind_some, onI l r d h1, bif_some]
  unfold mayOn
  by_cases h6 : 0 ≤ (deciding r s).1
  · rw [due_max h6]
    cases decide ((deciding r s).1 ≥ 0) <;> cases decide ((deciding r s).1 ≤ d) <;> cases ((deciding r s).2.Act == 3) <;> rfl
  · rw [show decide ((deciding r s).1 ≥ 0) = false from decide_eq_false (by omega)]; rfl

theorem mayS (l : List Hold) (r : Record) (s : List Rule) (d : Int) (hl : HoldsB l) (hr : RecB r) (hs : s.length < 1000000) : M.spec_MayDestroy l r s d = some (MayD l r s d) := by
  unfold M.spec_MayDestroy MayD
  simp only [heldS l r d hl hr, schedS s hs, Option.bind_some, bif_some]
  cases h : held l r d
  · rfl
  obtain ⟨h1, h2, h3, h4⟩ := held_spec h
  cases h5 : schedOk s
  · rfl
  unfold M.spec_l6Due
  simp only [Bool.not_true, cond_false, Bool.or_false, Bool.and_true, cond_true, decidingS r s h2 h5, Option.bind_some, onS l r d h1, bif_some, l1InS]
  unfold mayOn inR
  rw [show decide ((deciding r s).1 ≥ 0) = decide (0 ≤ (deciding r s).1) from rfl]
  cases decide (0 ≤ (deciding r s).1) <;> cases decide ((deciding r s).1 ≤ d) <;> cases ((deciding r s).2.Act == 3) <;> rfl

theorem isDueI (r : Record) (s : List Rule) (d : Int) (hr : RecB r) (hs : s.length < 1000000) : M.impl_IsDue r s d = some (bif both r s && inR d 0 20000 then (decide (0 ≤ (deciding r s).1) && decide ((deciding r s).1 ≤ d), true) else (false, false)) := by
  unfold M.impl_IsDue
  simp only [bothI r s hr hs, isDayI, Option.bind_some, bif_some]
  cases h : both r s
  · rfl
  cases h5 : inR d 0 20000
  · rfl
  unfold both at h
  simp only [Bool.and_eq_true] at h
  simp only [decidingI r s h.1 h.2, Option.bind_some, Bool.not_true, cond_false, Bool.or_false, Bool.and_true, cond_true]
  by_cases h6 : 0 ≤ (deciding r s).1
  · rw [due_max h6]
  · rw [show decide ((deciding r s).1 ≥ 0) = false from decide_eq_false (by omega)]; rfl

noncomputable def FirstD (l : List Hold) (r : Record) (s : List Rule) : Int × Bool := bif held l r 0 && schedOk s then (bif (deciding r s).2.Act == 3 then fday l r (deciding r s).1 else (0, false)) else (0, false)

theorem act3 {r : Record} {s : List Rule} (hr : recOk r = true) (hs : schedOk s = true) (h : ((deciding r s).2.Act == 3) = true) : 0 ≤ (deciding r s).1 ∧ (deciding r s).1 ≤ 40000 := by
  rcases deciding_bd hr hs with h1 | h1
  · rw [h1] at h; cases h
  · exact h1

theorem firstDI (l : List Hold) (r : Record) (s : List Rule) (hl : HoldsB l) (hr : RecB r) (hs : s.length < 1000000) : M.impl_FirstDestruction l r s = some (FirstD l r s) := by
  unfold M.impl_FirstDestruction FirstD
  simp only [heldI l r 0 hl hr, schedI s hs, Option.bind_some, bif_some]
  cases h : held l r 0
  · rfl
  obtain ⟨h1, h2, h3, h4⟩ := held_spec h
  cases h5 : schedOk s
  · rfl
  simp only [Bool.not_true, cond_false, Bool.or_false, Bool.and_true, cond_true, decidingI r s h2 h5, Option.bind_some]
  rw [show ((deciding r s).2.Act != 3) = !((deciding r s).2.Act == 3) from rfl]
  cases h6 : ((deciding r s).2.Act == 3)
  · simp
  · have h7 := act3 h2 h5 h6
    rw [due_max h7.1, show decide ((deciding r s).1 ≥ 0) = true from decide_eq_true h7.1, fdayI l r _ h1 h7.1 (by omega)]
    rfl

theorem firstDS (l : List Hold) (r : Record) (s : List Rule) (hl : HoldsB l) (hr : RecB r) (hs : s.length < 1000000) : M.spec_FirstDestruction l r s = some (FirstD l r s) := by
  unfold M.spec_FirstDestruction FirstD
  simp only [heldS l r 0 hl hr, schedS s hs, Option.bind_some, bif_some]
  cases h : held l r 0
  · rfl
  obtain ⟨h1, h2, h3, h4⟩ := held_spec h
  cases h5 : schedOk s
  · rfl
  simp only [Bool.not_true, cond_false, Bool.or_false, Bool.and_true, cond_true, decidingS r s h2 h5, Option.bind_some]
  rw [show ((deciding r s).2.Act != 3) = !((deciding r s).2.Act == 3) from rfl]
  cases h6 : ((deciding r s).2.Act == 3)
  · simp
  · have h7 := act3 h2 h5 h6
    by_cases h8 : (deciding r s).1 > 20000
    · rw [show decide ((deciding r s).1 > 20000) = true from decide_eq_true h8, fday_miss (fun x g1 g2 => absurd g1 (by omega))]
      rfl
    · obtain ⟨f, g1, g2⟩ := fdayS l r (deciding r s).1 h1 h7.1 (by omega)
      rw [show decide ((deciding r s).1 > 20000) = false from decide_eq_false h8]
      simp only [g1, g2, Bool.not_true, cond_false, cond_true, Option.bind_some, Bool.or_false, Bool.false_or]
      cases decide (f > 20000) <;> rfl

/-! ### Draws -/
structure Drawn (l : List Hold) (r : Record) : Prop where
  l : HoldsB l
  r : RecB r

theorem dHoldsOn {code : List Int} (hb : Bytes code) : T (M.spec_DrawHoldsOn code) (fun r => Drawn r.1 r.2.1) := by
  unfold M.spec_DrawHoldsOn
  refine (drawHolds hb (k := 0) ⟨rfl, Int.le_refl _, Int.le_refl _⟩ (by omega)).then ?_
  rintro ⟨l, c1⟩ ⟨h1, h2⟩
  refine (drawRecord hb h2 (by omega) 12).then ?_
  rintro ⟨r, c2⟩ ⟨h3, h4⟩
  refine (drawHoldDay hb h4 (by omega) l (by have := h1.1; simp only at this; omega)).then ?_
  rintro ⟨d, c3⟩ h5
  exact T_ret ⟨h1.b, by simp only at h3 ⊢; unfold RecB; omega⟩

theorem dFreeDay {code : List Int} (hb : Bytes code) : T (M.spec_DrawFreeDay code) (fun r => Drawn r.1 r.2.1) := by
  unfold M.spec_DrawFreeDay
  exact (dHoldsOn hb).then fun r hr => T_ret hr

theorem dFirst {code : List Int} (hb : Bytes code) : T (M.spec_DrawFirstDestruction code) (fun r => Drawn r.1 r.2.1 ∧ r.2.2.length < 1000000) := by
  unfold M.spec_DrawFirstDestruction
  refine (drawHolds hb (k := 0) ⟨rfl, Int.le_refl _, Int.le_refl _⟩ (by omega)).then ?_
  rintro ⟨l, c1⟩ ⟨h1, h2⟩
  refine (drawRecord hb h2 (by omega) 12).then ?_
  rintro ⟨r, c2⟩ ⟨h3, h4⟩
  refine (drawSuited hb h4 (by omega) r).then ?_
  rintro ⟨s, c3⟩ ⟨h5, h6⟩
  exact T_ret ⟨⟨h1.b, by simp only at h3 ⊢; unfold RecB; omega⟩, by simp only at h5 ⊢; omega⟩

theorem dMay {code : List Int} (hb : Bytes code) : T (M.spec_DrawMayDestroy code) (fun r => Drawn r.1 r.2.1 ∧ r.2.2.1.length < 1000000) := by
  unfold M.spec_DrawMayDestroy
  refine (drawHolds hb (k := 0) ⟨rfl, Int.le_refl _, Int.le_refl _⟩ (by omega)).then ?_
  rintro ⟨l, c1⟩ ⟨h1, h2⟩
  refine (drawRecord hb h2 (by omega) 12).then ?_
  rintro ⟨r, c2⟩ ⟨h3, h4⟩
  refine (drawSuited hb h4 (by omega) r).then ?_
  rintro ⟨s, c3⟩ ⟨h5, h6⟩
  simp only at h1 h3 h5 h6
  have hD : Drawn l r := ⟨h1.b, by unfold RecB; omega⟩
  have hs : s.length < 1000000 := by omega
  dsimp only
  rw [firstDS l r s hD.l hD.r hs, Option.bind_some]
  have fin : ∀ c4, Good code (0 + 400 + 100 + 1200 + 2) c4 → T ((M.spec_l1Cur_holdDay c4 l).bind fun y6 => some (l, r, s, y6.1)) (fun r => Drawn r.1 r.2.1 ∧ r.2.2.1.length < 1000000) := by
    intro c4 h7
    exact (drawHoldDay hb h7 (by omega) l (by have := h1.1; omega)).then fun q hq => T_ret ⟨hD, hs⟩
  refine T_in ?_
  cases (FirstD l r s).2
  · simp only [cond_false, Bool.false_and]
    exact T_ret (fin _ (h6.up (by omega)))
  · simp only [cond_true, Bool.true_and]
    refine T.mono (Q := fun r => Good code (0 + 400 + 100 + 1200 + 2) r.2) ((one_ok hb h6 (by omega)).mono fun r hr => hr) ?_
    rintro ⟨b, c4⟩ h7
    refine T_if (fun _ => ?_) (fun _ => fin _ h7)
    exact (pick_ok hb h7 (by omega)).then fun q hq => T_ret ⟨hD, hs⟩

theorem law_FnHolds (code : List Int) (h1 : code.length ≤ 9223372036854775807) (h2 : ∀ x, x ∈ code → 0 ≤ x ∧ x ≤ 255) : M.laws_FnHolds code = some true := by
  apply T.eq
  unfold M.laws_FnHolds M.laws_vBig
  rw [Option.bind_some]
  refine T_if (fun _ => T_ret rfl) (fun hq => ?_)
  simp only [decide_eq_false_iff_not] at hq
  have hb : Bytes code := ⟨by omega, h2⟩
  refine (dMay hb).then ?_
  rintro ⟨l, r, s, d⟩ ⟨⟨hl, hr⟩, hs⟩
  simp only at hl hr hs
  simp only [mayI l r s d hl hr hs, mayS l r s d hl hr hs, Option.bind_some, beq_self_eq_true, Bool.not_true, Bool.or_false, cond_false, holdsI l hl, areHoldsS l hl, holdsOnI l r d hl hr, isDueI r s d hr hs]
  refine T.then (Q := fun e => e = .inl ()) (T_if (fun hm => ?_) (fun _ => T_ret rfl)) ?_
  · have hm' : (held l r d && schedOk s) = true ∧ mayOn l r s d = true := by
      unfold MayD at hm
      cases h : held l r d && schedOk s
      · rw [h] at hm; cases hm
      · rw [h] at hm; exact ⟨rfl, hm⟩
    obtain ⟨g1, g2⟩ := hm'
    simp only [Bool.and_eq_true] at g1
    have g3 := held_spec g1.1
    unfold mayOn at g2
    simp only [Bool.and_eq_true] at g2
    have g4 : inR d 0 20000 = true := inR_true.2 g3.2.2
    have g5 : both r s = true := by unfold both; rw [g3.2.1, g1.2]; rfl
    have g6 : HoldsOn l r d = (onD l r d, true) := by unfold HoldsOn; rw [g1.1]; rfl
    have g7 : decide (0 ≤ (deciding r s).1) = true := g2.1.1.1
    rw [g4, g5, g6, g7, g2.1.1.2, show (((onD l r d).length : Int) != 0) = !(((onD l r d).length : Int) == 0) from rfl, g2.2]
    exact T_ret rfl
  rintro _ rfl
  dsimp only
  refine (dFirst hb).then ?_
  rintro ⟨l, r, s⟩ ⟨⟨hl, hr⟩, hs⟩
  simp only at hl hr hs
  simp only [firstDI l r s hl hr hs, firstDS l r s hl hr hs, Option.bind_some, beq_self_eq_true, bne_self_eq_false, Bool.not_true, Bool.or_false, cond_false, mayI l r s _ hl hr hs]
  refine T.then (Q := fun e => e = .inl ()) (T_if (fun hm => ?_) (fun _ => T_ret rfl)) ?_
  · unfold FirstD at hm ⊢
    cases h : held l r 0 && schedOk s
    · rw [h] at hm; cases hm
    rw [h] at hm
    simp only [cond_true] at hm ⊢
    cases h6 : ((deciding r s).2.Act == 3)
    · rw [h6] at hm; cases hm
    rw [h6] at hm
    simp only [cond_true] at hm ⊢
    simp only [Bool.and_eq_true] at h
    obtain ⟨k1, k2, _, _⟩ := held_spec h.1
    have h7 := act3 k2 h.2 h6
    have hf := fday_inv hm
    obtain ⟨f, hfe⟩ : ∃ f, (fday l r (deciding r s).1).1 = f := ⟨_, rfl⟩
    simp only [hfe] at hf ⊢
    obtain ⟨f1, f2, f3, f4⟩ := hf
    have e1 : MayD l r s f = (true, true) := by
      unfold MayD held mayOn
      rw [k1, k2, inR_true.2 ⟨by omega, f2⟩, h.2, h6, f3, decide_eq_true f1, decide_eq_true h7.1]
      rfl
    rw [e1]
    simp only [Bool.not_true, Bool.or_false, cond_false]
    refine T_if (fun hp => ?_) (fun _ => T_ret rfl)
    simp only [decide_eq_true_eq] at hp
    rw [wrap64_id (by omega) (by omega)]
    have e2 : MayD l r s (f - 1) = (false, true) := by
      unfold MayD held
      rw [k1, k2, inR_true.2 ⟨by omega, by omega⟩, h.2]
      simp only [Bool.and_self, cond_true, Prod.mk.injEq, and_true]
      unfold mayOn
      by_cases h8 : (deciding r s).1 ≤ f - 1
      · have := f4 (f - 1) h8 (by omega)
        rw [show (((onD l r (f - 1)).length : Int) == 0) = false by
          rw [beq_eq_false_iff_ne]; intro e; exact this (List.length_eq_zero_iff.1 (by omega))]
        simp
      · rw [decide_eq_false h8]; simp
    rw [e2]
    exact T_ret rfl
  rintro _ rfl
  dsimp only
  refine (dFreeDay hb).then ?_
  rintro ⟨l, r, d⟩ ⟨hl, hr⟩
  simp only at hl hr
  simp only [freeDI l r d hl hr, freeDS l r d hl hr, Option.bind_some, beq_self_eq_true, bne_self_eq_false, Bool.not_true, Bool.or_false, cond_false, holdsOnI l r _ hl hr]
  refine T.then (Q := fun e => e = .inl ()) (T_if (fun hm => ?_) (fun _ => T_ret rfl)) ?_
  · unfold FreeD at hm ⊢
    cases h : held l r d
    · rw [h] at hm; cases hm
    rw [h] at hm
    simp only [cond_true] at hm ⊢
    obtain ⟨k1, k2, k3, k4⟩ := held_spec h
    have hf := fday_inv hm
    obtain ⟨f, hfe⟩ : ∃ f, (fday l r d).1 = f := ⟨_, rfl⟩
    simp only [hfe] at hf ⊢
    obtain ⟨f1, f2, f3, f4⟩ := hf
    have e1 : HoldsOn l r f = ([], true) := by
      unfold HoldsOn held
      rw [k1, k2, inR_true.2 ⟨by omega, f2⟩, f3]; rfl
    rw [e1, decide_eq_false (show ¬ f < d by omega)]
    simp only [Bool.not_true, Bool.or_false, cond_false, List.length_nil]
    refine T_if (fun hp => by cases hp) (fun _ => T_if (fun hp => ?_) (fun _ => T_ret rfl))
    simp only [decide_eq_true_eq] at hp
    rw [wrap64_id (by omega) (by omega)]
    have := f4 (f - 1) (by omega) (by omega)
    have e2 : HoldsOn l r (f - 1) = (onD l r (f - 1), true) := by
      unfold HoldsOn held
      rw [k1, k2, inR_true.2 ⟨by omega, by omega⟩]; rfl
    rw [e2, show (((onD l r (f - 1)).length : Int) == 0) = false by
      rw [beq_eq_false_iff_ne]; intro e; exact this (List.length_eq_zero_iff.1 (by omega))]
    exact T_ret rfl
  rintro _ rfl
  dsimp only
  refine (dHoldsOn hb).then ?_
  rintro ⟨l, r, d⟩ ⟨hl, hr⟩
  simp only at hl hr
  simp only [holdsOnI l r _ hl hr, holdsOnS l r _ hl hr, Option.bind_some, beq_self_eq_true, cond_true, vInts_self _ (HoldsOn_len l r d hl), Bool.true_and]
  exact T_ret rfl

end Go.Proofs.Ytjbgllhimnopaaa
