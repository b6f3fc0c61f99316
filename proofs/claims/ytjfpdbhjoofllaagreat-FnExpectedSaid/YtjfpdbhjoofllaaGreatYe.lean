/-
  Expected days, due days, events that are not expected, rules that never decide; the plain law of what is expected. Plain.
-/
import Derived.Test.YtjfpdbhjoofllaaGreatYd
import Derived.Test.YtjfpdbhjoofllaaGreatYc
import Derived.Test.YtjfpdbhjoofllaaGreatCm
set_option linter.unusedSimpArgs false
set_option linter.unusedVariables false
namespace Go.Proofs.YtjfpdbhjoofllaaGreat
open Go.VS

def acy (l : List Trigger) : Bool := tgsOk l && (firstK l).isEmpty
theorem acyI (l : List Trigger) (hl : l.length < 1000000) : M.impl_areAcyclic l = some (acy l) := by
  unfold M.impl_areAcyclic acy
  rw [tgsI l hl, Option.bind_some]
  cases tgsOk l
  · rfl
  · rw [cond_true, fcI l hl, Option.bind_some]
theorem acyS (l : List Trigger) (hl : l.length < 1000000) : M.spec_l10Free l = some (acy l) := by
  unfold M.spec_l10Free M.spec_HasCycle acy
  rw [tgsS l hl, Option.bind_some]
  cases tgsOk l
  · rfl
  · rw [Bool.not_true, cond_false, fcS l hl, Option.bind_some, Option.bind_some]
    simp
theorem acy_spec {l : List Trigger} (h : acy l = true) : tgsOk l = true ∧ firstK l = [] := by
  unfold acy at h
  rw [Bool.and_eq_true] at h
  exact ⟨h.1, List.isEmpty_iff.1 h.2⟩
theorem exD_nz (l : List Trigger) (h : acy l = true) (e : Int) (he : 0 ≤ e ∧ e ≤ 9) : (exD l e).2 = false → exD l e = (0, false) := by
  obtain ⟨h1, h2⟩ := acy_spec h
  intro hf
  have : (exD l e).1 = 0 := by
    by_cases h0 : e = 0
    · subst h0; rw [exD_zero]
    · exact (exD_step l h1 h2 e ⟨by omega, he.2⟩).1 hf
  exact Prod.ext this hf
theorem asDay_neg {l : List Trigger} (h : acy l = true) {e : Int} (he : 0 ≤ e ∧ e ≤ 9) : decide (asDay (exD l e) < 0) = !(exD l e).2 := by
  obtain ⟨h1, h2⟩ := acy_spec h
  have hb := (exD_I l h1 h2 e he).2.2
  unfold asDay
  cases (exD l e).2
  · rfl
  · rw [cond_true, decide_eq_false (by omega)]; rfl

/-! ### Expected days -/
def ExpD (l : List Trigger) (e : Int) : Int × Bool := bif inR e 0 9 && acy l then exD l e else (0, false)
theorem expI (l : List Trigger) (e : Int) (hl : l.length < 1000000) : M.impl_ExpectedDay l e = some (ExpD l e) := by
  unfold M.impl_ExpectedDay ExpD M.impl_isKind
  rw [withinI, Option.bind_some, Option.bind_some]
  cases h1 : inR e 0 9
  · rfl
  rw [Bool.not_true, cond_false, acyI l hl, Option.bind_some]
  cases h2 : acy l
  · rfl
  obtain ⟨a1, a2⟩ := acy_spec h2
  rw [Bool.not_true, Bool.or_self, cond_false, (exD_I l a1 a2 e (inR_true.1 h1)).1, Option.bind_some]
  rfl
theorem expS (l : List Trigger) (e : Int) (hl : l.length < 1000000) : M.spec_ExpectedDay l e = some (ExpD l e) := by
  unfold M.spec_ExpectedDay ExpD
  rw [acyS l hl, Option.bind_some]
  cases h2 : acy l
  · rw [Bool.and_false]; rfl
  rw [Bool.not_true, cond_false, l1InS, Option.bind_some]
  cases h1 : inR e 0 9
  · rfl
  obtain ⟨a1, a2⟩ := acy_spec h2
  have he := inR_true.1 h1
  rw [Bool.not_true, Bool.or_self, cond_false, (exD_I l a1 a2 e he).2.1, Option.bind_some, asDay_neg h2 he, Bool.false_or, Bool.and_self, cond_true]
  cases hf : (exD l e).2
  · rw [exD_nz l h2 e he hf]; rfl
  · rw [Bool.not_true, cond_false, Option.bind_some]
    unfold asDay
    rw [hf, cond_true]
    exact congrArg some (Prod.ext rfl hf.symm)

theorem expLoop (l : List Trigger) (e : Int) (hl : l.length < 1000000) : iterO (M.laws_FnExpected_l0 (l, e) (ExpD l e)) (0 : Int) = some (.inl ()) := by
  cases hr : (ExpD l e).2
  · refine iter_up (s := 0) (fun k => (k : Int)) 0 rfl (by omega) (fun k hk => absurd hk (Nat.not_lt_zero _)) ?_
    unfold M.laws_FnExpected_l0
    dsimp only
    rw [hr, Bool.and_false]
    rfl
  · have hc : inR e 0 9 = true ∧ acy l = true := by
      unfold ExpD at hr
      cases h1 : inR e 0 9
      · rw [h1] at hr; cases hr
      cases h2 : acy l
      · rw [h1, h2] at hr; cases hr
      exact ⟨rfl, rfl⟩
    obtain ⟨a1, a2⟩ := acy_spec hc.2
    have hm := (tgs_mem a1).2
    have eE : ExpD l e = exD l e := by unfold ExpD; rw [hc.1, hc.2]; rfl
    refine iter_up (s := 0) (fun k => (k : Int)) l.length rfl (by omega) (fun k hk => ?_) ?_
    · have ht := hm _ (getD_mem hk)
      unfold M.laws_FnExpected_l0
      dsimp only
      rw [hr, decide_eq_true (show (k : Int) < (l.length : Int) by omega), Bool.and_self, cond_true, asrt_pos ⟨by omega, by omega⟩, Int.toNat_natCast, wrap64_id (n := (k : Int) + 1) (by omega) (by omega)]
      by_cases he : (l.getD k default).Event = e
      · have hst := (exD_step l a1 a2 e (by omega)).2 (by rw [← eE]; exact hr) _ (getD_mem hk) he
        have hb := (exD_I l a1 a2 (l.getD k default).After ht.2.1).2.2
        have eA : ExpD l (l.getD k default).After = exD l (l.getD k default).After := by
          unfold ExpD
          rw [show inR (l.getD k default).After 0 9 = true from inR_true.2 ht.2.1, hc.2]; rfl
        rw [show ((l.getD k default).Event != e) = false by rw [he]; exact bne_self_eq_false e, cond_false, asrt_pos ⟨by omega, by omega⟩, expI l _ hl, Option.bind_some, eA, eE, hst.1]
        rw [asrt_pos (fun _ => ⟨by omega, by omega⟩), wrap64_id (n := (exD l (l.getD k default).After).1 + (l.getD k default).Days) (by omega) (by omega), decide_eq_false (by omega), Bool.not_true, Bool.or_self, cond_false]
        rfl
      · rw [show ((l.getD k default).Event != e) = true from bne_iff_ne.2 he, cond_true]
        rfl
    · unfold M.laws_FnExpected_l0
      dsimp only
      rw [decide_eq_false (by omega), Bool.false_and]
      rfl

/-! ### Due days -/
def duB (rc : Int → Int × Bool) (a : Int × Bool) (u : Rule) : (Int × Bool) ⊕ ((Int × Bool) ⊕ (Int × Bool)) :=
  bif !(rc u.Event).2 then .inr (.inr (0, false)) else .inl (bif decide (a.1 < (rc u.Event).1 + u.Days) then (rc u.Event).1 + u.Days else a.1, true)
def dsB (rc : Int → Int × Bool) (a : Int) (u : Rule) : Int ⊕ (Int ⊕ (Int × Bool)) :=
  bif !(rc u.Event).2 then .inr (.inr (0, false)) else .inl (bif decide (a > (rc u.Event).1 + u.Days) then a else (rc u.Event).1 + u.Days)
def finD (s : Int ⊕ (Int × Bool)) : Int × Bool := match s with | .inl m => bif decide (m < 0) then (0, false) else (m, true) | .inr r => r
theorem dues {rc : Int → Int × Bool} : ∀ (l : List Rule) (a : Int × Bool), (∀ u ∈ l, 0 ≤ (rc u.Event).1 + u.Days) → 0 ≤ a.1 → (a.2 = false → a.1 = 0) →
    both (forE (duB rc) Sum.inl l a) = finD (forE (dsB rc) Sum.inl l (asDay a)) ∧ ((both (forE (duB rc) Sum.inl l a)).2 = true → a.1 ≤ (both (forE (duB rc) Sum.inl l a)).1 ∧ (a.2 = true ∨ l ≠ []) ∧ ∀ u ∈ l, (rc u.Event).2 = true ∧ (rc u.Event).1 + u.Days ≤ (both (forE (duB rc) Sum.inl l a)).1)
  | [], (x, y), _, ha, h0 => by
    simp only at ha h0
    refine ⟨?_, fun h => ⟨Int.le_refl _, .inl h, fun u hu => absurd hu (by simp)⟩⟩
    show (x, y) = finD (.inl (asDay (x, y)))
    unfold asDay finD
    cases y
    · have := h0 rfl; subst this; rfl
    · simp only [cond_true]; rw [decide_eq_false (by omega)]; rfl
  | u :: l, (x, y), hl, ha, h0 => by
    simp only [forE]
    simp only at ha h0
    cases hr : (rc u.Event).2
    · have x1 : duB rc (x, y) u = .inr (.inr (0, false)) := by unfold duB; rw [hr]; rfl
      have x2 : dsB rc (asDay (x, y)) u = .inr (.inr (0, false)) := by unfold dsB; rw [hr]; rfl
      rw [x1, x2]
      exact ⟨rfl, fun h => by cases h⟩
    · have hb := hl u (by simp)
      have x1 : duB rc (x, y) u = .inl (bif decide (x < (rc u.Event).1 + u.Days) then (rc u.Event).1 + u.Days else x, true) := by unfold duB; rw [hr]; rfl
      have x2 : dsB rc (asDay (x, y)) u = .inl (asDay (bif decide (x < (rc u.Event).1 + u.Days) then (rc u.Event).1 + u.Days else x, true)) := by
        unfold dsB
        rw [hr]
        simp only [cond_false, Bool.not_true]
        congr 1
        unfold asDay
        simp only [cond_true]
        cases y
        · have := h0 rfl
          subst this
          simp only [cond_false]
          rw [decide_eq_false (show ¬ ((-1 : Int) > (rc u.Event).1 + u.Days) by omega), cond_false]
          cases hd : decide ((0 : Int) < (rc u.Event).1 + u.Days)
          · simp only [decide_eq_false_iff_not] at hd
            rw [cond_false]; omega
          · rfl
        · simp only [cond_true]
          by_cases h : x < (rc u.Event).1 + u.Days
          · rw [decide_eq_true h, decide_eq_false (by omega)]; rfl
          · rw [decide_eq_false h]
            by_cases h2 : x > (rc u.Event).1 + u.Days
            · rw [decide_eq_true h2]; rfl
            · rw [decide_eq_false h2]; simp only [cond_false]; omega
      rw [x1, x2]
      simp only
      have hm : x ≤ (bif decide (x < (rc u.Event).1 + u.Days) then (rc u.Event).1 + u.Days else x) ∧ (rc u.Event).1 + u.Days ≤ (bif decide (x < (rc u.Event).1 + u.Days) then (rc u.Event).1 + u.Days else x) := by
        by_cases h : x < (rc u.Event).1 + u.Days
        · rw [decide_eq_true h, cond_true]; omega
        · rw [decide_eq_false h, cond_false]; omega
      obtain ⟨i1, i2⟩ := dues (rc := rc) l (bif decide (x < (rc u.Event).1 + u.Days) then (rc u.Event).1 + u.Days else x, true) (fun t ht => hl t (by simp [ht])) (by simp only; omega) (fun h => by cases h)
      refine ⟨i1, fun h => ?_⟩
      obtain ⟨j1, _, j2⟩ := i2 h
      simp only at j1
      refine ⟨by omega, .inr (by simp), fun v hv => ?_⟩
      rcases List.mem_cons.1 hv with z | z
      · subst z; exact ⟨hr, by omega⟩
      · exact j2 v z

def DueE (l : List Trigger) (s : List Rule) (ser : Int) : Int × Bool := bif (acy l && schedOk s) && inR ser 1 99 then both (forE (duB (exD l)) Sum.inl (rulesFor s ser) (0, false)) else (0, false)
theorem sched_ev {s : List Rule} (h : schedOk s = true) : ∀ u ∈ s, (0 ≤ u.Event ∧ u.Event ≤ 9) ∧ 0 ≤ u.Days ∧ u.Days ≤ 20000 := fun u hu => ⟨((schedOk_spec h).2 u hu).2.1, ((schedOk_spec h).2 u hu).2.2.1⟩
theorem dueEI (l : List Trigger) (s : List Rule) (ser : Int) (hl : l.length < 1000000) (hs : s.length < 1000000) : M.impl_ExpectedDue l s ser = some (DueE l s ser) := by
  unfold M.impl_ExpectedDue DueE
  rw [acyI l hl, Option.bind_some]
  cases h1 : acy l
  · rfl
  rw [Bool.not_true, cond_false, schedI s hs, Option.bind_some]
  cases h2 : schedOk s
  · rfl
  rw [Bool.not_true, Bool.or_self, cond_false, isIdI, Option.bind_some]
  cases h3 : inR ser 1 99
  · rfl
  obtain ⟨a1, a2⟩ := acy_spec h1
  have hev := sched_ev h2
  have hlen := rulesFor_len (l := s) (s := ser)
  rw [Bool.not_true, Bool.or_self, cond_false, forI s ser hs, Option.bind_some, Bool.and_self, Bool.and_self, cond_true]
  rw [iter_forE (s := ((0 : Int), false, (0 : Int))) (step := M.impl_ExpectedDue_l0 l (rulesFor s ser)) (fun (a : Int × Bool) (k : Nat) => (a.1, a.2, (k : Int))) (duB (exD l)) Sum.inl (rulesFor s ser) (0, false) (fun _ _ => True) rfl (by omega) trivial (fun a k hk _ => ?_) (fun a _ => ?_), Option.bind_some]
  · cases forE (duB (exD l)) Sum.inl (rulesFor s ser) (0, false) <;> rfl
  · have hu0 : (rulesFor s ser).getD k default ∈ s := (List.mem_filter.1 (getD_mem hk)).1
    have hu := hev _ hu0
    have hb := exD_I l a1 a2 ((rulesFor s ser).getD k default).Event hu.1
    unfold M.impl_ExpectedDue_l0 duB
    dsimp only
    rw [decide_eq_true (show (k : Int) < ((rulesFor s ser).length : Int) by omega), cond_true, asrt_pos ⟨by omega, by omega⟩, Int.toNat_natCast, hb.1, Option.bind_some, wrap64_id (n := (k : Int) + 1) (by omega) (by omega), wrap64_id (n := (exD l ((rulesFor s ser).getD k default).Event).1 + ((rulesFor s ser).getD k default).Days) (by omega) (by omega)]
    cases (exD l ((rulesFor s ser).getD k default).Event).2
    · rfl
    · exact ⟨rfl, trivial⟩
  · unfold M.impl_ExpectedDue_l0
    dsimp only
    rw [decide_eq_false (by omega)]
    rfl
theorem dueES (l : List Trigger) (s : List Rule) (ser : Int) (hl : l.length < 1000000) (hs : s.length < 1000000) : M.spec_ExpectedDue l s ser = some (DueE l s ser) := by
  unfold M.spec_ExpectedDue DueE
  rw [acyS l hl, Option.bind_some]
  cases h1 : acy l
  · rfl
  rw [Bool.not_true, cond_false, schedS s hs, Option.bind_some]
  cases h2 : schedOk s
  · rfl
  rw [Bool.not_true, Bool.or_self, cond_false, l1InS, Option.bind_some]
  cases h3 : inR ser 1 99
  · rfl
  obtain ⟨a1, a2⟩ := acy_spec h1
  have hev := sched_ev h2
  have hlen := rulesFor_len (l := s) (s := ser)
  rw [Bool.not_true, Bool.or_self, cond_false, forS s ser hs, Option.bind_some, Bool.and_self, Bool.and_self, cond_true]
  have hd := dues (rc := exD l) (rulesFor s ser) (0, false) (fun u hu => by
    have hu := hev u (List.mem_filter.1 hu).1
    have := (exD_I l a1 a2 u.Event hu.1).2.2
    omega) (Int.le_refl _) (fun _ => rfl)
  rw [iter_forE (s := ((-1 : Int), (0 : Int))) (step := M.spec_ExpectedDue_l0 l (rulesFor s ser)) (fun (a : Int) (k : Nat) => (a, (k : Int))) (dsB (exD l)) Sum.inl (rulesFor s ser) (-1) (fun _ _ => True) rfl (by omega) trivial (fun a k hk _ => ?_) (fun a _ => ?_), Option.bind_some, hd.1]
  · show _ = some (finD (forE (dsB (exD l)) Sum.inl (rulesFor s ser) (-1)))
    cases forE (dsB (exD l)) Sum.inl (rulesFor s ser) (-1) with
    | inl m =>
      unfold finD
      simp only
      cases decide (m < 0) <;> rfl
    | inr r => rfl
  · have hu0 : (rulesFor s ser).getD k default ∈ s := (List.mem_filter.1 (getD_mem hk)).1
    have hu := hev _ hu0
    have hb := exD_I l a1 a2 ((rulesFor s ser).getD k default).Event hu.1
    unfold M.spec_ExpectedDue_l0 dsB
    dsimp only
    rw [decide_eq_true (show (k : Int) < ((rulesFor s ser).length : Int) by omega), cond_true, asrt_pos ⟨by omega, by omega⟩, Int.toNat_natCast, hb.2.1, Option.bind_some, asDay_neg h1 hu.1, wrap64_id (n := (k : Int) + 1) (by omega) (by omega)]
    cases hf : (exD l ((rulesFor s ser).getD k default).Event).2
    · rfl
    · have : asDay (exD l ((rulesFor s ser).getD k default).Event) = (exD l ((rulesFor s ser).getD k default).Event).1 := by unfold asDay; rw [hf]; rfl
      rw [this, Bool.not_true, cond_false, asrt_pos ⟨by omega, by omega⟩, wrap64_id (n := (exD l ((rulesFor s ser).getD k default).Event).1 + ((rulesFor s ser).getD k default).Days) (by omega) (by omega)]
      unfold M.spec_l1Most
      rw [bif_some, Option.bind_some]
      exact ⟨rfl, trivial⟩
  · unfold M.spec_ExpectedDue_l0
    dsimp only
    rw [decide_eq_false (by omega)]
    rfl
end Go.Proofs.YtjfpdbhjoofllaaGreat
