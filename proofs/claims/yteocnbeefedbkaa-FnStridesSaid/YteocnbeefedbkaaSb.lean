/-
  Samples compared, seeds, what is left; draws; the plain law of samples. Plain.
-/
import Derived.Test.YteocnbeefedbkaaSa
set_option linter.unusedSimpArgs false
set_option linter.unusedVariables false
namespace Go.Proofs.Yteocnbeefedbkaa
open Go.VS

theorem ext_getD2 {β : Type} [Inhabited β] {a b : List β} (h : a.length = b.length) (h' : ∀ k, k < a.length → a.getD k default = b.getD k default) : a = b := by
  apply List.ext_getElem h
  intro k h1 h2
  have := h' k h1
  rwa [getD_el h1, getD_el h2] at this

theorem eqLoop {step : Int → Option (Int ⊕ (Unit ⊕ Bool))} (a b : List Int) (hl : a.length < 1000000) (hlen : a.length = b.length)
    (hs : ∀ k, k < a.length → step (k : Int) = some (bif a.getD k default != b.getD k default then .inr (.inr false) else .inl ((k : Int) + 1))) (he : step (a.length : Int) = some (.inr (.inl ()))) :
    iterO step 0 = some (bif decide (a = b) then .inl () else .inr false) := by
  rw [iter_rise (n := a.length) (bad := fun k => a.getD k default != b.getD k default) (by omega) hs he]
  congr 1
  by_cases h : a = b
  · rw [decide_eq_true h]
    have : (List.range a.length).any (fun k => a.getD k default != b.getD k default) = false := by
      rw [List.any_eq_false]
      intro k _
      rw [h]; simp
    rw [this]; rfl
  · rw [decide_eq_false h]
    have : (List.range a.length).any (fun k => a.getD k default != b.getD k default) = true := by
      cases hq : (List.range a.length).any (fun k => a.getD k default != b.getD k default)
      · exfalso
        rw [List.any_eq_false] at hq
        exact h (ext_getD2 hlen fun k hk => by simpa using hq k (List.mem_range.2 hk))
      · rfl
    rw [this]; rfl

def IsSD (l p : List Int) (n s : Int) : Bool × Bool := bif askOk l n s then (decide (sortL (tk n.toNat l s) = p), true) else (false, false)
/-! ### Seeds -/
def atI' (l : List Int) (x : Int) : Int := firstAt (fun y => x == y) l
def SeedD (l : List Int) (x : Int) : Int × Bool := bif popOk l && !decide (atI' l x < 0) then (atI' l x, true) else (0, false)
/-! ### What is not sampled -/
def hasB (l : List Int) (x : Int) : Bool := l.any fun y => x == y
theorem hasB_iff {l : List Int} {x : Int} : hasB l x = true ↔ x ∈ l := by
  unfold hasB
  rw [List.any_eq_true]
  exact ⟨fun ⟨y, hy, e⟩ => by rw [eq_of_beq e]; exact hy, fun h => ⟨x, h, by simp⟩⟩
def NotD (l p : List Int) : List Int × Bool := bif (popOk l && popOk p) && p.all (hasB l) then (l.filter fun x => !hasB p x, true) else ([], false)
theorem NotD_len {l p : List Int} (hl : l.length < 1000000) : (NotD l p).1.length < 1000000 := by
  unfold NotD
  cases (popOk l && popOk p) && p.all (hasB l)
  · simp
  · exact Nat.lt_of_le_of_lt (List.length_filter_le _ _) hl

/-- What is drawn and what is left are all. -/
theorem left_len {l : List Int} {n s : Int} (h : askOk l n s = true) : (l.filter fun x => !hasB (sortL (tk n.toNat l s)) x).length + n.toNat = l.length := by
  obtain ⟨h1, h2, h3⟩ := askOk_spec h
  obtain ⟨rest, hp⟩ := tk_perm n.toNat l s h2.2.1 h3
  have hn : l.Nodup := (popOk_spec h1).2.1.imp (fun g => by omega)
  have hnd := hp.symm.nodup_iff.1 hn
  obtain ⟨_, _, hdj⟩ := List.nodup_append.1 hnd
  have e1 : (l.filter fun x => !hasB (sortL (tk n.toNat l s)) x).length = ((tk n.toNat l s ++ rest).filter fun x => !hasB (sortL (tk n.toNat l s)) x).length := (hp.symm.filter _).length_eq
  have e2 : (tk n.toNat l s).filter (fun x => !hasB (sortL (tk n.toNat l s)) x) = [] := List.filter_eq_nil_iff.2 fun x hx => by
    rw [hasB_iff.2 (sortL_mem.2 hx)]; simp
  have e3 : rest.filter (fun x => !hasB (sortL (tk n.toNat l s)) x) = rest := List.filter_eq_self.2 fun x hx => by
    have : hasB (sortL (tk n.toNat l s)) x = false := by
      cases hb : hasB (sortL (tk n.toNat l s)) x
      · rfl
      · exact absurd rfl (hdj x (sortL_mem.1 (hasB_iff.1 hb)) x hx)
    rw [this]; rfl
  have e4 := hp.length_eq
  rw [List.length_append, tk_len] at e4
  rw [e1, List.filter_append, e2, e3, List.nil_append]
  omega

/-! ### Draws -/
theorem drawPop {code : List Int} {k : Nat} {c : Cur} (hb : Bytes code) (h : Good code k c) (hk : k < 600000000) : T (M.spec_l1Cur_population c) (fun r => r.1.length ≤ 30 ∧ Good code (k + 100) r.2) := by
  unfold M.spec_l1Cur_population
  refine T_among hb h (by omega) (by simp) ?_
  intro a0 c1 _ h1
  refine T_pick hb h1 (by omega) ?_
  intro n c2 _ hn h2
  have hn := hn (by omega)
  dsimp only
  refine T.then (Q := fun r => r.1.length ≤ 8 ∧ Good code (k + 30) r.2.2) (T_iter (fun s => 0 ≤ s.2.2.1 ∧ s.1.length + s.2.2.1.toNat ≤ 8 ∧ Good code (k + 30 - 2 * s.2.2.1.toNat) s.2.2.2) (fun s => s.2.2.1.toNat) _ ⟨hn.1, by (first | omega | (simp only; omega) | (dsimp only; omega) | (simp; omega)), h2.up (by (first | omega | (simp only; omega) | (dsimp only; omega) | (simp; omega)))⟩ (by (first | omega | (simp only; omega) | (dsimp only; omega) | (simp; omega))) ?_) ?_
  · rintro ⟨out, a, n, c3⟩ ⟨g1, g2, g3⟩
    simp only at g1 g2 g3
    unfold M.spec_l1Cur_population_l0
    dsimp only
    refine T_if (fun hq => ?_) (fun hq => T_ret ⟨by simp only; omega, g3.up (by omega)⟩)
    simp only [decide_eq_true_eq] at hq
    refine T_ask (by rw [List.length_singleton]; omega) ?_
    refine T_among hb g3 (by omega) (by simp) ?_
    intro y c4 _ h4
    rw [wrap64_id (n := n - 1) (by omega) (by omega)]
    refine T_ret ⟨⟨by simp only; omega, by simp only [List.length_append, List.length_singleton]; omega, h4.up (by simp only; omega)⟩, by simp only; omega⟩
  · rintro ⟨out, a, c3⟩ ⟨g1, g2⟩
    simp only at g1 g2
    refine T_pick hb g2 (by omega) ?_
    intro x c4 _ _ h4
    refine T_in ?_
    refine T.mono (Q := fun r => r.1.length ≤ 30 ∧ Good code (k + 100) r.2) ?_ (fun r hr => T_ret hr)
    dsimp only
    refine T_if (fun _ => ?_) (fun _ => T_if (fun _ => ?_) (fun _ => T_ret ⟨by simp only; omega, h4.up (by omega)⟩))
    · refine T_among hb h4 (by omega) (by simp) ?_
      intro y c5 _ h5
      refine T_ask (by rw [List.length_singleton]; omega) (T_ret ⟨by simp only [List.length_append, List.length_singleton]; omega, h5.up (by omega)⟩)
    · refine T.then (Q := fun r => r.1.length ≤ 30 ∧ Good code (k + 100) r.2) (T_iter (fun s => s.1.length ≤ 21 ∧ Good code (k + 40 + 2 * s.1.length) s.2.2) (fun s => 21 - s.1.length) _ ⟨by simp only; omega, h4.up (by simp only; omega)⟩ (by simp only; omega) ?_) (fun r hr => T_ret hr)
      rintro ⟨l, a, c5⟩ ⟨q1, q2⟩
      simp only at q1 q2
      unfold M.spec_l1Cur_population_l1
      dsimp only
      refine T_pick hb q2 (by omega) ?_
      intro p c6 _ hp h6
      have hp := hp (by omega)
      dsimp only
      rw [wrap64_id (n := 20 + p) (by omega) (by omega)]
      refine T_if (fun hq => ?_) (fun hq => T_ret ⟨by simp only; omega, h6.up (by omega)⟩)
      simp only [decide_eq_true_eq] at hq
      refine T_ask (by rw [List.length_singleton]; omega) (T_ret ⟨⟨by simp only [List.length_append, List.length_singleton]; omega, h6.up (by simp only [List.length_append, List.length_singleton]; omega)⟩, by simp only [List.length_append, List.length_singleton]; omega⟩)

theorem drawSeed {code : List Int} {k : Nat} {c : Cur} (hb : Bytes code) (h : Good code k c) (hk : k < 600000000) : T (M.spec_l1Cur_anySeed c) (fun r => Good code (k + 2) r.2) := by
  unfold M.spec_l1Cur_anySeed
  refine T_among hb h (by omega) (by simp) ?_
  intro x c1 _ h1
  exact T_ret h1

theorem good0s {code : List Int} : Good code 0 (⟨code, 0, 0⟩ : Cur) := ⟨rfl, Int.le_refl _, Int.le_refl _⟩

theorem SmpD_short {l : List Int} {n s : Int} : (SmpD l n s).1.length ≤ 30 := by
  unfold SmpD
  cases h : askOk l n s
  · simp
  · obtain ⟨h1, h2, h3⟩ := askOk_spec h
    have h4 := (popOk_spec h1).1
    simp only [cond_true, sortL_len, tk_len]; omega
theorem vIntsA (a : List Int) (hl : a.length < 1000000) : M.laws_vInts a a = some true := by
  unfold M.laws_vInts
  simp only [bne_self_eq_false, cond_false]
  rw [iter_up (s := 0) (step := M.laws_vInts_l0 a a) (e := .inl ()) (fun k => (k : Int)) a.length rfl (by omega) (fun k hk => by
    unfold M.laws_vInts_l0
    simp (disch := first | omega | (intros; simp only [decide_eq_true_eq, decide_eq_false_iff_not, Bool.not_eq_true, Bool.not_eq_false, Bool.not_true, Bool.not_false] at *; omega)) only [cast_succ, asrt_pos, wrap64_id, Option.bind_some, cond_true, cond_false, decide_eq_true, decide_eq_false, Int.toNat_natCast, Bool.not_true, Bool.not_false, Bool.and_true, Bool.true_and, Bool.and_false, Bool.false_and, Bool.or_true, Bool.true_or, Bool.or_false, Bool.false_or, bne_self_eq_false]) (by
    unfold M.laws_vInts_l0
    simp (disch := first | omega | (intros; simp only [decide_eq_true_eq, decide_eq_false_iff_not, Bool.not_eq_true, Bool.not_eq_false, Bool.not_true, Bool.not_false] at *; omega)) only [cast_succ, asrt_pos, wrap64_id, Option.bind_some, cond_true, cond_false, decide_eq_true, decide_eq_false, Int.toNat_natCast, Bool.not_true, Bool.not_false, Bool.and_true, Bool.true_and, Bool.and_false, Bool.false_and, Bool.or_true, Bool.true_or, Bool.or_false, Bool.false_or])]
  rfl
theorem vHasA (m : List Int) (x : Int) (hl : m.length < 1000000) : M.laws_vHas m x = some (m.any fun y => y == x) := by
  unfold M.laws_vHas
  rw [iter_any (step := M.laws_vHas_l0 m x) (s := 0) (fun k => (k : Int)) m.length (fun k => m.getD k default == x) (.inr true) (.inl ()) rfl (by omega)
    (fun k hk hp => by
      unfold M.laws_vHas_l0
      simp (disch := first | omega | (intros; simp only [decide_eq_true_eq, decide_eq_false_iff_not, Bool.not_eq_true, Bool.not_eq_false, Bool.not_true, Bool.not_false] at *; omega)) only [cast_succ, asrt_pos, wrap64_id, Option.bind_some, cond_true, cond_false, decide_eq_true, decide_eq_false, Int.toNat_natCast, Bool.not_true, Bool.not_false, Bool.and_true, Bool.true_and, Bool.and_false, Bool.false_and, Bool.or_true, Bool.true_or, Bool.or_false, Bool.false_or, hp])
    (fun k hk hp => by
      unfold M.laws_vHas_l0
      simp (disch := first | omega | (intros; simp only [decide_eq_true_eq, decide_eq_false_iff_not, Bool.not_eq_true, Bool.not_eq_false, Bool.not_true, Bool.not_false] at *; omega)) only [cast_succ, asrt_pos, wrap64_id, Option.bind_some, cond_true, cond_false, decide_eq_true, decide_eq_false, Int.toNat_natCast, Bool.not_true, Bool.not_false, Bool.and_true, Bool.true_and, Bool.and_false, Bool.false_and, Bool.or_true, Bool.true_or, Bool.or_false, Bool.false_or, hp])
    (by
      unfold M.laws_vHas_l0
      simp (disch := first | omega | (intros; simp only [decide_eq_true_eq, decide_eq_false_iff_not, Bool.not_eq_true, Bool.not_eq_false, Bool.not_true, Bool.not_false] at *; omega)) only [cast_succ, asrt_pos, wrap64_id, Option.bind_some, cond_true, cond_false, decide_eq_true, decide_eq_false, Int.toNat_natCast, Bool.not_true, Bool.not_false, Bool.and_true, Bool.true_and, Bool.and_false, Bool.false_and, Bool.or_true, Bool.true_or, Bool.or_false, Bool.false_or]), ← any_getD (p := fun y => y == x)]
  cases m.any fun y => y == x <;> rfl
theorem vWithinA (a b : List Int) (ha : a.length < 1000000) (hb : b.length < 1000000) (h : ∀ x ∈ a, x ∈ b) : M.laws_vWithin a b = some true := by
  unfold M.laws_vWithin
  rw [iter_up (s := 0) (step := M.laws_vWithin_l0 a b) (e := .inl ()) (fun k => (k : Int)) a.length rfl (by omega) (fun k hk => by
    have e : (b.any fun y => y == a.getD k default) = true := List.any_eq_true.2 ⟨_, h _ (getD_mem hk), by simp⟩
    have e2 := vHasA b (a.getD k default) hb
    rw [e] at e2
    unfold M.laws_vWithin_l0
    simp (disch := first | omega | (intros; simp only [decide_eq_true_eq, decide_eq_false_iff_not, Bool.not_eq_true, Bool.not_eq_false, Bool.not_true, Bool.not_false] at *; omega)) only [cast_succ, asrt_pos, wrap64_id, Option.bind_some, cond_true, cond_false, decide_eq_true, decide_eq_false, Int.toNat_natCast, Bool.not_true, Bool.not_false, Bool.and_true, Bool.true_and, Bool.and_false, Bool.false_and, Bool.or_true, Bool.true_or, Bool.or_false, Bool.false_or, e2]) (by
    unfold M.laws_vWithin_l0
    simp (disch := first | omega | (intros; simp only [decide_eq_true_eq, decide_eq_false_iff_not, Bool.not_eq_true, Bool.not_eq_false, Bool.not_true, Bool.not_false] at *; omega)) only [cast_succ, asrt_pos, wrap64_id, Option.bind_some, cond_true, cond_false, decide_eq_true, decide_eq_false, Int.toNat_natCast, Bool.not_true, Bool.not_false, Bool.and_true, Bool.true_and, Bool.and_false, Bool.false_and, Bool.or_true, Bool.true_or, Bool.or_false, Bool.false_or])]
  rfl

end Go.Proofs.Yteocnbeefedbkaa
