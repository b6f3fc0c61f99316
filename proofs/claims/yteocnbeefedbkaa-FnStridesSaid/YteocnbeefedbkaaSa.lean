/-
  Samples: populations, draws in their order, sorted samples: both sides say the same. Plain.
-/
import Derived.Test.YteocnbeefedbkaaLi
set_option linter.unusedSimpArgs false
set_option linter.unusedVariables false
namespace Go.Proofs.Yteocnbeefedbkaa
open Go.VS

def popOk (l : List Int) : Bool := rise (fun n => !inR n 1 999) (fun a b => decide (a ≥ b)) l && decide ((l.length : Int) ≤ 20)
theorem popI (l : List Int) (hl : l.length < 1000000) : M.impl_IsPopulation l = some (popOk l) := by
  unfold M.impl_IsPopulation
  rw [iter_rise (n := l.length) (bad := riseB (fun n => !inR n 1 999) (fun a b => decide (a ≥ b)) l) (by omega) (fun k hk => by
    unfold M.impl_IsPopulation_l0 riseB
    simp (disch := first | omega | (intros; simp only [decide_eq_true_eq, decide_eq_false_iff_not, Bool.not_eq_true, Bool.not_eq_false, Bool.not_true, Bool.not_false] at *; omega)) only [cast_succ, asrt_pos, wrap64_id, Option.bind_some, cond_true, cond_false, decide_eq_true, decide_eq_false, Int.toNat_natCast, Bool.not_true, Bool.not_false, Bool.and_true, Bool.true_and, Bool.and_false, Bool.false_and, Bool.or_true, Bool.true_or, Bool.or_false, Bool.false_or, withinI, toNat_pred, bif_some]) (by
    unfold M.impl_IsPopulation_l0
    simp (disch := first | omega | (intros; simp only [decide_eq_true_eq, decide_eq_false_iff_not, Bool.not_eq_true, Bool.not_eq_false, Bool.not_true, Bool.not_false] at *; omega)) only [cast_succ, asrt_pos, wrap64_id, Option.bind_some, cond_true, cond_false, decide_eq_true, decide_eq_false, Int.toNat_natCast, Bool.not_true, Bool.not_false, Bool.and_true, Bool.true_and, Bool.and_false, Bool.false_and, Bool.or_true, Bool.true_or, Bool.or_false, Bool.false_or])]
  unfold popOk rise
  cases (List.range l.length).any _ <;> rfl
theorem risS (l : List Int) (lo hi : Int) (hl : l.length < 1000000) : M.spec_l1Rising l lo hi = some (rise (fun n => !inR n lo hi) (fun a b => decide (a ≥ b)) l) := by
  unfold M.spec_l1Rising
  rw [iter_rise (n := l.length) (bad := riseB (fun n => !inR n lo hi) (fun a b => decide (a ≥ b)) l) (by omega) (fun k hk => by
    unfold M.spec_l1Rising_l0 riseB
    simp (disch := first | omega | (intros; simp only [decide_eq_true_eq, decide_eq_false_iff_not, Bool.not_eq_true, Bool.not_eq_false, Bool.not_true, Bool.not_false] at *; omega)) only [cast_succ, asrt_pos, wrap64_id, Option.bind_some, cond_true, cond_false, decide_eq_true, decide_eq_false, Int.toNat_natCast, Bool.not_true, Bool.not_false, Bool.and_true, Bool.true_and, Bool.and_false, Bool.false_and, Bool.or_true, Bool.true_or, Bool.or_false, Bool.false_or, l1InS, toNat_pred, bif_some]) (by
    unfold M.spec_l1Rising_l0
    simp (disch := first | omega | (intros; simp only [decide_eq_true_eq, decide_eq_false_iff_not, Bool.not_eq_true, Bool.not_eq_false, Bool.not_true, Bool.not_false] at *; omega)) only [cast_succ, asrt_pos, wrap64_id, Option.bind_some, cond_true, cond_false, decide_eq_true, decide_eq_false, Int.toNat_natCast, Bool.not_true, Bool.not_false, Bool.and_true, Bool.true_and, Bool.and_false, Bool.false_and, Bool.or_true, Bool.true_or, Bool.or_false, Bool.false_or])]
  unfold rise
  cases (List.range l.length).any _ <;> rfl
theorem popS (l : List Int) (hl : l.length < 1000000) : M.spec_l12Good l = some (popOk l) := by
  unfold M.spec_l12Good popOk
  rw [risS l 1 999 hl]
  cases decide ((l.length : Int) ≤ 20)
  · simp
  · simp
theorem popOk_spec {l : List Int} (h : popOk l = true) : l.length ≤ 20 ∧ l.Pairwise (· < ·) ∧ ∀ x ∈ l, 1 ≤ x ∧ x ≤ 999 := by
  unfold popOk at h
  simp only [Bool.and_eq_true, decide_eq_true_eq] at h
  obtain ⟨h1, h2⟩ := h
  rw [rise_pw (fun a b c g1 g2 => by simp only [decide_eq_false_iff_not] at *; omega)] at h1
  refine ⟨by omega, h1.2.imp (fun g => by simp only [decide_eq_false_iff_not] at g; omega), fun x hx => ?_⟩
  have := h1.1 x hx
  simpa [inR_true] using this
theorem popOk_mk {l : List Int} (h1 : l.length ≤ 20) (h2 : l.Pairwise (· < ·)) (h3 : ∀ x ∈ l, 1 ≤ x ∧ x ≤ 999) : popOk l = true := by
  unfold popOk
  rw [decide_eq_true (show (l.length : Int) ≤ 20 by omega), Bool.and_true, rise_pw (fun a b c g1 g2 => by simp only [decide_eq_false_iff_not] at *; omega)]
  refine ⟨fun x hx => ?_, h2.imp (fun g => by simp only [decide_eq_false_iff_not]; omega)⟩
  rw [inR_true.2 (h3 x hx)]; rfl

/-! ### Draws in their order -/
def nxt (s : Int) : Int := Int.tmod (IntKind.i64.wrap (IntKind.i64.wrap (5 * s) + 1)) 100000
theorem nxt_bd {s : Int} (h : 0 ≤ s ∧ s ≤ 99999) : 0 ≤ nxt s ∧ nxt s ≤ 99999 := by
  unfold nxt
  rw [wrap64_id (n := 5 * s) (by omega) (by omega), wrap64_id (by omega) (by omega), Int.tmod_eq_emod_of_nonneg (by omega)]
  omega
def tk : Nat → List Int → Int → List Int
  | 0, _, _ => []
  | n + 1, l, s => l.getD (Int.tmod s (l.length : Int)).toNat default :: tk n (l.take (Int.tmod s (l.length : Int)).toNat ++ l.drop ((Int.tmod s (l.length : Int)).toNat + 1)) (nxt s)
theorem tk_z (l : List Int) (s : Int) : tk 0 l s = [] := rfl
theorem tk_s (n : Nat) (l : List Int) (s : Int) : tk (n + 1) l s = [l.getD (Int.tmod s (l.length : Int)).toNat default] ++ tk n (l.take (Int.tmod s (l.length : Int)).toNat ++ l.drop ((Int.tmod s (l.length : Int)).toNat + 1)) (nxt s) := rfl
theorem tk_len : ∀ (n : Nat) (l : List Int) (s : Int), (tk n l s).length = n
  | 0, _, _ => rfl
  | n + 1, l, s => by simp [tk, tk_len n]
theorem at_bd {l : List Int} {s : Int} (hl : 0 < l.length) (hs : 0 ≤ s) : ∃ a : Nat, Int.tmod s (l.length : Int) = (a : Int) ∧ a < l.length := by
  have h := tmod_range (x := s) (n := (l.length : Int)) hs (by omega)
  obtain ⟨a, ha⟩ := Int.eq_ofNat_of_zero_le h.1
  exact ⟨a, ha, by omega⟩
theorem tk_perm : ∀ (n : Nat) (l : List Int) (s : Int), n ≤ l.length → (0 ≤ s ∧ s ≤ 99999) → ∃ rest, (tk n l s ++ rest).Perm l
  | 0, l, _, _, _ => ⟨l, .refl _⟩
  | n + 1, l, s, hn, hs => by
    obtain ⟨a, ha, hal⟩ := at_bd (l := l) (by omega) hs.1
    have hlen : (l.take a ++ l.drop (a + 1)).length = l.length - 1 := by rw [List.length_append, List.length_take, List.length_drop]; omega
    obtain ⟨rest, h⟩ := tk_perm n (l.take a ++ l.drop (a + 1)) (nxt s) (by omega) (nxt_bd hs)
    refine ⟨rest, ?_⟩
    unfold tk
    rw [ha, Int.toNat_natCast, List.cons_append]
    refine (List.Perm.cons _ h).trans ?_
    have e : l = l.take a ++ l.getD a default :: l.drop (a + 1) := by
      rw [getD_el hal, List.getElem_cons_drop, List.take_append_drop]
    conv => rhs; rw [e]
    exact List.perm_middle.symm

theorem takenLoopI (l0 : List Int) (n : Nat) (s0 : Int) (hn : n ≤ l0.length) (hl : l0.length ≤ 1000) (hs : 0 ≤ s0 ∧ s0 ≤ 99999) : T (iterO (M.impl_taken_l0 (n : Int)) (s0, l0, ([] : List Int), (0 : Int))) (fun r => r.2 = tk n l0 s0) := by
  refine T_iter (fun s => ∃ k : Nat, s.2.2.2 = (k : Int) ∧ k ≤ n ∧ s.2.1.length + k = l0.length ∧ s.2.2.1.length = k ∧ s.2.2.1 ++ tk (n - k) s.2.1 s.1 = tk n l0 s0 ∧ 0 ≤ s.1 ∧ s.1 ≤ 99999) (fun s => n - s.2.2.2.toNat) _ ⟨0, rfl, by omega, by simp, rfl, rfl, hs.1, hs.2⟩ (by simp only; omega) ?_
  rintro ⟨seed, left, out, _⟩ ⟨k, rfl, h1, h2, h3, h4, h5, h6⟩
  simp only at h2 h3 h4 h5 h6
  unfold M.impl_taken_l0
  dsimp only
  refine T_if (fun hq => ?_) (fun hq => ?_)
  · simp only [decide_eq_true_eq] at hq
    obtain ⟨a, ha, hal⟩ := at_bd (l := left) (by omega) h5
    have hd := delAtI left a hal (by omega)
    have hnx : M.impl_nextSeed seed = some (nxt seed) := rfl
    rw [ha]
    refine T_ask (by omega) (T_ask ⟨by omega, by omega⟩ (T_ask (by rw [List.length_singleton]; omega) ?_))
    rw [wrap64_id (n := (a : Int) + 1) (by omega) (by omega), hd, Option.bind_some, hnx, Option.bind_some, Int.toNat_natCast, wrap64_id (n := (k : Int) + 1) (by omega) (by omega)]
    refine T_ret ⟨⟨k + 1, rfl, by omega, ?_, by rw [List.length_append, h3]; rfl, ?_, nxt_bd ⟨h5, h6⟩⟩, by simp only; omega⟩
    · simp only
      rw [List.length_append, List.length_take, List.length_drop]; omega
    · obtain ⟨m, hm⟩ : ∃ m, n - k = m + 1 := ⟨n - k - 1, by omega⟩
      rw [hm] at h4
      rw [tk_s, ha, Int.toNat_natCast] at h4
      simp only
      rw [show n - (k + 1) = m by omega, List.append_assoc]
      exact h4
  · simp only [decide_eq_false_iff_not] at hq
    have : n - k = 0 := by omega
    rw [this] at h4
    rw [tk_z, List.append_nil] at h4
    exact T_ret h4

theorem takeLoopS (l0 : List Int) (n : Nat) (s0 : Int) (hn : n ≤ l0.length) (hl : l0.length ≤ 1000) (hs : 0 ≤ s0 ∧ s0 ≤ 99999) : T (iterO (M.spec_l12Take_l0 (n : Int)) (s0, l0, ([] : List Int), (0 : Int))) (fun r => r.2 = tk n l0 s0) := by
  refine T_iter (fun s => ∃ k : Nat, s.2.2.2 = (k : Int) ∧ k ≤ n ∧ s.2.1.length + k = l0.length ∧ s.2.2.1.length = k ∧ s.2.2.1 ++ tk (n - k) s.2.1 s.1 = tk n l0 s0 ∧ 0 ≤ s.1 ∧ s.1 ≤ 99999) (fun s => n - s.2.2.2.toNat) _ ⟨0, rfl, by omega, by simp, rfl, rfl, hs.1, hs.2⟩ (by simp only; omega) ?_
  rintro ⟨seed, left, out, _⟩ ⟨k, rfl, h1, h2, h3, h4, h5, h6⟩
  simp only at h2 h3 h4 h5 h6
  unfold M.spec_l12Take_l0
  dsimp only
  refine T_if (fun hq => ?_) (fun hq => ?_)
  · simp only [decide_eq_true_eq] at hq
    obtain ⟨a, ha, hal⟩ := at_bd (l := left) (by omega) h5
    have hnx : M.spec_l12Next seed = some (nxt seed) := rfl
    have e1 := (slc_take (l := left) (k := a) (by omega)).1
    have e2 := (slc_take (l := left) (k := a + 1) (by omega)).2
    rw [cast_succ] at e2
    rw [ha]
    refine T_ask (by omega) (T_ask ⟨by omega, by omega⟩ (T_ask (by rw [List.length_singleton]; omega) (T_ask ⟨by omega, by omega, by omega⟩ ?_)))
    unfold M.spec_l1Own
    rw [e1, List.nil_append, T_bind]
    refine T_ask (by simp only [List.length_nil, List.length_take]; omega) (T_ret ?_)
    rw [wrap64_id (n := (a : Int) + 1) (by omega) (by omega), e2]
    refine T_ask ⟨by omega, by omega, by omega⟩ (T_ask (by simp only [List.length_take, List.length_drop]; omega) ?_)
    rw [hnx, Option.bind_some, Int.toNat_natCast, wrap64_id (n := (k : Int) + 1) (by omega) (by omega)]
    refine T_ret ⟨⟨k + 1, rfl, by omega, ?_, by rw [List.length_append, h3]; rfl, ?_, nxt_bd ⟨h5, h6⟩⟩, by simp only; omega⟩
    · simp only
      rw [List.length_append, List.length_take, List.length_drop]; omega
    · obtain ⟨m, hm⟩ : ∃ m, n - k = m + 1 := ⟨n - k - 1, by omega⟩
      rw [hm] at h4
      rw [tk_s, ha, Int.toNat_natCast] at h4
      simp only
      rw [show n - (k + 1) = m by omega, List.append_assoc]
      exact h4
  · simp only [decide_eq_false_iff_not] at hq
    have : n - k = 0 := by omega
    rw [this] at h4
    rw [tk_z, List.append_nil] at h4
    exact T_ret h4

def askOk (l : List Int) (n s : Int) : Bool := (popOk l && inR n 0 (l.length : Int)) && inR s 0 99999
theorem askOk_spec {l : List Int} {n s : Int} (h : askOk l n s = true) : popOk l = true ∧ (0 ≤ n ∧ n.toNat ≤ l.length ∧ (n.toNat : Int) = n) ∧ (0 ≤ s ∧ s ≤ 99999) := by
  unfold askOk at h
  simp only [Bool.and_eq_true, inR_true] at h
  exact ⟨h.1.1, by omega, h.2⟩
def OrdD (l : List Int) (n s : Int) : List Int × Bool := bif askOk l n s then (tk n.toNat l s, true) else ([], false)

theorem takeS' (l : List Int) (n s : Int) (h : askOk l n s = true) : ∃ z, M.spec_l12Take l n s = some (tk n.toNat l s, z) := by
  obtain ⟨h1, h2, h3⟩ := askOk_spec h
  have h4 := (popOk_spec h1).1
  unfold M.spec_l12Take M.spec_l1Own
  rw [asrt_pos (by simp; omega), Option.bind_some, List.nil_append]
  obtain ⟨r, e1, e2⟩ := takeLoopS l n.toNat s h2.2.1 (by omega) h3
  rw [h2.2.2] at e1
  rw [e1, Option.bind_some]
  exact ⟨r.1, by rw [← e2]⟩
/-! ### Sorted samples -/
theorem tk_nodup {l : List Int} {n s : Int} (h : askOk l n s = true) : (tk n.toNat l s).Nodup ∧ ∀ x ∈ tk n.toNat l s, x ∈ l := by
  obtain ⟨h1, h2, h3⟩ := askOk_spec h
  obtain ⟨rest, hp⟩ := tk_perm n.toNat l s h2.2.1 h3
  have hn : l.Nodup := (popOk_spec h1).2.1.imp (fun g => by omega)
  have := hp.symm.nodup_iff.1 hn
  exact ⟨(List.nodup_append.1 this).1, fun x hx => hp.mem_iff.1 (List.mem_append_left _ hx)⟩
theorem sortL_mem {l : List Int} {x : Int} : x ∈ sortL l ↔ x ∈ l := (List.mergeSort_perm l _).mem_iff
theorem sortL_strict {l : List Int} (h : l.Nodup) : (sortL l).Pairwise (· < ·) := by
  have h1 : (sortL l).Pairwise (fun a b => decide (a ≤ b) = true) := List.pairwise_mergeSort (le := fun x y : Int => decide (x ≤ y)) (fun a b c g1 g2 => by simp only [decide_eq_true_eq] at *; omega) (fun a b => by simp only [Bool.or_eq_true, decide_eq_true_eq]; omega) l
  have h2 : (sortL l).Nodup := (List.mergeSort_perm l _).symm.nodup_iff.1 h
  have h3 := h1.and h2
  exact h3.imp (fun {a b} g => by
    have g1 := g.1
    have g2 : a ≠ b := g.2
    simp only [decide_eq_true_eq] at g1
    omega)

theorem sortedS (l : List Int) (hn : l.Nodup) (hl : l.length < 1000) : M.spec_l12Sorted l = some (sortL l) := by
  apply T.eq
  unfold M.spec_l12Sorted
  refine T.then (Q := fun r => r.Pairwise (· < ·) ∧ ∀ x, x ∈ r ↔ x ∈ l) (T_iter (fun s => ∃ k : Nat, s.2 = (k : Int) ∧ k ≤ l.length ∧ s.1.Pairwise (· < ·) ∧ (∀ x, x ∈ s.1 ↔ x ∈ l.take k) ∧ s.1.length = k) (fun s => l.length - s.2.toNat) _ ⟨0, rfl, by omega, List.Pairwise.nil, by simp, rfl⟩ (by simp only; omega) ?_) ?_
  · rintro ⟨out, _⟩ ⟨k, rfl, h1, h2, h3, h4⟩
    simp only at h2 h3 h4
    unfold M.spec_l12Sorted_l0
    dsimp only
    refine T_if (fun hq => ?_) (fun hq => ?_)
    · simp only [decide_eq_true_eq] at hq
      have hk : k < l.length := by omega
      have hno : l.getD k default ∉ out := by
        intro hx
        rw [h3, getD_el hk] at hx
        obtain ⟨j, hj, e⟩ := List.getElem_of_mem hx
        rw [List.getElem_take] at e
        rw [List.length_take] at hj
        exact (List.pairwise_iff_getElem.1 hn) j k (by omega) hk (by omega) e
      obtain ⟨m', e1, e2, e3, e4⟩ := putInt out (l.getD k default) h2 hno (by omega)
      rw [Int.toNat_natCast]
      refine T_ask ⟨by omega, by omega⟩ ?_
      rw [e1, Option.bind_some, wrap64_id (by omega) (by omega)]
      refine T_ret ⟨⟨k + 1, rfl, by omega, e2, fun x => ?_, by simp only; omega⟩, by simp only; omega⟩
      simp only
      rw [e3, h3, take_succ_getD hk, List.mem_append, List.mem_singleton]
      exact Or.comm
    · simp only [decide_eq_false_iff_not] at hq
      have : k = l.length := by omega
      rw [this, List.take_length] at h3
      exact T_ret ⟨h2, h3⟩
  · rintro r ⟨h1, h2⟩
    exact T_ret (strict_ext h1 (sortL_strict hn) (fun y => by rw [h2, sortL_mem]))

def SmpD (l : List Int) (n s : Int) : List Int × Bool := bif askOk l n s then (sortL (tk n.toNat l s), true) else ([], false)
theorem SmpD_len {l : List Int} {n s : Int} : (SmpD l n s).1.length < 1000000 := by
  unfold SmpD
  cases h : askOk l n s
  · simp
  · obtain ⟨h1, h2, h3⟩ := askOk_spec h
    have h4 := (popOk_spec h1).1
    simp only [cond_true, sortL_len, tk_len]; omega
theorem OrdD_len {l : List Int} {n s : Int} : (OrdD l n s).1.length < 1000000 := by
  unfold OrdD
  cases h : askOk l n s
  · simp
  · obtain ⟨h1, h2, h3⟩ := askOk_spec h
    have h4 := (popOk_spec h1).1
    simp only [cond_true, tk_len]; omega
/-- A sample is a population of its own. -/
theorem smp_pop {l : List Int} {n s : Int} (h : askOk l n s = true) : popOk (sortL (tk n.toNat l s)) = true := by
  obtain ⟨h1, h2, h3⟩ := askOk_spec h
  obtain ⟨g1, g2, g3⟩ := popOk_spec h1
  obtain ⟨t1, t2⟩ := tk_nodup h
  exact popOk_mk (by rw [sortL_len, tk_len]; omega) (sortL_strict t1) (fun x hx => g3 x (t2 x (sortL_mem.1 hx)))
end Go.Proofs.Yteocnbeefedbkaa
