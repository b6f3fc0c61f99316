/-
  The plain law of 'seals': broken seals, suspects, days held. Plain.
-/
import Derived.Test.YtpmjemddofcmaaaCw
set_option linter.unusedSimpArgs false
set_option linter.unusedVariables false
namespace Go.Proofs.Ytpmjemddofcmaaa
open Go.VS

/-! ### slices.DeleteFunc -/
theorem take_setB {β : Type} [Inhabited β] {l : List β} {k : Nat} {v : β} (h : k < l.length) : (l.set k v).take (k + 1) = l.take k ++ [v] := by
  rw [take_succ_getD (by simpa using h), List.take_set_of_le (Nat.le_refl k)]
  congr 1
  simp [List.getD, h]
theorem getD_setB {β : Type} [Inhabited β] {l : List β} {k j : Nat} {v : β} (hk : k < l.length) : (l.set k v).getD j default = if k = j then v else l.getD j default := by
  simp only [List.getD, List.getElem?_set]
  by_cases e : k = j
  · subst e; simp [hk]
  · simp [e]

theorem delI (s : List (List Int)) (p : List Int → Bool) (fm : List Int → Option Bool) (hfm : ∀ x ∈ s, fm x = some (p x)) (hl : s.length < 1000000) : M.slices_DeleteFunc_int_int s fm = some (s.filter fun x => !p x) := by
  unfold M.slices_DeleteFunc_int_int M.slices_IndexFunc_int_int
  rcases iter_find (step := M.slices_IndexFunc_int_int_l0 s fm) (s := 0) (fun k => (k : Int)) s.length (fun k => p (s.getD k default)) (fun k => .inr (k : Int)) (.inl ()) rfl (by omega)
    (fun k hk hp => by
      have := hfm _ (getD_mem hk)
      unfold M.slices_IndexFunc_int_int_l0
      simp (disch := first | omega | (intros; simp only [decide_eq_true_eq, decide_eq_false_iff_not, Bool.not_eq_true, Bool.not_eq_false, Bool.not_true, Bool.not_false] at *; omega)) only [cast_succ, asrt_pos, wrap64_id, Option.bind_some, cond_true, cond_false, decide_eq_true, decide_eq_false, Int.toNat_natCast, Bool.not_true, Bool.not_false, Bool.and_true, Bool.true_and, Bool.and_false, Bool.false_and, Bool.or_true, Bool.true_or, Bool.or_false, Bool.false_or, this, hp])
    (fun k hk hp => by
      have := hfm _ (getD_mem hk)
      unfold M.slices_IndexFunc_int_int_l0
      simp (disch := first | omega | (intros; simp only [decide_eq_true_eq, decide_eq_false_iff_not, Bool.not_eq_true, Bool.not_eq_false, Bool.not_true, Bool.not_false] at *; omega)) only [cast_succ, asrt_pos, wrap64_id, Option.bind_some, cond_true, cond_false, decide_eq_true, decide_eq_false, Int.toNat_natCast, Bool.not_true, Bool.not_false, Bool.and_true, Bool.true_and, Bool.and_false, Bool.false_and, Bool.or_true, Bool.true_or, Bool.or_false, Bool.false_or, this, hp])
    (by
      unfold M.slices_IndexFunc_int_int_l0
      simp (disch := first | omega | (intros; simp only [decide_eq_true_eq, decide_eq_false_iff_not, Bool.not_eq_true, Bool.not_eq_false, Bool.not_true, Bool.not_false] at *; omega)) only [cast_succ, asrt_pos, wrap64_id, Option.bind_some, cond_true, cond_false, decide_eq_true, decide_eq_false, Int.toNat_natCast, Bool.not_true, Bool.not_false, Bool.and_true, Bool.true_and, Bool.and_false, Bool.false_and, Bool.or_true, Bool.true_or, Bool.or_false, Bool.false_or]) with ⟨k, h1, h2, h3, h4⟩ | ⟨h1, h2⟩
  · rw [h4, Option.bind_some]
    try dsimp only
    rw [Option.bind_some, show (((k : Nat) : Int) == -1) = false by rw [beq_eq_false_iff_ne]; omega, cond_false, wrap64_id (by omega) (by omega)]
    apply T.eq
    have hpre : (s.take (k + 1)).filter (fun x => !p x) = s.take k := by
      rw [take_succ_getD h1, List.filter_append]
      have e1 : (s.take k).filter (fun x => !p x) = s.take k := by
        rw [List.filter_eq_self]
        intro x hx
        obtain ⟨j, hj, rfl⟩ := List.getElem_of_mem hx
        rw [List.length_take] at hj
        rw [List.getElem_take]
        have := h3 j (by omega)
        simp only [List.getD, List.getElem?_eq_getElem (show j < s.length by omega), Option.getD_some] at this
        rw [this]; rfl
      rw [e1, List.filter_cons, h2]
      simp
    refine T.then (Q := fun e => ∃ m : Nat, e.2 = (m : Int) ∧ m ≤ s.length ∧ e.1.length = s.length ∧ e.1.take m = s.filter (fun x => !p x)) (T_iter (fun q => ∃ (m j : Nat), q.2.1 = (m : Int) ∧ q.2.2 = (j : Int) ∧ m < j ∧ j ≤ s.length ∧ q.1.length = s.length ∧ q.1.take m = (s.take j).filter (fun x => !p x) ∧ ∀ i, j ≤ i → q.1.getD i default = s.getD i default) (fun q => s.length - q.2.2.toNat) _
      ⟨k, k + 1, rfl, by show ((k : Int) + 1) = ((k + 1 : Nat) : Int); omega, by omega, by omega, rfl, hpre.symm, fun i _ => rfl⟩ (by simp only; omega) ?_) ?_
    · rintro ⟨s1, _, _⟩ ⟨m, j, rfl, rfl, g1, g2, g4, g5, g6⟩
      simp only at g4 g5 g6
      unfold M.slices_DeleteFunc_int_int_l0
      try dsimp only
      refine T_if (fun hq => ?_) (fun hq => ?_)
      · simp only [decide_eq_true_eq] at hq
        have hj : j < s.length := by omega
        have hdd : (s.take (j + 1)).filter (fun x => !p x) = (s.take j).filter (fun x => !p x) ++ (if p (s.getD j default) = true then [] else [s.getD j default]) := by
          rw [take_succ_getD hj, List.filter_append]
          congr 1
          rw [List.filter_cons]
          cases p (s.getD j default) <;> rfl
        rw [Int.toNat_natCast, Int.toNat_natCast, g6 j (Nat.le_refl _), hfm _ (getD_mem hj)]
        refine T_in (T_ask ⟨by omega, by omega⟩ ?_)
        rw [Option.bind_some]
        cases hp : p (s.getD j default)
        · rw [hp, if_neg (by simp)] at hdd
          simp only [Bool.not_false, cond_true]
          refine T_ask ⟨by omega, by omega⟩ (T_ret (T_ret ?_))
          simp only
          rw [wrap64_id (n := (m : Int) + 1) (by omega) (by omega), wrap64_id (n := (j : Int) + 1) (by omega) (by omega)]
          refine ⟨⟨m + 1, j + 1, by omega, by omega, by omega, by omega, by simpa using g4, ?_, fun i hi => ?_⟩, by omega⟩
          · rw [take_setB (by omega), g5, hdd]
          · rw [getD_setB (by omega), if_neg (by omega)]
            exact g6 i (by omega)
        · rw [hp, if_pos rfl, List.append_nil] at hdd
          simp only [Bool.not_true, cond_false]
          refine T_ret (T_ret ?_)
          simp only
          rw [wrap64_id (n := (j : Int) + 1) (by omega) (by omega)]
          exact ⟨⟨m, j + 1, rfl, by omega, by omega, by omega, g4, by rw [g5, hdd], fun i hi => g6 i (by omega)⟩, by omega⟩
      · simp only [decide_eq_false_iff_not] at hq
        have : j = s.length := by omega
        rw [this, List.take_length] at g5
        exact T_ret ⟨m, rfl, by omega, g4, g5⟩
    · rintro ⟨s0, _⟩ ⟨m, rfl, g1, g2, g3⟩
      simp only at g1 g2 g3
      try dsimp only
      simp only [Int.toNat_natCast, Nat.zero_add]
      refine T_ask ⟨by omega, by omega, by omega⟩ (T_ask (by omega) (T_ask ⟨by omega, by omega, by simp; omega⟩ (T_ask (by simp; omega) (T_ret ?_))))
      rw [show m - Int.toNat 0 = m from rfl, List.append_assoc, List.take_append_of_le_length (by rw [List.length_take]; omega), List.take_take, Nat.min_self, g3]
  · rw [h2]
    have : s.filter (fun x => !p x) = s := by
      rw [List.filter_eq_self]
      intro x hx
      obtain ⟨j, hj, rfl⟩ := List.getElem_of_mem hx
      have := h1 j hj
      simp only [List.getD, List.getElem?_eq_getElem hj, Option.getD_some] at this
      rw [this]; rfl
    rw [this]
    rfl

/-! ### Broken seals -/
def sealP (l : List Hand) (p : Nat × Nat) : Bool := (l.getD p.1 default).Seal
noncomputable def BrkD (l : List Hand) : List (List Int) × Bool := bif custOk l then (((prs l).filter (sealP l)).map encP, true) else ([], false)

theorem filter_map' {β γ : Type} (f : β → γ) (q : γ → Bool) (l : List β) : (l.map f).filter q = (l.filter (fun x => q (f x))).map f := by
  induction l with
  | nil => rfl
  | cons x t ih => simp only [List.map_cons, List.filter_cons, ih]; split <;> rfl

theorem brkI (l : List Hand) (hl : l.length ≤ 1048576) : M.impl_BrokenSeals l = some (BrkD l) := by
  unfold M.impl_BrokenSeals BrkD
  rw [custI l (by omega), Option.bind_some]
  cases h1 : custOk l
  · rfl
  have h12 := (custOk_spec h1).2
  have hpl := prs_len (l := l)
  simp only [Bool.not_true, cond_false, cond_true, diffI l h12, Option.bind_some]
  rw [delI _ (fun x => !(l.getD (x.getD 0 default).toNat default).Seal) _ (fun x hx => by
    obtain ⟨p, hp, rfl⟩ := List.mem_map.1 hx
    obtain ⟨g1, g2⟩ := prs_mem hp
    have g3 := g2.1
    unfold M.impl_BrokenSeals_1
    have e1 : (encP p).getD (Int.toNat 0) default = (p.1 : Int) := rfl
    rw [asrt_pos ⟨by omega, by simp [encP]⟩, e1, asrt_pos ⟨by omega, by omega⟩]
    rfl) (by rw [List.length_map]; omega), Option.bind_some, filter_map']
  congr 3
  apply List.filter_congr
  intro p hp
  simp only [Bool.not_not]
  rfl

theorem brkS (l : List Hand) (hl : l.length ≤ 1048576) : M.spec_BrokenSeals l = some (BrkD l) := by
  unfold M.spec_BrokenSeals BrkD
  rw [custS l (by omega), Option.bind_some]
  cases h1 : custOk l
  · rfl
  have h12 := (custOk_spec h1).2
  have hpl := prs_len (l := l)
  simp only [Bool.not_true, cond_false, cond_true, turnsS l h12, Option.bind_some]
  rw [iter_coll (s := (([] : List (List Int)), (0 : Int))) (step := M.spec_BrokenSeals_l0 l ((prs l).map encP)) (fun a k => (a, (k : Int))) (fun p : Nat × Nat => bif sealP l p then [encP p] else []) id (prs l) rfl (by omega) (fun k _ => if_len _ _) (fun a k hk ha => by
    have ew : IntKind.i64.wrap ((k : Int) + 1) = ((k + 1 : Nat) : Int) := by rw [wrap64_id (by omega) (by omega)]; omega
    obtain ⟨g1, g2⟩ := prs_mem (getD_mem hk)
    have g3 := g2.1
    have e1 : (encP ((prs l).getD k default)).getD (Int.toNat 0) default = (((prs l).getD k default).1 : Int) := rfl
    apply T.eq
    unfold M.spec_BrokenSeals_l0
    try dsimp only
    rw [List.length_map, Int.toNat_natCast, prs_getD hk, ew, e1, Int.toNat_natCast]
    refine T_if (fun _ => ?_) (fun hq => by simp only [decide_eq_false_iff_not] at hq; omega)
    refine T_in (T_ask ⟨by omega, by omega⟩ (T_ask ⟨by omega, by simp [encP]⟩ (T_ask ⟨by omega, by omega⟩ ?_)))
    have hs : sealP l ((prs l).getD k default) = (l.getD ((prs l).getD k default).1 default).Seal := rfl
    rw [hs]
    cases (l.getD ((prs l).getD k default).1 default).Seal
    · rw [cond_false, cond_false, List.append_nil]
      exact T_ret (T_ret rfl)
    · rw [cond_true, cond_true]
      exact T_ask ⟨by omega, by omega⟩ (T_ask (by simp; omega) (T_ret (T_ret rfl)))) (fun a ha => by
    unfold M.spec_BrokenSeals_l0
    try dsimp only
    rw [List.length_map, decide_eq_false (by omega), cond_false]
    rfl), Option.bind_some]
  simp only [id, flatMap_if]

/-! ### Days held -/
/-- The next hand of record r from i on. -/
def nextAt (l : List Hand) (r : Int) : Nat → Nat → Option Nat
  | 0, _ => none
  | d + 1, i => if rcd l i = r then some i else nextAt l r d (i + 1)
def nxt (l : List Hand) (r : Int) (i : Nat) : Option Nat := nextAt l r (l.length - i) i
theorem nextAt_spec (l : List Hand) (r : Int) : ∀ d i, i + d = l.length → (nextAt l r d i = none ∧ ∀ j, i ≤ j → j < l.length → rcd l j ≠ r) ∨ ∃ m, nextAt l r d i = some m ∧ i ≤ m ∧ m < l.length ∧ rcd l m = r ∧ ∀ j, i ≤ j → j < m → rcd l j ≠ r
  | 0, i, h => .inl ⟨rfl, fun j h1 h2 => absurd h1 (by omega)⟩
  | d + 1, i, h => by
    unfold nextAt
    by_cases e : rcd l i = r
    · rw [if_pos e]
      exact .inr ⟨i, rfl, Nat.le_refl _, by omega, e, fun j h1 h2 => absurd h1 (by omega)⟩
    · rw [if_neg e]
      rcases nextAt_spec l r d (i + 1) (by omega) with ⟨h1, h2⟩ | ⟨m, h1, h2, h3, h4, h5⟩
      · refine .inl ⟨h1, fun j g1 g2 => ?_⟩
        by_cases q : j = i
        · subst q; exact e
        · exact h2 j (by omega) g2
      · refine .inr ⟨m, h1, by omega, h3, h4, fun j g1 g2 => ?_⟩
        by_cases q : j = i
        · subst q; exact e
        · exact h5 j (by omega) g2
theorem nxt_spec (l : List Hand) (r : Int) (i : Nat) (hi : i ≤ l.length) : (nxt l r i = none ∧ ∀ j, i ≤ j → j < l.length → rcd l j ≠ r) ∨ ∃ m, nxt l r i = some m ∧ i ≤ m ∧ m < l.length ∧ rcd l m = r ∧ ∀ j, i ≤ j → j < m → rcd l j ≠ r :=
  nextAt_spec l r (l.length - i) i (by omega)
theorem nxt_step {l : List Hand} {r : Int} {i : Nat} (hi : i < l.length) : nxt l r i = if rcd l i = r then some i else nxt l r (i + 1) := by
  unfold nxt
  rw [show l.length - i = (l.length - (i + 1)) + 1 by omega]
  rfl

def endOfD (l : List Hand) (r d : Int) (i : Nat) : Int := match nxt l r (i + 1) with | some k => min d (l.getD k default).Day | none => d
def contr (l : List Hand) (r d : Int) (i : Nat) : Int := if rcd l i = r ∧ (l.getD i default).Day ≤ d then endOfD l r d i - (l.getD i default).Day else 0
def contrW (l : List Hand) (r w d : Int) (i : Nat) : Int := if (l.getD i default).To = w then contr l r d i else 0
def sumN (f : Nat → Int) : Nat → Int
  | 0 => 0
  | n + 1 => sumN f n + f n
theorem sumN_add (f g : Nat → Int) : ∀ n, sumN (fun i => f i + g i) n = sumN f n + sumN g n
  | 0 => rfl
  | n + 1 => by simp only [sumN, sumN_add f g n]; omega
theorem sumN_zero : ∀ n, sumN (fun _ => 0) n = 0
  | 0 => rfl
  | n + 1 => by simp only [sumN, sumN_zero n]; rfl
theorem sumN_swap (f : Nat → Nat → Int) (m : Nat) : ∀ n, sumN (fun w => sumN (f w) n) m = sumN (fun j => sumN (fun w => f w j) m) n
  | 0 => by simp only [sumN]; exact sumN_zero m
  | n + 1 => by
    simp only [sumN]
    rw [sumN_add (fun w => sumN (f w) n) (fun w => f w n) m, sumN_swap f m n]
theorem sumN_one (a : Int) (c : Int) : ∀ m : Nat, sumN (fun w : Nat => if a = (w : Int) + 1 then c else 0) m = if 1 ≤ a ∧ a ≤ (m : Int) then c else 0
  | 0 => by simp only [sumN]; rw [if_neg (by omega)]
  | m + 1 => by
    simp only [sumN]
    rw [sumN_one a c m]
    by_cases h : a = (m : Int) + 1
    · rw [if_neg (by omega), if_pos h, if_pos (by omega)]; omega
    · by_cases h2 : 1 ≤ a ∧ a ≤ (m : Int)
      · rw [if_pos h2, if_neg h, if_pos (by omega)]; omega
      · rw [if_neg h2, if_neg h, if_neg (by omega)]; rfl
theorem sumN_bd (f : Nat → Int) (B : Int) : ∀ n : Nat, (∀ i, i < n → 0 ≤ f i ∧ f i ≤ B) → 0 ≤ B → 0 ≤ sumN f n ∧ sumN f n ≤ n * B
  | 0, _, hB => by simp [sumN]
  | n + 1, h, hB => by
    have h1 := sumN_bd f B n (fun i hi => h i (by omega)) hB
    have h2 := h n (by omega)
    simp only [sumN]
    have e : ((n + 1 : Nat) : Int) * B = n * B + B := by rw [Int.natCast_add, Int.add_mul]; simp
    rw [e]
    omega
theorem sumN_congr {f g : Nat → Int} : ∀ n : Nat, (∀ i, i < n → f i = g i) → sumN f n = sumN g n
  | 0, _ => rfl
  | n + 1, h => by simp only [sumN]; rw [sumN_congr n (fun i hi => h i (by omega)), h n (by omega)]

theorem days_mono {l : List Hand} (hf : Fine l) : ∀ {i k : Nat}, i ≤ k → k < l.length → (l.getD i default).Day ≤ (l.getD k default).Day := by
  intro i k
  induction k with
  | zero => intro h1 h2; obtain rfl : i = 0 := (by omega); exact Int.le_refl _
  | succ k ih =>
    intro h1 h2
    have h3 := (hf.1 (k + 1) h2).2 (by omega)
    rw [Nat.add_sub_cancel] at h3
    by_cases e : i = k + 1
    · subst e; exact Int.le_refl _
    · have := ih (by omega) (by omega); omega

theorem contr_bd {l : List Hand} {r d : Int} (hc : custOk l = true) (hd : 0 ≤ d ∧ d ≤ 20000) {i : Nat} (hi : i < l.length) : 0 ≤ contr l r d i ∧ contr l r d i ≤ 20000 := by
  obtain ⟨hf, _⟩ := custOk_spec hc
  have hday := (handOk_spec ((hf.1 i hi).1)).2.2.2.2.1
  unfold contr
  split
  · rename_i h
    unfold endOfD
    rcases nxt_spec l r (i + 1) (by omega) with ⟨e, _⟩ | ⟨m, e, g1, g2, _⟩
    · rw [e]; simp only; omega
    · rw [e]
      have := days_mono hf (i := i) (k := m) (by omega) g2
      simp only; omega
  · omega
theorem contrW_bd {l : List Hand} {r w d : Int} (hc : custOk l = true) (hd : 0 ≤ d ∧ d ≤ 20000) {i : Nat} (hi : i < l.length) : 0 ≤ contrW l r w d i ∧ contrW l r w d i ≤ 20000 := by
  have := contr_bd (r := r) hc hd hi
  unfold contrW
  split <;> omega

/-- From the first hand on, the days add up. -/
theorem telescope {l : List Hand} {r d : Int} (hc : custOk l = true) : ∀ (q i : Nat), i + q = l.length → sumN (contr l r d) l.length - sumN (contr l r d) i = match nxt l r i with | some k => if (l.getD k default).Day ≤ d then d - (l.getD k default).Day else 0 | none => 0
  | 0, i, h => by
    obtain rfl : i = l.length := by omega
    unfold nxt
    rw [Nat.sub_self]
    simp only [nextAt]
    omega
  | q + 1, i, h => by
    obtain ⟨hf, _⟩ := custOk_spec hc
    have ih := telescope hc q (i + 1) (by omega) (r := r) (d := d)
    have hi : i < l.length := by omega
    simp only [sumN] at ih
    rw [nxt_step hi]
    by_cases e : rcd l i = r
    · rw [if_pos e]
      simp only
      by_cases g : (l.getD i default).Day ≤ d
      · rw [if_pos g]
        have hcn : contr l r d i = endOfD l r d i - (l.getD i default).Day := by unfold contr; rw [if_pos ⟨e, g⟩]
        unfold endOfD at hcn
        rcases nxt_spec l r (i + 1) (by omega) with ⟨e2, _⟩ | ⟨m, e2, g1, g2, _⟩
        · rw [e2] at ih hcn
          simp only at ih hcn
          omega
        · rw [e2] at ih hcn
          simp only at ih hcn
          split at ih <;> omega
      · rw [if_neg g]
        have hcn : contr l r d i = 0 := by unfold contr; rw [if_neg (fun h => g h.2)]
        rcases nxt_spec l r (i + 1) (by omega) with ⟨e2, _⟩ | ⟨m, e2, g1, g2, _⟩
        · rw [e2] at ih
          simp only at ih
          omega
        · rw [e2] at ih
          have := days_mono hf (i := i) (k := m) (by omega) g2
          simp only at ih
          rw [if_neg (by omega)] at ih
          omega
    · rw [if_neg e]
      have hcn : contr l r d i = 0 := by unfold contr; rw [if_neg (fun h => e h.1)]
      omega

noncomputable def DaysD (l : List Hand) (r w d : Int) : Int × Bool := bif ((custOk l && inR r 1 999) && inR w 1 20) && inR d 0 20000 then (sumN (contrW l r w d) l.length, true) else (0, false)

theorem skipB {l : List Hand} {r w d : Int} {i : Nat} : ((((l.getD i default).Record != r) || ((l.getD i default).To != w)) || decide ((l.getD i default).Day > d)) = true → contrW l r w d i = 0 := by
  intro h
  simp only [Bool.or_eq_true, bne_iff_ne, ne_eq, decide_eq_true_eq] at h
  unfold contrW contr
  rcases h with (h | h) | h
  · split
    · rw [if_neg (fun g => h g.1)]
    · rfl
  · rw [if_neg h]
  · split
    · rw [if_neg (fun g => by have := g.2; omega)]
    · rfl
theorem keepB {l : List Hand} {r w d : Int} {i : Nat} : ((((l.getD i default).Record != r) || ((l.getD i default).To != w)) || decide ((l.getD i default).Day > d)) = false → contrW l r w d i = endOfD l r d i - (l.getD i default).Day ∧ rcd l i = r ∧ (l.getD i default).Day ≤ d := by
  intro h
  simp only [Bool.or_eq_false_iff, bne_eq_false_iff_eq, decide_eq_false_iff_not] at h
  obtain ⟨⟨h1, h2⟩, h3⟩ := h
  unfold contrW contr
  rw [if_pos h2, if_pos ⟨h1, by omega⟩]
  exact ⟨rfl, h1, by omega⟩

/-! ### Draws, and the law -/
theorem chain_has (r : Int) (l : List Hand) : ∀ h ∈ l, h.Record = r → h.To ∈ l.foldl (chB r) [] := by
  have key : ∀ (l : List Hand) (a : List Int), (∀ x ∈ a, x ∈ l.foldl (chB r) a) ∧ ∀ h ∈ l, h.Record = r → h.To ∈ l.foldl (chB r) a := by
    intro l
    induction l with
    | nil => intro a; exact ⟨fun x hx => hx, by simp⟩
    | cons y t ih =>
      intro a
      obtain ⟨i1, i2⟩ := ih (chB r a y)
      have hsub : ∀ x ∈ a, x ∈ chB r a y := by
        intro x hx
        unfold chB
        cases y.Record != r
        · cases ((a.length : Int) == 0)
          · simp [hx]
          · simp [hx]
        · exact hx
      refine ⟨fun x hx => i1 x (hsub x hx), fun h hh hr => ?_⟩
      rcases List.mem_cons.1 hh with rfl | hh
      · refine i1 _ ?_
        unfold chB
        rw [show (h.Record != r) = false by rw [bne_eq_false_iff_eq]; exact hr]
        simp
      · exact i2 h hh hr
  exact (key l []).2

end Go.Proofs.Ytpmjemddofcmaaa
