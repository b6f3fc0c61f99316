/-
  The plain law of 'seals': broken seals, suspects, days held. Plain.
-/
import Derived.Test.YtmpknfachmfbaaaCw
set_option linter.unusedSimpArgs false
set_option linter.unusedVariables false
namespace Go.Proofs.Ytmpknfachmfbaaa
open Go.VS

/-! ### slices.DeleteFunc -/
theorem take_setB {β : Type} [Inhabited β] {l : List β} {k : Nat} {v : β} (h : k < l.length) : (l.set k v).take (k + 1) = l.take k ++ [v] := by
  rw [take_succ_getD (by simpa using h), List.take_set_of_le (Nat.le_refl k)]
  congr 1
  simp [List.getD, h]
theorem getD_setB {β : Type} [Inhabited β] {l : List β} {k j : Nat} {v : β} (hk : k < l.length) : (l.set k v).getD j default = if k = j then v else l.getD j default := by
  simp only [List.getD, List.getElem?_set]
  by_cases e : k = j
  · subst e; simp [hk]
  · simp [e]

theorem delI (s : List (List Int)) (p : List Int → Bool) (fm : List Int → Option Bool) (hfm : ∀ x ∈ s, fm x = some (p x)) (hl : s.length < 1000000) : M.slices_DeleteFunc_int_int s fm = some (s.filter fun x => !p x) := by
  unfold M.slices_DeleteFunc_int_int M.slices_IndexFunc_int_int
  rcases iter_find (step := M.slices_IndexFunc_int_int_l0 s fm) (s := 0) (fun k => (k : Int)) s.length (fun k => p (s.getD k default)) (fun k => .inr (k : Int)) (.inl ()) rfl (by omega)
    (fun k hk hp => by
      have := hfm _ (getD_mem hk)
      unfold M.slices_IndexFunc_int_int_l0
      simp (disch := first | omega | (intros; simp only [decide_eq_true_eq, decide_eq_false_iff_not, Bool.not_eq_true, Bool.not_eq_false, Bool.not_true, Bool.not_false] at *; omega)) only [cast_succ, asrt_pos, wrap64_id, Option.bind_some, cond_true, cond_false, decide_eq_true, decide_eq_false, Int.toNat_natCast, Bool.not_true, Bool.not_false, Bool.and_true, Bool.true_and, Bool.and_false, Bool.false_and, Bool.or_true, Bool.true_or, Bool.or_false, Bool.false_or, this, hp])
    (fun k hk hp => by
      have := hfm _ (getD_mem hk)
      unfold M.slices_IndexFunc_int_int_l0
      simp (disch := first | omega | (intros; simp only [decide_eq_true_eq, decide_eq_false_iff_not, Bool.not_eq_true, Bool.not_eq_false, Bool.not_true, Bool.not_false] at *; omega)) only [cast_succ, asrt_pos, wrap64_id, Option.bind_some, cond_true, cond_false, decide_eq_true, decide_eq_false, Int.toNat_natCast, Bool.not_true, Bool.not_false, Bool.and_true, Bool.true_and, Bool.and_false, Bool.false_and, Bool.or_true, Bool.true_or, Bool.or_false, Bool.false_or, this, hp])
    (by
      unfold M.slices_IndexFunc_int_int_l0
      simp (disch := first | omega | (intros; simp only [decide_eq_true_eq, decide_eq_false_iff_not, Bool.not_eq_true, Bool.not_eq_false, Bool.not_true, Bool.not_false] at *; omega)) only [cast_succ, asrt_pos, wrap64_id, Option.bind_some, cond_true, cond_false, decide_eq_true, decide_eq_false, Int.toNat_natCast, Bool.not_true, Bool.not_false, Bool.and_true, Bool.true_and, Bool.and_false, Bool.false_and, Bool.or_true, Bool.true_or, Bool.or_false, Bool.false_or]) with ⟨k, h1, h2, h3, h4⟩ | ⟨h1, h2⟩
  · rw [h4, Option.bind_some]
    try dsimp only
    rw [Option.bind_some, show (((k : Nat) : Int) == -1) = false by rw [beq_eq_false_iff_ne]; omega, cond_false, wrap64_id (by omega) (by omega)]
    apply T.eq
    have hpre : (s.take (k + 1)).filter (fun x => !p x) = s.take k := by
      rw [take_succ_getD h1, List.filter_append]
      have e1 : (s.take k).filter (fun x => !p x) = s.take k := by
        rw [List.filter_eq_self]
        intro x hx
        obtain ⟨j, hj, rfl⟩ := List.getElem_of_mem hx
        rw [List.length_take] at hj
        rw [List.getElem_take]
        have := h3 j (by omega)
        simp only [List.getD, List.getElem?_eq_getElem (show j < s.length by omega), Option.getD_some] at this
        rw [this]; rfl
      rw [e1, List.filter_cons, h2]
      simp
    refine T.then (Q := fun e => ∃ m : Nat, e.2 = (m : Int) ∧ m ≤ s.length ∧ e.1.length = s.length ∧ e.1.take m = s.filter (fun x => !p x)) (T_iter (fun q => ∃ (m j : Nat), q.2.1 = (m : Int) ∧ q.2.2 = (j : Int) ∧ m < j ∧ j ≤ s.length ∧ q.1.length = s.length ∧ q.1.take m = (s.take j).filter (fun x => !p x) ∧ ∀ i, j ≤ i → q.1.getD i default = s.getD i default) (fun q => s.length - q.2.2.toNat) _
      ⟨k, k + 1, rfl, by show ((k : Int) + 1) = ((k + 1 : Nat) : Int); omega, by omega, by omega, rfl, hpre.symm, fun i _ => rfl⟩ (by simp only; omega) ?_) ?_
    · rintro ⟨s1, _, _⟩ ⟨m, j, rfl, rfl, g1, g2, g4, g5, g6⟩
      simp only at g4 g5 g6
      unfold M.slices_DeleteFunc_int_int_l0
      try dsimp only
      refine T_if (fun hq => ?_) (fun hq => ?_)
      · simp only [decide_eq_true_eq] at hq
        have hj : j < s.length := by omega
        have hdd : (s.take (j + 1)).filter (fun x => !p x) = (s.take j).filter (fun x => !p x) ++ (if p (s.getD j default) = true then [] else [s.getD j default]) := by
          rw [take_succ_getD hj, List.filter_append]
          congr 1
          rw [List.filter_cons]
          cases p (s.getD j default) <;> rfl
        rw [Int.toNat_natCast, Int.toNat_natCast, g6 j (Nat.le_refl _), hfm _ (getD_mem hj)]
        refine T_in (T_ask ⟨by omega, by omega⟩ ?_)
        rw [Option.bind_some]
        cases hp : p (s.getD j default)
        · rw [hp, if_neg (by simp)] at hdd
          simp only [Bool.not_false, cond_true]
          refine T_ask ⟨by omega, by omega⟩ (T_ret (T_ret ?_))
          simp only
          rw [wrap64_id (n := (m : Int) + 1) (by omega) (by omega), wrap64_id (n := (j : Int) + 1) (by omega) (by omega)]
          refine ⟨⟨m + 1, j + 1, by omega, by omega, by omega, by omega, by simpa using g4, ?_, fun i hi => ?_⟩, by omega⟩
          · rw [take_setB (by omega), g5, hdd]
          · rw [getD_setB (by omega), if_neg (by omega)]
            exact g6 i (by omega)
        · rw [hp, if_pos rfl, List.append_nil] at hdd
          simp only [Bool.not_true, cond_false]
          refine T_ret (T_ret ?_)
          simp only
          rw [wrap64_id (n := (j : Int) + 1) (by omega) (by omega)]
          exact ⟨⟨m, j + 1, rfl, by omega, by omega, by omega, g4, by rw [g5, hdd], fun i hi => g6 i (by omega)⟩, by omega⟩
      · simp only [decide_eq_false_iff_not] at hq
        have : j = s.length := by omega
        rw [this, List.take_length] at g5
        exact T_ret ⟨m, rfl, by omega, g4, g5⟩
    · rintro ⟨s0, _⟩ ⟨m, rfl, g1, g2, g3⟩
      simp only at g1 g2 g3
      try dsimp only
      simp only [Int.toNat_natCast, Nat.zero_add]
      refine T_ask ⟨by omega, by omega, by omega⟩ (T_ask (by omega) (T_ask ⟨by omega, by omega, by simp; omega⟩ (T_ask (by simp; omega) (T_ret ?_))))
      rw [show m - Int.toNat 0 = m from rfl, List.append_assoc, List.take_append_of_le_length (by rw [List.length_take]; omega), List.take_take, Nat.min_self, g3]
  · rw [h2]
    have : s.filter (fun x => !p x) = s := by
      rw [List.filter_eq_self]
      intro x hx
      obtain ⟨j, hj, rfl⟩ := List.getElem_of_mem hx
      have := h1 j hj
      simp only [List.getD, List.getElem?_eq_getElem hj, Option.getD_some] at this
      rw [this]; rfl
    rw [this]
    rfl

/-! ### Broken seals -/
def sealP (l : List Hand) (p : Nat × Nat) : Bool := (l.getD p.1 default).Seal
noncomputable def BrkD (l : List Hand) : List (List Int) × Bool := bif custOk l then (((prs l).filter (sealP l)).map encP, true) else ([], false)

theorem filter_map' {β γ : Type} (f : β → γ) (q : γ → Bool) (l : List β) : (l.map f).filter q = (l.filter (fun x => q (f x))).map f := by
  induction l with
  | nil => rfl
  | cons x t ih => simp only [List.map_cons, List.filter_cons, ih]; split <;> rfl

theorem brkI (l : List Hand) (hl : l.length ≤ 1000000) : M.impl_BrokenSeals l = some (BrkD l) := by
  unfold M.impl_BrokenSeals BrkD
  rw [custI l (by omega), Option.bind_some]
  cases h1 : custOk l
  · rfl
  have h12 := (custOk_spec h1).2
  have hpl := prs_len (l := l)
  simp only [Bool.not_true, cond_false, cond_true, diffI l h12, Option.bind_some]
  rw [delI _ (fun x => !(l.getD (x.getD 0 default).toNat default).Seal) _ (fun x hx => by
    obtain ⟨p, hp, rfl⟩ := List.mem_map.1 hx
    obtain ⟨g1, g2⟩ := prs_mem hp
    have g3 := g2.1
    unfold M.impl_BrokenSeals_1
    have e1 : (encP p).getD (Int.toNat 0) default = (p.1 : Int) := rfl
    rw [asrt_pos ⟨by omega, by simp [encP]⟩, e1, asrt_pos ⟨by omega, by omega⟩]
    rfl) (by rw [List.length_map]; omega), Option.bind_some, filter_map']
  congr 3
  apply List.filter_congr
  intro p hp
  simp only [Bool.not_not]
  rfl

theorem brkS (l : List Hand) (hl : l.length ≤ 1000000) : M.spec_BrokenSeals l = some (BrkD l) := by
  unfold M.spec_BrokenSeals BrkD
  rw [custS l (by omega), Option.bind_some]
  cases h1 : custOk l
  · rfl
  have h12 := (custOk_spec h1).2
  have hpl := prs_len (l := l)
  simp only [Bool.not_true, cond_false, cond_true, turnsS l h12, Option.bind_some]
  rw [iter_coll (s := (([] : List (List Int)), (0 : Int))) (step := M.spec_BrokenSeals_l0 l ((prs l).map encP)) (fun a k => (a, (k : Int))) (fun p : Nat × Nat => bif sealP l p then [encP p] else []) id (prs l) rfl (by omega) (fun k _ => if_len _ _) (fun a k hk ha => by
    have ew : IntKind.i64.wrap ((k : Int) + 1) = ((k + 1 : Nat) : Int) := by rw [wrap64_id (by omega) (by omega)]; omega
    obtain ⟨g1, g2⟩ := prs_mem (getD_mem hk)
    have g3 := g2.1
    have e1 : (encP ((prs l).getD k default)).getD (Int.toNat 0) default = (((prs l).getD k default).1 : Int) := rfl
    apply T.eq
    unfold M.spec_BrokenSeals_l0
    try dsimp only
    rw [List.length_map, Int.toNat_natCast, prs_getD hk, ew, e1, Int.toNat_natCast]
    refine T_if (fun _ => ?_) (fun hq => by simp only [decide_eq_false_iff_not] at hq; omega)
    refine T_in (T_ask ⟨by omega, by omega⟩ (T_ask ⟨by omega, by simp [encP]⟩ (T_ask ⟨by omega, by omega⟩ ?_)))
    have hs : sealP l ((prs l).getD k default) = (l.getD ((prs l).getD k default).1 default).Seal := rfl
    rw [hs]
    cases (l.getD ((prs l).getD k default).1 default).Seal
    · rw [cond_false, cond_false, List.append_nil]
      exact T_ret (T_ret rfl)
    · rw [cond_true, cond_true]
      exact T_ask ⟨by omega, by omega⟩ (T_ask (by simp; omega) (T_ret (T_ret rfl)))) (fun a ha => by
    unfold M.spec_BrokenSeals_l0
    try dsimp only
    rw [List.length_map, decide_eq_false (by omega), cond_false]
    rfl), Option.bind_some]
  simp only [id, flatMap_if]

theorem rTableS (a : List (List Int)) (hl : a.length < 10000000) (he : ∀ x ∈ a, x.length < 10000000) : M.laws_rTable a a = some true := by
  unfold M.laws_rTable
  simp only [bne_self_eq_false, cond_false]
  rw [iter_up (s := 0) (step := M.laws_rTable_l0 a a) (e := .inl ()) (fun k => (k : Int)) a.length rfl (by omega) (fun k hk => by
    have := rIntsS _ (he _ (getD_mem hk))
    unfold M.laws_rTable_l0
    simp (disch := first | omega | (intros; simp only [decide_eq_true_eq, decide_eq_false_iff_not, Bool.not_eq_true, Bool.not_eq_false, Bool.not_true, Bool.not_false] at *; omega)) only [cast_succ, asrt_pos, wrap64_id, Option.bind_some, cond_true, cond_false, decide_eq_true, decide_eq_false, Int.toNat_natCast, Bool.not_true, Bool.not_false, Bool.and_true, Bool.true_and, Bool.and_false, Bool.false_and, Bool.or_true, Bool.true_or, Bool.or_false, Bool.false_or, this]) (by
    unfold M.laws_rTable_l0
    simp (disch := first | omega | (intros; simp only [decide_eq_true_eq, decide_eq_false_iff_not, Bool.not_eq_true, Bool.not_eq_false, Bool.not_true, Bool.not_false] at *; omega)) only [cast_succ, asrt_pos, wrap64_id, Option.bind_some, cond_true, cond_false, decide_eq_true, decide_eq_false, Int.toNat_natCast, Bool.not_true, Bool.not_false, Bool.and_true, Bool.true_and, Bool.and_false, Bool.false_and, Bool.or_true, Bool.true_or, Bool.or_false, Bool.false_or])]
  rfl

/-! ### Days held -/
/-- The next hand of record r from i on. -/
def nextAt (l : List Hand) (r : Int) : Nat → Nat → Option Nat
  | 0, _ => none
  | d + 1, i => if rcd l i = r then some i else nextAt l r d (i + 1)
def nxt (l : List Hand) (r : Int) (i : Nat) : Option Nat := nextAt l r (l.length - i) i
theorem nextAt_spec (l : List Hand) (r : Int) : ∀ d i, i + d = l.length → (nextAt l r d i = none ∧ ∀ j, i ≤ j → j < l.length → rcd l j ≠ r) ∨ ∃ m, nextAt l r d i = some m ∧ i ≤ m ∧ m < l.length ∧ rcd l m = r ∧ ∀ j, i ≤ j → j < m → rcd l j ≠ r
  | 0, i, h => .inl ⟨rfl, fun j h1 h2 => absurd h1 (by omega)⟩
  | d + 1, i, h => by
    unfold nextAt
    by_cases e : rcd l i = r
    · rw [if_pos e]
      exact .inr ⟨i, rfl, Nat.le_refl _, by omega, e, fun j h1 h2 => absurd h1 (by omega)⟩
    · rw [if_neg e]
      rcases nextAt_spec l r d (i + 1) (by omega) with ⟨h1, h2⟩ | ⟨m, h1, h2, h3, h4, h5⟩
      · refine .inl ⟨h1, fun j g1 g2 => ?_⟩
        by_cases q : j = i
        · subst q; exact e
        · exact h2 j (by omega) g2
      · refine .inr ⟨m, h1, by omega, h3, h4, fun j g1 g2 => ?_⟩
        by_cases q : j = i
        · subst q; exact e
        · exact h5 j (by omega) g2
theorem nxt_spec (l : List Hand) (r : Int) (i : Nat) (hi : i ≤ l.length) : (nxt l r i = none ∧ ∀ j, i ≤ j → j < l.length → rcd l j ≠ r) ∨ ∃ m, nxt l r i = some m ∧ i ≤ m ∧ m < l.length ∧ rcd l m = r ∧ ∀ j, i ≤ j → j < m → rcd l j ≠ r :=
  nextAt_spec l r (l.length - i) i (by omega)
theorem nxt_step {l : List Hand} {r : Int} {i : Nat} (hi : i < l.length) : nxt l r i = if rcd l i = r then some i else nxt l r (i + 1) := by
  unfold nxt
  rw [show l.length - i = (l.length - (i + 1)) + 1 by omega]
  rfl

def endOfD (l : List Hand) (r d : Int) (i : Nat) : Int := match nxt l r (i + 1) with | some k => min d (l.getD k default).Day | none => d
def contr (l : List Hand) (r d : Int) (i : Nat) : Int := if rcd l i = r ∧ (l.getD i default).Day ≤ d then endOfD l r d i - (l.getD i default).Day else 0
def contrW (l : List Hand) (r w d : Int) (i : Nat) : Int := if (l.getD i default).To = w then contr l r d i else 0
def sumN (f : Nat → Int) : Nat → Int
  | 0 => 0
  | n + 1 => sumN f n + f n
theorem sumN_add (f g : Nat → Int) : ∀ n, sumN (fun i => f i + g i) n = sumN f n + sumN g n
  | 0 => rfl
  | n + 1 => by simp only [sumN, sumN_add f g n]; omega
theorem sumN_zero : ∀ n, sumN (fun _ => 0) n = 0
  | 0 => rfl
  | n + 1 => by simp only [sumN, sumN_zero n]; rfl
theorem sumN_swap (f : Nat → Nat → Int) (m : Nat) : ∀ n, sumN (fun w => sumN (f w) n) m = sumN (fun j => sumN (fun w => f w j) m) n
  | 0 => by simp only [sumN]; exact sumN_zero m
  | n + 1 => by
    simp only [sumN]
    rw [sumN_add (fun w => sumN (f w) n) (fun w => f w n) m, sumN_swap f m n]
theorem sumN_one (a : Int) (c : Int) : ∀ m : Nat, sumN (fun w : Nat => if a = (w : Int) + 1 then c else 0) m = if 1 ≤ a ∧ a ≤ (m : Int) then c else 0
  | 0 => by simp only [sumN]; rw [if_neg (by omega)]
  | m + 1 => by
    simp only [sumN]
    rw [sumN_one a c m]
    by_cases h : a = (m : Int) + 1
    · rw [if_neg (by omega), if_pos h, if_pos (by omega)]; omega
    · by_cases h2 : 1 ≤ a ∧ a ≤ (m : Int)
      · rw [if_pos h2, if_neg h, if_pos (by omega)]; omega
      · rw [if_neg h2, if_neg h, if_neg (by omega)]; rfl
theorem sumN_bd (f : Nat → Int) (B : Int) : ∀ n : Nat, (∀ i, i < n → 0 ≤ f i ∧ f i ≤ B) → 0 ≤ B → 0 ≤ sumN f n ∧ sumN f n ≤ n * B
  | 0, _, hB => by simp [sumN]
  | n + 1, h, hB => by
    have h1 := sumN_bd f B n (fun i hi => h i (by omega)) hB
    have h2 := h n (by omega)
    simp only [sumN]
    have e : ((n + 1 : Nat) : Int) * B = n * B + B := by rw [Int.natCast_add, Int.add_mul]; simp
    rw [e]
    omega
theorem sumN_congr {f g : Nat → Int} : ∀ n : Nat, (∀ i, i < n → f i = g i) → sumN f n = sumN g n
  | 0, _ => rfl
  | n + 1, h => by simp only [sumN]; rw [sumN_congr n (fun i hi => h i (by omega)), h n (by omega)]

theorem days_mono {l : List Hand} (hf : Fine l) : ∀ {i k : Nat}, i ≤ k → k < l.length → (l.getD i default).Day ≤ (l.getD k default).Day := by
  intro i k
  induction k with
  | zero => intro h1 h2; obtain rfl : i = 0 := (by omega); exact Int.le_refl _
  | succ k ih =>
    intro h1 h2
    have h3 := (hf.1 (k + 1) h2).2 (by omega)
    rw [Nat.add_sub_cancel] at h3
    by_cases e : i = k + 1
    · subst e; exact Int.le_refl _
    · have := ih (by omega) (by omega); omega

theorem contr_bd {l : List Hand} {r d : Int} (hc : custOk l = true) (hd : 0 ≤ d ∧ d ≤ 20000) {i : Nat} (hi : i < l.length) : 0 ≤ contr l r d i ∧ contr l r d i ≤ 20000 := by
  obtain ⟨hf, _⟩ := custOk_spec hc
  have hday := (handOk_spec ((hf.1 i hi).1)).2.2.2.2.1
  unfold contr
  split
  · rename_i h
    unfold endOfD
    rcases nxt_spec l r (i + 1) (by omega) with ⟨e, _⟩ | ⟨m, e, g1, g2, _⟩
    · rw [e]; simp only; omega
    · rw [e]
      have := days_mono hf (i := i) (k := m) (by omega) g2
      simp only; omega
  · omega
theorem contrW_bd {l : List Hand} {r w d : Int} (hc : custOk l = true) (hd : 0 ≤ d ∧ d ≤ 20000) {i : Nat} (hi : i < l.length) : 0 ≤ contrW l r w d i ∧ contrW l r w d i ≤ 20000 := by
  have := contr_bd (r := r) hc hd hi
  unfold contrW
  split <;> omega

/-- From the first hand on, the days add up. -/
theorem telescope {l : List Hand} {r d : Int} (hc : custOk l = true) : ∀ (q i : Nat), i + q = l.length → sumN (contr l r d) l.length - sumN (contr l r d) i = match nxt l r i with | some k => if (l.getD k default).Day ≤ d then d - (l.getD k default).Day else 0 | none => 0
  | 0, i, h => by
    obtain rfl : i = l.length := by omega
    unfold nxt
    rw [Nat.sub_self]
    simp only [nextAt]
    omega
  | q + 1, i, h => by
    obtain ⟨hf, _⟩ := custOk_spec hc
    have ih := telescope hc q (i + 1) (by omega) (r := r) (d := d)
    have hi : i < l.length := by omega
    simp only [sumN] at ih
    rw [nxt_step hi]
    by_cases e : rcd l i = r
    · rw [if_pos e]
      simp only
      by_cases g : (l.getD i default).Day ≤ d
      · rw [if_pos g]
        have hcn : contr l r d i = endOfD l r d i - (l.getD i default).Day := by unfold contr; rw [if_pos ⟨e, g⟩]
        unfold endOfD at hcn
        rcases nxt_spec l r (i + 1) (by omega) with ⟨e2, _⟩ | ⟨m, e2, g1, g2, _⟩
        · rw [e2] at ih hcn
          simp only at ih hcn
          omega
        · rw [e2] at ih hcn
          simp only at ih hcn
          split at ih <;> omega
      · rw [if_neg g]
        have hcn : contr l r d i = 0 := by unfold contr; rw [if_neg (fun h => g h.2)]
        rcases nxt_spec l r (i + 1) (by omega) with ⟨e2, _⟩ | ⟨m, e2, g1, g2, _⟩
        · rw [e2] at ih
          simp only at ih
          omega
        · rw [e2] at ih
          have := days_mono hf (i := i) (k := m) (by omega) g2
          simp only at ih
          rw [if_neg (by omega)] at ih
          omega
    · rw [if_neg e]
      have hcn : contr l r d i = 0 := by unfold contr; rw [if_neg (fun h => e h.1)]
      omega

noncomputable def DaysD (l : List Hand) (r w d : Int) : Int × Bool := bif ((custOk l && inR r 1 999) && inR w 1 20) && inR d 0 20000 then (sumN (contrW l r w d) l.length, true) else (0, false)

theorem skipB {l : List Hand} {r w d : Int} {i : Nat} : ((((l.getD i default).Record != r) || ((l.getD i default).To != w)) || decide ((l.getD i default).Day > d)) = true → contrW l r w d i = 0 := by
  intro h
  simp only [Bool.or_eq_true, bne_iff_ne, ne_eq, decide_eq_true_eq] at h
  unfold contrW contr
  rcases h with (h | h) | h
  · split
    · rw [if_neg (fun g => h g.1)]
    · rfl
  · rw [if_neg h]
  · split
    · rw [if_neg (fun g => by have := g.2; omega)]
    · rfl
theorem keepB {l : List Hand} {r w d : Int} {i : Nat} : ((((l.getD i default).Record != r) || ((l.getD i default).To != w)) || decide ((l.getD i default).Day > d)) = false → contrW l r w d i = endOfD l r d i - (l.getD i default).Day ∧ rcd l i = r ∧ (l.getD i default).Day ≤ d := by
  intro h
  simp only [Bool.or_eq_false_iff, bne_eq_false_iff_eq, decide_eq_false_iff_not] at h
  obtain ⟨⟨h1, h2⟩, h3⟩ := h
  unfold contrW contr
  rw [if_pos h2, if_pos ⟨h1, by omega⟩]
  exact ⟨rfl, h1, by omega⟩

theorem daysHI (l : List Hand) (r w d : Int) (hl : l.length ≤ 1000000) : M.impl_DaysHeld l r w d = some (DaysD l r w d) := by
  unfold M.impl_DaysHeld DaysD
  simp only [custI l (by omega), recIdI, personI, isDayI, Option.bind_some, bif_some]
  cases h1 : custOk l
  · rfl
  cases h2 : inR r 1 999
  · rfl
  cases h3 : inR w 1 20
  · rfl
  cases h4 : inR d 0 20000
  · rfl
  obtain ⟨hf, h12⟩ := custOk_spec h1
  have hd := inR_true.1 h4
  simp only [Bool.not_true, cond_false, Bool.or_self, Bool.and_self, cond_true]
  rw [iter_up (s := ((0 : Int), (0 : Int))) (step := M.impl_DaysHeld_l0 l r w d) (e := sumN (contrW l r w d) l.length) (fun k => (sumN (contrW l r w d) k, (k : Int))) l.length rfl (by omega) (fun k hk => by
    have ew : IntKind.i64.wrap ((k : Int) + 1) = ((k + 1 : Nat) : Int) := by rw [wrap64_id (by omega) (by omega)]; omega
    have hsb := sumN_bd (contrW l r w d) 20000 k (fun i hi => contrW_bd h1 hd (by omega)) (by omega)
    have hday := (handOk_spec ((hf.1 k hk).1)).2.2.2.2.1
    have hcb := contrW_bd (r := r) (w := w) h1 hd hk
    apply T.eq
    unfold M.impl_DaysHeld_l0
    try dsimp only
    rw [ew, Int.toNat_natCast]
    refine T_if (fun _ => ?_) (fun hq => by simp only [decide_eq_false_iff_not] at hq; omega)
    refine T_in (T_ask ⟨by omega, by omega⟩ (T_if (fun hs => T_ret (T_ret ?_)) (fun hs => ?_)))
    · simp only [sumN, skipB hs, Int.add_zero]
    · obtain ⟨q1, q2, q3⟩ := keepB hs
      refine T_in (T.mono (Q := fun e => e = endOfD l r d k) (T_in ((nextT l r (k + 1) (by omega) (by omega)).mono ?_)) ?_)
      · rintro a ha
        unfold endOfD
        rcases nxt_spec l r (k + 1) (by omega) with ⟨e, p1⟩ | ⟨m, e, p1, p2, p3, p4⟩
        · rw [e]
          rcases ha with ⟨rfl, _⟩ | ⟨m', rfl, g1, g2, g3, _⟩
          · rw [decide_eq_false (show ¬ ((-1 : Int) ≥ 0) by omega), cond_false]
            exact T_ret rfl
          · exact absurd g3 (p1 m' g1 g2)
        · rw [e]
          rcases ha with ⟨rfl, g⟩ | ⟨m', rfl, g1, g2, g3, g4⟩
          · exact absurd p3 (g m p1 p2)
          · have : m' = m := by
              rcases Nat.lt_trichotomy m' m with q | q | q
              · exact absurd g3 (p4 m' g1 q)
              · exact q
              · exact absurd p3 (g4 m p1 q)
            subst this
            rw [decide_eq_true (show ((m' : Int) ≥ 0) by omega), cond_true, Int.toNat_natCast]
            refine T_ask ⟨by omega, by omega⟩ (T_ret ?_)
            simp only
            by_cases q : (l.getD m' default).Day < d
            · rw [decide_eq_true q, cond_true]; omega
            · rw [decide_eq_false q, cond_false]; omega
      · rintro _ rfl
        refine T_ret (T_ret ?_)
        rw [q1] at hcb
        simp only [sumN, q1]
        rw [wrap64_id (n := endOfD l r d k - (l.getD k default).Day) (by omega) (by omega), wrap64_id (by omega) (by omega)]) (by
    unfold M.impl_DaysHeld_l0
    try dsimp only
    rw [decide_eq_false (by omega), cond_false])]
  rfl

theorem spec1 (l : List Hand) (r d : Int) (k : Nat) (hk : k < l.length) (hc : custOk l = true) : T (iterO (M.spec_DaysHeld_l1 l r d (k : Int)) (d, IntKind.i64.wrap ((l.length : Int) - 1))) (fun e => e = endOfD l r d k) := by
  obtain ⟨hf, h12⟩ := custOk_spec hc
  rw [wrap64_id (by omega) (by omega)]
  -- behind place j: the least later hand of the record with an earlier day, or none
  refine T_iter (fun s => ∃ j : Nat, s.2 = (j : Int) - 1 ∧ k + 1 ≤ j ∧ j ≤ l.length ∧ ((s.1 = d ∧ ∀ m, j ≤ m → m < l.length → rcd l m = r → d ≤ (l.getD m default).Day) ∨ ∃ m, j ≤ m ∧ m < l.length ∧ rcd l m = r ∧ (l.getD m default).Day < d ∧ s.1 = (l.getD m default).Day ∧ ∀ q, j ≤ q → q < m → rcd l q = r → d ≤ (l.getD q default).Day)) (fun s => (s.2 + 1).toNat) _ ⟨l.length, rfl, by omega, Nat.le_refl _, .inl ⟨rfl, fun m h1 h2 => absurd h1 (by omega)⟩⟩ (by simp only; omega) ?_
  rintro ⟨en, _⟩ ⟨j, rfl, h1, h2, h3⟩
  simp only at h3
  unfold M.spec_DaysHeld_l1
  try dsimp only
  refine T_if (fun hq => ?_) (fun hq => ?_)
  · simp only [decide_eq_true_eq] at hq
    obtain ⟨p, rfl⟩ : ∃ p, j = p + 1 := ⟨j - 1, by omega⟩
    have ep : ((p + 1 : Nat) : Int) - 1 = (p : Int) := by omega
    have ew : IntKind.i64.wrap ((p : Int) - 1) = (p : Int) - 1 := wrap64_id (by omega) (by omega)
    rw [ep, ew, Int.toNat_natCast]
    refine T_in (T_ask ⟨by omega, by omega⟩ (T_ask (fun _ => ⟨by omega, by omega⟩) (T_if (fun hc2 => ?_) (fun hc2 => ?_))))
    · simp only [Bool.and_eq_true, beq_iff_eq, decide_eq_true_eq] at hc2
      refine T_ask ⟨by omega, by omega⟩ (T_ret (T_ret ⟨⟨p, rfl, by omega, by omega, .inr ⟨p, Nat.le_refl _, by omega, hc2.1, hc2.2, rfl, fun q g1 g2 => absurd g1 (by omega)⟩⟩, by simp only; omega⟩))
    · simp only [Bool.and_eq_false_iff, beq_eq_false_iff_ne, decide_eq_false_iff_not] at hc2
      have hp : rcd l p = r → d ≤ (l.getD p default).Day := by
        intro e
        rcases hc2 with hc2 | hc2
        · exact absurd e hc2
        · omega
      refine T_ret (T_ret ⟨⟨p, rfl, by omega, by omega, ?_⟩, by simp only; omega⟩)
      rcases h3 with ⟨e, g⟩ | ⟨m, g1, g2, g3, g4, g5, g6⟩
      · refine .inl ⟨e, fun m q1 q2 q3 => ?_⟩
        by_cases x : m = p
        · subst x; exact hp q3
        · exact g m (by omega) q2 q3
      · refine .inr ⟨m, by omega, g2, g3, g4, g5, fun q q1 q2 q3 => ?_⟩
        by_cases x : q = p
        · subst x; exact hp q3
        · exact g6 q (by omega) q2 q3
  · simp only [decide_eq_false_iff_not] at hq
    obtain rfl : j = k + 1 := by omega
    refine T_ret ?_
    unfold endOfD
    rcases nxt_spec l r (k + 1) (by omega) with ⟨e, p1⟩ | ⟨m, e, p1, p2, p3, p4⟩
    · rw [e]
      rcases h3 with ⟨e2, _⟩ | ⟨m', g1, g2, g3, _⟩
      · exact e2
      · exact absurd g3 (p1 m' g1 g2)
    · rw [e]
      simp only
      rcases h3 with ⟨e2, g⟩ | ⟨m', g1, g2, g3, g4, g5, g6⟩
      · have := g m p1 p2 p3; omega
      · have hmm : m ≤ m' := by
          by_cases q : m ≤ m'
          · exact q
          · exact absurd g3 (p4 m' g1 (by omega))
        by_cases q : m = m'
        · subst q; omega
        · have h5 := g6 m p1 (by omega) p3
          have h6 := days_mono hf (i := m) (k := m') hmm g2
          omega

theorem daysHS (l : List Hand) (r w d : Int) (hl : l.length ≤ 1000000) : M.spec_DaysHeld l r w d = some (DaysD l r w d) := by
  unfold M.spec_DaysHeld DaysD
  simp only [custS l (by omega), rec17S, who17S, l2DayS, Option.bind_some, bif_some]
  cases h1 : custOk l
  · rfl
  cases h2 : inR r 1 999
  · rfl
  cases h3 : inR w 1 20
  · rfl
  cases h4 : inR d 0 20000
  · rfl
  obtain ⟨hf, h12⟩ := custOk_spec h1
  have hd := inR_true.1 h4
  simp only [Bool.not_true, cond_false, Bool.or_self, Bool.and_self, cond_true]
  rw [iter_up (s := ((0 : Int), (0 : Int))) (step := M.spec_DaysHeld_l0 l r w d) (e := sumN (contrW l r w d) l.length) (fun k => (sumN (contrW l r w d) k, (k : Int))) l.length rfl (by omega) (fun k hk => by
    have ew : IntKind.i64.wrap ((k : Int) + 1) = ((k + 1 : Nat) : Int) := by rw [wrap64_id (by omega) (by omega)]; omega
    have hsb := sumN_bd (contrW l r w d) 20000 k (fun i hi => contrW_bd h1 hd (by omega)) (by omega)
    have hday := (handOk_spec ((hf.1 k hk).1)).2.2.2.2.1
    have hcb := contrW_bd (r := r) (w := w) h1 hd hk
    apply T.eq
    unfold M.spec_DaysHeld_l0
    try dsimp only
    rw [ew, Int.toNat_natCast]
    refine T_if (fun _ => ?_) (fun hq => by simp only [decide_eq_false_iff_not] at hq; omega)
    refine T_in (T_ask ⟨by omega, by omega⟩ (T_if (fun hs => T_ret (T_ret ?_)) (fun hs => ?_)))
    · simp only [sumN, skipB hs, Int.add_zero]
    · obtain ⟨q1, q2, q3⟩ := keepB hs
      refine (spec1 l r d k hk h1).then ?_
      rintro _ rfl
      refine T_ret (T_ret ?_)
      rw [q1] at hcb
      have hend : 0 ≤ endOfD l r d k ∧ endOfD l r d k ≤ 40000 := by omega
      simp only [sumN, q1]
      rw [wrap64_id (n := sumN (contrW l r w d) k + endOfD l r d k) (by omega) (by omega), wrap64_id (by omega) (by omega), Int.add_sub_assoc]) (by
    unfold M.spec_DaysHeld_l0
    try dsimp only
    rw [decide_eq_false (by omega), cond_false])]
  rfl

/-! ### Draws, and the law -/
theorem dCust {code : List Int} (hb : Bytes code) : T (M.spec_DrawBrokenSeals code) (fun r => r.length ≤ 20) := by
  unfold M.spec_DrawBrokenSeals M.spec_DrawIsCustody
  refine T_in ?_
  refine (drawHands hb good17 (by omega)).then ?_
  rintro ⟨l, c1⟩ ⟨h1, h2⟩
  exact T_ret (T_ret h1)
theorem dSus {code : List Int} (hb : Bytes code) : T (M.spec_DrawSuspects code) (fun r => r.1.length ≤ 20) := by
  unfold M.spec_DrawSuspects
  exact (dChain hb).then fun r hr => T_ret hr
theorem dDaysH {code : List Int} (hb : Bytes code) : T (M.spec_DrawDaysHeld code) (fun r => r.1.length ≤ 20) := by
  unfold M.spec_DrawDaysHeld
  refine (drawHands hb good17 (by omega)).then ?_
  rintro ⟨l, c1⟩ ⟨h1, h2⟩
  refine (drawRec17 hb h2 (by omega)).then ?_
  rintro ⟨r, c2⟩ h3
  refine T_pick hb h3 (by omega) ?_
  intro x c3 _ hx h4
  have hx := hx (by omega)
  try dsimp only
  have e1 : Int.tdiv x 11 = x / 11 := Int.tdiv_eq_ediv_of_nonneg hx.1
  rw [e1, wrap64_id (n := x / 11) (by omega) (by omega), wrap64_id (by omega) (by omega)]
  refine T_ask ⟨by omega, by omega, by simp; omega⟩ ?_
  refine T_among hb h4 (by omega) (slc_ne (by omega) (by simp; omega)) ?_
  intro y c4 _ h5
  refine (drawDay17 hb h5 (by omega)).then ?_
  rintro ⟨d, c5⟩ h6
  exact T_ret h1

theorem chain_has (r : Int) (l : List Hand) : ∀ h ∈ l, h.Record = r → h.To ∈ l.foldl (chB r) [] := by
  have key : ∀ (l : List Hand) (a : List Int), (∀ x ∈ a, x ∈ l.foldl (chB r) a) ∧ ∀ h ∈ l, h.Record = r → h.To ∈ l.foldl (chB r) a := by
    intro l
    induction l with
    | nil => intro a; exact ⟨fun x hx => hx, by simp⟩
    | cons y t ih =>
      intro a
      obtain ⟨i1, i2⟩ := ih (chB r a y)
      have hsub : ∀ x ∈ a, x ∈ chB r a y := by
        intro x hx
        unfold chB
        cases y.Record != r
        · cases ((a.length : Int) == 0)
          · simp [hx]
          · simp [hx]
        · exact hx
      refine ⟨fun x hx => i1 x (hsub x hx), fun h hh hr => ?_⟩
      rcases List.mem_cons.1 hh with rfl | hh
      · refine i1 _ ?_
        unfold chB
        rw [show (h.Record != r) = false by rw [bne_eq_false_iff_eq]; exact hr]
        simp
      · exact i2 h hh hr
  exact (key l []).2

theorem law_FnSeals (code : List Int) (h1 : code.length ≤ 9223372036854775807) (h2 : ∀ x, x ∈ code → 0 ≤ x ∧ x ≤ 255) : M.laws_FnSeals code = some true := by
  apply T.eq
  unfold M.laws_FnSeals M.laws_rBig
  rw [Option.bind_some]
  refine T_if (fun _ => T_ret rfl) (fun hq => ?_)
  simp only [decide_eq_false_iff_not] at hq
  have hb : Bytes code := ⟨by omega, h2⟩
  refine (dCust hb).then ?_
  intro l hl
  have hBl : (BrkD l).1.length < 10000000 := by
    unfold BrkD
    cases custOk l
    · simp
    · have := prs_len (l := l)
      have := List.length_filter_le (sealP l) (prs l)
      simp only [cond_true, List.length_map]; omega
  have hBe : ∀ x ∈ (BrkD l).1, x.length < 10000000 := by
    intro x hx
    unfold BrkD at hx
    cases hc : custOk l
    · rw [hc] at hx; simp at hx
    · rw [hc] at hx
      simp only [cond_true] at hx
      obtain ⟨p, _, rfl⟩ := List.mem_map.1 hx
      simp [encP]
  have hNl : (NotD l).1.length < 10000000 := by have := NotD_len (l := l) (by omega); omega
  have hflag : (NotD l).2 = (BrkD l).2 := by unfold NotD BrkD; cases custOk l <;> rfl
  have hflag2 : (BrkD l).2 = custOk l := by unfold BrkD; cases custOk l <;> rfl
  simp only [brkI l (by omega), brkS l (by omega), notI l (by omega), notS l (by omega), custI l (by omega), rTableS _ hBl hBe, rIntsS _ hNl, hflag, hflag2, Option.bind_some, beq_self_eq_true, Bool.not_true, Bool.or_self, cond_false]
  have hloop : iterO (M.laws_FnSeals_l0 l (BrkD l) (NotD l)) (0 : Int) = some (.inl ()) := by
    refine iter_up (s := (0 : Int)) (step := M.laws_FnSeals_l0 l (BrkD l) (NotD l)) (fun k => (k : Int)) (BrkD l).1.length rfl (by omega) (fun k hk => ?_) ?_
    · cases hc : custOk l
      · have : (BrkD l).1 = [] := by unfold BrkD; rw [hc]; rfl
        rw [this] at hk; simp at hk
      · have eB : (BrkD l).1 = ((prs l).filter (sealP l)).map encP := by unfold BrkD; rw [hc]; rfl
        have eN : (NotD l).1 = once ((prs l).flatMap fun p => [rcd l p.1]) := by unfold NotD; rw [hc]; rfl
        rw [eB, List.length_map] at hk
        have hm := getD_mem hk
        obtain ⟨hm1, _⟩ := List.mem_filter.1 hm
        obtain ⟨g1, g2⟩ := prs_mem hm1
        have g3 := g2.1
        have e0 : (BrkD l).1.getD k default = encP (((prs l).filter (sealP l)).getD k default) := by rw [eB]; simp [List.getD, hk]
        have e1 : (encP (((prs l).filter (sealP l)).getD k default)).getD (Int.toNat 0) default = ((((prs l).filter (sealP l)).getD k default).1 : Int) := rfl
        have hlen : (BrkD l).1.length = ((prs l).filter (sealP l)).length := by rw [eB, List.length_map]
        have ew : IntKind.i64.wrap ((k : Int) + 1) = ((k + 1 : Nat) : Int) := by rw [wrap64_id (by omega) (by omega)]; omega
        apply T.eq
        unfold M.laws_FnSeals_l0
        try dsimp only
        rw [ew, Int.toNat_natCast, e0, e1, Int.toNat_natCast]
        refine T_if (fun _ => ?_) (fun hq => by simp only [decide_eq_false_iff_not] at hq; omega)
        refine T_ask ⟨by omega, by omega⟩ (T_ask ⟨by omega, by simp [encP]⟩ (T_ask ⟨by omega, by omega⟩ ?_))
        rw [rHasS _ _ hNl, Option.bind_some]
        have hin : ((NotD l).1.any fun y => y == (l.getD (((prs l).filter (sealP l)).getD k default).1 default).Record) = true := by
          rw [List.any_eq_true]
          refine ⟨_, ?_, beq_self_eq_true _⟩
          rw [eN, (once_spec _).2]
          exact List.mem_flatMap.2 ⟨_, hm1, List.mem_singleton.2 rfl⟩
        rw [hin]
        exact T_ret rfl
    · unfold M.laws_FnSeals_l0
      try dsimp only
      rw [decide_eq_false (by omega), cond_false]
  rw [hloop, Option.bind_some]
  try dsimp only
  refine (dSus hb).then ?_
  rintro ⟨l, r⟩ hl
  simp only at hl
  have hSl : (SusD l r).1.length < 10000000 := by have := SusD_len (l := l) (r := r) (by omega); omega
  have hCl : (ChainD l r).1.length < 10000000 := by have := ChainD_len (l := l) (r := r) (by omega); omega
  simp only [susI l r (by omega), susS l r (by omega), chainI l r (by omega), rIntsS _ hSl, Option.bind_some, beq_self_eq_true, Bool.not_true, Bool.or_self, cond_false]
  have hloop : iterO (M.laws_FnSeals_l1 (SusD l r) (ChainD l r)) (0 : Int) = some (.inl ()) := by
    refine iter_up (s := (0 : Int)) (step := M.laws_FnSeals_l1 (SusD l r) (ChainD l r)) (fun k => (k : Int)) (SusD l r).1.length rfl (by omega) (fun k hk => ?_) ?_
    · cases hc : custOk l && inR r 1 999
      · have : (SusD l r).1 = [] := by unfold SusD; rw [hc]; rfl
        rw [this] at hk; simp at hk
      · have eS : (SusD l r).1 = once ((prs l).flatMap (susG l r)) := by unfold SusD; rw [hc]; rfl
        have eC : ChainD l r = (l.foldl (chB r) [], true) := by unfold ChainD; rw [hc]; rfl
        have ew : IntKind.i64.wrap ((k : Int) + 1) = ((k + 1 : Nat) : Int) := by rw [wrap64_id (by omega) (by omega)]; omega
        have hm := getD_mem hk
        apply T.eq
        unfold M.laws_FnSeals_l1
        try dsimp only
        rw [ew, Int.toNat_natCast]
        refine T_if (fun _ => ?_) (fun hq => by simp only [decide_eq_false_iff_not] at hq; omega)
        refine T_ask (fun _ => ⟨by omega, by omega⟩) ?_
        rw [rHasS _ _ hCl, bif_some, Option.bind_some]
        have hin : ((ChainD l r).1.any fun y => y == (SusD l r).1.getD k default) = true := by
          rw [List.any_eq_true]
          refine ⟨_, ?_, beq_self_eq_true _⟩
          rw [eS, (once_spec _).2] at hm
          obtain ⟨p, hp, hx⟩ := List.mem_flatMap.1 hm
          obtain ⟨g1, g2⟩ := prs_mem hp
          have g3 := g2.1
          generalize hgen : (once ((prs l).flatMap (susG l r))).getD k default = y at hx
          unfold susG at hx
          rw [eC]
          cases hrr : (rcd l p.1 == r)
          · rw [hrr] at hx; simp at hx
          · rw [hrr] at hx
            simp only [cond_true, List.mem_singleton] at hx
            rw [beq_iff_eq] at hrr
            rw [eS, hgen, hx]
            exact chain_has r l _ (getD_mem (by omega)) hrr
        rw [eC] at hin ⊢
        rw [hin]
        exact T_ret rfl
    · unfold M.laws_FnSeals_l1
      try dsimp only
      rw [decide_eq_false (by omega), cond_false]
  rw [hloop, Option.bind_some]
  try dsimp only
  refine (dDaysH hb).then ?_
  rintro ⟨l, r, w, d⟩ hl
  simp only at hl
  simp only [daysHI l r w d (by omega), daysHS l r w d (by omega), Option.bind_some, beq_self_eq_true, bne_self_eq_false, Bool.not_true, Bool.or_self, cond_false]
  refine T_if (fun hm => ?_) (fun _ => T_ret rfl)
  unfold DaysD at hm
  cases hc : ((custOk l && inR r 1 999) && inR w 1 20) && inR d 0 20000
  · rw [hc] at hm; cases hm
  simp only [Bool.and_eq_true] at hc
  obtain ⟨⟨⟨k1, k2⟩, k3⟩, k4⟩ := hc
  obtain ⟨hf, h12⟩ := custOk_spec k1
  have hd := inR_true.1 k4
  have hands := custOk_hands k1
  -- the first day of the record
  have hfirst : T (iterO (M.laws_FnSeals_l2 (l, r, w, d)) (-1, IntKind.i64.wrap ((l.length : Int) - 1))) (fun e => match nxt l r 0 with | some k => if (l.getD k default).Day ≤ d then e = (l.getD k default).Day else e = -1 | none => e = -1) := by
    rw [wrap64_id (by omega) (by omega)]
    refine T_iter (fun s => ∃ j : Nat, s.2 = (j : Int) - 1 ∧ j ≤ l.length ∧ match nxt l r j with | some k => if (l.getD k default).Day ≤ d then s.1 = (l.getD k default).Day else s.1 = -1 | none => s.1 = -1) (fun s => (s.2 + 1).toNat) _ ⟨l.length, rfl, Nat.le_refl _, by unfold nxt; rw [Nat.sub_self]; rfl⟩ (by simp only; omega) ?_
    rintro ⟨fi, _⟩ ⟨j, rfl, g1, g2⟩
    simp only at g2
    unfold M.laws_FnSeals_l2
    try dsimp only
    refine T_if (fun hq => ?_) (fun hq => ?_)
    · simp only [decide_eq_true_eq] at hq
      obtain ⟨p, rfl⟩ : ∃ p, j = p + 1 := ⟨j - 1, by omega⟩
      have ep : ((p + 1 : Nat) : Int) - 1 = (p : Int) := by omega
      have ew : IntKind.i64.wrap ((p : Int) - 1) = (p : Int) - 1 := wrap64_id (by omega) (by omega)
      rw [ep, ew, Int.toNat_natCast]
      have hp : p < l.length := by omega
      refine T_in (T_ask ⟨by omega, by omega⟩ (T_ask (fun _ => ⟨by omega, by omega⟩) (T_if (fun hc2 => ?_) (fun hc2 => ?_))))
      · simp only [Bool.and_eq_true, beq_iff_eq, decide_eq_true_eq] at hc2
        refine T_ask ⟨by omega, by omega⟩ (T_ret (T_ret ⟨⟨p, rfl, by omega, ?_⟩, by simp only; omega⟩))
        rw [nxt_step hp, if_pos hc2.1]
        simp only
        rw [if_pos hc2.2]
        trivial
      · simp only [Bool.and_eq_false_iff, beq_eq_false_iff_ne, decide_eq_false_iff_not] at hc2
        refine T_ret (T_ret ⟨⟨p, rfl, by omega, ?_⟩, by simp only; omega⟩)
        rw [nxt_step hp]
        by_cases e : rcd l p = r
        · rw [if_pos e]
          simp only
          have hgt : ¬ (l.getD p default).Day ≤ d := by
            rcases hc2 with hc2 | hc2
            · exact absurd e hc2
            · exact hc2
          rw [if_neg hgt]
          rcases nxt_spec l r (p + 1) (by omega) with ⟨e2, _⟩ | ⟨m, e2, q1, q2, _⟩
          · rw [e2] at g2
            exact g2
          · rw [e2] at g2
            simp only at g2
            have := days_mono hf (i := p) (k := m) (by omega) q2
            rw [if_neg (by omega)] at g2
            exact g2
        · rw [if_neg e]
          exact g2
    · simp only [decide_eq_false_iff_not] at hq
      obtain rfl : j = 0 := by omega
      exact T_ret g2
  refine hfirst.then ?_
  intro first hfi
  have hsum : iterO (M.laws_FnSeals_l3 (l, r, w, d)) (0, 1) = some (.inl (sumN (fun v : Nat => sumN (contrW l r ((v : Int) + 1) d) l.length) 20)) := by
    refine iter_up (s := ((0 : Int), (1 : Int))) (step := M.laws_FnSeals_l3 (l, r, w, d)) (fun k => (sumN (fun v : Nat => sumN (contrW l r ((v : Int) + 1) d) l.length) k, (k : Int) + 1)) 20 rfl (by omega) (fun k hk => ?_) ?_
    · have hb1 := sumN_bd (contrW l r ((k : Int) + 1) d) 20000 l.length (fun i hi => contrW_bd k1 hd hi) (by omega)
      have hb2 := sumN_bd (fun v : Nat => sumN (contrW l r ((v : Int) + 1) d) l.length) 240000 k (fun i hi => by
        have := sumN_bd (contrW l r ((i : Int) + 1) d) 20000 l.length (fun i hi => contrW_bd k1 hd hi) (by omega)
        omega) (by omega)
      have eD : DaysD l r ((k : Int) + 1) d = (sumN (contrW l r ((k : Int) + 1) d) l.length, true) := by
        unfold DaysD; rw [k1, k2, k4, inR_true.2 ⟨by omega, by omega⟩]; rfl
      unfold M.laws_FnSeals_l3
      try dsimp only
      rw [decide_eq_true (by omega), cond_true, daysHI l r _ d (by omega), eD, Option.bind_some]
      simp only [Bool.not_true, cond_false]
      rw [wrap64_id (by omega) (by omega), wrap64_id (by omega) (by omega), cast_succ]
      rfl
    · unfold M.laws_FnSeals_l3
      try dsimp only
      rw [decide_eq_false (by omega), cond_false]
  rw [hsum, Option.bind_some]
  try dsimp only
  have htot : sumN (fun v : Nat => sumN (contrW l r ((v : Int) + 1) d) l.length) 20 = sumN (contr l r d) l.length := by
    rw [sumN_swap (fun v j => contrW l r ((v : Int) + 1) d j) 20 l.length]
    refine sumN_congr _ fun j hj => ?_
    have hto := (handOk_spec (hands _ (getD_mem hj))).2.2.1
    have := sumN_one (l.getD j default).To (contr l r d j) 20
    rw [if_pos (by omega)] at this
    exact this
  rw [htot]
  have htel := telescope (r := r) (d := d) k1 l.length 0 (by omega)
  simp only [sumN, Int.sub_zero] at htel
  have hday0 : ∀ k, k < l.length → 0 ≤ (l.getD k default).Day ∧ (l.getD k default).Day ≤ 20000 := fun k hk => (handOk_spec ((hf.1 k hk).1)).2.2.2.2.1
  rcases nxt_spec l r 0 (by omega) with ⟨e2, _⟩ | ⟨m, e2, q1, q2, _⟩
  · rw [e2] at hfi htel
    simp only at hfi htel
    rw [htel, hfi]
    exact T_ret rfl
  · rw [e2] at hfi htel
    simp only at hfi htel
    have hdm := hday0 m q2
    by_cases g : (l.getD m default).Day ≤ d
    · rw [if_pos g] at hfi htel
      rw [htel, hfi, wrap64_id (by omega) (by omega), decide_eq_true (show (l.getD m default).Day ≥ 0 by omega), decide_eq_false (show ¬ (l.getD m default).Day < 0 by omega)]
      simp only [bne_self_eq_false, Bool.and_false, Bool.false_and, Bool.or_self, cond_false]
      exact T_ret rfl
    · rw [if_neg g] at hfi htel
      rw [htel, hfi]
      exact T_ret rfl

end Go.Proofs.Ytmpknfachmfbaaa
