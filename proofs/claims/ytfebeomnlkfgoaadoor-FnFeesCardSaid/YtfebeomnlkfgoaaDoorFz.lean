/-
  The plain law of fees. Plain.
-/
import Derived.Test.YtfebeomnlkfgoaaDoorBb
import Derived.Test.YtfebeomnlkfgoaaDoorNu
set_option linter.unusedSimpArgs false
set_option linter.unusedVariables false
namespace Go.Proofs.YtfebeomnlkfgoaaDoor
open Go.VS

/-! ### Fees of bills that bear no number -/
def mkB (h p : Int) : Bill := ⟨1, h, p, false, false, 0⟩
theorem mkB_ok {h p : Int} (h1 : 0 ≤ h ∧ h ≤ 200) (h2 : 0 ≤ p ∧ p ≤ 5000) : billOk (mkB h p) = true := by
  unfold billOk mkB
  simp only [Bool.and_eq_true, inR_true]
  omega
theorem fee0I (t : Tariff) (h p : Int) (ht : tarOk t = true) (h1 : 0 ≤ h ∧ h ≤ 200) (h2 : 0 ≤ p ∧ p ≤ 5000) : M.impl_Tariff_fee t (⟨(0 : Int), h, p, false, false, (0 : Int)⟩ : Bill) = some (feeOf t (mkB h p)) := feeI t (mkB h p) ht (mkB_ok h1 h2)
theorem fee0S (t : Tariff) (h p : Int) (ht : tarOk t = true) (h1 : 0 ≤ h ∧ h ≤ 200) (h2 : 0 ≤ p ∧ p ≤ 5000) : M.spec_l14Fee t (⟨(0 : Int), h, p, false, false, (0 : Int)⟩ : Bill) = some (feeOf t (mkB h p)) := feeS t (mkB h p) ht (mkB_ok h1 h2)
def FeeD (t : Tariff) (b : Bill) : Int × Bool := bif !(tarOk t) || !(billOk b) then (0, false) else (feeOf t b, true)
theorem feeDI (t : Tariff) (b : Bill) : M.impl_FeeOf t b = some (FeeD t b) := by
  unfold M.impl_FeeOf FeeD
  rw [tarI, Option.bind_some]
  cases ht : tarOk t
  · rfl
  rw [Bool.not_true, cond_false, billI, Option.bind_some]
  cases hb : billOk b
  · rfl
  rw [feeI t b ht hb]
  rfl
theorem feeDS (t : Tariff) (b : Bill) : M.spec_FeeOf t b = some (FeeD t b) := by
  unfold M.spec_FeeOf FeeD
  rw [tarS, Option.bind_some]
  cases ht : tarOk t
  · rfl
  rw [Bool.not_true, cond_false, billS, Option.bind_some]
  cases hb : billOk b
  · rfl
  rw [feeS t b ht hb]
  rfl
theorem billsOk_one (b : Bill) : billsOk [b] = billOk b := by
  unfold billsOk
  rw [Bool.eq_iff_iff, Bool.and_eq_true, rise_iff]
  constructor
  · rintro ⟨⟨h, _⟩, _⟩
    have := h 0 (by simp)
    simpa using this
  · intro h
    refine ⟨⟨fun k hk => ?_, fun k h0 hk => ?_⟩, by simp⟩
    · simp only [List.length_cons, List.length_nil] at hk
      obtain rfl : k = 0 := by omega
      simp [h]
    · simp only [List.length_cons, List.length_nil] at hk
      omega
theorem fee_whole {t : Tariff} {b : Bill} (ht : tarOk t = true) (hb : billOk b = true) : feeOf t b ≤ feeOf t (mkB b.Hours b.Pages) ∧ feeOf t (mkB b.Hours b.Pages) ≤ t.Limit ∧ 0 ≤ feeOf t b := by
  have hp := fee_parts ht hb
  have h0 := feeOf_bd ht hb
  have h1 := rawFee_bd ht hb
  have h2 := (tarOk_spec ht).2.2.2
  have e : rawFee t (mkB b.Hours b.Pages) = max (b.Pages - t.Free) 0 * t.Page + b.Hours * t.Search := rfl
  have e2 : feeOf t (mkB b.Hours b.Pages) = min (rawFee t (mkB b.Hours b.Pages)) t.Limit := rfl
  have e3 : rawFee t b ≤ rawFee t (mkB b.Hours b.Pages) := by
    rw [e]; unfold rawFee; split <;> omega
  refine ⟨?_, by rw [e2]; omega, h0.1⟩
  rw [e2]
  unfold feeOf
  split <;> omega
theorem fee_mono {t : Tariff} {h p q : Int} (ht : tarOk t = true) (hpq : p ≤ q) : feeOf t (mkB h p) ≤ feeOf t (mkB h q) := by
  have e : ∀ x, feeOf t (mkB h x) = min (max (x - t.Free) 0 * t.Page + h * t.Search) t.Limit := fun _ => rfl
  rw [e, e]
  have := Int.mul_le_mul_of_nonneg_right (a := max (p - t.Free) 0) (b := max (q - t.Free) 0) (c := t.Page) (by omega) (tarOk_spec ht).2.1.1
  omega

/-! ### Pages for a fee -/
/-- r: the pages for which the fee g is not too great; or there are none. -/
def Pgs (g : Int → Int) (c : Int) (r : Int × Bool) : Prop :=
  (r.2 = true ∧ (0 ≤ r.1 ∧ r.1 ≤ 5000) ∧ g r.1 ≤ c ∧ ∀ q, r.1 < q → q ≤ 5000 → c < g q) ∨ (r = (0, false) ∧ ∀ q, 0 ≤ q → q ≤ 5000 → c < g q)
theorem Pgs.uniq {g : Int → Int} {c : Int} {r s : Int × Bool} (hr : Pgs g c r) (hs : Pgs g c s) : r = s := by
  rcases hr with ⟨a1, a2, a3, a4⟩ | ⟨a1, a2⟩
  · rcases hs with ⟨b1, b2, b3, b4⟩ | ⟨b1, b2⟩
    · have e : r.1 = s.1 := by
        rcases Int.lt_trichotomy r.1 s.1 with h | h | h
        · have := a4 s.1 h b2.2; omega
        · exact h
        · have := b4 r.1 h a2.2; omega
      exact Prod.ext e (by rw [a1, b1])
    · have := b2 r.1 a2.1 a2.2; omega
  · rcases hs with ⟨b1, b2, b3, b4⟩ | ⟨b1, b2⟩
    · have := a2 s.1 b2.1 b2.2; omega
    · rw [a1, b1]
theorem pagesI (t : Tariff) (h c : Int) : T (M.impl_PagesFor t h c) (fun r => (bif tarOk t && inR h 0 200 && inR c 0 1000000 then Pgs (fun p => feeOf t (mkB h p)) c r else r = (0, false))) := by
  unfold M.impl_PagesFor
  rw [tarI, Option.bind_some]
  cases ht : tarOk t
  · exact T_ret rfl
  rw [Bool.not_true, cond_false, withinI, Option.bind_some, Bool.false_or]
  cases hh : inR h 0 200
  · exact T_ret rfl
  rw [Bool.not_true, cond_false, centsI, Option.bind_some, Bool.false_or]
  cases hc : inR c 0 1000000
  · exact T_ret rfl
  rw [Bool.not_true, cond_false]
  show T _ (fun r => Pgs (fun p => feeOf t (mkB h p)) c r)
  have hh := inR_true.1 hh
  refine T.then (Q := fun e => match e with | .inl _ => (∀ q, 0 ≤ q → q ≤ 5000 → c < feeOf t (mkB h q)) | .inr r => Pgs (fun p => feeOf t (mkB h p)) c r) (T_iter (fun p => -1 ≤ p ∧ p ≤ 5000 ∧ ∀ q, p < q → q ≤ 5000 → c < feeOf t (mkB h q)) (fun p => (p + 1).toNat) _ ⟨by omega, by omega, fun q h1 h2 => by omega⟩ (by omega) ?_) ?_
  · rintro p ⟨h1, h2, h3⟩
    unfold M.impl_PagesFor_l0
    try dsimp only
    refine T_if (fun hq => ?_) (fun hq => ?_)
    · simp only [decide_eq_true_eq] at hq
      rw [fee0I t h p ht hh ⟨hq, h2⟩, Option.bind_some]
      refine T_if (fun hp => ?_) (fun hp => ?_)
      · simp only [decide_eq_true_eq] at hp
        exact T_ret (.inl ⟨rfl, ⟨hq, h2⟩, hp, h3⟩)
      · simp only [decide_eq_false_iff_not] at hp
        rw [wrap64_id (by omega) (by omega)]
        refine T_ret ⟨⟨by omega, by omega, fun q g1 g2 => ?_⟩, by omega⟩
        by_cases e : q = p
        · subst e; omega
        · exact h3 q (by omega) g2
    · simp only [decide_eq_false_iff_not] at hq
      exact T_ret (fun q g1 g2 => h3 q (by omega) g2)
  · intro e he
    cases e with
    | inl _ => exact T_ret (.inr ⟨rfl, he⟩)
    | inr r => exact T_ret he
theorem pagesS (t : Tariff) (h c : Int) : T (M.spec_PagesFor t h c) (fun r => (bif tarOk t && inR h 0 200 && inR c 0 1000000 then Pgs (fun p => feeOf t (mkB h p)) c r else r = (0, false))) := by
  unfold M.spec_PagesFor
  rw [tarS, Option.bind_some]
  cases ht : tarOk t
  · exact T_ret rfl
  rw [Bool.not_true, cond_false, l1InS, Option.bind_some, Bool.false_or]
  cases hh : inR h 0 200
  · exact T_ret rfl
  rw [Bool.not_true, cond_false, centsS, Option.bind_some, Bool.false_or]
  cases hc : inR c 0 1000000
  · exact T_ret rfl
  have hh := inR_true.1 hh
  show T _ (fun r => Pgs (fun p => feeOf t (mkB h p)) c r)
  rw [Bool.not_true, cond_false, fee0S t h 0 ht hh ⟨by omega, by omega⟩, Option.bind_some, Bool.false_or]
  refine T_if (fun hq => ?_) (fun hq => ?_)
  · simp only [decide_eq_true_eq] at hq
    refine T_ret (.inr ⟨rfl, fun q h1 h2 => ?_⟩)
    have := fee_mono (t := t) (h := h) ht h1
    simp only
    omega
  simp only [decide_eq_false_iff_not] at hq
  refine T.then (Q := fun p => Pgs (fun p => feeOf t (mkB h p)) c (p, true)) (T_iter (fun s => 0 ≤ s.1 ∧ s.1 ≤ s.2 ∧ s.2 ≤ 5000 ∧ feeOf t (mkB h s.1) ≤ c ∧ ∀ q, s.2 < q → q ≤ 5000 → c < feeOf t (mkB h q)) (fun s => (s.2 - s.1).toNat) _ ⟨by simp only; omega, by simp only; omega, by simp only; omega, by simp only; omega, fun q h1 h2 => by simp only at h1; omega⟩ (by simp only; omega) ?_) (fun p hp => T_ret hp)
  rintro ⟨lo, hi⟩ ⟨h1, h2, h3, h4, h5⟩
  simp only at h1 h2 h3 h4 h5
  unfold M.spec_PagesFor_l0
  try dsimp only
  refine T_if (fun hl => ?_) (fun hl => ?_)
  · simp only [decide_eq_true_eq] at hl
    have e : Int.tdiv (lo + hi + 1) 2 = (lo + hi + 1) / 2 := Int.tdiv_eq_ediv_of_nonneg (by omega)
    rw [wrap64_id (n := lo + hi) (by omega) (by omega), wrap64_id (n := lo + hi + 1) (by omega) (by omega), e, wrap64_id (n := (lo + hi + 1) / 2) (by omega) (by omega), fee0S t h _ ht hh ⟨by omega, by omega⟩, Option.bind_some]
    refine T.then (Q := fun s => 0 ≤ s.1 ∧ s.1 ≤ s.2 ∧ s.2 ≤ 5000 ∧ feeOf t (mkB h s.1) ≤ c ∧ (∀ q, s.2 < q → q ≤ 5000 → c < feeOf t (mkB h q)) ∧ s.2 - s.1 < hi - lo) ?_ ?_
    · refine T_if (fun hp => ?_) (fun hp => ?_)
      · simp only [decide_eq_true_eq] at hp
        exact T_ret ⟨by simp only; omega, by simp only; omega, h3, hp, h5, by simp only; omega⟩
      · simp only [decide_eq_false_iff_not] at hp
        rw [wrap64_id (by omega) (by omega)]
        refine T_ret ⟨h1, by simp only; omega, by simp only; omega, h4, fun q g1 g2 => ?_, by simp only; omega⟩
        simp only at g1
        have := fee_mono (t := t) (h := h) ht (show (lo + hi + 1) / 2 ≤ q by omega)
        omega
    · rintro ⟨l2, h2'⟩ ⟨g1, g2, g3, g4, g5, g6⟩
      simp only at g1 g2 g3 g4 g5 g6
      exact T_ret ⟨⟨g1, g2, g3, g4, g5⟩, by simp only; omega⟩
  · simp only [decide_eq_false_iff_not] at hl
    obtain rfl : lo = hi := by omega
    exact T_ret (.inl ⟨rfl, ⟨h1, h3⟩, h4, h5⟩)

/-! ### The cheaper tariff -/
def sumF (t : Tariff) : List Bill → Int
  | [] => 0
  | b :: l => feeOf t b + sumF t l
theorem sumF_snoc {t : Tariff} {b : Bill} : ∀ {l : List Bill}, sumF t (l ++ [b]) = sumF t l + feeOf t b
  | [] => by simp [sumF]
  | c :: l => by rw [List.cons_append, sumF, sumF, sumF_snoc]; omega
theorem sumF_bd {t : Tariff} (ht : tarOk t = true) : ∀ {l : List Bill}, (∀ b ∈ l, billOk b = true) → 0 ≤ sumF t l ∧ sumF t l ≤ 1000000 * (l.length : Int)
  | [], _ => by simp [sumF]
  | b :: l, h => by
    have h1 := feeOf_bd ht (h b (by simp))
    have h2 := sumF_bd ht (l := l) (fun c hc => h c (List.mem_cons_of_mem _ hc))
    rw [sumF, List.length_cons]
    omega
def CheapD (a b : Tariff) (l : List Bill) : Int × Bool := bif ((!(tarOk a) || !(tarOk b)) || !(billsOk l)) then (0, false) else (if sumF a l < sumF b l then 1 else if sumF a l > sumF b l then 2 else 0, true)
theorem cheapI (a b : Tariff) (l : List Bill) (hl : l.length < 1000000) : M.impl_CheaperTariff a b l = some (CheapD a b l) := by
  unfold M.impl_CheaperTariff CheapD
  rw [tarI, Option.bind_some]
  cases ha : tarOk a
  · rfl
  rw [Bool.not_true, cond_false, tarI, Option.bind_some]
  cases hb : tarOk b
  · rfl
  rw [Bool.not_true, Bool.or_self, cond_false, billsI l hl, Option.bind_some]
  cases hq : billsOk l
  · rfl
  obtain ⟨q1, q2, _⟩ := billsOk_spec hq
  rw [Bool.not_true, Bool.or_self, cond_false, cond_false, iter_up (s := ((0 : Int), (0 : Int))) (step := M.impl_CheaperTariff_l0 a b l) (e := sumF a l - sumF b l) (fun k => (sumF a (l.take k) - sumF b (l.take k), (k : Int))) l.length (by simp [sumF]) (by omega) (fun k hk => by
    have hk1 := q2 _ (getD_mem hk)
    have f1 := feeOf_bd ha hk1
    have f2 := feeOf_bd hb hk1
    have s1 := sumF_bd ha (l := l.take k) (fun c hc => q2 c (List.mem_of_mem_take hc))
    have s2 := sumF_bd hb (l := l.take k) (fun c hc => q2 c (List.mem_of_mem_take hc))
    have hlen : (l.take k).length ≤ 10 := by rw [List.length_take]; omega
    unfold M.impl_CheaperTariff_l0
    try dsimp only
    rw [decide_eq_true (by omega), cond_true, asrt_pos ⟨by omega, by omega⟩, Int.toNat_natCast, feeI a _ ha hk1, Option.bind_some, feeI b _ hb hk1, Option.bind_some, wrap64_id (n := feeOf a (l.getD k default) - feeOf b (l.getD k default)) (by omega) (by omega), wrap64_id (n := sumF a (l.take k) - sumF b (l.take k) + (feeOf a (l.getD k default) - feeOf b (l.getD k default))) (by omega) (by omega), wrap64_id (by omega) (by omega), take_succ_getD hk, sumF_snoc, sumF_snoc, cast_succ]
    congr 3
    omega) (by
    unfold M.impl_CheaperTariff_l0
    try dsimp only
    rw [decide_eq_false (by omega), cond_false, List.take_of_length_le (Nat.le_refl _)]), Option.bind_some]
  try dsimp only
  by_cases h1 : sumF a l < sumF b l
  · rw [decide_eq_true (by omega), cond_true, if_pos h1]
  · rw [decide_eq_false (by omega), cond_false, if_neg h1]
    by_cases h2 : sumF a l > sumF b l
    · rw [decide_eq_true (by omega), cond_true, if_pos h2]
    · rw [decide_eq_false (by omega), cond_false, if_neg h2]
theorem cheapS (a b : Tariff) (l : List Bill) (hl : l.length < 1000000) : M.spec_CheaperTariff a b l = some (CheapD a b l) := by
  unfold M.spec_CheaperTariff CheapD
  rw [tarS, Option.bind_some]
  cases ha : tarOk a
  · rfl
  rw [Bool.not_true, cond_false, tarS, Option.bind_some]
  cases hb : tarOk b
  · rfl
  rw [Bool.not_true, Bool.or_self, cond_false, billsS l hl, Option.bind_some]
  cases hq : billsOk l
  · rfl
  obtain ⟨q1, q2, _⟩ := billsOk_spec hq
  rw [Bool.not_true, Bool.or_self, cond_false, cond_false, iter_up (s := ((0 : Int), (0 : Int), (0 : Int))) (step := M.spec_CheaperTariff_l0 a b l) (e := (sumF a l, sumF b l)) (fun k => (sumF a (l.take k), sumF b (l.take k), (k : Int))) l.length (by simp [sumF]) (by omega) (fun k hk => by
    have hk1 := q2 _ (getD_mem hk)
    have f1 := feeOf_bd ha hk1
    have f2 := feeOf_bd hb hk1
    have s1 := sumF_bd ha (l := l.take k) (fun c hc => q2 c (List.mem_of_mem_take hc))
    have s2 := sumF_bd hb (l := l.take k) (fun c hc => q2 c (List.mem_of_mem_take hc))
    have hlen : (l.take k).length ≤ 10 := by rw [List.length_take]; omega
    unfold M.spec_CheaperTariff_l0
    try dsimp only
    rw [decide_eq_true (by omega), cond_true, asrt_pos ⟨by omega, by omega⟩, Int.toNat_natCast, feeS a _ ha hk1, Option.bind_some, asrt_pos ⟨by omega, by omega⟩, feeS b _ hb hk1, Option.bind_some, wrap64_id (n := sumF a (l.take k) + feeOf a (l.getD k default)) (by omega) (by omega), wrap64_id (n := sumF b (l.take k) + feeOf b (l.getD k default)) (by omega) (by omega), wrap64_id (by omega) (by omega), take_succ_getD hk, sumF_snoc, sumF_snoc, cast_succ]) (by
    unfold M.spec_CheaperTariff_l0
    try dsimp only
    rw [decide_eq_false (by omega), cond_false, List.take_of_length_le (Nat.le_refl _)]), Option.bind_some]
  try dsimp only
  by_cases h1 : sumF a l < sumF b l
  · rw [decide_eq_true h1, cond_true, if_pos h1]
  · rw [decide_eq_false h1, cond_false, if_neg h1]
    by_cases h2 : sumF a l > sumF b l
    · rw [decide_eq_true (by omega), cond_true, if_pos h2]
    · rw [decide_eq_false (by omega), cond_false, if_neg h2]
theorem cheap_swap (a b : Tariff) (l : List Bill) : (CheapD b a l).2 = (CheapD a b l).2 ∧ (0 ≤ (CheapD a b l).1 ∧ (CheapD a b l).1 ≤ 2) ∧ (0 ≤ (CheapD b a l).1 ∧ (CheapD b a l).1 ≤ 2) ∧ ((CheapD a b l).1 + (CheapD b a l).1 = 0 ∨ (CheapD a b l).1 + (CheapD b a l).1 = 3) := by
  unfold CheapD
  cases tarOk a <;> cases tarOk b <;> cases billsOk l <;> simp only [Bool.not_true, Bool.not_false, Bool.or_self, Bool.or_true, Bool.true_or, Bool.or_false, Bool.false_or, cond_true, cond_false] <;> try exact ⟨trivial, by omega, by omega, by omega⟩

/-! ### The text of a bill -/
theorem pad_text {f : Int} (h : 0 ≤ f ∧ f ≤ 1000000) : ∃ u : Nat, u < 100 ∧ Int.tmod f 100 = (u : Int) ∧ Int.tmod (IntKind.i64.wrap (Int.tdiv f 10)) 10 = ((u / 10 : Nat) : Int) ∧ Int.tmod f 10 = ((u % 10 : Nat) : Int) := by
  refine ⟨(f % 100).toNat, by omega, ?_, ?_, ?_⟩
  · rw [Int.tmod_eq_emod_of_nonneg h.1]; omega
  · rw [Int.tdiv_eq_ediv_of_nonneg h.1, wrap64_id (by omega) (by omega), Int.tmod_eq_emod_of_nonneg (by omega)]; omega
  · rw [Int.tmod_eq_emod_of_nonneg h.1]; omega
theorem padI {u : Nat} (h : u < 100) : M.impl_padded (u : Int) 2 = some (numN (u / 10) ++ numN (u % 10)) := by
  unfold M.impl_padded
  rw [decI _ (by omega) (by omega), Option.bind_some, numT_nat]
  rcases Nat.lt_or_ge u 10 with h9 | h9
  · rw [iter_up (s := numN u) (step := M.impl_padded_l0 2) (e := [48] ++ numN u) (fun k => (bif decide (k = 0) then numN u else [48] ++ numN u)) 1 rfl (by omega) (fun k hk => by
      obtain rfl : k = 0 := by omega
      unfold M.impl_padded_l0
      try dsimp only
      rw [decide_eq_true rfl, cond_true, numN_small h9]
      rfl) (by
      show M.impl_padded_l0 2 ([48] ++ numN u) = _
      unfold M.impl_padded_l0
      try dsimp only
      rw [numN_small h9]
      rfl), Option.bind_some, show u / 10 = 0 by omega, show u % 10 = u by omega, numN_small (show 0 < 10 by omega)]
    rfl
  · have e : numN u = numN (u / 10) ++ numN (u % 10) := by rw [numN_big h9, numN_small (show u % 10 < 10 by omega)]
    have hl : (numN u).length = 2 := by rw [e, numN_small (show u / 10 < 10 by omega), numN_small (show u % 10 < 10 by omega)]; rfl
    rw [iter_up (s := numN u) (step := M.impl_padded_l0 2) (e := numN u) (fun k => numN u) 0 rfl (by omega) (fun k hk => absurd hk (Nat.not_lt_zero _)) (by
      unfold M.impl_padded_l0
      try dsimp only
      rw [hl]
      rfl), Option.bind_some, e]
def billTxt (t : Tariff) (b : Bill) : List UInt8 :=
  (((([98, 105, 108, 108, 32] ++ numT b.Id) ++ [58, 32]) ++ numT (IntKind.i64.wrap (Int.tdiv (feeOf t b) 100))) ++ [46]) ++ (numT (Int.tmod (IntKind.i64.wrap (Int.tdiv (feeOf t b) 10)) 10) ++ numT (Int.tmod (feeOf t b) 10))
def TxtD (t : Tariff) (b : Bill) : List UInt8 × Bool :=
  bif !(tarOk t) || !(billOk b) then ([], false) else (bif decide (feeOf t (mkB b.Hours b.Pages) > feeOf t b) then (billTxt t b ++ [32, 40, 114, 101, 100, 117, 99, 101, 100, 41], true) else (billTxt t b, true))
theorem txt_len {t : Tariff} {b : Bill} (ht : tarOk t = true) (hb : billOk b = true) : (numT b.Id).length ≤ 2000 ∧ (numT (IntKind.i64.wrap (Int.tdiv (feeOf t b) 100))).length ≤ 20000 ∧ (0 ≤ IntKind.i64.wrap (Int.tdiv (feeOf t b) 100) ∧ IntKind.i64.wrap (Int.tdiv (feeOf t b) 100) ≤ 10000) := by
  have h1 := (billOk_spec hb).1
  have h2 := feeOf_bd ht hb
  have e : Int.tdiv (feeOf t b) 100 = feeOf t b / 100 := Int.tdiv_eq_ediv_of_nonneg h2.1
  have e2 : IntKind.i64.wrap (feeOf t b / 100) = feeOf t b / 100 := wrap64_id (by omega) (by omega)
  have g1 := numT_len (n := b.Id)
  have g2 := numT_len (n := feeOf t b / 100)
  rw [e, e2]
  omega
theorem txtI (t : Tariff) (b : Bill) : M.impl_BillText t b = some (TxtD t b) := by
  unfold M.impl_BillText TxtD
  rw [tarI, Option.bind_some]
  cases ht : tarOk t
  · rfl
  rw [Bool.not_true, cond_false, billI, Option.bind_some]
  cases hb : billOk b
  · rfl
  obtain ⟨l1, l2, l3⟩ := txt_len ht hb
  have hbs := billOk_spec hb
  obtain ⟨u, u1, u2, u3, u4⟩ := pad_text (feeOf_bd ht hb)
  have g1 := numN_len (u / 10)
  have g2 := numN_len (u % 10)
  have hm := fee0I t b.Hours b.Pages ht hbs.2.1 hbs.2.2.1
  rw [Bool.not_true, Bool.or_self, cond_false, cond_false, feeI t b ht hb, Option.bind_some, decI _ (by omega) (by omega), Option.bind_some, asrt_pos (by simp only [List.length_cons, List.length_nil]; omega), asrt_pos (by simp only [List.length_append, List.length_cons, List.length_nil]; omega), decI _ (by omega) (by omega), Option.bind_some, asrt_pos (by simp only [List.length_append, List.length_cons, List.length_nil]; omega), asrt_pos (by simp only [List.length_append, List.length_cons, List.length_nil]; omega), u2, padI u1, Option.bind_some, asrt_pos (by simp only [List.length_append, List.length_cons, List.length_nil]; omega), hm, Option.bind_some]
  have e : billTxt t b = (((([98, 105, 108, 108, 32] ++ numT b.Id) ++ [58, 32]) ++ numT (IntKind.i64.wrap (Int.tdiv (feeOf t b) 100))) ++ [46]) ++ (numN (u / 10) ++ numN (u % 10)) := by
    unfold billTxt
    rw [u3, u4, numT_nat, numT_nat]
  rw [e]
  cases decide (feeOf t (mkB b.Hours b.Pages) > feeOf t b)
  · rfl
  · rw [cond_true, cond_true, asrt_pos (by simp only [List.length_append, List.length_cons, List.length_nil]; omega)]
theorem txtS (t : Tariff) (b : Bill) : M.spec_BillText t b = some (TxtD t b) := by
  unfold M.spec_BillText TxtD
  rw [tarS, Option.bind_some]
  cases ht : tarOk t
  · rfl
  rw [Bool.not_true, cond_false, billS, Option.bind_some]
  cases hb : billOk b
  · rfl
  obtain ⟨l1, l2, l3⟩ := txt_len ht hb
  have hbs := billOk_spec hb
  obtain ⟨u, u1, u2, u3, u4⟩ := pad_text (feeOf_bd ht hb)
  have g1 := numN_len (u / 10)
  have g2 := numN_len (u % 10)
  have hm := fee0S t b.Hours b.Pages ht hbs.2.1 hbs.2.2.1
  rw [Bool.not_true, Bool.or_self, cond_false, cond_false, feeS t b ht hb, Option.bind_some, numS _ (by omega) (by omega), Option.bind_some, asrt_pos (by simp only [List.length_cons, List.length_nil]; omega), asrt_pos (by simp only [List.length_append, List.length_cons, List.length_nil]; omega), numS _ (by omega) (by omega), Option.bind_some, asrt_pos (by simp only [List.length_append, List.length_cons, List.length_nil]; omega), asrt_pos (by simp only [List.length_append, List.length_cons, List.length_nil]; omega), u3, u4, numS _ (by omega) (by omega), Option.bind_some, numT_nat, asrt_pos (by simp only [List.length_append, List.length_cons, List.length_nil]; omega), numS _ (by omega) (by omega), Option.bind_some, numT_nat, asrt_pos (by simp only [List.length_append, List.length_cons, List.length_nil]; omega), hm, Option.bind_some]
  have e : billTxt t b = ((((([98, 105, 108, 108, 32] ++ numT b.Id) ++ [58, 32]) ++ numT (IntKind.i64.wrap (Int.tdiv (feeOf t b) 100))) ++ [46]) ++ numN (u / 10)) ++ numN (u % 10) := by
    unfold billTxt
    rw [u3, u4, numT_nat, numT_nat, ← List.append_assoc]
  rw [e]
  cases decide (feeOf t (mkB b.Hours b.Pages) > feeOf t b)
  · rfl
  · rw [cond_true, cond_true, asrt_pos (by simp only [List.length_append, List.length_cons, List.length_nil]; omega)]

/-! ### The law -/
theorem dFeeOf {code : List Int} (hb : Bytes code) : T (M.spec_DrawFeeOf code) (fun _ => True) := by
  unfold M.spec_DrawFeeOf
  refine (drawTariff hb good0b (by omega)).then ?_
  rintro ⟨t, c1⟩ h1
  refine (drawBill hb h1 (by omega) _).then ?_
  rintro ⟨b, c2⟩ _
  exact T_ret trivial
theorem law_FnFees (code : List Int) (h1 : code.length ≤ 9223372036854775807) (h2 : ∀ x, x ∈ code → 0 ≤ x ∧ x ≤ 255) : M.laws_FnFees code = some true := by
  apply T.eq
  unfold M.laws_FnFees M.laws_rBig
  rw [Option.bind_some]
  refine T_if (fun _ => T_ret rfl) (fun hq => ?_)
  simp only [decide_eq_false_iff_not] at hq
  have hb : Bytes code := ⟨by omega, h2⟩
  refine (dFeeOf hb).then ?_
  rintro ⟨t, b⟩ _
  dsimp only
  rw [feeDI, Option.bind_some, feeDS, Option.bind_some, bne_self_eq_false, beq_self_eq_true, Bool.not_true, Bool.or_self]
  simp only [cond_false, Bool.false_or]
  rw [tarI, Option.bind_some, billsI [b] (by simp), billsOk_one]
  have e5 : ((bif tarOk t then some (billOk b) else some default : Option Bool)) = some (bif tarOk t then billOk b else default) := by cases tarOk t <;> rfl
  rw [e5, Option.bind_some]
  have e6 : ((FeeD t b).2 == (tarOk t && bif tarOk t then billOk b else default)) = true := by
    unfold FeeD
    cases tarOk t <;> cases billOk b <;> rfl
  rw [e6, Bool.not_true, cond_false]
  refine T.then (Q := fun e => e = .inl ()) ?_ ?_
  · refine T_if (fun ho => ?_) (fun _ => T_ret rfl)
    have hok : tarOk t = true ∧ billOk b = true := by
      unfold FeeD at ho
      cases ht : tarOk t
      · rw [ht] at ho; cases ho
      · cases hbb : billOk b
        · rw [ht, hbb] at ho; cases ho
        · exact ⟨rfl, rfl⟩
    obtain ⟨ht, hbb⟩ := hok
    have hbs := billOk_spec hbb
    obtain ⟨w1, w2, w3⟩ := fee_whole ht hbb
    have eF : FeeD t b = (feeOf t b, true) := by unfold FeeD; rw [ht, hbb]; rfl
    have eG : FeeD t (mkB b.Hours b.Pages) = (feeOf t (mkB b.Hours b.Pages), true) := by unfold FeeD; rw [ht, mkB_ok hbs.2.1 hbs.2.2.1]; rfl
    rw [feeDI, Option.bind_some]
    show T (bif ((((!(FeeD t (mkB b.Hours b.Pages)).2) || (decide ((FeeD t b).1 > (FeeD t (mkB b.Hours b.Pages)).1))) || (decide ((FeeD t (mkB b.Hours b.Pages)).1 > t.Limit))) || (decide ((FeeD t b).1 < (0 : Int)))) then _ else _) _
    rw [eF, eG]
    dsimp only
    rw [decide_eq_false (by omega), decide_eq_false (by omega), decide_eq_false (by omega)]
    exact T_ret rfl
  rintro _ rfl
  dsimp only
  have d2 : T (M.spec_DrawPagesFor code) (fun _ => True) := by
    unfold M.spec_DrawPagesFor
    refine (drawTariff hb good0b (by omega)).then ?_
    rintro ⟨t, c1⟩ g1
    refine T_pick hb g1 (by omega) ?_
    intro x c2 _ hx g2
    have hx := hx (by omega)
    have e1 : Int.tdiv x 11 = x / 11 := Int.tdiv_eq_ediv_of_nonneg hx.1
    dsimp only
    rw [e1, wrap64_id (n := x / 11) (by omega) (by omega), wrap64_id (by omega) (by omega)]
    refine T_ask ⟨by omega, by omega, by simp; omega⟩ ?_
    refine T_among hb g2 (by omega) ?_ ?_
    · intro e
      have := congrArg List.length e
      simp [slc] at this
      omega
    · intro y c3 _ g3
      refine (drawCents hb g3 (by omega)).then ?_
      rintro ⟨z, c4⟩ _
      exact T_ret trivial
  refine d2.then ?_
  rintro ⟨x, hours, cents⟩ _
  dsimp only
  obtain ⟨r, r1, r2⟩ := pagesI x hours cents
  obtain ⟨s, s1, s2⟩ := pagesS x hours cents
  have ers : s = r := by
    cases hc : tarOk x && inR hours 0 200 && inR cents 0 1000000
    · rw [hc, cond_false] at r2 s2; rw [r2, s2]
    · rw [hc, cond_true] at r2 s2; exact s2.uniq r2
  rw [r1, Option.bind_some, s1, Option.bind_some, ers, bne_self_eq_false, beq_self_eq_true, Bool.not_true, Bool.or_self, cond_false]
  refine T.then (Q := fun e => e = .inl ()) ?_ ?_
  · refine T_if (fun ho => ?_) (fun _ => T_ret rfl)
    cases hc : tarOk x && inR hours 0 200 && inR cents 0 1000000
    · rw [hc, cond_false] at r2; rw [r2] at ho; cases ho
    rw [hc, cond_true] at r2
    simp only [Bool.and_eq_true] at hc
    obtain ⟨⟨ht, hh⟩, _⟩ := hc
    have hh := inR_true.1 hh
    rcases r2 with ⟨_, p2, p3, p4⟩ | ⟨p1, _⟩
    · simp only at p3 p4
      rw [feeDI, Option.bind_some, feeDI, Option.bind_some, wrap64_id (n := r.1 + 1) (by omega) (by omega)]
      have eG : FeeD x (⟨1, hours, r.1, false, false, 0⟩ : Bill) = (feeOf x (mkB hours r.1), true) := by
        show FeeD x (mkB hours r.1) = _
        unfold FeeD
        rw [ht, mkB_ok hh p2]; rfl
      rw [eG]
      dsimp only
      rw [decide_eq_false (by omega), Bool.not_true, Bool.or_self, Bool.false_or]
      have hlast : ((FeeD x (⟨1, hours, r.1 + 1, false, false, 0⟩ : Bill)).2 && decide ((FeeD x (⟨1, hours, r.1 + 1, false, false, 0⟩ : Bill)).1 ≤ cents)) = false := by
        show ((FeeD x (mkB hours (r.1 + 1))).2 && decide ((FeeD x (mkB hours (r.1 + 1))).1 ≤ cents)) = false
        unfold FeeD
        rw [ht]
        cases hbb : billOk (mkB hours (r.1 + 1))
        · rfl
        · have hp := (billOk_spec hbb).2.2.1
          have hp' : r.1 + 1 ≤ 5000 := hp.2
          have := p4 (r.1 + 1) (by omega) hp'
          simp only [Bool.not_true, Bool.or_self, cond_false, Bool.true_and, decide_eq_false_iff_not]
          omega
      rw [hlast]
      exact T_ret rfl
    · rw [p1] at ho; cases ho
  rintro _ rfl
  dsimp only
  have d3 : T (M.spec_DrawCheaperTariff code) (fun r => r.2.2.length ≤ 20) := by
    unfold M.spec_DrawCheaperTariff
    refine (drawTariff hb good0b (by omega)).then ?_
    rintro ⟨t, c1⟩ g1
    refine (drawTariff hb g1 (by omega)).then ?_
    rintro ⟨t2, c2⟩ g2
    refine (drawBills hb g2 (by omega)).then ?_
    rintro ⟨l, c3⟩ ⟨g3, _⟩
    exact T_ret g3
  refine d3.then ?_
  rintro ⟨p, q, l⟩ hl
  simp only at hl
  dsimp only
  obtain ⟨w1, w2, w3, w4⟩ := cheap_swap p q l
  rw [cheapI p q l (by omega), Option.bind_some, cheapI q p l (by omega), Option.bind_some, cheapS p q l (by omega), Option.bind_some, bne_self_eq_false, beq_self_eq_true, w1, beq_self_eq_true, Bool.not_true, Bool.or_self, Bool.or_self, Bool.false_or, wrap64_id (by omega) (by omega)]
  have e7 : (Int.tmod ((CheapD p q l).1 + (CheapD q p l).1) 3 != 0) = false := by
    rcases w4 with h | h <;> rw [h] <;> rfl
  rw [e7, Bool.and_false, cond_false]
  have d4 : T (M.spec_DrawBillText code) (fun _ => True) := by
    unfold M.spec_DrawBillText
    refine (dFeeOf hb).then ?_
    rintro ⟨t, b⟩ _
    exact T_ret trivial
  refine d4.then ?_
  rintro ⟨u, v⟩ _
  dsimp only
  rw [txtI, Option.bind_some, txtS, Option.bind_some]
  exact T_ret (by simp)
end Go.Proofs.YtfebeomnlkfgoaaDoor
