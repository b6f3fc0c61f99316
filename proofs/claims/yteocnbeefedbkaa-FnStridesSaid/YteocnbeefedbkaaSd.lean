/-
  Strides: what a stride takes; sizes; seeds. Plain.
-/
import Derived.Test.YteocnbeefedbkaaSb
set_option linter.unusedSimpArgs false
set_option linter.unusedVariables false
namespace Go.Proofs.Yteocnbeefedbkaa
open Go.VS

/-! ### Every k-th -/
/-- What the stride k takes that begins at i, of the first m. -/
def sdSel (l : List Int) (k i : Nat) : Nat → List Int
  | 0 => []
  | m + 1 => sdSel l k i m ++ (if m % k = i ∧ m < l.length then [l.getD m default] else [])
theorem sdSel_no {l : List Int} {k i : Nat} (m : Nat) : ∀ d : Nat, (∀ e, e < d → ¬ ((m + e) % k = i ∧ m + e < l.length)) → sdSel l k i (m + d) = sdSel l k i m
  | 0, _ => rfl
  | d + 1, h => by
    rw [← Nat.add_assoc, sdSel, if_neg (h d (by omega)), List.append_nil]
    exact sdSel_no m d fun e he => h e (by omega)
theorem sdSel_mem {l : List Int} {k i : Nat} : ∀ (m : Nat), ∀ x ∈ sdSel l k i m, x ∈ l
  | 0, x, h => by cases h
  | m + 1, x, h => by
    rw [sdSel, List.mem_append] at h
    rcases h with h | h
    · exact sdSel_mem m x h
    · split at h
      · rename_i h2
        rw [List.mem_singleton] at h
        rw [h]; exact getD_mem h2.2
      · cases h
/-- How many of the first m are taken by the starts below i. -/
def sdCt (k i : Nat) : Nat → Nat
  | 0 => 0
  | m + 1 => sdCt k i m + (if m % k < i then 1 else 0)
theorem sdCt_zero (k : Nat) : ∀ m, sdCt k 0 m = 0
  | 0 => rfl
  | m + 1 => by rw [sdCt, sdCt_zero k m]; simp
theorem sdCt_all {k : Nat} (hk : 0 < k) : ∀ m, sdCt k k m = m
  | 0 => rfl
  | m + 1 => by rw [sdCt, sdCt_all hk m, if_pos (Nat.mod_lt m hk)]
theorem sdCt_next {l : List Int} {k i : Nat} : ∀ m, m ≤ l.length → sdCt k (i + 1) m = sdCt k i m + (sdSel l k i m).length
  | 0, _ => rfl
  | m + 1, h => by
    have ih := sdCt_next (l := l) (k := k) (i := i) m (by omega)
    rw [sdCt, sdCt, sdSel, ih, List.length_append]
    by_cases h1 : m % k = i
    · rw [if_pos (by omega), if_neg (by omega), if_pos ⟨h1, by omega⟩]; simp; omega
    · by_cases h2 : m % k < i
      · rw [if_pos (by omega), if_pos h2, if_neg (fun h => h1 h.1)]; simp; omega
      · rw [if_neg (by omega), if_neg h2, if_neg (fun h => h1 h.1)]; simp
theorem sdCt_le {k i : Nat} : ∀ m, sdCt k i m ≤ m
  | 0 => Nat.le_refl _
  | m + 1 => by have := sdCt_le (k := k) (i := i) m; rw [sdCt]; split <;> omega
theorem sdSel_len {l : List Int} {k i : Nat} : ∀ m, (sdSel l k i m).length ≤ m
  | 0 => Nat.le_refl _
  | m + 1 => by have := sdSel_len (l := l) (k := k) (i := i) m; rw [sdSel, List.length_append]; split <;> simp <;> omega
theorem sdMod {k i t e : Nat} (hi : i < k) (he : e < k) : (i + t * k + e) % k = i ↔ e = 0 := by
  have h1 : (i + t * k + e) % k = (i + e) % k := by
    rw [show i + t * k + e = i + e + t * k by omega, Nat.add_mul_mod_self_right]
  rw [h1]
  by_cases h : i + e < k
  · rw [Nat.mod_eq_of_lt h]; omega
  · rw [Nat.mod_eq_sub_mod (by omega), Nat.mod_eq_of_lt (by omega)]; omega
def sdEv (l : List Int) (k i : Nat) : List Int := sdSel l k i l.length
theorem sdLoop {step : (List Int × Int) → Option ((List Int × Int) ⊕ List Int)} (l : List Int) (k i : Nat) (hl : l.length ≤ 30) (hk : 0 < k ∧ k ≤ 20) (hi : i < k) (hst : step = M.impl_EveryNth_l0 l (k : Int)) :
    iterO step (([] : List Int), (i : Int)) = some (sdEv l k i) := by
  subst hst
  apply T.eq
  refine T_iter (fun s => ∃ t : Nat, s.2 = ((i + t * k : Nat) : Int) ∧ s.1 = sdSel l k i (i + t * k) ∧ i + t * k ≤ l.length + k) (fun s => 100 - s.2.toNat) _ ⟨0, by simp, ?_, by omega⟩ (by simp only; omega) ?_
  · rw [Nat.zero_mul, Nat.add_zero]
    have h := sdSel_no (l := l) (k := k) (i := i) 0 i fun e he h => by rw [Nat.zero_add, Nat.mod_eq_of_lt (by omega)] at h; omega
    rw [Nat.zero_add] at h
    exact h.symm
  · rintro ⟨out, _⟩ ⟨t, rfl, h1, h2⟩
    simp only at h1 h2
    subst h1
    unfold M.impl_EveryNth_l0
    dsimp only
    refine T_if (fun hq => ?_) (fun hq => ?_)
    · simp only [decide_eq_true_eq] at hq
      have hlen := sdSel_len (l := l) (k := k) (i := i) (i + t * k)
      refine T_ask ⟨by omega, hq⟩ (T_ask (by rw [List.length_singleton]; omega) ?_)
      rw [Int.toNat_natCast, wrap64_id (by omega) (by omega)]
      have e : ((i + t * k : Nat) : Int) + (k : Int) = ((i + (t + 1) * k : Nat) : Int) := by rw [Nat.add_mul]; omega
      refine T_ret ⟨⟨t + 1, by rw [e], ?_, by rw [Nat.add_mul]; omega⟩, by simp only; omega⟩
      simp only
      have h3 : sdSel l k i (i + t * k + 1) = sdSel l k i (i + t * k) ++ [l.getD (i + t * k) default] := by
        rw [sdSel, if_pos ⟨(sdMod (e := 0) hi hk.1).2 rfl, by omega⟩]
      rw [show i + (t + 1) * k = i + t * k + 1 + (k - 1) by rw [Nat.add_mul]; omega, sdSel_no _ (k - 1) ?_, h3]
      intro e he hh
      have := (sdMod (t := t) (e := e + 1) hi (by omega)).1 (by rw [← hh.1]; congr 1; omega)
      omega
    · simp only [decide_eq_false_iff_not] at hq
      refine T_ret ?_
      simp only
      have := sdSel_no (l := l) (k := k) (i := i) l.length (i + t * k - l.length) fun e _ h => by omega
      rw [show l.length + (i + t * k - l.length) = i + t * k by omega] at this
      exact this
def sdEvD (l : List Int) (k s : Int) : List Int × Bool := bif (popOk l && inR k 1 20) && inR s 0 (k - 1) then (sdEv l k.toNat s.toNat, true) else ([], false)
theorem sdEvI (l : List Int) (k s : Int) (hl : l.length ≤ 30) (hk : -1000 ≤ k ∧ k ≤ 1000) : M.impl_EveryNth l k s = some (sdEvD l k s) := by
  unfold M.impl_EveryNth sdEvD
  rw [popI l (by omega), Option.bind_some, withinI]
  cases popOk l
  · rfl
  cases h1 : inR k 1 20
  · rfl
  rw [wrap64_id (by omega) (by omega)]
  simp only [Bool.not_true, cond_false, Option.bind_some, Bool.or_self, Bool.true_and, withinI]
  cases h2 : inR s 0 (k - 1)
  · rfl
  rw [inR_true] at h1 h2
  simp only [Bool.not_true, cond_false, Option.bind_some, cond_true]
  have h := sdLoop l k.toNat s.toNat hl ⟨by omega, by omega⟩ (by omega) rfl
  rw [show ((k.toNat : Nat) : Int) = k by omega, show ((s.toNat : Nat) : Int) = s by omega] at h
  rw [h]; rfl
theorem sdEvS (l : List Int) (k s : Int) (hl : l.length ≤ 30) (hk : -1000 ≤ k ∧ k ≤ 1000) : M.spec_EveryNth l k s = some (sdEvD l k s) := by
  unfold M.spec_EveryNth sdEvD
  rw [popS l (by omega), Option.bind_some, l1InS]
  cases popOk l
  · rfl
  cases h1 : inR k 1 20
  · rfl
  rw [wrap64_id (by omega) (by omega)]
  simp only [Bool.not_true, cond_false, Option.bind_some, Bool.or_self, Bool.true_and, l1InS]
  cases h2 : inR s 0 (k - 1)
  · rfl
  rw [inR_true] at h1 h2
  simp only [Bool.not_true, cond_false, Option.bind_some, cond_true]
  have h := sdLoop (step := M.spec_EveryNth_l0 l k) l k.toNat s.toNat hl ⟨by omega, by omega⟩ (by omega) (by rw [show ((k.toNat : Nat) : Int) = k by omega]; rfl)
  rw [show ((s.toNat : Nat) : Int) = s by omega] at h
  rw [h]; rfl
theorem sdEvD_len {l : List Int} {k s : Int} (hl : l.length ≤ 30) : (sdEvD l k s).1.length ≤ 30 := by
  unfold sdEvD
  cases (popOk l && inR k 1 20) && inR s 0 (k - 1) with
  | false => simp
  | true =>
    have := sdSel_len (l := l) (k := k.toNat) (i := s.toNat) l.length
    show (sdEv l k.toNat s.toNat).length ≤ 30
    unfold sdEv
    omega
/-- All starts together take each number once. -/
theorem sdParts (y : List Int × Int × Int) (hl : y.1.length ≤ 30) (hp : popOk y.1 = true) (hk : 1 ≤ y.2.1 ∧ y.2.1 ≤ 20) : iterO (M.laws_FnStrides_l0 y) ((0 : Int), (0 : Int)) = some (.inl (y.1.length : Int)) := by
  obtain ⟨l, k, z⟩ := y
  simp only at hl hp hk
  have hK : ((k.toNat : Nat) : Int) = k := by omega
  have h := iter_up (step := M.laws_FnStrides_l0 (l, k, z)) (s := ((0 : Int), (0 : Int))) (e := .inl ((sdCt k.toNat k.toNat l.length : Nat) : Int)) (fun i => (((sdCt k.toNat i l.length : Nat) : Int), (i : Int))) k.toNat (by rw [sdCt_zero]; rfl) (by omega) (fun i hi => by
    unfold M.laws_FnStrides_l0
    dsimp only
    have he : sdEvD l k (i : Int) = (sdEv l k.toNat i, true) := by
      unfold sdEvD
      rw [hp, show inR k 1 20 = true from inR_true.2 hk, show inR (i : Int) 0 (k - 1) = true from inR_true.2 (by omega)]; rfl
    have hle := sdSel_len (l := l) (k := k.toNat) (i := i) l.length
    have hv := vWithinA (sdEv l k.toNat i) l (by unfold sdEv; omega) (by omega) (fun x hx => sdSel_mem _ x hx)
    have hcl := sdCt_le (k := k.toNat) (i := i) l.length
    rw [show decide ((i : Int) < k) = true by simp; omega, cond_true, sdEvI l k (i : Int) hl (by omega), he]
    simp only [Option.bind_some, Bool.not_true, cond_false, hv, Bool.or_self]
    have hn := sdCt_next (l := l) (k := k.toNat) (i := i) l.length (Nat.le_refl _)
    rw [wrap64_id (by unfold sdEv; omega) (by unfold sdEv; omega), wrap64_id (by omega) (by omega), hn]
    unfold sdEv
    congr 3) (by
    unfold M.laws_FnStrides_l0
    dsimp only
    rw [show decide (((k.toNat : Nat) : Int) < k) = false by simp; omega]
    rfl)
  rw [h, sdCt_all (by omega)]

/-! ### Sizes -/
def sdC : List Int := [0, 1, 7, 10, 20, 21, -1]
def sdP : List Int := [0, 1, 10, 33, 50, 100, 101, -1]
def sdL : List Int := [0, 1, 2, 5, 20, 21, -1]
def sdSizeOk (c p l : Int) : Bool :=
  match M.impl_SampleSize c p l, M.spec_SampleSize c p l with
  | some a, some b => !((((a.1 != b.1) || (!(a.2 == b.2))) || (a.2 && ((decide (a.1 > c)) || ((decide (a.1 < c)) && ((decide (a.1 < l)) || (decide ((IntKind.i64.wrap ((100 : Int) * a.1)) < (IntKind.i64.wrap (p * c))))))))))
  | _, _ => false
theorem sdSizes : (sdC.all fun c => sdP.all fun p => sdL.all fun l => sdSizeOk c p l) = true := by decide +kernel
theorem sdSize {c p l : Int} (hc : c ∈ sdC) (hp : p ∈ sdP) (hl : l ∈ sdL) : ∃ a b, M.impl_SampleSize c p l = some a ∧ M.spec_SampleSize c p l = some b ∧
    (((a.1 != b.1) || (!(a.2 == b.2))) || (a.2 && ((decide (a.1 > c)) || ((decide (a.1 < c)) && ((decide (a.1 < l)) || (decide ((IntKind.i64.wrap ((100 : Int) * a.1)) < (IntKind.i64.wrap (p * c))))))))) = false := by
  have h := List.all_eq_true.1 (List.all_eq_true.1 (List.all_eq_true.1 sdSizes c hc) p hp) l hl
  unfold sdSizeOk at h
  split at h
  · rename_i a b h1 h2
    exact ⟨a, b, h1, h2, by rw [Bool.not_eq_true'] at h; exact h⟩
  · cases h
def sdP2 : List Int := [0, 10, 50, 60, 100, 101]
/-- How many of n are drawn at p percent. -/
def sdZ (n p : Int) : Int := (M.impl_sampleSize n p 1).getD 0
def sdZOk (n p : Int) : Bool := (M.impl_sampleSize n p 1 == some (sdZ n p)) && (M.spec_l12Size n p 1 == some (sdZ n p)) && decide (0 ≤ sdZ n p) && decide (sdZ n p ≤ n) && (n == 0 || decide (1 ≤ sdZ n p)) && decide (p * n ≤ 100 * sdZ n p)
theorem sdZs : (([0, 1, 2, 3, 4, 5, 6, 7, 8, 9, 10] : List Int).all fun n => ([0, 10, 50, 60, 100] : List Int).all fun p => sdZOk n p) = true := by decide +kernel
theorem sdZ_ok {n p : Int} (hn : 0 ≤ n ∧ n ≤ 10) (hp : p ∈ ([0, 10, 50, 60, 100] : List Int)) : M.impl_sampleSize n p 1 = some (sdZ n p) ∧ M.spec_l12Size n p 1 = some (sdZ n p) ∧ (0 ≤ sdZ n p ∧ sdZ n p ≤ n) ∧ (n ≠ 0 → 1 ≤ sdZ n p) ∧ p * n ≤ 100 * sdZ n p := by
  have hm : n ∈ ([0, 1, 2, 3, 4, 5, 6, 7, 8, 9, 10] : List Int) := by simp; omega
  have h := List.all_eq_true.1 (List.all_eq_true.1 sdZs n hm) p hp
  unfold sdZOk at h
  simp only [Bool.and_eq_true, beq_iff_eq, decide_eq_true_eq, Bool.or_eq_true] at h
  refine ⟨h.1.1.1.1.1, h.1.1.1.1.2, ⟨h.1.1.1.2, h.1.1.2⟩, fun hn => ?_, h.2⟩
  rcases h.1.2 with h2 | h2
  · exact absurd h2 hn
  · exact h2

/-! ### Seeds -/
def nxtN : Nat → Int → Int
  | 0, s => s
  | n + 1, s => nxtN n (nxt s)
theorem nxtN_last : ∀ (n : Nat) (s : Int), nxtN (n + 1) s = nxt (nxtN n s)
  | 0, _ => rfl
  | n + 1, s => nxtN_last n (nxt s)
theorem nxtN_bd : ∀ (n : Nat) {s : Int}, (0 ≤ s ∧ s ≤ 99999) → 0 ≤ nxtN n s ∧ nxtN n s ≤ 99999
  | 0, _, h => h
  | n + 1, _, h => nxtN_bd n (nxt_bd h)
theorem nsLoop {step : (Int × Int) → Option ((Int × Int) ⊕ Int)} (n : Nat) (s0 : Int) (hn : n ≤ 1000) (hst : step = M.impl_NextSeed_l0 (n : Int)) : iterO step (s0, (0 : Int)) = some (nxtN n s0) := by
  subst hst
  refine iter_up (fun k => (nxtN k s0, (k : Int))) n rfl (by omega) (fun k hk => ?_) ?_
  · unfold M.impl_NextSeed_l0
    dsimp only
    rw [show decide ((k : Int) < (n : Int)) = true by simpa using hk, cond_true, show M.impl_nextSeed (nxtN k s0) = some (nxt (nxtN k s0)) from rfl, Option.bind_some, wrap64_id (by omega) (by omega), cast_succ, nxtN_last]
  · unfold M.impl_NextSeed_l0
    dsimp only
    rw [show decide ((n : Int) < (n : Int)) = false by simp]
    rfl
def NsD (s t : Int) : Int × Bool := bif inR s 0 99999 && inR t 0 1000 then (nxtN t.toNat s, true) else (0, false)
theorem nsI (s t : Int) : M.impl_NextSeed s t = some (NsD s t) := by
  unfold M.impl_NextSeed NsD
  rw [show M.impl_isSeed s = some (inR s 0 99999) from rfl, Option.bind_some]
  cases inR s 0 99999
  · rfl
  simp only [Bool.not_true, cond_false, withinI, Option.bind_some, Bool.false_or, Bool.true_and]
  cases h : inR t 0 1000
  · rfl
  rw [inR_true] at h
  simp only [Bool.not_true, cond_false, cond_true]
  have h2 := nsLoop t.toNat s (by omega) rfl
  rw [show ((t.toNat : Nat) : Int) = t by omega] at h2
  rw [h2]; rfl
theorem nsS (s t : Int) : M.spec_NextSeed s t = some (NsD s t) := by
  unfold M.spec_NextSeed NsD
  rw [show M.spec_l12Seed s = some (inR s 0 99999) from rfl, Option.bind_some]
  cases inR s 0 99999
  · rfl
  simp only [Bool.not_true, cond_false, l1InS, Option.bind_some, Bool.false_or, Bool.true_and]
  cases h : inR t 0 1000
  · rfl
  rw [inR_true] at h
  simp only [Bool.not_true, cond_false, cond_true]
  have h2 := nsLoop (step := M.spec_NextSeed_l0 t) t.toNat s (by omega) (by rw [show ((t.toNat : Nat) : Int) = t by omega]; rfl)
  rw [h2]; rfl
end Go.Proofs.Yteocnbeefedbkaa
