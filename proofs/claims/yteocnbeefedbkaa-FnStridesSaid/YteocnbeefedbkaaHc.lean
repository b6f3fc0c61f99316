/-
  Draws of records, schedules and holds. Plain.
-/
import Derived.Test.YteocnbeefedbkaaTc
import Derived.Test.YteocnbeefedbkaaHb
set_option linter.unusedSimpArgs false
set_option linter.unusedVariables false
namespace Go.Proofs.Yteocnbeefedbkaa
open Go.VS

theorem drawRecord {code : List Int} {k : Nat} {c : Cur} (hb : Bytes code) (h : Good code k c) (hk : k < 700000000) (id_ : Int) : T (M.spec_l1Cur_record c id_) (fun r => r.1.Events.length ≤ 7 ∧ Good code (k + 100) r.2) := by
  unfold M.spec_l1Cur_record
  refine T_among hb h (by omega) (by simp) ?_
  intro ser c1 hser hc1
  refine T_among hb hc1 (by omega) (by simp) ?_
  intro made c2 hmade hc2
  refine T.then (Q := fun r => r.1.length ≤ 6 ∧ Good code (k + 64) r.2) (T_iter (fun s => ∃ n : Nat, s.1 = (n : Int) ∧ 1 ≤ n ∧ n ≤ 7 ∧ s.2.1.length + 1 ≤ n ∧ Good code (k + 10 + 6 * n) s.2.2) (fun s => (7 - s.1).toNat) _ ⟨1, rfl, by omega, by omega, by simp, hc2.up (by omega)⟩ (by (first | omega | (simp only; omega) | (dsimp only; omega) | (simp; omega))) ?_) ?_
  · rintro ⟨_, evs, c3⟩ ⟨n, rfl, h1, h2, h3, h4⟩
    simp only at h3 h4
    unfold M.spec_l1Cur_record_l0
    dsimp only
    refine T_if (fun hq => ?_) (fun hq => ?_)
    · simp only [decide_eq_true_eq] at hq
      refine T_in ?_
      refine T.mono (Q := fun r => r.1.length ≤ n ∧ Good code (k + 10 + 6 * n + 6) r.2) ?_ ?_
      · repeat' (first
          | ((with_reducible (refine T_pick hb (by assumption) ?_ ?_)); omega; intro x_ c_ hx1_ hx2_ hc_; try dsimp only)
          | ((with_reducible (refine T_among hb (by assumption) ?_ ?_ ?_)); omega; simp; intro x_ c_ hx_ hc_; try dsimp only)
          | ((with_reducible (refine T_one hb (by assumption) ?_ ?_)); omega; intro x_ c_ hc_; try dsimp only)
          | ((with_reducible (refine T_next hb (by assumption) ?_ ?_)); omega; intro x_ c_ hx_ hc_; try dsimp only)
          | ((with_reducible (refine T_ask ?_ ?_)); (first | omega | (simp at *; omega) | (intros; simp at *; omega)))
          | (with_reducible (refine T_if (fun hq_ => ?_) (fun hq_ => ?_)))
          | ((with_reducible (refine T_ret ?_)); try dsimp only)
          | (with_reducible (refine T_in ?_)))
        · exact ⟨by (first | omega | (simp only; omega) | (dsimp only; omega) | (simp; omega)), Good.up (by assumption) (by omega)⟩
        · exact ⟨by (first | omega | (simp only; omega) | (dsimp only; omega) | (simp; omega)), Good.up (by assumption) (by omega)⟩
      · rintro ⟨e1, c4⟩ ⟨g1, g2⟩
        refine T_ret ?_
        simp only at g1 g2 ⊢
        rw [wrap64_id (by omega) (by omega)]
        exact ⟨⟨n + 1, by omega, by omega, by omega, by omega, g2.up (by omega)⟩, by omega⟩
    · simp only [decide_eq_false_iff_not] at hq
      refine T_ret ⟨by (first | omega | (simp only; omega) | (dsimp only; omega) | (simp; omega)), h4.up (by omega)⟩
  · rintro ⟨evs, c3⟩ ⟨h1, h2⟩
    dsimp only
    simp only at h1 h2
    repeat' (first
      | ((with_reducible (refine T_pick hb (by assumption) ?_ ?_)); omega; intro x_ c_ hx1_ hx2_ hc_; try dsimp only)
      | ((with_reducible (refine T_among hb (by assumption) ?_ ?_ ?_)); omega; simp; intro x_ c_ hx_ hc_; try dsimp only)
      | ((with_reducible (refine T_one hb (by assumption) ?_ ?_)); omega; intro x_ c_ hc_; try dsimp only)
      | ((with_reducible (refine T_next hb (by assumption) ?_ ?_)); omega; intro x_ c_ hx_ hc_; try dsimp only)
      | ((with_reducible (refine T_ask ?_ ?_)); (first | omega | (simp at *; omega) | (intros; simp at *; omega)))
      | (with_reducible (refine T_if (fun hq_ => ?_) (fun hq_ => ?_)))
      | ((with_reducible (refine T_ret ?_)); try dsimp only)
      | (with_reducible (refine T_in ?_)))
    all_goals exact ⟨by (first | omega | (simp only; omega) | (dsimp only; omega) | (simp; omega)), Good.up (by assumption) (by omega)⟩

theorem slc_len {β : Type} {l : List β} {a b : Int} : (slc l a b).length ≤ l.length := by
  unfold slc
  simp only [List.length_drop, List.length_take]
  omega

theorem RecsB.snoc {l : List Record} {x : Record} (h : ∀ r ∈ l, RecB r) (hx : x.Events.length ≤ 7) : ∀ r ∈ l ++ [x], RecB r := by
  intro y hy
  rcases List.mem_append.1 hy with hy | hy
  · exact h y hy
  · rw [List.mem_singleton] at hy; subst hy; unfold RecB; omega

theorem drawHeld {code : List Int} {k : Nat} {c : Cur} (hb : Bytes code) (h : Good code k c) (hk : k < 500000000) : T (M.spec_l1Cur_held c) (fun r => RecsB r.1 ∧ Good code (k + 2000) r.2) := by
  unfold M.spec_l1Cur_held
  refine T.then (Q := fun r => r.1.length ≤ 7 ∧ (∀ x ∈ r.1, RecB x) ∧ Good code (k + 1700) r.2) (T_iter (fun s => ∃ n : Nat, s.2.1 = (n : Int) ∧ 1 ≤ n ∧ n ≤ 8 ∧ s.1.length + 1 ≤ n ∧ (∀ x ∈ s.1, RecB x) ∧ Good code (k + 200 * n) s.2.2) (fun s => (8 - s.2.1).toNat) _ ⟨1, rfl, by omega, by omega, by simp, by simp, h.up (by omega)⟩ (by simp only; omega) ?_) ?_
  · rintro ⟨l, _, c1⟩ ⟨n, rfl, h1, h2, h3, h4, h5⟩
    simp only at h3 h4 h5
    unfold M.spec_l1Cur_held_l0
    dsimp only
    refine T_if (fun hq => ?_) (fun hq => ?_)
    · simp only [decide_eq_true_eq] at hq
      refine T_in ?_
      refine T.mono (Q := fun r => r.1.length ≤ n ∧ (∀ x ∈ r.1, RecB x) ∧ Good code (k + 200 * n + 200) r.2) ?_ ?_
      · refine T_one hb h5 (by omega) ?_
        intro b c2 h6
        refine T_if (fun _ => ?_) (fun _ => T_ret ⟨by (first | omega | (simp only; omega) | (dsimp only; omega) | (simp; omega)), h4, h6.up (by omega)⟩)
        refine (drawRecord hb h6 (by omega) _).then ?_
        rintro ⟨r, c3⟩ ⟨h7, h8⟩
        exact T_ask (by (first | omega | (simp only; omega) | (dsimp only; omega) | (simp; omega))) (T_ret ⟨by (first | omega | (simp only; omega) | (dsimp only; omega) | (simp; omega)), RecsB.snoc h4 h7, h8.up (by omega)⟩)
      · rintro ⟨m, c2⟩ ⟨g1, g2, g3⟩
        refine T_ret ?_
        simp only at g1 g2 g3 ⊢
        rw [wrap64_id (by omega) (by omega)]
        exact ⟨⟨n + 1, by omega, by omega, by omega, by omega, g2, g3.up (by omega)⟩, by omega⟩
    · simp only [decide_eq_false_iff_not] at hq
      exact T_ret ⟨by (first | omega | (simp only; omega) | (dsimp only; omega) | (simp; omega)), h4, h5.up (by omega)⟩
  · rintro ⟨l, c1⟩ ⟨h1, h2, h3⟩
    simp only at h1 h2 h3
    refine T_pick hb h3 (by omega) ?_
    intro x c2 _ _ h4
    refine T_in ?_
    dsimp only
    refine T.mono (Q := fun r => RecsB r.1 ∧ Good code (k + 2000) r.2) ?_ (fun r hr => T_ret hr)
    refine T_if (fun hq => ?_) (fun hq => T_if (fun hq => ?_) (fun hq => T_ret ⟨⟨by (first | omega | (simp only; omega) | (dsimp only; omega) | (simp; omega)), h2⟩, h4.up (by omega)⟩))
    · refine T_among hb h4 (by omega) (by simp) ?_
      intro y c3 _ h5
      refine (drawRecord hb h5 (by omega) _).then ?_
      rintro ⟨r, c4⟩ ⟨h7, h8⟩
      exact T_ask (by (first | omega | (simp only; omega) | (dsimp only; omega) | (simp; omega))) (T_ret ⟨⟨by (first | omega | (simp only; omega) | (dsimp only; omega) | (simp; omega)), RecsB.snoc h2 h7⟩, h8.up (by omega)⟩)
    · refine T.then (Q := fun r => r.1.length ≤ 12 ∧ (∀ x ∈ r.1, RecB x) ∧ Good code (k + 1900) r.2) (T_iter (fun s => s.1.length ≤ 12 ∧ (∀ x ∈ s.1, RecB x) ∧ Good code (k + 1710 + 2 * s.1.length) s.2) (fun s => 12 - s.1.length) _ ⟨by (first | omega | (simp only; omega) | (dsimp only; omega) | (simp; omega)), h2, h4.up (by omega)⟩ (by simp only; omega) ?_) (fun r hr => T_ret ⟨⟨Nat.lt_of_le_of_lt hr.1 (by omega), hr.2.1⟩, hr.2.2.up (by omega)⟩)
      rintro ⟨m, c3⟩ ⟨g1, g2, g3⟩
      simp only at g1 g2 g3
      unfold M.spec_l1Cur_held_l1
      dsimp only
      refine T_pick hb g3 (by omega) ?_
      intro y c4 _ y2 y3
      have := y2 (by omega)
      dsimp only
      rw [wrap64_id (n := 10 + y) (by omega) (by omega)]
      refine T_if (fun hq => ?_) (fun hq => T_ret ⟨g1, g2, y3.up (by (first | omega | (simp only; omega) | (dsimp only; omega) | (simp; omega)))⟩)
      simp only [decide_eq_true_eq] at hq
      refine T_ask (by (first | omega | (simp only; omega) | (dsimp only; omega) | (simp; omega))) (T_ret ?_)
      simp only [List.length_append, List.length_cons, List.length_nil]
      exact ⟨⟨by omega, RecsB.snoc g2 (by simp), y3.up (by omega)⟩, by omega⟩

end Go.Proofs.Yteocnbeefedbkaa
