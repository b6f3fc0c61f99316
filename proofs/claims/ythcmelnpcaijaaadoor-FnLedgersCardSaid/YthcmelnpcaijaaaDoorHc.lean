/-
  Draws of records, schedules and holds. Plain.
-/
import Derived.Test.YthcmelnpcaijaaaDoorTc
import Derived.Test.YthcmelnpcaijaaaDoorHb
set_option linter.unusedSimpArgs false
set_option linter.unusedVariables false
namespace Go.Proofs.YthcmelnpcaijaaaDoor
open Go.VS

theorem drawDay {code : List Int} {k : Nat} {c : Cur} (hb : Bytes code) (h : Good code k c) (hk : k < 700000000) : T (M.spec_l1Cur_day c) (fun r => Good code (k + 2) r.2) := by
  unfold M.spec_l1Cur_day
  repeat' (first
    | ((with_reducible (refine T_pick hb (by assumption) ?_ ?_)); omega; intro x_ c_ hx1_ hx2_ hc_; try dsimp only)
    | ((with_reducible (refine T_among hb (by assumption) ?_ ?_ ?_)); omega; simp; intro x_ c_ hx_ hc_; try dsimp only)
    | ((with_reducible (refine T_one hb (by assumption) ?_ ?_)); omega; intro x_ c_ hc_; try dsimp only)
    | ((with_reducible (refine T_next hb (by assumption) ?_ ?_)); omega; intro x_ c_ hx_ hc_; try dsimp only)
    | ((with_reducible (refine T_ask ?_ ?_)); (first | omega | (simp at *; omega) | (intros; simp at *; omega)))
    | (with_reducible (refine T_if (fun hq_ => ?_) (fun hq_ => ?_)))
    | ((with_reducible (refine T_ret ?_)); try dsimp only)
    | (with_reducible (refine T_in ?_)))
  assumption

theorem drawRecord {code : List Int} {k : Nat} {c : Cur} (hb : Bytes code) (h : Good code k c) (hk : k < 700000000) (id_ : Int) : T (M.spec_l1Cur_record c id_) (fun r => r.1.Events.length ≤ 7 ∧ Good code (k + 100) r.2) := by
  unfold M.spec_l1Cur_record
  refine T_among hb h (by omega) (by simp) ?_
  intro ser c1 hser hc1
  refine T_among hb hc1 (by omega) (by simp) ?_
  intro made c2 hmade hc2
  refine T.then (Q := fun r => r.1.length ≤ 6 ∧ Good code (k + 64) r.2) (T_iter (fun s => ∃ n : Nat, s.1 = (n : Int) ∧ 1 ≤ n ∧ n ≤ 7 ∧ s.2.1.length + 1 ≤ n ∧ Good code (k + 10 + 6 * n) s.2.2) (fun s => (7 - s.1).toNat) _ ⟨1, rfl, by omega, by omega, by simp, hc2.up (by omega)⟩ (by (first | omega | (simp only; omega) | (dsimp only; omega) | (simp; omega))) ?_) ?_
  · rintro ⟨_, evs, c3⟩ ⟨n, rfl, h1, h2, h3, h4⟩
    simp only at h3 h4
    unfold M.spec_l1Cur_record_l0
    dsimp only
    refine T_if (fun hq => ?_) (fun hq => ?_)
    · simp only [decide_eq_true_eq] at hq
      refine T_in ?_
      refine T.mono (Q := fun r => r.1.length ≤ n ∧ Good code (k + 10 + 6 * n + 6) r.2) ?_ ?_
      · repeat' (first
          | ((with_reducible (refine T_pick hb (by assumption) ?_ ?_)); omega; intro x_ c_ hx1_ hx2_ hc_; try dsimp only)
          | ((with_reducible (refine T_among hb (by assumption) ?_ ?_ ?_)); omega; simp; intro x_ c_ hx_ hc_; try dsimp only)
          | ((with_reducible (refine T_one hb (by assumption) ?_ ?_)); omega; intro x_ c_ hc_; try dsimp only)
          | ((with_reducible (refine T_next hb (by assumption) ?_ ?_)); omega; intro x_ c_ hx_ hc_; try dsimp only)
          | ((with_reducible (refine T_ask ?_ ?_)); (first | omega | (simp at *; omega) | (intros; simp at *; omega)))
          | (with_reducible (refine T_if (fun hq_ => ?_) (fun hq_ => ?_)))
          | ((with_reducible (refine T_ret ?_)); try dsimp only)
          | (with_reducible (refine T_in ?_)))
        · exact ⟨by (first | omega | (simp only; omega) | (dsimp only; omega) | (simp; omega)), Good.up (by assumption) (by omega)⟩
        · exact ⟨by (first | omega | (simp only; omega) | (dsimp only; omega) | (simp; omega)), Good.up (by assumption) (by omega)⟩
      · rintro ⟨e1, c4⟩ ⟨g1, g2⟩
        refine T_ret ?_
        simp only at g1 g2 ⊢
        rw [wrap64_id (by omega) (by omega)]
        exact ⟨⟨n + 1, by omega, by omega, by omega, by omega, g2.up (by omega)⟩, by omega⟩
    · simp only [decide_eq_false_iff_not] at hq
      refine T_ret ⟨by (first | omega | (simp only; omega) | (dsimp only; omega) | (simp; omega)), h4.up (by omega)⟩
  · rintro ⟨evs, c3⟩ ⟨h1, h2⟩
    dsimp only
    simp only at h1 h2
    repeat' (first
      | ((with_reducible (refine T_pick hb (by assumption) ?_ ?_)); omega; intro x_ c_ hx1_ hx2_ hc_; try dsimp only)
      | ((with_reducible (refine T_among hb (by assumption) ?_ ?_ ?_)); omega; simp; intro x_ c_ hx_ hc_; try dsimp only)
      | ((with_reducible (refine T_one hb (by assumption) ?_ ?_)); omega; intro x_ c_ hc_; try dsimp only)
      | ((with_reducible (refine T_next hb (by assumption) ?_ ?_)); omega; intro x_ c_ hx_ hc_; try dsimp only)
      | ((with_reducible (refine T_ask ?_ ?_)); (first | omega | (simp at *; omega) | (intros; simp at *; omega)))
      | (with_reducible (refine T_if (fun hq_ => ?_) (fun hq_ => ?_)))
      | ((with_reducible (refine T_ret ?_)); try dsimp only)
      | (with_reducible (refine T_in ?_)))
    all_goals exact ⟨by (first | omega | (simp only; omega) | (dsimp only; omega) | (simp; omega)), Good.up (by assumption) (by omega)⟩

theorem slc_len {β : Type} {l : List β} {a b : Int} : (slc l a b).length ≤ l.length := by
  unfold slc
  simp only [List.length_drop, List.length_take]
  omega

theorem RecsB.snoc {l : List Record} {x : Record} (h : ∀ r ∈ l, RecB r) (hx : x.Events.length ≤ 7) : ∀ r ∈ l ++ [x], RecB r := by
  intro y hy
  rcases List.mem_append.1 hy with hy | hy
  · exact h y hy
  · rw [List.mem_singleton] at hy; subst hy; unfold RecB; omega

end Go.Proofs.YthcmelnpcaijaaaDoor
