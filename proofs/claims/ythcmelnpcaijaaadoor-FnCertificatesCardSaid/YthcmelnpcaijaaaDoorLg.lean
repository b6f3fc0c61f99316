/-
  The plain law of 'ledgers': roots of one and two entries, pairs, one more entry, entries of destructions. Plain.
-/
import Derived.Test.YthcmelnpcaijaaaDoorCs
import Derived.Test.YthcmelnpcaijaaaDoorHc
set_option linter.unusedSimpArgs false
set_option linter.unusedVariables false
namespace Go.Proofs.YthcmelnpcaijaaaDoor
open Go.VS

theorem good0l {code : List Int} : Good code 0 (⟨code, 0, 0⟩ : Cur) := ⟨rfl, Int.le_refl _, Int.le_refl _⟩

/-! ### Draws -/
theorem drawEntry {code : List Int} {k : Nat} {c : Cur} (hb : Bytes code) (h : Good code k c) (hk : k < 700000000) : T (M.spec_l1Cur_entry c) (fun r => r.1.length ≤ 40 ∧ Good code (k + 2) r.2) := by
  unfold M.spec_l1Cur_entry
  refine T_of hb h (by omega) (by simp) ?_
  intro x c' hx hc
  refine T_ret ⟨?_, hc⟩
  have : ∀ y ∈ ([[114, 49, 32, 115, 51, 32, 100, 52, 48, 48], [114, 49, 50, 32, 115, 51, 32, 100, 52, 48, 48], [114, 49, 50, 32, 115, 51, 32, 100, 52, 48, 49], [97], [110, 111, 114, 116, 104, 45, 55], [114, 57, 57, 57, 32, 115, 57, 57, 32, 100, 50, 48, 48, 48, 48], [120, 32, 121], [], [65], [114, 49, 44, 115, 50]] : List (List UInt8)), y.length ≤ 40 := by decide
  exact this x hx

theorem drawLedger {code : List Int} {k : Nat} {c : Cur} (hb : Bytes code) (h : Good code k c) (hk : k < 600000000) : T (M.spec_l1Cur_ledger c) (fun r => (r.1.length ≤ 20 ∧ ∀ s ∈ r.1, s.length ≤ 40) ∧ Good code (k + 200) r.2) := by
  unfold M.spec_l1Cur_ledger
  refine T_pick hb h (by omega) ?_
  intro n c1 _ hn hc1
  have hn := hn (by omega)
  rw [wrap64_id (by omega) (by omega)]
  refine T.then (Q := fun r => (r.1.length ≤ 8 ∧ ∀ s ∈ r.1, s.length ≤ 40) ∧ Good code (k + 20) r.2) (T_iter (fun s => ∃ m : Nat, s.2.1 = (m : Int) ∧ m ≤ 7 ∧ s.1.length + m ≤ 7 ∧ (∀ t ∈ s.1, t.length ≤ 40) ∧ Good code (k + 20 - 2 * m) s.2.2) (fun s => s.2.1.toNat) _ ⟨(1 + n).toNat, by simp only; omega, by omega, by simp; omega, by simp, hc1.up (by omega)⟩ (by simp only; omega) ?_) ?_
  · rintro ⟨out, _, c2⟩ ⟨m, rfl, h1, h2, h3, h4⟩
    simp only at h2 h3 h4
    unfold M.spec_l1Cur_ledger_l0
    dsimp only
    refine T_if (fun hq => ?_) (fun hq => ?_)
    · simp only [decide_eq_true_eq] at hq
      refine T_of hb h4 (by omega) (by simp) ?_
      intro x c3 hx hc3
      have hx40 : x.length ≤ 40 := by
        have : ∀ y ∈ ([[114, 49, 32, 115, 51, 32, 100, 52, 48, 48], [114, 49, 50, 32, 115, 51, 32, 100, 52, 48, 48], [114, 49, 50, 32, 115, 51, 32, 100, 52, 48, 49], [97], [110, 111, 114, 116, 104, 45, 55], [98]] : List (List UInt8)), y.length ≤ 40 := by decide
        exact this x hx
      refine T_ask (by simp; omega) (T_ret ?_)
      simp only
      rw [wrap64_id (by omega) (by omega)]
      refine ⟨⟨m - 1, by omega, by omega, by simp; omega, fun t ht => ?_, hc3.up (by omega)⟩, by omega⟩
      rcases List.mem_append.1 ht with ht | ht
      · exact h3 t ht
      · rw [List.mem_singleton.1 ht]; exact hx40
    · simp only [decide_eq_false_iff_not] at hq
      exact T_ret ⟨⟨by simp only; omega, h3⟩, h4.up (by omega)⟩
  · rintro ⟨out, c2⟩ ⟨⟨h1, h2⟩, h3⟩
    simp only at h1 h2 h3
    try dsimp only
    refine T_pick hb h3 (by omega) ?_
    intro sw c3 _ _ hc3
    refine T_in (T.mono (Q := fun r => (r.1.length ≤ 20 ∧ ∀ s ∈ r.1, s.length ≤ 40) ∧ Good code (k + 200) r.2) ?_ (fun r hr => T_ret hr))
    refine T_if (fun _ => ?_) (fun _ => T_if (fun _ => ?_) (fun _ => T_if (fun _ => ?_) (fun _ => ?_)))
    · refine (drawEntry hb hc3 (by omega)).then ?_
      rintro ⟨x, c4⟩ ⟨g1, g2⟩
      refine T_ask (by simp; omega) (T_ret ⟨⟨by simp; omega, fun t ht => ?_⟩, g2.up (by omega)⟩)
      rcases List.mem_append.1 ht with ht | ht
      · exact h2 t ht
      · rw [List.mem_singleton.1 ht]; exact g1
    · exact T_ret ⟨⟨by simp, by simp⟩, hc3.up (by omega)⟩
    · refine T.then (Q := fun r => (r.1.length ≤ 20 ∧ ∀ s ∈ r.1, s.length ≤ 40) ∧ Good code (k + 200) r.2) (T_iter (fun s => s.1.length ≤ 9 ∧ (∀ t ∈ s.1, t.length ≤ 40) ∧ Good code (k + 22 + 4 * s.1.length) s.2) (fun s => 10 - s.1.length) _ ⟨by simp only; omega, h2, hc3.up (by omega)⟩ (by simp only; omega) ?_) (fun r hr => T_ret hr)
      rintro ⟨out2, c4⟩ ⟨g1, g2, g3⟩
      simp only at g1 g2 g3
      unfold M.spec_l1Cur_ledger_l1
      dsimp only
      refine T_pick hb g3 (by omega) ?_
      intro z c5 _ hz hc5
      have hz := hz (by omega)
      rw [wrap64_id (by omega) (by omega)]
      refine T_if (fun hq => ?_) (fun hq => ?_)
      · simp only [decide_eq_true_eq] at hq
        refine T_ask (by simp; omega) (T_ret ⟨⟨by simp; omega, fun t ht => ?_, hc5.up (by simp; omega)⟩, by simp; omega⟩)
        rcases List.mem_append.1 ht with ht | ht
        · exact g2 t ht
        · rw [List.mem_singleton.1 ht]; decide
      · exact T_ret ⟨⟨by simp only; omega, g2⟩, hc5.up (by omega)⟩
    · exact T_ret ⟨⟨by simp only; omega, h2⟩, hc3.up (by omega)⟩

/-! ### The parts -/
theorem TextsB.ofD {l : List (List UInt8)} (h : l.length ≤ 30 ∧ ∀ s ∈ l, s.length ≤ 40) : TextsB l := ⟨by omega, fun s hs => by have := h.2 s hs; omega⟩

theorem d_text {a b c : List UInt8} : ((((([114] : List UInt8) ++ a) ++ ([32, 115] : List UInt8)) ++ b) ++ ([32, 100] : List UInt8)) ++ c = 114 :: (a ++ 32 :: 115 :: (b ++ 32 :: 100 :: c)) := by simp
theorem digB_ent : ∀ d : Fin 10, entB (digB d.1) = true := by decide
theorem numN_ent : ∀ u : Nat, (numN u).all entB = true := by
  intro u
  induction u using Nat.strongRecOn with
  | ind u ih =>
    rcases Nat.lt_or_ge u 10 with h | h
    · rw [numN_small h]
      simp only [List.all_cons, List.all_nil, Bool.and_true]
      exact digB_ent ⟨u, h⟩
    · rw [numN_big h, List.all_append, ih (u / 10) (by omega)]
      simp only [List.all_cons, List.all_nil, Bool.and_true, Bool.true_and]
      exact digB_ent ⟨u % 10, by omega⟩
theorem numT_ent {n : Int} (h : 0 ≤ n) : (numT n).all entB = true := by
  have e : n = ((n.toNat : Nat) : Int) := by omega
  rw [e, numT_nat]
  exact numN_ent _
end Go.Proofs.YthcmelnpcaijaaaDoor
