/-
  The plain law of 'ledgers': roots of one and two entries, pairs, one more entry, entries of destructions. Plain.
-/
import Derived.Test.YthcmelnpcaijaaaDoorCs
import Derived.Test.YthcmelnpcaijaaaDoorHc
set_option linter.unusedSimpArgs false
set_option linter.unusedVariables false
namespace Go.Proofs.YthcmelnpcaijaaaDoor
open Go.VS

theorem good0l {code : List Int} : Good code 0 (⟨code, 0, 0⟩ : Cur) := ⟨rfl, Int.le_refl _, Int.le_refl _⟩

/-! ### Draws -/
theorem drawEntry {code : List Int} {k : Nat} {c : Cur} (hb : Bytes code) (h : Good code k c) (hk : k < 700000000) : T (M.spec_l1Cur_entry c) (fun r => r.1.length ≤ 40 ∧ Good code (k + 2) r.2) := by
  unfold M.spec_l1Cur_entry
  refine T_of hb h (by omega) (by simp) ?_
  intro x c' hx hc
  refine T_ret ⟨?_, hc⟩
  have : ∀ y ∈ ([[114, 49, 32, 115, 51, 32, 100, 52, 48, 48], [114, 49, 50, 32, 115, 51, 32, 100, 52, 48, 48], [114, 49, 50, 32, 115, 51, 32, 100, 52, 48, 49], [97], [110, 111, 114, 116, 104, 45, 55], [114, 57, 57, 57, 32, 115, 57, 57, 32, 100, 50, 48, 48, 48, 48], [120, 32, 121], [], [65], [114, 49, 44, 115, 50]] : List (List UInt8)), y.length ≤ 40 := by decide
  exact this x hx

theorem drawLedger {code : List Int} {k : Nat} {c : Cur} (hb : Bytes code) (h : Good code k c) (hk : k < 600000000) : T (M.spec_l1Cur_ledger c) (fun r => (r.1.length ≤ 20 ∧ ∀ s ∈ r.1, s.length ≤ 40) ∧ Good code (k + 200) r.2) := by
  unfold M.spec_l1Cur_ledger
  refine T_pick hb h (by omega) ?_
  intro n c1 _ hn hc1
  have hn := hn (by omega)
  rw [wrap64_id (by omega) (by omega)]
  refine T.then (Q := fun r => (r.1.length ≤ 8 ∧ ∀ s ∈ r.1, s.length ≤ 40) ∧ Good code (k + 20) r.2) (T_iter (fun s => ∃ m : Nat, s.2.1 = (m : Int) ∧ m ≤ 7 ∧ s.1.length + m ≤ 7 ∧ (∀ t ∈ s.1, t.length ≤ 40) ∧ Good code (k + 20 - 2 * m) s.2.2) (fun s => s.2.1.toNat) _ ⟨(1 + n).toNat, by simp only; omega, by omega, by simp; omega, by simp, hc1.up (by omega)⟩ (by simp only; omega) ?_) ?_
  · rintro ⟨out, _, c2⟩ ⟨m, rfl, h1, h2, h3, h4⟩
    simp only at h2 h3 h4
    unfold M.spec_l1Cur_ledger_l0
    dsimp only
    refine T_if (fun hq => ?_) (fun hq => ?_)
    · simp only [decide_eq_true_eq] at hq
      refine T_of hb h4 (by omega) (by simp) ?_
      intro x c3 hx hc3
      have hx40 : x.length ≤ 40 := by
        have : ∀ y ∈ ([[114, 49, 32, 115, 51, 32, 100, 52, 48, 48], [114, 49, 50, 32, 115, 51, 32, 100, 52, 48, 48], [114, 49, 50, 32, 115, 51, 32, 100, 52, 48, 49], [97], [110, 111, 114, 116, 104, 45, 55], [98]] : List (List UInt8)), y.length ≤ 40 := by decide
        exact this x hx
      refine T_ask (by simp; omega) (T_ret ?_)
      simp only
      rw [wrap64_id (by omega) (by omega)]
      refine ⟨⟨m - 1, by omega, by omega, by simp; omega, fun t ht => ?_, hc3.up (by omega)⟩, by omega⟩
      rcases List.mem_append.1 ht with ht | ht
      · exact h3 t ht
      · rw [List.mem_singleton.1 ht]; exact hx40
    · simp only [decide_eq_false_iff_not] at hq
      exact T_ret ⟨⟨by simp only; omega, h3⟩, h4.up (by omega)⟩
  · rintro ⟨out, c2⟩ ⟨⟨h1, h2⟩, h3⟩
    simp only at h1 h2 h3
    try dsimp only
    refine T_pick hb h3 (by omega) ?_
    intro sw c3 _ _ hc3
    refine T_in (T.mono (Q := fun r => (r.1.length ≤ 20 ∧ ∀ s ∈ r.1, s.length ≤ 40) ∧ Good code (k + 200) r.2) ?_ (fun r hr => T_ret hr))
    refine T_if (fun _ => ?_) (fun _ => T_if (fun _ => ?_) (fun _ => T_if (fun _ => ?_) (fun _ => ?_)))
    · refine (drawEntry hb hc3 (by omega)).then ?_
      rintro ⟨x, c4⟩ ⟨g1, g2⟩
      refine T_ask (by simp; omega) (T_ret ⟨⟨by simp; omega, fun t ht => ?_⟩, g2.up (by omega)⟩)
      rcases List.mem_append.1 ht with ht | ht
      · exact h2 t ht
      · rw [List.mem_singleton.1 ht]; exact g1
    · exact T_ret ⟨⟨by simp, by simp⟩, hc3.up (by omega)⟩
    · refine T.then (Q := fun r => (r.1.length ≤ 20 ∧ ∀ s ∈ r.1, s.length ≤ 40) ∧ Good code (k + 200) r.2) (T_iter (fun s => s.1.length ≤ 9 ∧ (∀ t ∈ s.1, t.length ≤ 40) ∧ Good code (k + 22 + 4 * s.1.length) s.2) (fun s => 10 - s.1.length) _ ⟨by simp only; omega, h2, hc3.up (by omega)⟩ (by simp only; omega) ?_) (fun r hr => T_ret hr)
      rintro ⟨out2, c4⟩ ⟨g1, g2, g3⟩
      simp only at g1 g2 g3
      unfold M.spec_l1Cur_ledger_l1
      dsimp only
      refine T_pick hb g3 (by omega) ?_
      intro z c5 _ hz hc5
      have hz := hz (by omega)
      rw [wrap64_id (by omega) (by omega)]
      refine T_if (fun hq => ?_) (fun hq => ?_)
      · simp only [decide_eq_true_eq] at hq
        refine T_ask (by simp; omega) (T_ret ⟨⟨by simp; omega, fun t ht => ?_, hc5.up (by simp; omega)⟩, by simp; omega⟩)
        rcases List.mem_append.1 ht with ht | ht
        · exact g2 t ht
        · rw [List.mem_singleton.1 ht]; decide
      · exact T_ret ⟨⟨by simp only; omega, g2⟩, hc5.up (by omega)⟩
    · exact T_ret ⟨⟨by simp only; omega, h2⟩, hc3.up (by omega)⟩

/-! ### The parts -/
theorem vTextsS (l : List (List UInt8)) (hl : l.length < 1000000) : M.laws_vTexts l l = some true := by
  unfold M.laws_vTexts
  rw [bne_self_eq_false, cond_false, iter_up (s := (0 : Int)) (e := .inl ()) (fun k => (k : Int)) l.length rfl (by omega)]
  · rfl
  · intro k hk
    unfold M.laws_vTexts_l0
    try dsimp only
    rw [decide_eq_true (by omega), cond_true, asrt_pos ⟨by omega, by omega⟩, asrt_pos ⟨by omega, by omega⟩, beq_self_eq_true, Bool.not_true, cond_false, wrap64_id (by omega) (by omega)]
    rfl
  · unfold M.laws_vTexts_l0
    try dsimp only
    rw [decide_eq_false (by omega), cond_false]

theorem TextsB.ofD {l : List (List UInt8)} (h : l.length ≤ 30 ∧ ∀ s ∈ l, s.length ≤ 40) : TextsB l := ⟨by omega, fun s hs => by have := h.2 s hs; omega⟩

theorem appI (l : List (List UInt8)) (e : List UInt8) (hl : TextsB (l ++ [e])) : M.impl_AppendEntry l e = some (bif ledOk (l ++ [e]) then (l ++ [e], true) else ([], false)) := by
  have h1 := hl.1
  simp only [List.length_append, List.length_cons, List.length_nil] at h1
  unfold M.impl_AppendEntry M.slices_Clone_string_string
  rw [asrt_pos (by omega), Option.bind_some, asrt_pos (by simp; omega), ledI _ hl, Option.bind_some]
  cases ledOk (l ++ [e]) <;> rfl
theorem appS (l : List (List UInt8)) (e : List UInt8) (hl : TextsB (l ++ [e])) : M.spec_AppendEntry l e = some (bif ledOk (l ++ [e]) then (l ++ [e], true) else ([], false)) := by
  have h1 := hl.1
  simp only [List.length_append, List.length_cons, List.length_nil] at h1
  unfold M.spec_AppendEntry
  rw [List.nil_append, asrt_pos (by simp; omega), asrt_pos (by simp; omega), ledS _ hl, Option.bind_some]
  cases ledOk (l ++ [e]) <;> rfl

/-- The entry of a destruction. -/
def dText (r : Record) (d : Int) : List UInt8 := 114 :: (numT r.Id ++ 32 :: 115 :: (numT r.Series ++ 32 :: 100 :: numT d))
theorem d_text {a b c : List UInt8} : ((((([114] : List UInt8) ++ a) ++ ([32, 115] : List UInt8)) ++ b) ++ ([32, 100] : List UInt8)) ++ c = 114 :: (a ++ 32 :: 115 :: (b ++ 32 :: 100 :: c)) := by simp
def desOk (r : Record) (d : Int) : Bool := recOk r && inR d 0 20000

theorem desI (r : Record) (d : Int) (hr : RecB r) : M.impl_DestructionEntry r d = some (bif desOk r d then (dText r d, true) else ([], false)) := by
  unfold M.impl_DestructionEntry desOk
  rw [recI r hr, Option.bind_some]
  cases h : recOk r
  · rfl
  · rw [Bool.not_true, cond_false, isDayI, Option.bind_some]
    cases hd : inR d 0 20000
    · rfl
    · obtain ⟨g1, g2, _⟩ := recOk_spec h
      have g3 := inR_true.1 hd
      have h1 := numT_len7 (n := r.Id) (by omega) (by omega)
      have h2 := numT_len7 (n := r.Series) (by omega) (by omega)
      have h3 := numT_len7 (n := d) (by omega) (by omega)
      simp only [Bool.not_true, Bool.or_self, cond_false, Bool.and_self, cond_true]
      unfold M.impl_destructionEntry
      rw [decI _ (by omega) (by omega), Option.bind_some, asrt_pos (by simp; omega), asrt_pos (by simp; omega), decI _ (by omega) (by omega), Option.bind_some, asrt_pos (by simp; omega), asrt_pos (by simp; omega), decI _ (by omega) (by omega), Option.bind_some, asrt_pos (by simp; omega), d_text]
      rfl
theorem desS (r : Record) (d : Int) (hr : RecB r) : M.spec_DestructionEntry r d = some (bif desOk r d then (dText r d, true) else ([], false)) := by
  unfold M.spec_DestructionEntry desOk
  rw [recS r hr, Option.bind_some]
  cases h : recOk r
  · rfl
  · rw [Bool.not_true, cond_false, l2DayS, Option.bind_some]
    cases hd : inR d 0 20000
    · rfl
    · obtain ⟨g1, g2, _⟩ := recOk_spec h
      have g3 := inR_true.1 hd
      have h1 := numT_len7 (n := r.Id) (by omega) (by omega)
      have h2 := numT_len7 (n := r.Series) (by omega) (by omega)
      have h3 := numT_len7 (n := d) (by omega) (by omega)
      simp only [Bool.not_true, Bool.or_self, cond_false, Bool.and_self, cond_true]
      rw [numS _ (by omega) (by omega), Option.bind_some, asrt_pos (by simp; omega), asrt_pos (by simp; omega), numS _ (by omega) (by omega), Option.bind_some, asrt_pos (by simp; omega), asrt_pos (by simp; omega), numS _ (by omega) (by omega), Option.bind_some, asrt_pos (by simp; omega), d_text]
      rfl

theorem digB_ent : ∀ d : Fin 10, entB (digB d.1) = true := by decide
theorem numN_ent : ∀ u : Nat, (numN u).all entB = true := by
  intro u
  induction u using Nat.strongRecOn with
  | ind u ih =>
    rcases Nat.lt_or_ge u 10 with h | h
    · rw [numN_small h]
      simp only [List.all_cons, List.all_nil, Bool.and_true]
      exact digB_ent ⟨u, h⟩
    · rw [numN_big h, List.all_append, ih (u / 10) (by omega)]
      simp only [List.all_cons, List.all_nil, Bool.and_true, Bool.true_and]
      exact digB_ent ⟨u % 10, by omega⟩
theorem numT_ent {n : Int} (h : 0 ≤ n) : (numT n).all entB = true := by
  have e : n = ((n.toNat : Nat) : Int) := by omega
  rw [e, numT_nat]
  exact numN_ent _
theorem dText_ok {r : Record} {d : Int} (h : desOk r d = true) : entOk (dText r d) = true ∧ (dText r d).length ≤ 40 := by
  unfold desOk at h
  rw [Bool.and_eq_true] at h
  obtain ⟨g1, g2, _⟩ := recOk_spec h.1
  have g3 := inR_true.1 h.2
  have h1 := numT_len7 (n := r.Id) (by omega) (by omega)
  have h2 := numT_len7 (n := r.Series) (by omega) (by omega)
  have h3 := numT_len7 (n := d) (by omega) (by omega)
  have hlen : (dText r d).length ≤ 40 := by unfold dText; simp; omega
  refine ⟨?_, hlen⟩
  unfold entOk
  rw [Bool.and_eq_true]
  refine ⟨inR_true.2 ⟨by unfold dText; simp; omega, by omega⟩, ?_⟩
  unfold dText
  simp only [List.all_cons, List.all_append, numT_ent (show 0 ≤ r.Id by omega), numT_ent (show 0 ≤ r.Series by omega), numT_ent (show 0 ≤ d by omega), Bool.and_true, Bool.true_and]
  decide

theorem law_FnLedgers (code : List Int) (h1 : code.length ≤ 9223372036854775807) (h2 : ∀ x, x ∈ code → 0 ≤ x ∧ x ≤ 255) : M.laws_FnLedgers code = some true := by
  apply T.eq
  unfold M.laws_FnLedgers M.laws_vBig
  rw [Option.bind_some]
  refine T_if (fun _ => T_ret rfl) (fun hq => ?_)
  simp only [decide_eq_false_iff_not] at hq
  have hb : Bytes code := ⟨by omega, h2⟩
  have d1 : T (M.spec_DrawEntryHash code) (fun r => r.length ≤ 40) := by
    unfold M.spec_DrawEntryHash
    refine (drawEntry hb good0l (by omega)).then ?_
    rintro ⟨x, c1⟩ ⟨g1, _⟩
    exact T_ret g1
  refine d1.then ?_
  intro x hx
  simp only [eHashI x (by omega), eHashS x (by omega), Option.bind_some, bne_self_eq_false, beq_self_eq_true, Bool.not_true, Bool.or_self, cond_false]
  have t1 : TextsB [x] := .ofD ⟨by simp, by simpa using hx⟩
  have t2 : TextsB [x, x] := .ofD ⟨by simp, by simpa using hx⟩
  have hpart : (bif (bif entOk x then (leaf x, true) else (0, false)).2 then (
          (M.impl_RootOf ([x] : List (List UInt8))).bind fun y4 =>
          (M.impl_RootOf ([x, x] : List (List UInt8))).bind fun y5 =>
          (M.impl_PairHash (bif entOk x then (leaf x, true) else (0, false)).1 (bif entOk x then (leaf x, true) else (0, false)).1).bind fun y6 =>
          bif (((((!y4.2) || (y4.1 != (bif entOk x then (leaf x, true) else (0, false)).1)) || (!y5.2)) || (!y6.2)) || (y5.1 != y6.1)) then (
            some (.inr false))
          else (
            some (.inl ())))
        else (
          some (.inl ())) : Option ((Unit) ⊕ (Bool))) = some (.inl ()) := by
    cases he : entOk x
    · rfl
    · have l1 : ledOk [x] = true := by unfold ledOk; simp [he, inR]
      have l2 : ledOk [x, x] = true := by unfold ledOk; simp [he, inR]
      have hh : hashOk (leaf x) = true := inR_true.2 (by have := leaf_bd x; omega)
      simp only [cond_true, RootI _ t1, RootI _ t2, l1, l2, PairI, hh, Option.bind_some, Bool.and_self, Bool.not_true, Bool.false_or]
      have e1 : root (leaves [x]) = leaf x := by
        rw [root_one (by simp [leaves])]; rfl
      have e2 : root (leaves [x, x]) = pairH (leaf x) (leaf x) := by
        show root [leaf x, leaf x] = _
        unfold root
        simp only [rnd, List.headD_cons]
      rw [e1, e2, bne_self_eq_false, bne_self_eq_false]
      rfl
  rw [hpart, Option.bind_some]
  try dsimp only
  have d2 : T (M.spec_DrawPairHash code) (fun _ => True) := by
    unfold M.spec_DrawPairHash
    have hg0 := good0l (code := code)
    repeat' (first
      | ((with_reducible (refine T_pick hb (by assumption) ?_ ?_)); omega; intro x_ c_ hx1_ hx2_ hc_; try dsimp only)
      | ((with_reducible (refine T_among hb (by assumption) ?_ ?_ ?_)); omega; simp; intro x_ c_ hx_ hc_; try dsimp only)
      | ((with_reducible (refine T_one hb (by assumption) ?_ ?_)); omega; intro x_ c_ hc_; try dsimp only)
      | ((with_reducible (refine T_next hb (by assumption) ?_ ?_)); omega; intro x_ c_ hx_ hc_; try dsimp only)
      | ((with_reducible (refine T_ask ?_ ?_)); (first | omega | (simp at *; omega) | (intros; simp at *; omega)))
      | (with_reducible (refine T_if (fun hq_ => ?_) (fun hq_ => ?_)))
      | ((with_reducible (refine T_ret ?_)); try dsimp only)
      | (with_reducible (refine T_in ?_)))
  refine d2.then ?_
  rintro ⟨a, b⟩ _
  simp only [PairI, PairS, Option.bind_some, bne_self_eq_false, beq_self_eq_true, Bool.not_true, Bool.or_self, cond_false]
  have d3 : T (M.spec_DrawAppendEntry code) (fun r => TextsB (r.1 ++ [r.2])) := by
    unfold M.spec_DrawAppendEntry
    refine (drawLedger hb good0l (by omega)).then ?_
    rintro ⟨l, c1⟩ ⟨g1, g2⟩
    refine (drawEntry hb g2 (by omega)).then ?_
    rintro ⟨y, c2⟩ ⟨g3, _⟩
    refine T_ret (.ofD ⟨by have := g1.1; simp only at this ⊢; simp; omega, fun t ht => ?_⟩)
    rcases List.mem_append.1 ht with ht | ht
    · exact g1.2 t ht
    · rw [List.mem_singleton.1 ht]; exact g3
  refine d3.then ?_
  rintro ⟨l, y⟩ hly
  simp only at hly
  have hlen : (bif ledOk (l ++ [y]) then (l ++ [y], true) else (([] : List (List UInt8)), false)).1.length < 1000000 := by
    have := hly.1
    cases ledOk (l ++ [y])
    · simp
    · simp only [cond_true]; omega
  simp only [appI l y hly, appS l y hly, Option.bind_some, beq_self_eq_true, Bool.not_true, cond_false, vTextsS _ hlen, Bool.or_self]
  have d4 : T (M.spec_DrawDestructionEntry code) (fun r => RecB r.1) := by
    unfold M.spec_DrawDestructionEntry
    refine (drawRecord hb good0l (by omega) 12).then ?_
    rintro ⟨r, c1⟩ ⟨g1, g2⟩
    refine (drawDay hb g2 (by omega)).then ?_
    rintro ⟨d, c2⟩ _
    exact T_ret (by simp only at g1 ⊢; unfold RecB; omega)
  refine d4.then ?_
  rintro ⟨r, d⟩ hr
  simp only at hr
  simp only [desI r d hr, desS r d hr, Option.bind_some, beq_self_eq_true, Bool.not_true, Bool.or_self, cond_false]
  cases hd : desOk r d
  · exact T_ret rfl
  · obtain ⟨g1, g2⟩ := dText_ok hd
    simp only [cond_true]
    rw [eHashI _ (by omega), Option.bind_some, g1]
    exact T_ret rfl
end Go.Proofs.YthcmelnpcaijaaaDoor
