/-
  The plain law of 'custody': chains, holders, and one hand more. Plain.
-/
import Derived.Test.YtmpknfachmfbaaaCv
set_option linter.unusedSimpArgs false
set_option linter.unusedVariables false
namespace Go.Proofs.Ytmpknfachmfbaaa
open Go.VS

/-! ### Holders -/
noncomputable def HoldD (l : List Hand) (r d : Int) : Int × Bool := bif (custOk l && inR r 1 999) && inR d 0 20000 then (holder l r d, decide (holder l r d > 0)) else (0, false)
theorem holdDI (l : List Hand) (r d : Int) (hl : l.length ≤ 1048576) : M.impl_HolderOf l r d = some (HoldD l r d) := by
  unfold M.impl_HolderOf HoldD
  simp only [custI l hl, recIdI, isDayI, holderI l r d hl, Option.bind_some, bif_some]
  cases custOk l <;> cases inR r 1 999 <;> cases inR d 0 20000 <;> rfl
theorem holdDS (l : List Hand) (r d : Int) (hl : l.length ≤ 1048576) : M.spec_HolderOf l r d = some (HoldD l r d) := by
  unfold M.spec_HolderOf HoldD
  simp only [custS l hl, rec17S, l2DayS, holderS l r d hl, Option.bind_some, bif_some]
  cases custOk l <;> cases inR r 1 999 <;> cases inR d 0 20000 <;> rfl

/-! ### Chains -/
def chB (r : Int) (a : List Int) (h : Hand) : List Int := bif h.Record != r then a else (bif (a.length : Int) == 0 then a ++ [h.From] else a) ++ [h.To]
noncomputable def ChainD (l : List Hand) (r : Int) : List Int × Bool := bif custOk l && inR r 1 999 then (l.foldl (chB r) [], true) else ([], false)
theorem chB_len {r : Int} {a : List Int} {h : Hand} {k : Nat} (ha : a.length ≤ k + 1) : (chB r a h).length ≤ k + 2 := by
  unfold chB
  cases h.Record != r
  · cases he : ((a.length : Int) == 0)
    · simp; omega
    · rw [beq_iff_eq] at he
      simp; omega
  · simp; omega
theorem chain_len {r : Int} (l : List Hand) : (l.foldl (chB r) []).length ≤ l.length + 1 := by
  have key : ∀ (l : List Hand) (a : List Int) (k : Nat), a.length ≤ k + 1 → (l.foldl (chB r) a).length ≤ l.length + k + 1 := by
    intro l
    induction l with
    | nil => intro a k h; simpa using h
    | cons x t ih =>
      intro a k h
      have := ih (chB r a x) (k + 1) (chB_len h)
      simp only [List.foldl_cons, List.length_cons]; omega
  have := key l [] 0 (by simp)
  omega

theorem chainI (l : List Hand) (r : Int) (hl : l.length ≤ 1048576) : M.impl_ChainOf l r = some (ChainD l r) := by
  unfold M.impl_ChainOf ChainD
  simp only [custI l hl, recIdI, Option.bind_some, bif_some]
  cases h1 : custOk l
  · rfl
  cases h2 : inR r 1 999
  · rfl
  simp only [Bool.not_true, cond_false, Bool.or_self, Bool.and_self, cond_true]
  rw [iter_fold (s := (([] : List Int), (0 : Int))) (step := M.impl_ChainOf_l0 l r) (fun a k => (a, (k : Int))) (chB r) id l [] (fun a k => a.length ≤ k + 1) rfl (by omega) (by simp) (fun a k hk hI => ⟨by
    have ew : IntKind.i64.wrap ((k : Int) + 1) = ((k + 1 : Nat) : Int) := by rw [wrap64_id (by omega) (by omega)]; omega
    apply T.eq
    unfold M.impl_ChainOf_l0 chB
    try dsimp only
    refine T_if (fun _ => ?_) (fun hq => by simp only [decide_eq_false_iff_not] at hq; omega)
    rw [Int.toNat_natCast, ew]
    refine T_in (T_ask ⟨by omega, by omega⟩ ?_)
    cases hc : ((l.getD k default).Record != r)
    · refine T_in ?_
      cases he : ((a.length : Int) == 0)
      · rw [cond_false]
        exact T_ret (T_ask (by simp; omega) (T_ret (T_ret rfl)))
      · rw [beq_iff_eq] at he
        rw [cond_true]
        refine T_ask (by simp; omega) ?_
        refine T_ret ?_
        refine T_ask (by simp; omega) ?_
        exact T_ret (T_ret (by simp))
    · exact T_ret (T_ret rfl), chB_len hI⟩) (fun a _ => by
    unfold M.impl_ChainOf_l0
    simp (disch := first | omega | (intros; simp only [decide_eq_true_eq, decide_eq_false_iff_not, Bool.not_eq_true, Bool.not_eq_false, Bool.not_true, Bool.not_false] at *; omega)) only [cast_succ, asrt_pos, wrap64_id, Option.bind_some, cond_true, cond_false, decide_eq_true, decide_eq_false, Int.toNat_natCast, Bool.not_true, Bool.not_false, Bool.and_true, Bool.true_and, Bool.and_false, Bool.false_and, Bool.or_true, Bool.true_or, Bool.or_false, Bool.false_or, id])]
  rfl
theorem chainS (l : List Hand) (r : Int) (hl : l.length ≤ 1048576) : M.spec_ChainOf l r = some (ChainD l r) := by
  unfold M.spec_ChainOf ChainD
  simp only [custS l hl, rec17S, Option.bind_some, bif_some]
  cases h1 : custOk l
  · rfl
  cases h2 : inR r 1 999
  · rfl
  simp only [Bool.not_true, cond_false, Bool.or_self, Bool.and_self, cond_true]
  rw [iter_fold (s := (([] : List Int), (0 : Int))) (step := M.spec_ChainOf_l0 l r) (fun a k => (a, (k : Int))) (chB r) id l [] (fun a k => a.length ≤ k + 1) rfl (by omega) (by simp) (fun a k hk hI => ⟨by
    have ew : IntKind.i64.wrap ((k : Int) + 1) = ((k + 1 : Nat) : Int) := by rw [wrap64_id (by omega) (by omega)]; omega
    apply T.eq
    unfold M.spec_ChainOf_l0 chB
    try dsimp only
    refine T_if (fun _ => ?_) (fun hq => by simp only [decide_eq_false_iff_not] at hq; omega)
    rw [Int.toNat_natCast, ew]
    refine T_in (T_ask ⟨by omega, by omega⟩ ?_)
    cases hc : ((l.getD k default).Record != r)
    · refine T_in ?_
      cases he : ((a.length : Int) == 0)
      · rw [cond_false]
        exact T_ret (T_ask ⟨by omega, by omega⟩ (T_ask (by simp; omega) (T_ret (T_ret rfl))))
      · rw [beq_iff_eq] at he
        rw [cond_true]
        refine T_ask ⟨by omega, by omega⟩ ?_
        refine T_ask (by simp; omega) ?_
        refine T_ret ?_
        refine T_ask ⟨by omega, by omega⟩ ?_
        refine T_ask (by simp; omega) ?_
        exact T_ret (T_ret (by simp))
    · exact T_ret (T_ret rfl), chB_len hI⟩) (fun a _ => by
    unfold M.spec_ChainOf_l0
    simp (disch := first | omega | (intros; simp only [decide_eq_true_eq, decide_eq_false_iff_not, Bool.not_eq_true, Bool.not_eq_false, Bool.not_true, Bool.not_false] at *; omega)) only [cast_succ, asrt_pos, wrap64_id, Option.bind_some, cond_true, cond_false, decide_eq_true, decide_eq_false, Int.toNat_natCast, Bool.not_true, Bool.not_false, Bool.and_true, Bool.true_and, Bool.and_false, Bool.false_and, Bool.or_true, Bool.true_or, Bool.or_false, Bool.false_or, id])]
  rfl
theorem ChainD_len {l : List Hand} {r : Int} (hl : l.length ≤ 1000000) : (ChainD l r).1.length < 1000001 + 1 := by
  unfold ChainD
  cases custOk l && inR r 1 999
  · simp
  · have := chain_len (r := r) l
    simp only [cond_true]; omega

/-- The last of a chain holds the record at the end. -/
theorem chain_last (r d : Int) : ∀ (l : List Hand) (a : List Int) (w : Int), (∀ h ∈ l, h.Day ≤ d) → ((a = [] ∧ w = 0) ∨ (∃ b, a = b ++ [w])) →
    (l.foldl (chB r) a = [] ∧ l.foldl (fun a h => bif (h.Record == r) && decide (h.Day ≤ d) then h.To else a) w = 0) ∨ ∃ b, l.foldl (chB r) a = b ++ [l.foldl (fun a h => bif (h.Record == r) && decide (h.Day ≤ d) then h.To else a) w]
  | [], a, w, _, h => h
  | x :: t, a, w, hd, h => by
    simp only [List.foldl_cons]
    refine chain_last r d t _ _ (fun y hy => hd y (by simp [hy])) ?_
    unfold chB
    rw [decide_eq_true (hd x (by simp)), Bool.and_true]
    cases hc : (x.Record == r)
    · have : (x.Record != r) = true := by rw [bne, hc]; rfl
      rw [this]
      exact h
    · have : (x.Record != r) = false := by rw [bne, hc]; rfl
      rw [this]
      exact .inr ⟨_, rfl⟩

theorem holder_pos {l : List Hand} {r d : Int} (hl : ∀ h ∈ l, 1 ≤ h.To) : ∀ w, 0 ≤ w → 0 ≤ l.foldl (fun a h => bif (h.Record == r) && decide (h.Day ≤ d) then h.To else a) w := by
  induction l with
  | nil => intro w h; exact h
  | cons x t ih =>
    intro w h
    simp only [List.foldl_cons]
    refine ih (fun y hy => hl y (by simp [hy])) _ ?_
    have := hl x (by simp)
    cases (x.Record == r) && decide (x.Day ≤ d)
    · exact h
    · show 0 ≤ x.To; omega

theorem custOk_hands {l : List Hand} (h : custOk l = true) : ∀ x ∈ l, handOk x = true := by
  intro x hx
  obtain ⟨k, hk, rfl⟩ := List.getElem_of_mem hx
  have := ((custOk_spec h).1.1 k hk).1
  simpa [List.getD, hk] using this

/-! ### One hand more -/
theorem getD_app {l : List Hand} {h : Hand} {k : Nat} (hk : k < l.length) : (l ++ [h]).getD k default = l.getD k default := by
  rw [List.getD_eq_getElem?_getD, List.getElem?_append_left hk, ← List.getD_eq_getElem?_getD]
theorem Fine.init {l : List Hand} {h : Hand} (hf : Fine (l ++ [h])) : Fine l := by
  obtain ⟨h1, h2⟩ := hf
  refine ⟨fun v hv => ?_, fun k m hm hC => ?_⟩
  · have := h1 v (by simp; omega)
    unfold Step at this ⊢
    rw [getD_app hv] at this
    refine ⟨this.1, fun h0 => ?_⟩
    have g := this.2 h0
    rwa [getD_app (by omega)] at g
  · have hk : k < m := hC.1
    have := h2 k m (by simp; omega) ⟨hk, by
      show ((l ++ [h]).getD k default).Record = ((l ++ [h]).getD m default).Record
      rw [getD_app (by omega), getD_app hm]; exact hC.2.1, fun j g1 g2 => by
      show ((l ++ [h]).getD j default).Record ≠ ((l ++ [h]).getD m default).Record
      rw [getD_app (by omega), getD_app hm]; exact hC.2.2 j g1 g2⟩
    rwa [getD_app hm, getD_app (by omega)] at this
theorem custOk_init {l : List Hand} {h : Hand} (hc : custOk (l ++ [h]) = true) : custOk l = true := by
  obtain ⟨h1, h2⟩ := custOk_spec hc
  rw [List.length_append, List.length_singleton] at h2
  exact custOk_iff.2 ⟨h1.init, by omega⟩
noncomputable def AppD (l : List Hand) (h : Hand) : List Hand × Bool := bif custOk (l ++ [h]) then (l ++ [h], true) else ([], false)
theorem appI (l : List Hand) (h : Hand) (hl : l.length ≤ 1000000) : M.impl_AppendHand l h = some (AppD l h) := by
  unfold M.impl_AppendHand M.slices_Clone_impl_Hand_impl_Hand AppD
  rw [asrt_pos (by omega), Option.bind_some, asrt_pos (by simp; omega), Option.bind_some]
  try dsimp only
  simp only [custI l (by omega), custI (l ++ [h]) (by simp; omega), Option.bind_some, bif_some]
  cases h1 : custOk (l ++ [h])
  · cases custOk l <;> rfl
  · rw [custOk_init h1]; rfl
theorem appS (l : List Hand) (h : Hand) (hl : l.length ≤ 1000000) : M.spec_AppendHand l h = some (AppD l h) := by
  unfold M.spec_AppendHand AppD
  rw [asrt_pos (by simp; omega), asrt_pos (by simp; omega), Option.bind_some]
  try dsimp only
  rw [List.nil_append, custS (l ++ [h]) (by simp; omega), Option.bind_some]
  cases custOk (l ++ [h]) <;> rfl
theorem holder_app {l : List Hand} {h : Hand} : holder (l ++ [h]) h.Record h.Day = h.To := by
  unfold holder
  rw [List.foldl_append]
  simp

/-! ### Lists compared -/
theorem rIntsS (a : List Int) (hl : a.length < 10000000) : M.laws_rInts a a = some true := by
  unfold M.laws_rInts
  simp only [bne_self_eq_false, cond_false]
  rw [iter_up (s := 0) (step := M.laws_rInts_l0 a a) (e := .inl ()) (fun k => (k : Int)) a.length rfl (by omega) (fun k hk => by
    unfold M.laws_rInts_l0
    simp (disch := first | omega | (intros; simp only [decide_eq_true_eq, decide_eq_false_iff_not, Bool.not_eq_true, Bool.not_eq_false, Bool.not_true, Bool.not_false] at *; omega)) only [cast_succ, asrt_pos, wrap64_id, Option.bind_some, cond_true, cond_false, decide_eq_true, decide_eq_false, Int.toNat_natCast, Bool.not_true, Bool.not_false, Bool.and_true, Bool.true_and, Bool.and_false, Bool.false_and, Bool.or_true, Bool.true_or, Bool.or_false, Bool.false_or, bne_self_eq_false]) (by
    unfold M.laws_rInts_l0
    simp (disch := first | omega | (intros; simp only [decide_eq_true_eq, decide_eq_false_iff_not, Bool.not_eq_true, Bool.not_eq_false, Bool.not_true, Bool.not_false] at *; omega)) only [cast_succ, asrt_pos, wrap64_id, Option.bind_some, cond_true, cond_false, decide_eq_true, decide_eq_false, Int.toNat_natCast, Bool.not_true, Bool.not_false, Bool.and_true, Bool.true_and, Bool.and_false, Bool.false_and, Bool.or_true, Bool.true_or, Bool.or_false, Bool.false_or])]
  rfl
theorem rHandsS (a : List Hand) (hl : a.length < 10000000) : M.laws_rHands a a = some true := by
  unfold M.laws_rHands
  simp only [bne_self_eq_false, cond_false]
  rw [iter_up (s := 0) (step := M.laws_rHands_l0 a a) (e := .inl ()) (fun k => (k : Int)) a.length rfl (by omega) (fun k hk => by
    unfold M.laws_rHands_l0
    simp (disch := first | omega | (intros; simp only [decide_eq_true_eq, decide_eq_false_iff_not, Bool.not_eq_true, Bool.not_eq_false, Bool.not_true, Bool.not_false] at *; omega)) only [cast_succ, asrt_pos, wrap64_id, Option.bind_some, cond_true, cond_false, decide_eq_true, decide_eq_false, Int.toNat_natCast, Bool.not_true, Bool.not_false, Bool.and_true, Bool.true_and, Bool.and_false, Bool.false_and, Bool.or_true, Bool.true_or, Bool.or_false, Bool.false_or, beq_self_eq_true]) (by
    unfold M.laws_rHands_l0
    simp (disch := first | omega | (intros; simp only [decide_eq_true_eq, decide_eq_false_iff_not, Bool.not_eq_true, Bool.not_eq_false, Bool.not_true, Bool.not_false] at *; omega)) only [cast_succ, asrt_pos, wrap64_id, Option.bind_some, cond_true, cond_false, decide_eq_true, decide_eq_false, Int.toNat_natCast, Bool.not_true, Bool.not_false, Bool.and_true, Bool.true_and, Bool.and_false, Bool.false_and, Bool.or_true, Bool.true_or, Bool.or_false, Bool.false_or])]
  rfl
theorem rHasS (l : List Int) (x : Int) (hl : l.length < 10000000) : M.laws_rHas l x = some (l.any fun y => y == x) := by
  unfold M.laws_rHas
  rw [iter_any (s := 0) (step := M.laws_rHas_l0 l x) (fun k => (k : Int)) l.length (fun k => l.getD k default == x) (.inr true) (.inl ()) rfl (by omega) (fun k hk hp => by
    unfold M.laws_rHas_l0
    simp (disch := first | omega | (intros; simp only [decide_eq_true_eq, decide_eq_false_iff_not, Bool.not_eq_true, Bool.not_eq_false, Bool.not_true, Bool.not_false] at *; omega)) only [cast_succ, asrt_pos, wrap64_id, Option.bind_some, cond_true, cond_false, decide_eq_true, decide_eq_false, Int.toNat_natCast, Bool.not_true, Bool.not_false, Bool.and_true, Bool.true_and, Bool.and_false, Bool.false_and, Bool.or_true, Bool.true_or, Bool.or_false, Bool.false_or, hp]) (fun k hk hp => by
    unfold M.laws_rHas_l0
    simp (disch := first | omega | (intros; simp only [decide_eq_true_eq, decide_eq_false_iff_not, Bool.not_eq_true, Bool.not_eq_false, Bool.not_true, Bool.not_false] at *; omega)) only [cast_succ, asrt_pos, wrap64_id, Option.bind_some, cond_true, cond_false, decide_eq_true, decide_eq_false, Int.toNat_natCast, Bool.not_true, Bool.not_false, Bool.and_true, Bool.true_and, Bool.and_false, Bool.false_and, Bool.or_true, Bool.true_or, Bool.or_false, Bool.false_or, hp]) (by
    unfold M.laws_rHas_l0
    simp (disch := first | omega | (intros; simp only [decide_eq_true_eq, decide_eq_false_iff_not, Bool.not_eq_true, Bool.not_eq_false, Bool.not_true, Bool.not_false] at *; omega)) only [cast_succ, asrt_pos, wrap64_id, Option.bind_some, cond_true, cond_false, decide_eq_true, decide_eq_false, Int.toNat_natCast, Bool.not_true, Bool.not_false, Bool.and_true, Bool.true_and, Bool.and_false, Bool.false_and, Bool.or_true, Bool.true_or, Bool.or_false, Bool.false_or]), ← any_getD (l := l) (p := fun y => y == x)]
  cases l.any (fun y => y == x) <;> rfl

/-! ### Draws -/
theorem good17 {code : List Int} : Good code 0 (⟨code, 0, 0⟩ : Cur) := ⟨rfl, Int.le_refl _, Int.le_refl _⟩
theorem drawHands {code : List Int} {k : Nat} {c : Cur} (hb : Bytes code) (h : Good code k c) (hk : k < 600000000) : T (M.spec_l1Cur_hands c) (fun r => r.1.length ≤ 20 ∧ Good code (k + 900) r.2) := by
  unfold M.spec_l1Cur_hands
  refine T_among hb h (by omega) (by simp) ?_
  intro x c1 _ h1
  refine T_pick hb h1 (by omega) ?_
  intro n c2 _ hn h2
  have hn := hn (by omega)
  try dsimp only
  refine T.then (Q := fun r => r.1.length ≤ 9 ∧ Good code (k + 500) r.2) (T_iter (fun s => 0 ≤ s.2.2.1 ∧ (s.1.length : Int) + s.2.2.1 ≤ 9 ∧ Good code (k + 500 - 50 * s.2.2.1.toNat) s.2.2.2) (fun s => s.2.2.1.toNat) _ ⟨hn.1, by simp only [List.length_nil]; omega, h2.up (by simp only; omega)⟩ (by (first | omega | (simp only; omega) | (dsimp only; omega) | (simp; omega))) ?_) ?_
  · rintro ⟨l, d, n, c3⟩ ⟨g1, g2, g3⟩
    simp only at g1 g2 g3
    unfold M.spec_l1Cur_hands_l0
    try dsimp only
    refine T_if (fun hq => ?_) (fun hq => T_ret ⟨by simp only; omega, g3.up (by omega)⟩)
    simp only [decide_eq_true_eq] at hq
    refine T_in ?_
    refine T.mono (Q := fun r => (r.1.length : Int) + n ≤ 10 ∧ Good code (k + 500 - 50 * n.toNat + 40) r.2.2) ?_ ?_
    · refine T_among hb g3 (by omega) (by simp) ?_
      intro x1 d1 _ q1
      refine T_pick hb q1 (by omega) ?_
      intro x2 d2 _ _ q2
      refine T_pick hb q2 (by omega) ?_
      intro x3 d3 _ _ q3
      refine T_among hb q3 (by omega) (by simp) ?_
      intro x4 d4 _ q4
      refine T_one hb q4 (by omega) ?_
      intro x5 d5 q5
      refine T_in ?_
      refine T.mono (Q := fun r => Good code (k + 500 - 50 * n.toNat + 14) r.2) ?_ ?_
      · refine (prevT l x1 l.length (by omega) (Nat.le_refl _)).then ?_
        rintro _ (⟨rfl, _⟩ | ⟨m, rfl, e2, _, _⟩)
        · rw [decide_eq_false (show ¬ ((-1 : Int) ≥ 0) by omega)]
          simp only [cond_false, Bool.false_and, Option.bind_some]
          exact T_ret (q5.up (by omega))
        · rw [decide_eq_true (show ((m : Int) ≥ 0) by omega)]
          simp only [cond_true, Bool.true_and]
          refine T_one hb q5 (by omega) ?_
          intro x6 d6 q6
          refine T_if (fun _ => ?_) (fun _ => T_ret (q6.up (by omega)))
          refine T_ask ⟨by omega, by omega⟩ ?_
          exact T_if (fun _ => T_ret (q6.up (by omega))) (fun _ => T_ret (q6.up (by omega)))
      · rintro ⟨hd, d6⟩ q6
        simp only at q6
        try dsimp only
        refine T_in ?_
        refine T.mono (Q := fun r => Good code (k + 500 - 50 * n.toNat + 20) r.1) ?_ ?_
        · refine T_pick hb q6 (by omega) ?_
          intro x7 d7 _ _ q7
          refine T_in ?_
          refine T.mono (Q := fun r => Good code (k + 500 - 50 * n.toNat + 20) r.1) ?_ (fun r hr => T_ret hr)
          repeat' (first
            | ((with_reducible (refine T_pick hb (by assumption) ?_ ?_)); omega; intro x_ c_ hx1_ hx2_ hc_; try dsimp only)
            | ((with_reducible (refine T_among hb (by assumption) ?_ ?_ ?_)); omega; simp; intro x_ c_ hx_ hc_; try dsimp only)
            | ((with_reducible (refine T_one hb (by assumption) ?_ ?_)); omega; intro x_ c_ hc_; try dsimp only)
            | ((with_reducible (refine T_next hb (by assumption) ?_ ?_)); omega; intro x_ c_ hx_ hc_; try dsimp only)
            | ((with_reducible (refine T_ask ?_ ?_)); (first | omega | (simp at *; omega) | (intros; simp at *; omega)))
            | (with_reducible (refine T_if (fun hq_ => ?_) (fun hq_ => ?_)))
            | ((with_reducible (refine T_ret ?_)); try dsimp only)
            | (with_reducible (refine T_in ?_)))
          all_goals exact Good.up (by assumption) (by omega)
        · rintro ⟨d7, hd2⟩ q7
          simp only at q7
          try dsimp only
          refine T_in ?_
          refine T.mono (Q := fun r => (r.1.length : Int) + n ≤ 10 ∧ Good code (k + 500 - 50 * n.toNat + 24) r.2) ?_ ?_
          · refine T_ask (by simp; omega) (T_ask (by simp; omega) (T_in (T_ret ?_)))
            simp only [List.nil_append]
            rw [custS _ (by simp; omega), Option.bind_some]
            cases custOk (l ++ [hd2])
            · simp only [cond_false, Bool.false_or]
              refine T_one hb q7 (by omega) ?_
              intro x8 d8 q8
              exact T_if (fun _ => T_ret ⟨by simp; omega, q8.up (by omega)⟩) (fun _ => T_ret ⟨by simp only; omega, q8.up (by omega)⟩)
            · simp only [cond_true, Bool.true_or, Option.bind_some]
              exact T_ret ⟨by simp; omega, q7.up (by omega)⟩
          · rintro ⟨l2, d8⟩ ⟨p1, p2⟩
            simp only at p1 p2
            try dsimp only
            refine T_among hb p2 (by omega) (by simp) ?_
            intro x9 d9 _ q9
            exact T_ret ⟨p1, q9.up (by omega)⟩
    · rintro ⟨l2, d2, c4⟩ ⟨p1, p2⟩
      refine T_ret ?_
      simp only at p1 p2 ⊢
      rw [wrap64_id (n := n - 1) (by omega) (by omega)]
      exact ⟨⟨by omega, by omega, p2.up (by omega)⟩, by omega⟩
  · rintro ⟨l, c3⟩ ⟨h3, h4⟩
    simp only at h3 h4
    refine T_one hb h4 (by omega) ?_
    intro b c4 h5
    try dsimp only
    refine T_if (fun _ => ?_) (fun _ => T_ret ⟨by simp only; omega, h5.up (by omega)⟩)
    refine T.then (Q := fun r => r.1.length ≤ 14 ∧ Good code (k + 700) r.2) (T_iter (fun s => s.2.1 = (s.1.length : Int) ∧ s.1.length ≤ 14 ∧ Good code (k + 510 + 2 * s.1.length) s.2.2) (fun s => 14 - s.1.length) _ ⟨by simp, by simp, h5.up (by simp)⟩ (by simp only; omega) ?_) (fun r hr => T_ret ⟨Nat.le_trans hr.1 (by omega), hr.2.up (by omega)⟩)
    rintro ⟨m, i, c5⟩ ⟨g0, g1, g2⟩
    simp only at g0 g1 g2
    subst g0
    unfold M.spec_l1Cur_hands_l1
    try dsimp only
    refine T_pick hb g2 (by omega) ?_
    intro y c6 _ y2 y3
    have := y2 (by omega)
    try dsimp only
    rw [wrap64_id (n := 12 + y) (by omega) (by omega)]
    refine T_if (fun hq => ?_) (fun hq => T_ret ⟨g1, y3.up (by omega)⟩)
    simp only [decide_eq_true_eq] at hq
    refine T_ask (by simp; omega) (T_ret ?_)
    simp only [List.length_append, List.length_cons, List.length_nil]
    rw [wrap64_id (n := (m.length : Int) + 1) (by omega) (by omega)]
    exact ⟨⟨by omega, by omega, y3.up (by omega)⟩, by omega⟩

theorem slc_ne {l : List Int} {m : Int} (h1 : 1 ≤ m) (h2 : m ≤ (l.length : Int)) : slc l 0 m ≠ [] := by
  intro e
  have h3 : (slc l 0 m).length = m.toNat := by
    unfold slc
    rw [List.length_drop, List.length_take]
    omega
  rw [e, List.length_nil] at h3
  omega
theorem drawRec17 {code : List Int} {k : Nat} {c : Cur} (hb : Bytes code) (h : Good code k c) (hk : k < 700000000) : T (M.spec_l1Cur_record17 c) (fun r => Good code (k + 4) r.2) := by
  unfold M.spec_l1Cur_record17
  refine T_pick hb h (by omega) ?_
  intro x c1 _ hx h1
  have hx := hx (by omega)
  try dsimp only
  have e1 : Int.tdiv x 11 = x / 11 := Int.tdiv_eq_ediv_of_nonneg hx.1
  rw [e1, wrap64_id (n := x / 11) (by omega) (by omega), wrap64_id (by omega) (by omega)]
  refine T_ask ⟨by omega, by omega, by simp; omega⟩ ?_
  refine T_among hb h1 (by omega) (slc_ne (by omega) (by simp; omega)) ?_
  intro y c2 _ h2
  exact T_ret h2
theorem drawDay17 {code : List Int} {k : Nat} {c : Cur} (hb : Bytes code) (h : Good code k c) (hk : k < 700000000) : T (M.spec_l1Cur_day17 c) (fun r => Good code (k + 4) r.2) := by
  unfold M.spec_l1Cur_day17
  refine T_pick hb h (by omega) ?_
  intro x c1 _ hx h1
  have hx := hx (by omega)
  try dsimp only
  have e1 : Int.tdiv x 11 = x / 11 := Int.tdiv_eq_ediv_of_nonneg hx.1
  rw [e1, wrap64_id (n := x / 11) (by omega) (by omega), wrap64_id (by omega) (by omega)]
  refine T_ask ⟨by omega, by omega, by simp; omega⟩ ?_
  refine T_among hb h1 (by omega) (slc_ne (by omega) (by simp; omega)) ?_
  intro y c2 _ h2
  exact T_ret h2

theorem dChain {code : List Int} (hb : Bytes code) : T (M.spec_DrawChainOf code) (fun r => r.1.length ≤ 20) := by
  unfold M.spec_DrawChainOf
  refine (drawHands hb good17 (by omega)).then ?_
  rintro ⟨l, c1⟩ ⟨h1, h2⟩
  refine (drawRec17 hb h2 (by omega)).then ?_
  rintro ⟨r, c2⟩ h3
  exact T_ret h1
theorem dHeld {code : List Int} (hb : Bytes code) : T (M.spec_DrawHeldBy code) (fun r => r.1.length ≤ 20) := by
  unfold M.spec_DrawHeldBy
  refine (drawHands hb good17 (by omega)).then ?_
  rintro ⟨l, c1⟩ ⟨h1, h2⟩
  refine T_pick hb h2 (by omega) ?_
  intro x c2 _ hx h3
  have hx := hx (by omega)
  try dsimp only
  have e1 : Int.tdiv x 11 = x / 11 := Int.tdiv_eq_ediv_of_nonneg hx.1
  rw [e1, wrap64_id (n := x / 11) (by omega) (by omega), wrap64_id (by omega) (by omega)]
  refine T_ask ⟨by omega, by omega, by simp; omega⟩ ?_
  refine T_among hb h3 (by omega) (slc_ne (by omega) (by simp; omega)) ?_
  intro y c3 _ h4
  refine (drawDay17 hb h4 (by omega)).then ?_
  rintro ⟨d, c4⟩ h5
  exact T_ret h1
theorem dHolder {code : List Int} (hb : Bytes code) : T (M.spec_DrawHolderOf code) (fun r => r.1.length ≤ 20) := by
  unfold M.spec_DrawHolderOf
  refine (drawHands hb good17 (by omega)).then ?_
  rintro ⟨l, c1⟩ ⟨h1, h2⟩
  refine (drawRec17 hb h2 (by omega)).then ?_
  rintro ⟨r, c2⟩ h3
  refine (drawDay17 hb h3 (by omega)).then ?_
  rintro ⟨d, c3⟩ h4
  exact T_ret h1
theorem dApp {code : List Int} (hb : Bytes code) : T (M.spec_DrawAppendHand code) (fun r => r.1.length ≤ 20) := by
  unfold M.spec_DrawAppendHand
  refine (drawHands hb good17 (by omega)).then ?_
  rintro ⟨l, c1⟩ ⟨h1, h2⟩
  simp only at h1 h2
  try dsimp only
  refine T_among hb h2 (by omega) (by simp) ?_
  intro x1 c2 _ h3
  refine T_pick hb h3 (by omega) ?_
  intro x2 c3 _ _ h4
  refine T_pick hb h4 (by omega) ?_
  intro x3 c4 _ _ h5
  refine T_in ?_
  refine T.mono (Q := fun _ => True) ?_ (fun _ _ => T_ret h1)
  refine T_if (fun hq => ?_) (fun _ => T_ret trivial)
  simp only [decide_eq_true_eq] at hq
  rw [wrap64_id (n := (l.length : Int) - 1) (by omega) (by omega)]
  refine T_ask ⟨by omega, by omega⟩ ?_
  refine T_pick hb h5 (by omega) ?_
  intro x4 c5 _ _ h6
  refine T_pick hb h6 (by omega) ?_
  intro x5 c6 _ _ h7
  refine (prevT l x1 l.length (by omega) (Nat.le_refl _)).then ?_
  rintro _ (⟨rfl, _⟩ | ⟨m, rfl, e2, _, _⟩)
  · rw [decide_eq_false (show ¬ ((-1 : Int) ≥ 0) by omega)]
    simp only [cond_false, Bool.false_and, Option.bind_some]
    exact T_ret trivial
  · rw [decide_eq_true (show ((m : Int) ≥ 0) by omega)]
    simp only [cond_true, Bool.true_and]
    refine T_one hb h7 (by omega) ?_
    intro x6 c7 h8
    refine T_if (fun _ => ?_) (fun _ => T_ret trivial)
    exact T_ask ⟨by omega, by omega⟩ (T_ret trivial)

theorem law_FnCustody (code : List Int) (h1 : code.length ≤ 9223372036854775807) (h2 : ∀ x, x ∈ code → 0 ≤ x ∧ x ≤ 255) : M.laws_FnCustody code = some true := by
  apply T.eq
  unfold M.laws_FnCustody M.laws_rBig
  rw [Option.bind_some]
  refine T_if (fun _ => T_ret rfl) (fun hq => ?_)
  simp only [decide_eq_false_iff_not] at hq
  have hb : Bytes code := ⟨by omega, h2⟩
  refine (dChain hb).then ?_
  rintro ⟨l, r⟩ hl
  simp only at hl
  simp only [chainI l r (by omega), chainS l r (by omega), holdDI l r 20000 (by omega), Option.bind_some, beq_self_eq_true, Bool.not_true, Bool.or_self, cond_false, rIntsS _ (show (ChainD l r).1.length < 10000000 by have := ChainD_len (l := l) (r := r) (by omega); omega)]
  refine T.then (Q := fun e => e = .inl ()) (T_if (fun hm => ?_) (fun _ => T_ret rfl)) ?_
  · simp only [decide_eq_true_eq] at hm
    unfold ChainD at hm ⊢
    cases hc : custOk l && inR r 1 999
    · rw [hc] at hm; simp at hm
    rw [hc] at hm
    simp only [cond_true] at hm ⊢
    simp only [Bool.and_eq_true] at hc
    have hands := custOk_hands hc.1
    have hlast := chain_last r 20000 l [] 0 (fun h hh => (handOk_spec (hands h hh)).2.2.2.2.1.2) (.inl ⟨rfl, rfl⟩)
    rcases hlast with ⟨g1, _⟩ | ⟨b, g1⟩
    · rw [g1] at hm; simp at hm
    · have e0 : HoldD l r 20000 = (holder l r 20000, decide (holder l r 20000 > 0)) := by
        unfold HoldD; rw [hc.1, hc.2]; rfl
      have e1 : l.foldl (chB r) [] = b ++ [holder l r 20000] := g1
      have hpos : 0 < holder l r 20000 := by
        have hmem : holder l r 20000 ∈ l.foldl (chB r) [] := by rw [e1]; simp
        have key : ∀ (l : List Hand) (a : List Int), (∀ h ∈ l, 1 ≤ h.To ∧ 1 ≤ h.From) → (∀ x ∈ a, 1 ≤ x) → ∀ x ∈ l.foldl (chB r) a, 1 ≤ x := by
          intro l
          induction l with
          | nil => intro a _ h; exact h
          | cons y t ih =>
            intro a hy h
            simp only [List.foldl_cons]
            refine ih _ (fun z hz => hy z (by simp [hz])) ?_
            have hy0 := hy y (by simp)
            intro x hx
            unfold chB at hx
            cases hcc : (y.Record != r)
            · rw [hcc] at hx
              simp only [cond_false] at hx
              cases he : ((a.length : Int) == 0)
              · rw [he] at hx
                simp only [cond_false, List.mem_append, List.mem_singleton] at hx
                rcases hx with hx | rfl
                · exact h x hx
                · exact hy0.1
              · rw [he] at hx
                simp only [cond_true, List.mem_append, List.mem_singleton] at hx
                rcases hx with (hx | rfl) | rfl
                · exact h x hx
                · exact hy0.2
                · exact hy0.1
            · rw [hcc] at hx
              exact h x hx
        have := key l [] (fun h hh => by have := handOk_spec (hands h hh); exact ⟨this.2.2.1.1, this.2.1.1⟩) (by simp) _ hmem
        omega
      rw [e0, e1, decide_eq_true hpos]
      have e2 : IntKind.i64.wrap (((b ++ [holder l r 20000]).length : Int) - 1) = (b.length : Int) := by
        have := chain_len (r := r) l
        rw [e1] at this
        rw [List.length_append, List.length_singleton] at this ⊢
        rw [wrap64_id (by omega) (by omega)]; omega
      refine T_ask (fun _ => by rw [e2]; exact ⟨by omega, by rw [List.length_append, List.length_singleton]; omega⟩) ?_
      rw [e2, Int.toNat_natCast]
      have e3 : (b ++ [holder l r 20000]).getD b.length default = holder l r 20000 := by simp [List.getD]
      rw [e3]
      simp only [Bool.not_true, bne_self_eq_false, Bool.or_self, cond_false]
      exact T_ret rfl
  rintro _ rfl
  try dsimp only
  refine (dHeld hb).then ?_
  rintro ⟨l, w, d⟩ hl
  simp only at hl
  simp only [heldByI l w d (by omega), heldByS l w d (by omega), Option.bind_some, beq_self_eq_true, Bool.not_true, Bool.or_self, cond_false, rIntsS _ (show (HeldD l w d).1.length < 10000000 by have := HeldD_len (l := l) (w := w) (d := d) (by omega); omega)]
  have hloop : iterO (M.laws_FnCustody_l0 (l, w, d) (HeldD l w d)) (0 : Int) = some (.inl ()) := by
    cases h : (custOk l && inR w 1 20) && inR d 0 20000
    · exact iterO_now (by
        unfold M.laws_FnCustody_l0 HeldD
        rw [h]
        simp)
    · have h' := h
      simp only [Bool.and_eq_true] at h
      obtain ⟨⟨k1, k2⟩, k3⟩ := h
      have hands := custOk_hands k1
      have kw := inR_true.1 k2
      refine iter_up (s := (0 : Int)) (step := M.laws_FnCustody_l0 (l, w, d) (HeldD l w d)) (fun k => (k : Int)) l.length rfl (by omega) (fun k hk => ?_) ?_
      · unfold M.laws_FnCustody_l0
        try dsimp only
        have eH : HeldD l w d = (once ((l.filter (heldP l w d)).map (·.Record)), true) := by unfold HeldD; rw [h']; rfl
        have hhk := handOk_spec (hands _ (getD_mem hk))
        have eO : HoldD l (l.getD k default).Record d = (holder l (l.getD k default).Record d, decide (holder l (l.getD k default).Record d > 0)) := by
          unfold HoldD; rw [k1, k3, inR_true.2 hhk.1]; rfl
        have hol : (once ((l.filter (heldP l w d)).map (·.Record))).length < 10000000 := by
          have := once_len (l := (l.filter (heldP l w d)).map (·.Record))
          rw [List.length_map] at this
          have := List.length_filter_le (heldP l w d) l
          omega
        rw [eH, decide_eq_true (by omega), Int.toNat_natCast, holdDI l _ _ (by omega), eO, rHasS _ _ hol]
        simp only [Bool.and_self, cond_true]
        rw [asrt_pos ⟨by omega, by omega⟩, Option.bind_some, asrt_pos ⟨by omega, by omega⟩, Option.bind_some]
        have key : ((once ((l.filter (heldP l w d)).map (·.Record))).any fun y => y == (l.getD k default).Record) = (decide (holder l (l.getD k default).Record d > 0) && (holder l (l.getD k default).Record d == w)) := by
          rw [Bool.eq_iff_iff, List.any_eq_true]
          simp only [Bool.and_eq_true, decide_eq_true_eq, beq_iff_eq]
          constructor
          · rintro ⟨y, hy, rfl⟩
            rw [(once_spec _).2, List.mem_map] at hy
            obtain ⟨h, hm, he⟩ := hy
            have hp := (List.mem_filter.1 hm).2
            unfold heldP at hp
            rw [beq_iff_eq] at hp
            rw [← he, hp]
            exact ⟨by omega, rfl⟩
          · rintro ⟨_, he⟩
            refine ⟨_, ?_, rfl⟩
            rw [(once_spec _).2, List.mem_map]
            refine ⟨l.getD k default, List.mem_filter.2 ⟨getD_mem hk, ?_⟩, rfl⟩
            unfold heldP
            rw [beq_iff_eq]; exact he
        rw [key]
        simp only [beq_self_eq_true, Bool.not_true, cond_false]
        rw [wrap64_id (by omega) (by omega), cast_succ]
      · unfold M.laws_FnCustody_l0
        try dsimp only
        rw [decide_eq_false (by omega)]
        rfl
  rw [hloop, Option.bind_some]
  try dsimp only
  refine (dApp hb).then ?_
  rintro ⟨l, h⟩ hl
  simp only at hl
  have hAl : (AppD l h).1.length ≤ 21 := by
    unfold AppD
    cases custOk (l ++ [h])
    · simp
    · simp; omega
  simp only [appI l h (by omega), appS l h (by omega), holdDI _ _ _ (show (AppD l h).1.length ≤ 1048576 by omega), custI _ (show (AppD l h).1.length ≤ 1048576 by omega), handI, Option.bind_some, beq_self_eq_true, Bool.not_true, Bool.or_self, cond_false, rHandsS _ (show (AppD l h).1.length < 10000000 by omega)]
  refine T.then (Q := fun e => e = .inl ()) (T_if (fun hm => ?_) (fun _ => T_ret rfl)) ?_
  · unfold AppD at hm ⊢
    cases hc : custOk (l ++ [h])
    · rw [hc] at hm; cases hm
    · have hh := custOk_hands hc h (by simp)
      have hs := handOk_spec hh
      have e0 : HoldD (l ++ [h]) h.Record h.Day = (h.To, true) := by
        unfold HoldD
        rw [hc, inR_true.2 hs.1, inR_true.2 hs.2.2.2.2.1, holder_app, decide_eq_true (show h.To > 0 by have := hs.2.2.1; omega)]; rfl
      simp only [cond_true, e0, hc, hh, Bool.not_true, bne_self_eq_false, Bool.or_self, cond_false, Option.bind_some]
      exact T_ret rfl
  rintro _ rfl
  try dsimp only
  refine (dHolder hb).then ?_
  rintro ⟨l, r, d⟩ hl
  simp only at hl
  simp only [holdDI l r d (by omega), holdDS l r d (by omega), Option.bind_some, beq_self_eq_true, Bool.and_self]
  exact T_ret rfl

end Go.Proofs.Ytmpknfachmfbaaa
