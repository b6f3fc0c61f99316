/-
  Redactions: hidden bytes, reasons, merged spans, the law. Plain.
-/
import Derived.Test.YteocnbeefedbkaaDoorRd
set_option linter.unusedSimpArgs false
set_option linter.unusedVariables false
namespace Go.Proofs.YteocnbeefedbkaaDoor
open Go.VS

theorem take_setB {β : Type} [Inhabited β] {l : List β} {k : Nat} {v : β} (h : k < l.length) : (l.set k v).take (k + 1) = l.take k ++ [v] := by
  rw [take_succ_getD (by simpa using h), List.take_set_of_le (Nat.le_refl k)]
  congr 1
  simp [List.getD, h]
theorem getD_setB {β : Type} [Inhabited β] {l : List β} {k j : Nat} {v : β} (hk : k < l.length) : (l.set k v).getD j default = if k = j then v else l.getD j default := by
  simp only [List.getD, List.getElem?_set]
  by_cases e : k = j
  · subst e; simp [hk]
  · simp [e]

theorem spEl {n : Int} {l : List Span} (h : spB n 0 l = true) {k : Nat} (hk : k < l.length) : 0 ≤ (l.getD k default).From ∧ (l.getD k default).From < (l.getD k default).To ∧ (l.getD k default).To ≤ n ∧ 1 ≤ (l.getD k default).Reason ∧ (l.getD k default).Reason ≤ 9 := spP_false.1 (((spB_iff l 0 (Int.le_refl _)).1 h).1.1 k hk)
theorem hid_append : ∀ (a b : List Span), hid (a ++ b) = hid a + hid b
  | [], b => by simp [hid]
  | s :: t, b => by rw [List.cons_append, hid, hid, hid_append t b]; omega
theorem hid_take {l : List Span} {k : Nat} (hk : k < l.length) : hid (l.take (k + 1)) = hid (l.take k) + ((l.getD k default).To - (l.getD k default).From) := by
  rw [take_succ_getD hk, hid_append]; simp [hid]
theorem spB_take : ∀ {l : List Span} {n b : Int} (k : Nat), spB n b l = true → spB n b (l.take k) = true
  | [], _, _, _, _ => by simp [spB]
  | s :: t, n, b, 0, _ => rfl
  | s :: t, n, b, k + 1, h => by
    obtain ⟨h1, h2⟩ := spB_cons h
    rw [List.take_succ_cons]
    exact spB_mk h1 (spB_take k h2)
theorem hid_bd : ∀ {l : List Span} {n b : Int}, spB n b l = true → b ≤ n → 0 ≤ hid l ∧ hid l ≤ n - b
  | [], n, b, _, hb => by simp only [hid]; omega
  | s :: t, n, b, h, hb => by
    obtain ⟨h1, h2⟩ := spB_cons h
    have := hid_bd h2 (by omega)
    rw [hid]; omega

def HidD (x : List UInt8) (l : List Span) : Int × Bool := bif !(spOk x l) then (0, false) else (hid l, true)
/-! ### Reasons -/
def sumR : List Int → Int
  | [] => 0
  | x :: t => x + sumR t
theorem sumR_append : ∀ (a b : List Int), sumR (a ++ b) = sumR a + sumR b
  | [], b => by simp [sumR]
  | s :: t, b => by rw [List.cons_append, sumR, sumR, sumR_append t b]; omega
theorem sumR_set : ∀ (l : List Int) (k : Nat) (v : Int), k < l.length → sumR (l.set k v) = sumR l - l.getD k default + v
  | [], k, v, h => absurd h (Nat.not_lt_zero _)
  | x :: t, 0, v, _ => by simp [sumR]; omega
  | x :: t, k + 1, v, h => by
    have := sumR_set t k v (by simpa using h)
    simp only [List.set_cons_succ, sumR, List.getD_cons_succ]
    omega
theorem sumR_bd : ∀ (l : List Int), (∀ x ∈ l, 0 ≤ x ∧ x ≤ 1000) → 0 ≤ sumR l ∧ sumR l ≤ l.length * 1000
  | [], _ => by simp [sumR]
  | x :: t, h => by
    have h1 := h x (by simp)
    have h2 := sumR_bd t (fun y hy => h y (by simp [hy]))
    simp only [sumR, List.length_cons]
    omega
def cnt1 (a : List Int) (s : Span) : List Int := a.set (s.Reason - 1).toNat (a.getD (s.Reason - 1).toNat default + 1)
structure CntI (a : List Int) (k : Nat) : Prop where
  len : a.length = 9
  bd : ∀ x ∈ a, 0 ≤ x ∧ x ≤ (k : Int)
  sum : sumR a = (k : Int)
theorem CntI.zero : CntI (List.replicate (Int.toNat 9) 0) 0 := ⟨rfl, fun x hx => by rw [(List.mem_replicate.1 hx).2]; simp, rfl⟩
theorem CntI.next {a : List Int} {k : Nat} {s : Span} (h : CntI a k) (hs : 1 ≤ s.Reason ∧ s.Reason ≤ 9) : CntI (cnt1 a s) (k + 1) := by
  have hl := h.len
  have hk : (s.Reason - 1).toNat < a.length := by omega
  have hv := h.bd _ (getD_mem hk)
  refine ⟨by unfold cnt1; rw [List.length_set]; exact h.len, fun x hx => ?_, ?_⟩
  · unfold cnt1 at hx
    rcases List.mem_or_eq_of_mem_set hx with hx | hx
    · have := h.bd x hx; omega
    · omega
  · unfold cnt1
    rw [sumR_set _ _ _ hk, h.sum]
    omega
def CntD (x : List UInt8) (l : List Span) : List Int × Bool := bif !(spOk x l) then ([], false) else (l.foldl cnt1 (List.replicate (Int.toNat 9) 0), true)
theorem cnt_I {n : Int} : ∀ (l : List Span) (a : List Int) (k : Nat), CntI a k → (∀ s ∈ l, 1 ≤ s.Reason ∧ s.Reason ≤ 9) → CntI (l.foldl cnt1 a) (k + l.length)
  | [], a, k, h, _ => h
  | s :: t, a, k, h, hs => by
    have := cnt_I (n := n) t (cnt1 a s) (k + 1) (h.next (hs s (by simp))) (fun y hy => hs y (by simp [hy]))
    rw [List.foldl_cons, List.length_cons, show k + (t.length + 1) = k + 1 + t.length by omega]
    exact this
theorem spMem {n : Int} {l : List Span} (h : spB n 0 l = true) : ∀ s ∈ l, 1 ≤ s.Reason ∧ s.Reason ≤ 9 := by
  intro s hs
  obtain ⟨i, hi, rfl⟩ := List.getElem_of_mem hs
  have := spEl h hi
  rw [getD_el hi] at this
  exact this.2.2.2
/-! ### Merged spans -/
def tieS (c s : Span) : Bool := (c.To == s.From) && (c.Reason == s.Reason)
def mg : Span → List Span → List Span
  | c, [] => [c]
  | c, s :: t => bif tieS c s then mg ⟨c.From, s.To, c.Reason⟩ t else c :: mg s t
def mgs : List Span → List Span
  | [] => []
  | s :: t => mg s t
def mstep (a : List Span) (s : Span) : List Span := bif decide ((a.length : Int) > 0) && tieS (a.getD (a.length - 1) default) s then a.set (a.length - 1) ⟨(a.getD (a.length - 1) default).From, s.To, (a.getD (a.length - 1) default).Reason⟩ else a ++ [s]
theorem mstep_c (P : List Span) (c s : Span) : mstep (P ++ [c]) s = bif tieS c s then P ++ [⟨c.From, s.To, c.Reason⟩] else (P ++ [c]) ++ [s] := by
  have e : (P ++ [c]).length - 1 = P.length := by rw [List.length_append]; rfl
  have d : (P ++ [c]).getD P.length default = c := by simp [List.getD]
  unfold mstep
  rw [e, d, decide_eq_true (by rw [List.length_append]; simp only [List.length_cons, List.length_nil]; omega), Bool.true_and]
  cases tieS c s
  · rfl
  · simp only [cond_true]
    rw [List.set_append_right _ _ (Nat.le_refl _), Nat.sub_self]
    rfl
theorem mfold_c : ∀ (l : List Span) (P : List Span) (c : Span), l.foldl mstep (P ++ [c]) = P ++ mg c l
  | [], P, c => rfl
  | s :: t, P, c => by
    rw [List.foldl_cons, mstep_c, mg]
    cases tieS c s
    · simp only [cond_false]
      rw [mfold_c t (P ++ [c]) s, List.append_assoc]; rfl
    · simp only [cond_true]
      exact mfold_c t P _
theorem mfold (l : List Span) : l.foldl mstep [] = mgs l := by
  cases l with
  | nil => rfl
  | cons s t =>
    rw [List.foldl_cons, show mstep [] s = [] ++ [s] from rfl, mfold_c]
    rfl
theorem mstep_len (a : List Span) (s : Span) : (mstep a s).length ≤ a.length + 1 := by
  unfold mstep
  cases (decide ((a.length : Int) > 0) && tieS (a.getD (a.length - 1) default) s)
  · simp
  · simp
def MrgD (x : List UInt8) (l : List Span) : List Span × Bool := bif !(spOk x l) then ([], false) else (mgs l, true)
theorem tieS_eq {c s : Span} (h : tieS c s = true) : c.To = s.From ∧ c.Reason = s.Reason := by
  unfold tieS at h
  simpa only [Bool.and_eq_true, beq_iff_eq] using h
theorem mg_hid : ∀ (t : List Span) (c : Span), hid (mg c t) = hid (c :: t)
  | [], c => rfl
  | s :: t, c => by
    rw [mg]
    cases h : tieS c s
    · simp only [cond_false, hid, mg_hid t s]
    · have := tieS_eq h
      simp only [cond_true, mg_hid t, hid]
      omega
theorem mgs_hid (l : List Span) : hid (mgs l) = hid l := by
  cases l with
  | nil => rfl
  | cons s t => exact mg_hid t s
theorem mg_len : ∀ (t : List Span) (c : Span), (mg c t).length ≤ t.length + 1
  | [], c => by simp [mg]
  | s :: t, c => by
    rw [mg]
    cases h : tieS c s
    · have := mg_len t s; rw [cond_false, List.length_cons, List.length_cons]; omega
    · have := mg_len t ⟨c.From, s.To, c.Reason⟩; rw [cond_true, List.length_cons]; omega
theorem mgs_len (l : List Span) : (mgs l).length ≤ l.length := by
  cases l with
  | nil => exact Nat.le_refl _
  | cons s t => exact mg_len t s
theorem mg_sp {n : Int} : ∀ (t : List Span) (c : Span) (b : Int), spB n b (c :: t) = true → spB n b (mg c t) = true
  | [], c, b, h => h
  | s :: t, c, b, h => by
    obtain ⟨h1, h2⟩ := spB_cons h
    rw [mg]
    cases hc : tieS c s
    · exact spB_mk h1 (mg_sp t s _ h2)
    · obtain ⟨g1, g2⟩ := spB_cons h2
      have := tieS_eq hc
      refine mg_sp t _ b (spB_mk ?_ g2)
      simp only
      omega
theorem mgs_sp {n : Int} {l : List Span} (h : spB n 0 l = true) : spB n 0 (mgs l) = true := by
  cases l with
  | nil => rfl
  | cons s t => exact mg_sp t s 0 h
theorem mgs_ok {x : List UInt8} {l : List Span} (h : spOk x l = true) : spOk x (mgs l) = true := by
  obtain ⟨h1, h2, h3, _⟩ := spOk_spec h
  have := mgs_len l
  unfold spOk
  rw [h1, mgs_sp h3, decide_eq_true (by omega)]
  rfl
def sep : Span → List Span → Prop
  | _, [] => True
  | c, s :: t => tieS c s = false ∧ sep s t
theorem mg_sep : ∀ (t : List Span) (c : Span), ∃ d r, mg c t = d :: r ∧ d.From = c.From ∧ d.Reason = c.Reason ∧ sep d r
  | [], c => ⟨c, [], rfl, rfl, rfl, trivial⟩
  | s :: t, c => by
    rw [mg]
    cases hc : tieS c s
    · obtain ⟨d, r, h1, h2, h3, h4⟩ := mg_sep t s
      refine ⟨c, d :: r, by rw [cond_false, h1], rfl, rfl, ?_, h4⟩
      rw [← hc]
      unfold tieS
      rw [h2, h3]
    · exact mg_sep t _
theorem sep_mg : ∀ (r : List Span) (d : Span), sep d r → mg d r = d :: r
  | [], d, _ => rfl
  | s :: t, d, h => by rw [mg, h.1, cond_false, sep_mg t s h.2]
theorem mgs_mgs (l : List Span) : mgs (mgs l) = mgs l := by
  cases l with
  | nil => rfl
  | cons s t =>
    obtain ⟨d, r, h1, _, _, h4⟩ := mg_sep t s
    show mgs (mg s t) = mg s t
    rw [h1]
    exact sep_mg r d h4
theorem vSpans_self (a : List Span) (hl : a.length < 1000000) : M.laws_vSpans a a = some true := by
  unfold M.laws_vSpans
  simp only [bne_self_eq_false, cond_false]
  rw [iter_up (s := 0) (step := M.laws_vSpans_l0 a a) (e := .inl ()) (fun k => (k : Int)) a.length rfl (by omega) (fun k hk => by
    unfold M.laws_vSpans_l0
    simp (disch := first | omega | (intros; simp only [decide_eq_true_eq, decide_eq_false_iff_not, Bool.not_eq_true, Bool.not_eq_false, Bool.not_true, Bool.not_false] at *; omega)) only [cast_succ, asrt_pos, wrap64_id, Option.bind_some, cond_true, cond_false, decide_eq_true, decide_eq_false, Int.toNat_natCast, Bool.not_true, Bool.not_false, Bool.and_true, Bool.true_and, Bool.and_false, Bool.false_and, Bool.or_true, Bool.true_or, Bool.or_false, Bool.false_or, beq_self_eq_true]) (by
    unfold M.laws_vSpans_l0
    simp (disch := first | omega | (intros; simp only [decide_eq_true_eq, decide_eq_false_iff_not, Bool.not_eq_true, Bool.not_eq_false, Bool.not_true, Bool.not_false] at *; omega)) only [cast_succ, asrt_pos, wrap64_id, Option.bind_some, cond_true, cond_false, decide_eq_true, decide_eq_false, Int.toNat_natCast, Bool.not_true, Bool.not_false, Bool.and_true, Bool.true_and, Bool.and_false, Bool.false_and, Bool.or_true, Bool.true_or, Bool.or_false, Bool.false_or])]
  rfl
theorem vInts_self (a : List Int) (hl : a.length < 1000000) : M.laws_vInts a a = some true := by
  unfold M.laws_vInts
  simp only [bne_self_eq_false, cond_false]
  rw [iter_up (s := 0) (step := M.laws_vInts_l0 a a) (e := .inl ()) (fun k => (k : Int)) a.length rfl (by omega) (fun k hk => by
    unfold M.laws_vInts_l0
    simp (disch := first | omega | (intros; simp only [decide_eq_true_eq, decide_eq_false_iff_not, Bool.not_eq_true, Bool.not_eq_false, Bool.not_true, Bool.not_false] at *; omega)) only [cast_succ, asrt_pos, wrap64_id, Option.bind_some, cond_true, cond_false, decide_eq_true, decide_eq_false, Int.toNat_natCast, Bool.not_true, Bool.not_false, Bool.and_true, Bool.true_and, Bool.and_false, Bool.false_and, Bool.or_true, Bool.true_or, Bool.or_false, Bool.false_or, bne_self_eq_false]) (by
    unfold M.laws_vInts_l0
    simp (disch := first | omega | (intros; simp only [decide_eq_true_eq, decide_eq_false_iff_not, Bool.not_eq_true, Bool.not_eq_false, Bool.not_true, Bool.not_false] at *; omega)) only [cast_succ, asrt_pos, wrap64_id, Option.bind_some, cond_true, cond_false, decide_eq_true, decide_eq_false, Int.toNat_natCast, Bool.not_true, Bool.not_false, Bool.and_true, Bool.true_and, Bool.and_false, Bool.false_and, Bool.or_true, Bool.true_or, Bool.or_false, Bool.false_or])]
  rfl

/-! ### Without a reason -/
def WoD (x : List UInt8) (l : List Span) (r : Int) : List Span × Bool := bif spOk x l && inR r 1 9 then (l.filter (fun s => !(s.Reason == r)), true) else ([], false)
/-! ### Another text -/
theorem other_ok {x : List UInt8} {l : List Span} (hs : spOk x l = true) : spOk (oth x 0 l) l = true := by
  obtain ⟨h1, h2, h3, h4⟩ := spOk_spec hs
  have e := oth_len (u := x) (b := 0) h3 (by omega)
  unfold txtOk at h1
  simp only [Bool.and_eq_true] at h1
  unfold spOk txtOk
  rw [e, h1.1, h3, oth_low h1.2, decide_eq_true h2]
  rfl

/-! ### Draws -/
theorem drawText {code : List Int} {k : Nat} {c : Cur} (hb : Bytes code) (h : Good code k c) (hk : k < 600000000) : T (M.spec_l1Cur_text c) (fun r => r.1.length ≤ 200 ∧ Good code (k + 1000) r.2) := by
  unfold M.spec_l1Cur_text
  refine T_pick hb h (by omega) ?_
  intro n c1 _ hn h1
  have hn := hn (by omega)
  try dsimp only
  refine T.then (Q := fun r => r.1.length ≤ 80 ∧ Good code (k + 100) r.2) (T_iter (fun s => (0 ≤ s.2.1 ∧ s.2.1 ≤ 8) ∧ (s.1.length : Int) + 10 * s.2.1 ≤ 80 ∧ Good code (k + 100 - 2 * s.2.1.toNat) s.2.2) (fun s => s.2.1.toNat) _ ⟨by simp only; omega, by simp only [List.length_nil]; omega, h1.up (by simp only; omega)⟩ (by (first | omega | (simp only; omega) | (dsimp only; omega) | (simp; omega))) ?_) ?_
  · rintro ⟨s, n, c2⟩ ⟨g1, g2, g3⟩
    simp only at g1 g2 g3
    unfold M.spec_l1Cur_text_l0
    try dsimp only
    refine T_if (fun hq => ?_) (fun hq => T_ret ⟨by simp only; omega, g3.up (by omega)⟩)
    simp only [decide_eq_true_eq] at hq
    refine T_in (T_of hb g3 (by omega) (by simp) ?_)
    intro w c3 hw h2
    have hwl : w.length ≤ 5 := by
      simp only [List.mem_cons, List.not_mem_nil, or_false] at hw
      rcases hw with h | h | h | h | h | h | h | h | h | h <;> rw [h] <;> decide
    try dsimp only
    refine T_ask (by omega) (T_if (fun hp => T_ask (by simp only [List.length_append, List.length_cons, List.length_nil]; omega) (T_ret (T_ret ?_))) (fun hp => T_ret (T_ret ?_)))
    · simp only [List.length_append, List.length_cons, List.length_nil]
      rw [wrap64_id (n := n - 1) (by omega) (by omega)]
      exact ⟨⟨by omega, by omega, h2.up (by omega)⟩, by omega⟩
    · simp only [List.length_append]
      rw [wrap64_id (n := n - 1) (by omega) (by omega)]
      exact ⟨⟨by omega, by omega, h2.up (by omega)⟩, by omega⟩
  · rintro ⟨s, c2⟩ ⟨h2, h3⟩
    simp only at h2 h3
    refine T_pick hb h3 (by omega) ?_
    intro y c3 _ _ h4
    try dsimp only
    refine T.then (Q := fun r => r.1.length ≤ 200 ∧ Good code (k + 1000) r.2) ?_ (fun r hr => T_ret hr)
    refine T_if (fun _ => ?_) (fun _ => T_if (fun _ => ?_) (fun _ => T_ret ⟨by simp only; omega, h4.up (by omega)⟩))
    · refine T_of hb h4 (by omega) (by simp) ?_
      intro w c4 hw h5
      have hwl : w.length ≤ 5 := by
        simp only [List.mem_cons, List.not_mem_nil, or_false] at hw
        rcases hw with h | h | h | h <;> rw [h] <;> decide
      try dsimp only
      exact T_ask (by omega) (T_ret ⟨by simp only [List.length_append]; omega, h5.up (by omega)⟩)
    · refine T.then (Q := fun r => r.1.length ≤ 200 ∧ Good code (k + 1000) r.2) (T_iter (fun s => s.1.length ≤ 110 ∧ Good code (k + 200 + 2 * s.1.length) s.2) (fun s => 200 - s.1.length) _ ⟨by simp only; omega, h4.up (by omega)⟩ (by simp only; omega) ?_) (fun r hr => T_ret hr)
      rintro ⟨m, c4⟩ ⟨g1, g2⟩
      simp only at g1 g2
      unfold M.spec_l1Cur_text_l1
      try dsimp only
      refine T_pick hb g2 (by omega) ?_
      intro y c5 _ y2 y3
      have := y2 (by omega)
      try dsimp only
      rw [wrap64_id (n := 100 + y) (by omega) (by omega)]
      refine T_if (fun hq => ?_) (fun hq => T_ret ⟨by simp only; omega, y3.up (by omega)⟩)
      simp only [decide_eq_true_eq] at hq
      refine T_ask (by simp only [List.length_cons, List.length_nil]; omega) (T_ret ?_)
      simp only [List.length_append, List.length_cons, List.length_nil]
      exact ⟨⟨by omega, y3.up (by omega)⟩, by omega⟩
theorem leastS (a b : Int) : M.spec_l1Least a b = some (bif decide (a < b) then a else b) := by
  unfold M.spec_l1Least
  cases decide (a < b) <;> rfl
theorem drawSpans {code : List Int} {k : Nat} {c : Cur} (hb : Bytes code) (h : Good code k c) (hk : k < 600000000) (x : List UInt8) : T (M.spec_l1Cur_spans c x) (fun r => r.1.length ≤ 20 ∧ Good code (k + 1000) r.2) := by
  unfold M.spec_l1Cur_spans
  refine T_pick hb h (by omega) ?_
  intro n c1 _ hn h1
  have hn := hn (by omega)
  try dsimp only
  refine T.then (Q := fun r => r.1.length ≤ 6 ∧ Good code (k + 100) r.2.2) (T_iter (fun s => (0 ≤ s.2.2.1 ∧ s.2.2.1 ≤ 6) ∧ (s.1.length : Int) + s.2.2.1 ≤ 6 ∧ Good code (k + 100 - 10 * s.2.2.1.toNat) s.2.2.2) (fun s => s.2.2.1.toNat) _ ⟨by simp only; omega, by simp only [List.length_nil]; omega, h1.up (by simp only; omega)⟩ (by (first | omega | (simp only; omega) | (dsimp only; omega) | (simp; omega))) ?_) ?_
  · rintro ⟨l, a, n, c2⟩ ⟨g1, g2, g3⟩
    simp only at g1 g2 g3
    unfold M.spec_l1Cur_spans_l0
    try dsimp only
    refine T_if (fun hq => ?_) (fun hq => T_ret ⟨by simp only; omega, g3.up (by omega)⟩)
    simp only [Bool.and_eq_true, decide_eq_true_eq] at hq
    refine T_among hb g3 (by omega) (by simp) ?_
    intro y c3 _ h2
    try dsimp only
    rw [leastS, Option.bind_some]
    refine T_among hb h2 (by omega) (by simp) ?_
    intro y4 c4 _ h3
    try dsimp only
    rw [leastS, Option.bind_some]
    refine T_among hb h3 (by omega) (by simp) ?_
    intro y5 c5 _ h4
    try dsimp only
    refine T_ask (by simp only [List.length_cons, List.length_nil]; omega) (T_ret ?_)
    simp only [List.length_append, List.length_cons, List.length_nil]
    rw [wrap64_id (n := n - 1) (by omega) (by omega)]
    exact ⟨⟨by omega, by omega, h4.up (by omega)⟩, by omega⟩
  · rintro ⟨l, a, c2⟩ ⟨h2, h3⟩
    simp only at h2 h3
    try dsimp only
    refine T_pick hb h3 (by omega) ?_
    intro y c3 _ _ h4
    try dsimp only
    refine T.then (Q := fun r => r.1.length ≤ 20 ∧ Good code (k + 1000) r.2) ?_ (fun r hr => T_ret hr)
    refine T_if (fun _ => ?_) (fun _ => T_if (fun _ => ?_) (fun _ => T_ret ⟨by simp only; omega, h4.up (by omega)⟩))
    · refine T_among hb h4 (by omega) (by simp) ?_
      intro y4 c4 _ h5
      try dsimp only
      refine T_among hb h5 (by omega) (by simp) ?_
      intro y5 c5 _ h6
      try dsimp only
      refine T_among hb h6 (by omega) (by simp) ?_
      intro y6 c6 _ h7
      try dsimp only
      exact T_ask (by simp only [List.length_cons, List.length_nil]; omega) (T_ret ⟨by simp only [List.length_append, List.length_cons, List.length_nil]; omega, h7.up (by omega)⟩)
    · refine T.then (Q := fun r => r.1.length ≤ 20 ∧ Good code (k + 1000) r.2) (T_iter (fun s => s.1.length ≤ 12 ∧ Good code (k + 200 + 2 * s.1.length) s.2) (fun s => 20 - s.1.length) _ ⟨by simp only [List.length_nil]; omega, h4.up (by omega)⟩ (by simp only; omega) ?_) (fun r hr => T_ret hr)
      rintro ⟨m, c4⟩ ⟨g1, g2⟩
      simp only at g1 g2
      unfold M.spec_l1Cur_spans_l1
      try dsimp only
      refine T_pick hb g2 (by omega) ?_
      intro y c5 _ y2 y3
      have := y2 (by omega)
      try dsimp only
      rw [wrap64_id (n := 8 + y) (by omega) (by omega)]
      refine T_if (fun hq => ?_) (fun hq => T_ret ⟨by simp only; omega, y3.up (by omega)⟩)
      simp only [decide_eq_true_eq] at hq
      refine T_ask (by simp only [List.length_cons, List.length_nil]; omega) (T_ret ?_)
      simp only [List.length_append, List.length_cons, List.length_nil]
      exact ⟨⟨by omega, y3.up (by omega)⟩, by omega⟩
theorem good0r {code : List Int} : Good code 0 (⟨code, 0, 0⟩ : Cur) := ⟨rfl, Int.le_refl _, Int.le_refl _⟩
/-! ### The law -/
end Go.Proofs.YteocnbeefedbkaaDoor
