/-
  Redactions: hidden bytes, reasons, merged spans, the law. Plain.
-/
import Derived.Test.YtfebeomnlkfgoaaDoorRd
set_option linter.unusedSimpArgs false
set_option linter.unusedVariables false
namespace Go.Proofs.YtfebeomnlkfgoaaDoor
open Go.VS

theorem take_setB {β : Type} [Inhabited β] {l : List β} {k : Nat} {v : β} (h : k < l.length) : (l.set k v).take (k + 1) = l.take k ++ [v] := by
  rw [take_succ_getD (by simpa using h), List.take_set_of_le (Nat.le_refl k)]
  congr 1
  simp [List.getD, h]
theorem getD_setB {β : Type} [Inhabited β] {l : List β} {k j : Nat} {v : β} (hk : k < l.length) : (l.set k v).getD j default = if k = j then v else l.getD j default := by
  simp only [List.getD, List.getElem?_set]
  by_cases e : k = j
  · subst e; simp [hk]
  · simp [e]

/-- slices.DeleteFunc. -/
theorem delI (s : List Span) (p : Span → Bool) (fm : Span → Option Bool) (hfm : ∀ x ∈ s, fm x = some (p x)) (hl : s.length < 1000000) : M.slices_DeleteFunc_impl_Span_impl_Span s fm = some (s.filter fun x => !p x) := by
  unfold M.slices_DeleteFunc_impl_Span_impl_Span M.slices_IndexFunc_impl_Span_impl_Span
  rcases iter_find (step := M.slices_IndexFunc_impl_Span_impl_Span_l0 s fm) (s := 0) (fun k => (k : Int)) s.length (fun k => p (s.getD k default)) (fun k => .inr (k : Int)) (.inl ()) rfl (by omega)
    (fun k hk hp => by
      have := hfm _ (getD_mem hk)
      unfold M.slices_IndexFunc_impl_Span_impl_Span_l0
      simp (disch := first | omega | (intros; simp only [decide_eq_true_eq, decide_eq_false_iff_not, Bool.not_eq_true, Bool.not_eq_false, Bool.not_true, Bool.not_false] at *; omega)) only [cast_succ, asrt_pos, wrap64_id, Option.bind_some, cond_true, cond_false, decide_eq_true, decide_eq_false, Int.toNat_natCast, Bool.not_true, Bool.not_false, Bool.and_true, Bool.true_and, Bool.and_false, Bool.false_and, Bool.or_true, Bool.true_or, Bool.or_false, Bool.false_or, this, hp])
    (fun k hk hp => by
      have := hfm _ (getD_mem hk)
      unfold M.slices_IndexFunc_impl_Span_impl_Span_l0
      simp (disch := first | omega | (intros; simp only [decide_eq_true_eq, decide_eq_false_iff_not, Bool.not_eq_true, Bool.not_eq_false, Bool.not_true, Bool.not_false] at *; omega)) only [cast_succ, asrt_pos, wrap64_id, Option.bind_some, cond_true, cond_false, decide_eq_true, decide_eq_false, Int.toNat_natCast, Bool.not_true, Bool.not_false, Bool.and_true, Bool.true_and, Bool.and_false, Bool.false_and, Bool.or_true, Bool.true_or, Bool.or_false, Bool.false_or, this, hp])
    (by
      unfold M.slices_IndexFunc_impl_Span_impl_Span_l0
      simp (disch := first | omega | (intros; simp only [decide_eq_true_eq, decide_eq_false_iff_not, Bool.not_eq_true, Bool.not_eq_false, Bool.not_true, Bool.not_false] at *; omega)) only [cast_succ, asrt_pos, wrap64_id, Option.bind_some, cond_true, cond_false, decide_eq_true, decide_eq_false, Int.toNat_natCast, Bool.not_true, Bool.not_false, Bool.and_true, Bool.true_and, Bool.and_false, Bool.false_and, Bool.or_true, Bool.true_or, Bool.or_false, Bool.false_or]) with ⟨k, h1, h2, h3, h4⟩ | ⟨h1, h2⟩
  · rw [h4, Option.bind_some]
    try dsimp only
    rw [Option.bind_some, show (((k : Nat) : Int) == -1) = false by rw [beq_eq_false_iff_ne]; omega, cond_false, wrap64_id (by omega) (by omega)]
    apply T.eq
    have hpre : (s.take (k + 1)).filter (fun x => !p x) = s.take k := by
      rw [take_succ_getD h1, List.filter_append]
      have e1 : (s.take k).filter (fun x => !p x) = s.take k := by
        rw [List.filter_eq_self]
        intro x hx
        obtain ⟨j, hj, rfl⟩ := List.getElem_of_mem hx
        rw [List.length_take] at hj
        rw [List.getElem_take]
        have := h3 j (by omega)
        simp only [List.getD, List.getElem?_eq_getElem (show j < s.length by omega), Option.getD_some] at this
        rw [this]; rfl
      rw [e1, List.filter_cons, h2]
      simp
    refine T.then (Q := fun e => ∃ m : Nat, e.2 = (m : Int) ∧ m ≤ s.length ∧ e.1.length = s.length ∧ e.1.take m = s.filter (fun x => !p x)) (T_iter (fun q => ∃ (m j : Nat), q.2.1 = (m : Int) ∧ q.2.2 = (j : Int) ∧ m < j ∧ j ≤ s.length ∧ q.1.length = s.length ∧ q.1.take m = (s.take j).filter (fun x => !p x) ∧ ∀ i, j ≤ i → q.1.getD i default = s.getD i default) (fun q => s.length - q.2.2.toNat) _
      ⟨k, k + 1, rfl, by show ((k : Int) + 1) = ((k + 1 : Nat) : Int); omega, by omega, by omega, rfl, hpre.symm, fun i _ => rfl⟩ (by simp only; omega) ?_) ?_
    · rintro ⟨s1, _, _⟩ ⟨m, j, rfl, rfl, g1, g2, g4, g5, g6⟩
      simp only at g4 g5 g6
      unfold M.slices_DeleteFunc_impl_Span_impl_Span_l0
      try dsimp only
      refine T_if (fun hq => ?_) (fun hq => ?_)
      · simp only [decide_eq_true_eq] at hq
        have hj : j < s.length := by omega
        have hdd : (s.take (j + 1)).filter (fun x => !p x) = (s.take j).filter (fun x => !p x) ++ (if p (s.getD j default) = true then [] else [s.getD j default]) := by
          rw [take_succ_getD hj, List.filter_append]
          congr 1
          rw [List.filter_cons]
          cases p (s.getD j default) <;> rfl
        rw [Int.toNat_natCast, Int.toNat_natCast, g6 j (Nat.le_refl _), hfm _ (getD_mem hj)]
        refine T_in (T_ask ⟨by omega, by omega⟩ ?_)
        rw [Option.bind_some]
        cases hp : p (s.getD j default)
        · rw [hp, if_neg (by simp)] at hdd
          simp only [Bool.not_false, cond_true]
          refine T_ask ⟨by omega, by omega⟩ (T_ret (T_ret ?_))
          simp only
          rw [wrap64_id (n := (m : Int) + 1) (by omega) (by omega), wrap64_id (n := (j : Int) + 1) (by omega) (by omega)]
          refine ⟨⟨m + 1, j + 1, by omega, by omega, by omega, by omega, by simpa using g4, ?_, fun i hi => ?_⟩, by omega⟩
          · rw [take_setB (by omega), g5, hdd]
          · rw [getD_setB (by omega), if_neg (by omega)]
            exact g6 i (by omega)
        · rw [hp, if_pos rfl, List.append_nil] at hdd
          simp only [Bool.not_true, cond_false]
          refine T_ret (T_ret ?_)
          simp only
          rw [wrap64_id (n := (j : Int) + 1) (by omega) (by omega)]
          exact ⟨⟨m, j + 1, rfl, by omega, by omega, by omega, g4, by rw [g5, hdd], fun i hi => g6 i (by omega)⟩, by omega⟩
      · simp only [decide_eq_false_iff_not] at hq
        have : j = s.length := by omega
        rw [this, List.take_length] at g5
        exact T_ret ⟨m, rfl, by omega, g4, g5⟩
    · rintro ⟨s0, _⟩ ⟨m, rfl, g1, g2, g3⟩
      simp only at g1 g2 g3
      try dsimp only
      simp only [Int.toNat_natCast, Nat.zero_add]
      refine T_ask ⟨by omega, by omega, by omega⟩ (T_ask (by omega) (T_ask ⟨by omega, by omega, by simp; omega⟩ (T_ask (by simp; omega) (T_ret ?_))))
      rw [show m - Int.toNat 0 = m from rfl, List.append_assoc, List.take_append_of_le_length (by rw [List.length_take]; omega), List.take_take, Nat.min_self, g3]
  · rw [h2]
    have : s.filter (fun x => !p x) = s := by
      rw [List.filter_eq_self]
      intro x hx
      obtain ⟨j, hj, rfl⟩ := List.getElem_of_mem hx
      have := h1 j hj
      simp only [List.getD, List.getElem?_eq_getElem hj, Option.getD_some] at this
      rw [this]; rfl
    rw [this]
    rfl


theorem spEl {n : Int} {l : List Span} (h : spB n 0 l = true) {k : Nat} (hk : k < l.length) : 0 ≤ (l.getD k default).From ∧ (l.getD k default).From < (l.getD k default).To ∧ (l.getD k default).To ≤ n ∧ 1 ≤ (l.getD k default).Reason ∧ (l.getD k default).Reason ≤ 9 := spP_false.1 (((spB_iff l 0 (Int.le_refl _)).1 h).1.1 k hk)
theorem hid_append : ∀ (a b : List Span), hid (a ++ b) = hid a + hid b
  | [], b => by simp [hid]
  | s :: t, b => by rw [List.cons_append, hid, hid, hid_append t b]; omega
theorem hid_take {l : List Span} {k : Nat} (hk : k < l.length) : hid (l.take (k + 1)) = hid (l.take k) + ((l.getD k default).To - (l.getD k default).From) := by
  rw [take_succ_getD hk, hid_append]; simp [hid]
theorem spB_take : ∀ {l : List Span} {n b : Int} (k : Nat), spB n b l = true → spB n b (l.take k) = true
  | [], _, _, _, _ => by simp [spB]
  | s :: t, n, b, 0, _ => rfl
  | s :: t, n, b, k + 1, h => by
    obtain ⟨h1, h2⟩ := spB_cons h
    rw [List.take_succ_cons]
    exact spB_mk h1 (spB_take k h2)
theorem hid_bd : ∀ {l : List Span} {n b : Int}, spB n b l = true → b ≤ n → 0 ≤ hid l ∧ hid l ≤ n - b
  | [], n, b, _, hb => by simp only [hid]; omega
  | s :: t, n, b, h, hb => by
    obtain ⟨h1, h2⟩ := spB_cons h
    have := hid_bd h2 (by omega)
    rw [hid]; omega

def HidD (x : List UInt8) (l : List Span) : Int × Bool := bif !(spOk x l) then (0, false) else (hid l, true)
theorem hidI (x : List UInt8) (l : List Span) (hx : x.length < 1000000) (hl : l.length < 1000000) : M.impl_HiddenBytes x l = some (HidD x l) := by
  unfold M.impl_HiddenBytes HidD
  rw [spansI x l hx hl, Option.bind_some]
  cases hs : spOk x l
  · rfl
  obtain ⟨h1, h2, h3, h4⟩ := spOk_spec hs
  simp only [Bool.not_true, cond_false]
  rw [iter_up (s := ((0 : Int), (0 : Int))) (step := M.impl_HiddenBytes_l0 l) (e := hid l) (fun k => (hid (l.take k), (k : Int))) l.length rfl (by omega) (fun k hk => ?_) ?_]
  · rfl
  rotate_left
  · have g := spEl h3 hk
    have p0 := hid_bd (spB_take k h3) (by omega)
    have p1 := hid_bd (spB_take (k + 1) h3) (by omega)
    rw [hid_take hk] at p1
    unfold M.impl_HiddenBytes_l0
    dsimp only
    rw [decide_eq_true (by omega), cond_true, asrt_pos ⟨by omega, by omega⟩, Int.toNat_natCast, wrap64_id (n := (l.getD k default).To - (l.getD k default).From) (by omega) (by omega), wrap64_id (n := hid (l.take k) + ((l.getD k default).To - (l.getD k default).From)) (by omega) (by omega), wrap64_id (n := (k : Int) + 1) (by omega) (by omega), hid_take hk, cast_succ]
  · unfold M.impl_HiddenBytes_l0
    dsimp only
    rw [decide_eq_false (by omega), cond_false, List.take_length]
theorem hidS (x : List UInt8) (l : List Span) (hx : x.length < 1000000) (hl : l.length < 1000000) : M.spec_HiddenBytes x l = some (HidD x l) := by
  unfold M.spec_HiddenBytes HidD
  rw [spansS x l hx hl, Option.bind_some]
  cases hs : spOk x l
  · rfl
  obtain ⟨h1, h2, h3, h4⟩ := spOk_spec hs
  simp only [Bool.not_true, cond_false]
  rw [iter_up (s := ((0 : Int), (0 : Int))) (step := M.spec_HiddenBytes_l0 l) (e := hid l) (fun k => (hid (l.take k), (k : Int))) l.length rfl (by omega) (fun k hk => ?_) ?_]
  · rfl
  rotate_left
  · have g := spEl h3 hk
    have p0 := hid_bd (spB_take k h3) (by omega)
    have p1 := hid_bd (spB_take (k + 1) h3) (by omega)
    rw [hid_take hk] at p1
    unfold M.spec_HiddenBytes_l0
    dsimp only
    rw [decide_eq_true (by omega), cond_true, asrt_pos ⟨by omega, by omega⟩, asrt_pos ⟨by omega, by omega⟩, Int.toNat_natCast, wrap64_id (n := hid (l.take k) + (l.getD k default).To) (by omega) (by omega), wrap64_id (n := hid (l.take k) + (l.getD k default).To - (l.getD k default).From) (by omega) (by omega), wrap64_id (n := (k : Int) + 1) (by omega) (by omega), hid_take hk, cast_succ, show hid (l.take k) + (l.getD k default).To - (l.getD k default).From = hid (l.take k) + ((l.getD k default).To - (l.getD k default).From) by omega]
  · unfold M.spec_HiddenBytes_l0
    dsimp only
    rw [decide_eq_false (by omega), cond_false, List.take_length]

/-! ### Reasons -/
def sumR : List Int → Int
  | [] => 0
  | x :: t => x + sumR t
theorem sumR_append : ∀ (a b : List Int), sumR (a ++ b) = sumR a + sumR b
  | [], b => by simp [sumR]
  | s :: t, b => by rw [List.cons_append, sumR, sumR, sumR_append t b]; omega
theorem sumR_set : ∀ (l : List Int) (k : Nat) (v : Int), k < l.length → sumR (l.set k v) = sumR l - l.getD k default + v
  | [], k, v, h => absurd h (Nat.not_lt_zero _)
  | x :: t, 0, v, _ => by simp [sumR]; omega
  | x :: t, k + 1, v, h => by
    have := sumR_set t k v (by simpa using h)
    simp only [List.set_cons_succ, sumR, List.getD_cons_succ]
    omega
theorem sumR_bd : ∀ (l : List Int), (∀ x ∈ l, 0 ≤ x ∧ x ≤ 1000) → 0 ≤ sumR l ∧ sumR l ≤ l.length * 1000
  | [], _ => by simp [sumR]
  | x :: t, h => by
    have h1 := h x (by simp)
    have h2 := sumR_bd t (fun y hy => h y (by simp [hy]))
    simp only [sumR, List.length_cons]
    omega
theorem vSumR (a : List Int) (ha : a.length ≤ 1000) (h : ∀ x ∈ a, 0 ≤ x ∧ x ≤ 1000) : M.laws_vSum a = some (sumR a) := by
  unfold M.laws_vSum
  rw [iter_up (s := ((0 : Int), (0 : Int))) (step := M.laws_vSum_l0 a) (e := sumR a) (fun k => (sumR (a.take k), (k : Int))) a.length rfl (by omega) (fun k hk => ?_) ?_]
  · rfl
  rotate_left
  · have g := h _ (getD_mem hk)
    have p0 := sumR_bd (a.take k) (fun y hy => h y (List.mem_of_mem_take hy))
    have pl : (a.take k).length = k := by rw [List.length_take]; omega
    have e : sumR (a.take (k + 1)) = sumR (a.take k) + a.getD k default := by rw [take_succ_getD hk, sumR_append]; simp [sumR]
    unfold M.laws_vSum_l0
    dsimp only
    rw [decide_eq_true (by omega), cond_true, asrt_pos ⟨by omega, by omega⟩, Int.toNat_natCast, wrap64_id (n := sumR (a.take k) + a.getD k default) (by omega) (by omega), wrap64_id (n := (k : Int) + 1) (by omega) (by omega), e, cast_succ]
  · unfold M.laws_vSum_l0
    dsimp only
    rw [decide_eq_false (by omega), cond_false, List.take_length]
def cnt1 (a : List Int) (s : Span) : List Int := a.set (s.Reason - 1).toNat (a.getD (s.Reason - 1).toNat default + 1)
structure CntI (a : List Int) (k : Nat) : Prop where
  len : a.length = 9
  bd : ∀ x ∈ a, 0 ≤ x ∧ x ≤ (k : Int)
  sum : sumR a = (k : Int)
theorem CntI.zero : CntI (List.replicate (Int.toNat 9) 0) 0 := ⟨rfl, fun x hx => by rw [(List.mem_replicate.1 hx).2]; simp, rfl⟩
theorem CntI.next {a : List Int} {k : Nat} {s : Span} (h : CntI a k) (hs : 1 ≤ s.Reason ∧ s.Reason ≤ 9) : CntI (cnt1 a s) (k + 1) := by
  have hl := h.len
  have hk : (s.Reason - 1).toNat < a.length := by omega
  have hv := h.bd _ (getD_mem hk)
  refine ⟨by unfold cnt1; rw [List.length_set]; exact h.len, fun x hx => ?_, ?_⟩
  · unfold cnt1 at hx
    rcases List.mem_or_eq_of_mem_set hx with hx | hx
    · have := h.bd x hx; omega
    · omega
  · unfold cnt1
    rw [sumR_set _ _ _ hk, h.sum]
    omega
def CntD (x : List UInt8) (l : List Span) : List Int × Bool := bif !(spOk x l) then ([], false) else (l.foldl cnt1 (List.replicate (Int.toNat 9) 0), true)
theorem cnt_I {n : Int} : ∀ (l : List Span) (a : List Int) (k : Nat), CntI a k → (∀ s ∈ l, 1 ≤ s.Reason ∧ s.Reason ≤ 9) → CntI (l.foldl cnt1 a) (k + l.length)
  | [], a, k, h, _ => h
  | s :: t, a, k, h, hs => by
    have := cnt_I (n := n) t (cnt1 a s) (k + 1) (h.next (hs s (by simp))) (fun y hy => hs y (by simp [hy]))
    rw [List.foldl_cons, List.length_cons, show k + (t.length + 1) = k + 1 + t.length by omega]
    exact this
theorem spMem {n : Int} {l : List Span} (h : spB n 0 l = true) : ∀ s ∈ l, 1 ≤ s.Reason ∧ s.Reason ≤ 9 := by
  intro s hs
  obtain ⟨i, hi, rfl⟩ := List.getElem_of_mem hs
  have := spEl h hi
  rw [getD_el hi] at this
  exact this.2.2.2
theorem cntI (x : List UInt8) (l : List Span) (hx : x.length < 1000000) (hl : l.length < 1000000) : M.impl_ReasonCounts x l = some (CntD x l) := by
  unfold M.impl_ReasonCounts CntD
  rw [spansI x l hx hl, Option.bind_some]
  cases hs : spOk x l
  · rfl
  obtain ⟨h1, h2, h3, h4⟩ := spOk_spec hs
  simp only [Bool.not_true, cond_false]
  rw [asrt_pos (by decide), iter_fold (s := (List.replicate (Int.toNat 9) (0 : Int), (0 : Int))) (step := M.impl_ReasonCounts_l0 l) (fun a k => (a, (k : Int))) cnt1 (fun a => a) l (List.replicate (Int.toNat 9) 0) CntI rfl (by omega) CntI.zero (fun a k hk hI => ?_) (fun a hI => ?_)]
  · rfl
  · have g := spEl h3 hk
    have hln := hI.len
    have hv := hI.bd _ (getD_mem (i := ((l.getD k default).Reason - 1).toNat) (by omega))
    refine ⟨?_, hI.next g.2.2.2⟩
    unfold M.impl_ReasonCounts_l0 cnt1
    dsimp only
    rw [decide_eq_true (by omega), cond_true, Int.toNat_natCast, wrap64_id (n := (l.getD k default).Reason - 1) (by omega) (by omega), asrt_pos ⟨by omega, by omega⟩, asrt_pos ⟨by omega, by omega⟩, asrt_pos ⟨by omega, by omega⟩, wrap64_id (n := a.getD ((l.getD k default).Reason - 1).toNat default + 1) (by omega) (by omega), wrap64_id (n := (k : Int) + 1) (by omega) (by omega), cast_succ]
  · unfold M.impl_ReasonCounts_l0
    dsimp only
    rw [decide_eq_false (by omega), cond_false]
theorem cntS (x : List UInt8) (l : List Span) (hx : x.length < 1000000) (hl : l.length < 1000000) : M.spec_ReasonCounts x l = some (CntD x l) := by
  unfold M.spec_ReasonCounts CntD
  rw [spansS x l hx hl, Option.bind_some]
  cases hs : spOk x l
  · rfl
  obtain ⟨h1, h2, h3, h4⟩ := spOk_spec hs
  simp only [Bool.not_true, cond_false]
  rw [asrt_pos (by decide), iter_fold (s := (List.replicate (Int.toNat 9) (0 : Int), (0 : Int))) (step := M.spec_ReasonCounts_l0 l) (fun a k => (a, (k : Int))) cnt1 (fun a => a) l (List.replicate (Int.toNat 9) 0) CntI rfl (by omega) CntI.zero (fun a k hk hI => ?_) (fun a hI => ?_)]
  · rfl
  · have g := spEl h3 hk
    have hln := hI.len
    have hv := hI.bd _ (getD_mem (i := ((l.getD k default).Reason - 1).toNat) (by omega))
    refine ⟨?_, hI.next g.2.2.2⟩
    unfold M.spec_ReasonCounts_l0 cnt1
    dsimp only
    rw [decide_eq_true (by omega), cond_true, Int.toNat_natCast, wrap64_id (n := (l.getD k default).Reason - 1) (by omega) (by omega), asrt_pos ⟨by omega, by omega⟩, asrt_pos ⟨by omega, by omega⟩, asrt_pos ⟨by omega, by omega⟩, wrap64_id (n := a.getD ((l.getD k default).Reason - 1).toNat default + 1) (by omega) (by omega), wrap64_id (n := (k : Int) + 1) (by omega) (by omega), cast_succ]
  · unfold M.spec_ReasonCounts_l0
    dsimp only
    rw [decide_eq_false (by omega), cond_false]

/-! ### Merged spans -/
def tieS (c s : Span) : Bool := (c.To == s.From) && (c.Reason == s.Reason)
def mg : Span → List Span → List Span
  | c, [] => [c]
  | c, s :: t => bif tieS c s then mg ⟨c.From, s.To, c.Reason⟩ t else c :: mg s t
def mgs : List Span → List Span
  | [] => []
  | s :: t => mg s t
def mstep (a : List Span) (s : Span) : List Span := bif decide ((a.length : Int) > 0) && tieS (a.getD (a.length - 1) default) s then a.set (a.length - 1) ⟨(a.getD (a.length - 1) default).From, s.To, (a.getD (a.length - 1) default).Reason⟩ else a ++ [s]
theorem mstep_c (P : List Span) (c s : Span) : mstep (P ++ [c]) s = bif tieS c s then P ++ [⟨c.From, s.To, c.Reason⟩] else (P ++ [c]) ++ [s] := by
  have e : (P ++ [c]).length - 1 = P.length := by rw [List.length_append]; rfl
  have d : (P ++ [c]).getD P.length default = c := by simp [List.getD]
  unfold mstep
  rw [e, d, decide_eq_true (by rw [List.length_append]; simp only [List.length_cons, List.length_nil]; omega), Bool.true_and]
  cases tieS c s
  · rfl
  · simp only [cond_true]
    rw [List.set_append_right _ _ (Nat.le_refl _), Nat.sub_self]
    rfl
theorem mfold_c : ∀ (l : List Span) (P : List Span) (c : Span), l.foldl mstep (P ++ [c]) = P ++ mg c l
  | [], P, c => rfl
  | s :: t, P, c => by
    rw [List.foldl_cons, mstep_c, mg]
    cases tieS c s
    · simp only [cond_false]
      rw [mfold_c t (P ++ [c]) s, List.append_assoc]; rfl
    · simp only [cond_true]
      exact mfold_c t P _
theorem mfold (l : List Span) : l.foldl mstep [] = mgs l := by
  cases l with
  | nil => rfl
  | cons s t =>
    rw [List.foldl_cons, show mstep [] s = [] ++ [s] from rfl, mfold_c]
    rfl
theorem mstep_len (a : List Span) (s : Span) : (mstep a s).length ≤ a.length + 1 := by
  unfold mstep
  cases (decide ((a.length : Int) > 0) && tieS (a.getD (a.length - 1) default) s)
  · simp
  · simp
def MrgD (x : List UInt8) (l : List Span) : List Span × Bool := bif !(spOk x l) then ([], false) else (mgs l, true)
theorem mrg_stI (l a : List Span) (k : Nat) (hk : k < l.length) (hl : l.length < 1000000) (hI : a.length ≤ k) : M.impl_MergeSpans_l0 l (a, (k : Int)) = some (.inl (mstep a (l.getD k default), ((k + 1 : Nat) : Int))) := by
  have e1 : Int.toNat ((a.length : Int) - 1) = a.length - 1 := by omega
  have e2 : IntKind.i64.wrap ((a.length : Int) - 1) = (a.length : Int) - 1 := wrap64_id (by omega) (by omega)
  have e3 : IntKind.i64.wrap ((k : Int) + 1) = ((k + 1 : Nat) : Int) := wrap64_id (by omega) (by omega)
  apply T.eq
  unfold M.impl_MergeSpans_l0
  simp only [e2, e1, e3, Int.toNat_natCast]
  refine T_if (fun _ => ?_) (fun hq => by simp only [decide_eq_false_iff_not] at hq; omega)
  refine T_in (T_ask ⟨by omega, by omega⟩ (T_ask (fun h => ?_) (T_ask (fun h => ?_) (T_if (fun hc => ?_) (fun hc => ?_)))))
  · simp only [decide_eq_true_eq] at h; omega
  · simp only [Bool.and_eq_true, decide_eq_true_eq] at h; omega
  · have hc2 := hc
    simp only [Bool.and_eq_true, decide_eq_true_eq] at hc2
    refine T_ask ⟨by omega, by omega⟩ (T_ret (T_ret ?_))
    rw [Bool.and_assoc] at hc
    unfold mstep tieS
    rw [hc, cond_true]
  · refine T_ask (by simp only [List.length_cons, List.length_nil]; omega) (T_ret (T_ret ?_))
    rw [Bool.and_assoc] at hc
    unfold mstep tieS
    rw [hc, cond_false]
theorem mrgI (x : List UInt8) (l : List Span) (hx : x.length < 1000000) (hl : l.length < 1000000) : M.impl_MergeSpans x l = some (MrgD x l) := by
  unfold M.impl_MergeSpans MrgD
  rw [spansI x l hx hl, Option.bind_some]
  cases hs : spOk x l
  · rfl
  simp only [Bool.not_true, cond_false]
  rw [iter_fold (s := (([] : List Span), (0 : Int))) (step := M.impl_MergeSpans_l0 l) (fun a k => (a, (k : Int))) mstep (fun a => a) l [] (fun a k => a.length ≤ k) rfl (by omega) (by simp) (fun a k hk hI => ⟨?_, Nat.le_trans (mstep_len _ _) (by omega)⟩) (fun a hI => ?_)]
  · rw [mfold]; rfl
  · exact mrg_stI l a k hk hl hI
  · unfold M.impl_MergeSpans_l0
    dsimp only
    rw [decide_eq_false (by omega), cond_false]
theorem mrgS (x : List UInt8) (l : List Span) (hx : x.length < 1000000) (hl : l.length < 1000000) : M.spec_MergeSpans x l = some (MrgD x l) := by
  unfold M.spec_MergeSpans MrgD
  rw [spansS x l hx hl, Option.bind_some]
  cases hs : spOk x l
  · rfl
  simp only [Bool.not_true, cond_false]
  rw [iter_fold (s := (([] : List Span), (0 : Int))) (step := M.spec_MergeSpans_l0 l) (fun a k => (a, (k : Int))) mstep (fun a => a) l [] (fun a k => a.length ≤ k) rfl (by omega) (by simp) (fun a k hk hI => ⟨?_, Nat.le_trans (mstep_len _ _) (by omega)⟩) (fun a hI => ?_)]
  · rw [mfold]; rfl
  · have e1 : Int.toNat (IntKind.i64.wrap ((a.length : Int) - 1)) = a.length - 1 := by rw [wrap64_id (by omega) (by omega)]; omega
    have e2 : IntKind.i64.wrap ((a.length : Int) - 1) = (a.length : Int) - 1 := wrap64_id (by omega) (by omega)
    unfold M.spec_MergeSpans_l0
    dsimp only
    rw [e1, e2, decide_eq_true (by omega), cond_true, Int.toNat_natCast, asrt_pos (fun h => by simp only [decide_eq_true_eq] at h; omega), asrt_pos (fun h => by omega), asrt_pos (fun h => by simp only [Bool.and_eq_true, decide_eq_true_eq] at h; omega), asrt_pos (fun h => by omega), wrap64_id (n := (k : Int) + 1) (by omega) (by omega)]
    unfold mstep tieS
    rw [Bool.and_assoc]
    cases hc : (decide ((a.length : Int) > 0) && (((a.getD (a.length - 1) default).To == (l.getD k default).From) && ((a.getD (a.length - 1) default).Reason == (l.getD k default).Reason)))
    · simp only [cond_false]
      rw [asrt_pos ⟨by omega, by omega⟩, asrt_pos (by simp only [List.length_cons, List.length_nil]; omega)]
      rfl
    · simp only [Bool.and_eq_true, decide_eq_true_eq, beq_iff_eq] at hc
      simp only [cond_true]
      rw [asrt_pos ⟨by omega, by omega⟩, asrt_pos ⟨by omega, by omega⟩, asrt_pos ⟨by omega, by omega⟩, asrt_pos ⟨by omega, by omega⟩, hc.2.2]
      rfl
  · unfold M.spec_MergeSpans_l0
    dsimp only
    rw [decide_eq_false (by omega), cond_false]
theorem tieS_eq {c s : Span} (h : tieS c s = true) : c.To = s.From ∧ c.Reason = s.Reason := by
  unfold tieS at h
  simpa only [Bool.and_eq_true, beq_iff_eq] using h
theorem mg_hid : ∀ (t : List Span) (c : Span), hid (mg c t) = hid (c :: t)
  | [], c => rfl
  | s :: t, c => by
    rw [mg]
    cases h : tieS c s
    · simp only [cond_false, hid, mg_hid t s]
    · have := tieS_eq h
      simp only [cond_true, mg_hid t, hid]
      omega
theorem mgs_hid (l : List Span) : hid (mgs l) = hid l := by
  cases l with
  | nil => rfl
  | cons s t => exact mg_hid t s
theorem mg_len : ∀ (t : List Span) (c : Span), (mg c t).length ≤ t.length + 1
  | [], c => by simp [mg]
  | s :: t, c => by
    rw [mg]
    cases h : tieS c s
    · have := mg_len t s; rw [cond_false, List.length_cons, List.length_cons]; omega
    · have := mg_len t ⟨c.From, s.To, c.Reason⟩; rw [cond_true, List.length_cons]; omega
theorem mgs_len (l : List Span) : (mgs l).length ≤ l.length := by
  cases l with
  | nil => exact Nat.le_refl _
  | cons s t => exact mg_len t s
theorem mg_sp {n : Int} : ∀ (t : List Span) (c : Span) (b : Int), spB n b (c :: t) = true → spB n b (mg c t) = true
  | [], c, b, h => h
  | s :: t, c, b, h => by
    obtain ⟨h1, h2⟩ := spB_cons h
    rw [mg]
    cases hc : tieS c s
    · exact spB_mk h1 (mg_sp t s _ h2)
    · obtain ⟨g1, g2⟩ := spB_cons h2
      have := tieS_eq hc
      refine mg_sp t _ b (spB_mk ?_ g2)
      simp only
      omega
theorem mgs_sp {n : Int} {l : List Span} (h : spB n 0 l = true) : spB n 0 (mgs l) = true := by
  cases l with
  | nil => rfl
  | cons s t => exact mg_sp t s 0 h
theorem mgs_ok {x : List UInt8} {l : List Span} (h : spOk x l = true) : spOk x (mgs l) = true := by
  obtain ⟨h1, h2, h3, _⟩ := spOk_spec h
  have := mgs_len l
  unfold spOk
  rw [h1, mgs_sp h3, decide_eq_true (by omega)]
  rfl
def sep : Span → List Span → Prop
  | _, [] => True
  | c, s :: t => tieS c s = false ∧ sep s t
theorem mg_sep : ∀ (t : List Span) (c : Span), ∃ d r, mg c t = d :: r ∧ d.From = c.From ∧ d.Reason = c.Reason ∧ sep d r
  | [], c => ⟨c, [], rfl, rfl, rfl, trivial⟩
  | s :: t, c => by
    rw [mg]
    cases hc : tieS c s
    · obtain ⟨d, r, h1, h2, h3, h4⟩ := mg_sep t s
      refine ⟨c, d :: r, by rw [cond_false, h1], rfl, rfl, ?_, h4⟩
      rw [← hc]
      unfold tieS
      rw [h2, h3]
    · exact mg_sep t _
theorem sep_mg : ∀ (r : List Span) (d : Span), sep d r → mg d r = d :: r
  | [], d, _ => rfl
  | s :: t, d, h => by rw [mg, h.1, cond_false, sep_mg t s h.2]
theorem mgs_mgs (l : List Span) : mgs (mgs l) = mgs l := by
  cases l with
  | nil => rfl
  | cons s t =>
    obtain ⟨d, r, h1, _, _, h4⟩ := mg_sep t s
    show mgs (mg s t) = mg s t
    rw [h1]
    exact sep_mg r d h4
theorem vSpans_self (a : List Span) (hl : a.length < 1000000) : M.laws_vSpans a a = some true := by
  unfold M.laws_vSpans
  simp only [bne_self_eq_false, cond_false]
  rw [iter_up (s := 0) (step := M.laws_vSpans_l0 a a) (e := .inl ()) (fun k => (k : Int)) a.length rfl (by omega) (fun k hk => by
    unfold M.laws_vSpans_l0
    simp (disch := first | omega | (intros; simp only [decide_eq_true_eq, decide_eq_false_iff_not, Bool.not_eq_true, Bool.not_eq_false, Bool.not_true, Bool.not_false] at *; omega)) only [cast_succ, asrt_pos, wrap64_id, Option.bind_some, cond_true, cond_false, decide_eq_true, decide_eq_false, Int.toNat_natCast, Bool.not_true, Bool.not_false, Bool.and_true, Bool.true_and, Bool.and_false, Bool.false_and, Bool.or_true, Bool.true_or, Bool.or_false, Bool.false_or, beq_self_eq_true]) (by
    unfold M.laws_vSpans_l0
    simp (disch := first | omega | (intros; simp only [decide_eq_true_eq, decide_eq_false_iff_not, Bool.not_eq_true, Bool.not_eq_false, Bool.not_true, Bool.not_false] at *; omega)) only [cast_succ, asrt_pos, wrap64_id, Option.bind_some, cond_true, cond_false, decide_eq_true, decide_eq_false, Int.toNat_natCast, Bool.not_true, Bool.not_false, Bool.and_true, Bool.true_and, Bool.and_false, Bool.false_and, Bool.or_true, Bool.true_or, Bool.or_false, Bool.false_or])]
  rfl
theorem vInts_self (a : List Int) (hl : a.length < 1000000) : M.laws_vInts a a = some true := by
  unfold M.laws_vInts
  simp only [bne_self_eq_false, cond_false]
  rw [iter_up (s := 0) (step := M.laws_vInts_l0 a a) (e := .inl ()) (fun k => (k : Int)) a.length rfl (by omega) (fun k hk => by
    unfold M.laws_vInts_l0
    simp (disch := first | omega | (intros; simp only [decide_eq_true_eq, decide_eq_false_iff_not, Bool.not_eq_true, Bool.not_eq_false, Bool.not_true, Bool.not_false] at *; omega)) only [cast_succ, asrt_pos, wrap64_id, Option.bind_some, cond_true, cond_false, decide_eq_true, decide_eq_false, Int.toNat_natCast, Bool.not_true, Bool.not_false, Bool.and_true, Bool.true_and, Bool.and_false, Bool.false_and, Bool.or_true, Bool.true_or, Bool.or_false, Bool.false_or, bne_self_eq_false]) (by
    unfold M.laws_vInts_l0
    simp (disch := first | omega | (intros; simp only [decide_eq_true_eq, decide_eq_false_iff_not, Bool.not_eq_true, Bool.not_eq_false, Bool.not_true, Bool.not_false] at *; omega)) only [cast_succ, asrt_pos, wrap64_id, Option.bind_some, cond_true, cond_false, decide_eq_true, decide_eq_false, Int.toNat_natCast, Bool.not_true, Bool.not_false, Bool.and_true, Bool.true_and, Bool.and_false, Bool.false_and, Bool.or_true, Bool.true_or, Bool.or_false, Bool.false_or])]
  rfl

/-! ### Without a reason -/
def WoD (x : List UInt8) (l : List Span) (r : Int) : List Span × Bool := bif spOk x l && inR r 1 9 then (l.filter (fun s => !(s.Reason == r)), true) else ([], false)
theorem woI (x : List UInt8) (l : List Span) (r : Int) (hx : x.length < 1000000) (hl : l.length < 1000000) : M.impl_WithoutReason x l r = some (WoD x l r) := by
  unfold M.impl_WithoutReason WoD M.slices_Clone_impl_Span_impl_Span
  rw [spansI x l hx hl, Option.bind_some]
  cases hs : spOk x l
  · rfl
  simp only [Bool.not_true, cond_false, reasonI, Option.bind_some, Bool.true_and, Bool.false_or]
  cases inR r 1 9
  · rfl
  simp only [Bool.not_true, cond_false, cond_true]
  rw [asrt_pos (by omega), Option.bind_some, delI l (fun s => s.Reason == r) (fun x0 => M.impl_WithoutReason_1 x0 r) (fun s _ => rfl) hl]
  rfl
theorem woS (x : List UInt8) (l : List Span) (r : Int) (hx : x.length < 1000000) (hl : l.length < 1000000) : M.spec_WithoutReason x l r = some (WoD x l r) := by
  unfold M.spec_WithoutReason WoD
  rw [spansS x l hx hl, Option.bind_some]
  cases hs : spOk x l
  · rfl
  simp only [Bool.not_true, cond_false, l1InS, Option.bind_some, Bool.true_and, Bool.false_or]
  cases inR r 1 9
  · rfl
  simp only [Bool.not_true, cond_false, cond_true]
  rw [iter_up (s := (([] : List Span), (0 : Int))) (step := M.spec_WithoutReason_l0 l r) (e := l.filter (fun s => !(s.Reason == r))) (fun k => ((l.take k).filter (fun s => !(s.Reason == r)), (k : Int))) l.length rfl (by omega) (fun k hk => ?_) ?_]
  · rfl
  rotate_left
  · have hln : ((l.take k).filter (fun s => !(s.Reason == r))).length ≤ k := Nat.le_trans (List.length_filter_le _ _) (by rw [List.length_take]; omega)
    have e : (l.take (k + 1)).filter (fun s => !(s.Reason == r)) = (l.take k).filter (fun s => !(s.Reason == r)) ++ (bif (l.getD k default).Reason != r then [l.getD k default] else []) := by
      rw [take_succ_getD hk, List.filter_append]
      congr 1
    unfold M.spec_WithoutReason_l0
    dsimp only
    rw [e, decide_eq_true (by omega), cond_true, asrt_pos ⟨by omega, by omega⟩, Int.toNat_natCast, wrap64_id (n := (k : Int) + 1) (by omega) (by omega), cast_succ]
    cases ((l.getD k default).Reason != r)
    · simp only [cond_false, List.append_nil, Option.bind_some]
    · simp only [cond_true]
      rw [asrt_pos ⟨by omega, by omega⟩, asrt_pos (by simp only [List.length_cons, List.length_nil]; omega)]
      rfl
  · unfold M.spec_WithoutReason_l0
    dsimp only
    rw [decide_eq_false (by omega), cond_false, List.take_length]

/-! ### Another text -/
theorem otherI (x : List UInt8) (l : List Span) (hs : spOk x l = true) : T (iterO (M.laws_FnRedactions_l0 (x, l)) ([], (0 : Int), (0 : Int))) (fun r => (0 ≤ r.2 ∧ r.2 ≤ (x.length : Int)) ∧ r.1 ++ x.drop r.2.toNat = oth x 0 l ∧ r.1.length ≤ 10000) := by
  obtain ⟨h1, h2, h3, h4⟩ := spOk_spec hs
  refine T_iter (fun s => ∃ k : Nat, s.2.2 = (k : Int) ∧ k ≤ l.length ∧ (0 ≤ s.2.1 ∧ s.2.1 ≤ (x.length : Int)) ∧ spB (x.length : Int) s.2.1 (l.drop k) = true ∧ s.1 ++ oth (x.drop s.2.1.toNat) s.2.1 (l.drop k) = oth x 0 l ∧ (s.1.length : Int) = s.2.1) (fun s => l.length - s.2.2.toNat) _ ⟨0, rfl, by omega, ⟨by simp only; omega, by simp only; omega⟩, h3, rfl, rfl⟩ (by simp only; omega) ?_
  rintro ⟨out, at_, _⟩ ⟨k, rfl, g1, g2, g3, g4, g5⟩
  simp only at g2 g3 g4 g5
  unfold M.laws_FnRedactions_l0
  dsimp only
  refine T_if (fun hq => ?_) (fun hq => ?_)
  · simp only [decide_eq_true_eq] at hq
    have hk : k < l.length := by omega
    have ed : l.drop k = l.getD k default :: l.drop (k + 1) := by rw [List.drop_eq_getElem_cons hk, getD_el hk]
    rw [ed] at g3 g4
    obtain ⟨c1, c2⟩ := spB_cons g3
    have hsl : (slc x at_ (l.getD k default).From).length = ((l.getD k default).From - at_).toNat := by rw [slc_drop (by omega) (by omega), List.length_take, List.length_drop]; omega
    rw [Int.toNat_natCast]
    refine T_ask ⟨by omega, by omega⟩ (T_ask ⟨by omega, by omega, by omega⟩ (T_ask (by omega) (T_ask ⟨by omega, by omega⟩ ?_)))
    rw [iter_up (s := (out ++ slc x at_ (l.getD k default).From, (l.getD k default).From)) (step := M.laws_FnRedactions_l1 (x, l) (k : Int)) (e := (out ++ slc x at_ (l.getD k default).From) ++ List.replicate ((l.getD k default).To - (l.getD k default).From).toNat 113) (fun j => ((out ++ slc x at_ (l.getD k default).From) ++ List.replicate j 113, (l.getD k default).From + (j : Int))) ((l.getD k default).To - (l.getD k default).From).toNat (by simp) (by omega) (fun j hj => ?_) ?_, Option.bind_some]
    · refine T_ask ⟨by omega, by omega⟩ (T_ret ?_)
      rw [wrap64_id (by omega) (by omega)]
      refine ⟨⟨k + 1, by simp only; omega, by omega, ⟨by simp only; omega, by simp only; omega⟩, c2, ?_, by simp only [List.length_append, List.length_replicate, hsl]; omega⟩, by simp only; omega⟩
      rw [← g4, oth, slc_drop (by omega) (by omega), List.drop_drop, show at_.toNat + ((l.getD k default).To - at_).toNat = (l.getD k default).To.toNat by omega]
      simp only [List.append_assoc]
    rotate_left
    · unfold M.laws_FnRedactions_l1
      dsimp only
      rw [asrt_pos ⟨by omega, by omega⟩, Int.toNat_natCast, decide_eq_true (by omega), cond_true, asrt_pos (by simp only [List.length_append, List.length_replicate, List.length_cons, List.length_nil, hsl]; omega), wrap64_id (by omega) (by omega), List.append_assoc, ← List.replicate_succ', cast_succ, Int.add_assoc]
    · unfold M.laws_FnRedactions_l1
      dsimp only
      rw [asrt_pos ⟨by omega, by omega⟩, Int.toNat_natCast, decide_eq_false (by omega), cond_false]
  · simp only [decide_eq_false_iff_not] at hq
    have : k = l.length := by omega
    subst this
    rw [List.drop_eq_nil_of_le (Nat.le_refl _), oth] at g4
    exact T_ret ⟨g2, g4, by simp only; omega⟩
theorem other_ok {x : List UInt8} {l : List Span} (hs : spOk x l = true) : spOk (oth x 0 l) l = true := by
  obtain ⟨h1, h2, h3, h4⟩ := spOk_spec hs
  have e := oth_len (u := x) (b := 0) h3 (by omega)
  unfold txtOk at h1
  simp only [Bool.and_eq_true] at h1
  unfold spOk txtOk
  rw [e, h1.1, h3, oth_low h1.2, decide_eq_true h2]
  rfl

/-! ### Draws -/
theorem drawText {code : List Int} {k : Nat} {c : Cur} (hb : Bytes code) (h : Good code k c) (hk : k < 600000000) : T (M.spec_l1Cur_text c) (fun r => r.1.length ≤ 200 ∧ Good code (k + 1000) r.2) := by
  unfold M.spec_l1Cur_text
  refine T_pick hb h (by omega) ?_
  intro n c1 _ hn h1
  have hn := hn (by omega)
  try dsimp only
  refine T.then (Q := fun r => r.1.length ≤ 80 ∧ Good code (k + 100) r.2) (T_iter (fun s => (0 ≤ s.2.1 ∧ s.2.1 ≤ 8) ∧ (s.1.length : Int) + 10 * s.2.1 ≤ 80 ∧ Good code (k + 100 - 2 * s.2.1.toNat) s.2.2) (fun s => s.2.1.toNat) _ ⟨by simp only; omega, by simp only [List.length_nil]; omega, h1.up (by simp only; omega)⟩ (by (first | omega | (simp only; omega) | (dsimp only; omega) | (simp; omega))) ?_) ?_
  · rintro ⟨s, n, c2⟩ ⟨g1, g2, g3⟩
    simp only at g1 g2 g3
    unfold M.spec_l1Cur_text_l0
    try dsimp only
    refine T_if (fun hq => ?_) (fun hq => T_ret ⟨by simp only; omega, g3.up (by omega)⟩)
    simp only [decide_eq_true_eq] at hq
    refine T_in (T_of hb g3 (by omega) (by simp) ?_)
    intro w c3 hw h2
    have hwl : w.length ≤ 5 := by
      simp only [List.mem_cons, List.not_mem_nil, or_false] at hw
      rcases hw with h | h | h | h | h | h | h | h | h | h <;> rw [h] <;> decide
    try dsimp only
    refine T_ask (by omega) (T_if (fun hp => T_ask (by simp only [List.length_append, List.length_cons, List.length_nil]; omega) (T_ret (T_ret ?_))) (fun hp => T_ret (T_ret ?_)))
    · simp only [List.length_append, List.length_cons, List.length_nil]
      rw [wrap64_id (n := n - 1) (by omega) (by omega)]
      exact ⟨⟨by omega, by omega, h2.up (by omega)⟩, by omega⟩
    · simp only [List.length_append]
      rw [wrap64_id (n := n - 1) (by omega) (by omega)]
      exact ⟨⟨by omega, by omega, h2.up (by omega)⟩, by omega⟩
  · rintro ⟨s, c2⟩ ⟨h2, h3⟩
    simp only at h2 h3
    refine T_pick hb h3 (by omega) ?_
    intro y c3 _ _ h4
    try dsimp only
    refine T.then (Q := fun r => r.1.length ≤ 200 ∧ Good code (k + 1000) r.2) ?_ (fun r hr => T_ret hr)
    refine T_if (fun _ => ?_) (fun _ => T_if (fun _ => ?_) (fun _ => T_ret ⟨by simp only; omega, h4.up (by omega)⟩))
    · refine T_of hb h4 (by omega) (by simp) ?_
      intro w c4 hw h5
      have hwl : w.length ≤ 5 := by
        simp only [List.mem_cons, List.not_mem_nil, or_false] at hw
        rcases hw with h | h | h | h <;> rw [h] <;> decide
      try dsimp only
      exact T_ask (by omega) (T_ret ⟨by simp only [List.length_append]; omega, h5.up (by omega)⟩)
    · refine T.then (Q := fun r => r.1.length ≤ 200 ∧ Good code (k + 1000) r.2) (T_iter (fun s => s.1.length ≤ 110 ∧ Good code (k + 200 + 2 * s.1.length) s.2) (fun s => 200 - s.1.length) _ ⟨by simp only; omega, h4.up (by omega)⟩ (by simp only; omega) ?_) (fun r hr => T_ret hr)
      rintro ⟨m, c4⟩ ⟨g1, g2⟩
      simp only at g1 g2
      unfold M.spec_l1Cur_text_l1
      try dsimp only
      refine T_pick hb g2 (by omega) ?_
      intro y c5 _ y2 y3
      have := y2 (by omega)
      try dsimp only
      rw [wrap64_id (n := 100 + y) (by omega) (by omega)]
      refine T_if (fun hq => ?_) (fun hq => T_ret ⟨by simp only; omega, y3.up (by omega)⟩)
      simp only [decide_eq_true_eq] at hq
      refine T_ask (by simp only [List.length_cons, List.length_nil]; omega) (T_ret ?_)
      simp only [List.length_append, List.length_cons, List.length_nil]
      exact ⟨⟨by omega, y3.up (by omega)⟩, by omega⟩
theorem leastS (a b : Int) : M.spec_l1Least a b = some (bif decide (a < b) then a else b) := by
  unfold M.spec_l1Least
  cases decide (a < b) <;> rfl
theorem drawSpans {code : List Int} {k : Nat} {c : Cur} (hb : Bytes code) (h : Good code k c) (hk : k < 600000000) (x : List UInt8) : T (M.spec_l1Cur_spans c x) (fun r => r.1.length ≤ 20 ∧ Good code (k + 1000) r.2) := by
  unfold M.spec_l1Cur_spans
  refine T_pick hb h (by omega) ?_
  intro n c1 _ hn h1
  have hn := hn (by omega)
  try dsimp only
  refine T.then (Q := fun r => r.1.length ≤ 6 ∧ Good code (k + 100) r.2.2) (T_iter (fun s => (0 ≤ s.2.2.1 ∧ s.2.2.1 ≤ 6) ∧ (s.1.length : Int) + s.2.2.1 ≤ 6 ∧ Good code (k + 100 - 10 * s.2.2.1.toNat) s.2.2.2) (fun s => s.2.2.1.toNat) _ ⟨by simp only; omega, by simp only [List.length_nil]; omega, h1.up (by simp only; omega)⟩ (by (first | omega | (simp only; omega) | (dsimp only; omega) | (simp; omega))) ?_) ?_
  · rintro ⟨l, a, n, c2⟩ ⟨g1, g2, g3⟩
    simp only at g1 g2 g3
    unfold M.spec_l1Cur_spans_l0
    try dsimp only
    refine T_if (fun hq => ?_) (fun hq => T_ret ⟨by simp only; omega, g3.up (by omega)⟩)
    simp only [Bool.and_eq_true, decide_eq_true_eq] at hq
    refine T_among hb g3 (by omega) (by simp) ?_
    intro y c3 _ h2
    try dsimp only
    rw [leastS, Option.bind_some]
    refine T_among hb h2 (by omega) (by simp) ?_
    intro y4 c4 _ h3
    try dsimp only
    rw [leastS, Option.bind_some]
    refine T_among hb h3 (by omega) (by simp) ?_
    intro y5 c5 _ h4
    try dsimp only
    refine T_ask (by simp only [List.length_cons, List.length_nil]; omega) (T_ret ?_)
    simp only [List.length_append, List.length_cons, List.length_nil]
    rw [wrap64_id (n := n - 1) (by omega) (by omega)]
    exact ⟨⟨by omega, by omega, h4.up (by omega)⟩, by omega⟩
  · rintro ⟨l, a, c2⟩ ⟨h2, h3⟩
    simp only at h2 h3
    try dsimp only
    refine T_pick hb h3 (by omega) ?_
    intro y c3 _ _ h4
    try dsimp only
    refine T.then (Q := fun r => r.1.length ≤ 20 ∧ Good code (k + 1000) r.2) ?_ (fun r hr => T_ret hr)
    refine T_if (fun _ => ?_) (fun _ => T_if (fun _ => ?_) (fun _ => T_ret ⟨by simp only; omega, h4.up (by omega)⟩))
    · refine T_among hb h4 (by omega) (by simp) ?_
      intro y4 c4 _ h5
      try dsimp only
      refine T_among hb h5 (by omega) (by simp) ?_
      intro y5 c5 _ h6
      try dsimp only
      refine T_among hb h6 (by omega) (by simp) ?_
      intro y6 c6 _ h7
      try dsimp only
      exact T_ask (by simp only [List.length_cons, List.length_nil]; omega) (T_ret ⟨by simp only [List.length_append, List.length_cons, List.length_nil]; omega, h7.up (by omega)⟩)
    · refine T.then (Q := fun r => r.1.length ≤ 20 ∧ Good code (k + 1000) r.2) (T_iter (fun s => s.1.length ≤ 12 ∧ Good code (k + 200 + 2 * s.1.length) s.2) (fun s => 20 - s.1.length) _ ⟨by simp only [List.length_nil]; omega, h4.up (by omega)⟩ (by simp only; omega) ?_) (fun r hr => T_ret hr)
      rintro ⟨m, c4⟩ ⟨g1, g2⟩
      simp only at g1 g2
      unfold M.spec_l1Cur_spans_l1
      try dsimp only
      refine T_pick hb g2 (by omega) ?_
      intro y c5 _ y2 y3
      have := y2 (by omega)
      try dsimp only
      rw [wrap64_id (n := 8 + y) (by omega) (by omega)]
      refine T_if (fun hq => ?_) (fun hq => T_ret ⟨by simp only; omega, y3.up (by omega)⟩)
      simp only [decide_eq_true_eq] at hq
      refine T_ask (by simp only [List.length_cons, List.length_nil]; omega) (T_ret ?_)
      simp only [List.length_append, List.length_cons, List.length_nil]
      exact ⟨⟨by omega, y3.up (by omega)⟩, by omega⟩
theorem good0r {code : List Int} : Good code 0 (⟨code, 0, 0⟩ : Cur) := ⟨rfl, Int.le_refl _, Int.le_refl _⟩
theorem dAreSpans {code : List Int} (hb : Bytes code) : T (M.spec_DrawAreSpans code) (fun r => r.1.length ≤ 200 ∧ r.2.length ≤ 20) := by
  unfold M.spec_DrawAreSpans
  refine (drawText hb good0r (by omega)).then ?_
  rintro ⟨x, c1⟩ ⟨h1, h2⟩
  refine (drawSpans hb h2 (by omega) _).then ?_
  rintro ⟨l, c2⟩ ⟨h3, _⟩
  exact T_ret ⟨h1, h3⟩

/-! ### The law -/
theorem law_FnRedactions (code : List Int) (h1 : code.length ≤ 9223372036854775807) (h2 : ∀ x, x ∈ code → 0 ≤ x ∧ x ≤ 255) : M.laws_FnRedactions code = some true := by
  apply T.eq
  unfold M.laws_FnRedactions M.laws_vBig
  rw [Option.bind_some]
  refine T_if (fun _ => T_ret rfl) (fun hq => ?_)
  simp only [decide_eq_false_iff_not] at hq
  have hb : Bytes code := ⟨by omega, h2⟩
  have d1 : T (M.spec_DrawRedacted code) (fun r => r.1.length ≤ 200 ∧ r.2.length ≤ 20) := by
    unfold M.spec_DrawRedacted
    refine (dAreSpans hb).then ?_
    rintro ⟨x, l⟩ h
    exact T_ret h
  refine d1.then ?_
  rintro ⟨x, l⟩ ⟨hx, hl⟩
  simp only at hx hl
  dsimp only
  have aS : M.spec_AreSpans x l = some (spOk x l) := by unfold M.spec_AreSpans; rw [spansS x l (by omega) (by omega)]; rfl
  rw [redI x l (by omega) (by omega), Option.bind_some, redS x l (by omega) (by omega), Option.bind_some, beq_self_eq_true, beq_self_eq_true, Bool.not_true, Bool.or_self]
  simp only [cond_false, Bool.false_or]
  rw [spansI x l (by omega) (by omega), Option.bind_some, aS, Option.bind_some, beq_self_eq_true, Bool.not_true, cond_false]
  rw [hidI x l (by omega) (by omega), Option.bind_some, hidS x l (by omega) (by omega), Option.bind_some, bne_self_eq_false, beq_self_eq_true, Bool.not_true, Bool.or_self, Bool.false_or]
  have e1 : (HidD x l).2 = (RedD x l).2 := by unfold HidD RedD; cases spOk x l <;> rfl
  rw [e1, beq_self_eq_true, Bool.not_true, cond_false]
  refine T.then (Q := fun e => e = .inl ()) ?_ ?_
  · refine T_if (fun ho => ?_) (fun _ => T_ret rfl)
    have hs : spOk x l = true := by
      unfold RedD at ho
      cases hs : spOk x l
      · rw [hs] at ho; cases ho
      · rfl
    obtain ⟨s1, s2, s3, s4⟩ := spOk_spec hs
    have eR : RedD x l = (rdc x 0 l, true) := by unfold RedD; rw [hs]; rfl
    have eH : HidD x l = (hid l, true) := by unfold HidD; rw [hs]; rfl
    refine (otherI x l hs).then ?_
    rintro ⟨o, a⟩ ⟨g1, g2, g3⟩
    simp only at g1 g2 g3
    have e : slc x a (x.length : Int) = x.drop a.toNat := by rw [slc_drop (by omega) (by omega), List.take_of_length_le (by rw [List.length_drop]; omega)]
    dsimp only
    rw [e]
    refine T_ask ⟨by omega, by omega, by omega⟩ (T_ask (by rw [List.length_drop]; omega) ?_)
    rw [g2]
    have ol := oth_len (u := x) (b := 0) s3 (by omega)
    have eO : RedD (oth x 0 l) l = (rdc x 0 l, true) := by
      unfold RedD
      rw [other_ok hs, rdc_oth (u := x) (b := 0) s3 (by omega)]
      rfl
    have eC : CntD x l = (l.foldl cnt1 (List.replicate (Int.toNat 9) 0), true) := by unfold CntD; rw [hs]; rfl
    have cI := cnt_I (n := 0) l _ 0 CntI.zero (spMem s3)
    have rl := rdc_len (u := x) (b := 0) s3 (by omega)
    rw [redI _ l (by omega) (by omega), Option.bind_some, cntI x l (by omega) (by omega), Option.bind_some, eO, eC, eR, eH]
    dsimp only
    rw [wrap64_id (n := (x.length : Int) - hid l) (by omega) (by omega), wrap64_id (n := 3 * (l.length : Int)) (by omega) (by omega), wrap64_id (by omega) (by omega), rl.1, bne_self_eq_false, beq_self_eq_true, Bool.not_true, Bool.or_self, Bool.or_self, Bool.or_self, cond_false]
    have hcl := cI.len
    rw [vSumR _ (by omega) (fun y hy => by have := cI.bd y hy; omega), Option.bind_some, cI.sum]
    rw [show (((0 + l.length : Nat) : Int) != (l.length : Int)) = false by rw [Nat.zero_add]; exact bne_self_eq_false _]
    exact T_ret rfl
  rintro _ rfl
  dsimp only
  have d2 : T (M.spec_DrawMergeSpans code) (fun r => r.1.length ≤ 200 ∧ r.2.length ≤ 20) := by
    unfold M.spec_DrawMergeSpans
    refine (dAreSpans hb).then ?_
    rintro ⟨x, l⟩ h
    exact T_ret h
  refine d2.then ?_
  clear e1 aS
  rintro ⟨x, l⟩ ⟨hx, hl⟩
  simp only at hx hl
  dsimp only
  have ml : (MrgD x l).1.length < 1000000 := by
    unfold MrgD
    have := mgs_len l
    cases spOk x l
    · simp
    · simp only [Bool.not_true, cond_false]; omega
  rw [mrgI x l (by omega) (by omega), Option.bind_some, mrgS x l (by omega) (by omega), Option.bind_some, beq_self_eq_true, Bool.not_true]
  simp only [cond_false, Bool.false_or]
  rw [vSpans_self _ ml, Option.bind_some, Bool.not_true, cond_false]
  refine T.then (Q := fun e => e = .inl ()) ?_ ?_
  · refine T_if (fun ho => ?_) (fun _ => T_ret rfl)
    have hs : spOk x l = true := by
      unfold MrgD at ho
      cases hs : spOk x l
      · rw [hs] at ho; cases ho
      · rfl
    have hs2 := mgs_ok hs
    have eM : MrgD x l = (mgs l, true) := by unfold MrgD; rw [hs]; rfl
    have eM2 : MrgD x (mgs l) = (mgs l, true) := by unfold MrgD; rw [hs2, mgs_mgs]; rfl
    have eH : HidD x l = (hid l, true) := by unfold HidD; rw [hs]; rfl
    have eH2 : HidD x (mgs l) = (hid l, true) := by unfold HidD; rw [hs2, mgs_hid]; rfl
    have ml2 := mgs_len l
    rw [eM]
    dsimp only
    rw [hidI x l (by omega) (by omega), Option.bind_some, hidI x (mgs l) (by omega) (by omega), Option.bind_some, mrgI x (mgs l) (by omega) (by omega), Option.bind_some, eM2, eH, eH2]
    dsimp only
    rw [bne_self_eq_false, Bool.not_true, Bool.or_self, Bool.or_self, Bool.or_self, cond_false, vSpans_self _ (by omega), Option.bind_some]
    exact T_ret rfl
  rintro _ rfl
  dsimp only
  have d3 : T (M.spec_DrawWithoutReason code) (fun r => r.1.length ≤ 200 ∧ r.2.1.length ≤ 20) := by
    unfold M.spec_DrawWithoutReason
    refine (drawText hb good0r (by omega)).then ?_
    rintro ⟨x, c1⟩ ⟨h1, h2⟩
    refine (drawSpans hb h2 (by omega) _).then ?_
    rintro ⟨l, c2⟩ ⟨h3, h4⟩
    refine T_among hb h4 (by omega) (by simp) ?_
    intro y c3 _ _
    exact T_ret ⟨h1, h3⟩
  refine d3.then ?_
  clear ml
  rintro ⟨x, l, r⟩ ⟨hx, hl⟩
  simp only at hx hl
  dsimp only
  have wl : (WoD x l r).1.length < 1000000 := by
    unfold WoD
    have := List.length_filter_le (fun s : Span => !(s.Reason == r)) l
    cases (spOk x l && inR r 1 9)
    · simp
    · simp only [cond_true]; omega
  rw [woI x l r (by omega) (by omega), Option.bind_some, woS x l r (by omega) (by omega), Option.bind_some, beq_self_eq_true, Bool.not_true]
  simp only [cond_false, Bool.false_or]
  rw [vSpans_self _ wl, Option.bind_some, Bool.not_true, cond_false]
  have d4 : T (M.spec_DrawReasonCounts code) (fun r => r.1.length ≤ 200 ∧ r.2.length ≤ 20) := by
    unfold M.spec_DrawReasonCounts
    refine (dAreSpans hb).then ?_
    rintro ⟨x, l⟩ h
    exact T_ret h
  refine d4.then ?_
  clear wl
  rintro ⟨x, l⟩ ⟨hx, hl⟩
  simp only at hx hl
  dsimp only
  have cl : (CntD x l).1.length < 1000000 := by
    unfold CntD
    cases hs : spOk x l
    · simp
    · obtain ⟨s1, s2, s3, s4⟩ := spOk_spec hs
      have := (cnt_I (n := 0) l _ 0 CntI.zero (spMem s3)).len
      simp only [Bool.not_true, cond_false]; omega
  rw [cntI x l (by omega) (by omega), Option.bind_some, cntS x l (by omega) (by omega), Option.bind_some, beq_self_eq_true, cond_true, vInts_self _ cl, Option.bind_some]
  exact T_ret rfl
end Go.Proofs.YtfebeomnlkfgoaaDoor
