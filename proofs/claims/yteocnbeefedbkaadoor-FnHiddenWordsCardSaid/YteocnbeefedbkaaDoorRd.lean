/-
  Redactions: valid texts and spans, what is redacted. Plain.
-/
import Derived.Test.YteocnbeefedbkaaDoorWo
import Derived.Test.YteocnbeefedbkaaDoorNu
set_option linter.unusedSimpArgs false
set_option linter.unusedVariables false
namespace Go.Proofs.YteocnbeefedbkaaDoor
open Go.VS

/-! ### Texts -/
def lowsp (b : UInt8) : Bool := lower b || b == 32
def txtOk (s : List UInt8) : Bool := decide ((s.length : Int) ≤ 100) && s.all lowsp
def cutsp : List UInt8 := [32, 97, 98, 99, 100, 101, 102, 103, 104, 105, 106, 107, 108, 109, 110, 111, 112, 113, 114, 115, 116, 117, 118, 119, 120, 121, 122]
theorem cutsp_all : ∀ n : Fin 256, cutsp.contains (UInt8.ofNat n.val) = lowsp (UInt8.ofNat n.val) := by decide +kernel
theorem cutsp_low (b : UInt8) : cutsp.contains b = lowsp b := by
  have := cutsp_all ⟨b.toNat, b.toNat_lt⟩
  simpa using this
theorem textI (s : List UInt8) (hl : s.length < 1000000) : M.impl_IsText s = some (txtOk s) := by
  unfold M.impl_IsText M.strings_Trim txtOk
  cases h : decide ((s.length : Int) ≤ 100)
  · rfl
  · simp only [cond_true, Bool.true_and]
    rw [asrt_pos ⟨by omega, by decide, by decide⟩, Option.bind_some]
    congr 1
    rw [Bool.eq_iff_iff, beq_iff_eq]
    refine trimS_nil.trans ?_
    rw [show (fun x => List.contains [32, 97, 98, 99, 100, 101, 102, 103, 104, 105, 106, 107, 108, 109, 110, 111, 112, 113, 114, 115, 116, 117, 118, 119, 120, 121, 122] x) = lowsp from funext cutsp_low]
theorem letterS (x : Int) : M.spec_l15Letter x = some (decide (x ≥ 97) && decide (x ≤ 122)) := rfl
theorem lowsp_num (b : UInt8) : ((!(decide (((b.toNat : Nat) : Int) ≥ 97) && decide (((b.toNat : Nat) : Int) ≤ 122))) && (((b.toNat : Nat) : Int) != 32)) = !lowsp b := by
  have h32 : (b == 32) = (((b.toNat : Nat) : Int) == 32) := by
    rw [Bool.eq_iff_iff, beq_iff_eq, beq_iff_eq]
    constructor
    · intro h; subst h; rfl
    · intro h
      have : b.toNat = 32 := by omega
      exact UInt8.toNat_inj.1 (by rw [this]; rfl)
  unfold lowsp lower
  rw [h32, Bool.eq_iff_iff]
  simp only [Bool.and_eq_true, Bool.not_eq_true', Bool.and_eq_false_iff, decide_eq_false_iff_not, bne_iff_ne, ne_eq, Bool.or_eq_false_iff, beq_eq_false_iff_ne]
  omega
theorem textS (s : List UInt8) (hl : s.length < 1000000) : M.spec_l15Text s = some (txtOk s) := by
  unfold M.spec_l15Text txtOk
  rw [iter_any (step := M.spec_l15Text_l0 s) (s := 0) (fun k => (k : Int)) s.length (fun k => !lowsp (s.getD k default)) (.inr false) (.inl ()) rfl (by omega)
    (fun k hk hp => by
      have e := lowsp_num (s.getD k 0)
      have hp : (!lowsp (s.getD k 0)) = false := hp
      rw [hp] at e
      unfold M.spec_l15Text_l0
      dsimp only
      rw [decide_eq_true (by omega), cond_true, asrt_pos ⟨by omega, by omega⟩, Int.toNat_natCast, letterS, Option.bind_some, asrt_pos (fun _ => ⟨by omega, by omega⟩), e, cond_false, wrap64_id (by omega) (by omega), cast_succ])
    (fun k hk hp => by
      have e := lowsp_num (s.getD k 0)
      have hp : (!lowsp (s.getD k 0)) = true := hp
      rw [hp] at e
      unfold M.spec_l15Text_l0
      dsimp only
      rw [decide_eq_true (by omega), cond_true, asrt_pos ⟨by omega, by omega⟩, Int.toNat_natCast, letterS, Option.bind_some, asrt_pos (fun _ => ⟨by omega, by omega⟩), e, cond_true])
    (by
      unfold M.spec_l15Text_l0
      dsimp only
      rw [decide_eq_false (by omega), cond_false])]
  rw [← any_getD (p := fun b => !lowsp b)]
  have : (s.any fun b => !lowsp b) = !s.all lowsp := by
    rw [List.all_eq_not_any_not, Bool.not_not]
  rw [this]
  cases s.all lowsp
  · simp
  · simp

/-! ### Spans -/
def spBad (n b : Int) (s : Span) : Bool := ((decide (s.From < b) || decide (s.From ≥ s.To)) || decide (s.To > n)) || !(inR s.Reason 1 9)
def spB (n : Int) : Int → List Span → Bool
  | _, [] => true
  | b, s :: t => !(spBad n b s) && spB n s.To t
def spOk (x : List UInt8) (l : List Span) : Bool := (txtOk x && decide (l.length ≤ 8)) && spB (x.length : Int) 0 l
theorem spBad_false {n b : Int} {s : Span} (h : spBad n b s = false) : b ≤ s.From ∧ s.From < s.To ∧ s.To ≤ n ∧ 1 ≤ s.Reason ∧ s.Reason ≤ 9 := by
  unfold spBad at h
  simp only [Bool.or_eq_false_iff, decide_eq_false_iff_not, Bool.not_eq_false', inR_true] at h
  omega
theorem spB_cons {n b : Int} {s : Span} {t : List Span} (h : spB n b (s :: t) = true) : (b ≤ s.From ∧ s.From < s.To ∧ s.To ≤ n ∧ 1 ≤ s.Reason ∧ s.Reason ≤ 9) ∧ spB n s.To t = true := by
  simp only [spB, Bool.and_eq_true, Bool.not_eq_true'] at h
  exact ⟨spBad_false h.1, h.2⟩
theorem spB_mk {n b : Int} {s : Span} {t : List Span} (h : b ≤ s.From ∧ s.From < s.To ∧ s.To ≤ n ∧ 1 ≤ s.Reason ∧ s.Reason ≤ 9) (ht : spB n s.To t = true) : spB n b (s :: t) = true := by
  simp only [spB, Bool.and_eq_true, Bool.not_eq_true']
  refine ⟨?_, ht⟩
  unfold spBad
  simp only [Bool.or_eq_false_iff, decide_eq_false_iff_not, Bool.not_eq_false', inR_true]
  omega
theorem reasonI (r : Int) : M.impl_isReason r = some (inR r 1 9) := rfl
theorem spans_forE (n : Int) : ∀ (l : List Span) (b : Int), forE (fun (a : Int) (s : Span) => bif spBad n a s then (.inr (.inr false) : Int ⊕ (Unit ⊕ Bool)) else .inl s.To) (fun _ => .inl ()) l b = bif spB n b l then .inl () else .inr false
  | [], _ => rfl
  | s :: t, b => by
    simp only [forE, spB]
    cases spBad n b s
    · simp only [cond_false, Bool.not_false, Bool.true_and]
      exact spans_forE n t s.To
    · rfl
theorem spansI (x : List UInt8) (l : List Span) (hx : x.length < 1000000) (hl : l.length < 1000000) : M.impl_AreSpans x l = some (spOk x l) := by
  unfold M.impl_AreSpans spOk
  rw [textI x hx, Option.bind_some]
  cases txtOk x
  · rfl
  rw [Bool.not_true, Bool.false_or, Bool.true_and]
  by_cases h8 : l.length ≤ 8
  · rw [decide_eq_false (by omega), cond_false, decide_eq_true h8, Bool.true_and, iter_forE (s := ((0 : Int), (0 : Int))) (step := M.impl_AreSpans_l0 x l) (fun a k => (a, (k : Int))) (fun (a : Int) (s : Span) => bif spBad (x.length : Int) a s then (.inr (.inr false) : Int ⊕ (Unit ⊕ Bool)) else .inl s.To) (fun _ => .inl ()) l 0 (fun _ _ => True) rfl (by omega) trivial (fun a k hk _ => ?_) (fun a _ => ?_), spans_forE, Option.bind_some]
    · cases spB (x.length : Int) 0 l <;> rfl
    · unfold M.impl_AreSpans_l0
      dsimp only
      rw [decide_eq_true (by omega), cond_true, asrt_pos ⟨by omega, by omega⟩, Int.toNat_natCast, wrap64_id (n := (k : Int) + 1) (by omega) (by omega)]
      unfold spBad
      cases ((decide ((l.getD k default).From < a) || decide ((l.getD k default).From ≥ (l.getD k default).To)) || decide ((l.getD k default).To > (x.length : Int)))
      · simp only [cond_false, reasonI, Option.bind_some, Bool.false_or]
        cases inR (l.getD k default).Reason 1 9
        · rfl
        · exact ⟨rfl, trivial⟩
      · rfl
    · unfold M.impl_AreSpans_l0
      dsimp only
      rw [decide_eq_false (by omega)]
      rfl
  · rw [decide_eq_true (by omega), cond_true, decide_eq_false h8, Bool.false_and]
def spP (n : Int) (s : Span) : Bool := (!(inR s.To 1 n) || !(inR s.From 0 (s.To - 1))) || !(inR s.Reason 1 9)
def spQ (a b : Span) : Bool := decide (a.To > b.From)
theorem spP_false {n : Int} {s : Span} : spP n s = false ↔ 0 ≤ s.From ∧ s.From < s.To ∧ s.To ≤ n ∧ 1 ≤ s.Reason ∧ s.Reason ≤ 9 := by
  unfold spP
  simp only [Bool.or_eq_false_iff, Bool.not_eq_false', inR_true]
  omega
theorem spB_iff {n : Int} : ∀ (l : List Span) (b : Int), 0 ≤ b → (spB n b l = true ↔ ((∀ k, k < l.length → spP n (l.getD k default) = false) ∧ (∀ k, 0 < k → k < l.length → spQ (l.getD (k - 1) default) (l.getD k default) = false)) ∧ (0 < l.length → b ≤ (l.getD 0 default).From))
  | [], b, _ => ⟨fun _ => ⟨⟨fun k h => absurd h (Nat.not_lt_zero _), fun k _ h => absurd h (Nat.not_lt_zero _)⟩, fun h => absurd h (Nat.not_lt_zero _)⟩, fun _ => rfl⟩
  | s :: t, b, hb => by
    constructor
    · intro h
      obtain ⟨h1, h2⟩ := spB_cons h
      obtain ⟨⟨g1, g2⟩, g3⟩ := (spB_iff t s.To (by omega)).1 h2
      refine ⟨⟨fun k hk => ?_, fun k h0 hk => ?_⟩, fun _ => h1.1⟩
      · cases k with
        | zero => exact (spP_false (s := s)).2 (by omega)
        | succ k => exact g1 k (by simpa using hk)
      · cases k with
        | zero => omega
        | succ k =>
          cases k with
          | zero =>
            have := g3 (by simpa using hk)
            show spQ s (t.getD 0 default) = false
            unfold spQ
            rw [decide_eq_false_iff_not]; omega
          | succ k => exact g2 (k + 1) (by omega) (by simpa using hk)
    · rintro ⟨⟨g1, g2⟩, g3⟩
      have p0 := spP_false.1 (show spP n s = false from g1 0 (by simp))
      have b0 : b ≤ s.From := g3 (by simp)
      refine spB_mk ⟨b0, p0.2.1, p0.2.2.1, p0.2.2.2.1, p0.2.2.2.2⟩ ((spB_iff t s.To (by omega)).2 ⟨⟨fun k hk => g1 (k + 1) (by simpa using hk), fun k h0 hk => ?_⟩, fun h0 => ?_⟩)
      · have := g2 (k + 1) (by omega) (by simpa using hk)
        cases k with
        | zero => omega
        | succ k => exact this
      · have := g2 1 (by omega) (by simpa using h0)
        have h9 : spQ s (t.getD 0 default) = false := this
        unfold spQ at h9
        rw [decide_eq_false_iff_not] at h9
        omega
theorem rise_spB {n : Int} (hn : 0 ≤ n) (l : List Span) : rise (spP n) spQ l = spB n 0 l := by
  rw [Bool.eq_iff_iff, rise_iff, spB_iff l 0 (Int.le_refl _)]
  constructor
  · intro h
    refine ⟨h, fun h0 => ?_⟩
    exact (spP_false.1 (h.1 0 h0)).1
  · intro h; exact h.1
theorem spansS (x : List UInt8) (l : List Span) (hx : x.length < 1000000) (hl : l.length < 1000000) : M.spec_l15Good x l = some (spOk x l) := by
  unfold M.spec_l15Good
  rw [iter_rise (n := l.length) (bad := riseB (spP (x.length : Int)) spQ l) (by omega) (fun k hk => by
    unfold M.spec_l15Good_l0 riseB
    dsimp only
    rw [decide_eq_true (by omega), cond_true, asrt_pos ⟨by omega, by omega⟩, Int.toNat_natCast, l1InS, Option.bind_some, wrap64_id (n := (k : Int) - 1) (by omega) (by omega), show ((k : Int) - 1).toNat = k - 1 by omega, wrap64_id (n := (k : Int) + 1) (by omega) (by omega)]
    unfold spP
    cases h1 : inR (l.getD k default).To 1 (x.length : Int)
    · simp only [Bool.not_false, cond_true, Option.bind_some, Bool.true_or]
      rw [asrt_pos (fun h => by simp at h)]
    · have hT := inR_true.1 h1
      rw [Bool.not_true, cond_false, wrap64_id (n := (l.getD k default).To - 1) (by omega) (by omega), l1InS, Option.bind_some, Bool.false_or]
      cases h2 : inR (l.getD k default).From 0 ((l.getD k default).To - 1)
      · simp only [Bool.not_false, cond_true, Option.bind_some, Bool.true_or]
        rw [asrt_pos (fun h => by simp at h)]
      · rw [Bool.not_true, cond_false, l1InS, Option.bind_some, asrt_pos (fun _ h => ⟨by simp only [decide_eq_true_eq] at h; omega, by omega⟩)]
        simp only [Bool.false_or]
        unfold spQ
        cases !(inR (l.getD k default).Reason 1 9) || (decide ((k : Int) > 0) && decide ((l.getD (k - 1) default).To > (l.getD k default).From)) <;> rfl) (by
    unfold M.spec_l15Good_l0
    dsimp only
    rw [decide_eq_false (by omega), cond_false])]
  have e := rise_spB (n := (x.length : Int)) (by omega) l
  unfold rise at e
  unfold spOk
  rw [← e]
  cases (List.range l.length).any (riseB (spP (x.length : Int)) spQ l)
  · rw [cond_false, Option.bind_some]
    simp only [Bool.not_false, Bool.and_true]
    rw [textS x hx, Option.bind_some, show decide ((l.length : Int) ≤ 8) = decide (l.length ≤ 8) by rw [Bool.eq_iff_iff, decide_eq_true_eq, decide_eq_true_eq]; omega]
  · simp
theorem spOk_spec {x : List UInt8} {l : List Span} (h : spOk x l = true) : txtOk x = true ∧ l.length ≤ 8 ∧ spB (x.length : Int) 0 l = true ∧ x.length ≤ 100 := by
  unfold spOk at h
  simp only [Bool.and_eq_true, decide_eq_true_eq] at h
  have : x.length ≤ 100 := by
    have := h.1.1
    unfold txtOk at this
    simp only [Bool.and_eq_true, decide_eq_true_eq] at this
    omega
  exact ⟨h.1.1, h.1.2, h.2, this⟩

/-! ### Redacted -/
def rdc : List UInt8 → Int → List Span → List UInt8
  | u, _, [] => u
  | u, b, s :: t => u.take (s.From - b).toNat ++ ([91] ++ (numT s.Reason ++ ([93] ++ rdc (u.drop (s.To - b).toNat) s.To t)))
def oth : List UInt8 → Int → List Span → List UInt8
  | u, _, [] => u
  | u, b, s :: t => u.take (s.From - b).toNat ++ (List.replicate (s.To - s.From).toNat 113 ++ oth (u.drop (s.To - b).toNat) s.To t)
def hid : List Span → Int
  | [] => 0
  | s :: t => (s.To - s.From) + hid t
theorem slc_drop {x : List UInt8} {i j : Int} (h0 : 0 ≤ i) (h1 : i ≤ j) : slc x i j = (x.drop i.toNat).take (j - i).toNat := by
  unfold slc
  first
    | (rw [List.drop_take]; congr 1; omega)
    | (congr 1; omega)
theorem numT_dig {r : Int} (h : 1 ≤ r ∧ r ≤ 9) : numT r = [digB r.toNat] := by
  have e : r = ((r.toNat : Nat) : Int) := by omega
  rw [e, numT_nat, numN_small (by omega), Int.toNat_natCast]
theorem oth_len : ∀ {l : List Span} {u : List UInt8} {n b : Int}, spB n b l = true → (u.length : Int) = n - b → (oth u b l).length = u.length
  | [], _, _, _, _, _ => rfl
  | s :: t, u, n, b, h, hu => by
    obtain ⟨h1, h2⟩ := spB_cons h
    have hd : ((u.drop (s.To - b).toNat).length : Int) = n - s.To := by rw [List.length_drop]; omega
    have := oth_len h2 hd
    rw [oth, List.length_append, List.length_append, List.length_replicate, List.length_take, this, List.length_drop]
    omega
theorem rdc_oth : ∀ {l : List Span} {u : List UInt8} {n b : Int}, spB n b l = true → (u.length : Int) = n - b → rdc (oth u b l) b l = rdc u b l
  | [], _, _, _, _, _ => rfl
  | s :: t, u, n, b, h, hu => by
    obtain ⟨h1, h2⟩ := spB_cons h
    have hd : ((u.drop (s.To - b).toNat).length : Int) = n - s.To := by rw [List.length_drop]; omega
    have ih := rdc_oth h2 hd
    have ht : (u.take (s.From - b).toNat).length = (s.From - b).toNat := by rw [List.length_take]; omega
    have e1 : (oth u b (s :: t)).take (s.From - b).toNat = u.take (s.From - b).toNat := by
      rw [oth, List.take_append_of_le_length (by omega), List.take_of_length_le (by omega)]
    have e2 : (oth u b (s :: t)).drop (s.To - b).toNat = oth (u.drop (s.To - b).toNat) s.To t := by
      rw [oth, ← List.append_assoc]
      have hl : (u.take (s.From - b).toNat ++ List.replicate (s.To - s.From).toNat 113).length = (s.To - b).toNat := by rw [List.length_append, ht, List.length_replicate]; omega
      rw [← hl, List.drop_left]
    rw [rdc, e1, e2, ih, rdc]
theorem rdc_len : ∀ {l : List Span} {u : List UInt8} {n b : Int}, spB n b l = true → (u.length : Int) = n - b → ((rdc u b l).length : Int) = (u.length : Int) - hid l + 3 * (l.length : Int) ∧ 0 ≤ hid l ∧ hid l ≤ n - b
  | [], u, n, b, _, hu => by simp only [rdc, hid, List.length_nil]; omega
  | s :: t, u, n, b, h, hu => by
    obtain ⟨h1, h2⟩ := spB_cons h
    have hd : ((u.drop (s.To - b).toNat).length : Int) = n - s.To := by rw [List.length_drop]; omega
    have ih := rdc_len h2 hd
    rw [rdc, hid, numT_dig h1.2.2.2]
    simp only [List.length_append, List.length_cons, List.length_nil, List.length_take] at ih ⊢
    omega
theorem oth_low : ∀ {l : List Span} {u : List UInt8} {b : Int}, u.all lowsp = true → (oth u b l).all lowsp = true
  | [], _, _, h => h
  | s :: t, u, b, h => by
    have h1 : ∀ x ∈ u, lowsp x = true := List.all_eq_true.1 h
    rw [oth, List.all_append, List.all_append, Bool.and_eq_true, Bool.and_eq_true]
    refine ⟨List.all_eq_true.2 fun x hx => h1 x (List.mem_of_mem_take hx), List.all_eq_true.2 fun x hx => ?_, oth_low (List.all_eq_true.2 fun x hx => h1 x (List.mem_of_mem_drop hx))⟩
    rw [(List.mem_replicate.1 hx).2]
    decide
def RedD (x : List UInt8) (l : List Span) : List UInt8 × Bool := bif !(spOk x l) then ([], false) else (rdc x 0 l, true)
end Go.Proofs.YteocnbeefedbkaaDoor
