/-
  Turns of custody: who is not whole, who is suspect. Plain.
-/
import Derived.Test.YtpmjemddofcmaaaCe
set_option linter.unusedSimpArgs false
set_option linter.unusedVariables false
namespace Go.Proofs.Ytpmjemddofcmaaa
open Go.VS

/-- The last hand of record r before i. -/
def prevAt (l : List Hand) (r : Int) : Nat → Option Nat
  | 0 => none
  | i + 1 => if rcd l i = r then some i else prevAt l r i
theorem prevAt_spec (l : List Hand) (r : Int) : ∀ i, (prevAt l r i = none ∧ ∀ j, j < i → rcd l j ≠ r) ∨ ∃ m, prevAt l r i = some m ∧ m < i ∧ rcd l m = r ∧ ∀ j, m < j → j < i → rcd l j ≠ r
  | 0 => .inl ⟨rfl, fun j h => absurd h (Nat.not_lt_zero _)⟩
  | i + 1 => by
    unfold prevAt
    by_cases h : rcd l i = r
    · rw [if_pos h]
      exact .inr ⟨i, rfl, by omega, h, fun j h1 h2 => absurd h1 (by omega)⟩
    · rw [if_neg h]
      rcases prevAt_spec l r i with ⟨h1, h2⟩ | ⟨m, h1, h2, h3, h4⟩
      · refine .inl ⟨h1, fun j hj => ?_⟩
        by_cases e : j < i
        · exact h2 j e
        · obtain rfl : j = i := by omega
          exact h
      · refine .inr ⟨m, h1, by omega, h3, fun j g1 g2 => ?_⟩
        by_cases e : j < i
        · exact h4 j g1 e
        · obtain rfl : j = i := by omega
          exact h
def optI : Option Nat → Int
  | none => -1
  | some m => (m : Int)
theorem prevI (l : List Hand) (r : Int) (i : Nat) (hl : l.length ≤ 1048576) (hi : i ≤ l.length) : M.spec_l17Before l r (i : Int) = some (optI (prevAt l r i)) := by
  obtain ⟨a, h1, h2⟩ := prevT l r i hl hi
  rw [h1]
  congr 1
  rcases prevAt_spec l r i with ⟨g1, g2⟩ | ⟨m, g1, g2, g3, g4⟩
  · rw [g1]
    rcases h2 with ⟨rfl, _⟩ | ⟨k, rfl, q1, q2, q3⟩
    · rfl
    · exact absurd q2 (g2 k q1)
  · rw [g1]
    rcases h2 with ⟨rfl, q⟩ | ⟨k, rfl, q1, q2, q3⟩
    · exact absurd g3 (q m g2)
    · have : k = m := by
        rcases Nat.lt_trichotomy k m with e | e | e
        · exact absurd g3 (q3 m e g2)
        · exact e
        · exact absurd q2 (g4 k e q1)
      rw [this]; rfl

/-- The turn that hand m makes, if it makes one. -/
def turnOf (l : List Hand) (m : Nat) : List (Nat × Nat) :=
  match prevAt l (rcd l m) m with
  | some k => if (l.getD k default).Sum ≠ (l.getD m default).Sum then [(k, m)] else []
  | none => []
def prs (l : List Hand) : List (Nat × Nat) := (List.range l.length).flatMap (turnOf l)
def encP (p : Nat × Nat) : List Int := [(p.1 : Int), (p.2 : Int)]

theorem turnOf_len {l : List Hand} {m : Nat} : (turnOf l m).length ≤ 1 := by
  unfold turnOf
  split
  · split <;> simp
  · simp
theorem turnOf_mem {l : List Hand} {m : Nat} {p : Nat × Nat} (h : p ∈ turnOf l m) : p.2 = m ∧ Cn l p.1 m := by
  unfold turnOf at h
  rcases prevAt_spec l (rcd l m) m with ⟨g1, g2⟩ | ⟨k, g1, g2, g3, g4⟩
  · rw [g1] at h; simp at h
  · rw [g1] at h
    simp only at h
    split at h
    · rw [List.mem_singleton] at h
      subst h
      exact ⟨rfl, g2, g3, g4⟩
    · simp at h
theorem prs_mem {l : List Hand} {p : Nat × Nat} (h : p ∈ prs l) : p.2 < l.length ∧ Cn l p.1 p.2 := by
  unfold prs at h
  obtain ⟨m, hm, hp⟩ := List.mem_flatMap.1 h
  obtain ⟨rfl, h2⟩ := turnOf_mem hp
  exact ⟨List.mem_range.1 hm, h2⟩
theorem prs_len {l : List Hand} : (prs l).length ≤ l.length := by
  have key : ∀ n, ((List.range n).flatMap (turnOf l)).length ≤ n := by
    intro n
    induction n with
    | zero => simp
    | succ n ih =>
      rw [List.range_succ, List.flatMap_append, List.length_append]
      have := turnOf_len (l := l) (m := n)
      simp only [List.flatMap_cons, List.flatMap_nil, List.append_nil]
      omega
  exact key l.length
theorem prs_getD {l : List Hand} {k : Nat} (h : k < (prs l).length) : ((prs l).map encP).getD k default = encP ((prs l).getD k default) := by simp [List.getD, h]

theorem diff1 (l : List Hand) (ps : List (List Int)) (v : Nat) (hv : v < l.length) (hl : l.length ≤ 12) (hp : ps.length ≤ 12) : iterO (M.impl_differences_l1 l ps (v : Int)) (IntKind.i64.wrap ((v : Int) - 1)) = some (ps ++ (turnOf l v).map encP) := by
  rw [wrap64_id (by omega) (by omega)]
  apply T.eq
  refine T_iter (fun s => ∃ k : Nat, s = (k : Int) - 1 ∧ k ≤ v ∧ prevAt l (rcd l v) v = prevAt l (rcd l v) k) (fun s => (s + 1).toNat) _ ⟨v, rfl, Nat.le_refl _, rfl⟩ (by omega) ?_
  rintro _ ⟨k, rfl, h1, h2⟩
  unfold M.impl_differences_l1
  try dsimp only
  refine T_if (fun hq => ?_) (fun hq => ?_)
  · simp only [decide_eq_true_eq] at hq
    obtain ⟨q, rfl⟩ : ∃ q, k = q + 1 := ⟨k - 1, by omega⟩
    have e1 : prevAt l (rcd l v) (q + 1) = if rcd l q = rcd l v then some q else prevAt l (rcd l v) q := rfl
    rw [show ((q + 1 : Nat) : Int) - 1 = (q : Int) by omega, Int.toNat_natCast, Int.toNat_natCast]
    refine T_ask ⟨by omega, by omega⟩ (T_if (fun hc => ?_) (fun hc => ?_))
    · rw [beq_iff_eq] at hc
      rw [e1, if_pos hc] at h2
      refine T_ask ⟨by omega, by omega⟩ (T_if (fun hd => ?_) (fun hd => ?_))
      · rw [bne_iff_ne] at hd
        refine T_ask (by simp; omega) (T_ret ?_)
        unfold turnOf
        rw [h2]
        simp only
        rw [if_pos hd]
        rfl
      · simp only [bne_eq_false_iff_eq] at hd
        refine T_ret ?_
        unfold turnOf
        rw [h2]
        simp only
        rw [if_neg (fun h => h hd)]
        simp
    · rw [beq_eq_false_iff_ne] at hc
      rw [e1, if_neg hc] at h2
      refine T_ret ?_
      simp only
      rw [wrap64_id (by omega) (by omega)]
      exact ⟨⟨q, rfl, by omega, h2⟩, by omega⟩
  · simp only [decide_eq_false_iff_not] at hq
    obtain rfl : k = 0 := by omega
    refine T_ret ?_
    unfold turnOf
    rw [h2]
    simp [prevAt]

theorem diffI (l : List Hand) (hl : l.length ≤ 12) : M.impl_differences l = some ((prs l).map encP) := by
  unfold M.impl_differences
  have hlen : ∀ k, ((List.range k).flatMap (turnOf l)).length ≤ k := by
    intro n
    induction n with
    | zero => simp
    | succ n ih =>
      rw [List.range_succ, List.flatMap_append, List.length_append]
      have := turnOf_len (l := l) (m := n)
      simp only [List.flatMap_cons, List.flatMap_nil, List.append_nil]
      omega
  rw [iter_up (s := (([] : List (List Int)), (0 : Int))) (step := M.impl_differences_l0 l) (e := (prs l).map encP) (fun k => (((List.range k).flatMap (turnOf l)).map encP, (k : Int))) l.length rfl (by omega) (fun k hk => by
    unfold M.impl_differences_l0
    try dsimp only
    have h := hlen k
    rw [decide_eq_true (by omega), cond_true, asrt_pos ⟨by omega, by omega⟩, diff1 l _ k hk hl (by rw [List.length_map]; omega), Option.bind_some]
    try dsimp only
    rw [Option.bind_some]
    try dsimp only
    rw [wrap64_id (by omega) (by omega), cast_succ, List.range_succ, List.flatMap_append, List.map_append]
    simp) (by
    unfold M.impl_differences_l0
    try dsimp only
    rw [decide_eq_false (by omega), cond_false]
    rfl)]
  rfl

theorem turnsS (l : List Hand) (hl : l.length ≤ 12) : M.spec_l17Turns l = some ((prs l).map encP) := by
  unfold M.spec_l17Turns
  have hlen : ∀ k, ((List.range k).flatMap (turnOf l)).length ≤ k := by
    intro n
    induction n with
    | zero => simp
    | succ n ih =>
      rw [List.range_succ, List.flatMap_append, List.length_append]
      have := turnOf_len (l := l) (m := n)
      simp only [List.flatMap_cons, List.flatMap_nil, List.append_nil]
      omega
  rw [iter_up (s := (([] : List (List Int)), (0 : Int))) (step := M.spec_l17Turns_l0 l) (e := (prs l).map encP) (fun k => (((List.range k).flatMap (turnOf l)).map encP, (k : Int))) l.length rfl (by omega) (fun k hk => by
    apply T.eq
    have h := hlen k
    have fin : ((List.range (k + 1)).flatMap (turnOf l)).map encP = ((List.range k).flatMap (turnOf l)).map encP ++ (turnOf l k).map encP := by
      rw [List.range_succ, List.flatMap_append, List.map_append]; simp
    have hpl : (((List.range k).flatMap (turnOf l)).map encP).length ≤ 12 := by rw [List.length_map]; omega
    rw [fin]
    generalize ((List.range k).flatMap (turnOf l)).map encP = ps at hpl
    have ew : IntKind.i64.wrap ((k : Int) + 1) = ((k + 1 : Nat) : Int) := by rw [wrap64_id (by omega) (by omega)]; omega
    unfold M.spec_l17Turns_l0
    try dsimp only
    refine T_if (fun _ => ?_) (fun hq => by simp only [decide_eq_false_iff_not] at hq; omega)
    refine T_in (T_ask ⟨by omega, by omega⟩ ?_)
    rw [Int.toNat_natCast, prevI l _ k (by omega) (by omega), Option.bind_some]
    rcases prevAt_spec l (rcd l k) k with ⟨g1, g2⟩ | ⟨m, g1, g2, g3, g4⟩
    · have ht : turnOf l k = [] := by unfold turnOf; rw [g1]
      rw [g1, ht]
      refine T_ask (fun g => by simp [optI] at g) (T_ask (fun g => by simp [optI] at g) (T_if (fun hc => by simp [optI] at hc) (fun _ => T_ret (T_ret ?_))))
      rw [ew]; simp
    · have ht : turnOf l k = if (l.getD m default).Sum ≠ (l.getD k default).Sum then [(m, k)] else [] := by unfold turnOf; rw [g1]
      rw [g1, ht]
      have e : ∀ b, (decide (optI (some m) ≥ 0) && ((l.getD (Int.toNat (optI (some m))) default).Sum != (l.getD k default).Sum)) = b → ((l.getD m default).Sum != (l.getD k default).Sum) = b := by
        intro b hb
        rw [← hb]
        show _ = (decide ((m : Int) ≥ 0) && ((l.getD (Int.toNat (m : Int)) default).Sum != (l.getD k default).Sum))
        rw [decide_eq_true (show ((m : Int) ≥ 0) by omega), Bool.true_and, Int.toNat_natCast]
      refine T_ask (fun _ => by show 0 ≤ (m : Int) ∧ (m : Int) < _; omega) (T_ask (fun _ => ⟨by omega, by omega⟩) (T_if (fun hc => ?_) (fun hc => ?_)))
      · have hd := e _ hc
        rw [bne_iff_ne] at hd
        refine T_ask (by simp; omega) (T_ret (T_ret ?_))
        rw [ew, if_pos hd]
        rfl
      · have hd := e _ hc
        simp only [bne_eq_false_iff_eq] at hd
        refine T_ret (T_ret ?_)
        rw [ew, if_neg (fun g => g hd)]
        simp) (by
    unfold M.spec_l17Turns_l0
    try dsimp only
    rw [decide_eq_false (by omega), cond_false]
    rfl)]
  rfl

theorem collLoop {β : Type} [Inhabited β] (ps : List β) (g : β → List Int) (hn : ps.length ≤ 12) {step : List Int × Int → Option ((List Int × Int) ⊕ List Int)}
    (hs : ∀ out v, v < ps.length → Coll out ((ps.take v).flatMap g) → ∃ out', step (out, (v : Int)) = some (.inl (out', ((v + 1 : Nat) : Int))) ∧ Coll out' ((ps.take v).flatMap g ++ g (ps.getD v default)))
    (he : ∀ out, step (out, (ps.length : Int)) = some (.inr out)) : iterO step ([], 0) = some (once (ps.flatMap g)) := by
  obtain ⟨e, h1, h2⟩ : T (iterO step ([], 0)) (fun e => Coll e (ps.flatMap g)) := by
    refine T_iter (fun s => ∃ v : Nat, s.2 = (v : Int) ∧ v ≤ ps.length ∧ Coll s.1 ((ps.take v).flatMap g)) (fun s => ps.length - s.2.toNat) _ ⟨0, rfl, by omega, Coll.nil⟩ (by simp only; omega) ?_
    rintro ⟨out, _⟩ ⟨v, rfl, q1, q2⟩
    simp only at q2
    by_cases hv : v < ps.length
    · obtain ⟨out', h3, h4⟩ := hs out v hv q2
      rw [h3]
      refine T_ret ⟨⟨v + 1, rfl, by omega, ?_⟩, by simp only; omega⟩
      rw [take_succ_getD hv, List.flatMap_append]
      simpa using h4
    · have : v = ps.length := by omega
      subst this
      rw [he]
      rw [List.take_length] at q2
      exact T_ret q2
  rw [h1, h2.eq]

/-! ### Not whole -/
noncomputable def NotD (l : List Hand) : List Int × Bool := bif custOk l then (once ((prs l).flatMap fun p => [rcd l p.1]), true) else ([], false)
theorem flatMap_lenP {l : List Hand} (g : Nat × Nat → List Int) (hg : ∀ p, (g p).length ≤ 1) : ∀ ps : List (Nat × Nat), (ps.flatMap g).length ≤ ps.length
  | [] => by simp
  | p :: t => by
    have := flatMap_lenP (l := l) g hg t
    have := hg p
    simp only [List.flatMap_cons, List.length_append, List.length_cons]; omega

/-! ### Suspects -/
def susG (l : List Hand) (r : Int) (p : Nat × Nat) : List Int := bif rcd l p.1 == r then [(l.getD p.1 default).To] else []
noncomputable def SusD (l : List Hand) (r : Int) : List Int × Bool := bif custOk l && inR r 1 999 then (once ((prs l).flatMap (susG l r)), true) else ([], false)
theorem susG_len {l : List Hand} {r : Int} {p : Nat × Nat} : (susG l r p).length ≤ 1 := by unfold susG; cases rcd l p.1 == r <;> simp

theorem NotD_len {l : List Hand} (hl : l.length ≤ 1048576) : (NotD l).1.length ≤ 1048576 := by
  unfold NotD
  cases custOk l
  · simp
  · simp only [cond_true]
    exact Nat.le_trans once_len (Nat.le_trans (flatMap_lenP (l := l) _ (fun p => by simp) _) (Nat.le_trans prs_len hl))
theorem SusD_len {l : List Hand} {r : Int} (hl : l.length ≤ 1048576) : (SusD l r).1.length ≤ 1048576 := by
  unfold SusD
  cases custOk l && inR r 1 999
  · simp
  · simp only [cond_true]
    exact Nat.le_trans once_len (Nat.le_trans (flatMap_lenP (l := l) _ (fun p => susG_len) _) (Nat.le_trans prs_len hl))

end Go.Proofs.Ytpmjemddofcmaaa
