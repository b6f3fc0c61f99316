/-
  FnHiddenWords: the draws, what they cannot give, the law. Plain.
-/
import Derived.Test.YteocnbeefedbkaaDoorHw
set_option linter.unusedSimpArgs false
set_option linter.unusedVariables false
namespace Go.Proofs.YteocnbeefedbkaaDoor
open Go.VS

/-! ### Draws -/
theorem drawTextN {code : List Int} {k : Nat} {c : Cur} (hb : Bytes code) (h : Good code k c) (hk : k < 600000000) : T (M.spec_l1Cur_text c) (fun r => (r.1.length ≤ 200 ∧ r.1.count 32 ≤ 7) ∧ Good code (k + 1000) r.2) := by
  unfold M.spec_l1Cur_text
  refine T_pick hb h (by omega) ?_
  intro n c1 _ hn h1
  have hn := hn (by omega)
  try dsimp only
  refine T.then (Q := fun r => (r.1.length ≤ 80 ∧ r.1.count 32 ≤ 7) ∧ Good code (k + 100) r.2) (T_iter (fun s => (0 ≤ s.2.1 ∧ s.2.1 ≤ 8) ∧ (s.1.length : Int) + 10 * s.2.1 ≤ 80 ∧ ((s.1.count 32 : Int) + s.2.1 ≤ 8 ∧ s.1.count 32 ≤ 7) ∧ Good code (k + 100 - 2 * s.2.1.toNat) s.2.2) (fun s => s.2.1.toNat) _ ⟨by simp only; omega, by simp only [List.length_nil]; omega, by simp only [List.count_nil]; omega, h1.up (by simp only; omega)⟩ (by (first | omega | (simp only; omega) | (dsimp only; omega) | (simp; omega))) ?_) ?_
  · rintro ⟨s, n, c2⟩ ⟨g1, g2, g4, g3⟩
    simp only at g1 g2 g3 g4
    unfold M.spec_l1Cur_text_l0
    try dsimp only
    refine T_if (fun hq => ?_) (fun hq => T_ret ⟨by simp only; omega, g3.up (by omega)⟩)
    simp only [decide_eq_true_eq] at hq
    refine T_in (T_of hb g3 (by omega) (by simp) ?_)
    intro w c3 hw h2
    have hwl : w.length ≤ 5 ∧ w.count 32 = 0 := by
      simp only [List.mem_cons, List.not_mem_nil, or_false] at hw
      rcases hw with h | h | h | h | h | h | h | h | h | h <;> rw [h] <;> decide
    try dsimp only
    refine T_ask (by omega) (T_if (fun hp => T_ask (by simp only [List.length_append, List.length_cons, List.length_nil]; omega) (T_ret (T_ret ?_))) (fun hp => T_ret (T_ret ?_)))
    · simp only [decide_eq_true_eq] at hp
      simp only [List.length_append, List.length_cons, List.length_nil, List.count_append, hwl.2, List.count_cons_self, List.count_nil]
      rw [wrap64_id (n := n - 1) (by omega) (by omega)]
      exact ⟨⟨by omega, by omega, by omega, h2.up (by omega)⟩, by omega⟩
    · simp only [decide_eq_false_iff_not] at hp
      simp only [List.length_append, List.count_append, hwl.2]
      rw [wrap64_id (n := n - 1) (by omega) (by omega)]
      exact ⟨⟨by omega, by omega, by omega, h2.up (by omega)⟩, by omega⟩
  · rintro ⟨s, c2⟩ ⟨h2, h3⟩
    simp only at h2 h3
    refine T_pick hb h3 (by omega) ?_
    intro y c3 _ _ h4
    try dsimp only
    refine T.then (Q := fun r => (r.1.length ≤ 200 ∧ r.1.count 32 ≤ 7) ∧ Good code (k + 1000) r.2) ?_ (fun r hr => T_ret hr)
    refine T_if (fun _ => ?_) (fun _ => T_if (fun _ => ?_) (fun _ => T_ret ⟨by simp only; omega, h4.up (by omega)⟩))
    · refine T_of hb h4 (by omega) (by simp) ?_
      intro w c4 hw h5
      have hwl : w.length ≤ 5 ∧ w.count 32 = 0 := by
        simp only [List.mem_cons, List.not_mem_nil, or_false] at hw
        rcases hw with h | h | h | h <;> rw [h] <;> decide
      try dsimp only
      exact T_ask (by omega) (T_ret ⟨by simp only [List.length_append, List.count_append, hwl.2]; omega, h5.up (by omega)⟩)
    · refine T.then (Q := fun r => (r.1.length ≤ 200 ∧ r.1.count 32 ≤ 7) ∧ Good code (k + 1000) r.2) (T_iter (fun s => (s.1.length ≤ 110 ∧ s.1.count 32 ≤ 7) ∧ Good code (k + 200 + 2 * s.1.length) s.2) (fun s => 200 - s.1.length) _ ⟨by simp only; omega, h4.up (by omega)⟩ (by simp only; omega) ?_) (fun r hr => T_ret hr)
      rintro ⟨m, c4⟩ ⟨g1, g2⟩
      simp only at g1 g2
      unfold M.spec_l1Cur_text_l1
      try dsimp only
      refine T_pick hb g2 (by omega) ?_
      intro y c5 _ y2 y3
      have := y2 (by omega)
      try dsimp only
      rw [wrap64_id (n := 100 + y) (by omega) (by omega)]
      refine T_if (fun hq => ?_) (fun hq => T_ret ⟨by simp only; omega, y3.up (by omega)⟩)
      simp only [decide_eq_true_eq] at hq
      refine T_ask (by simp only [List.length_cons, List.length_nil]; omega) (T_ret ?_)
      simp only [List.length_append, List.length_cons, List.length_nil, List.count_append, show List.count (32 : UInt8) [120] = 0 from by decide]
      exact ⟨⟨by omega, y3.up (by omega)⟩, by omega⟩
def unitsS (k : Nat) : List Span := (List.range k).map fun i : Nat => (⟨(i : Int), (i : Int) + 1, 1⟩ : Span)
theorem unitsS_len {k : Nat} : (unitsS k).length = k := by unfold unitsS; simp
theorem unitsS_succ {k : Nat} : unitsS (k + 1) = unitsS k ++ [⟨(k : Int), (k : Int) + 1, 1⟩] := by
  unfold unitsS
  rw [List.range_succ, List.map_append]
  rfl
def lastTo (l : List Span) : Int := (l.getLast?.map Span.To).getD 0
theorem lastTo_snoc {l : List Span} {s : Span} : lastTo (l ++ [s]) = s.To := by unfold lastTo; simp
/-- What lists of spans are drawn. -/
def SpD (l : List Span) : Prop := l.length ≤ 4 ∨ (∃ m s, l = m ++ [s] ∧ m.length ≤ 4 ∧ (s.From ≤ 0 ∨ s.From = lastTo m)) ∨ ∃ k, l = unitsS k
theorem drawSpansN {code : List Int} {k : Nat} {c : Cur} (hb : Bytes code) (h : Good code k c) (hk : k < 600000000) (x : List UInt8) : T (M.spec_l1Cur_spans c x) (fun r => (r.1.length ≤ 20 ∧ SpD r.1) ∧ Good code (k + 1000) r.2) := by
  unfold M.spec_l1Cur_spans
  refine T_pick hb h (by omega) ?_
  intro n c1 _ hn h1
  have hn := hn (by omega)
  try dsimp only
  refine T.then (Q := fun r => (r.1.length ≤ 4 ∧ r.2.1 = lastTo r.1) ∧ Good code (k + 100) r.2.2) (T_iter (fun s => (0 ≤ s.2.2.1 ∧ s.2.2.1 ≤ 6) ∧ ((s.1.length : Int) + s.2.2.1 ≤ 4 ∧ s.2.1 = lastTo s.1) ∧ Good code (k + 100 - 10 * s.2.2.1.toNat) s.2.2.2) (fun s => s.2.2.1.toNat) _ ⟨by simp only; omega, ⟨by simp only [List.length_nil]; omega, rfl⟩, h1.up (by simp only; omega)⟩ (by (first | omega | (simp only; omega) | (dsimp only; omega) | (simp; omega))) ?_) ?_
  · rintro ⟨l, a, n, c2⟩ ⟨g1, g2, g3⟩
    simp only at g1 g2 g3
    unfold M.spec_l1Cur_spans_l0
    try dsimp only
    refine T_if (fun hq => ?_) (fun hq => T_ret ⟨by simp only; exact ⟨by omega, g2.2⟩, g3.up (by omega)⟩)
    simp only [Bool.and_eq_true, decide_eq_true_eq] at hq
    refine T_among hb g3 (by omega) (by simp) ?_
    intro y c3 _ h2
    try dsimp only
    rw [leastS, Option.bind_some]
    refine T_among hb h2 (by omega) (by simp) ?_
    intro y4 c4 _ h3
    try dsimp only
    rw [leastS, Option.bind_some]
    refine T_among hb h3 (by omega) (by simp) ?_
    intro y5 c5 _ h4
    try dsimp only
    refine T_ask (by simp only [List.length_cons, List.length_nil]; omega) (T_ret ?_)
    simp only [List.length_append, List.length_cons, List.length_nil, lastTo_snoc]
    rw [wrap64_id (n := n - 1) (by omega) (by omega)]
    exact ⟨⟨by omega, ⟨by omega, trivial⟩, h4.up (by omega)⟩, by omega⟩
  · rintro ⟨l, a, c2⟩ ⟨⟨h2, h2'⟩, h3⟩
    simp only at h2 h2' h3
    try dsimp only
    refine T_pick hb h3 (by omega) ?_
    intro y c3 _ _ h4
    try dsimp only
    refine T.then (Q := fun r => (r.1.length ≤ 20 ∧ SpD r.1) ∧ Good code (k + 1000) r.2) ?_ (fun r hr => T_ret hr)
    refine T_if (fun _ => ?_) (fun _ => T_if (fun _ => ?_) (fun _ => T_ret ⟨by simp only; exact ⟨by omega, .inl h2⟩, h4.up (by omega)⟩))
    · refine T_among hb h4 (by omega) (by simp) ?_
      intro y4 c4 hy4 h5
      try dsimp only
      refine T_among hb h5 (by omega) (by simp) ?_
      intro y5 c5 _ h6
      try dsimp only
      refine T_among hb h6 (by omega) (by simp) ?_
      intro y6 c6 _ h7
      try dsimp only
      refine T_ask (by simp only [List.length_cons, List.length_nil]; omega) (T_ret ⟨⟨by simp only [List.length_append, List.length_cons, List.length_nil]; omega, .inr (.inl ⟨l, _, rfl, h2, ?_⟩)⟩, h7.up (by omega)⟩)
      simp only [List.mem_cons, List.not_mem_nil, or_false] at hy4
      rcases hy4 with e | e | e
      · exact .inl (by dsimp only; omega)
      · exact .inl (by dsimp only; omega)
      · exact .inr (by dsimp only; rw [e, h2'])
    · refine T.then (Q := fun r => (r.1.length ≤ 20 ∧ SpD r.1) ∧ Good code (k + 1000) r.2) (T_iter (fun s => (∃ j, s.1 = unitsS j ∧ j ≤ 12) ∧ Good code (k + 200 + 2 * s.1.length) s.2) (fun s => 20 - s.1.length) _ ⟨⟨0, rfl, by omega⟩, h4.up (by omega)⟩ (by simp only; omega) ?_) (fun r hr => T_ret hr)
      rintro ⟨m, c4⟩ ⟨⟨j, rfl, g1⟩, g2⟩
      simp only [unitsS_len] at g1 g2
      unfold M.spec_l1Cur_spans_l1
      try dsimp only
      refine T_pick hb g2 (by omega) ?_
      intro y c5 _ y2 y3
      have := y2 (by omega)
      try dsimp only
      rw [wrap64_id (n := 8 + y) (by omega) (by omega), unitsS_len]
      refine T_if (fun hq => ?_) (fun hq => T_ret ⟨⟨by simp only [unitsS_len]; omega, .inr (.inr ⟨j, rfl⟩)⟩, y3.up (by omega)⟩)
      simp only [decide_eq_true_eq] at hq
      refine T_ask (by simp only [List.length_cons, List.length_nil]; omega) (T_ret ?_)
      rw [wrap64_id (n := (j : Int) + 1) (by omega) (by omega), ← unitsS_succ]
      simp only [unitsS_len]
      exact ⟨⟨⟨j + 1, rfl, by omega⟩, y3.up (by omega)⟩, by omega⟩
theorem drawWordOf {code : List Int} {k : Nat} {c : Cur} (hb : Bytes code) (h : Good code k c) (hk : k < 600000000) : T (M.spec_l1Cur_wordOf c) (fun r => r.1.length ≤ 10 ∧ Good code (k + 10) r.2) := by
  unfold M.spec_l1Cur_wordOf
  refine T_of hb h (by omega) (by simp) ?_
  intro w c3 hw h2
  have hwl : w.length ≤ 5 := by
    simp only [List.mem_cons, List.not_mem_nil, or_false] at hw
    rcases hw with h | h | h | h | h | h | h | h | h <;> rw [h] <;> decide
  exact T_ret ⟨by simp only; omega, h2.up (by omega)⟩

/-! ### What they cannot give -/
theorem lastTo_mem : ∀ {l : List Span}, l ≠ [] → ∃ s ∈ l, lastTo l = s.To := fun {l} h => by
  obtain ⟨m, s, rfl⟩ : ∃ m s, l = m ++ [s] := ⟨l.dropLast, l.getLast h, (List.dropLast_concat_getLast h).symm⟩
  exact ⟨s, by simp, lastTo_snoc⟩
theorem hw_small {t w : List UInt8} {l : List Span} {r : Int} (ht : t.count 32 ≤ 7) (hs : spOk t l = true) (hw : wordOk w = true) (hd : SpD l) :
    (l ++ nwS l (w.length : Int) r (plW w 0 (splitC 32 t))).length ≤ 12 ∨ ((l ++ nwS l (w.length : Int) r (plW w 0 (splitC 32 t))).length < 50 ∧ (l ++ nwS l (w.length : Int) r (plW w 0 (splitC 32 t))).Pairwise fun a b => keyS a ≤ keyS b) := by
  obtain ⟨s1, s2, s3, s4⟩ := spOk_spec hs
  have hOk := plOk_of (spOk_low hs) hw
  have hc := splitC_cnt (c := 32) t
  have hsum := splitC_sum (c := 32) t
  have hpl := plW_len (w := w) (splitC 32 t) 0
  have hnl := nwS_len (l := l) (n := (w.length : Int)) (r := r) (ps := plW w 0 (splitC 32 t))
  obtain ⟨g1, g2⟩ := spB_pw s3
  obtain ⟨hn, _, _⟩ := word_spec hw
  rw [List.length_append]
  rcases hd with h | ⟨m, s, rfl, hm, hf⟩ | ⟨k, rfl⟩
  · left; omega
  · left
    rw [List.length_append, List.length_singleton]
    by_cases h3 : m.length ≤ 3
    · omega
    by_cases h7 : (nwS (m ++ [s]) (w.length : Int) r (plW w 0 (splitC 32 t))).length ≤ 7
    · omega
    exfalso
    have hne : m ≠ [] := fun e => by rw [e] at h3; simp at h3
    obtain ⟨u, hu, hlt⟩ := lastTo_mem hne
    have hus := (List.pairwise_append.1 g2).2.2 u hu s (List.mem_singleton.2 rfl)
    have gu := g1 u (List.mem_append_left _ hu)
    have gs := g1 s (List.mem_append_right _ (List.mem_singleton.2 rfl))
    have hfe : s.From = u.To := by
      rcases hf with h | h
      · omega
      · rw [h, hlt]
    -- every part is the word, and none of its places is touched
    have hall := plW_all (w := w) (splitC 32 t) 0 (by omega)
    have hrep := plW_rep (w := w) (splitC 32 t) 0 hall
    have h8 : (splitC 32 t).length = 8 := by omega
    rw [h8] at hrep
    have hun : ∀ x ∈ plW w 0 (splitC 32 t), tch (m ++ [s]) x (x + (w.length : Int)) = false := by
      have hfl : (List.filter (fun x => !tch (m ++ [s]) x (x + (w.length : Int))) (plW w 0 (splitC 32 t))).length = (plW w 0 (splitC 32 t)).length := by
        unfold nwS at h7 hnl
        rw [List.length_map] at h7 hnl
        omega
      intro x hx
      have := List.length_filter_eq_length_iff.1 hfl x hx
      simpa using this
    have hT : t.length + 1 = 8 * (w.length + 1) := by
      rw [← hsum, show (splitC 32 t).map (fun p => p.length + 1) = List.replicate 8 (w.length + 1) from List.eq_replicate_iff.2 ⟨by rw [List.length_map, h8], fun b hb => by
        obtain ⟨p, hp, rfl⟩ := List.mem_map.1 hb
        rw [hall p hp]⟩]
      simp
      omega
    have step : ∀ k : Nat, k < 8 → (k : Int) * ((w.length : Int) + 1) ≤ u.To → ((k : Int) + 1) * ((w.length : Int) + 1) ≤ u.To := by
      intro k hk hle
      have hx : 0 + (k : Int) * ((w.length : Int) + 1) ∈ plW w 0 (splitC 32 t) := by
        rw [hrep]
        exact List.mem_map.2 ⟨k, List.mem_range.2 hk, rfl⟩
      have q := hun _ hx
      have q1 := tch_false q (List.mem_append_left _ hu)
      have q2 := tch_false q (List.mem_append_right _ (List.mem_singleton.2 rfl))
      rw [Int.add_mul, Int.one_mul]
      generalize (k : Int) * ((w.length : Int) + 1) = x at hle q1 q2 ⊢
      omega
    have t0 := step 0 (by omega) (by omega)
    have t1 := step 1 (by omega) (by omega)
    have t2 := step 2 (by omega) (by omega)
    have t3 := step 3 (by omega) (by omega)
    have t4 := step 4 (by omega) (by omega)
    have t5 := step 5 (by omega) (by omega)
    have t6 := step 6 (by omega) (by omega)
    have t7 := step 7 (by omega) (by omega)
    omega
  · right
    rw [unitsS_len]
    rw [unitsS_len] at s2
    refine ⟨by omega, ?_⟩
    rw [List.pairwise_append]
    refine ⟨sp_sorted s3, (nwS_pw hOk).imp fun h => by unfold keyS; omega, fun a ha b hb => ?_⟩
    obtain ⟨x, hx, htc, rfl⟩ := nwS_mem hb
    unfold keyS
    have hx0 := (hOk.mem x hx).1
    obtain ⟨i, hi, rfl⟩ := List.mem_map.1 ha
    rw [List.mem_range] at hi
    dsimp only
    by_cases hlt : x < (i : Int)
    · exfalso
      have hu : (⟨(x.toNat : Int), (x.toNat : Int) + 1, 1⟩ : Span) ∈ unitsS k := List.mem_map.2 ⟨x.toNat, List.mem_range.2 (by omega), rfl⟩
      have := tch_false htc hu
      dsimp only at this
      omega
    · omega

/-! ### The law -/
def PlD (t w : List UInt8) : List Int × Bool := bif txtOk t && wordOk w then (plW w 0 (splitC 32 t), true) else ([], false)
theorem txt_low {t : List UInt8} (h : txtOk t = true) : t.all lowsp = true := by
  unfold txtOk at h
  simp only [Bool.and_eq_true] at h
  exact h.2
theorem plDI (t w : List UInt8) (hx : t.length < 1000000) (hww : w.length < 1000000) : M.impl_PlacesOfWord t w = some (PlD t w) := by
  unfold M.impl_PlacesOfWord PlD
  rw [textI t hx, Option.bind_some]
  cases ht : txtOk t
  · rfl
  cases hw : wordOk w
  · simp [wordI w hww, hw]
  simp only [Bool.not_true, cond_false, wordI w hww, hw, Option.bind_some, Bool.or_self, Bool.and_self, cond_true]
  rw [placesI t w hx, Option.bind_some]
theorem plDS (t w : List UInt8) (hx : t.length < 1000000) (hww : w.length < 1000000) : M.spec_PlacesOfWord t w = some (PlD t w) := by
  unfold M.spec_PlacesOfWord PlD
  rw [textS t hx, Option.bind_some]
  cases ht : txtOk t
  · rfl
  cases hw : wordOk w
  · simp [wordS w hww, hw]
  simp only [Bool.not_true, cond_false, wordS w hww, hw, Option.bind_some, Bool.or_self, Bool.and_self, cond_true]
  rw [placesS t w hx (txt_low ht) hw, Option.bind_some]
theorem hwO_mem {t w : List UInt8} {l : List Span} {r : Int} {s : Span} : s ∈ hwO t l w r ↔ s ∈ l ∨ s ∈ nwS l (w.length : Int) r (plW w 0 (splitC 32 t)) := by
  unfold hwO
  rw [(srtP_ok keyS _).1.mem_iff, List.mem_append]
theorem hwO_len {t w : List UInt8} {l : List Span} {r : Int} : (hwO t l w r).length ≤ l.length + (t.length + 1) := by
  unfold hwO
  rw [srtP_len, List.length_append]
  have := nwS_len (l := l) (n := (w.length : Int)) (r := r) (ps := plW w 0 (splitC 32 t))
  have := pl_lt (t := t) (w := w)
  omega
theorem HwD_len {t w : List UInt8} {l : List Span} {r : Int} : (HwD t l w r).1.length ≤ l.length + (t.length + 1) := by
  unfold HwD
  have := hwO_len (t := t) (w := w) (l := l) (r := r)
  cases (spOk t l && wordOk w) && inR r 1 9
  · simp
  · cases spOk t (hwO t l w r)
    · simp
    · simpa using this
def eqSp (a b : Span) : Bool := (a.From == b.From) && ((a.To == b.To) && ((a.Reason == b.Reason) && true))
theorem foundL (t w : List UInt8) (l out : List Span) (r : Int) (b : Bool) (i : Nat) (hi : i < l.length) (hl : l.length < 1000000) (ho : out.length < 1000000) : iterO (M.laws_FnHiddenWords_l1 (t, l, w, r) (out, b) (i : Int)) (false, (0 : Int)) = some (out.any fun s => eqSp s (l.getD i default)) := by
  rw [iter_up (s := (false, (0 : Int))) (step := M.laws_FnHiddenWords_l1 (t, l, w, r) (out, b) (i : Int)) (e := out.any fun s => eqSp s (l.getD i default)) (fun k => ((out.take k).any fun s => eqSp s (l.getD i default), (k : Int))) out.length (by simp) (by omega) (fun k hk => by
    unfold M.laws_FnHiddenWords_l1
    try dsimp only
    rw [decide_eq_true (by omega), cond_true, asrt_pos (fun _ => ⟨by omega, by omega⟩), asrt_pos (fun _ => ⟨by omega, by omega⟩), wrap64_id (by omega) (by omega), Int.toNat_natCast, Int.toNat_natCast, cast_succ, take_succ_getD hk, List.any_append]
    congr 4
    unfold eqSp
    simp) (by
    unfold M.laws_FnHiddenWords_l1
    try dsimp only
    rw [decide_eq_false (by omega), cond_false, List.take_length])]
theorem law_FnHiddenWords (code : List Int) (h1 : code.length ≤ 9223372036854775807) (h2 : ∀ x, x ∈ code → 0 ≤ x ∧ x ≤ 255) : M.laws_FnHiddenWords code = some true := by
  apply T.eq
  unfold M.laws_FnHiddenWords M.laws_vBig
  rw [Option.bind_some]
  refine T_if (fun _ => T_ret rfl) (fun hq => ?_)
  simp only [decide_eq_false_iff_not] at hq
  have hb : Bytes code := ⟨by omega, h2⟩
  have d1 : T (M.spec_DrawHideWord code) (fun r => (r.1.length ≤ 200 ∧ r.1.count 32 ≤ 7) ∧ (r.2.1.length ≤ 20 ∧ SpD r.2.1) ∧ r.2.2.1.length ≤ 10) := by
    unfold M.spec_DrawHideWord
    refine (drawTextN hb good0r (by omega)).then ?_
    rintro ⟨x, c1⟩ ⟨g1, g2⟩
    refine (drawSpansN hb g2 (by omega) _).then ?_
    rintro ⟨l, c2⟩ ⟨g3, g4⟩
    refine (drawWordOf hb g4 (by omega)).then ?_
    rintro ⟨w, c3⟩ ⟨g5, g6⟩
    refine T_among hb g6 (by omega) (by simp) ?_
    intro y c4 _ _
    exact T_ret ⟨g1, g3, g5⟩
  refine d1.then ?_
  rintro ⟨t, l, w, r⟩ ⟨⟨ht, htc⟩, ⟨hl, hld⟩, hw⟩
  simp only at ht htc hl hld hw
  dsimp only
  rw [hwI t l w r (by omega) (by omega) (by omega) (fun a b => hw_small htc a b hld), Option.bind_some, hwS t l w r (by omega) (by omega) (by omega), Option.bind_some]
  have hlen := HwD_len (t := t) (w := w) (l := l) (r := r)
  simp only [beq_self_eq_true, Bool.not_true, cond_false, Bool.false_or]
  rw [vSpans_self _ (by omega), Option.bind_some, Bool.not_true, cond_false]
  refine T.then (Q := fun e => e = .inl ()) ?_ ?_
  · refine T_if (fun ho => ?_) (fun _ => T_ret rfl)
    obtain ⟨e1, e2, e3, e4⟩ : spOk t l = true ∧ wordOk w = true ∧ inR r 1 9 = true ∧ spOk t (hwO t l w r) = true := by
      unfold HwD at ho
      cases a1 : spOk t l <;> cases a2 : wordOk w <;> cases a3 : inR r 1 9 <;> rw [a1, a2, a3] at ho <;> first | (cases ho; done) | skip
      cases a4 : spOk t (hwO t l w r)
      · rw [a4] at ho; cases ho
      · exact ⟨rfl, rfl, rfl, rfl⟩
    have eH : HwD t l w r = (hwO t l w r, true) := by unfold HwD; rw [e1, e2, e3, e4]; rfl
    have ol := hwO_len (t := t) (w := w) (l := l) (r := r)
    rw [eH]
    have eHid : HidW t (hwO t l w r) w = (true, true) := by
      unfold HidW
      rw [e4, e2]
      simp only [Bool.and_self, cond_true, Prod.mk.injEq, and_true]
      rw [List.all_eq_true]
      intro x hx
      have hn := (plOk_of (spOk_low e1) e2).pos
      cases hz : tch l x (x + (w.length : Int))
      · have hm : (⟨x, x + (w.length : Int), r⟩ : Span) ∈ nwS l (w.length : Int) r (plW w 0 (splitC 32 t)) := by
          unfold nwS
          exact List.mem_map.2 ⟨x, List.mem_filter.2 ⟨hx, by rw [hz]; rfl⟩, rfl⟩
        exact tch_true (hwO_mem.2 (.inr hm)) (by dsimp only; omega) (by dsimp only; omega)
      · unfold tch at hz
        obtain ⟨s, q1, q2⟩ := List.any_eq_true.1 hz
        simp only [Bool.and_eq_true, decide_eq_true_eq] at q2
        exact tch_true (hwO_mem.2 (.inl q1)) q2.1 q2.2
    rw [hidWI t _ w (by omega) (by dsimp only; omega) (by omega), Option.bind_some, eHid]
    rw [iter_up (s := (0 : Int)) (step := M.laws_FnHiddenWords_l0 (t, l, w, r) (hwO t l w r, true)) (e := .inl ()) (fun k => (k : Int)) l.length rfl (by omega) (fun k hk => by
      unfold M.laws_FnHiddenWords_l0
      try dsimp only
      rw [decide_eq_true (by omega), cond_true, foundL t w l (hwO t l w r) r true k hk (by omega) (by omega), Option.bind_some]
      have : ((hwO t l w r).any fun s => eqSp s (l.getD k default)) = true := List.any_eq_true.2 ⟨_, hwO_mem.2 (.inl (getD_mem hk)), by unfold eqSp; simp⟩
      rw [this]
      try dsimp only
      rw [Bool.not_true, cond_false, wrap64_id (by omega) (by omega), cast_succ]) (by
      unfold M.laws_FnHiddenWords_l0
      try dsimp only
      rw [decide_eq_false (by omega), cond_false]), Option.bind_some]
    exact T_ret rfl
  rintro _ rfl
  dsimp only
  clear hlen
  have d2 : T (M.spec_DrawIsHidden code) (fun r => r.1.length ≤ 200 ∧ r.2.1.length ≤ 1000 ∧ r.2.2.length ≤ 10) := by
    unfold M.spec_DrawIsHidden
    refine (drawTextN hb good0r (by omega)).then ?_
    rintro ⟨x, c1⟩ ⟨g1, g2⟩
    refine (drawSpansN hb g2 (by omega) _).then ?_
    rintro ⟨l, c2⟩ ⟨g3, g4⟩
    refine (drawWordOf hb g4 (by omega)).then ?_
    rintro ⟨w, c3⟩ ⟨g5, g6⟩
    simp only at g1 g3 g5
    dsimp only
    rw [hwS x l w 1 (by omega) (by omega) (by omega), Option.bind_some]
    have hlen := HwD_len (t := x) (w := w) (l := l) (r := 1)
    refine T.then (Q := fun _ => True) (T_if (fun _ => (one_ok hb g6 (by omega)).mono fun _ _ => trivial) (fun _ => T_ret trivial)) ?_
    rintro ⟨b, c4⟩ _
    exact T_if (fun _ => T_ret ⟨by dsimp only; omega, by dsimp only; omega, by dsimp only; omega⟩) (fun _ => T_ret ⟨by dsimp only; omega, by dsimp only; omega, by dsimp only; omega⟩)
  refine d2.then ?_
  clear htc hld ht hl hw
  rintro ⟨x, l2, w2⟩ ⟨hx, hl, hw⟩
  simp only at hx hl hw
  dsimp only
  rw [hidWI x l2 w2 (by omega) (by omega) (by omega), Option.bind_some, hidWS x l2 w2 (by omega) (by omega) (by omega), Option.bind_some, beq_self_eq_true, beq_self_eq_true, Bool.not_true, Bool.or_self, cond_false]
  have d3 : T (M.spec_DrawPlacesOfWord code) (fun r => r.1.length ≤ 200 ∧ r.2.length ≤ 10) := by
    unfold M.spec_DrawPlacesOfWord
    refine (drawTextN hb good0r (by omega)).then ?_
    rintro ⟨x, c1⟩ ⟨g1, g2⟩
    refine (drawWordOf hb g2 (by omega)).then ?_
    rintro ⟨w, c3⟩ ⟨g5, g6⟩
    exact T_ret ⟨g1.1, g5⟩
  refine d3.then ?_
  clear hx hl hw
  rintro ⟨y, v⟩ ⟨hy, hv⟩
  simp only at hy hv
  dsimp only
  have hpl := pl_lt (t := y) (w := v)
  have pl2 : (PlD y v).1.length < 1000000 := by
    unfold PlD
    cases txtOk y && wordOk v
    · simp
    · simp only [cond_true]; omega
  rw [plDI y v (by omega) (by omega), Option.bind_some, plDS y v (by omega) (by omega), Option.bind_some]
  simp only [beq_self_eq_true, Bool.not_true, cond_false, Bool.false_or]
  rw [vInts_self _ pl2, Option.bind_some, Bool.not_true, cond_false]
  have hlow : ∀ x ∈ (PlD y v).1, (0 ≤ x ∧ x + (v.length : Int) ≤ (y.length : Int) ∧ (y.drop x.toNat).take v.length = v) := by
    unfold PlD
    cases ht : txtOk y <;> cases hw : wordOk v <;> first | (intro x hx; cases hx; done) | skip
    exact pl_mem (txt_low ht) hw
  rw [iter_up (s := (0 : Int)) (step := M.laws_FnHiddenWords_l2 (y, v) (PlD y v)) (e := .inl ()) (fun k => (k : Int)) (PlD y v).1.length rfl (by omega) (fun k hk => by
    have hg := hlow _ (getD_mem hk)
    unfold M.laws_FnHiddenWords_l2
    try dsimp only
    rw [decide_eq_true (by omega), cond_true, Int.toNat_natCast, asrt_pos ⟨by omega, by omega⟩, asrt_pos ⟨by omega, by omega⟩, wrap64_id (n := (PlD y v).1.getD k default + (v.length : Int)) (by omega) (by omega), asrt_pos ⟨by omega, by omega, by omega⟩, slc_drop (by omega) (by omega), show ((PlD y v).1.getD k default + (v.length : Int) - (PlD y v).1.getD k default).toNat = v.length by omega, hg.2.2, beq_self_eq_true, Bool.not_true, cond_false, wrap64_id (by omega) (by omega), cast_succ]) (by
    unfold M.laws_FnHiddenWords_l2
    try dsimp only
    rw [decide_eq_false (by omega), cond_false]), Option.bind_some]
  dsimp only
  refine T.then (Q := fun e => e = .inl ()) ?_ ?_
  · refine T_if (fun ho => ?_) (fun _ => T_ret rfl)
    obtain ⟨e1, e2⟩ : txtOk y = true ∧ wordOk v = true := by
      unfold PlD at ho
      cases a1 : txtOk y <;> cases a2 : wordOk v <;> rw [a1, a2] at ho <;> first | (cases ho; done) | exact ⟨rfl, rfl⟩
    have eP : PlD y v = (plW v 0 (splitC 32 y), true) := by unfold PlD; rw [e1, e2]; rfl
    rw [hidWI y [] v (by omega) (by simp) (by omega), Option.bind_some, eP]
    have eHid : HidW y [] v = (((plW v 0 (splitC 32 y)).length : Int) == 0, true) := by
      unfold HidW
      rw [show spOk y [] = true by unfold spOk; rw [e1]; rfl, e2]
      simp only [Bool.and_self, cond_true, Prod.mk.injEq, and_true]
      cases plW v 0 (splitC 32 y) with
      | nil => rfl
      | cons a b =>
        have : ((((a :: b).length : Nat) : Int) == 0) = false := by rw [beq_eq_false_iff_ne]; simp only [List.length_cons]; omega
        rw [this]
        simp [tch]
    rw [eHid]
    dsimp only
    rw [beq_self_eq_true, Bool.not_true, Bool.or_self, cond_false]
    exact T_ret rfl
  rintro _ rfl
  dsimp only
  have d4 : T (M.spec_DrawIsText code) (fun r => r.length ≤ 200) := by
    unfold M.spec_DrawIsText
    refine (drawTextN hb good0r (by omega)).then ?_
    rintro ⟨x, c1⟩ ⟨g1, g2⟩
    exact T_ret g1.1
  refine d4.then ?_
  intro z hz
  rw [textI z (by omega), Option.bind_some]
  unfold M.spec_IsText
  rw [textS z (by omega), Option.bind_some, Option.bind_some, beq_self_eq_true]
  exact T_ret rfl
end Go.Proofs.YteocnbeefedbkaaDoor
