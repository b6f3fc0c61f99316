/-
  Draws of formats and copies; the plain law of formats. Plain.
-/
import Derived.Test.YteocnbeefedbkaaDoorFp
set_option linter.unusedSimpArgs false
set_option linter.unusedVariables false
namespace Go.Proofs.YteocnbeefedbkaaDoor
open Go.VS

theorem good0f {code : List Int} : Good code 0 (⟨code, 0, 0⟩ : Cur) := ⟨rfl, Int.le_refl _, Int.le_refl _⟩
def FmE (f : Format) : Prop := f.Name.length ≤ 10 ∧ f.Reads.length ≤ 30
def FmD (l : List Format) : Prop := l.length ≤ 30 ∧ ∀ f ∈ l, FmE f
theorem FmD.b {l : List Format} (h : FmD l) : FmB l := ⟨by have := h.1; omega, fun f hf => by have := h.2 f hf; unfold FmE at this; omega⟩
theorem FmE.app {l : List Format} {f : Format} (h : ∀ f ∈ l, FmE f) (hf : FmE f) : ∀ g ∈ l ++ [f], FmE g := by
  intro g hg
  rcases List.mem_append.1 hg with hg | hg
  · exact h g hg
  · rw [List.mem_singleton.1 hg]; exact hf
theorem FmE.upd {l : List Format} {f : Format} {k : Nat} (h : ∀ f ∈ l, FmE f) (hf : FmE f) : ∀ g ∈ l.set k f, FmE g := by
  intro g hg
  rcases List.mem_or_eq_of_mem_set hg with hg | hg
  · exact h g hg
  · rw [hg]; exact hf
theorem toBytes_len {l : List Int} : (toBytes l).length = l.length := by unfold toBytes; simp
theorem fmReads {code : List Int} (hb : Bytes code) (K : Nat) (hK : K < 100000) (l : List Format) (hl : l.length ≤ 20) (c : Cur) (hc : Good code K c) : T (iterO (M.spec_l1Cur_formats_l1 l) ((0 : Int), ([] : List Int), c)) (fun r => r.1.length ≤ 20 ∧ Good code (K + 40) r.2) := by
  refine T_iter (fun s => ∃ m : Nat, s.1 = (m : Int) ∧ m ≤ l.length ∧ s.2.1.length ≤ m ∧ Good code (K + m * 2) s.2.2) (fun s => l.length - s.1.toNat) _ ⟨0, rfl, by omega, by simp, hc.up (by omega)⟩ (by simp only; omega) ?_
  rintro ⟨_, a, c0⟩ ⟨m, rfl, g1, g2, g3⟩
  simp only at g2 g3
  unfold M.spec_l1Cur_formats_l1
  dsimp only
  refine T_if (fun hq => ?_) (fun hq => T_ret ⟨by simp only; omega, g3.up (by omega)⟩)
  simp only [decide_eq_true_eq] at hq
  refine T.then (Q := fun e => e.1.length ≤ m + 1 ∧ Good code (K + (m + 1) * 2) e.2) ?_ ?_
  · refine T_one hb g3 (by omega) ?_
    intro b c1 h1
    refine T_if (fun _ => T_ask ⟨by omega, by omega⟩ (T_ask (by simp; omega) ?_)) (fun _ => T_ret ⟨by simp only; omega, h1.up (by omega)⟩)
    rw [Option.bind_some]
    exact T_ret ⟨by simp; omega, h1.up (by omega)⟩
  · rintro ⟨a2, c9⟩ ⟨a1, a2'⟩
    simp only at a1 a2'
    refine T_ret ?_
    simp only
    rw [wrap64_id (by omega) (by omega)]
    exact ⟨⟨m + 1, by omega, by omega, a1, a2'⟩, by omega⟩
theorem fmLoop0 {code : List Int} (hb : Bytes code) (n : Nat) (hn : n ≤ 7) (c : Cur) (hc : Good code 10 c) : T (iterO (M.spec_l1Cur_formats_l0) (([] : List Format), (0 : Int), (n : Int), c)) (fun r => r.1.length ≤ 7 ∧ (∀ f ∈ r.1, FmE f) ∧ Good code 1000 r.2.2) := by
  refine T_iter (fun s => ∃ m : Nat, s.2.2.1 = (m : Int) ∧ m ≤ 7 ∧ s.1.length + m ≤ 7 ∧ (∀ f ∈ s.1, FmE f) ∧ Good code (10 + (7 - m) * 50) s.2.2.2) (fun s => s.2.2.1.toNat) _ ⟨n, rfl, hn, by simp; omega, fun f hf => absurd hf (by simp), hc.up (by omega)⟩ (by simp only; omega) ?_
  rintro ⟨l, i, _, c0⟩ ⟨m, rfl, g1, g2, g3, g4⟩
  simp only at g2 g3 g4
  unfold M.spec_l1Cur_formats_l0
  dsimp only
  refine T_if (fun hq => ?_) (fun hq => T_ret ⟨by simp only; omega, g3, g4.up (by omega)⟩)
  simp only [decide_eq_true_eq] at hq
  refine T_pick hb g4 (by omega) ?_
  intro x c1 _ _ h1
  refine T_among hb h1 (by omega) (by simp) ?_
  intro y c2 _ h2
  dsimp only
  rw [Option.bind_some]
  refine (fmReads hb _ (by omega) l (by omega) c2 h2).then ?_
  rintro ⟨rs, c3⟩ ⟨h3, h4⟩
  simp only at h3 h4
  refine T_ask (by simp; omega) (T_ret ?_)
  simp only [List.length_append, List.length_singleton]
  rw [wrap64_id (n := (m : Int) - 1) (by omega) (by omega)]
  exact ⟨⟨m - 1, by omega, by omega, by omega, FmE.app g3 ⟨by simp only; rw [toBytes_len]; simp, by simp only; omega⟩, h4.up (by omega)⟩, by omega⟩
theorem fmLoop2 {code : List Int} (hb : Bytes code) (K : Nat) (hK : K < 100000) (l : List Format) (i : Int) (hl : l.length ≤ 20) (hf : ∀ f ∈ l, FmE f) (c : Cur) (hc : Good code K c) : T (iterO (M.spec_l1Cur_formats_l2) (l, i, c)) (fun r => (l.length ≤ r.1.length ∧ r.1.length ≤ 20) ∧ (∀ f ∈ r.1, FmE f) ∧ Good code (K + 50) r.2) := by
  refine T_iter (fun s => (l.length ≤ s.1.length ∧ s.1.length ≤ 20) ∧ (∀ f ∈ s.1, FmE f) ∧ Good code (K + (s.1.length - l.length) * 2) s.2.2) (fun s => 20 - s.1.length) _ ⟨⟨Nat.le_refl _, hl⟩, hf, hc.up (by omega)⟩ (by simp only; omega) ?_
  rintro ⟨a, j, c0⟩ ⟨g1, g2, g3⟩
  simp only at g1 g2 g3
  unfold M.spec_l1Cur_formats_l2
  dsimp only
  refine T_pick hb g3 (by omega) ?_
  intro x c1 _ hx h1
  have hx := hx (by omega)
  dsimp only
  rw [wrap64_id (n := 10 + x) (by omega) (by omega)]
  refine T_if (fun hq => ?_) (fun hq => T_ret ⟨g1, g2, h1.up (by omega)⟩)
  simp only [decide_eq_true_eq] at hq
  refine T_ask (by simp; omega) (T_ret ?_)
  simp only [List.length_append, List.length_singleton]
  exact ⟨⟨⟨by omega, by omega⟩, FmE.app g2 ⟨by simp only; rw [toBytes_len]; simp, by simp⟩, h1.up (by omega)⟩, by omega⟩
theorem drawFms {code : List Int} (hb : Bytes code) : T (M.spec_l1Cur_formats (⟨code, (0 : Int), (0 : Int)⟩ : Cur)) (fun r => FmD r.1 ∧ Good code 3000 r.2) := by
  unfold M.spec_l1Cur_formats
  refine T_pick hb good0f (by omega) ?_
  intro n c0 _ hn h0
  have hn := hn (by omega)
  obtain ⟨m, rfl⟩ : ∃ m : Nat, n = (m : Int) := ⟨n.toNat, by omega⟩
  refine (fmLoop0 hb m (by omega) c0 (h0.up (by omega))).then ?_
  rintro ⟨l, i, c⟩ ⟨g1, g2, g3⟩
  simp only at g1 g2 g3
  dsimp only
  cases he : ((l.length : Int) == 0)
  · rw [cond_false]
    have hne : l.length ≠ 0 := by have := beq_eq_false_iff_ne.1 he; omega
    refine T_pick hb g3 (by omega) ?_
    intro p c1 _ hp h1
    have hp := hp (by omega)
    dsimp only
    have hf := g2 _ (getD_mem (show p.toNat < l.length by omega))
    refine T_ask ⟨by omega, by omega⟩ ?_
    refine T.then (Q := fun e => ((l.length ≤ e.1.length ∧ e.1.length ≤ 20) ∧ (∀ f ∈ e.1, FmE f)) ∧ Good code 2000 e.2.1 ∧ FmE e.2.2) ?_ ?_
    · refine T_pick hb h1 (by omega) ?_
      intro q c2 _ _ h2
      dsimp only
      have hl : (l.length ≤ l.length ∧ l.length ≤ 20) ∧ (∀ f ∈ l, FmE f) := ⟨⟨Nat.le_refl _, by omega⟩, g2⟩
      refine T.then (Q := fun e => ((l.length ≤ e.1.length ∧ e.1.length ≤ 20) ∧ (∀ f ∈ e.1, FmE f)) ∧ (e.2.2.1.length ≤ 10 ∧ e.2.2.2.2.1.length ≤ 30) ∧ Good code 2000 e.2.2.2.2.2) ?_ ?_
      · refine T_if (fun _ => ?_) (fun _ => T_if (fun _ => ?_) (fun _ => T_if (fun _ => ?_) (fun _ => T_if (fun _ => ?_) (fun _ => T_if (fun _ => ?_) (fun _ => ?_)))))
        · refine T_among hb h2 (by omega) (by simp) ?_
          intro x c3 _ h3
          exact T_ret ⟨hl, hf, h3.up (by omega)⟩
        · refine (of_ok hb h2 (by omega) (by simp)).then ?_
          rintro ⟨x, c3⟩ ⟨hx, h3⟩
          simp only at hx h3
          refine T_ret ⟨hl, ⟨?_, hf.2⟩, h3.up (by omega)⟩
          simp only [List.mem_cons, List.not_mem_nil, or_false] at hx
          rcases hx with rfl | rfl | rfl <;> simp
        · refine T_among hb h2 (by omega) (by simp) ?_
          intro x c3 _ h3
          exact T_ret ⟨hl, hf, h3.up (by omega)⟩
        · refine T_among hb h2 (by omega) (by simp) ?_
          intro x c3 _ h3
          exact T_ret ⟨hl, ⟨hf.1, by simp⟩, h3.up (by omega)⟩
        · refine (fmLoop2 hb _ (by omega) l i (by omega) g2 c2 h2).then ?_
          rintro ⟨l2, c3⟩ ⟨q1, q2, q3⟩
          exact T_ret ⟨⟨q1, q2⟩, hf, q3.up (by omega)⟩
        · refine T.then (Q := fun _ => True) ?_ ?_
          · exact T_if (fun _ => T_ret trivial) (fun _ => T_if (fun _ => T_ret trivial) (fun _ => T_if (fun _ => T_ret trivial) (fun _ => T_if (fun _ => T_ret trivial) (fun _ => T_if (fun _ => T_ret trivial) (fun _ => T_ret trivial)))))
          · intro v _
            refine T_if (fun _ => ?_) (fun _ => T_ret ⟨hl, hf, h2.up (by omega)⟩)
            rw [wrap64_id (n := p + 1) (by omega) (by omega)]
            refine T_if (fun hq => ?_) (fun _ => T_ret ⟨hl, hf, h2.up (by omega)⟩)
            simp only [decide_eq_true_eq] at hq
            exact T_ask ⟨by omega, by omega⟩ (T_ret ⟨hl, ⟨hf.1, by simp⟩, h2.up (by omega)⟩)
      · rintro ⟨l2, a, b, u, rs, c9⟩ ⟨q1, q2, q3⟩
        exact T_ret ⟨q1, q3, q2⟩
    · rintro ⟨l2, c9, f⟩ ⟨⟨q1, q2⟩, q3, q4⟩
      simp only at q1 q2 q3 q4
      refine T_ask ⟨by omega, by show p < (l2.length : Int); omega⟩ (T_ret ⟨⟨by simp only [List.length_set]; omega, FmE.upd q2 q4⟩, q3.up (by omega)⟩)
  · exact T_ret ⟨⟨by simp only; omega, g2⟩, g3.up (by omega)⟩
theorem drawFmId {code : List Int} {k : Nat} {c : Cur} (hb : Bytes code) (l : List Format) (hl : l.length ≤ 1000) (h : Good code k c) (hk : k < 1000000) : T (M.spec_l1Cur_formatId c l) (fun r => Good code (k + 4) r.2) := by
  unfold M.spec_l1Cur_formatId
  cases he : ((l.length : Int) == 0)
  · have hne : l.length ≠ 0 := by have := beq_eq_false_iff_ne.1 he; omega
    rw [cond_false]
    refine T_one hb h (by omega) ?_
    intro b c1 h1
    dsimp only
    rw [Bool.false_or, cond_false]
    refine T_if (fun _ => ?_) (fun _ => ?_)
    · refine T_among hb h1 (by omega) (by simp) ?_
      intro x c2 _ h2
      exact T_ret (h2.up (by omega))
    · refine T_pick hb h1 (by omega) ?_
      intro x c2 _ hx h2
      have hx := hx (by omega)
      exact T_ask ⟨by simp only; omega, by simp only; omega⟩ (T_ret (h2.up (by omega)))
  · rw [cond_true, Option.bind_some, Bool.true_or, cond_true, cond_true]
    refine T_among hb h (by omega) (by simp) ?_
    intro x c2 _ h2
    exact T_ret (h2.up (by omega))
theorem slcNe {β : Type} {l : List β} {j : Int} (h0 : 0 < j) (h1 : j ≤ (l.length : Int)) : slc l 0 j ≠ [] := by
  intro e
  have := congrArg List.length e
  unfold slc at this
  simp only [List.length_drop, List.length_take, List.length_nil] at this
  omega
theorem div_range {x d : Int} (hx : 0 ≤ x) (hd : 0 < d) (n : Int) (h : x < n * d + d) : 0 ≤ Int.tdiv x d ∧ Int.tdiv x d ≤ n := by
  rw [Int.tdiv_eq_ediv_of_nonneg hx]
  refine ⟨Int.ediv_nonneg hx (by omega), ?_⟩
  have : x / d < n + 1 := Int.ediv_lt_of_lt_mul hd (by rw [Int.add_mul, Int.one_mul]; exact h)
  omega
theorem drawDay7 {code : List Int} {k : Nat} {c : Cur} (hb : Bytes code) (h : Good code k c) (hk : k < 1000000) : T (M.spec_l1Cur_day7 c) (fun r => (-1 ≤ r.1 ∧ r.1 ≤ 20001) ∧ Good code (k + 4) r.2) := by
  unfold M.spec_l1Cur_day7
  refine T_pick hb h (by omega) ?_
  intro x c1 _ hx h1
  have hx := hx (by omega)
  dsimp only
  obtain ⟨d1, d2⟩ := div_range (d := 11) hx.1 (by omega) 2 (by omega)
  rw [wrap64_id (n := Int.tdiv x 11) (by omega) (by omega), wrap64_id (n := 6 + Int.tdiv x 11) (by omega) (by omega)]
  refine T_ask ⟨by omega, by omega, by simp; omega⟩ ?_
  refine T_among hb h1 (by omega) (slcNe (by omega) (by simp; omega)) ?_
  intro y c2 hy h2
  refine T_ret ⟨?_, h2.up (by omega)⟩
  have := slc_mem hy
  simp only [List.mem_cons, List.not_mem_nil, or_false] at this
  simp only
  omega
end Go.Proofs.YteocnbeefedbkaaDoor
