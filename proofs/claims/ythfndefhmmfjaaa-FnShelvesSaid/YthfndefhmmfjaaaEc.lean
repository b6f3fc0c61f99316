/-
  Draws of cartons; the plain law of shelves. Plain.
-/
import Derived.Test.YthfndefhmmfjaaaEb
set_option linter.unusedSimpArgs false
set_option linter.unusedVariables false
namespace Go.Proofs.Ythfndefhmmfjaaa
open Go.VS

theorem good0e {code : List Int} : Good code 0 (⟨code, 0, 0⟩ : Cur) := ⟨rfl, Int.le_refl _, Int.le_refl _⟩
def FlB (l : List Carton) : Prop := ∀ c ∈ l, c.Files.length ≤ 20
def CtD (l : List Carton) : Prop := l.length ≤ 16 ∧ FlB l
theorem FlB.nil : FlB [] := fun _ h => absurd h (by simp)
theorem FlB.app {t : List Carton} {f : Carton} (h : FlB t) (hf : f.Files.length ≤ 20) : FlB (t ++ [f]) := by
  intro x hx
  rcases List.mem_append.1 hx with q | q
  · exact h x q
  · rw [List.mem_singleton.1 q]; exact hf
theorem CtD.b {t : List Carton} (h : CtD t) : Small t := ⟨by have := h.1; omega, fun f hf => by have := h.2 f hf; omega⟩

theorem drawCarton {code : List Int} {k : Nat} {c : Cur} (hb : Bytes code) (i first : Int) (h : Good code k c) (hk : k < 100000) : T (M.spec_l1Cur_carton c i first) (fun r => r.1.Files.length ≤ 20 ∧ Good code (k + 80) r.2) := by
  unfold M.spec_l1Cur_carton
  refine T_among hb h (by omega) (by simp) ?_
  intro x1 c1 _ h1
  refine T_among hb h1 (by omega) (by simp) ?_
  intro x2 c2 _ h2
  refine T_among hb h2 (by omega) (by simp) ?_
  intro x3 c3 _ h3
  refine T_pick hb h3 (by omega) ?_
  intro n c4 _ hn h4
  have hn := hn (by omega)
  obtain ⟨n', rfl⟩ := Int.eq_ofNat_of_zero_le hn.1
  dsimp only
  refine T.then (Q := fun e => e.2.1.length ≤ 5 ∧ Good code (k + 20) e.2.2) (T_iter (fun s => ∃ m : Nat, s.2.1 = (m : Int) ∧ m ≤ 5 ∧ s.2.2.1.length + m ≤ 5 ∧ Good code (k + 8 + (5 - m) * 2) s.2.2.2) (fun s => s.2.1.toNat) _ ⟨n', rfl, by omega, by simp; omega, h4.up (by omega)⟩ (by simp only; omega) ?_) ?_
  · rintro ⟨f1, _, fs, c5⟩ ⟨m, rfl, g1, g2, g3⟩
    simp only at g2 g3
    unfold M.spec_l1Cur_carton_l0
    dsimp only
    refine T_if (fun hq => ?_) (fun hq => T_ret ⟨by simp only; omega, g3.up (by omega)⟩)
    simp only [decide_eq_true_eq] at hq
    refine T_ask (by simp; omega) ?_
    refine T_pick hb g3 (by omega) ?_
    intro x c6 _ _ h6
    refine T_ret ?_
    simp only
    rw [wrap64_id (n := (m : Int) - 1) (by omega) (by omega)]
    exact ⟨⟨m - 1, by omega, by omega, by simp; omega, h6.up (by omega)⟩, by omega⟩
  · rintro ⟨f0, fs, c5⟩ ⟨g1, g2⟩
    simp only at g1 g2
    dsimp only
    refine T_pick hb g2 (by omega) ?_
    intro x6 c6 _ _ h6
    dsimp only
    refine T.then (Q := fun e => e.2.2.2.1.length ≤ 20 ∧ Good code (k + 80) e.2.2.2.2.2) ?_ ?_
    · refine T_if (fun _ => ?_) (fun _ => T_if (fun _ => ?_) (fun _ => T_if (fun _ => ?_) (fun _ => T_if (fun _ => ?_) (fun _ => T_if (fun _ => ?_) (fun _ => T_if (fun _ => ?_) (fun _ => T_ret ⟨by simp only; omega, h6.up (by omega)⟩))))))
      · refine T_among hb h6 (by omega) (by simp) ?_
        intro x8 c8 _ h8
        exact T_ret ⟨by simp only; omega, h8.up (by omega)⟩
      · refine T_among hb h6 (by omega) (by simp) ?_
        intro x8 c8 _ h8
        exact T_ret ⟨by simp only; omega, h8.up (by omega)⟩
      · refine T_among hb h6 (by omega) (by simp) ?_
        intro x8 c8 _ h8
        exact T_ret ⟨by simp only; omega, h8.up (by omega)⟩
      · refine T_among hb h6 (by omega) (by simp) ?_
        intro x8 c8 _ h8
        exact T_ret ⟨by simp only; omega, h8.up (by omega)⟩
      · refine T_among hb h6 (by omega) (by simp) ?_
        intro x8 c8 _ h8
        refine T_ask (by simp; omega) ?_
        rw [Option.bind_some]
        exact T_ret ⟨by simp; omega, h8.up (by omega)⟩
      · refine T.then (Q := fun e => e.1.length ≤ 20 ∧ Good code (k + 80) e.2) (T_iter (fun s => s.2.1.length ≤ 13 ∧ Good code (k + 30 + s.2.1.length * 2) s.2.2) (fun s => 13 - s.2.1.length) _ ⟨by simp only; omega, h6.up (by omega)⟩ (by simp only; omega) ?_) ?_
        · rintro ⟨f2, fs2, c7⟩ ⟨a1, a2⟩
          simp only at a1 a2
          unfold M.spec_l1Cur_carton_l1
          dsimp only
          refine T_pick hb a2 (by omega) ?_
          intro y c8 _ hy h8
          have hy := hy (by omega)
          dsimp only
          rw [wrap64_id (n := 12 + y) (by omega) (by omega)]
          refine T_if (fun hq => ?_) (fun hq => T_ret ⟨by simp only; omega, h8.up (by omega)⟩)
          simp only [decide_eq_true_eq] at hq
          refine T_ask (by simp; omega) (T_ret ?_)
          simp only [List.length_append, List.length_singleton]
          exact ⟨⟨by omega, h8.up (by omega)⟩, by omega⟩
        · rintro ⟨fs3, c8⟩ h8
          exact T_ret h8
    · rintro ⟨a, b, d, e, f, g⟩ ⟨a1, a2⟩
      exact T_ret ⟨a1, a2⟩

theorem cartonsLoop0 {code : List Int} (hb : Bytes code) (K : Nat) (hK : K < 1000) (n : Nat) (hn : n ≤ 6) (c : Cur) (hc : Good code K c) : T (iterO (M.spec_l1Cur_cartons_l0) (([] : List Carton), (0 : Int), (n : Int), c)) (fun r => CtD r.1 ∧ Good code (K + 600) r.2) := by
  refine T_iter (fun s => ∃ m : Nat, s.2.2.1 = (m : Int) ∧ m ≤ 6 ∧ s.1.length + m ≤ 6 ∧ FlB s.1 ∧ Good code (K + (6 - m) * 100) s.2.2.2) (fun s => s.2.2.1.toNat) _ ⟨n, rfl, hn, by simp; omega, FlB.nil, hc.up (by omega)⟩ (by simp only; omega) ?_
  rintro ⟨out, id_, _, c0⟩ ⟨m, rfl, g1, g2, g3, g4⟩
  simp only at g2 g3 g4
  unfold M.spec_l1Cur_cartons_l0
  dsimp only
  refine T_if (fun hq => ?_) (fun hq => ?_)
  · simp only [decide_eq_true_eq] at hq
    obtain ⟨m', rfl⟩ : ∃ m', m = m' + 1 := ⟨m - 1, by omega⟩
    refine T.then (Q := fun e => e.1.length + m' ≤ 6 ∧ FlB e.1 ∧ Good code (K + (6 - m') * 100) e.2.2) ?_ ?_
    · refine T_pick hb g4 (by omega) ?_
      intro x1 c2 _ _ h2
      dsimp only
      refine T_ask (by simp; omega) ?_
      refine T_pick hb h2 (by omega) ?_
      intro x2 c3 _ _ h3
      dsimp only
      refine (drawCarton hb _ _ h3 (by omega)).then ?_
      rintro ⟨f0, c4⟩ ⟨r1, r2⟩
      simp only at r1 r2
      dsimp only
      have hl0 : (([] : List Carton) ++ out ++ [f0]).length = out.length + 1 := by simp
      have hnb : FlB ([] ++ out ++ [f0]) := FlB.app g3 r1
      refine T_ask (by simp; omega) ?_
      rw [e_l18Good ⟨by omega, fun f hf => by have := hnb f hf; omega⟩, Option.bind_some]
      cases good ([] ++ out ++ [f0])
      · rw [cond_false]
        refine T_one hb r2 (by omega) ?_
        intro b7 c7 h7
        dsimp only
        rw [Bool.false_or, cond_false]
        exact T_if (fun _ => T_ret ⟨by simp only [hl0]; omega, hnb, h7.up (by omega)⟩) (fun _ => T_ret ⟨by simp only; omega, g3, h7.up (by omega)⟩)
      · rw [cond_true, Option.bind_some, Bool.true_or, cond_true, cond_true]
        exact T_ret ⟨by simp only [hl0]; omega, hnb, r2.up (by omega)⟩
    · rintro ⟨o, i, c9⟩ ⟨a1, a2, a3⟩
      simp only at a1 a2 a3
      refine T_ret ?_
      simp only
      rw [wrap64_id (by omega) (by omega)]
      exact ⟨⟨m', by omega, by omega, a1, a2, a3⟩, by omega⟩
  · exact T_ret ⟨⟨by simp only; omega, g3⟩, g4.up (by omega)⟩

theorem cartonsLoop1 {code : List Int} (hb : Bytes code) (K : Nat) (hK : K < 10000) (c : Cur) (hc : Good code K c) : T (iterO (M.spec_l1Cur_cartons_l1) (([] : List Carton), (0 : Int), c)) (fun r => CtD r.1 ∧ Good code (K + 40) r.2) := by
  refine T_iter (fun s => ∃ m : Nat, s.2.1 = (m : Int) ∧ m ≤ 11 ∧ s.1.length = m ∧ FlB s.1 ∧ Good code (K + m * 2) s.2.2) (fun s => 11 - s.2.1.toNat) _ ⟨0, rfl, by omega, by simp, FlB.nil, hc.up (by omega)⟩ (by simp only; omega) ?_
  rintro ⟨out, _, c0⟩ ⟨m, rfl, g1, g2, g3, g4⟩
  simp only at g2 g3 g4
  unfold M.spec_l1Cur_cartons_l1
  dsimp only
  refine T_pick hb g4 (by omega) ?_
  intro x c1 _ hx h1
  have hx := hx (by omega)
  dsimp only
  rw [wrap64_id (n := 10 + x) (by omega) (by omega)]
  refine T_if (fun hq => ?_) (fun hq => ?_)
  · simp only [decide_eq_true_eq] at hq
    refine T_ask (by simp; omega) (T_ret ?_)
    simp only
    rw [wrap64_id (n := (m : Int) + 1) (by omega) (by omega)]
    exact ⟨⟨m + 1, by omega, by omega, by simp; omega, FlB.app g3 (by simp), h1.up (by omega)⟩, by omega⟩
  · exact T_ret ⟨⟨by simp only; omega, g3⟩, h1.up (by omega)⟩

theorem drawCartons {code : List Int} (hb : Bytes code) : T (M.spec_l1Cur_cartons (⟨code, (0 : Int), (0 : Int)⟩ : Cur)) (fun r => CtD r.1 ∧ Good code 1000 r.2) := by
  unfold M.spec_l1Cur_cartons
  refine T_pick hb good0e (by omega) ?_
  intro n c1 _ hn h1
  have hn := hn (by omega)
  obtain ⟨n', rfl⟩ := Int.eq_ofNat_of_zero_le hn.1
  refine (cartonsLoop0 hb 2 (by omega) n' (by omega) c1 h1).then ?_
  rintro ⟨o, c2⟩ ⟨g1, g2⟩
  dsimp only
  refine T_one hb g2 (by omega) ?_
  intro b c3 h3
  refine T_if (fun _ => ?_) (fun _ => T_ret ⟨g1, h3.up (by omega)⟩)
  refine (cartonsLoop1 hb (2 + 600 + 2) (by omega) c3 h3).then ?_
  rintro ⟨o2, c4⟩ ⟨q1, q2⟩
  exact T_ret ⟨q1, q2.up (by omega)⟩

/-- A pick among a list's beginning. -/
theorem T_some11 {β : Type} {code : List Int} {k : Nat} {c : Cur} {Q : β → Prop} {l : List Int} {n : Int} {f : Int × Cur → Option β} (hb : Bytes code) (h : Good code k c) (hk : k < 700000000) (hn : 0 < n ∧ n + 2 ≤ (l.length : Int)) (hl : l.length ≤ 100) (hf : ∀ x c', Good code (k + 4) c' → T (f (x, c')) Q) :
    T ((M.spec_l1Cur_pick c (24 : Int)).bind fun y1 => asrt ((0 : Int) ≤ (0 : Int) ∧ (0 : Int) ≤ (IntKind.i64.wrap (n + (IntKind.i64.wrap (Int.tdiv y1.1 (11 : Int))))) ∧ (IntKind.i64.wrap (n + (IntKind.i64.wrap (Int.tdiv y1.1 (11 : Int))))) ≤ (l.length : Int)) <| (M.spec_l1Cur_among y1.2 (slc l (0 : Int) (IntKind.i64.wrap (n + (IntKind.i64.wrap (Int.tdiv y1.1 (11 : Int))))))).bind f) Q := by
  refine T_pick hb h (by omega) ?_
  intro x c1 _ hx h1
  have hx := hx (by omega)
  have hd : 0 ≤ Int.tdiv x 11 ∧ Int.tdiv x 11 ≤ 2 := by
    rw [Int.tdiv_eq_ediv_of_nonneg hx.1]; omega
  dsimp only
  rw [wrap64_id (n := Int.tdiv x 11) (by omega) (by omega), wrap64_id (n := n + Int.tdiv x 11) (by omega) (by omega)]
  refine T_ask ⟨by omega, by omega, by omega⟩ ?_
  refine T_among hb h1 (by omega) ?_ ?_
  · intro e
    have : (slc l 0 (n + Int.tdiv x 11)).length = (n + Int.tdiv x 11).toNat := by
      unfold slc
      simp only [Int.toNat_zero, List.drop_zero, List.length_take]
      omega
    rw [e] at this
    simp at this
    omega
  · intro y c2 _ h2
    exact hf y c2 (h2.up (by omega))

theorem drawPull {code : List Int} (hb : Bytes code) : T (M.spec_DrawPullList code) (fun r => CtD r.1 ∧ r.2.length ≤ 21) := by
  unfold M.spec_DrawPullList
  refine (drawCartons hb).then ?_
  rintro ⟨l, c1⟩ ⟨g1, g2⟩
  simp only at g1 g2
  have hl16 := g1.1
  dsimp only
  refine T.then (Q := fun e => e.1.length ≤ 20 ∧ Good code 2000 e.2) (T_iter (fun s => ∃ m : Nat, s.2.1 = (m : Int) ∧ m ≤ l.length ∧ s.1.length ≤ 20 ∧ Good code (1000 + m * 60) s.2.2) (fun s => l.length - s.2.1.toNat) _ ⟨0, rfl, by omega, by simp, g2.up (by omega)⟩ (by simp only; omega) ?_) ?_
  · rintro ⟨fs, _, c0⟩ ⟨m, rfl, a1, a2, a3⟩
    simp only at a2 a3
    unfold M.spec_DrawPullList_l0
    dsimp only
    refine T_if (fun hq => ?_) (fun hq => T_ret ⟨a2, a3.up (by omega)⟩)
    simp only [decide_eq_true_eq] at hq
    have hm : m < l.length := by omega
    have hF := g1.2 _ (getD_mem hm)
    refine T.then (Q := fun e => e.1.length ≤ 20 ∧ Good code (1000 + (m + 1) * 60) e.2) (T_iter (fun s => ∃ k : Nat, s.2.1 = (k : Int) ∧ k ≤ (l.getD m default).Files.length ∧ s.1.length ≤ 20 ∧ Good code (1000 + m * 60 + k * 2) s.2.2) (fun s => (l.getD m default).Files.length - s.2.1.toNat) _ ⟨0, rfl, by omega, a2, a3.up (by omega)⟩ (by simp only; omega) ?_) ?_
    · rintro ⟨fs2, _, c2⟩ ⟨k, rfl, b1, b2, b3⟩
      simp only at b2 b3
      unfold M.spec_DrawPullList_l1
      dsimp only
      rw [Int.toNat_natCast]
      refine T_ask ⟨by omega, by omega⟩ (T_if (fun hq2 => ?_) (fun hq2 => T_ret ⟨b2, b3.up (by omega)⟩))
      simp only [decide_eq_true_eq] at hq2
      refine T.then (Q := fun e => e.1.length ≤ 20 ∧ Good code (1000 + m * 60 + (k + 1) * 2) e.2) ?_ ?_
      · refine T_one hb b3 (by omega) ?_
        intro b c3 h3
        dsimp only
        refine T_if (fun hc => ?_) (fun _ => T_ret ⟨b2, h3.up (by omega)⟩)
        simp only [Bool.and_eq_true, decide_eq_true_eq] at hc
        exact T_ask ⟨by omega, by omega⟩ (T_ask ⟨by omega, by omega⟩ (T_ask (by simp; omega) (T_ret ⟨by simp; omega, h3.up (by omega)⟩)))
      · rintro ⟨fs3, c3⟩ ⟨d1, d2⟩
        simp only at d1 d2
        refine T_ret ?_
        simp only
        rw [wrap64_id (by omega) (by omega)]
        exact ⟨⟨k + 1, by omega, by omega, d1, d2⟩, by omega⟩
    · rintro ⟨fs3, c3⟩ ⟨d1, d2⟩
      simp only at d1 d2
      refine T_ret ?_
      simp only
      rw [wrap64_id (by omega) (by omega)]
      exact ⟨⟨m + 1, by omega, by omega, d1, d2⟩, by omega⟩
  · rintro ⟨fs, c2⟩ ⟨a1, a2⟩
    simp only at a1 a2
    dsimp only
    refine T.then (Q := fun e => e.1.length ≤ 21) ?_ ?_
    · refine T_one hb a2 (by omega) ?_
      intro b c3 h3
      refine T_if (fun _ => ?_) (fun _ => T_ret (by simp only; omega))
      refine T_among hb h3 (by omega) (by simp) ?_
      intro x c4 _ _
      exact T_ask (by simp; omega) (T_ret (by simp; omega))
    · rintro ⟨fs2, c3⟩ h3
      exact T_ret ⟨g1, h3⟩

/-! ### The law -/
theorem rIntsE (a : List Int) (hl : a.length < 1000000000) : M.laws_rInts a a = some true := by
  unfold M.laws_rInts
  rw [bne_self_eq_false, cond_false]
  rw [iter_up (s := 0) (step := M.laws_rInts_l0 a a) (e := .inl ()) (fun k => (k : Int)) a.length rfl (by omega) (fun k hk => by
    unfold M.laws_rInts_l0
    simp (disch := first | omega | (intros; simp only [decide_eq_true_eq, decide_eq_false_iff_not, Bool.not_eq_true, Bool.not_eq_false, Bool.not_true, Bool.not_false] at *; omega)) only [cast_succ, asrt_pos, wrap64_id, Option.bind_some, cond_true, cond_false, decide_eq_true, decide_eq_false, Int.toNat_natCast, Bool.not_true, Bool.not_false, Bool.and_true, Bool.true_and, Bool.and_false, Bool.false_and, Bool.or_true, Bool.true_or, Bool.or_false, Bool.false_or, bne_self_eq_false]) (by
    unfold M.laws_rInts_l0
    simp (disch := first | omega | (intros; simp only [decide_eq_true_eq, decide_eq_false_iff_not, Bool.not_eq_true, Bool.not_eq_false, Bool.not_true, Bool.not_false] at *; omega)) only [cast_succ, asrt_pos, wrap64_id, Option.bind_some, cond_true, cond_false, decide_eq_true, decide_eq_false, Int.toNat_natCast, Bool.not_true, Bool.not_false, Bool.and_true, Bool.true_and, Bool.and_false, Bool.false_and, Bool.or_true, Bool.true_or, Bool.or_false, Bool.false_or])]
  rfl
theorem rHasE (m : List Int) (x : Int) (hl : m.length < 1000000) : M.laws_rHas m x = some (m.any fun y => y == x) := by
  unfold M.laws_rHas
  rw [iter_any (step := M.laws_rHas_l0 m x) (s := 0) (fun k => (k : Int)) m.length (fun k => m.getD k default == x) (.inr true) (.inl ()) rfl (by omega)
    (fun k hk hp => by
      unfold M.laws_rHas_l0
      simp (disch := first | omega | (intros; simp only [decide_eq_true_eq, decide_eq_false_iff_not, Bool.not_eq_true, Bool.not_eq_false, Bool.not_true, Bool.not_false] at *; omega)) only [cast_succ, asrt_pos, wrap64_id, Option.bind_some, cond_true, cond_false, decide_eq_true, decide_eq_false, Int.toNat_natCast, Bool.not_true, Bool.not_false, Bool.and_true, Bool.true_and, Bool.and_false, Bool.false_and, Bool.or_true, Bool.true_or, Bool.or_false, Bool.false_or, hp])
    (fun k hk hp => by
      unfold M.laws_rHas_l0
      simp (disch := first | omega | (intros; simp only [decide_eq_true_eq, decide_eq_false_iff_not, Bool.not_eq_true, Bool.not_eq_false, Bool.not_true, Bool.not_false] at *; omega)) only [cast_succ, asrt_pos, wrap64_id, Option.bind_some, cond_true, cond_false, decide_eq_true, decide_eq_false, Int.toNat_natCast, Bool.not_true, Bool.not_false, Bool.and_true, Bool.true_and, Bool.and_false, Bool.false_and, Bool.or_true, Bool.true_or, Bool.or_false, Bool.false_or, hp])
    (by
      unfold M.laws_rHas_l0
      simp (disch := first | omega | (intros; simp only [decide_eq_true_eq, decide_eq_false_iff_not, Bool.not_eq_true, Bool.not_eq_false, Bool.not_true, Bool.not_false] at *; omega)) only [cast_succ, asrt_pos, wrap64_id, Option.bind_some, cond_true, cond_false, decide_eq_true, decide_eq_false, Int.toNat_natCast, Bool.not_true, Bool.not_false, Bool.and_true, Bool.true_and, Bool.and_false, Bool.false_and, Bool.or_true, Bool.true_or, Bool.or_false, Bool.false_or]), ← any_getD (p := fun y => y == x)]
  cases m.any fun y => y == x <;> rfl
theorem rowsF_row {l : List Carton} : ∀ row ∈ rowsF l 9, row.length = 3 := by
  intro row h
  obtain ⟨r, _, h⟩ := List.mem_flatMap.1 h
  unfold rowOf at h
  cases hd : decide ((roomF l ((r : Int) + 1)).1 > 0)
  · rw [hd] at h; simp at h
  · rw [hd, cond_true, List.mem_singleton] at h; rw [h]; rfl
theorem rTableE (a : List (List Int)) (hl : a.length < 1000000) (hr : ∀ x ∈ a, x.length < 1000000) : M.laws_rTable a a = some true := by
  unfold M.laws_rTable
  rw [bne_self_eq_false, cond_false]
  rw [iter_up (s := 0) (step := M.laws_rTable_l0 a a) (e := .inl ()) (fun k => (k : Int)) a.length rfl (by omega) (fun k hk => by
    have := rIntsE (a.getD k default) (by have := hr _ (getD_mem hk); omega)
    unfold M.laws_rTable_l0
    simp (disch := first | omega | (intros; simp only [decide_eq_true_eq, decide_eq_false_iff_not, Bool.not_eq_true, Bool.not_eq_false, Bool.not_true, Bool.not_false] at *; omega)) only [cast_succ, asrt_pos, wrap64_id, Option.bind_some, cond_true, cond_false, decide_eq_true, decide_eq_false, Int.toNat_natCast, Bool.not_true, Bool.not_false, Bool.and_true, Bool.true_and, Bool.and_false, Bool.false_and, Bool.or_true, Bool.true_or, Bool.or_false, Bool.false_or, this]) (by
    unfold M.laws_rTable_l0
    simp (disch := first | omega | (intros; simp only [decide_eq_true_eq, decide_eq_false_iff_not, Bool.not_eq_true, Bool.not_eq_false, Bool.not_true, Bool.not_false] at *; omega)) only [cast_succ, asrt_pos, wrap64_id, Option.bind_some, cond_true, cond_false, decide_eq_true, decide_eq_false, Int.toNat_natCast, Bool.not_true, Bool.not_false, Bool.and_true, Bool.true_and, Bool.and_false, Bool.false_and, Bool.or_true, Bool.true_or, Bool.or_false, Bool.false_or])]
  rfl

theorem shelfLoop (l : List Carton) (r t best : Int) (hl : Small l) (hg : good l = true) (hr : inB r 1 9 = true) (hb : ∀ s : Nat, 1 ≤ s → s ≤ 30 → taken l r (s : Int) + t ≤ 100 → taken l r (s : Int) ≤ taken l r best) : iterO (M.laws_FnShelves_l0 (l, r, t) (100 - taken l r best, true)) (1 : Int) = some (.inl ()) := by
  refine iter_up (s := 1) (fun k => ((k + 1 : Nat) : Int)) 30 rfl (by omega) (fun k hk => ?_) ?_
  · have hs : inB ((k + 1 : Nat) : Int) 1 30 = true := by rw [inB_true]; omega
    have hF : FreeD l r ((k + 1 : Nat) : Int) = (100 - taken l r ((k + 1 : Nat) : Int), true) := by unfold FreeD; rw [hg, hr, hs]; rfl
    have hq := hb (k + 1) (by omega) (by omega)
    unfold M.laws_FnShelves_l0
    dsimp only
    rw [decide_eq_true (by omega), cond_true, freeOnI l r _ hl, Option.bind_some, hF]
    dsimp only
    have e : (decide (100 - taken l r ((k + 1 : Nat) : Int) ≥ t) && decide (100 - taken l r ((k + 1 : Nat) : Int) < 100 - taken l r best)) = false := by
      by_cases h : taken l r ((k + 1 : Nat) : Int) + t ≤ 100
      · have := hq h
        rw [decide_eq_false (show ¬ 100 - taken l r ((k + 1 : Nat) : Int) < 100 - taken l r best by omega), Bool.and_false]
      · rw [decide_eq_false (show ¬ 100 - taken l r ((k + 1 : Nat) : Int) ≥ t by omega), Bool.false_and]
    rw [e, Bool.not_true, Bool.or_self, cond_false, wrap64_id (by omega) (by omega)]
    rfl
  · unfold M.laws_FnShelves_l0
    rfl

theorem pullLoop (l : List Carton) (files : List Int) (res : List Int × Bool) (hl : Small l) (hf : files.length ≤ 1000) (hlen : res.1.length < 1000000) (h : res.2 = true → good l = true ∧ ∀ j, j < files.length → 0 ≤ idx l (files.getD j default) ∧ (atI l (idx l (files.getD j default))).Id ∈ res.1) : iterO (M.laws_FnShelves_l1 (l, files) res) (0 : Int) = some (.inl ()) := by
  cases hr : res.2
  · refine iter_up (s := 0) (fun k => (k : Int)) 0 rfl (by omega) (fun k hk => absurd hk (Nat.not_lt_zero _)) ?_
    unfold M.laws_FnShelves_l1
    dsimp only
    rw [hr, Bool.and_false]
    rfl
  · obtain ⟨hg, h⟩ := h hr
    refine iter_up (s := 0) (fun k => (k : Int)) files.length rfl (by omega) (fun k hk => ?_) ?_
    · obtain ⟨h0, h1⟩ := h k hk
      have hx : 0 ≤ idx l (files.getD k default) ∧ idx l (files.getD k default) < (l.length : Int) := ⟨h0, idx_bd.2⟩
      have hF : ∃ a b, M.impl_FindFile l (files.getD k default) = some ((atI l (idx l (files.getD k default))).Id, a, b, true) := by
        unfold M.impl_FindFile
        rw [withI l _ hl, Option.bind_some, e_iAreCartons hl, hg, Option.bind_some, decide_eq_false (by omega), Bool.not_true, Bool.or_self, cond_false, asrt_pos hx, asrt_pos hx, asrt_pos hx]
        exact ⟨_, _, rfl⟩
      obtain ⟨a, b, hF⟩ := hF
      unfold M.laws_FnShelves_l1
      dsimp only
      rw [decide_eq_true (show (k : Int) < (files.length : Int) by omega), hr, Bool.and_self, cond_true, asrt_pos ⟨by omega, by omega⟩, Int.toNat_natCast, hF, Option.bind_some]
      dsimp only
      rw [Bool.not_true, cond_false, rHasE _ _ hlen, mem_any.2 h1, Option.bind_some, Bool.not_true, Bool.or_self, cond_false, wrap64_id (by omega) (by omega)]
      rfl
    · unfold M.laws_FnShelves_l1
      dsimp only
      rw [decide_eq_false (by omega), Bool.false_and]
      rfl

theorem roomLoop (l : List Carton) (hl : Small l) : ∃ n, iterO (M.laws_FnShelves_l2 (LoadD l)) ((0 : Int), (0 : Int)) = some n ∧ ((LoadD l).2 && (n != (l.length : Int))) = false := by
  cases hg : good l
  · have e : LoadD l = ([], false) := by unfold LoadD; rw [hg]; rfl
    rw [e]
    exact ⟨0, iterO_now (by unfold M.laws_FnShelves_l2; rfl), rfl⟩
  · have e : LoadD l = (rowsF l 9, true) := by unfold LoadD; rw [hg]; rfl
    have hP := good_P hg
    have hT := good_thin hg
    have h10 := hP.len
    have h9 := rowsF_len (l := l) 9
    have hbd : ∀ row ∈ rowsF l 9, 0 ≤ row.getD 1 default ∧ row.getD 1 default ≤ 10 := by
      intro row h
      obtain ⟨r, _, h⟩ := List.mem_flatMap.1 h
      have hb := roomF_bd (r := (r : Int) + 1) hT
      unfold rowOf at h
      cases hd : decide ((roomF l ((r : Int) + 1)).1 > 0)
      · rw [hd] at h; simp at h
      · rw [hd, cond_true, List.mem_singleton] at h
        rw [h]
        show 0 ≤ (roomF l ((r : Int) + 1)).1 ∧ (roomF l ((r : Int) + 1)).1 ≤ 10
        omega
    rw [e]
    refine ⟨(l.length : Int), ?_, by simp⟩
    rw [← rows_cnt hT (fun c hc => by
      obtain ⟨k, hk, rfl⟩ := List.getElem_of_mem hc
      have := hP.gd k hk
      rw [getD_el hk] at this
      exact (goodOne_spec this).2.1)]
    rw [iter_fold (s := ((0 : Int), (0 : Int))) (step := M.laws_FnShelves_l2 (rowsF l 9, true)) (fun (a : Int) (k : Nat) => (a, (k : Int))) cntR (fun a => a) (rowsF l 9) 0 (fun a k => 0 ≤ a ∧ a ≤ 10 * (k : Int)) rfl (by omega) (by simp) (fun a k hk hI => ⟨?_, ?_⟩) (fun a hI => ?_)]
    · have h1 := hbd _ (getD_mem hk)
      have h3 := rowsF_row _ (getD_mem hk)
      unfold M.laws_FnShelves_l2
      dsimp only
      rw [decide_eq_true (show (k : Int) < ((rowsF l 9).length : Int) by omega), cond_true, asrt_pos ⟨by omega, by omega⟩, Int.toNat_natCast, asrt_pos ⟨by omega, by omega⟩, show ((rowsF l 9).getD k default).getD (Int.toNat (1 : Int)) default = ((rowsF l 9).getD k default).getD 1 default from rfl, wrap64_id (n := a + ((rowsF l 9).getD k default).getD 1 default) (by omega) (by omega), wrap64_id (n := (k : Int) + 1) (by omega) (by omega)]
      rfl
    · have h1 := hbd _ (getD_mem hk)
      unfold cntR
      omega
    · unfold M.laws_FnShelves_l2
      dsimp only
      rw [decide_eq_false (by omega)]
      rfl

theorem law_FnShelves (code : List Int) (h1 : code.length ≤ 9223372036854775807) (h2 : ∀ x, x ∈ code → 0 ≤ x ∧ x ≤ 255) : M.laws_FnShelves code = some true := by
  apply T.eq
  unfold M.laws_FnShelves M.laws_rBig
  rw [Option.bind_some]
  refine T_if (fun _ => T_ret rfl) (fun hq => ?_)
  simp only [decide_eq_false_iff_not] at hq
  have hb : Bytes code := ⟨by omega, h2⟩
  have d1 : T (M.spec_DrawBestShelf code) (fun r => CtD r.1) := by
    unfold M.spec_DrawBestShelf
    refine (drawCartons hb).then ?_
    rintro ⟨l, c1⟩ ⟨g1, g2⟩
    refine T_some11 hb g2 (by omega) (by decide) (by decide) ?_
    intro x c2 h2
    refine T_some11 hb h2 (by omega) (by decide) (by decide) ?_
    intro y c3 _
    exact T_ret g1
  refine d1.then ?_
  rintro ⟨l, r, t⟩ hl
  simp only at hl
  have hB := hl.b
  dsimp only
  rw [e_iBest hB, Option.bind_some, e_sBest hB, Option.bind_some, bne_self_eq_false, beq_self_eq_true, Bool.not_true, Bool.or_self, cond_false]
  refine T.then (Q := fun e => e = .inl ()) ?_ ?_
  · refine T_if (fun ho => ?_) (fun _ => T_ret rfl)
    have hc : (good l && inB r 1 9 && inB t 1 40) = true ∧ bs l r t 30 > 0 := by
      unfold bestRes at ho
      cases h : good l && inB r 1 9 && inB t 1 40
      · rw [h] at ho; cases ho
      · rw [h] at ho
        exact ⟨rfl, of_decide_eq_true ho⟩
    obtain ⟨hc, hp⟩ := hc
    have e : bestRes l r t = (bs l r t 30, decide (bs l r t 30 > 0)) := by unfold bestRes; rw [hc]; rfl
    simp only [Bool.and_eq_true] at hc
    rcases bs_best l r t 30 with ⟨z, _⟩ | ⟨z1, z2, z3, z4⟩
    · omega
    · have hs : inB (bs l r t 30) 1 30 = true := by rw [inB_true]; omega
      have hF : FreeD l r (bs l r t 30) = (100 - taken l r (bs l r t 30), true) := by unfold FreeD; rw [hc.1.1, hc.1.2, hs]; rfl
      rw [e]
      dsimp only
      rw [freeOnI l r _ hB, Option.bind_some, hF]
      dsimp only
      rw [decide_eq_false (show ¬ 100 - taken l r (bs l r t 30) < t by omega), Bool.not_true, Bool.or_self, cond_false, shelfLoop l r t _ hB hc.1.1 hc.1.2 z4, Option.bind_some]
      exact T_ret rfl
  rintro _ rfl
  dsimp only
  refine (drawPull hb).then ?_
  rintro ⟨u, files⟩ ⟨hu, hfl⟩
  simp only at hu hfl
  have hU := hu.b
  obtain ⟨res, p1, p2, p3, p4⟩ := pull_both u files hU (by omega)
  dsimp only
  rw [p1, Option.bind_some, p2, Option.bind_some, beq_self_eq_true, Bool.not_true, cond_false, rIntsE _ (by omega), Option.bind_some, Bool.not_true, Bool.or_self, cond_false, pullLoop u files res hU (by omega) p3 p4, Option.bind_some]
  dsimp only
  have d3 : T (M.spec_DrawRoomLoad code) (fun r => CtD r) := by
    unfold M.spec_DrawRoomLoad M.spec_DrawAreCartons
    refine T_in ((drawCartons hb).then ?_)
    rintro ⟨l, c1⟩ ⟨g1, g2⟩
    exact T_ret (T_ret g1)
  refine d3.then ?_
  intro v hv
  have hV := hv.b
  have hT : M.laws_rTable (LoadD v).1 (LoadD v).1 = some true := by
    unfold LoadD
    cases good v
    · exact rTableE [] (by simp) (fun x h => absurd h (by simp))
    · exact rTableE _ (by have := rowsF_len (l := v) 9; rw [cond_true]; simp only; omega) (fun x h => by have := rowsF_row x h; omega)
  have hE : ((LoadD v).2 == good v) = true := by unfold LoadD; cases good v <;> rfl
  rw [loadI v hV, Option.bind_some, loadS v hV, Option.bind_some, beq_self_eq_true, Bool.not_true, cond_false, hT, Option.bind_some, Bool.not_true, Bool.or_self, cond_false, e_iAreCartons hV, Option.bind_some, hE, Bool.not_true, Bool.or_self, cond_false]
  obtain ⟨n, n1, n2⟩ := roomLoop v hV
  rw [n1, Option.bind_some]
  try dsimp only
  rw [n2, cond_false, emptyI v hV, Option.bind_some, emptyS v hV, Option.bind_some, beq_self_eq_true, Bool.not_true, cond_false, rIntsE _ (by have := EmptyD_len hV; omega), Option.bind_some, Bool.not_true, Bool.or_self, cond_false]
  have d4 : T (M.spec_DrawFreeOn code) (fun r => CtD r.1) := by
    unfold M.spec_DrawFreeOn
    refine (drawCartons hb).then ?_
    rintro ⟨l, c1⟩ ⟨g1, g2⟩
    refine T_some11 hb g2 (by omega) (by decide) (by decide) ?_
    intro x c2 h2
    refine T_some11 hb h2 (by omega) (by decide) (by decide) ?_
    intro y c3 _
    exact T_ret g1
  refine d4.then ?_
  rintro ⟨w, r2, s2⟩ hw
  simp only at hw
  have hW := hw.b
  dsimp only
  rw [freeOnI w r2 s2 hW, Option.bind_some, freeOnS w r2 s2 hW, Option.bind_some]
  have d5 : T (M.spec_DrawIsCarton code) (fun r => r.Files.length ≤ 20) := by
    unfold M.spec_DrawIsCarton
    refine T_among hb good0e (by omega) (by simp) ?_
    intro x c1 _ h1
    refine (drawCarton hb _ _ h1 (by omega)).then ?_
    rintro ⟨f, c2⟩ ⟨g1, _⟩
    exact T_ret g1
  refine d5.then ?_
  intro f hf
  rw [beq_self_eq_true, beq_self_eq_true, Bool.and_self, cond_true, cond_true, e_iIsCarton (by omega), Option.bind_some, e_sIsCarton (by omega), Option.bind_some]
  exact T_ret (by simp)
end Go.Proofs.Ythfndefhmmfjaaa
