/-
  Draws of cartons; the plain law of shelves. Plain.
-/
import Derived.Test.YtfebeomnlkfgoaaEb
set_option linter.unusedSimpArgs false
set_option linter.unusedVariables false
namespace Go.Proofs.Ytfebeomnlkfgoaa
open Go.VS
theorem good0e {code : List Int} : Good code 0 (⟨code, 0, 0⟩ : Cur) := ⟨rfl, Int.le_refl _, Int.le_refl _⟩
def FlB (l : List Carton) : Prop := ∀ c ∈ l, c.Files.length ≤ 20
def CtD (l : List Carton) : Prop := l.length ≤ 16 ∧ FlB l
theorem FlB.nil : FlB [] := fun _ h => absurd h (by simp)
theorem FlB.app {t : List Carton} {f : Carton} (h : FlB t) (hf : f.Files.length ≤ 20) : FlB (t ++ [f]) := by
  intro x hx
  rcases List.mem_append.1 hx with q | q
  · exact h x q
  · rw [List.mem_singleton.1 q]; exact hf
theorem CtD.b {t : List Carton} (h : CtD t) : Small t := ⟨by have := h.1; omega, fun f hf => by have := h.2 f hf; omega⟩
theorem drawCarton {code : List Int} {k : Nat} {c : Cur} (hb : Bytes code) (i first : Int) (h : Good code k c) (hk : k < 100000) : T (M.spec_l1Cur_carton c i first) (fun r => r.1.Files.length ≤ 20 ∧ Good code (k + 80) r.2) := by
  unfold M.spec_l1Cur_carton
  refine T_among hb h (by omega) (by simp) ?_
  intro x1 c1 _ h1
  refine T_among hb h1 (by omega) (by simp) ?_
  intro x2 c2 _ h2
  refine T_among hb h2 (by omega) (by simp) ?_
  intro x3 c3 _ h3
  refine T_pick hb h3 (by omega) ?_
  intro n c4 _ hn h4
  have hn := hn (by omega)
  obtain ⟨n', rfl⟩ := Int.eq_ofNat_of_zero_le hn.1
  dsimp only
  refine T.then (Q := fun e => e.2.1.length ≤ 5 ∧ Good code (k + 20) e.2.2) (T_iter (fun s => ∃ m : Nat, s.2.1 = (m : Int) ∧ m ≤ 5 ∧ s.2.2.1.length + m ≤ 5 ∧ Good code (k + 8 + (5 - m) * 2) s.2.2.2) (fun s => s.2.1.toNat) _ ⟨n', rfl, by omega, by simp; omega, h4.up (by omega)⟩ (by simp only; omega) ?_) ?_
  · rintro ⟨f1, _, fs, c5⟩ ⟨m, rfl, g1, g2, g3⟩
    simp only at g2 g3
    unfold M.spec_l1Cur_carton_l0
    dsimp only
    refine T_if (fun hq => ?_) (fun hq => T_ret ⟨by simp only; omega, g3.up (by omega)⟩)
    simp only [decide_eq_true_eq] at hq
    refine T_ask (by simp; omega) ?_
    refine T_pick hb g3 (by omega) ?_
    intro x c6 _ _ h6
    refine T_ret ?_
    simp only
    rw [wrap64_id (n := (m : Int) - 1) (by omega) (by omega)]
    exact ⟨⟨m - 1, by omega, by omega, by simp; omega, h6.up (by omega)⟩, by omega⟩
  · rintro ⟨f0, fs, c5⟩ ⟨g1, g2⟩
    simp only at g1 g2
    dsimp only
    refine T_pick hb g2 (by omega) ?_
    intro x6 c6 _ _ h6
    dsimp only
    refine T.then (Q := fun e => e.2.2.2.1.length ≤ 20 ∧ Good code (k + 80) e.2.2.2.2.2) ?_ ?_
    · refine T_if (fun _ => ?_) (fun _ => T_if (fun _ => ?_) (fun _ => T_if (fun _ => ?_) (fun _ => T_if (fun _ => ?_) (fun _ => T_if (fun _ => ?_) (fun _ => T_if (fun _ => ?_) (fun _ => T_ret ⟨by simp only; omega, h6.up (by omega)⟩))))))
      · refine T_among hb h6 (by omega) (by simp) ?_
        intro x8 c8 _ h8
        exact T_ret ⟨by simp only; omega, h8.up (by omega)⟩
      · refine T_among hb h6 (by omega) (by simp) ?_
        intro x8 c8 _ h8
        exact T_ret ⟨by simp only; omega, h8.up (by omega)⟩
      · refine T_among hb h6 (by omega) (by simp) ?_
        intro x8 c8 _ h8
        exact T_ret ⟨by simp only; omega, h8.up (by omega)⟩
      · refine T_among hb h6 (by omega) (by simp) ?_
        intro x8 c8 _ h8
        exact T_ret ⟨by simp only; omega, h8.up (by omega)⟩
      · refine T_among hb h6 (by omega) (by simp) ?_
        intro x8 c8 _ h8
        refine T_ask (by simp; omega) ?_
        rw [Option.bind_some]
        exact T_ret ⟨by simp; omega, h8.up (by omega)⟩
      · refine T.then (Q := fun e => e.1.length ≤ 20 ∧ Good code (k + 80) e.2) (T_iter (fun s => s.2.1.length ≤ 13 ∧ Good code (k + 30 + s.2.1.length * 2) s.2.2) (fun s => 13 - s.2.1.length) _ ⟨by simp only; omega, h6.up (by omega)⟩ (by simp only; omega) ?_) ?_
        · rintro ⟨f2, fs2, c7⟩ ⟨a1, a2⟩
          simp only at a1 a2
          unfold M.spec_l1Cur_carton_l1
          dsimp only
          refine T_pick hb a2 (by omega) ?_
          intro y c8 _ hy h8
          have hy := hy (by omega)
          dsimp only
          rw [wrap64_id (n := 12 + y) (by omega) (by omega)]
          refine T_if (fun hq => ?_) (fun hq => T_ret ⟨by simp only; omega, h8.up (by omega)⟩)
          simp only [decide_eq_true_eq] at hq
          refine T_ask (by simp; omega) (T_ret ?_)
          simp only [List.length_append, List.length_singleton]
          exact ⟨⟨by omega, h8.up (by omega)⟩, by omega⟩
        · rintro ⟨fs3, c8⟩ h8
          exact T_ret h8
    · rintro ⟨a, b, d, e, f, g⟩ ⟨a1, a2⟩
      exact T_ret ⟨a1, a2⟩
theorem cartonsLoop0 {code : List Int} (hb : Bytes code) (K : Nat) (hK : K < 1000) (n : Nat) (hn : n ≤ 6) (c : Cur) (hc : Good code K c) : T (iterO (M.spec_l1Cur_cartons_l0) (([] : List Carton), (0 : Int), (n : Int), c)) (fun r => CtD r.1 ∧ Good code (K + 600) r.2) := by
  refine T_iter (fun s => ∃ m : Nat, s.2.2.1 = (m : Int) ∧ m ≤ 6 ∧ s.1.length + m ≤ 6 ∧ FlB s.1 ∧ Good code (K + (6 - m) * 100) s.2.2.2) (fun s => s.2.2.1.toNat) _ ⟨n, rfl, hn, by simp; omega, FlB.nil, hc.up (by omega)⟩ (by simp only; omega) ?_
  rintro ⟨out, id_, _, c0⟩ ⟨m, rfl, g1, g2, g3, g4⟩
  simp only at g2 g3 g4
  unfold M.spec_l1Cur_cartons_l0
  dsimp only
  refine T_if (fun hq => ?_) (fun hq => ?_)
  · simp only [decide_eq_true_eq] at hq
    obtain ⟨m', rfl⟩ : ∃ m', m = m' + 1 := ⟨m - 1, by omega⟩
    refine T.then (Q := fun e => e.1.length + m' ≤ 6 ∧ FlB e.1 ∧ Good code (K + (6 - m') * 100) e.2.2) ?_ ?_
    · refine T_pick hb g4 (by omega) ?_
      intro x1 c2 _ _ h2
      dsimp only
      refine T_ask (by simp; omega) ?_
      refine T_pick hb h2 (by omega) ?_
      intro x2 c3 _ _ h3
      dsimp only
      refine (drawCarton hb _ _ h3 (by omega)).then ?_
      rintro ⟨f0, c4⟩ ⟨r1, r2⟩
      simp only at r1 r2
      dsimp only
      have hl0 : (([] : List Carton) ++ out ++ [f0]).length = out.length + 1 := by simp
      have hnb : FlB ([] ++ out ++ [f0]) := FlB.app g3 r1
      refine T_ask (by simp; omega) ?_
      rw [e_l18Good ⟨by omega, fun f hf => by have := hnb f hf; omega⟩, Option.bind_some]
      cases good ([] ++ out ++ [f0])
      · rw [cond_false]
        refine T_one hb r2 (by omega) ?_
        intro b7 c7 h7
        dsimp only
        rw [Bool.false_or, cond_false]
        exact T_if (fun _ => T_ret ⟨by simp only [hl0]; omega, hnb, h7.up (by omega)⟩) (fun _ => T_ret ⟨by simp only; omega, g3, h7.up (by omega)⟩)
      · rw [cond_true, Option.bind_some, Bool.true_or, cond_true, cond_true]
        exact T_ret ⟨by simp only [hl0]; omega, hnb, r2.up (by omega)⟩
    · rintro ⟨o, i, c9⟩ ⟨a1, a2, a3⟩
      simp only at a1 a2 a3
      refine T_ret ?_
      simp only
      rw [wrap64_id (by omega) (by omega)]
      exact ⟨⟨m', by omega, by omega, a1, a2, a3⟩, by omega⟩
  · exact T_ret ⟨⟨by simp only; omega, g3⟩, g4.up (by omega)⟩
theorem cartonsLoop1 {code : List Int} (hb : Bytes code) (K : Nat) (hK : K < 10000) (c : Cur) (hc : Good code K c) : T (iterO (M.spec_l1Cur_cartons_l1) (([] : List Carton), (0 : Int), c)) (fun r => CtD r.1 ∧ Good code (K + 40) r.2) := by
  refine T_iter (fun s => ∃ m : Nat, s.2.1 = (m : Int) ∧ m ≤ 11 ∧ s.1.length = m ∧ FlB s.1 ∧ Good code (K + m * 2) s.2.2) (fun s => 11 - s.2.1.toNat) _ ⟨0, rfl, by omega, by simp, FlB.nil, hc.up (by omega)⟩ (by simp only; omega) ?_
  rintro ⟨out, _, c0⟩ ⟨m, rfl, g1, g2, g3, g4⟩
  simp only at g2 g3 g4
  unfold M.spec_l1Cur_cartons_l1
  dsimp only
  refine T_pick hb g4 (by omega) ?_
  intro x c1 _ hx h1
  have hx := hx (by omega)
  dsimp only
  rw [wrap64_id (n := 10 + x) (by omega) (by omega)]
  refine T_if (fun hq => ?_) (fun hq => ?_)
  · simp only [decide_eq_true_eq] at hq
    refine T_ask (by simp; omega) (T_ret ?_)
    simp only
    rw [wrap64_id (n := (m : Int) + 1) (by omega) (by omega)]
    exact ⟨⟨m + 1, by omega, by omega, by simp; omega, FlB.app g3 (by simp), h1.up (by omega)⟩, by omega⟩
  · exact T_ret ⟨⟨by simp only; omega, g3⟩, h1.up (by omega)⟩
theorem drawCartons {code : List Int} (hb : Bytes code) : T (M.spec_l1Cur_cartons (⟨code, (0 : Int), (0 : Int)⟩ : Cur)) (fun r => CtD r.1 ∧ Good code 1000 r.2) := by
  unfold M.spec_l1Cur_cartons
  refine T_pick hb good0e (by omega) ?_
  intro n c1 _ hn h1
  have hn := hn (by omega)
  obtain ⟨n', rfl⟩ := Int.eq_ofNat_of_zero_le hn.1
  refine (cartonsLoop0 hb 2 (by omega) n' (by omega) c1 h1).then ?_
  rintro ⟨o, c2⟩ ⟨g1, g2⟩
  dsimp only
  refine T_one hb g2 (by omega) ?_
  intro b c3 h3
  refine T_if (fun _ => ?_) (fun _ => T_ret ⟨g1, h3.up (by omega)⟩)
  refine (cartonsLoop1 hb (2 + 600 + 2) (by omega) c3 h3).then ?_
  rintro ⟨o2, c4⟩ ⟨q1, q2⟩
  exact T_ret ⟨q1, q2.up (by omega)⟩
theorem T_some11 {β : Type} {code : List Int} {k : Nat} {c : Cur} {Q : β → Prop} {l : List Int} {n : Int} {f : Int × Cur → Option β} (hb : Bytes code) (h : Good code k c) (hk : k < 700000000) (hn : 0 < n ∧ n + 2 ≤ (l.length : Int)) (hl : l.length ≤ 100) (hf : ∀ x c', Good code (k + 4) c' → T (f (x, c')) Q) :
    T ((M.spec_l1Cur_pick c (24 : Int)).bind fun y1 => asrt ((0 : Int) ≤ (0 : Int) ∧ (0 : Int) ≤ (IntKind.i64.wrap (n + (IntKind.i64.wrap (Int.tdiv y1.1 (11 : Int))))) ∧ (IntKind.i64.wrap (n + (IntKind.i64.wrap (Int.tdiv y1.1 (11 : Int))))) ≤ (l.length : Int)) <| (M.spec_l1Cur_among y1.2 (slc l (0 : Int) (IntKind.i64.wrap (n + (IntKind.i64.wrap (Int.tdiv y1.1 (11 : Int))))))).bind f) Q := by
  refine T_pick hb h (by omega) ?_
  intro x c1 _ hx h1
  have hx := hx (by omega)
  have hd : 0 ≤ Int.tdiv x 11 ∧ Int.tdiv x 11 ≤ 2 := by
    rw [Int.tdiv_eq_ediv_of_nonneg hx.1]; omega
  dsimp only
  rw [wrap64_id (n := Int.tdiv x 11) (by omega) (by omega), wrap64_id (n := n + Int.tdiv x 11) (by omega) (by omega)]
  refine T_ask ⟨by omega, by omega, by omega⟩ ?_
  refine T_among hb h1 (by omega) ?_ ?_
  · intro e
    have : (slc l 0 (n + Int.tdiv x 11)).length = (n + Int.tdiv x 11).toNat := by
      unfold slc
      simp only [Int.toNat_zero, List.drop_zero, List.length_take]
      omega
    rw [e] at this
    simp at this
    omega
  · intro y c2 _ h2
    exact hf y c2 (h2.up (by omega))
end Go.Proofs.Ytfebeomnlkfgoaa
