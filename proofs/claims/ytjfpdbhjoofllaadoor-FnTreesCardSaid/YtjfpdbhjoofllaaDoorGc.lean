/-
  Draws of trees; the plain law of growth. Plain.
-/
import Derived.Test.YtjfpdbhjoofllaaDoorGb
set_option linter.unusedSimpArgs false
set_option linter.unusedVariables false
namespace Go.Proofs.YtjfpdbhjoofllaaDoor
open Go.VS

theorem good0g {code : List Int} : Good code 0 (⟨code, 0, 0⟩ : Cur) := ⟨rfl, Int.le_refl _, Int.le_refl _⟩
def NmB (t : List Function) : Prop := ∀ f ∈ t, f.Name.length ≤ 11
def TrD (t : List Function) : Prop := t.length ≤ 16 ∧ NmB t
theorem NmB.nil : NmB [] := fun _ h => absurd h (by simp)
theorem NmB.app {t : List Function} {f : Function} (h : NmB t) (hf : f.Name.length ≤ 11) : NmB (t ++ [f]) := by
  intro x hx
  rcases List.mem_append.1 hx with q | q
  · exact h x q
  · rw [List.mem_singleton.1 q]; exact hf
theorem TrD.b {t : List Function} (h : TrD t) : FnB t := ⟨by have := h.1; omega, fun f hf => by have := h.2 f hf; omega⟩

theorem treeLoop0 {code : List Int} (hb : Bytes code) (K : Nat) (hK : K < 1000) (n : Nat) (hn : n ≤ 9) (c : Cur) (hc : Good code K c) : T (iterO (M.spec_l1Cur_tree3_l0) (([] : List Function), (0 : Int), (n : Int), c)) (fun r => TrD r.1 ∧ Good code (K + 180) r.2) := by
  refine T_iter (fun s => ∃ m : Nat, s.2.2.1 = (m : Int) ∧ m ≤ 9 ∧ s.1.length + m ≤ 9 ∧ NmB s.1 ∧ Good code (K + (9 - m) * 20) s.2.2.2) (fun s => s.2.2.1.toNat) _ ⟨n, rfl, hn, by simp; omega, NmB.nil, hc.up (by omega)⟩ (by simp only; omega) ?_
  rintro ⟨out, id_, _, c0⟩ ⟨m, rfl, g1, g2, g3, g4⟩
  simp only at g2 g3 g4
  unfold M.spec_l1Cur_tree3_l0
  dsimp only
  refine T_if (fun hq => ?_) (fun hq => ?_)
  · simp only [decide_eq_true_eq] at hq
    obtain ⟨m', rfl⟩ : ∃ m', m = m' + 1 := ⟨m - 1, by omega⟩
    refine T.then (Q := fun e => e.1.length + m' ≤ 9 ∧ NmB e.1 ∧ Good code (K + (9 - m') * 20) e.2.2) ?_ ?_
    · refine T_pick hb g4 (by omega) ?_
      intro x1 c2 _ _ h2
      dsimp only
      refine T_of hb h2 (by omega) (by simp) ?_
      intro nm c3 hnm h3
      dsimp only
      have hnm : nm.length ≤ 11 := (by decide : ∀ x ∈ ([[108, 97, 119], [116, 97, 120], [115, 116, 97, 102, 102], [114, 111, 97, 100, 115], [104, 101, 97, 108, 116, 104]] : List (List UInt8)), x.length ≤ 11) nm hnm
      refine T.then (Q := fun e => e.2.Name.length ≤ 11 ∧ Good code (K + (9 - (m' + 1)) * 20 + 8) e.1) ?_ ?_
      · cases hd : decide ((out.length : Int) > 0)
        · rw [cond_false, Option.bind_some, Bool.false_and, cond_false, cond_false]
          exact T_ret ⟨hnm, h3.up (by omega)⟩
        · rw [cond_true]
          refine T_one hb h3 (by omega) ?_
          intro b4 c4 h4
          dsimp only
          rw [Bool.true_and, cond_true]
          refine T_if (fun _ => ?_) (fun _ => T_ret ⟨hnm, h4.up (by omega)⟩)
          refine T_pick hb h4 (by omega) ?_
          intro x5 c5 _ hx h5
          simp only [decide_eq_true_eq] at hd
          exact T_ask (hx (by omega)) (T_ret ⟨hnm, h5.up (by omega)⟩)
      · rintro ⟨c5, f⟩ ⟨q1, q2⟩
        dsimp only
        simp only at q1 q2
        refine T.then (Q := fun e => e.2.Name.length ≤ 11 ∧ Good code (K + (9 - (m' + 1)) * 20 + 12) e.1) ?_ ?_
        · refine T_pick hb q2 (by omega) ?_
          intro x6 c6 _ _ h6
          dsimp only
          refine T.then (Q := fun e => e.2.Name.length ≤ 11 ∧ Good code (K + (9 - (m' + 1)) * 20 + 12) e.1) ?_ ?_
          · refine T_if (fun _ => ?_) (fun _ => T_if (fun _ => ?_) (fun _ => T_if (fun _ => ?_) (fun _ => T_ret ⟨q1, h6.up (by omega)⟩)))
            · refine T_among hb h6 (by omega) (by simp) ?_
              intro x7 c7 _ h7
              exact T_ret ⟨q1, h7.up (by omega)⟩
            · refine T_among hb h6 (by omega) (by simp) ?_
              intro x7 c7 _ h7
              exact T_ret ⟨q1, h7.up (by omega)⟩
            · refine T_of hb h6 (by omega) (by simp) ?_
              intro x7 c7 hx7 h7
              exact T_ret ⟨(by decide : ∀ x ∈ ([[], [65], [97, 98, 99, 100, 101, 102, 103, 104, 105, 106, 107]] : List (List UInt8)), x.length ≤ 11) x7 hx7, h7.up (by omega)⟩
          · rintro ⟨c7, f1⟩ h7
            exact T_ret h7
        · rintro ⟨c6, f0⟩ ⟨r1, r2⟩
          dsimp only
          simp only at r1 r2
          have hl0 : (([] : List Function) ++ out ++ [f0]).length = out.length + 1 := by simp
          have hnb : NmB ([] ++ out ++ [f0]) := NmB.app g3 r1
          refine T_ask (by simp; omega) (T_ask (by simp; omega) ?_)
          rw [Option.bind_some]
          try dsimp only
          rw [treeS _ ⟨by omega, fun f hf => by have := hnb f hf; omega⟩, Option.bind_some]
          cases treeOk ([] ++ out ++ [f0])
          · rw [cond_false]
            refine T_one hb r2 (by omega) ?_
            intro b7 c7 h7
            dsimp only
            rw [Bool.false_or, cond_false]
            exact T_if (fun _ => T_ret ⟨by simp only [hl0]; omega, hnb, h7.up (by omega)⟩) (fun _ => T_ret ⟨by simp only; omega, g3, h7.up (by omega)⟩)
          · rw [cond_true, Option.bind_some, Bool.true_or, cond_true, cond_true]
            exact T_ret ⟨by simp only [hl0]; omega, hnb, r2.up (by omega)⟩
    · rintro ⟨o, i, c9⟩ ⟨a1, a2, a3⟩
      simp only at a1 a2 a3
      refine T_ret ?_
      simp only
      rw [wrap64_id (by omega) (by omega)]
      exact ⟨⟨m', by omega, by omega, a1, a2, a3⟩, by omega⟩
  · exact T_ret ⟨⟨by simp only; omega, g3⟩, g4.up (by omega)⟩

theorem treeLoop1 {code : List Int} (hb : Bytes code) (K : Nat) (hK : K < 1000) (c : Cur) (hc : Good code K c) : T (iterO (M.spec_l1Cur_tree3_l1) (([] : List Function), (0 : Int), c)) (fun r => TrD r.1 ∧ Good code (K + 40) r.2) := by
  refine T_iter (fun s => ∃ m : Nat, s.2.1 = (m : Int) ∧ m ≤ 16 ∧ s.1.length = m ∧ NmB s.1 ∧ Good code (K + m * 2) s.2.2) (fun s => 16 - s.2.1.toNat) _ ⟨0, rfl, by omega, by simp, NmB.nil, hc.up (by omega)⟩ (by simp only; omega) ?_
  rintro ⟨out, _, c0⟩ ⟨m, rfl, g1, g2, g3, g4⟩
  simp only at g2 g3 g4
  unfold M.spec_l1Cur_tree3_l1
  dsimp only
  refine T_pick hb g4 (by omega) ?_
  intro x c1 _ hx h1
  have hx := hx (by omega)
  dsimp only
  rw [wrap64_id (n := 15 + x) (by omega) (by omega)]
  refine T_if (fun hq => ?_) (fun hq => ?_)
  · simp only [decide_eq_true_eq] at hq
    refine T_ask (by simp; omega) (T_ret ?_)
    simp only
    rw [wrap64_id (by omega) (by omega)]
    exact ⟨⟨m + 1, by omega, by omega, by simp; omega, NmB.app g3 (by simp), h1.up (by omega)⟩, by omega⟩
  · exact T_ret ⟨⟨by simp only; omega, g3⟩, h1.up (by omega)⟩

theorem drawTree {code : List Int} (hb : Bytes code) : T (M.spec_l1Cur_tree3 (⟨code, (0 : Int), (0 : Int)⟩ : Cur)) (fun r => TrD r.1 ∧ Good code 400 r.2) := by
  unfold M.spec_l1Cur_tree3
  refine T_pick hb good0g (by omega) ?_
  intro n c1 _ hn h1
  have hn := hn (by omega)
  obtain ⟨n', rfl⟩ := Int.eq_ofNat_of_zero_le hn.1
  refine (treeLoop0 hb 2 (by omega) n' (by omega) c1 h1).then ?_
  rintro ⟨o, c2⟩ ⟨g1, g2⟩
  dsimp only
  refine T_one hb g2 (by omega) ?_
  intro b c3 h3
  refine T_if (fun _ => ?_) (fun _ => T_ret ⟨g1, h3.up (by omega)⟩)
  refine (treeLoop1 hb (2 + 180 + 2) (by omega) c3 h3).then ?_
  rintro ⟨o2, c4⟩ ⟨q1, q2⟩
  exact T_ret ⟨q1, q2.up (by omega)⟩

theorem drawFid {code : List Int} {k : Nat} {c : Cur} (hb : Bytes code) (t : List Function) (h : Good code k c) (hk : k < 100000) : T (M.spec_l1Cur_functionId c t) (fun r => Good code (k + 4) r.2) := by
  unfold M.spec_l1Cur_functionId
  cases hd : ((t.length : Int) == 0)
  · rw [cond_false]
    refine T_one hb h (by omega) ?_
    intro b c1 h1
    dsimp only
    rw [Bool.false_or, cond_false]
    refine T_if (fun _ => ?_) (fun _ => ?_)
    · refine T_among hb h1 (by omega) (by simp) ?_
      intro x c2 _ h2
      exact T_ret (h2.up (by omega))
    · refine T_pick hb h1 (by omega) ?_
      intro x c2 _ hx h2
      rw [beq_eq_false_iff_ne] at hd
      exact T_ask (hx (by omega)) (T_ret (h2.up (by omega)))
  · rw [cond_true, Option.bind_some, Bool.true_or, cond_true, cond_true]
    refine T_among hb h (by omega) (by simp) ?_
    intro x c2 _ h2
    exact T_ret (h2.up (by omega))

theorem rIntsG (a : List Int) (hl : a.length < 1000000) : M.laws_rInts a a = some true := by
  unfold M.laws_rInts
  rw [bne_self_eq_false, cond_false]
  rw [iter_up (s := 0) (step := M.laws_rInts_l0 a a) (e := .inl ()) (fun k => (k : Int)) a.length rfl (by omega) (fun k hk => by
    unfold M.laws_rInts_l0
    simp (disch := first | omega | (intros; simp only [decide_eq_true_eq, decide_eq_false_iff_not, Bool.not_eq_true, Bool.not_eq_false, Bool.not_true, Bool.not_false] at *; omega)) only [cast_succ, asrt_pos, wrap64_id, Option.bind_some, cond_true, cond_false, decide_eq_true, decide_eq_false, Int.toNat_natCast, Bool.not_true, Bool.not_false, Bool.and_true, Bool.true_and, Bool.and_false, Bool.false_and, Bool.or_true, Bool.true_or, Bool.or_false, Bool.false_or, bne_self_eq_false]) (by
    unfold M.laws_rInts_l0
    simp (disch := first | omega | (intros; simp only [decide_eq_true_eq, decide_eq_false_iff_not, Bool.not_eq_true, Bool.not_eq_false, Bool.not_true, Bool.not_false] at *; omega)) only [cast_succ, asrt_pos, wrap64_id, Option.bind_some, cond_true, cond_false, decide_eq_true, decide_eq_false, Int.toNat_natCast, Bool.not_true, Bool.not_false, Bool.and_true, Bool.true_and, Bool.and_false, Bool.false_and, Bool.or_true, Bool.true_or, Bool.or_false, Bool.false_or])]
  rfl
theorem rHasG (m : List Int) (x : Int) (hl : m.length < 1000000) : M.laws_rHas m x = some (m.any fun y => y == x) := by
  unfold M.laws_rHas
  rw [iter_any (step := M.laws_rHas_l0 m x) (s := 0) (fun k => (k : Int)) m.length (fun k => m.getD k default == x) (.inr true) (.inl ()) rfl (by omega)
    (fun k hk hp => by
      unfold M.laws_rHas_l0
      simp (disch := first | omega | (intros; simp only [decide_eq_true_eq, decide_eq_false_iff_not, Bool.not_eq_true, Bool.not_eq_false, Bool.not_true, Bool.not_false] at *; omega)) only [cast_succ, asrt_pos, wrap64_id, Option.bind_some, cond_true, cond_false, decide_eq_true, decide_eq_false, Int.toNat_natCast, Bool.not_true, Bool.not_false, Bool.and_true, Bool.true_and, Bool.and_false, Bool.false_and, Bool.or_true, Bool.true_or, Bool.or_false, Bool.false_or, hp])
    (fun k hk hp => by
      unfold M.laws_rHas_l0
      simp (disch := first | omega | (intros; simp only [decide_eq_true_eq, decide_eq_false_iff_not, Bool.not_eq_true, Bool.not_eq_false, Bool.not_true, Bool.not_false] at *; omega)) only [cast_succ, asrt_pos, wrap64_id, Option.bind_some, cond_true, cond_false, decide_eq_true, decide_eq_false, Int.toNat_natCast, Bool.not_true, Bool.not_false, Bool.and_true, Bool.true_and, Bool.and_false, Bool.false_and, Bool.or_true, Bool.true_or, Bool.or_false, Bool.false_or, hp])
    (by
      unfold M.laws_rHas_l0
      simp (disch := first | omega | (intros; simp only [decide_eq_true_eq, decide_eq_false_iff_not, Bool.not_eq_true, Bool.not_eq_false, Bool.not_true, Bool.not_false] at *; omega)) only [cast_succ, asrt_pos, wrap64_id, Option.bind_some, cond_true, cond_false, decide_eq_true, decide_eq_false, Int.toNat_natCast, Bool.not_true, Bool.not_false, Bool.and_true, Bool.true_and, Bool.and_false, Bool.false_and, Bool.or_true, Bool.true_or, Bool.or_false, Bool.false_or]), ← any_getD (p := fun y => y == x)]
  cases m.any fun y => y == x <;> rfl

end Go.Proofs.YtjfpdbhjoofllaaDoor
