/-
  Copies of records: the last readable days, lost records, sizes by format, what was not seen. Plain.
-/
import Derived.Test.YteocnbeefedbkaaDoorFo
set_option linter.unusedSimpArgs false
set_option linter.unusedVariables false
namespace Go.Proofs.YteocnbeefedbkaaDoor
open Go.VS

def maxQ (a u : Int) : Int := bif decide (a < u) then u else a
def lastF (l : List Format) (i : Int) : Int := l.foldl (fun a f => bif f.Reads.any (fun y => y == i) then maxQ a f.Until else a) (l.getD (atFm l i).toNat default).Until
theorem lastI (l : List Format) (i : Int) (hl : FmB l) (hi : hasFm l i = true) : M.impl_lastReadable l i = some (lastF l i) := by
  have hb := hl.1
  obtain ⟨g0, g1, g2, g3⟩ := atFm_spec hi
  unfold M.impl_lastReadable
  rw [atFmI l i hb, Option.bind_some, asrt_pos ⟨g0, g2⟩]
  rw [iter_fold (s := ((l.getD (atFm l i).toNat default).Until, (0 : Int))) (step := M.impl_lastReadable_l0 l i) (fun (a : Int) (k : Nat) => (a, (k : Int))) (fun a f => bif f.Reads.any (fun y => y == i) then maxQ a f.Until else a) (fun a => a) l (l.getD (atFm l i).toNat default).Until (fun _ _ => True) rfl (by omega) trivial (fun a k hk _ => ⟨?_, trivial⟩) (fun a _ => ?_)]
  · rfl
  · unfold M.impl_lastReadable_l0 maxQ
    dsimp only
    rw [decide_eq_true (show (k : Int) < (l.length : Int) by omega), cond_true, asrt_pos ⟨by omega, by omega⟩, Int.toNat_natCast, contQ _ _ (hl.2 _ (getD_mem hk)).2, Option.bind_some, wrap64_id (n := (k : Int) + 1) (by omega) (by omega)]
    cases (l.getD k default).Reads.any fun y => y == i <;> rfl
  · unfold M.impl_lastReadable_l0
    dsimp only
    rw [decide_eq_false (by omega)]
    rfl
theorem mostQ (a u : Int) : M.spec_l1Most a u = some (maxQ a u) := by
  unfold M.spec_l1Most maxQ
  rw [bif_some]
  congr 1
  by_cases h : a > u
  · rw [decide_eq_true h, decide_eq_false (by omega)]; rfl
  · rw [decide_eq_false h]
    by_cases h2 : a < u
    · rw [decide_eq_true h2]; rfl
    · rw [decide_eq_false h2]
      have : a = u := by omega
      simp [this]
theorem lastS (l : List Format) (i : Int) (hl : FmB l) (hi : hasFm l i = true) : M.spec_l7Last l i = some (lastF l i) := by
  have hb := hl.1
  obtain ⟨g0, g1, g2, g3⟩ := atFm_spec hi
  unfold M.spec_l7Last
  rw [atFmS l i hb, Option.bind_some, asrt_pos ⟨g0, g2⟩]
  rw [iter_fold (s := ((l.getD (atFm l i).toNat default).Until, (0 : Int))) (step := M.spec_l7Last_l0 l i) (fun (a : Int) (k : Nat) => (a, (k : Int))) (fun a f => bif f.Reads.any (fun y => y == i) then maxQ a f.Until else a) (fun a => a) l (l.getD (atFm l i).toNat default).Until (fun _ _ => True) rfl (by omega) trivial (fun a k hk _ => ⟨?_, trivial⟩) (fun a _ => ?_)]
  · rfl
  · unfold M.spec_l7Last_l0
    dsimp only
    rw [decide_eq_true (show (k : Int) < (l.length : Int) by omega), cond_true, asrt_pos ⟨by omega, by omega⟩, Int.toNat_natCast, hasQ _ _ (hl.2 _ (getD_mem hk)).2, Option.bind_some, wrap64_id (n := (k : Int) + 1) (by omega) (by omega)]
    cases (l.getD k default).Reads.any fun y => y == i
    · rfl
    · rw [cond_true, asrt_pos ⟨by omega, by omega⟩, mostQ]
      rfl
  · unfold M.spec_l7Last_l0
    dsimp only
    rw [decide_eq_false (by omega)]
    rfl
theorem readD (l : List Format) (i d : Int) (hl : FmB l) : M.impl_IsReadable l i d = some (bif (fmsOk l && hasFm l i) && inR d 0 20000 then (decide (lastF l i ≥ d), true) else (false, false)) := by
  unfold M.impl_IsReadable M.impl_isOnDay
  rw [fmsI l hl, Option.bind_some]
  cases fmsOk l
  · rfl
  rw [cond_true, atFmI l i hl.1, Option.bind_some, show decide (atFm l i ≥ 0) = hasFm l i from firstAt_any, Bool.true_and]
  cases h : hasFm l i
  · rfl
  rw [cond_true, isDayI, Option.bind_some, Bool.true_and]
  cases inR d 0 20000
  · rfl
  rw [Option.bind_some, Bool.not_true, cond_false, lastI l i hl h, Option.bind_some, cond_true]

theorem strictQ : ∀ {a b : List Int}, a.Pairwise (· < ·) → b.Pairwise (· < ·) → (∀ y, y ∈ a ↔ y ∈ b) → a = b
  | [], [], _, _, _ => rfl
  | [], y :: b, _, _, h => absurd ((h y).2 (by simp)) (by simp)
  | x :: a, [], _, _, h => absurd ((h x).1 (by simp)) (by simp)
  | x :: a, y :: b, ha, hb, h => by
    obtain ⟨a1, a2⟩ := List.pairwise_cons.1 ha
    obtain ⟨b1, b2⟩ := List.pairwise_cons.1 hb
    have hxy : x = y := by
      have h1 := (h x).1 (by simp)
      have h2 := (h y).2 (by simp)
      rcases List.mem_cons.1 h1 with e | e
      · exact e
      · rcases List.mem_cons.1 h2 with e2 | e2
        · exact e2.symm
        · have := b1 x e
          have := a1 y e2
          omega
    subst hxy
    congr 1
    refine strictQ a2 b2 fun z => ?_
    constructor
    · intro hz
      have := a1 z hz
      rcases List.mem_cons.1 ((h z).1 (by simp [hz])) with e | e
      · omega
      · exact e
    · intro hz
      have := b1 z hz
      rcases List.mem_cons.1 ((h z).2 (by simp [hz])) with e | e
      · omega
      · exact e
end Go.Proofs.YteocnbeefedbkaaDoor
