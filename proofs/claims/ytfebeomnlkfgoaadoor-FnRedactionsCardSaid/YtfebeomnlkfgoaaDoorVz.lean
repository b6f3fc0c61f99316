/-
  What the functions ask of the library's tables: the powers of ten of strconv read as they are laid, and nobody may turn them. No condition.
-/
import Derived.Test.YtfebeomnlkfgoaaDoorVa
import Derived.Lib.LaidTab
import Derived.Lib.ItoaNum
namespace Go.VS

def LibW (P : Program) (w : World) (I : Nat → Prop) : Prop :=
  Go.Lib.TabIs P w "internal/strconv.uint64pow10" .u64 Go.Lib.pow10Tab ∧ ∀ g, P.globalNamed "internal/strconv.uint64pow10" = some g → ¬ I g

theorem LibW.step {P : Program} {w w' : World} {I J : Nat → Prop} (h : LibW P w I) (he : Ext I w w') (hJ : ∀ b, J b → w.heap.size ≤ b ∨ I b) : LibW P w' J := by
  obtain ⟨h1, h2⟩ := h
  unfold Go.Lib.TabIs World.var? at h1
  cases hg : P.globalNamed "internal/strconv.uint64pow10" with
  | none => rw [hg] at h1; cases h1
  | some g =>
    have hI := h2 g hg
    have hlt : g < w.heap.size := by
      rw [hg] at h1
      rcases Nat.lt_or_ge g w.heap.size with h' | h'
      · exact h'
      · simp only [Option.bind_some, Array.getElem?_eq_none h'] at h1
        cases h1
    refine ⟨?_, fun g' hg' hj => ?_⟩
    · unfold Go.Lib.TabIs World.var?
      rw [hg] at h1 ⊢
      simp only [Option.bind_some] at h1 ⊢
      rw [he.block g hlt hI]
      exact h1
    · rw [hg] at hg'
      cases hg'
      rcases hJ g hj with h' | h'
      · omega
      · exact hI h'
end Go.VS
