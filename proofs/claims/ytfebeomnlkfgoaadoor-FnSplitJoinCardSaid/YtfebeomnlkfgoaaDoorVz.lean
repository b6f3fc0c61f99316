/-
  What the functions ask of the library's variables: the longest text of the short searches is some number. No condition.
-/
import Derived.Test.YtfebeomnlkfgoaaDoorVa
namespace Go.VS

def LibW (P : Program) (w : World) (I : Nat → Prop) : Prop :=
  ∃ (g : Nat) (m : Int), P.globalNamed "internal/bytealg.MaxLen" = some g ∧ w.cell? ⟨g, 0, none⟩ = some (.int .i64 m) ∧ ¬ I g

theorem LibW.step {P : Program} {w w' : World} {I J : Nat → Prop} (h : LibW P w I) (he : Ext I w w') (hJ : ∀ b, J b → w.heap.size ≤ b ∨ I b) : LibW P w' J := by
  obtain ⟨g, m, h1, h2, h3⟩ := h
  have hlt : g < w.heap.size := by
    rcases Nat.lt_or_ge g w.heap.size with h' | h'
    · exact h'
    · unfold World.cell? at h2
      simp [Array.getElem?_eq_none h'] at h2
  refine ⟨g, m, h1, ?_, fun hj => ?_⟩
  · rw [cell?_congr (he.block g hlt h3)]; exact h2
  · rcases hJ g hj with h' | h'
    · omega
    · exact h3 h'
end Go.VS
