/-
  What the functions ask of the library's variables: the longest text of the short searches is some number. No condition.
-/
import Derived.Test.YteocnbeefedbkaaDoorVa
namespace Go.VS

def LibW (P : Program) (w : World) (I : Nat → Prop) : Prop :=
  ∃ (g : Nat) (m : Int), P.globalNamed "internal/bytealg.MaxLen" = some g ∧ w.cell? ⟨g, 0, none⟩ = some (.int .i64 m) ∧ ¬ I g

theorem LibW.step {P : Program} {w w' : World} {I J : Nat → Prop} (h : LibW P w I) (he : Ext I w w') (hJ : ∀ b, J b → w.heap.size ≤ b ∨ I b) : LibW P w' J := by
  obtain ⟨g, m, h1, h2, h3⟩ := h
  have hlt : g < w.heap.size := by
    rcases Nat.lt_or_ge g w.heap.size with h' | h'
    · exact h'
    · unfold World.cell? at h2
      simp [Array.getElem?_eq_none h'] at h2
  refine ⟨g, m, h1, ?_, fun hj => ?_⟩
  · rw [cell?_congr (he.block g hlt h3)]; exact h2
  · rcases hJ g hj with h' | h'
    · omega
    · exact h3 h'
theorem LibW.maxLen {P : Program} {w : World} {I : Nat → Prop} (h : LibW P w I) : ∃ (g : Nat) (m : Int), P.globalNamed "internal/bytealg.MaxLen" = some g ∧ w.cell? ⟨g, 0, none⟩ = some (.int .i64 m) := let ⟨g, m, h1, h2, _⟩ := h; ⟨g, m, h1, h2⟩
theorem LibW.other {P : Program} {w : World} {I : Nat → Prop} (h : LibW P w I) {l : Nat} {o : Obj} (hl : w.heap[l]? = some o) (ho : ∀ c T fz, o ≠ .cells c T fz) : LibW P w (fun b => I b ∨ b = l) := by
  obtain ⟨g, m, h1, h2, h3⟩ := h
  refine ⟨g, m, h1, h2, fun hI => hI.elim h3 fun e => ?_⟩
  subst e
  unfold World.cell? at h2
  simp only [hl] at h2
  cases o with
  | cells c T fz => exact ho c T fz rfl
  | _ => cases h2

end Go.VS
