/-
  What the functions ask of the library's variables: the powers of ten of strconv read as they are laid; the errors of strconv are laid. No condition.
-/
import Derived.Test.YtlpnicmlgckdnaaDoorVa
import Derived.Lib.LaidTab
import Derived.Lib.ItoaNum
namespace Go.VS

def LibP (P : Program) (w : World) (I : Nat → Prop) : Prop :=
  Go.Lib.TabIs P w "internal/strconv.uint64pow10" .u64 Go.Lib.pow10Tab ∧ ∀ g, P.globalNamed "internal/strconv.uint64pow10" = some g → ¬ I g

theorem LibP.step {P : Program} {w w' : World} {I J : Nat → Prop} (h : LibP P w I) (he : Ext I w w') (hJ : ∀ b, J b → w.heap.size ≤ b ∨ I b) : LibP P w' J := by
  obtain ⟨h1, h2⟩ := h
  unfold Go.Lib.TabIs World.var? at h1
  cases hg : P.globalNamed "internal/strconv.uint64pow10" with
  | none => rw [hg] at h1; cases h1
  | some g =>
    have hI := h2 g hg
    have hlt : g < w.heap.size := by
      rw [hg] at h1
      rcases Nat.lt_or_ge g w.heap.size with h' | h'
      · exact h'
      · simp only [Option.bind_some, Array.getElem?_eq_none h'] at h1
        cases h1
    refine ⟨?_, fun g' hg' hj => ?_⟩
    · unfold Go.Lib.TabIs World.var?
      rw [hg] at h1 ⊢
      simp only [Option.bind_some] at h1 ⊢
      rw [he.block g hlt hI]
      exact h1
    · rw [hg] at hg'
      cases hg'
      rcases hJ g hj with h' | h'
      · omega
      · exact hI h'

/-- A variable of an interface type holds some value that is not nil. -/
def ErrAt (P : Program) (w : World) (I : Nat → Prop) (n : String) : Prop :=
  ∃ (tp : TypeId) (p : Value), w.var? P n = some #[.iface tp p] ∧ ∀ g, P.globalNamed n = some g → ¬ I g
theorem ErrAt.step {P : Program} {w w' : World} {I J : Nat → Prop} {n : String} (h : ErrAt P w I n) (he : Ext I w w') (hJ : ∀ b, J b → w.heap.size ≤ b ∨ I b) : ErrAt P w' J n := by
  obtain ⟨tp, p, h1, h2⟩ := h
  unfold World.var? at h1
  cases hg : P.globalNamed n with
  | none => rw [hg] at h1; cases h1
  | some g =>
    have hI := h2 g hg
    have hlt : g < w.heap.size := by
      rw [hg] at h1
      rcases Nat.lt_or_ge g w.heap.size with h' | h'
      · exact h'
      · simp only [Option.bind_some, Array.getElem?_eq_none h'] at h1
        cases h1
    refine ⟨tp, p, ?_, fun g' hg' hj => ?_⟩
    · unfold World.var?
      rw [hg] at h1 ⊢
      simp only [Option.bind_some] at h1 ⊢
      rw [he.block g hlt hI]
      exact h1
    · rw [hg] at hg'
      cases hg'
      rcases hJ g hj with h' | h'
      · omega
      · exact hI h'
theorem ErrAt.other {P : Program} {w : World} {I : Nat → Prop} {n : String} (h : ErrAt P w I n) {l : Nat} {o : Obj} (hl : w.heap[l]? = some o) (ho : ∀ c T fz, o ≠ .cells c T fz) : ErrAt P w (fun b => I b ∨ b = l) n := by
  obtain ⟨tp, p, h1, h2⟩ := h
  refine ⟨tp, p, h1, fun g hg hI => hI.elim (h2 g hg) fun e => ?_⟩
  subst e
  unfold World.var? at h1
  rw [hg] at h1
  simp only [Option.bind_some, hl] at h1
  cases o with
  | cells c T fz => exact ho c T fz rfl
  | _ => cases h1

def LibW (P : Program) (w : World) (I : Nat → Prop) : Prop := LibP P w I ∧ ErrAt P w I "strconv.ErrSyntax" ∧ ErrAt P w I "strconv.ErrRange"
theorem LibW.step {P : Program} {w w' : World} {I J : Nat → Prop} (h : LibW P w I) (he : Ext I w w') (hJ : ∀ b, J b → w.heap.size ≤ b ∨ I b) : LibW P w' J := ⟨h.1.step he hJ, h.2.1.step he hJ, h.2.2.step he hJ⟩
theorem LibW.pow10 {P : Program} {w : World} {I : Nat → Prop} (h : LibW P w I) : Go.Lib.TabIs P w "internal/strconv.uint64pow10" .u64 Go.Lib.pow10Tab := h.1.1
theorem LibW.errSyntax {P : Program} {w : World} {I : Nat → Prop} (h : LibW P w I) : ∃ (tp : TypeId) (p : Value), w.var? P "strconv.ErrSyntax" = some #[.iface tp p] := let ⟨tp, p, h1, _⟩ := h.2.1; ⟨tp, p, h1⟩
theorem LibW.errRange {P : Program} {w : World} {I : Nat → Prop} (h : LibW P w I) : ∃ (tp : TypeId) (p : Value), w.var? P "strconv.ErrRange" = some #[.iface tp p] := let ⟨tp, p, h1, _⟩ := h.2.2; ⟨tp, p, h1⟩
theorem LibP.other {P : Program} {w : World} {I : Nat → Prop} (h : LibP P w I) {l : Nat} {o : Obj} (hl : w.heap[l]? = some o) (ho : ∀ c T fz, o ≠ .cells c T fz) : LibP P w (fun b => I b ∨ b = l) := by
  obtain ⟨h1, h2⟩ := h
  refine ⟨h1, fun g hg hI => hI.elim (h2 g hg) fun e => ?_⟩
  subst e
  unfold Go.Lib.TabIs World.var? at h1
  rw [hg] at h1
  simp only [Option.bind_some, hl] at h1
  cases o with
  | cells c T fz => exact ho c T fz rfl
  | _ => cases h1

theorem LibW.other {P : Program} {w : World} {I : Nat → Prop} (h : LibW P w I) {l : Nat} {o : Obj} (hl : w.heap[l]? = some o) (ho : ∀ c T fz, o ≠ .cells c T fz) : LibW P w (fun b => I b ∨ b = l) := ⟨h.1.other hl ho, h.2.1.other hl ho, h.2.2.other hl ho⟩

end Go.VS
