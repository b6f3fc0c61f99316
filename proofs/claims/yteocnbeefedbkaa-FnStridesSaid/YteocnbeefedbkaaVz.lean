/-
  What the functions ask of the library's tables: nothing. No condition.
-/
import Derived.Test.YteocnbeefedbkaaVa
namespace Go.VS

def LibW (_ : Program) (_ : World) (_ : Nat → Prop) : Prop := True

theorem LibW.step {P : Program} {w w' : World} {I J : Nat → Prop} (_ : LibW P w I) (_ : Ext I w w') (_ : ∀ b, J b → w.heap.size ≤ b ∨ I b) : LibW P w' J := trivial
theorem LibW.other {P : Program} {w : World} {I : Nat → Prop} (_ : LibW P w I) {l : Nat} {o : Obj} (_ : w.heap[l]? = some o) (_ : ∀ c T fz, o ≠ .cells c T fz) : LibW P w (fun b => I b ∨ b = l) := trivial

end Go.VS
