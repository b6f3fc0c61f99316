/-
  Records and schedules: what the models of the program and of the reference answer. Plain.
-/
import Derived.Test.YtfebeomnlkfgoaaPq
import Derived.Test.YtfebeomnlkfgoaaPf
set_option linter.unusedSimpArgs false
set_option linter.unusedVariables false
namespace Go.Proofs.Ytfebeomnlkfgoaa
open Go.VS
theorem getD_el {β : Type} [Inhabited β] {l : List β} {k : Nat} (h : k < l.length) : l.getD k default = l[k] := by simp [List.getD, h]
end Go.Proofs.Ytfebeomnlkfgoaa
