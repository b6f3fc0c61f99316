/-
  Cartons whose lists are told by marks: what is written into a list of cartons and whether it is held. Plain.
-/
import Derived.Test.YtfebeomnlkfgoaaEb
set_option linter.unusedSimpArgs false
set_option linter.unusedVariables false
namespace Go.Proofs.Ytfebeomnlkfgoaa
open Go.VS
