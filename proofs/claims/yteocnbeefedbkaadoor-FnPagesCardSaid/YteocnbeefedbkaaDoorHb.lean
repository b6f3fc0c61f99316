/-
  Holds: what the models of the program and of the reference answer. Plain.
-/
import Derived.Test.YteocnbeefedbkaaDoorHa
set_option linter.unusedSimpArgs false
set_option linter.unusedVariables false
namespace Go.Proofs.YteocnbeefedbkaaDoor
open Go.VS

end Go.Proofs.YteocnbeefedbkaaDoor
