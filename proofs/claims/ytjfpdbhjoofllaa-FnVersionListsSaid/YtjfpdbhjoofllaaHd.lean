/-
  The law of holds. Plain.
-/
import Derived.Test.YtjfpdbhjoofllaaHc
set_option linter.unusedSimpArgs false
set_option linter.unusedVariables false
namespace Go.Proofs.Ytjfpdbhjoofllaa
open Go.VS
def both (r : Record) (s : List Rule) : Bool := recOk r && schedOk s
end Go.Proofs.Ytjfpdbhjoofllaa
