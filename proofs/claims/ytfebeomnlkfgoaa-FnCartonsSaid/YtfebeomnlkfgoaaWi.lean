/-
  Functions of the library by the kit's contracts: a call that hands back plain data and writes nothing. Over any program. Conditions: what the contract asks.
-/
import Derived.Test.YtfebeomnlkfgoaaWh
import Derived.Below
import Derived.Lib.SlTrimSet
set_option linter.unusedSimpArgs false
set_option linter.unusedVariables false
namespace Go.VS
open Go.RowKit
end Go.VS
