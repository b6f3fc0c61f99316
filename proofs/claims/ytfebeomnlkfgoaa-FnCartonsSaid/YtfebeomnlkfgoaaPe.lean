/-
  Plain laws of the cartons' models: the exact laws' own helpers, the best shelf, where a file is. Conditions: lists that are not too long.
-/
import Derived.Test.YtfebeomnlkfgoaaPd
set_option linter.unusedSimpArgs false
set_option linter.unusedVariables false
namespace Go.Proofs.Ytfebeomnlkfgoaa
open Go.VS
end Go.Proofs.Ytfebeomnlkfgoaa
