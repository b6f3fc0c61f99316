/-
  Draws of records, schedules and holds. Plain.
-/
import Derived.Test.YthcmelnpcaijaaaDoorTc
import Derived.Test.YthcmelnpcaijaaaDoorHb
set_option linter.unusedSimpArgs false
set_option linter.unusedVariables false
namespace Go.Proofs.YthcmelnpcaijaaaDoor
open Go.VS

theorem slc_len {β : Type} {l : List β} {a b : Int} : (slc l a b).length ≤ l.length := by
  unfold slc
  simp only [List.length_drop, List.length_take]
  omega

end Go.Proofs.YthcmelnpcaijaaaDoor
