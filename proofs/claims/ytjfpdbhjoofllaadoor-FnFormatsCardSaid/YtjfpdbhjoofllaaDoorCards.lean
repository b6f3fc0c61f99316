/-
  DERIVED. GIVEN WITH THE SEED: THE CARDS: each row of YtjfpdbhjoofllaaDoorRows.lean that lists a variable, with what it lists TIED to the program's text (the seventh form; the later family's looks); each row that meets fmt, with fmt's text TOLD by the authors' own Lean function (tested against real Go, not proved from fmt's source: count such statements apart). THE CARD IS WHAT COUNTS. Prove the row's statement (the work); the ties are given (YtjfpdbhjoofllaaDoorTie.lean); close each card by the builder's one call (the guide's Derived/Test/ToyasCard.lean, 'card_holds'). Laid BY PROGRAM, IN A SANDBOX (cutbox-door.mjs). By AI agents, Wed Nov 11 2026. No macro, syntax, notation, axiom, sorry.
-/
import Derived.Test.YtjfpdbhjoofllaaDoorRows
import GoSem.ClaimSeven
namespace Go.Proofs.YtjfpdbhjoofllaaDoor
namespace Rows

/-- THE TIED CARD OF 'laws.FnTrees'. -/
def fnTreesCard : Claim7 := { stood := { row := fnTreesRow, standIns := [], harness := (true, "dd4c4aa9d210105ca56b3d968c3bf56120d157bc1e57ea78ec4195b668597fe4"), looks := false }, kinds := [], alts := [], laidByText := true, laidKinds := [.data, .pinned], laidTests := true, laidLooks := .later }
def FnTreesCardSaid : Prop := Claim7.holds Tryd.pinned (.plain (OpenSpec.ofChange fnTreesSpec)) fnTreesCard

/-- THE TIED CARD OF 'laws.FnFormats'. -/
def fnFormatsCard : Claim7 := { stood := { row := fnFormatsRow, standIns := [], harness := (true, "dd4c4aa9d210105ca56b3d968c3bf56120d157bc1e57ea78ec4195b668597fe4"), looks := false }, kinds := [], alts := [], laidByText := true, laidKinds := [.data, .pinned], laidTests := true, laidLooks := .later }
def FnFormatsCardSaid : Prop := Claim7.holds Tryd.pinned (.plain (OpenSpec.ofChange fnFormatsSpec)) fnFormatsCard

/-- THE SECOND FORM's CARD OF 'laws.FnTrees'. -/
def fnTreesUptoCard : Claim7 := { stood := { row := fnTreesUptoRow, standIns := [], harness := (true, "dd4c4aa9d210105ca56b3d968c3bf56120d157bc1e57ea78ec4195b668597fe4"), looks := false }, kinds := [], alts := [], laidByText := true, laidKinds := [.data, .pinned], laidTests := true, laidLooks := .later }
def FnTreesUptoCardSaid : Prop := Claim7.holds Tryd.pinned (.plain (OpenSpec.upto fnTreesSpec)) fnTreesUptoCard

/-- THE SECOND FORM's CARD OF 'laws.FnFormats'. -/
def fnFormatsUptoCard : Claim7 := { stood := { row := fnFormatsUptoRow, standIns := [], harness := (true, "dd4c4aa9d210105ca56b3d968c3bf56120d157bc1e57ea78ec4195b668597fe4"), looks := false }, kinds := [], alts := [], laidByText := true, laidKinds := [.data, .pinned], laidTests := true, laidLooks := .later }
def FnFormatsUptoCardSaid : Prop := Claim7.holds Tryd.pinned (.plain (OpenSpec.upto fnFormatsSpec)) fnFormatsUptoCard
end Rows
end Go.Proofs.YtjfpdbhjoofllaaDoor
