/-
  DERIVED. GIVEN WITH THE SEED: THE CARDS: each row of YtfebeomnlkfgoaaDoorRows.lean that lists a variable, with what it lists TIED to the program's text (the seventh form; the later family's looks); each row that meets fmt, with fmt's text TOLD by the authors' own Lean function (tested against real Go, not proved from fmt's source: count such statements apart). THE CARD IS WHAT COUNTS. Prove the row's statement (the work); the ties are given (YtfebeomnlkfgoaaDoorTie.lean); close each card by the builder's one call (the guide's Derived/Test/ToyasCard.lean, 'card_holds'). Laid BY PROGRAM, IN A SANDBOX (cutbox-door.mjs). By AI agents, Wed Nov 11 2026. No macro, syntax, notation, axiom, sorry.
-/
import Derived.Test.YtfebeomnlkfgoaaDoorRows
import GoSem.ClaimSeven
namespace Go.Proofs.YtfebeomnlkfgoaaDoor
namespace Rows

/-- THE TIED CARD OF 'laws.FnFees'. -/
def fnFeesCard : Claim7 := { stood := { row := fnFeesRow, standIns := [], harness := (true, "bc5b2fbf358132312b23c47a7e6838a322b2c1a7ae7422148e6771c1adf8579a"), looks := false }, kinds := [], alts := [], laidByText := true, laidKinds := [.data, .data, .data], laidTests := true, laidLooks := .later }
def FnFeesCardSaid : Prop := Claim7.holds Tryd.pinned (.plain (OpenSpec.ofChange fnFeesSpec)) fnFeesCard

/-- THE TIED CARD OF 'laws.FnRedactions'. -/
def fnRedactionsCard : Claim7 := { stood := { row := fnRedactionsRow, standIns := [], harness := (true, "bc5b2fbf358132312b23c47a7e6838a322b2c1a7ae7422148e6771c1adf8579a"), looks := false }, kinds := [], alts := [], laidByText := true, laidKinds := [.data, .data, .data, .data, .pinned], laidTests := true, laidLooks := .later }
def FnRedactionsCardSaid : Prop := Claim7.holds Tryd.pinned (.plain (OpenSpec.ofChange fnRedactionsSpec)) fnRedactionsCard

/-- THE TIED CARD OF 'laws.FnPages'. -/
def fnPagesCard : Claim7 := { stood := { row := fnPagesRow, standIns := [], harness := (true, "bc5b2fbf358132312b23c47a7e6838a322b2c1a7ae7422148e6771c1adf8579a"), looks := false }, kinds := [], alts := [], laidByText := true, laidKinds := [.data, .pinned], laidTests := true, laidLooks := .later }
def FnPagesCardSaid : Prop := Claim7.holds Tryd.pinned (.plain (OpenSpec.ofChange fnPagesSpec)) fnPagesCard

/-- THE TIED CARD OF 'laws.FnSplitJoin'. -/
def fnSplitJoinCard : Claim7 := { stood := { row := fnSplitJoinRow, standIns := [], harness := (true, "bc5b2fbf358132312b23c47a7e6838a322b2c1a7ae7422148e6771c1adf8579a"), looks := false }, kinds := [], alts := [], laidByText := true, laidKinds := [.data, .pinned], laidTests := true, laidLooks := .later }
def FnSplitJoinCardSaid : Prop := Claim7.holds Tryd.pinned (.plain (OpenSpec.ofChange fnSplitJoinSpec)) fnSplitJoinCard

/-- THE SECOND FORM's CARD OF 'laws.FnFees'. -/
def fnFeesUptoCard : Claim7 := { stood := { row := fnFeesUptoRow, standIns := [], harness := (true, "bc5b2fbf358132312b23c47a7e6838a322b2c1a7ae7422148e6771c1adf8579a"), looks := false }, kinds := [], alts := [], laidByText := true, laidKinds := [.data, .data, .data], laidTests := true, laidLooks := .later }
def FnFeesUptoCardSaid : Prop := Claim7.holds Tryd.pinned (.plain (OpenSpec.upto fnFeesSpec)) fnFeesUptoCard

/-- THE SECOND FORM's CARD OF 'laws.FnRedactions'. -/
def fnRedactionsUptoCard : Claim7 := { stood := { row := fnRedactionsUptoRow, standIns := [], harness := (true, "bc5b2fbf358132312b23c47a7e6838a322b2c1a7ae7422148e6771c1adf8579a"), looks := false }, kinds := [], alts := [], laidByText := true, laidKinds := [.data, .data, .data, .data, .pinned], laidTests := true, laidLooks := .later }
def FnRedactionsUptoCardSaid : Prop := Claim7.holds Tryd.pinned (.plain (OpenSpec.upto fnRedactionsSpec)) fnRedactionsUptoCard

/-- THE SECOND FORM's CARD OF 'laws.FnPages'. -/
def fnPagesUptoCard : Claim7 := { stood := { row := fnPagesUptoRow, standIns := [], harness := (true, "bc5b2fbf358132312b23c47a7e6838a322b2c1a7ae7422148e6771c1adf8579a"), looks := false }, kinds := [], alts := [], laidByText := true, laidKinds := [.data, .pinned], laidTests := true, laidLooks := .later }
def FnPagesUptoCardSaid : Prop := Claim7.holds Tryd.pinned (.plain (OpenSpec.upto fnPagesSpec)) fnPagesUptoCard

/-- THE SECOND FORM's CARD OF 'laws.FnSplitJoin'. -/
def fnSplitJoinUptoCard : Claim7 := { stood := { row := fnSplitJoinUptoRow, standIns := [], harness := (true, "bc5b2fbf358132312b23c47a7e6838a322b2c1a7ae7422148e6771c1adf8579a"), looks := false }, kinds := [], alts := [], laidByText := true, laidKinds := [.data, .pinned], laidTests := true, laidLooks := .later }
def FnSplitJoinUptoCardSaid : Prop := Claim7.holds Tryd.pinned (.plain (OpenSpec.upto fnSplitJoinSpec)) fnSplitJoinUptoCard
end Rows
end Go.Proofs.YtfebeomnlkfgoaaDoor
