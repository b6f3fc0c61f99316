/-
  DERIVED. GIVEN WITH THE SEED: THE CARDS: each row of YtlpnicmlgckdnaaDoorRows.lean that lists a variable, with what it lists TIED to the program's text (the seventh form; the later family's looks); each row that meets fmt, with fmt's text TOLD by the authors' own Lean function (tested against real Go, not proved from fmt's source: count such statements apart). THE CARD IS WHAT COUNTS. Prove the row's statement (the work); the ties are given (YtlpnicmlgckdnaaDoorTie.lean); close each card by the builder's one call (the guide's Derived/Test/ToyasCard.lean, 'card_holds'). Laid BY PROGRAM, IN A SANDBOX (cutbox-door.mjs). By AI agents, Wed Nov 11 2026. No macro, syntax, notation, axiom, sorry.
-/
import Derived.Test.YtlpnicmlgckdnaaDoorRows
import GoSem.ClaimSeven
namespace Go.Proofs.YtlpnicmlgckdnaaDoor
namespace Rows

/-- THE TIED CARD OF 'laws.FnExactIsQuery'. -/
def fnExactIsQueryCard : Claim7 := { stood := { row := fnExactIsQueryRow, standIns := [], harness := (true, "de2733573b70f84f9c2a2c623da762f3c41123de7a315b9cca4074d8065aa5b1"), looks := true }, kinds := [], alts := [], laidByText := true, laidKinds := [.data, .data, .data, .sentinel, .sentinel], laidTests := true, laidLooks := .later }
def FnExactIsQueryCardSaid : Prop := Claim7.holds Tryd.pinned (.plain (OpenSpec.ofChange fnExactIsQuerySpec)) fnExactIsQueryCard

/-- THE TIED CARD OF 'laws.FnExactNegatedQuery'. -/
def fnExactNegatedQueryCard : Claim7 := { stood := { row := fnExactNegatedQueryRow, standIns := [], harness := (true, "de2733573b70f84f9c2a2c623da762f3c41123de7a315b9cca4074d8065aa5b1"), looks := true }, kinds := [], alts := [], laidByText := true, laidKinds := [.data, .data, .data, .sentinel, .sentinel], laidTests := true, laidLooks := .later }
def FnExactNegatedQueryCardSaid : Prop := Claim7.holds Tryd.pinned (.plain (OpenSpec.ofChange fnExactNegatedQuerySpec)) fnExactNegatedQueryCard

/-- THE TIED CARD OF 'laws.FnExactNestingOf'. -/
def fnExactNestingOfCard : Claim7 := { stood := { row := fnExactNestingOfRow, standIns := [], harness := (true, "de2733573b70f84f9c2a2c623da762f3c41123de7a315b9cca4074d8065aa5b1"), looks := true }, kinds := [], alts := [], laidByText := true, laidKinds := [.data, .data, .data, .sentinel, .sentinel], laidTests := true, laidLooks := .later }
def FnExactNestingOfCardSaid : Prop := Claim7.holds Tryd.pinned (.plain (OpenSpec.ofChange fnExactNestingOfSpec)) fnExactNestingOfCard

/-- THE TIED CARD OF 'laws.FnExactTestCount'. -/
def fnExactTestCountCard : Claim7 := { stood := { row := fnExactTestCountRow, standIns := [], harness := (true, "de2733573b70f84f9c2a2c623da762f3c41123de7a315b9cca4074d8065aa5b1"), looks := true }, kinds := [], alts := [], laidByText := true, laidKinds := [.data, .data, .data, .sentinel, .sentinel], laidTests := true, laidLooks := .later }
def FnExactTestCountCardSaid : Prop := Claim7.holds Tryd.pinned (.plain (OpenSpec.ofChange fnExactTestCountSpec)) fnExactTestCountCard

/-- THE SECOND FORM's CARD OF 'laws.FnExactIsQuery'. -/
def fnExactIsQueryUptoCard : Claim7 := { stood := { row := fnExactIsQueryUptoRow, standIns := [], harness := (true, "de2733573b70f84f9c2a2c623da762f3c41123de7a315b9cca4074d8065aa5b1"), looks := true }, kinds := [], alts := [], laidByText := true, laidKinds := [.data, .data, .data, .sentinel, .sentinel], laidTests := true, laidLooks := .later }
def FnExactIsQueryUptoCardSaid : Prop := Claim7.holds Tryd.pinned (.plain (OpenSpec.upto fnExactIsQuerySpec)) fnExactIsQueryUptoCard

/-- THE SECOND FORM's CARD OF 'laws.FnExactNegatedQuery'. -/
def fnExactNegatedQueryUptoCard : Claim7 := { stood := { row := fnExactNegatedQueryUptoRow, standIns := [], harness := (true, "de2733573b70f84f9c2a2c623da762f3c41123de7a315b9cca4074d8065aa5b1"), looks := true }, kinds := [], alts := [], laidByText := true, laidKinds := [.data, .data, .data, .sentinel, .sentinel], laidTests := true, laidLooks := .later }
def FnExactNegatedQueryUptoCardSaid : Prop := Claim7.holds Tryd.pinned (.plain (OpenSpec.upto fnExactNegatedQuerySpec)) fnExactNegatedQueryUptoCard

/-- THE SECOND FORM's CARD OF 'laws.FnExactNestingOf'. -/
def fnExactNestingOfUptoCard : Claim7 := { stood := { row := fnExactNestingOfUptoRow, standIns := [], harness := (true, "de2733573b70f84f9c2a2c623da762f3c41123de7a315b9cca4074d8065aa5b1"), looks := true }, kinds := [], alts := [], laidByText := true, laidKinds := [.data, .data, .data, .sentinel, .sentinel], laidTests := true, laidLooks := .later }
def FnExactNestingOfUptoCardSaid : Prop := Claim7.holds Tryd.pinned (.plain (OpenSpec.upto fnExactNestingOfSpec)) fnExactNestingOfUptoCard

/-- THE SECOND FORM's CARD OF 'laws.FnExactTestCount'. -/
def fnExactTestCountUptoCard : Claim7 := { stood := { row := fnExactTestCountUptoRow, standIns := [], harness := (true, "de2733573b70f84f9c2a2c623da762f3c41123de7a315b9cca4074d8065aa5b1"), looks := true }, kinds := [], alts := [], laidByText := true, laidKinds := [.data, .data, .data, .sentinel, .sentinel], laidTests := true, laidLooks := .later }
def FnExactTestCountUptoCardSaid : Prop := Claim7.holds Tryd.pinned (.plain (OpenSpec.upto fnExactTestCountSpec)) fnExactTestCountUptoCard
end Rows
end Go.Proofs.YtlpnicmlgckdnaaDoor
