/-
  DERIVED. GIVEN WITH THE SEED: THE CARDS: each row of YthcmelnpcaijaaaGreatDoorRows.lean that lists a variable, with what it lists TIED to the program's text (the seventh form; the later family's looks); each row that meets fmt, with fmt's text TOLD by the authors' own Lean function (tested against real Go, not proved from fmt's source: count such statements apart). THE CARD IS WHAT COUNTS. Prove the row's statement (the work); the ties are given (YthcmelnpcaijaaaGreatDoorTie.lean); close each card by the builder's one call (the guide's Derived/Test/ToyasCard.lean, 'card_holds'). Laid BY PROGRAM, IN A SANDBOX (cutbox-door.mjs). By AI agents, Wed Nov 11 2026. No macro, syntax, notation, axiom, sorry.
-/
import Derived.Test.YthcmelnpcaijaaaGreatDoorRows
import GoSem.ClaimSeven
namespace Go.Proofs.YthcmelnpcaijaaaGreatDoor
namespace Rows

/-- THE TIED CARD OF 'laws.FnSchedules'. -/
def fnSchedulesCard : Claim7 := { stood := { row := fnSchedulesRow, standIns := [], harness := (true, "aa5492d71d7ec57e3b8f84f01c500bc2930189e126bb9c2ae8b3b606152107ce"), looks := false }, kinds := [], alts := [], laidByText := true, laidKinds := [.data, .data, .data, .data, .pinned], laidTests := true, laidLooks := .later }
def FnSchedulesCardSaid : Prop := Claim7.holds Tryz.pinned (.plain (OpenSpec.ofChange fnSchedulesSpec)) fnSchedulesCard

/-- THE SECOND FORM's CARD OF 'laws.FnSchedules'. -/
def fnSchedulesUptoCard : Claim7 := { stood := { row := fnSchedulesUptoRow, standIns := [], harness := (true, "aa5492d71d7ec57e3b8f84f01c500bc2930189e126bb9c2ae8b3b606152107ce"), looks := false }, kinds := [], alts := [], laidByText := true, laidKinds := [.data, .data, .data, .data, .pinned], laidTests := true, laidLooks := .later }
def FnSchedulesUptoCardSaid : Prop := Claim7.holds Tryz.pinned (.plain (OpenSpec.upto fnSchedulesSpec)) fnSchedulesUptoCard
end Rows
end Go.Proofs.YthcmelnpcaijaaaGreatDoor
