/-
  DERIVED. GIVEN WITH THE SEED: THE CARDS: each row of YthfndefhmmfjaaaDoorRows.lean that lists a variable, with what it lists TIED to the program's text (the seventh form; the later family's looks); each row that meets fmt, with fmt's text TOLD by the authors' own Lean function (tested against real Go, not proved from fmt's source: count such statements apart). THE CARD IS WHAT COUNTS. Prove the row's statement (the work); the ties are given (YthfndefhmmfjaaaDoorTie.lean); close each card by the builder's one call (the guide's Derived/Test/ToyasCard.lean, 'card_holds'). Laid BY PROGRAM, IN A SANDBOX (cutbox-door.mjs). By AI agents, Wed Nov 11 2026. No macro, syntax, notation, axiom, sorry.
-/
import Derived.Test.YthfndefhmmfjaaaDoorRows
import GoSem.ClaimSeven
namespace Go.Proofs.YthfndefhmmfjaaaDoor
namespace Rows

/-- THE TIED CARD OF 'laws.FnGrowth'. -/
def fnGrowthCard : Claim7 := { stood := { row := fnGrowthRow, standIns := [], harness := (true, "6bc5fc6c0d5ef1fea356a8e7ad8c2d5f82fdbcdd1aa0268afd71d77a1b604c30"), looks := false }, kinds := [], alts := [], laidByText := true, laidKinds := [.data, .pinned], laidTests := true, laidLooks := .later }
def FnGrowthCardSaid : Prop := Claim7.holds Tryd.pinned (.plain (OpenSpec.ofChange fnGrowthSpec)) fnGrowthCard

/-- THE TIED CARD OF 'laws.FnTrees'. -/
def fnTreesCard : Claim7 := { stood := { row := fnTreesRow, standIns := [], harness := (true, "6bc5fc6c0d5ef1fea356a8e7ad8c2d5f82fdbcdd1aa0268afd71d77a1b604c30"), looks := false }, kinds := [], alts := [], laidByText := true, laidKinds := [.data, .pinned], laidTests := true, laidLooks := .later }
def FnTreesCardSaid : Prop := Claim7.holds Tryd.pinned (.plain (OpenSpec.ofChange fnTreesSpec)) fnTreesCard

/-- THE TIED CARD OF 'laws.FnFormats'. -/
def fnFormatsCard : Claim7 := { stood := { row := fnFormatsRow, standIns := [], harness := (true, "6bc5fc6c0d5ef1fea356a8e7ad8c2d5f82fdbcdd1aa0268afd71d77a1b604c30"), looks := false }, kinds := [], alts := [], laidByText := true, laidKinds := [.data, .pinned], laidTests := true, laidLooks := .later }
def FnFormatsCardSaid : Prop := Claim7.holds Tryd.pinned (.plain (OpenSpec.ofChange fnFormatsSpec)) fnFormatsCard

/-- THE TIED CARD OF 'laws.FnFiles'. -/
def fnFilesCard : Claim7 := { stood := { row := fnFilesRow, standIns := [], harness := (true, "6bc5fc6c0d5ef1fea356a8e7ad8c2d5f82fdbcdd1aa0268afd71d77a1b604c30"), looks := false }, kinds := [], alts := [], laidByText := true, laidKinds := [.data, .pinned], laidTests := true, laidLooks := .later }
def FnFilesCardSaid : Prop := Claim7.holds Tryd.pinned (.plain (OpenSpec.ofChange fnFilesSpec)) fnFilesCard

/-- THE TIED CARD OF 'laws.FnPages'. -/
def fnPagesCard : Claim7 := { stood := { row := fnPagesRow, standIns := [], harness := (true, "6bc5fc6c0d5ef1fea356a8e7ad8c2d5f82fdbcdd1aa0268afd71d77a1b604c30"), looks := false }, kinds := [], alts := [], laidByText := true, laidKinds := [.data, .pinned], laidTests := true, laidLooks := .later }
def FnPagesCardSaid : Prop := Claim7.holds Tryd.pinned (.plain (OpenSpec.ofChange fnPagesSpec)) fnPagesCard

/-- THE TIED CARD OF 'laws.FnPaths'. -/
def fnPathsCard : Claim7 := { stood := { row := fnPathsRow, standIns := [], harness := (true, "6bc5fc6c0d5ef1fea356a8e7ad8c2d5f82fdbcdd1aa0268afd71d77a1b604c30"), looks := false }, kinds := [], alts := [], laidByText := true, laidKinds := [.data, .pinned], laidTests := true, laidLooks := .later }
def FnPathsCardSaid : Prop := Claim7.holds Tryd.pinned (.plain (OpenSpec.ofChange fnPathsSpec)) fnPathsCard

/-- THE TIED CARD OF 'laws.FnRedactions'. -/
def fnRedactionsCard : Claim7 := { stood := { row := fnRedactionsRow, standIns := [], harness := (true, "6bc5fc6c0d5ef1fea356a8e7ad8c2d5f82fdbcdd1aa0268afd71d77a1b604c30"), looks := false }, kinds := [], alts := [], laidByText := true, laidKinds := [.data, .data, .data, .data, .pinned], laidTests := true, laidLooks := .later }
def FnRedactionsCardSaid : Prop := Claim7.holds Tryd.pinned (.plain (OpenSpec.ofChange fnRedactionsSpec)) fnRedactionsCard

/-- THE TIED CARD OF 'laws.FnCertificates'. -/
def fnCertificatesCard : Claim7 := { stood := { row := fnCertificatesRow, standIns := [], harness := (true, "6bc5fc6c0d5ef1fea356a8e7ad8c2d5f82fdbcdd1aa0268afd71d77a1b604c30"), looks := false }, kinds := [], alts := [], laidByText := true, laidKinds := [.data, .data, .data, .data, .pinned], laidTests := true, laidLooks := .later }
def FnCertificatesCardSaid : Prop := Claim7.holds Tryd.pinned (.plain (OpenSpec.ofChange fnCertificatesSpec)) fnCertificatesCard

/-- THE TIED CARD OF 'laws.FnLedgers'. -/
def fnLedgersCard : Claim7 := { stood := { row := fnLedgersRow, standIns := [], harness := (true, "6bc5fc6c0d5ef1fea356a8e7ad8c2d5f82fdbcdd1aa0268afd71d77a1b604c30"), looks := false }, kinds := [], alts := [], laidByText := true, laidKinds := [.data, .data, .data, .data, .pinned], laidTests := true, laidLooks := .later }
def FnLedgersCardSaid : Prop := Claim7.holds Tryd.pinned (.plain (OpenSpec.ofChange fnLedgersSpec)) fnLedgersCard

/-- THE SECOND FORM's CARD OF 'laws.FnGrowth'. -/
def fnGrowthUptoCard : Claim7 := { stood := { row := fnGrowthUptoRow, standIns := [], harness := (true, "6bc5fc6c0d5ef1fea356a8e7ad8c2d5f82fdbcdd1aa0268afd71d77a1b604c30"), looks := false }, kinds := [], alts := [], laidByText := true, laidKinds := [.data, .pinned], laidTests := true, laidLooks := .later }
def FnGrowthUptoCardSaid : Prop := Claim7.holds Tryd.pinned (.plain (OpenSpec.upto fnGrowthSpec)) fnGrowthUptoCard

/-- THE SECOND FORM's CARD OF 'laws.FnTrees'. -/
def fnTreesUptoCard : Claim7 := { stood := { row := fnTreesUptoRow, standIns := [], harness := (true, "6bc5fc6c0d5ef1fea356a8e7ad8c2d5f82fdbcdd1aa0268afd71d77a1b604c30"), looks := false }, kinds := [], alts := [], laidByText := true, laidKinds := [.data, .pinned], laidTests := true, laidLooks := .later }
def FnTreesUptoCardSaid : Prop := Claim7.holds Tryd.pinned (.plain (OpenSpec.upto fnTreesSpec)) fnTreesUptoCard

/-- THE SECOND FORM's CARD OF 'laws.FnFormats'. -/
def fnFormatsUptoCard : Claim7 := { stood := { row := fnFormatsUptoRow, standIns := [], harness := (true, "6bc5fc6c0d5ef1fea356a8e7ad8c2d5f82fdbcdd1aa0268afd71d77a1b604c30"), looks := false }, kinds := [], alts := [], laidByText := true, laidKinds := [.data, .pinned], laidTests := true, laidLooks := .later }
def FnFormatsUptoCardSaid : Prop := Claim7.holds Tryd.pinned (.plain (OpenSpec.upto fnFormatsSpec)) fnFormatsUptoCard

/-- THE SECOND FORM's CARD OF 'laws.FnFiles'. -/
def fnFilesUptoCard : Claim7 := { stood := { row := fnFilesUptoRow, standIns := [], harness := (true, "6bc5fc6c0d5ef1fea356a8e7ad8c2d5f82fdbcdd1aa0268afd71d77a1b604c30"), looks := false }, kinds := [], alts := [], laidByText := true, laidKinds := [.data, .pinned], laidTests := true, laidLooks := .later }
def FnFilesUptoCardSaid : Prop := Claim7.holds Tryd.pinned (.plain (OpenSpec.upto fnFilesSpec)) fnFilesUptoCard

/-- THE SECOND FORM's CARD OF 'laws.FnPages'. -/
def fnPagesUptoCard : Claim7 := { stood := { row := fnPagesUptoRow, standIns := [], harness := (true, "6bc5fc6c0d5ef1fea356a8e7ad8c2d5f82fdbcdd1aa0268afd71d77a1b604c30"), looks := false }, kinds := [], alts := [], laidByText := true, laidKinds := [.data, .pinned], laidTests := true, laidLooks := .later }
def FnPagesUptoCardSaid : Prop := Claim7.holds Tryd.pinned (.plain (OpenSpec.upto fnPagesSpec)) fnPagesUptoCard

/-- THE SECOND FORM's CARD OF 'laws.FnPaths'. -/
def fnPathsUptoCard : Claim7 := { stood := { row := fnPathsUptoRow, standIns := [], harness := (true, "6bc5fc6c0d5ef1fea356a8e7ad8c2d5f82fdbcdd1aa0268afd71d77a1b604c30"), looks := false }, kinds := [], alts := [], laidByText := true, laidKinds := [.data, .pinned], laidTests := true, laidLooks := .later }
def FnPathsUptoCardSaid : Prop := Claim7.holds Tryd.pinned (.plain (OpenSpec.upto fnPathsSpec)) fnPathsUptoCard

/-- THE SECOND FORM's CARD OF 'laws.FnRedactions'. -/
def fnRedactionsUptoCard : Claim7 := { stood := { row := fnRedactionsUptoRow, standIns := [], harness := (true, "6bc5fc6c0d5ef1fea356a8e7ad8c2d5f82fdbcdd1aa0268afd71d77a1b604c30"), looks := false }, kinds := [], alts := [], laidByText := true, laidKinds := [.data, .data, .data, .data, .pinned], laidTests := true, laidLooks := .later }
def FnRedactionsUptoCardSaid : Prop := Claim7.holds Tryd.pinned (.plain (OpenSpec.upto fnRedactionsSpec)) fnRedactionsUptoCard

/-- THE SECOND FORM's CARD OF 'laws.FnCertificates'. -/
def fnCertificatesUptoCard : Claim7 := { stood := { row := fnCertificatesUptoRow, standIns := [], harness := (true, "6bc5fc6c0d5ef1fea356a8e7ad8c2d5f82fdbcdd1aa0268afd71d77a1b604c30"), looks := false }, kinds := [], alts := [], laidByText := true, laidKinds := [.data, .data, .data, .data, .pinned], laidTests := true, laidLooks := .later }
def FnCertificatesUptoCardSaid : Prop := Claim7.holds Tryd.pinned (.plain (OpenSpec.upto fnCertificatesSpec)) fnCertificatesUptoCard

/-- THE SECOND FORM's CARD OF 'laws.FnLedgers'. -/
def fnLedgersUptoCard : Claim7 := { stood := { row := fnLedgersUptoRow, standIns := [], harness := (true, "6bc5fc6c0d5ef1fea356a8e7ad8c2d5f82fdbcdd1aa0268afd71d77a1b604c30"), looks := false }, kinds := [], alts := [], laidByText := true, laidKinds := [.data, .data, .data, .data, .pinned], laidTests := true, laidLooks := .later }
def FnLedgersUptoCardSaid : Prop := Claim7.holds Tryd.pinned (.plain (OpenSpec.upto fnLedgersSpec)) fnLedgersUptoCard
end Rows
end Go.Proofs.YthfndefhmmfjaaaDoor
