/-
  DERIVED. GIVEN WITH THE SEED: THE CARDS: each row of YthcmelnpcaijaaaDoorRows.lean that lists a variable, with what it lists TIED to the program's text (the seventh form; the later family's looks); each row that meets fmt, with fmt's text TOLD by the authors' own Lean function (tested against real Go, not proved from fmt's source: count such statements apart). THE CARD IS WHAT COUNTS. Prove the row's statement (the work); the ties are given (YthcmelnpcaijaaaDoorTie.lean); close each card by the builder's one call (the guide's Derived/Test/ToyasCard.lean, 'card_holds'). Laid BY PROGRAM, IN A SANDBOX (cutbox-door.mjs). By AI agents, Wed Nov 11 2026. No macro, syntax, notation, axiom, sorry.
-/
import Derived.Test.YthcmelnpcaijaaaDoorRows
import GoSem.ClaimSeven
namespace Go.Proofs.YthcmelnpcaijaaaDoor
namespace Rows

/-- THE TIED CARD OF 'laws.FnLedgers'. -/
def fnLedgersCard : Claim7 := { stood := { row := fnLedgersRow, standIns := [], harness := (true, "ffc4c93a79df8ed92c4727bd0d1790036be22e10cc703111488d4ae83d0209fc"), looks := true }, kinds := [], alts := [], laidByText := true, laidKinds := [.data, .data, .data, .data, .pinned], laidTests := true, laidLooks := .later }
def FnLedgersCardSaid : Prop := Claim7.holds Tryd.pinned (.plain (OpenSpec.ofChange fnLedgersSpec)) fnLedgersCard

/-- THE TIED CARD OF 'laws.FnCertificates'. -/
def fnCertificatesCard : Claim7 := { stood := { row := fnCertificatesRow, standIns := [], harness := (true, "ffc4c93a79df8ed92c4727bd0d1790036be22e10cc703111488d4ae83d0209fc"), looks := true }, kinds := [], alts := [], laidByText := true, laidKinds := [.data, .data, .data, .data, .pinned], laidTests := true, laidLooks := .later }
def FnCertificatesCardSaid : Prop := Claim7.holds Tryd.pinned (.plain (OpenSpec.ofChange fnCertificatesSpec)) fnCertificatesCard

/-- THE TIED CARD OF 'laws.FnStrings'. -/
def fnStringsCard : Claim7 := { stood := { row := fnStringsRow, standIns := [], harness := (true, "ffc4c93a79df8ed92c4727bd0d1790036be22e10cc703111488d4ae83d0209fc"), looks := true }, kinds := [], alts := [], laidByText := true, laidKinds := [.data, .data, .data, .sentinel, .sentinel], laidTests := true, laidLooks := .later }
def FnStringsCardSaid : Prop := Claim7.holds Tryd.pinned (.plain (OpenSpec.ofChange fnStringsSpec)) fnStringsCard

/-- THE TIED CARD OF 'laws.FnRecords'. -/
def fnRecordsCard : Claim7 := { stood := { row := fnRecordsRow, standIns := [], harness := (true, "ffc4c93a79df8ed92c4727bd0d1790036be22e10cc703111488d4ae83d0209fc"), looks := true }, kinds := [], alts := [], laidByText := true, laidKinds := [.data, .data, .data, .data, .pinned], laidTests := true, laidLooks := .later }
def FnRecordsCardSaid : Prop := Claim7.holds Tryd.pinned (.plain (OpenSpec.ofChange fnRecordsSpec)) fnRecordsCard

/-- THE TIED CARD OF 'laws.FnHiddenWords'. -/
def fnHiddenWordsCard : Claim7 := { stood := { row := fnHiddenWordsRow, standIns := [], harness := (true, "ffc4c93a79df8ed92c4727bd0d1790036be22e10cc703111488d4ae83d0209fc"), looks := true }, kinds := [], alts := [], laidByText := true, laidKinds := [.data, .pinned], laidTests := true, laidLooks := .later }
def FnHiddenWordsCardSaid : Prop := Claim7.holds Tryd.pinned (.plain (OpenSpec.ofChange fnHiddenWordsSpec)) fnHiddenWordsCard

/-- THE TIED CARD OF 'laws.FnPages'. -/
def fnPagesCard : Claim7 := { stood := { row := fnPagesRow, standIns := [], harness := (true, "ffc4c93a79df8ed92c4727bd0d1790036be22e10cc703111488d4ae83d0209fc"), looks := true }, kinds := [], alts := [], laidByText := true, laidKinds := [.data, .pinned], laidTests := true, laidLooks := .later }
def FnPagesCardSaid : Prop := Claim7.holds Tryd.pinned (.plain (OpenSpec.ofChange fnPagesSpec)) fnPagesCard

/-- THE TIED CARD OF 'laws.FnPaths'. -/
def fnPathsCard : Claim7 := { stood := { row := fnPathsRow, standIns := [], harness := (true, "ffc4c93a79df8ed92c4727bd0d1790036be22e10cc703111488d4ae83d0209fc"), looks := true }, kinds := [], alts := [], laidByText := true, laidKinds := [.data, .pinned], laidTests := true, laidLooks := .later }
def FnPathsCardSaid : Prop := Claim7.holds Tryd.pinned (.plain (OpenSpec.ofChange fnPathsSpec)) fnPathsCard

/-- THE SECOND FORM's CARD OF 'laws.FnLedgers'. -/
def fnLedgersUptoCard : Claim7 := { stood := { row := fnLedgersUptoRow, standIns := [], harness := (true, "ffc4c93a79df8ed92c4727bd0d1790036be22e10cc703111488d4ae83d0209fc"), looks := true }, kinds := [], alts := [], laidByText := true, laidKinds := [.data, .data, .data, .data, .pinned], laidTests := true, laidLooks := .later }
def FnLedgersUptoCardSaid : Prop := Claim7.holds Tryd.pinned (.plain (OpenSpec.upto fnLedgersSpec)) fnLedgersUptoCard

/-- THE SECOND FORM's CARD OF 'laws.FnCertificates'. -/
def fnCertificatesUptoCard : Claim7 := { stood := { row := fnCertificatesUptoRow, standIns := [], harness := (true, "ffc4c93a79df8ed92c4727bd0d1790036be22e10cc703111488d4ae83d0209fc"), looks := true }, kinds := [], alts := [], laidByText := true, laidKinds := [.data, .data, .data, .data, .pinned], laidTests := true, laidLooks := .later }
def FnCertificatesUptoCardSaid : Prop := Claim7.holds Tryd.pinned (.plain (OpenSpec.upto fnCertificatesSpec)) fnCertificatesUptoCard

/-- THE SECOND FORM's CARD OF 'laws.FnStrings'. -/
def fnStringsUptoCard : Claim7 := { stood := { row := fnStringsUptoRow, standIns := [], harness := (true, "ffc4c93a79df8ed92c4727bd0d1790036be22e10cc703111488d4ae83d0209fc"), looks := true }, kinds := [], alts := [], laidByText := true, laidKinds := [.data, .data, .data, .sentinel, .sentinel], laidTests := true, laidLooks := .later }
def FnStringsUptoCardSaid : Prop := Claim7.holds Tryd.pinned (.plain (OpenSpec.upto fnStringsSpec)) fnStringsUptoCard

/-- THE SECOND FORM's CARD OF 'laws.FnRecords'. -/
def fnRecordsUptoCard : Claim7 := { stood := { row := fnRecordsUptoRow, standIns := [], harness := (true, "ffc4c93a79df8ed92c4727bd0d1790036be22e10cc703111488d4ae83d0209fc"), looks := true }, kinds := [], alts := [], laidByText := true, laidKinds := [.data, .data, .data, .data, .pinned], laidTests := true, laidLooks := .later }
def FnRecordsUptoCardSaid : Prop := Claim7.holds Tryd.pinned (.plain (OpenSpec.upto fnRecordsSpec)) fnRecordsUptoCard

/-- THE SECOND FORM's CARD OF 'laws.FnHiddenWords'. -/
def fnHiddenWordsUptoCard : Claim7 := { stood := { row := fnHiddenWordsUptoRow, standIns := [], harness := (true, "ffc4c93a79df8ed92c4727bd0d1790036be22e10cc703111488d4ae83d0209fc"), looks := true }, kinds := [], alts := [], laidByText := true, laidKinds := [.data, .pinned], laidTests := true, laidLooks := .later }
def FnHiddenWordsUptoCardSaid : Prop := Claim7.holds Tryd.pinned (.plain (OpenSpec.upto fnHiddenWordsSpec)) fnHiddenWordsUptoCard

/-- THE SECOND FORM's CARD OF 'laws.FnPages'. -/
def fnPagesUptoCard : Claim7 := { stood := { row := fnPagesUptoRow, standIns := [], harness := (true, "ffc4c93a79df8ed92c4727bd0d1790036be22e10cc703111488d4ae83d0209fc"), looks := true }, kinds := [], alts := [], laidByText := true, laidKinds := [.data, .pinned], laidTests := true, laidLooks := .later }
def FnPagesUptoCardSaid : Prop := Claim7.holds Tryd.pinned (.plain (OpenSpec.upto fnPagesSpec)) fnPagesUptoCard

/-- THE SECOND FORM's CARD OF 'laws.FnPaths'. -/
def fnPathsUptoCard : Claim7 := { stood := { row := fnPathsUptoRow, standIns := [], harness := (true, "ffc4c93a79df8ed92c4727bd0d1790036be22e10cc703111488d4ae83d0209fc"), looks := true }, kinds := [], alts := [], laidByText := true, laidKinds := [.data, .pinned], laidTests := true, laidLooks := .later }
def FnPathsUptoCardSaid : Prop := Claim7.holds Tryd.pinned (.plain (OpenSpec.upto fnPathsSpec)) fnPathsUptoCard
end Rows
end Go.Proofs.YthcmelnpcaijaaaDoor
