/-
  No cell of these rows narrows 'for every input' (looked for: loops, veiled, ifaces, maps, wideKeys, modest, calm, conditions, laid).
  DERIVED. THE GIVEN ROWS OF THIS SEAT. 8 by the template 'for every input the law returns true; each argument reads behind the call as it read before'; 0 by the template 'total and deterministic' (their statements: YtmpknfachmfbaaaTotals.lean).
  GIVEN WITH THE SEED: the statements are not yours to turn. If you find one false, say at which input.
  Laid BY PROGRAM, IN A SANDBOX (cutbox-rows.mjs): the forced cells as the released guide's own fill.sh prints them over the translation 192ab7b41fcaf1bd… (all of the seat's roots in one cut). By AI agents, Wed Nov 11 2026. No macro, syntax, notation, axiom, sorry.
-/
import Derived.Test.YtmpknfachmfbaaaChecked
import GoSem.Claim
import GoSem.ClaimJoined
import GoSem.ClaimMapViews
import Derived.JoinedTies
import Derived.KernelRfl
namespace Go.Proofs.Ytmpknfachmfbaaa
/- THE CELL 'sum', in the pinned program and in every row, IS THE sha256 OF THE DUMP (.gsa) THAT YtmpknfachmfbaaaProg.lean LOADS. Nothing in Lean hashes anything: it is a label: what it is worth is what the hold of that sum in a sandbox is worth. -/
noncomputable def Try.pinned : Pinned := { name := "ytmpknfachmfbaaa", sum := "192ab7b41fcaf1bd188ff16e1e91f518581696e9a33002fef701e22d225b0fd4", checked := Try.checked }
namespace Rows
def none {H : Type} : Left H := { results := [], args := [] }

/-- 'laws.FnExactHeldBy': WHATEVER THE INPUT: true; the input reads as it did. -/
def fnExactHeldBySpec : ChangeSpec := { name := "fnExactHeldBy", fn := fun _ => fun
  | [d1, d2, d3] => { results := [.lit (.bool true)], args := [d1, d2, d3] }
  | _ => none }
def fnExactHeldByRow : OpenClaim := { program := "ytmpknfachmfbaaa", sum := "192ab7b41fcaf1bd188ff16e1e91f518581696e9a33002fef701e22d225b0fd4", func := "loop.example/g01035/laws.FnExactHeldBy", spec := "fnExactHeldBy", recurses := true, apart := false }
def FnExactHeldBySaid : Prop := fnExactHeldByRow.holds Try.pinned (OpenSpec.ofChange fnExactHeldBySpec)

/-- ITS FALSE NEIGHBOUR: 'it returns false'. Refute it at one input. -/
def fnExactHeldByWrong : ChangeSpec := { name := "fnExactHeldBy", fn := fun _ => fun
  | [d1, d2, d3] => { results := [.lit (.bool false)], args := [d1, d2, d3] }
  | _ => none }
def FnExactHeldByWrongFalsely : Prop := fnExactHeldByRow.holds Try.pinned (OpenSpec.ofChange fnExactHeldByWrong)

/-- 'laws.FnExactNotWhole': WHATEVER THE INPUT: true; the input reads as it did. -/
def fnExactNotWholeSpec : ChangeSpec := { name := "fnExactNotWhole", fn := fun _ => fun
  | [d] => { results := [.lit (.bool true)], args := [d] }
  | _ => none }
def fnExactNotWholeRow : OpenClaim := { program := "ytmpknfachmfbaaa", sum := "192ab7b41fcaf1bd188ff16e1e91f518581696e9a33002fef701e22d225b0fd4", func := "loop.example/g01035/laws.FnExactNotWhole", spec := "fnExactNotWhole", recurses := true, apart := false }
def FnExactNotWholeSaid : Prop := fnExactNotWholeRow.holds Try.pinned (OpenSpec.ofChange fnExactNotWholeSpec)

/-- ITS FALSE NEIGHBOUR: 'it returns false'. Refute it at one input. -/
def fnExactNotWholeWrong : ChangeSpec := { name := "fnExactNotWhole", fn := fun _ => fun
  | [d] => { results := [.lit (.bool false)], args := [d] }
  | _ => none }
def FnExactNotWholeWrongFalsely : Prop := fnExactNotWholeRow.holds Try.pinned (OpenSpec.ofChange fnExactNotWholeWrong)

/-- 'laws.FnExactSuspects': WHATEVER THE INPUT: true; the input reads as it did. -/
def fnExactSuspectsSpec : ChangeSpec := { name := "fnExactSuspects", fn := fun _ => fun
  | [d1, d2] => { results := [.lit (.bool true)], args := [d1, d2] }
  | _ => none }
def fnExactSuspectsRow : OpenClaim := { program := "ytmpknfachmfbaaa", sum := "192ab7b41fcaf1bd188ff16e1e91f518581696e9a33002fef701e22d225b0fd4", func := "loop.example/g01035/laws.FnExactSuspects", spec := "fnExactSuspects", recurses := true, apart := false }
def FnExactSuspectsSaid : Prop := fnExactSuspectsRow.holds Try.pinned (OpenSpec.ofChange fnExactSuspectsSpec)

/-- ITS FALSE NEIGHBOUR: 'it returns false'. Refute it at one input. -/
def fnExactSuspectsWrong : ChangeSpec := { name := "fnExactSuspects", fn := fun _ => fun
  | [d1, d2] => { results := [.lit (.bool false)], args := [d1, d2] }
  | _ => none }
def FnExactSuspectsWrongFalsely : Prop := fnExactSuspectsRow.holds Try.pinned (OpenSpec.ofChange fnExactSuspectsWrong)

/-- 'laws.FnExactBrokenSeals': WHATEVER THE INPUT: true; the input reads as it did. -/
def fnExactBrokenSealsSpec : ChangeSpec := { name := "fnExactBrokenSeals", fn := fun _ => fun
  | [d] => { results := [.lit (.bool true)], args := [d] }
  | _ => none }
def fnExactBrokenSealsRow : OpenClaim := { program := "ytmpknfachmfbaaa", sum := "192ab7b41fcaf1bd188ff16e1e91f518581696e9a33002fef701e22d225b0fd4", func := "loop.example/g01035/laws.FnExactBrokenSeals", spec := "fnExactBrokenSeals", unfollowed := true, recurses := true, apart := false }
def FnExactBrokenSealsSaid : Prop := fnExactBrokenSealsRow.holds Try.pinned (OpenSpec.ofChange fnExactBrokenSealsSpec)

/-- ITS FALSE NEIGHBOUR: 'it returns false'. Refute it at one input. -/
def fnExactBrokenSealsWrong : ChangeSpec := { name := "fnExactBrokenSeals", fn := fun _ => fun
  | [d] => { results := [.lit (.bool false)], args := [d] }
  | _ => none }
def FnExactBrokenSealsWrongFalsely : Prop := fnExactBrokenSealsRow.holds Try.pinned (OpenSpec.ofChange fnExactBrokenSealsWrong)

/-- 'laws.FnCustody': WHATEVER THE INPUT: true; the input reads as it did. -/
def fnCustodySpec : ChangeSpec := { name := "fnCustody", fn := fun _ => fun
  | [d] => { results := [.lit (.bool true)], args := [d] }
  | _ => none }
def fnCustodyRow : OpenClaim := { program := "ytmpknfachmfbaaa", sum := "192ab7b41fcaf1bd188ff16e1e91f518581696e9a33002fef701e22d225b0fd4", func := "loop.example/g01035/laws.FnCustody", spec := "fnCustody", recurses := true, apart := false }
def FnCustodySaid : Prop := fnCustodyRow.holds Try.pinned (OpenSpec.ofChange fnCustodySpec)

/-- ITS FALSE NEIGHBOUR: 'it returns false'. Refute it at one input. -/
def fnCustodyWrong : ChangeSpec := { name := "fnCustody", fn := fun _ => fun
  | [d] => { results := [.lit (.bool false)], args := [d] }
  | _ => none }
def FnCustodyWrongFalsely : Prop := fnCustodyRow.holds Try.pinned (OpenSpec.ofChange fnCustodyWrong)

/-- 'laws.FnSeals': WHATEVER THE INPUT: true; the input reads as it did. -/
def fnSealsSpec : ChangeSpec := { name := "fnSeals", fn := fun _ => fun
  | [d] => { results := [.lit (.bool true)], args := [d] }
  | _ => none }
def fnSealsRow : OpenClaim := { program := "ytmpknfachmfbaaa", sum := "192ab7b41fcaf1bd188ff16e1e91f518581696e9a33002fef701e22d225b0fd4", func := "loop.example/g01035/laws.FnSeals", spec := "fnSeals", unfollowed := true, recurses := true, apart := false }
def FnSealsSaid : Prop := fnSealsRow.holds Try.pinned (OpenSpec.ofChange fnSealsSpec)

/-- ITS FALSE NEIGHBOUR: 'it returns false'. Refute it at one input. -/
def fnSealsWrong : ChangeSpec := { name := "fnSeals", fn := fun _ => fun
  | [d] => { results := [.lit (.bool false)], args := [d] }
  | _ => none }
def FnSealsWrongFalsely : Prop := fnSealsRow.holds Try.pinned (OpenSpec.ofChange fnSealsWrong)

/-- 'laws.FnDeadlines': WHATEVER THE INPUT: true; the input reads as it did. -/
def fnDeadlinesSpec : ChangeSpec := { name := "fnDeadlines", fn := fun _ => fun
  | [d] => { results := [.lit (.bool true)], args := [d] }
  | _ => none }
def fnDeadlinesRow : OpenClaim := { program := "ytmpknfachmfbaaa", sum := "192ab7b41fcaf1bd188ff16e1e91f518581696e9a33002fef701e22d225b0fd4", func := "loop.example/g01035/laws.FnDeadlines", spec := "fnDeadlines", unfollowed := true, recurses := true, apart := false }
def FnDeadlinesSaid : Prop := fnDeadlinesRow.holds Try.pinned (OpenSpec.ofChange fnDeadlinesSpec)

/-- ITS FALSE NEIGHBOUR: 'it returns false'. Refute it at one input. -/
def fnDeadlinesWrong : ChangeSpec := { name := "fnDeadlines", fn := fun _ => fun
  | [d] => { results := [.lit (.bool false)], args := [d] }
  | _ => none }
def FnDeadlinesWrongFalsely : Prop := fnDeadlinesRow.holds Try.pinned (OpenSpec.ofChange fnDeadlinesWrong)

/-- 'laws.FnEvents': WHATEVER THE INPUT: true; the input reads as it did. -/
def fnEventsSpec : ChangeSpec := { name := "fnEvents", fn := fun _ => fun
  | [d] => { results := [.lit (.bool true)], args := [d] }
  | _ => none }
def fnEventsRow : OpenClaim := { program := "ytmpknfachmfbaaa", sum := "192ab7b41fcaf1bd188ff16e1e91f518581696e9a33002fef701e22d225b0fd4", func := "loop.example/g01035/laws.FnEvents", spec := "fnEvents", inPlace := ["slices.overlaps[loop.example/g01035/impl.Event]"], unfollowed := true, recurses := true, apart := false }
def FnEventsSaid : Prop := fnEventsRow.holds Try.pinned (OpenSpec.ofChange fnEventsSpec)

/-- ITS FALSE NEIGHBOUR: 'it returns false'. Refute it at one input. -/
def fnEventsWrong : ChangeSpec := { name := "fnEvents", fn := fun _ => fun
  | [d] => { results := [.lit (.bool false)], args := [d] }
  | _ => none }
def FnEventsWrongFalsely : Prop := fnEventsRow.holds Try.pinned (OpenSpec.ofChange fnEventsWrong)

/- THE SECOND FORM. 'bulk': how many values and letters a reading holds, each counted each time it is reached (what is shared counts as often as it is met; a slice's spare places count too). A statement '..UptoSaid' is the law's where the arguments, and the package variables that the reading takes, are together of bulk at most 1048576: NARROWER than '..Said'. Prove '..Said' where nothing that the law and all that it calls make is longer than what came in: it says more and counts as full. Else prove '..UptoSaid'. A law counts once. -/
mutual
def uptoBulk {H : Type} : DataW H → Nat
  | .lit (.string bytes) => bytes.length + 1
  | .lit _ => 1
  | .nil => 1
  | .ptr d => uptoBulk d + 1
  | .slice elems spare => uptoBulkAll elems + uptoBulkAll spare + 1
  | .agg parts => uptoBulkAll parts + 1
  | .iface _ d => uptoBulk d + 1
  | .map entries => uptoBulkEntries entries + 1
  | .held _ => 1
def uptoBulkAll {H : Type} : List (DataW H) → Nat
  | [] => 0
  | d :: r => uptoBulk d + uptoBulkAll r
def uptoBulkEntries {H : Type} : List (Lit × DataW H) → Nat
  | [] => 0
  | x :: r => uptoBulkEntry x + uptoBulkEntries r
def uptoBulkEntry {H : Type} : Lit × DataW H → Nat
  | (.string bytes, d) => bytes.length + uptoBulk d + 1
  | (_, d) => uptoBulk d + 1
 end
def uptoSmall : (H : Type) → List (DataW H) → Bool := fun _ ds => decide (uptoBulkAll ds ≤ 1048576)
def OpenSpec.upto (s : _root_.Go.ChangeSpec) : _root_.Go.OpenSpec := { _root_.Go.OpenSpec.ofChange s with cond := some uptoSmall }

/-- 'laws.FnExactHeldBy', WHERE WHAT IT READS IS OF BULK AT MOST 1048576: true; the input reads as it did. -/
def fnExactHeldByUptoRow : OpenClaim := { program := "ytmpknfachmfbaaa", sum := "192ab7b41fcaf1bd188ff16e1e91f518581696e9a33002fef701e22d225b0fd4", func := "loop.example/g01035/laws.FnExactHeldBy", spec := "fnExactHeldBy", recurses := true, apart := false, narrowed := true }
def FnExactHeldByUptoSaid : Prop := fnExactHeldByUptoRow.holds Try.pinned (OpenSpec.upto fnExactHeldBySpec)

/-- 'laws.FnExactNotWhole', WHERE WHAT IT READS IS OF BULK AT MOST 1048576: true; the input reads as it did. -/
def fnExactNotWholeUptoRow : OpenClaim := { program := "ytmpknfachmfbaaa", sum := "192ab7b41fcaf1bd188ff16e1e91f518581696e9a33002fef701e22d225b0fd4", func := "loop.example/g01035/laws.FnExactNotWhole", spec := "fnExactNotWhole", recurses := true, apart := false, narrowed := true }
def FnExactNotWholeUptoSaid : Prop := fnExactNotWholeUptoRow.holds Try.pinned (OpenSpec.upto fnExactNotWholeSpec)

/-- 'laws.FnExactSuspects', WHERE WHAT IT READS IS OF BULK AT MOST 1048576: true; the input reads as it did. -/
def fnExactSuspectsUptoRow : OpenClaim := { program := "ytmpknfachmfbaaa", sum := "192ab7b41fcaf1bd188ff16e1e91f518581696e9a33002fef701e22d225b0fd4", func := "loop.example/g01035/laws.FnExactSuspects", spec := "fnExactSuspects", recurses := true, apart := false, narrowed := true }
def FnExactSuspectsUptoSaid : Prop := fnExactSuspectsUptoRow.holds Try.pinned (OpenSpec.upto fnExactSuspectsSpec)

/-- 'laws.FnExactBrokenSeals', WHERE WHAT IT READS IS OF BULK AT MOST 1048576: true; the input reads as it did. -/
def fnExactBrokenSealsUptoRow : OpenClaim := { program := "ytmpknfachmfbaaa", sum := "192ab7b41fcaf1bd188ff16e1e91f518581696e9a33002fef701e22d225b0fd4", func := "loop.example/g01035/laws.FnExactBrokenSeals", spec := "fnExactBrokenSeals", unfollowed := true, recurses := true, apart := false, narrowed := true }
def FnExactBrokenSealsUptoSaid : Prop := fnExactBrokenSealsUptoRow.holds Try.pinned (OpenSpec.upto fnExactBrokenSealsSpec)

/-- 'laws.FnCustody', WHERE WHAT IT READS IS OF BULK AT MOST 1048576: true; the input reads as it did. -/
def fnCustodyUptoRow : OpenClaim := { program := "ytmpknfachmfbaaa", sum := "192ab7b41fcaf1bd188ff16e1e91f518581696e9a33002fef701e22d225b0fd4", func := "loop.example/g01035/laws.FnCustody", spec := "fnCustody", recurses := true, apart := false, narrowed := true }
def FnCustodyUptoSaid : Prop := fnCustodyUptoRow.holds Try.pinned (OpenSpec.upto fnCustodySpec)

/-- 'laws.FnSeals', WHERE WHAT IT READS IS OF BULK AT MOST 1048576: true; the input reads as it did. -/
def fnSealsUptoRow : OpenClaim := { program := "ytmpknfachmfbaaa", sum := "192ab7b41fcaf1bd188ff16e1e91f518581696e9a33002fef701e22d225b0fd4", func := "loop.example/g01035/laws.FnSeals", spec := "fnSeals", unfollowed := true, recurses := true, apart := false, narrowed := true }
def FnSealsUptoSaid : Prop := fnSealsUptoRow.holds Try.pinned (OpenSpec.upto fnSealsSpec)

/-- 'laws.FnDeadlines', WHERE WHAT IT READS IS OF BULK AT MOST 1048576: true; the input reads as it did. -/
def fnDeadlinesUptoRow : OpenClaim := { program := "ytmpknfachmfbaaa", sum := "192ab7b41fcaf1bd188ff16e1e91f518581696e9a33002fef701e22d225b0fd4", func := "loop.example/g01035/laws.FnDeadlines", spec := "fnDeadlines", unfollowed := true, recurses := true, apart := false, narrowed := true }
def FnDeadlinesUptoSaid : Prop := fnDeadlinesUptoRow.holds Try.pinned (OpenSpec.upto fnDeadlinesSpec)

/-- 'laws.FnEvents', WHERE WHAT IT READS IS OF BULK AT MOST 1048576: true; the input reads as it did. -/
def fnEventsUptoRow : OpenClaim := { program := "ytmpknfachmfbaaa", sum := "192ab7b41fcaf1bd188ff16e1e91f518581696e9a33002fef701e22d225b0fd4", func := "loop.example/g01035/laws.FnEvents", spec := "fnEvents", inPlace := ["slices.overlaps[loop.example/g01035/impl.Event]"], unfollowed := true, recurses := true, apart := false, narrowed := true }
def FnEventsUptoSaid : Prop := fnEventsUptoRow.holds Try.pinned (OpenSpec.upto fnEventsSpec)

end Rows
end Go.Proofs.Ytmpknfachmfbaaa
